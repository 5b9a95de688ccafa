import Derived.Test.YtoclbmepgeelmaaDoorPRax1
import Derived.Lib.ValidLaws
namespace Go.Proofs.YtoclbmepgeelmaaDoor.Utf
set_option linter.unusedVariables false
set_option linter.unusedSimpArgs false
open Go.RowKit Go.Lib Go.Proofs.YtoclbmepgeelmaaDoorW.PrintWords Go.Proofs.YtoclbmepgeelmaaDoor.PRa

/-- What a range over a text yields. -/
def runesGo : Nat → List UInt8 → List Int
  | 0, _ => []
  | n + 1, l => if l = [] then [] else ((decodeL l).1 : Int) :: runesGo n (l.drop (decodeL l).2)
def runesOf (l : List UInt8) : List Int := runesGo l.length l

theorem runesGo_nil : ∀ n, runesGo n [] = []
  | 0 => rfl
  | _ + 1 => by simp [runesGo]
theorem runesGo_fuel : ∀ (n m : Nat) (l : List UInt8), l.length ≤ n → l.length ≤ m → runesGo n l = runesGo m l
  | 0, m, l, hn, _ => by
    have : l = [] := List.eq_nil_of_length_eq_zero (by omega)
    subst this
    rw [runesGo_nil, runesGo_nil]
  | n + 1, 0, l, _, hm => by
    have : l = [] := List.eq_nil_of_length_eq_zero (by omega)
    subst this
    rw [runesGo_nil, runesGo_nil]
  | n + 1, m + 1, l, hn, hm => by
    unfold runesGo
    by_cases hne : l = []
    · simp [hne]
    · have hw := decodeL_width l
      have hl : 0 < l.length := List.length_pos_iff.2 hne
      rw [if_neg hne, if_neg hne, runesGo_fuel n m (l.drop (decodeL l).2) (by rw [List.length_drop]; omega) (by rw [List.length_drop]; omega)]
theorem runesOf_nil : runesOf [] = [] := rfl
theorem runesOf_step (l : List UInt8) (hne : l ≠ []) : runesOf l = ((decodeL l).1 : Int) :: runesOf (l.drop (decodeL l).2) := by
  have hl : 0 < l.length := List.length_pos_iff.2 hne
  have hw := decodeL_width l
  obtain ⟨n, hn⟩ : ∃ n, l.length = n + 1 := ⟨l.length - 1, by omega⟩
  unfold runesOf
  rw [hn]
  show (if l = [] then [] else _) = _
  rw [if_neg hne, runesGo_fuel n (l.drop (decodeL l).2).length _ (by rw [List.length_drop]; omega) (Nat.le_refl _)]
theorem runesGo_length : ∀ (n : Nat) (l : List UInt8), (runesGo n l).length ≤ n
  | 0, _ => by simp [runesGo]
  | n + 1, l => by
    unfold runesGo
    split
    · simp
    · have := runesGo_length n (l.drop (decodeL l).2)
      simp; omega
theorem runesOf_length (l : List UInt8) : (runesOf l).length ≤ l.length := runesGo_length _ _
theorem runesGo_range : ∀ (n : Nat) (l : List UInt8), ∀ x ∈ runesGo n l, 0 ≤ x ∧ x ≤ 1114111
  | 0, _ => by simp [runesGo]
  | n + 1, l => by
    unfold runesGo
    split
    · simp
    · intro x hx
      rcases List.mem_cons.1 hx with rfl | hx
      · have := decodeL_rune l; omega
      · exact runesGo_range n _ x hx
theorem runesOf_range (l : List UInt8) : ∀ x ∈ runesOf l, 0 ≤ x ∧ x ≤ 1114111 := runesGo_range _ _

theorem wrap64_id {n : Int} (h0 : -9223372036854775808 ≤ n) (h1 : n ≤ 9223372036854775807) : wrap64 n = n := by unfold wrap64; omega

/-! ### point -/
section
variable {s : ByteArray} {k : Nat} {i sz v least j : Int}
theorem l0_end (h : ¬ j < sz) : hindsightref05_point.l0 (k + 1) s i sz v least j = some (if v < least ∨ v > 1114111 ∨ (v ≥ 55296 ∧ v ≤ 57343) then (0, 0) else (v, sz)) := by
  simp only [hindsightref05_point.l0]
  rw [if_neg h]
  repeat' split
  all_goals first | rfl | (exfalso; omega)
theorem l0_step (h : j < sz) (h0 : 0 ≤ i + j) (h1 : i + j < (s.size : Int)) (hs : (s.size : Int) ≤ 9223372036854775807) (hv0 : 0 ≤ v) (hv1 : v ≤ 10000000) (hj0 : 0 ≤ j) (hj : j ≤ 4) :
    hindsightref05_point.l0 (k + 1) s i sz v least j = if bt s (i + j) < 128 ∨ bt s (i + j) ≥ 192 then some (0, 0) else hindsightref05_point.l0 k s i sz (64 * v + bt s (i + j) - 128) least (j + 1) := by
  have hb := bt_range s (i + j)
  simp only [hindsightref05_point.l0]
  rw [if_pos h, wrap64_id (n := i + j) (by omega) (by omega), if_pos h0, if_pos h1, wrap64_id (n := bt s (i + j)) (by omega) (by omega), wrap64_id (n := j + 1) (by omega) (by omega),
    wrap64_id (n := 64 * v) (by omega) (by omega), wrap64_id (n := 64 * v + bt s (i + j)) (by omega) (by omega), wrap64_id (n := 64 * v + bt s (i + j) - 128) (by omega) (by omega)]
  repeat' split
  all_goals first | rfl | (exfalso; omega)
end

/-- What 'point' tells of the text from a place on. -/
def pointL (l : List UInt8) : Int × Int := if (decodeL l).1 = 65533 ∧ (decodeL l).2 = 1 then (0, 0) else ((decodeL l).1, (decodeL l).2)

theorem getD_drop (s : ByteArray) (i j : Nat) (h : i + j < s.size) : (((s.data.toList.drop i).getD j 0).toNat : Int) = bt s ((i : Int) + (j : Int)) := by
  have e : ((i : Int) + (j : Int)).toNat = i + j := by omega
  unfold bt
  rw [dif_pos (by rw [e]; exact h)]
  have hl : i + j < s.data.toList.length := by simpa using h
  simp only [List.getD_eq_getElem?_getD, List.getElem?_drop, e]
  rw [List.getElem?_eq_getElem hl]
  simp
  rfl

set_option maxHeartbeats 4000000 in
theorem point_f (s : ByteArray) (i : Nat) (hi : i < s.size) (hs : (s.size : Int) ≤ 9223372036854775807) : hindsightref05_point.f 20 s (i : Int) = some (pointL (s.data.toList.drop i)) := by
  have hn : (s.data.toList.drop i).length = s.size - i := by simp
  obtain ⟨b0, hb0⟩ : ∃ b, bt s (i : Int) = b := ⟨_, rfl⟩
  have r0 := bt_range s (i : Int)
  have e0 : (((s.data.toList.drop i).getD 0 0).toNat : Int) = b0 := by rw [getD_drop s i 0 (by omega)]; simpa using hb0
  have dN := decodeL_N (s.data.toList.drop i)
  rw [hn] at dN
  obtain ⟨n0, g0⟩ : ∃ n, ((s.data.toList.drop i).getD 0 0).toNat = n := ⟨_, rfl⟩
  obtain ⟨n1, g1⟩ : ∃ n, ((s.data.toList.drop i).getD 1 0).toNat = n := ⟨_, rfl⟩
  obtain ⟨n2, g2⟩ : ∃ n, ((s.data.toList.drop i).getD 2 0).toNat = n := ⟨_, rfl⟩
  obtain ⟨n3, g3⟩ : ∃ n, ((s.data.toList.drop i).getD 3 0).toNat = n := ⟨_, rfl⟩
  have q1 : i + 1 < s.size → bt s ((i : Int) + 1) = (n1 : Int) := fun h => by rw [← g1]; exact (getD_drop s i 1 h).symm
  have q2 : i + 2 < s.size → bt s ((i : Int) + 2) = (n2 : Int) := fun h => by rw [← g2]; exact (getD_drop s i 2 h).symm
  have q3 : i + 3 < s.size → bt s ((i : Int) + 3) = (n3 : Int) := fun h => by rw [← g3]; exact (getD_drop s i 3 h).symm
  rw [g0] at e0
  rw [g0, g1, g2, g3] at dN
  have m1 : n1 < 256 := g1 ▸ UInt8.toNat_lt _
  have m2 : n2 < 256 := g2 ▸ UInt8.toNat_lt _
  have m3 : n3 < 256 := g3 ▸ UInt8.toNat_lt _
  unfold pointL
  rw [dN]
  rw [hb0] at r0
  clear dN g0 g1 g2 g3
  obtain ⟨p, hp⟩ : ∃ p, s.size - i = p := ⟨_, rfl⟩
  have w0 : wrap64 b0 = b0 := wrap64_id (by omega) (by omega)
  have wl : wrap64 ((s.size : Int) - i) = (p : Int) := by rw [wrap64_id (by omega) (by omega)]; omega
  rw [hp]
  simp only [hindsightref05_point.f]
  rw [if_pos (by omega), if_pos (by omega), hb0, w0]
  by_cases c0 : b0 < 128
  · rw [if_pos c0]
    have : decodeN p n0 n1 n2 n3 = (n0, 1) := by unfold decodeN; rw [if_pos (by omega)]
    rw [this]
    simp only [and_true]
    rw [if_neg (by omega)]
    simp [e0]
  rw [if_neg c0]
  have bad : ∀ {a b c : Nat}, decodeN p n0 n1 n2 n3 = (65533, 1) → some ((0 : Int), (0 : Int)) = some (if (decodeN p n0 n1 n2 n3).1 = 65533 ∧ (decodeN p n0 n1 n2 n3).2 = 1 then ((0 : Int), (0 : Int)) else (((decodeN p n0 n1 n2 n3).1 : Int), ((decodeN p n0 n1 n2 n3).2 : Int))) := fun h => by rw [h]; simp
  by_cases c1 : b0 < 192
  · rw [if_neg (by omega)]
    rw [hindsightref05_point.j0, if_neg (by simp), if_neg (by omega), hindsightref05_point.j1, if_neg (by simp), if_neg (by omega)]
    refine bad (a := 0) (b := 0) (c := 0) ?_
    unfold decodeN
    repeat' split
    all_goals first | rfl | (exfalso; omega)
  rw [if_pos (by omega)]
  rw [hindsightref05_point.j0]
  by_cases c2 : b0 < 224
  · rw [if_pos (by simpa using c2), hindsightref05_point.j2, wl, wrap64_id (n := b0 - 192) (by omega) (by omega)]
    by_cases l2 : (p : Int) < 2
    · rw [if_pos l2]
      refine bad (a := 0) (b := 0) (c := 0) ?_
      unfold decodeN
      repeat' split
      all_goals first | rfl | (exfalso; omega)
    rw [if_neg l2, l0_step (by omega) (by omega) (by omega) hs (by omega) (by omega) (by omega) (by omega), q1 (by omega)]
    by_cases x1 : (n1 : Int) < 128 ∨ (n1 : Int) ≥ 192
    · rw [if_pos x1]
      refine bad (a := 0) (b := 0) (c := 0) ?_
      unfold decodeN
      repeat' split
      all_goals first | rfl | (exfalso; omega)
    rw [if_neg x1, l0_end (by omega)]
    refine congrArg some ?_
    have E : decodeN p n0 n1 n2 n3 = if n0 % 32 * 64 + n1 % 64 ≥ 128 then (n0 % 32 * 64 + n1 % 64, 2) else (65533, 1) := by unfold decodeN; rw [if_neg (by omega), if_pos (by omega)]
    obtain ⟨V, hV⟩ : ∃ V, n0 % 32 * 64 + n1 % 64 = V := ⟨_, rfl⟩
    have hW : 64 * (b0 - 192) + (n1 : Int) - 128 = (V : Int) := by omega
    rw [E, hW, hV]
    by_cases g : V ≥ 128
    · rw [if_neg (by omega), if_pos g, if_neg (by simp)]; rfl
    · rw [if_pos (by omega), if_neg g, if_pos ⟨rfl, rfl⟩]
  rw [if_neg (by simpa using c2)]
  by_cases c3 : b0 < 240
  · rw [if_pos (by omega), hindsightref05_point.j1, if_pos (by simpa using c3), hindsightref05_point.j2, wl, wrap64_id (n := b0 - 224) (by omega) (by omega)]
    by_cases l2 : (p : Int) < 3
    · rw [if_pos l2]
      refine bad (a := 0) (b := 0) (c := 0) ?_
      unfold decodeN
      repeat' split
      all_goals first | rfl | (exfalso; omega)
    rw [if_neg l2, l0_step (by omega) (by omega) (by omega) hs (by omega) (by omega) (by omega) (by omega), q1 (by omega)]
    by_cases x1 : (n1 : Int) < 128 ∨ (n1 : Int) ≥ 192
    · rw [if_pos x1]
      refine bad (a := 0) (b := 0) (c := 0) ?_
      unfold decodeN
      repeat' split
      all_goals first | rfl | (exfalso; omega)
    rw [if_neg x1, l0_step (by omega) (by omega) (by omega) hs (by omega) (by omega) (by omega) (by omega), show (i : Int) + (1 + 1) = i + 2 by omega, q2 (by omega)]
    by_cases x2 : (n2 : Int) < 128 ∨ (n2 : Int) ≥ 192
    · rw [if_pos x2]
      refine bad (a := 0) (b := 0) (c := 0) ?_
      unfold decodeN
      repeat' split
      all_goals first | rfl | (exfalso; omega)
    rw [if_neg x2, l0_end (by omega)]
    refine congrArg some ?_
    have E : decodeN p n0 n1 n2 n3 = if n0 % 16 * 4096 + n1 % 64 * 64 + n2 % 64 ≥ 2048 ∧ (n0 % 16 * 4096 + n1 % 64 * 64 + n2 % 64 < 55296 ∨ (57344 ≤ n0 % 16 * 4096 + n1 % 64 * 64 + n2 % 64 ∧ n0 % 16 * 4096 + n1 % 64 * 64 + n2 % 64 ≤ 1114111)) then (n0 % 16 * 4096 + n1 % 64 * 64 + n2 % 64, 3) else (65533, 1) := by unfold decodeN; rw [if_neg (by omega), if_neg (by omega), if_pos (by omega)]
    obtain ⟨V, hV⟩ : ∃ V, n0 % 16 * 4096 + n1 % 64 * 64 + n2 % 64 = V := ⟨_, rfl⟩
    have hW : 64 * (64 * (b0 - 224) + (n1 : Int) - 128) + (n2 : Int) - 128 = (V : Int) := by omega
    rw [E, hW, hV]
    by_cases g : V ≥ 2048 ∧ (V < 55296 ∨ (57344 ≤ V ∧ V ≤ 1114111))
    · rw [if_neg (by omega), if_pos g, if_neg (by simp)]; rfl
    · rw [if_pos (by omega), if_neg g, if_pos ⟨rfl, rfl⟩]
  rw [if_pos (by omega), hindsightref05_point.j1, if_neg (by simpa using c3), if_pos (by omega)]
  by_cases c4 : b0 < 248
  · rw [if_pos c4, hindsightref05_point.j2, wl, wrap64_id (n := b0 - 240) (by omega) (by omega)]
    by_cases l2 : (p : Int) < 4
    · rw [if_pos l2]
      refine bad (a := 0) (b := 0) (c := 0) ?_
      unfold decodeN
      repeat' split
      all_goals first | rfl | (exfalso; omega)
    rw [if_neg l2, l0_step (by omega) (by omega) (by omega) hs (by omega) (by omega) (by omega) (by omega), q1 (by omega)]
    by_cases x1 : (n1 : Int) < 128 ∨ (n1 : Int) ≥ 192
    · rw [if_pos x1]
      refine bad (a := 0) (b := 0) (c := 0) ?_
      unfold decodeN
      repeat' split
      all_goals first | rfl | (exfalso; omega)
    rw [if_neg x1, l0_step (by omega) (by omega) (by omega) hs (by omega) (by omega) (by omega) (by omega), show (i : Int) + (1 + 1) = i + 2 by omega, q2 (by omega)]
    by_cases x2 : (n2 : Int) < 128 ∨ (n2 : Int) ≥ 192
    · rw [if_pos x2]
      refine bad (a := 0) (b := 0) (c := 0) ?_
      unfold decodeN
      repeat' split
      all_goals first | rfl | (exfalso; omega)
    rw [if_neg x2, l0_step (by omega) (by omega) (by omega) hs (by omega) (by omega) (by omega) (by omega), show (i : Int) + (1 + 1 + 1) = i + 3 by omega, q3 (by omega)]
    by_cases x3 : (n3 : Int) < 128 ∨ (n3 : Int) ≥ 192
    · rw [if_pos x3]
      refine bad (a := 0) (b := 0) (c := 0) ?_
      unfold decodeN
      repeat' split
      all_goals first | rfl | (exfalso; omega)
    rw [if_neg x3, l0_end (by omega)]
    refine congrArg some ?_
    have E : decodeN p n0 n1 n2 n3 = if n0 % 8 * 262144 + n1 % 64 * 4096 + n2 % 64 * 64 + n3 % 64 ≥ 65536 ∧ (n0 % 8 * 262144 + n1 % 64 * 4096 + n2 % 64 * 64 + n3 % 64 < 55296 ∨ (57344 ≤ n0 % 8 * 262144 + n1 % 64 * 4096 + n2 % 64 * 64 + n3 % 64 ∧ n0 % 8 * 262144 + n1 % 64 * 4096 + n2 % 64 * 64 + n3 % 64 ≤ 1114111)) then (n0 % 8 * 262144 + n1 % 64 * 4096 + n2 % 64 * 64 + n3 % 64, 4) else (65533, 1) := by unfold decodeN; rw [if_neg (by omega), if_neg (by omega), if_neg (by omega), if_pos (by omega)]
    obtain ⟨V, hV⟩ : ∃ V, n0 % 8 * 262144 + n1 % 64 * 4096 + n2 % 64 * 64 + n3 % 64 = V := ⟨_, rfl⟩
    have hW : 64 * (64 * (64 * (b0 - 240) + (n1 : Int) - 128) + (n2 : Int) - 128) + (n3 : Int) - 128 = (V : Int) := by omega
    rw [E, hW, hV]
    by_cases g : V ≥ 65536 ∧ (V < 55296 ∨ (57344 ≤ V ∧ V ≤ 1114111))
    · rw [if_neg (by omega), if_pos g, if_neg (by simp)]; rfl
    · rw [if_pos (by omega), if_neg g, if_pos ⟨rfl, rfl⟩]
  · rw [if_neg c4]
    refine bad (a := 0) (b := 0) (c := 0) ?_
    unfold decodeN
    repeat' split
    all_goals first | rfl | (exfalso; omega)

theorem up {α : Type} {f : Nat → Option α} (h : ∀ k, LeO (f k) (f (k + 1))) {r : α} : ∀ {k k' : Nat}, k ≤ k' → f k = some r → f k' = some r := by
  intro k k' hk hr
  obtain ⟨d, rfl⟩ : ∃ d, k' = k + d := ⟨k' - k, by omega⟩
  clear hk
  induction d with
  | zero => exact hr
  | succ d ih => exact h _ _ ih
theorem point_up (s : ByteArray) (i : Nat) (hi : i < s.size) (hs : (s.size : Int) ≤ 9223372036854775807) (k : Nat) (hk : 20 ≤ k) : hindsightref05_point.f k s (i : Int) = some (pointL (s.data.toList.drop i)) :=
  up (f := fun k => hindsightref05_point.f k s (i : Int)) (hindsightref05_point.mono s (i : Int)) hk (point_f s i hi hs)

theorem split_l0 (s : ByteArray) (hs : (s.size : Int) ≤ 17592186044415) : ∀ (n : Nat) (i : Nat) (xs : List Int) (k : Nat), s.size - i ≤ n → i ≤ s.size → n + 21 ≤ k → xs.length ≤ i →
    hindsightref05_Split.l0 k s xs (i : Int) = some (if validD (s.data.toList.drop i) then (xs ++ runesOf (s.data.toList.drop i), true) else ([], false)) := by
  intro n
  induction n with
  | zero =>
    intro i xs k hn hi hk hx
    obtain ⟨k, rfl⟩ : ∃ k', k = k' + 1 := ⟨k - 1, by omega⟩
    have e : s.data.toList.drop i = [] := List.drop_eq_nil_of_le (by simp; omega)
    rw [e]
    simp only [hindsightref05_Split.l0]
    rw [if_neg (by omega)]
    simp [validD_nil, runesOf_nil]
  | succ n ih =>
    intro i xs k hn hi hk hx
    obtain ⟨k, rfl⟩ : ∃ k', k = k' + 1 := ⟨k - 1, by omega⟩
    by_cases hlt : i < s.size
    · have hne : s.data.toList.drop i ≠ [] := by
        intro h
        have := congrArg List.length h
        simp at this
        omega
      have hw := decodeL_width (s.data.toList.drop i)
      have hl := decodeL_le (s.data.toList.drop i) hne
      simp only [List.length_drop, Array.length_toList] at hl
      have hl' : (decodeL (s.data.toList.drop i)).2 ≤ s.size - i := hl
      simp only [hindsightref05_Split.l0]
      rw [if_pos (by omega), point_up s i hlt (by omega) k (by omega), Option.bind_some, validD_step _ hne]
      unfold pointL
      by_cases hb : (decodeL (s.data.toList.drop i)).1 = 65533 ∧ (decodeL (s.data.toList.drop i)).2 = 1
      · rw [if_pos hb, if_pos hb]
        simp
      · rw [if_neg hb, if_neg hb]
        simp only []
        rw [if_neg (by omega), if_pos (by omega), wrap64_id (by omega) (by omega), show (i : Int) + ((decodeL (s.data.toList.drop i)).2 : Int) = ((i + (decodeL (s.data.toList.drop i)).2 : Nat) : Int) by omega]
        rw [ih (i + (decodeL (s.data.toList.drop i)).2) (xs ++ [((decodeL (s.data.toList.drop i)).1 : Int)]) k (by omega) (by omega) (by omega) (by simp; omega), runesOf_step _ hne]
        simp only [List.drop_drop, List.append_assoc, List.singleton_append]
    · have e : s.data.toList.drop i = [] := List.drop_eq_nil_of_le (by simp; omega)
      rw [e]
      simp only [hindsightref05_Split.l0]
      rw [if_neg (by omega)]
      simp [validD_nil, runesOf_nil]
/-- The document's Split. -/
theorem split_f (s : ByteArray) (hs : (s.size : Int) ≤ 17592186044415) : hindsightref05_Split.f (s.size + 21) s = some (if validD s.data.toList then (runesOf s.data.toList, true) else ([], false)) := by
  have := split_l0 s hs s.size 0 [] (s.size + 21) (by omega) (by omega) (by omega) (by simp)
  unfold hindsightref05_Split.f
  simpa using this
end Go.Proofs.YtoclbmepgeelmaaDoor.Utf
