import Derived.Test.YtoclbmepgeelmaaDoorCnt
namespace Go.Proofs.YtoclbmepgeelmaaDoor.Utf
set_option linter.unusedVariables false
set_option linter.unusedSimpArgs false
open Go.RowKit Go.Lib Go.Proofs.YtoclbmepgeelmaaDoorW.PrintWords Go.Proofs.YtoclbmepgeelmaaDoorW.PrintLast Go.Proofs.YtoclbmepgeelmaaDoorW.PrintMore

/-- A quote twice. -/
def dbl (l : List UInt8) : List UInt8 := l.flatMap fun b => if b = 39 then [39, 39] else [b]
theorem index_hit (t : List UInt8) : index (39 :: t) [39] = 0 := by simp [index]
theorem index_miss {b : UInt8} (hb : b ≠ 39) (t : List UInt8) : index (b :: t) [39] = if index t [39] == -1 then -1 else index t [39] + 1 := by
  have : ([39] : List UInt8).isPrefixOf (b :: t) = false := by
    simp only [List.isPrefixOf, Bool.and_true]
    simpa using fun h => hb h.symm
  rw [index, this]; rfl
theorem index_none : ∀ t : List UInt8, (∀ b ∈ t, b ≠ 39) → index t [39] = -1
  | [], _ => rfl
  | b :: t, h => by
    rw [index_miss (h b (by simp)), index_none t (fun x hx => h x (by simp [hx]))]; rfl
theorem replaceK_miss {b : UInt8} (hb : b ≠ 39) (k : Nat) (t : List UInt8) : replaceK [39] [39, 39] k (b :: t) = b :: replaceK [39] [39, 39] k t := by
  cases k with
  | zero => rfl
  | succ k =>
    rw [replaceK, replaceK, index_miss hb]
    have hg := index_ge t [39]
    by_cases h : index t [39] = -1
    · simp [h]
    · have h1 : (index t [39] == -1) = false := by simpa using h
      have h2 : (index t [39] + 1 == -1) = false := by simp; omega
      have h3 : (index t [39] + 1).toNat = (index t [39]).toNat + 1 := by omega
      simp only [h1, Bool.false_eq_true, ↓reduceIte, h2, h3, List.take_succ_cons, List.length_singleton, List.cons_append]
      rw [show (index t [39]).toNat + 1 + 1 = ((index t [39]).toNat + 1) + 1 from rfl, List.drop_succ_cons]
theorem replaceK_dbl : ∀ (t : List UInt8) (k : Nat), t.count 39 ≤ k → replaceK [39] [39, 39] k t = dbl t
  | [], k, _ => by
    cases k with
    | zero => rfl
    | succ k => simp [replaceK, index, dbl]
  | b :: t, k, h => by
    by_cases hb : b = 39
    · subst hb
      rw [List.count_cons_self] at h
      obtain ⟨k, rfl⟩ : ∃ q, k = q + 1 := ⟨k - 1, by omega⟩
      rw [replaceK, index_hit]
      have := replaceK_dbl t k (by omega)
      simp only [show ((0 : Int) == -1) = false by decide, Bool.false_eq_true, ↓reduceIte, Int.toNat_zero, List.take_zero, List.nil_append, List.length_singleton, Nat.zero_add, List.drop_succ_cons, List.drop_zero, this]
      simp [dbl]
    · rw [replaceK_miss hb, replaceK_dbl t k (by rw [List.count_cons_of_ne (by simpa using hb)] at h; exact h)]
      simp [dbl, hb]
theorem replaceAll_dbl (l : List UInt8) : replaceAll l [39] [39, 39] = dbl l := by
  unfold replaceAll replace replaceNum
  rw [if_neg (by decide), if_pos (.inl (by omega)), count_one]
  exact replaceK_dbl l _ (Nat.le_refl _)
theorem dbl_length (l : List UInt8) : (dbl l).length = l.length + l.count 39 := by
  induction l with
  | nil => rfl
  | cons b t ih =>
    by_cases hb : b = 39
    · subst hb
      have : dbl (39 :: t) = [39, 39] ++ dbl t := rfl
      rw [this, List.length_append, ih, List.count_cons_self]; simp; omega
    · have : dbl (b :: t) = [b] ++ dbl t := by simp [dbl, hb]
      rw [this, List.length_append, ih, List.count_cons_of_ne (by simpa using hb)]; simp; omega
/-- A text, quoted. -/
def quoteS (s : ByteArray) : ByteArray := ⟨(39 :: (dbl s.data.toList ++ [39])).toArray⟩

/-- What the world must hold: the tables of unicode/utf8, the powers of ten, and an integer in bytealg.MaxLen. -/
def Tabs5 (w : World) : Prop := Tabs w ∧ TabIs Tryd.prog w "internal/strconv.uint64pow10" .u64 Lib.pow10Tab ∧ ∃ m, w.cell? ⟨3, 0, none⟩ = some (.int .i64 m)
theorem gPow : Tryd.prog.globalNamed "internal/strconv.uint64pow10" = some 2 := by kernel_rfl
theorem Tabs5.below {w w' : World} (h : Tabs5 w) (hb : Below w.heap.size w w') : Tabs5 w' := by
  obtain ⟨h1, h2, m, h3⟩ := h
  refine ⟨h1.below hb, ?_, m, below_cellT hb h3⟩
  have hg : 2 < w.heap.size := by
    have := h2.cell gPow 0 (by decide)
    exact cell_lt this
  exact var?_below hb gPow hg h2

set_option maxHeartbeats 4000000 in
set_option maxRecDepth 100000 in
theorem quote_walk (s : ByteArray) (w : World) (hs : s.size ≤ 1000000) (hT : Tabs5 w) :
    Calls Tryd.prog 43 #[.string s] w fun e w' => e = .returned (.string (quoteS s)) ∧ Below w.heap.size w w' := by
  obtain ⟨_, _, m, hm⟩ := hT
  have hcb : Lib.countB s { data := #[39] } = s.data.toList.count 39 := count_one 39 s.data.toList
  have hct : s.data.toList.count 39 ≤ s.size := by
    have := List.count_le_length (a := (39 : UInt8)) (l := s.data.toList)
    simpa using this
  have cR := Tryd.strings_ReplaceAll s { data := #[39] } { data := #[39, 39] } m w (by omega) hm (by decide) (by rw [hcb]; show s.size + s.data.toList.count 39 * 2 ≤ _; omega)
  rw [show ({ data := #[39] } : ByteArray).data.toList = [39] from rfl, show ({ data := #[39, 39] } : ByteArray).data.toList = [39, 39] from rfl, replaceAll_dbl] at cR
  obtain ⟨D, hD⟩ : ∃ D : ByteArray, (⟨(dbl s.data.toList).toArray⟩ : ByteArray) = D := ⟨_, rfl⟩
  have hQ : quoteS s = ({ data := #[39] } : ByteArray) ++ D ++ { data := #[39] } := by
    apply ByteArray.ext
    rw [ByteArray.data_append, ByteArray.data_append, ← hD]
    apply Array.toList_inj.1
    simp [quoteS]
  have hsz : D.size ≤ 2000000 := by
    have hd : D.size = (dbl s.data.toList).length := by rw [← hD]; simp [ByteArray.size]
    have hl : s.data.toList.length = s.size := by simp
    rw [hd, dbl_length]
    omega
  rw [hD] at cR
  rw [hQ]
  have n1 : 1 + D.size ≤ 9223372036854775807 := by omega
  have n2 : 1 + D.size + 1 ≤ 9223372036854775807 := by omega
  clear hQ hD hcb hct hm
  go_enter Tryd.func43, Tryd.ntmps43
  go_wp2_with (go_at_call 63; refine cR.mono ?_; rintro e w1 ⟨rfl, hb⟩; clear cR)
  go_ret
  exact ⟨rfl, hb⟩

set_option maxHeartbeats 4000000 in
set_option maxRecDepth 100000 in
theorem digits_walk (n : Int) (w : World) (h0 : -9223372036854775808 ≤ n) (h1 : n ≤ 9223372036854775807) (hT : Tabs5 w) :
    Calls Tryd.prog 45 #[.int .i64 n] w fun e w' => e = .returned (.string ⟨(Lib.itoa n).toArray⟩) ∧ Below w.heap.size w w' := by
  have cF := Tryd.strconv_FormatInt_10 n h0 h1 w hT.2.1
  go_enter Tryd.func45, Tryd.ntmps45
  go_wp2_with (go_at_call 64; refine cF.mono ?_; rintro e w1 ⟨rfl, ⟨k, os, rfl⟩⟩; clear cF)
  go_ret
  exact ⟨rfl, below_grow _ _ (Nat.le_refl _) _ _⟩
end Go.Proofs.YtoclbmepgeelmaaDoor.Utf
