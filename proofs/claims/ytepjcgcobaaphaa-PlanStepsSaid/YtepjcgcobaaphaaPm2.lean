import Derived.Test.YtepjcgcobaaphaaPl0
import Derived.Test.YtepjcgcobaaphaaPl2
import Derived.Test.YtepjcgcobaaphaaPPax5
namespace Go.Proofs.Ytepjcgcobaaphaa.Pl
set_option linter.unusedVariables false
set_option linter.unusedSimpArgs false
open Go.RowKit Go.Lib Go.Proofs.YtepjcgcobaaphaaW.PrintWords Go.Proofs.YtepjcgcobaaphaaW.PrintLast Go.Proofs.YtepjcgcobaaphaaW.PrintMore Go.Proofs.Ytepjcgcobaaphaa.PPa

/-! ### Which nodes are too much -/
abbrev cF (k : Nat) (x : S36) (a : Int) : Option Int := hindsightlaw23_Count.f k x.f0 x.f1 x.f2.f0 x.f2.f1 x.f2.f2 x.f3 x.f4 x.f5 a
abbrev cL (k : Nat) (x : S36) (n i : Int) : Option Int := hindsightlaw23_Count.l0 k n i x.f0 x.f1 x.f2.f0 x.f2.f1 x.f2.f2 x.f3 x.f4 x.f5
abbrev gF (k : Nat) (x : S36) (a : Int) : Option Bool := hindsightlaw23_Great.f k x.f0 x.f1 x.f2.f0 x.f2.f1 x.f2.f2 x.f3 x.f4 x.f5 a
abbrev gL (k : Nat) (x : S36) (a i : Int) : Option Bool := hindsightlaw23_Great.l0 k a i x.f0 x.f1 x.f2.f0 x.f2.f1 x.f2.f2 x.f3 x.f4 x.f5
theorem cF_up {k : Nat} {x : S36} {a r : Int} (h : cF k x a = some r) (d : Nat) : cF (k + d) x a = some r := by
  induction d with
  | zero => exact h
  | succ d ih => exact (hindsightlaw23_Count.mono_l (k + d)).1 _ _ _ _ _ _ _ _ _ _ ih
theorem cL_up {k : Nat} {x : S36} {n i r : Int} (h : cL k x n i = some r) (d : Nat) : cL (k + d) x n i = some r := by
  induction d with
  | zero => exact h
  | succ d ih => exact (hindsightlaw23_Count.mono_l (k + d)).2 _ _ _ _ _ _ _ _ _ _ _ ih
theorem gF_up {k : Nat} {x : S36} {a : Int} {r : Bool} (h : gF k x a = some r) (d : Nat) : gF (k + d) x a = some r := by
  induction d with
  | zero => exact h
  | succ d ih => exact (hindsightlaw23_Great.mono_l (k + d)).1 _ _ _ _ _ _ _ _ _ _ ih
theorem gL_up {k : Nat} {x : S36} {a i : Int} {r : Bool} (h : gL k x a i = some r) (d : Nat) : gL (k + d) x a i = some r := by
  induction d with
  | zero => exact h
  | succ d ih => exact (hindsightlaw23_Great.mono_l (k + d)).2.2 _ _ _ _ _ _ _ _ _ _ _ ih
theorem w64 (n : Int) (h0 : -9223372036854775808 ≤ n) (h1 : n ≤ 9223372036854775807) : wrap64 n = n := by unfold wrap64; omega
theorem cntL_drop (L : List S36) (i : Nat) (h : i < L.length) : cntL (L.drop i) = cnt (rd_T36 L (i : Int)) + cntL (L.drop (i + 1)) := by
  rw [List.drop_eq_getElem_cons h, cntL]
  congr 2
  unfold rd_T36
  rw [Int.toNat_natCast, List.getD_eq_getElem?_getD, List.getElem?_eq_getElem h]
  rfl
theorem count_loop (x : S36) (IH : ∀ a ∈ x.f5, ∀ n : Int, 0 ≤ n → n < 3000 → ∃ k r, cF k a n = some r ∧ n < r ∧ r ≤ 3000 ∧ (r < 3000 → r = n + cnt a)) (d : Nat) :
    ∀ (i : Nat) (n : Int), x.f5.length - i ≤ d → i ≤ x.f5.length → (i : Int) < n → n ≤ 3000 → ∃ k r, cL k x n i = some r ∧ n ≤ r ∧ r ≤ 3000 ∧ (r < 3000 → r = n + cntL (x.f5.drop i)) := by
  induction d with
  | zero =>
    intro i n hd hi h0 h1
    have : i = x.f5.length := by omega
    subst this
    refine ⟨1, n, ?_, by omega, h1, fun _ => by rw [List.drop_length]; simp [cntL]⟩
    unfold cL hindsightlaw23_Count.l0
    rw [if_neg (by omega)]
  | succ d ih =>
    intro i n hd hi h0 h1
    by_cases hl : i < x.f5.length
    · by_cases hn : n < 3000
      · obtain ⟨k1, r1, e1, p1, q1, s1⟩ := IH (rd_T36 x.f5 i) (rd36_mem x.f5 i hl) n (by omega) hn
        obtain ⟨k2, r2, e2, p2, q2, s2⟩ := ih (i + 1) r1 (by omega) (by omega) (by omega) q1
        refine ⟨k1 + k2 + 1, r2, ?_, by omega, q2, fun h => ?_⟩
        · unfold cL hindsightlaw23_Count.l0
          rw [if_pos (by omega), if_pos hn, if_pos (by omega)]
          have e1' := cF_up e1 k2
          have e2' := cL_up e2 k1
          unfold cF at e1'
          rw [e1', Option.bind_some, w64 _ (by omega) (by omega), show k1 + k2 = k2 + k1 by omega]
          exact e2'
        · rw [cntL_drop _ _ hl]
          have a2 := s2 h
          have a1 := s1 (by omega)
          omega
      · refine ⟨1, n, ?_, by omega, h1, fun h => absurd h hn⟩
        unfold cL hindsightlaw23_Count.l0
        rw [if_pos (by omega), if_neg hn]
    · have : i = x.f5.length := by omega
      subst this
      refine ⟨1, n, ?_, by omega, h1, fun _ => by rw [List.drop_length]; simp [cntL]⟩
      unfold cL hindsightlaw23_Count.l0
      rw [if_neg (by omega)]
theorem count_ex (m : Nat) : ∀ x : S36, cnt x ≤ m → ∀ n : Int, 0 ≤ n → n < 3000 → ∃ k r, cF k x n = some r ∧ n < r ∧ r ≤ 3000 ∧ (r < 3000 → r = n + cnt x) := by
  induction m with
  | zero => intro x h; have := cnt_eq x; omega
  | succ m ih =>
    intro x hx n h0 h1
    obtain ⟨k, r, e, p, q, s⟩ := count_loop x (fun a ha => ih a (by have := cnt_mem ha; omega)) x.f5.length 0 (n + 1) (by omega) (by omega) (by omega) (by omega)
    refine ⟨k + 1, r, ?_, by omega, q, fun h => ?_⟩
    · unfold cF hindsightlaw23_Count.f
      rw [w64 _ (by omega) (by omega)]
      exact e
    · have := s h
      rw [List.drop_zero] at this
      have := cnt_eq x
      omega
theorem great_loop (x : S36) (a : Int) (ha : 0 < a ∧ a ≤ 24) (IH : ∀ y ∈ x.f5, ∃ k b, gF k y (a - 1) = some b) (hl : x.f5.length ≤ 6) (d : Nat) :
    ∀ i : Nat, x.f5.length - i ≤ d → i ≤ x.f5.length → ∃ k b, gL k x a i = some b := by
  induction d with
  | zero =>
    intro i hd hi
    refine ⟨1, false, ?_⟩
    unfold gL hindsightlaw23_Great.l0
    rw [if_neg (by omega)]
  | succ d ih =>
    intro i hd hi
    by_cases hlt : i < x.f5.length
    · obtain ⟨k1, b1, e1⟩ := IH (rd_T36 x.f5 i) (rd36_mem x.f5 i hlt)
      obtain ⟨k2, b2, e2⟩ := ih (i + 1) (by omega) (by omega)
      refine ⟨k1 + k2 + 1, if b1 = true then true else b2, ?_⟩
      unfold gL hindsightlaw23_Great.l0
      rw [if_pos (by omega), if_pos (by omega), w64 (a - 1) (by omega) (by omega)]
      have e1' := gF_up e1 k2
      have e2' := gL_up e2 k1
      unfold gF at e1'
      rw [e1', Option.bind_some]
      cases b1 with
      | true => simp
      | false =>
        rw [if_neg (by decide), if_neg (by decide), w64 _ (by omega) (by omega), show k1 + k2 = k2 + k1 by omega]
        exact e2'
    · refine ⟨1, false, ?_⟩
      unfold gL hindsightlaw23_Great.l0
      rw [if_neg (by omega)]
theorem great_ex (m : Nat) : ∀ (x : S36) (a : Int), a = m → a ≤ 24 → ∃ k b, gF k x a = some b := by
  induction m with
  | zero =>
    intro x a ha _
    subst ha
    refine ⟨2, true, ?_⟩
    unfold gF hindsightlaw23_Great.f hindsightlaw23_Great.j0
    simp
  | succ m ih =>
    intro x a ha h24
    by_cases h1 : x.f5.length ≤ 6
    · obtain ⟨k, b, e⟩ := great_loop x a (by omega) (fun y _ => ih y (a - 1) (by omega) (by omega)) h1 x.f5.length 0 (by omega) (by omega)
      have hne : (a == 0) = false := by rw [beq_eq_false_iff_ne]; omega
      by_cases h2 : (x.f1.size : Int) > 40
      · refine ⟨k + 2, true, ?_⟩
        unfold gF hindsightlaw23_Great.f hindsightlaw23_Great.j0
        rw [if_neg (by omega), if_pos h2, if_pos rfl]
      · by_cases h3 : (x.f2.f2.size : Int) > 200
        · refine ⟨k + 2, true, ?_⟩
          unfold gF hindsightlaw23_Great.f hindsightlaw23_Great.j0
          rw [if_neg (by omega), if_neg h2, if_pos h3, if_pos rfl]
        · refine ⟨k + 2, b, ?_⟩
          unfold gF hindsightlaw23_Great.f hindsightlaw23_Great.j0
          rw [if_neg (by omega), if_neg h2, if_neg h3, hne, if_neg (by decide)]
          exact e
    · refine ⟨2, true, ?_⟩
      unfold gF hindsightlaw23_Great.f hindsightlaw23_Great.j0
      rw [if_pos (by omega), if_pos rfl]
theorem toomuch (x : S36) : ∃ k b, hindsightlaw24_great.f k x.f0 x.f1 x.f2.f0 x.f2.f1 x.f2.f2 x.f3 x.f4 x.f5 = some b ∧ (b = false → cnt x ≤ 200) := by
  obtain ⟨k1, r, e1, p1, q1, s1⟩ := count_ex (cnt x) x (Nat.le_refl _) 0 (by omega) (by omega)
  obtain ⟨k2, b, e2⟩ := great_ex 24 x 24 rfl (by omega)
  have e1' := cF_up e1 k2
  have e2' := gF_up e2 k1
  unfold cF at e1'
  unfold gF at e2'
  by_cases h : r > 200
  · refine ⟨k1 + k2, true, ?_, fun h => by cases h⟩
    unfold hindsightlaw24_great.f
    rw [e1', Option.bind_some, if_pos h]
  · refine ⟨k1 + k2, b, ?_, fun _ => by have := s1 (by omega); omega⟩
    unfold hindsightlaw24_great.f
    rw [e1', Option.bind_some, if_neg h, show k1 + k2 = k2 + k1 by omega, e2', Option.bind_some]
theorem great_walk (x : S36) : ∃ b : Bool, (b = false → cnt x ≤ 200) ∧ ∀ (A : Option Addr) (c : Nat) (w : World), x.f5.length ≤ c → Kd.C k36 w A x.f5.length x.f5 →
    Calls Try.prog 7 #[V36 x A c] w fun e w' => e = .returned (.bool b) ∧ Below w.heap.size w w' := by
  obtain ⟨k, b, h, hb⟩ := toomuch x
  exact ⟨b, hb, fun A c w hc hC => hindsightlaw24_great.calls k _ _ _ _ _ _ _ A c x.f5 b w hC hc h⟩
theorem small_walk (n : Int) (w : World) : Calls Try.prog 6 #[.int .i64 n] w fun e w' => e = .returned (.bool (decide (-10000 < n) && decide (n < 10000))) ∧ Below w.heap.size w w' := by
  refine (hindsightlaw24_small.calls n (decide (-10000 < n) && decide (n < 10000)) w ?_).mono (fun e w' h => ⟨h.1, h.2.below⟩)
  unfold hindsightlaw24_small.f
  by_cases h : n > -10000
  · rw [if_pos h, decide_eq_true (show -10000 < n from h)]; simp
  · rw [if_neg h, decide_eq_false (show ¬ -10000 < n from h)]; simp
end Go.Proofs.Ytepjcgcobaaphaa.Pl
