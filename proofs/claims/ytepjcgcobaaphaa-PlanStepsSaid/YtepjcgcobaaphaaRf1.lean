import Derived.Test.YtepjcgcobaaphaaRf0
import Derived.Test.YtepjcgcobaaphaaPPax6
import Derived.Test.YtepjcgcobaaphaaPPax7
namespace Go.Proofs.Ytepjcgcobaaphaa.Rf
set_option linter.unusedVariables false
set_option linter.unusedSimpArgs false
open Go.RowKit Go.Lib Go.Proofs.YtepjcgcobaaphaaW.PrintWords Go.Proofs.YtepjcgcobaaphaaW.PrintLast Go.Proofs.YtepjcgcobaaphaaW.PrintMore Go.Proofs.Ytepjcgcobaaphaa.PPa

/-! ### The slots of a node, as they are gathered -/
mutual
def cols : S38 → List Int
  | ⟨k, _, _, s, _, l⟩ => (if k = 2 then [s] else []) ++ colsL l
def colsL : List S38 → List Int
  | [] => []
  | a :: t => cols a ++ colsL t
end
theorem cols_eq (x : S38) : cols x = (if x.f0 = 2 then [x.f3] else []) ++ colsL x.f5 := by cases x; rw [cols]
mutual
theorem cols_len : ∀ x : S38, (cols x).length ≤ cnt x
  | ⟨k, _, _, s, _, l⟩ => by
    have := colsL_len l
    rw [cols, cnt, List.length_append]
    split <;> simp <;> omega
theorem colsL_len : ∀ l : List S38, (colsL l).length ≤ cntL l
  | [] => by simp [colsL]
  | a :: t => by
    have h1 := cols_len a
    have h2 := colsL_len t
    rw [colsL, cntL, List.length_append]
    omega
end
theorem colsL_append (a b : List S38) : colsL (a ++ b) = colsL a ++ colsL b := by
  induction a with
  | nil => rfl
  | cons x t ih => rw [List.cons_append, colsL, ih, colsL, List.append_assoc]

theorem w64 (n : Int) (h0 : -9223372036854775808 ≤ n) (h1 : n ≤ 9223372036854775807) : wrap64 n = n := by unfold wrap64; omega
/-! ### low -/
def lowP (x : S38) (first : Int) : Bool := !((cols x).any fun s => decide (first ≤ s))
def lowL (l : List S38) (first : Int) : Bool := !((colsL l).any fun s => decide (first ≤ s))
theorem lowL_cons (a : S38) (t : List S38) (first : Int) : lowL (a :: t) first = (lowP a first && lowL t first) := by
  unfold lowL lowP
  rw [colsL, List.any_append, Bool.not_or]
theorem lowP_eq (x : S38) (first : Int) : lowP x first = (!(decide (x.f0 = 2) && decide (first ≤ x.f3)) && lowL x.f5 first) := by
  unfold lowP lowL
  rw [cols_eq, List.any_append, Bool.not_or]
  by_cases h : x.f0 = 2
  · simp [h]
  · simp [h]
abbrev lF (k : Nat) (x : S38) (a : Int) : Option Bool := hindsightref24_low.f k x.f0 x.f1 x.f2.f0 x.f2.f1 x.f2.f2 x.f3 x.f4 x.f5 a
abbrev lL (k : Nat) (x : S38) (a i : Int) : Option Bool := hindsightref24_low.l0 k a i x.f0 x.f1 x.f2.f0 x.f2.f1 x.f2.f2 x.f3 x.f4 x.f5
theorem lF_up {k : Nat} {x : S38} {a : Int} {r : Bool} (h : lF k x a = some r) (d : Nat) : lF (k + d) x a = some r := by
  induction d with
  | zero => exact h
  | succ d ih => exact (hindsightref24_low.mono_l (k + d)).1 _ _ _ _ _ _ _ _ _ _ ih
theorem lL_up {k : Nat} {x : S38} {a i : Int} {r : Bool} (h : lL k x a i = some r) (d : Nat) : lL (k + d) x a i = some r := by
  induction d with
  | zero => exact h
  | succ d ih => exact (hindsightref24_low.mono_l (k + d)).2.2 _ _ _ _ _ _ _ _ _ _ _ ih
theorem drop38 (L : List S38) (i : Nat) (h : i < L.length) : L.drop i = rd_T38 L (i : Int) :: L.drop (i + 1) := by
  rw [List.drop_eq_getElem_cons h]
  congr 1
  unfold rd_T38
  rw [Int.toNat_natCast, List.getD_eq_getElem?_getD, List.getElem?_eq_getElem h]
  rfl
theorem low_loop (x : S38) (a : Int) (IH : ∀ y ∈ x.f5, ∃ k, lF k y a = some (lowP y a)) (hl : x.f5.length < 9223372036854775807) (d : Nat) :
    ∀ i : Nat, x.f5.length - i ≤ d → i ≤ x.f5.length → ∃ k, lL k x a i = some (lowL (x.f5.drop i) a) := by
  induction d with
  | zero =>
    intro i hd hi
    refine ⟨1, ?_⟩
    have : i = x.f5.length := by omega
    subst this
    unfold lL hindsightref24_low.l0
    rw [if_neg (by omega), List.drop_length]; rfl
  | succ d ih =>
    intro i hd hi
    by_cases hlt : i < x.f5.length
    · obtain ⟨k1, e1⟩ := IH (rd_T38 x.f5 i) (rd36_mem x.f5 i hlt)
      obtain ⟨k2, e2⟩ := ih (i + 1) (by omega) (by omega)
      refine ⟨k1 + k2 + 1, ?_⟩
      unfold lL hindsightref24_low.l0
      rw [if_pos (by omega), if_pos (by omega)]
      have e1' := lF_up e1 k2
      have e2' := lL_up e2 k1
      unfold lF at e1'
      rw [e1', Option.bind_some, drop38 _ _ hlt, lowL_cons]
      cases lowP (rd_T38 x.f5 i) a with
      | false => rfl
      | true =>
        rw [if_pos rfl, w64 _ (by omega) (by omega), show k1 + k2 = k2 + k1 by omega, Bool.true_and]
        exact e2'
    · have : i = x.f5.length := by omega
      subst this
      refine ⟨1, ?_⟩
      unfold lL hindsightref24_low.l0
      rw [if_neg (by omega), List.drop_length]; rfl
theorem low_ex (m : Nat) : ∀ (x : S38) (a : Int), cnt x ≤ m → cnt x ≤ 1000000000000 → ∃ k, lF k x a = some (lowP x a) := by
  induction m with
  | zero => intro x a h; have := cnt_eq x; omega
  | succ m ih =>
    intro x a hx hx2
    obtain ⟨k, e⟩ := low_loop x a (fun y hy => ih y a (by have := cnt_mem hy; omega) (by have := cnt_mem hy; omega)) (by have := len_cntL x.f5; have := cnt_eq x; omega) x.f5.length 0 (by omega) (by omega)
    rw [List.drop_zero] at e
    refine ⟨k + 2, ?_⟩
    unfold lF hindsightref24_low.f hindsightref24_low.j0
    rw [lowP_eq]
    by_cases h2 : x.f0 = 2
    · rw [if_pos h2]
      by_cases h3 : a ≤ x.f3
      · rw [decide_eq_true (show x.f3 ≥ a from h3), if_pos rfl, decide_eq_true h2]; rfl
      · rw [decide_eq_false (show ¬ x.f3 ≥ a from h3), if_neg (by decide), Bool.and_false]
        exact e
    · rw [if_neg h2, if_neg (by decide), decide_eq_false h2]
      exact e
theorem low_walk (x : S38) (A : Option Addr) (c : Nat) (first : Int) (w : World) (hx : cnt x ≤ 1000000000000) (hc : x.f5.length ≤ c) (hC : Kd.C k38 w A x.f5.length x.f5) :
    Calls Try.prog 40 #[V38 x A c, .int .i64 first] w fun e w' => e = .returned (.bool (lowP x first)) ∧ Below w.heap.size w w' := by
  obtain ⟨k, e⟩ := low_ex (cnt x) x first (Nat.le_refl _) hx
  exact hindsightref24_low.calls k _ _ _ _ _ _ _ A c x.f5 first (lowP x first) w hC hc e
/-! ### may -/
def wrongP (n k : Int) : Bool := decide (k < 0) || decide (n ≤ k)
theorem may_loop (a0 n : Int) (l2 l3 : List Int) (b : Bool) (ks : List Int) (hl : ks.length < 9223372036854775807) (d : Nat) :
    ∀ i : Nat, ks.length - i ≤ d → i ≤ ks.length → ∃ k, hindsightref24_may.l0 k ks i a0 n l2 l3 b = some (!((ks.drop i).any (wrongP n))) := by
  induction d with
  | zero =>
    intro i hd hi
    have : i = ks.length := by omega
    subst this
    refine ⟨1, ?_⟩
    unfold hindsightref24_may.l0
    rw [if_neg (by omega), List.drop_length]; rfl
  | succ d ih =>
    intro i hd hi
    by_cases hlt : i < ks.length
    · obtain ⟨k, e⟩ := ih (i + 1) (by omega) (by omega)
      refine ⟨k + 1, ?_⟩
      have hd' : ks.drop i = rd ks (i : Int) :: ks.drop (i + 1) := by
        rw [List.drop_eq_getElem_cons hlt]
        congr 1
        unfold rd
        rw [Int.toNat_natCast, List.getD_eq_getElem?_getD, List.getElem?_eq_getElem hlt]
        rfl
      unfold hindsightref24_may.l0
      rw [if_pos (by omega), if_pos (by omega), hd', List.any_cons]
      by_cases h1 : rd ks (i : Int) < 0
      · rw [if_pos h1]
        unfold wrongP
        rw [decide_eq_true h1]; rfl
      · rw [if_neg h1]
        by_cases h2 : rd ks (i : Int) ≥ n
        · rw [if_pos h2]
          unfold wrongP
          rw [decide_eq_true (show n ≤ rd ks (i : Int) from h2), Bool.or_true]; rfl
        · rw [if_neg h2, w64 _ (by omega) (by omega)]
          have : wrongP n (rd ks (i : Int)) = false := by unfold wrongP; rw [decide_eq_false h1, decide_eq_false h2]; rfl
          rw [this, Bool.false_or]
          exact e
    · have : i = ks.length := by omega
      subst this
      refine ⟨1, ?_⟩
      unfold hindsightref24_may.l0
      rw [if_neg (by omega), List.drop_length]; rfl
end Go.Proofs.Ytepjcgcobaaphaa.Rf
