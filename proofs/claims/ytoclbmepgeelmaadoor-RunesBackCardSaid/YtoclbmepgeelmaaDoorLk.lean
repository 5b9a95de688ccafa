import Derived.Test.YtoclbmepgeelmaaDoorUtf
import Derived.Test.YtoclbmepgeelmaaDoorPRax3
namespace Go.Proofs.YtoclbmepgeelmaaDoor.Utf
set_option linter.unusedVariables false
set_option linter.unusedSimpArgs false
open Go.RowKit Go.Lib Go.Proofs.YtoclbmepgeelmaaDoorW.PrintWords Go.Proofs.YtoclbmepgeelmaaDoor.PRa

/-! ### a text is as a pattern -/
def star (f : List Int → Bool) : List Int → Bool
  | [] => f []
  | c :: t => f (c :: t) || star f t
def like : List Int → List Int → Bool
  | [], s => s.isEmpty
  | x :: p, s => if x = 37 then star (like p) s else match s with
    | [] => false
    | c :: t => (x == 95 || x == c) && like p t
inductive Lk : List Int → List Int → Prop
  | nil : Lk [] []
  | one {x c : Int} {p s : List Int} : Lk p s → x ≠ 37 → (x = 95 ∨ x = c) → Lk (x :: p) (c :: s)
  | none {p s : List Int} : Lk p s → Lk (37 :: p) s
  | more {c : Int} {p s : List Int} : Lk (37 :: p) s → Lk (37 :: p) (c :: s)

theorem Lk.of_star {p : List Int} (ih : ∀ s, like p s = true → Lk p s) : ∀ s, star (like p) s = true → Lk (37 :: p) s
  | [], h => .none (ih _ h)
  | c :: t, h => by
    simp only [star, Bool.or_eq_true] at h
    rcases h with h | h
    · exact .none (ih _ h)
    · exact .more (Lk.of_star ih t h)
theorem Lk.of_like : ∀ (p s : List Int), like p s = true → Lk p s
  | [], s, h => by
    simp only [like, List.isEmpty_iff] at h
    subst h; exact .nil
  | x :: p, s, h => by
    simp only [like] at h
    split at h
    · rename_i hx; subst hx; exact Lk.of_star (Lk.of_like p) s h
    · rename_i hx
      split at h
      · cases h
      · simp only [Bool.and_eq_true, Bool.or_eq_true, beq_iff_eq] at h
        exact .one (Lk.of_like p _ h.2) hx h.1
theorem star_of (f : List Int → Bool) (s : List Int) (h : f s = true) : star f s = true := by
  cases s <;> simp [star, h]
theorem Lk.like {p s : List Int} (h : Lk p s) : like p s = true := by
  induction h with
  | nil => rfl
  | one _ hx hc ih => simp [Utf.like, hx, hc, ih]
  | none _ ih => simpa [Utf.like] using star_of _ _ ih
  | more _ ih =>
    simp only [Utf.like, ↓reduceIte] at ih ⊢
    simp [star, ih]
theorem like_iff (p s : List Int) : like p s = true ↔ Lk p s := ⟨Lk.of_like p s, Lk.like⟩

theorem Lk.append {p q a b : List Int} (h : Lk p a) (k : Lk q b) : Lk (p ++ q) (a ++ b) := by
  induction h with
  | nil => exact k
  | one _ hx hc ih => exact .one ih hx hc
  | none _ ih => exact .none ih
  | more _ ih => exact .more ih
theorem Lk.all : ∀ s, Lk [37] s
  | [] => .none .nil
  | _ :: t => .more (Lk.all t)
theorem Lk.split {p q s : List Int} (h : Lk (p ++ q) s) : ∃ a b, s = a ++ b ∧ Lk p a ∧ Lk q b := by
  generalize e : p ++ q = r at h
  induction h generalizing p with
  | nil =>
    obtain ⟨rfl, rfl⟩ := List.append_eq_nil_iff.1 e
    exact ⟨[], [], rfl, .nil, .nil⟩
  | @one x c p0 s h hx hc ih =>
    cases p with
    | nil => simp only [List.nil_append] at e; subst e; exact ⟨[], _, rfl, .nil, .one h hx hc⟩
    | cons y p1 =>
      simp only [List.cons_append, List.cons.injEq] at e
      obtain ⟨rfl, e⟩ := e
      obtain ⟨a, b, rfl, ha, hb⟩ := ih e
      exact ⟨c :: a, b, rfl, .one ha hx hc, hb⟩
  | @none p0 s h ih =>
    cases p with
    | nil => simp only [List.nil_append] at e; subst e; exact ⟨[], _, rfl, .nil, .none h⟩
    | cons y p1 =>
      simp only [List.cons_append, List.cons.injEq] at e
      obtain ⟨rfl, e⟩ := e
      obtain ⟨a, b, rfl, ha, hb⟩ := ih e
      exact ⟨a, b, rfl, .none ha, hb⟩
  | @more c p0 s h ih =>
    cases p with
    | nil => simp only [List.nil_append] at e; subst e; exact ⟨[], _, rfl, .nil, .more h⟩
    | cons y p1 =>
      obtain ⟨a, b, rfl, ha, hb⟩ := ih e
      simp only [List.cons_append, List.cons.injEq] at e
      obtain ⟨rfl, e⟩ := e
      exact ⟨c :: a, b, rfl, .more ha, hb⟩
theorem Lk.reverse {p s : List Int} (h : Lk p s) : Lk p.reverse s.reverse := by
  induction h with
  | nil => exact .nil
  | one _ hx hc ih => rw [List.reverse_cons, List.reverse_cons]; exact ih.append (.one .nil hx hc)
  | none _ ih => rw [List.reverse_cons]; simpa using ih.append (Lk.all [])
  | more _ ih =>
    rw [List.reverse_cons] at ih ⊢
    rw [List.reverse_cons]
    obtain ⟨a, b, e, ha, hb⟩ := ih.split
    rw [e, List.append_assoc]
    exact ha.append (Lk.all _)
theorem like_reverse (p s : List Int) : like p.reverse s.reverse = like p s := by
  rw [Bool.eq_iff_iff, like_iff, like_iff]
  exact ⟨fun h => by simpa using h.reverse, Lk.reverse⟩

/-! ### the document's rows -/
theorem take_rd (s : List Int) (k : Nat) (h : k < s.length) : s.take (k + 1) = s.take k ++ [rd s (k : Int)] := by
  rw [List.take_succ_eq_append_getElem h]
  simp [rd, List.getD_eq_getElem?_getD, h]
/-- What a row holds: which beginnings of the text are as the pattern's first i points. -/
def cellOf (p s : List Int) (i k : Nat) : Bool := like (p.take i).reverse (s.take k).reverse
theorem cellOf_zero (p s : List Int) (k : Nat) (hk : k ≤ s.length) : cellOf p s 0 k = (k == 0) := by
  cases k with
  | zero => simp [cellOf, like]
  | succ k =>
    rw [cellOf, take_rd s k (by omega)]
    simp [like]
theorem cellOf_succ_zero (p s : List Int) (i : Nat) (hi : i < p.length) : cellOf p s (i + 1) 0 = (rd p (i : Int) == 37 && cellOf p s i 0) := by
  unfold cellOf
  rw [take_rd p i hi]
  simp only [List.reverse_append, List.reverse_cons, List.reverse_nil, List.nil_append, List.singleton_append, List.take_zero]
  by_cases h : rd p (i : Int) = 37
  · simp [like, h, star]
  · simp [like, h]
theorem cellOf_succ (p s : List Int) (i k : Nat) (hi : i < p.length) (hk : k < s.length) :
    cellOf p s (i + 1) (k + 1) = if rd p (i : Int) = 37 then (cellOf p s i (k + 1) || cellOf p s (i + 1) k) else ((rd p (i : Int) == 95 || rd p (i : Int) == rd s (k : Int)) && cellOf p s i k) := by
  unfold cellOf
  rw [take_rd p i hi, take_rd s k hk]
  simp only [List.reverse_append, List.reverse_cons, List.reverse_nil, List.nil_append, List.singleton_append]
  by_cases h : rd p (i : Int) = 37
  · simp [like, h, star]
  · simp [like, h]

def RowOk (p s : List Int) (i n : Nat) (row : List Bool) : Prop := row.length = s.length + 1 ∧ ∀ k, k < n → row.getD k false = cellOf p s i k
theorem RowOk.set {p s : List Int} {i n : Nat} {row : List Bool} (h : RowOk p s i n row) (hn : n ≤ s.length) (b : Bool) (hb : b = cellOf p s i n) : RowOk p s i (n + 1) (row.set n b) := by
  refine ⟨by simpa using h.1, fun k hk => ?_⟩
  by_cases e : k = n
  · subst e
    rw [List.getD_eq_getElem?_getD, List.getElem?_set_self (by rw [h.1]; omega), ← hb]; rfl
  · rw [List.getD_eq_getElem?_getD, List.getElem?_set_ne (by omega), ← List.getD_eq_getElem?_getD, h.2 k (by omega)]

set_option maxHeartbeats 4000000 in
theorem points_l1 (p s : List Int) (hp : p.length ≤ 1000000) (hs : s.length ≤ 1000000) (i : Nat) (hi : i < p.length) (row : List Bool) (hrow : RowOk p s i (s.length + 1) row) (r : Bool)
    (hnext : ∀ next, RowOk p s (i + 1) (s.length + 1) next → ∃ k, hindsightref06_Points.l0 k p s next ((i : Int) + 1) = some r) :
    ∀ (m n : Nat) (next : List Bool), n + m = s.length + 1 → RowOk p s (i + 1) n next → ∃ k, hindsightref06_Points.l1 k p s row (i : Int) next (n : Int) = some r := by
  intro m
  induction m with
  | zero =>
    intro n next hn hN
    obtain rfl : n = s.length + 1 := by omega
    obtain ⟨k, hk⟩ := hnext next hN
    refine ⟨k + 1, ?_⟩
    simp only [hindsightref06_Points.l1]
    rw [if_neg (by omega), wrap64_id (by omega) (by omega)]
    exact hk
  | succ m ih =>
    intro n next hn hN
    have hl := hN.1
    have hr := hrow.1
    have go : ∀ b, b = cellOf p s (i + 1) n → ∃ k, hindsightref06_Points.l1 k p s row (i : Int) (next.set n b) ((n : Int) + 1) = some r := fun b hb => by
      have := ih (n + 1) (next.set n b) (by omega) (hN.set (by omega) b hb)
      simpa using this
    have rdn : ∀ (ys : List Bool) (k : Nat), rdOf false ys (k : Int) = ys.getD k false := fun ys k => by simp [rdOf]
    by_cases h37 : rd p (i : Int) = 37
    · -- many
      cases n with
      | zero =>
        obtain ⟨k, hk⟩ := go (row.getD 0 false) (by rw [cellOf_succ_zero p s i hi, h37, hrow.2 0 (by omega)]; simp)
        refine ⟨k + 1, ?_⟩
        simp only [hindsightref06_Points.l1]
        rw [if_pos (by omega), if_pos (by omega), if_pos (by omega), if_pos h37, if_pos (by omega), if_pos (by omega), rdn row 0]
        by_cases hb : row.getD 0 false = true
        · rw [hb] at hk
          rw [if_pos hb, if_pos (by omega), wrap64_id (by omega) (by omega)]
          simpa using hk
        · rw [Bool.eq_false_iff.2 hb] at hk
          rw [if_neg hb, if_neg (by omega), if_pos (by omega), wrap64_id (by omega) (by omega)]
          simpa using hk
      | succ n =>
        have hc := cellOf_succ p s i n hi (by omega)
        rw [if_pos h37] at hc
        have e1 := hrow.2 (n + 1) (by omega)
        have e2 := hN.2 n (by omega)
        obtain ⟨k, hk⟩ := go (row.getD (n + 1) false || next.getD n false) (by rw [hc, e1, e2])
        refine ⟨k + 1, ?_⟩
        simp only [hindsightref06_Points.l1]
        rw [if_pos (by omega), if_pos (by omega), if_pos (by omega), if_pos h37, if_pos (by omega), if_pos (by omega), rdn row (n + 1), wrap64_id (n := ((n + 1 : Nat) : Int) + 1) (by omega) (by omega), wrap64_id (n := ((n + 1 : Nat) : Int) - 1) (by omega) (by omega)]
        by_cases hb : row.getD (n + 1) false = true
        · rw [hb, Bool.true_or] at hk
          rw [if_pos hb, if_pos (by omega)]
          simpa using hk
        · rw [Bool.eq_false_iff.2 hb, Bool.false_or] at hk
          rw [if_neg hb, if_pos (by omega), if_pos (by omega), if_pos (by omega), if_pos (by omega), show ((n + 1 : Nat) : Int) - 1 = (n : Int) by omega, rdn next n]
          simpa using hk
    · cases n with
      | zero =>
        obtain ⟨k, hk⟩ := go false (by rw [cellOf_succ_zero p s i hi]; simp [h37])
        refine ⟨k + 1, ?_⟩
        simp only [hindsightref06_Points.l1]
        rw [if_pos (by omega), if_pos (by omega), if_pos (by omega), if_neg h37, if_neg (by omega), if_pos (by omega), if_pos (by omega), wrap64_id (by omega) (by omega)]
        simpa using hk
      | succ n =>
        have hc := cellOf_succ p s i n hi (by omega)
        rw [if_neg h37] at hc
        have e1 := hrow.2 n (by omega)
        rw [← e1] at hc
        obtain ⟨k, hk⟩ := go _ hc.symm
        refine ⟨k + 1, ?_⟩
        simp only [hindsightref06_Points.l1]
        rw [if_pos (by omega), if_pos (by omega), if_pos (by omega), if_neg h37, if_pos (by omega), wrap64_id (n := ((n + 1 : Nat) : Int) + 1) (by omega) (by omega), wrap64_id (n := ((n + 1 : Nat) : Int) - 1) (by omega) (by omega), if_pos (by omega), if_pos (by omega),
          show ((n + 1 : Nat) : Int) - 1 = (n : Int) by omega, rdn row n]
        by_cases hb : row.getD n false = true
        · rw [hb, Bool.and_true] at hk
          rw [if_pos hb]
          by_cases h95 : rd p (i : Int) = 95
          · rw [if_pos h95, if_pos (by omega), if_pos (by omega)]
            simpa [h95] using hk
          · rw [if_neg h95, if_pos (by omega), if_pos (by omega), if_pos (by omega)]
            have b95 : (rd p (i : Int) == 95) = false := by simpa using h95
            rw [b95, Bool.false_or] at hk
            simpa using hk
        · rw [Bool.eq_false_iff.2 hb, Bool.and_false] at hk
          rw [if_neg hb, if_pos (by omega), if_pos (by omega)]
          simpa using hk

theorem points_l0 (p s : List Int) (hp : p.length ≤ 1000000) (hs : s.length ≤ 1000000) : ∀ (m i : Nat) (row : List Bool), i + m = p.length → RowOk p s i (s.length + 1) row →
    ∃ k, hindsightref06_Points.l0 k p s row (i : Int) = some (like p s) := by
  intro m
  induction m with
  | zero =>
    intro i row hi hrow
    refine ⟨1, ?_⟩
    have hr := hrow.1
    simp only [hindsightref06_Points.l0]
    rw [if_neg (by omega), if_pos (by omega), if_pos (by omega)]
    have := hrow.2 s.length (by omega)
    rw [rdOf, Int.toNat_natCast, this, cellOf, show i = p.length by omega, List.take_length, List.take_length, like_reverse]
  | succ m ih =>
    intro i row hi hrow
    obtain ⟨k, hk⟩ := points_l1 p s hp hs i (by omega) row hrow (like p s) (fun next hN => by have := ih (i + 1) next (by omega) hN; simpa using this) (s.length + 1) 0 (List.replicate (s.length + 1) false) (by omega) ⟨by simp, fun k hk => by omega⟩
    refine ⟨k + 1, ?_⟩
    simp only [hindsightref06_Points.l0]
    rw [if_pos (by omega), wrap64_id (by omega) (by omega), if_pos (by omega), if_pos (by omega), show ((s.length : Int) + 1).toNat = s.length + 1 by omega]
    exact hk
theorem points_f (p s : List Int) (hp : p.length ≤ 1000000) (hs : s.length ≤ 1000000) : ∃ k, hindsightref06_Points.f k p s = some (like p s) := by
  obtain ⟨k, hk⟩ := points_l0 p s hp hs p.length 0 ((List.replicate (s.length + 1) false).set 0 true) (by omega) ⟨by simp, fun k hk => by
    rw [cellOf_zero p s k (by omega)]
    cases k with
    | zero => simp [List.replicate]
    | succ k =>
      have hk2 : k < s.length := by omega
      simp [List.getD_eq_getElem?_getD, List.getElem?_replicate, hk2]⟩
  refine ⟨k, ?_⟩
  unfold hindsightref06_Points.f
  rw [wrap64_id (by omega) (by omega), if_pos (by omega), if_pos (by omega), show ((s.length : Int) + 1).toNat = s.length + 1 by omega, Option.bind_some, if_pos (by simp)]
  exact hk
end Go.Proofs.YtoclbmepgeelmaaDoor.Utf
