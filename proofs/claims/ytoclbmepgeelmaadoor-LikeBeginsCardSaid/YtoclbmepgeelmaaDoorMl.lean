import Derived.Test.YtoclbmepgeelmaaDoorLk
import Derived.Test.YtoclbmepgeelmaaDoorMat
namespace Go.Proofs.YtoclbmepgeelmaaDoor.Utf
set_option linter.unusedVariables false
set_option linter.unusedSimpArgs false
open Go.RowKit Go.Lib Go.Proofs.YtoclbmepgeelmaaDoorW.PrintWords Go.Proofs.YtoclbmepgeelmaaDoor.PRa

/-! ### the program's way is the pattern's meaning -/
theorem star_iff (f : List Int → Bool) : ∀ s, star f s = true ↔ ∃ d, d ≤ s.length ∧ f (s.drop d) = true
  | [] => ⟨fun h => ⟨0, by simp, h⟩, fun ⟨d, hd, h⟩ => by show f [] = true; simpa using h⟩
  | c :: t => by
    simp only [star, Bool.or_eq_true, star_iff f t]
    constructor
    · rintro (h | ⟨d, hd, h⟩)
      · exact ⟨0, by simp, h⟩
      · exact ⟨d + 1, by simp; omega, h⟩
    · rintro ⟨d, hd, h⟩
      cases d with
      | zero => exact .inl h
      | succ d => exact .inr ⟨d, by simpa using hd, h⟩

/-- A run of points without % that are as the text's. -/
inductive Seg : List Int → List Int → Prop
  | nil : Seg [] []
  | cons {x c : Int} {p s : List Int} : Seg p s → x ≠ 37 → (x = 95 ∨ x = c) → Seg (x :: p) (c :: s)
theorem Seg.like {g h q s : List Int} (k : Seg g h) : like (g ++ q) (h ++ s) = like q s := by
  induction k with
  | nil => rfl
  | @cons x c p s' h hx hc ih =>
    have : (x == 95 || x == c) = true := by simpa using hc
    simp [Utf.like, hx, this, ih]
theorem Seg.length {g h : List Int} (k : Seg g h) : g.length = h.length := by
  induction k with
  | nil => rfl
  | cons _ _ _ ih => simp [ih]
theorem Seg.snoc {g h : List Int} (k : Seg g h) {x c : Int} (hx : x ≠ 37) (hc : x = 95 ∨ x = c) : Seg (g ++ [x]) (h ++ [c]) := by
  induction k with
  | nil => exact .cons .nil hx hc
  | cons _ hx' hc' ih => exact .cons ih hx' hc'
theorem Seg.free {g h : List Int} (k : Seg g h) : ∀ x ∈ g, x ≠ 37 := by
  induction k with
  | nil => simp
  | cons _ hx _ ih =>
    intro y hy
    rcases List.mem_cons.1 hy with rfl | hy
    · exact hx
    · exact ih y hy
/-- A run without %, whatever it is as: what is left of the text is that much shorter. -/
theorem like_free : ∀ (g q s : List Int), (∀ x ∈ g, x ≠ 37) → like (g ++ q) s = true → g.length ≤ s.length ∧ like q (s.drop g.length) = true
  | [], q, s, _, h => ⟨by simp, by simpa using h⟩
  | x :: g, q, [], hg, h => by
    have hx := hg x (by simp)
    simp [like, hx] at h
  | x :: g, q, c :: t, hg, h => by
    have hx := hg x (by simp)
    simp only [List.cons_append, like, if_neg hx, Bool.and_eq_true] at h
    obtain ⟨h1, h2⟩ := like_free g q t (fun y hy => hg y (by simp [hy])) h.2
    exact ⟨by simp; omega, by simpa using h2⟩
/-- Behind a run that fits, a % may begin where the run ended. -/
theorem star_seg {g h q s : List Int} (k : Seg g h) : star (like (g ++ 37 :: q)) (h ++ s) = star (like q) s := by
  rw [Bool.eq_iff_iff, star_iff, star_iff]
  have hl := k.length
  constructor
  · rintro ⟨d, hd, e⟩
    obtain ⟨h1, h2⟩ := like_free g _ _ k.free e
    simp only [like, ↓reduceIte] at h2
    obtain ⟨d2, hd2, e2⟩ := (star_iff _ _).1 h2
    simp only [List.drop_drop, List.length_drop, List.length_append] at h1 hd2 e2 hd
    refine ⟨d + (g.length + d2) - h.length, by omega, ?_⟩
    rw [← e2, List.drop_append, show h.drop (d + g.length + d2) = [] from List.drop_eq_nil_of_le (by omega), List.nil_append, Nat.add_assoc]
  · rintro ⟨d, hd, e⟩
    refine ⟨0, by simp, ?_⟩
    rw [List.drop_zero, k.like]
    simp only [like, ↓reduceIte]
    exact (star_iff _ _).2 ⟨d, hd, e⟩

/-- What the state of the walk says. -/
def Inv (p l : List Int) (a back frm i : Int) : Prop :=
  0 ≤ a ∧ a ≤ p.length ∧ 0 ≤ frm ∧ frm ≤ i ∧ i ≤ l.length ∧
  ((back = -1 ∧ like p l = like (p.drop a.toNat) (l.drop i.toNat)) ∨
   (0 ≤ back ∧ back < a ∧ ∃ g h, Seg g h ∧ p.drop (back + 1).toNat = g ++ p.drop a.toNat ∧ l.drop frm.toNat = h ++ l.drop i.toNat ∧ like p l = star (like (p.drop (back + 1).toNat)) (l.drop frm.toNat)))

theorem drop_step (s : List Int) (i : Int) (h0 : 0 ≤ i) (h1 : i < s.length) : s.drop i.toNat = rd s i :: s.drop (i + 1).toNat := by
  rw [drop_rd s i h0 h1, show (i + 1).toNat = i.toNat + 1 by omega]
theorem mL_law (p l : List Int) : ∀ (X : Nat) (back : Int), p.length - (back + 1).toNat = X → ∀ (Y : Nat) (frm : Int), l.length - frm.toNat = Y → ∀ (Z : Nat) (a i : Int), l.length - i.toNat = Z → Inv p l a back frm i →
    ∃ k, mL k p l a back frm i = some (like p l) := by
  intro X
  refine Nat.strongRecOn X fun X ihX => ?_
  intro back hX Y
  refine Nat.strongRecOn Y fun Y ihY => ?_
  intro frm hY Z
  refine Nat.strongRecOn Z fun Z ihZ => ?_
  intro a i hZ hI
  obtain ⟨ha0, ha1, hf0, hf1, hi1, hI⟩ := hI
  by_cases ci : i < (l.length : Int)
  · have hli := drop_step l i (by omega) ci
    by_cases c37 : a < (p.length : Int) ∧ rd p a = 37
    · -- a %
      have hpa := drop_step p a ha0 c37.1
      rw [c37.2] at hpa
      have hb : back < a := by rcases hI with ⟨h, _⟩ | ⟨_, h, _⟩ <;> omega
      obtain ⟨k, hk⟩ := ihX (p.length - (a + 1).toNat) (by rcases hI with ⟨h, _⟩ | ⟨h, _⟩ <;> omega) a rfl _ i rfl _ (a + 1) i rfl (by
        refine ⟨by omega, by omega, by omega, by omega, by omega, .inr ⟨by omega, by omega, [], [], .nil, by simp, by simp, ?_⟩⟩
        rcases hI with ⟨_, h⟩ | ⟨h0, h1, g, h, hs, e1, e2, e3⟩
        · rw [h, hpa]; simp [like]
        · rw [e3, e1, e2, hpa, star_seg hs])
      exact ⟨k + 1, by simp only [mL]; rw [if_pos ci, if_pos c37]; exact hk⟩
    · by_cases cm : a < (p.length : Int) ∧ (rd p a = 95 ∨ rd p a = rd l i)
      · -- as it is
        have hpa := drop_step p a ha0 cm.1
        have n37 : rd p a ≠ 37 := fun h => c37 ⟨cm.1, h⟩
        obtain ⟨k, hk⟩ := ihZ (l.length - (i + 1).toNat) (by omega) (a + 1) (i + 1) rfl (by
          refine ⟨by omega, by omega, by omega, by omega, by omega, ?_⟩
          rcases hI with ⟨h0, h⟩ | ⟨h0, h1, g, h, hs, e1, e2, e3⟩
          · refine .inl ⟨h0, ?_⟩
            have : (rd p a == 95 || rd p a == rd l i) = true := by simpa using cm.2
            rw [h, hpa, hli]
            simp [like, n37, this]
          · refine .inr ⟨h0, by omega, g ++ [rd p a], h ++ [rd l i], hs.snoc n37 cm.2, ?_, ?_, e3⟩
            · rw [e1, hpa]; simp
            · rw [e2, hli]; simp)
        exact ⟨k + 1, by simp only [mL]; rw [if_pos ci, if_neg c37, if_pos cm]; exact hk⟩
      · -- it is not
        have hno : like (p.drop a.toNat) (l.drop i.toNat) = false := by
          rw [hli]
          by_cases ca : a < (p.length : Int)
          · have hpa := drop_step p a ha0 ca
            have n37 : rd p a ≠ 37 := fun h => c37 ⟨ca, h⟩
            have : (rd p a == 95 || rd p a == rd l i) = false := by
              rw [Bool.eq_false_iff]
              exact fun h => cm ⟨ca, by simpa using h⟩
            rw [hpa]
            simp [like, n37, this]
          · rw [List.drop_eq_nil_of_le (by omega)]; simp [like]
        by_cases cb : back < 0
        · refine ⟨1, ?_⟩
          simp only [mL]
          rw [if_pos ci, if_neg c37, if_neg cm, if_pos cb]
          rcases hI with ⟨_, h⟩ | ⟨h0, _⟩
          · rw [h, hno]
          · omega
        · rcases hI with ⟨h0, _⟩ | ⟨h0, h1, g, h, hs, e1, e2, e3⟩
          · omega
          obtain ⟨k, hk⟩ := ihY (l.length - (frm + 1).toNat) (by omega) (frm + 1) rfl _ (back + 1) (frm + 1) rfl (by
            refine ⟨by omega, by omega, by omega, by omega, by omega, .inr ⟨h0, by omega, [], [], .nil, by simp, by simp, ?_⟩⟩
            have hlf := drop_step l frm hf0 (by omega)
            have hP : like (p.drop (back + 1).toNat) (l.drop frm.toNat) = false := by rw [e1, e2, hs.like, hno]
            rw [hlf] at hP
            rw [e3, hlf]
            simp only [star, hP, Bool.false_or])
          exact ⟨k + 1, by simp only [mL]; rw [if_pos ci, if_neg c37, if_neg cm, if_neg cb]; exact hk⟩
  · -- the text is at its end
    refine ⟨1, ?_⟩
    simp only [mL]
    rw [if_neg ci]
    have hl : l.drop i.toNat = [] := List.drop_eq_nil_of_le (by omega)
    have hall : ∀ q : List Int, like q [] = q.all (fun x => x == 37) := by
      intro q
      induction q with
      | nil => rfl
      | cons x q ih =>
        simp only [like, List.all_cons, star]
        by_cases hx : x = 37
        · simp [hx, ih]
        · simp [hx]
    rw [← hall]
    rcases hI with ⟨_, h⟩ | ⟨h0, h1, g, h, hs, e1, e2, e3⟩
    · rw [h, hl]
    · rw [hl] at e2
      have hg := hs.length
      refine congrArg some ?_
      rw [e3, Bool.eq_iff_iff, star_iff]
      constructor
      · intro h1
        refine ⟨0, by omega, ?_⟩
        rw [List.drop_zero, e1, e2, hs.like]
        exact h1
      · rintro ⟨d, hd, h1⟩
        rw [e1, e2] at h1
        obtain ⟨h2, h3⟩ := like_free g _ _ hs.free h1
        simp only [List.length_drop, List.length_append, List.length_nil] at h2
        have h4 : ((h ++ []).drop d).drop g.length = ([] : List Int) := List.drop_eq_nil_of_le (by simp; omega)
        rw [h4] at h3
        exact h3
theorem mL_f (p l : List Int) : ∃ k, mL k p l 0 (-1) 0 0 = some (like p l) :=
  mL_law p l _ (-1) rfl _ 0 rfl _ 0 0 rfl ⟨by omega, by omega, by omega, by omega, by omega, .inl ⟨rfl, by simp⟩⟩
end Go.Proofs.YtoclbmepgeelmaaDoor.Utf
