import Derived.Test.YtoclbmepgeelmaaDoorBk1
import Derived.Test.YtoclbmepgeelmaaDoorTxt
namespace Go.Proofs.YtoclbmepgeelmaaDoor.Utf
set_option linter.unusedVariables false
set_option linter.unusedSimpArgs false
open Go.RowKit Go.Lib Go.Proofs.YtoclbmepgeelmaaDoorW.PrintWords

/-! ### A token that is written is read back -/
/-- Behind a written token: the end, or a blank. -/
def Rest (r : List Int) : Prop := r = [] ∨ ∃ t, r = 32 :: t
/-- A token's written bytes. -/
def tB (t : Tk) : List Int := bytesOf (textZ t.1 t.2.1 t.2.2.1)
def Back (t : Tk) : Prop := 1 ≤ t.1 ∧ t.1 ≤ 5 ∧ vZ (tB t) = true ∧ ∀ r, Rest r → nextP (tB t ++ r) = (t.1, t.2.1, t.2.2.1, (tB t).length, 0)

theorem textZ_1 (t : ByteArray) (v : Int) : textZ 1 t v = t := by simp [textZ]
theorem textZ_2 (t : ByteArray) (v : Int) : textZ 2 t v = ⟨(itoa v).toArray⟩ := by simp [textZ]
theorem textZ_3 (t : ByteArray) (v : Int) : textZ 3 t v = quoteS t := by simp [textZ]
theorem textZ_4 (t : ByteArray) (v : Int) : textZ 4 t v = (⟨#[120]⟩ : ByteArray) ++ quoteS (strOfNums (hexL (bytesOf t))) := by simp [textZ]
theorem textZ_5 (t : ByteArray) (v : Int) : textZ 5 t v = t := by simp [textZ]
theorem oneL_cases {a : Int} (h : oneL a = true) : classZ a = 5 ∧ 33 ≤ a ∧ a < 127 ∧ a ≠ 120 ∧ a ≠ 88 := by
  simp only [oneL, List.any_cons, List.any_nil, Bool.or_false, Bool.or_eq_true, beq_iff_eq] at h
  rcases h with rfl | rfl | rfl | rfl | rfl | rfl | rfl | rfl | rfl | rfl | rfl | rfl | rfl <;> exact ⟨by decide, by decide, by decide, by decide, by decide⟩
theorem twoL_cases {a b : Int} (h : twoL a b = true) : classZ a = 5 ∧ 33 ≤ a ∧ a < 127 ∧ 33 ≤ b ∧ b < 127 ∧ a ≠ 120 ∧ a ≠ 88 := by
  simp only [twoL, Bool.or_eq_true, Bool.and_eq_true, beq_iff_eq] at h
  rcases h with ((⟨rfl, rfl⟩ | ⟨rfl, rfl⟩) | ⟨rfl, rfl⟩) | ⟨rfl, rfl⟩ <;> exact ⟨by decide, by decide, by decide, by decide, by decide, by decide, by decide⟩
theorem sgn_cases {l : List Int} (h : sgnN l ≠ 0) : (∃ a b t, l = a :: b :: t ∧ twoL a b = true ∧ sgnN l = 2) ∨ (∃ a t, l = a :: t ∧ oneL a = true ∧ sgnN l = 1) := by
  match l, h with
  | [], h => exact absurd rfl h
  | [a], h =>
    simp only [sgnN] at h
    by_cases h1 : oneL a = true
    · exact .inr ⟨a, [], rfl, h1, by simp [sgnN, h1]⟩
    · simp [h1] at h
  | a :: b :: t, h =>
    simp only [sgnN] at h
    by_cases h2 : twoL a b = true
    · exact .inl ⟨a, b, t, rfl, h2, by simp [sgnN, h2]⟩
    · by_cases h1 : oneL a = true
      · exact .inr ⟨a, b :: t, rfl, h1, by simp [sgnN, h2, h1]⟩
      · simp [h1, h2] at h
theorem next_sgn {a : Int} {t : List Int} (hc : classZ a = 5) (h0 : a ≠ 120) (h1 : a ≠ 88) : nextP (a :: t) = sgnP (a :: t) := by
  unfold nextP
  have hb : isB (a :: t) = false := by cases t <;> simp [isB, h0, h1]
  rw [if_neg (by simp [hb]), if_neg (by simp [clsAt, hc]), if_neg (by simp [clsAt, hc]), if_neg (by simp [clsAt, hc])]
theorem sgn_back (l : List Int) (h : (sgnP l).2.2.2.2 = 0) : Back (sgnP l) := by
  by_cases h0 : sgnN l = 0
  · simp [sgnP, h0, failT] at h
  · have e : sgnP l = (5, strOfNums (l.take (sgnN l)), 0, sgnN l, 0) := by unfold sgnP; rw [if_neg h0]
    rcases sgn_cases h0 with ⟨a, b, t, rfl, h2, hn⟩ | ⟨a, t, rfl, h2, hn⟩
    · rw [hn] at e
      obtain ⟨c1, c2, c3, c4, c5, c6, c7⟩ := twoL_cases h2
      have hB : tB (sgnP (a :: b :: t)) = [a, b] := by
        rw [e]; unfold tB
        simp only [List.take_succ_cons, List.take_zero]
        rw [textZ_5, bytesOf_str _ (by intro x hx; simp at hx; rcases hx with rfl | rfl <;> omega)]
      refine ⟨by rw [e]; show (1 : Int) ≤ 5; decide, by rw [e]; show (5 : Int) ≤ 5; decide, ?_, fun r hr => ?_⟩
      · rw [hB]; exact vZ_ascii _ (by intro x hx; simp at hx; rcases hx with rfl | rfl <;> omega)
      · rw [hB, e]
        show nextP (a :: b :: r) = _
        rw [next_sgn c1 c6 c7]
        have hs : sgnN (a :: b :: r) = 2 := by simp [sgnN, h2]
        unfold sgnP
        rw [if_neg (by rw [hs]; decide), hs]
        rfl
    · rw [hn] at e
      obtain ⟨c1, c2, c3, c4, c5⟩ := oneL_cases h2
      have hB : tB (sgnP (a :: t)) = [a] := by
        rw [e]; unfold tB
        simp only [List.take_succ_cons, List.take_zero]
        rw [textZ_5, bytesOf_str _ (by intro x hx; simp at hx; subst hx; omega)]
      refine ⟨by rw [e]; show (1 : Int) ≤ 5; decide, by rw [e]; show (5 : Int) ≤ 5; decide, ?_, fun r hr => ?_⟩
      · rw [hB]; exact vZ_ascii _ (by intro x hx; simp at hx; subst hx; omega)
      · rw [hB, e]
        show nextP (a :: r) = _
        rw [next_sgn c1 c4 c5]
        have hs : sgnN (a :: r) = 1 := by
          rcases hr with rfl | ⟨t, rfl⟩
          · simp [sgnN, h2]
          · have : twoL a 32 = false := by simp [twoL]
            simp [sgnN, h2, this]
        unfold sgnP
        rw [if_neg (by rw [hs]; decide), hs]
        rfl

/-! #### words -/
theorem runL_app {p : Int → Bool} : ∀ (a r : List Int), (∀ c ∈ a, p (classZ c) = true) → runL p r = 0 → runL p (a ++ r) = a.length
  | [], r, _, hr => hr
  | c :: a, r, h, hr => by
    rw [List.cons_append, runL_yes _ (h c (by simp)), runL_app a r (fun d hd => h d (by simp [hd])) hr, List.length_cons]
theorem runL_rest {p : Int → Bool} {r : List Int} (hr : Rest r) (hp : p 1 = false) : runL p r = 0 := by
  rcases hr with rfl | ⟨t, rfl⟩
  · rfl
  · exact runL_no t hp
theorem runL_take (p : Int → Bool) : ∀ l : List Int, ∀ c ∈ l.take (runL p l), p (classZ c) = true
  | [], c, hc => by simp at hc
  | d :: t, c, hc => by
    by_cases hd : p (classZ d) = true
    · rw [runL_yes t hd, List.take_succ_cons] at hc
      rcases List.mem_cons.1 hc with rfl | hc
      · exact hd
      · exact runL_take p t c hc
    · rw [runL_no t (by simpa using hd)] at hc
      simp at hc
theorem take_len {n : Nat} {l : List Int} (h : n ≤ l.length) : (l.take n).length = n := by rw [List.length_take]; omega
theorem take_nonempty {p : Int → Bool} {l : List Int} (hc : p (clsAt l) = true) (hl : l ≠ []) : l.take (runL p l) ≠ [] := by
  cases l with
  | nil => exact absurd rfl hl
  | cons c t => rw [runL_yes t hc]; simp
theorem word_back (l : List Int) (hr : ∀ c ∈ l, 0 ≤ c ∧ c ≤ 255) (hc : clsAt l = 2) (h : (wordP l).2.2.2.2 = 0) : Back (wordP l) := by
  have hl : l ≠ [] := by rintro rfl; simp [clsAt] at hc
  by_cases hE : nameE (strOfNums (l.take (runL wordC l))) = 0
  · have e : wordP l = (1, nameR (strOfNums (l.take (runL wordC l))), 0, runL wordC l, 0) := by unfold wordP; simp only; rw [if_pos hE]
    obtain ⟨t1, t2, t3, _⟩ := told_law _ hE
    have hP : ∀ c ∈ l.take (runL wordC l), 0 ≤ c ∧ c ≤ 255 := fun c hc => hr c (List.mem_of_mem_take hc)
    have hw := runL_take wordC l
    have hne := take_nonempty (p := wordC) (l := l) (by rw [hc]; rfl) hl
    have hhd : clsAt (l.take (runL wordC l)) = 2 := by
      cases l with
      | nil => exact absurd rfl hl
      | cons c t => rw [runL_yes t (by rw [show classZ c = 2 from hc]; rfl)]; exact hc
    have hB : tB (wordP l) = (l.take (runL wordC l)).map foldZ := by
      rw [e]; unfold tB
      simp only []
      rw [textZ_1, t1, bytesOf_fold, bytesOf_str _ hP]
    generalize l.take (runL wordC l) = P at *
    have hw' : ∀ c ∈ P.map foldZ, wordC (classZ c) = true := by
      intro c hc
      obtain ⟨d, hd, rfl⟩ := List.mem_map.1 hc
      rw [class_fold]; exact hw d hd
    refine ⟨by rw [e]; show (1 : Int) ≤ 1; decide, by rw [e]; show (1 : Int) ≤ 5; decide, ?_, fun r hr' => ?_⟩
    · rw [hB]
      refine vZ_ascii _ fun c hc => ?_
      have h1 := hw' c hc
      obtain ⟨d, hd, rfl⟩ := List.mem_map.1 hc
      have h2 := foldZ_range (hP d hd)
      refine ⟨h2.1, ?_⟩
      by_cases h3 : 127 ≤ foldZ d
      · rw [class_high _ h3] at h1; simp [wordC] at h1
      · omega
    · rw [hB, e]
      have hrun : runL wordC (P.map foldZ ++ r) = (P.map foldZ).length := runL_app _ _ hw' (runL_rest hr' rfl)
      have hS : strOfNums (P.map foldZ) = foldS (strOfNums P) := by unfold foldS; rw [bytesOf_str _ hP]
      have hwp : wordP (P.map foldZ ++ r) = (1, nameR (strOfNums P), 0, (P.map foldZ).length, 0) := by
        unfold wordP
        simp only []
        rw [hrun, List.take_left, hS, if_pos t2, t3, t1]
      rw [← hwp]
      unfold nextP
      have hcl : clsAt (P.map foldZ ++ r) = 2 := by
        cases P with
        | nil => exact absurd rfl hne
        | cons c t => show classZ (foldZ c) = 2; rw [class_fold]; exact hhd
      have hb : isB (P.map foldZ ++ r) = false := by
        match P, hne, hw' with
        | [c], _, _ =>
          rcases hr' with rfl | ⟨t, rfl⟩ <;> simp [isB]
        | c :: d :: t, _, hw' =>
          have := hw' (foldZ d) (by simp)
          have h9 : foldZ d ≠ 39 := by intro h9; rw [h9] at this; exact absurd this (by decide)
          simp [isB, h9]
      rw [if_neg (by rw [hb]; decide), if_pos hcl]
  · have e : wordP l = failT := by unfold wordP; simp only; rw [if_neg hE]
    rw [e] at h; simp [failT] at h

/-! #### numbers -/
theorem numRE_ok {s : ByteArray} (h : (numRE s).2 = 0) : 0 ≤ (numRE s).1 ∧ (numRE s).1 ≤ 9223372036854775807 ∧ digitsOk (bytesOf s) = true ∧ s.size ≠ 0 := by
  unfold numRE at h ⊢
  by_cases h0 : s.size = 0
  · simp [h0] at h
  · rw [if_neg h0] at h ⊢
    unfold numOf at h ⊢
    by_cases hd : digitsOk (bytesOf s) = true
    · rw [if_pos hd] at h ⊢
      by_cases hm : dv 0 (bytesOf s) ≤ 9223372036854775807
      · rw [if_pos ⟨rfl, hm⟩]
        exact ⟨dv_le _ 0 (Int.le_refl _) hd, hm, hd, h0⟩
      · rw [if_neg (fun hh => hm hh.2)] at h; simp at h
    · rw [if_neg hd] at h; simp at h
theorem digits_class {l : List Int} (h : digitsOk l = true) : ∀ c ∈ l, (48 ≤ c ∧ c ≤ 57) ∧ classZ c = 3 := by
  intro c hc
  have := List.all_eq_true.1 h c hc
  have h1 : 48 ≤ c ∧ c ≤ 57 := by simpa using this
  exact ⟨h1, (class_digit c).2 h1⟩
theorem num_back (l : List Int) (h : (numP l).2.2.2.2 = 0) : Back (numP l) := by
  by_cases hE : clsAt (l.drop (runL digC l)) = 2
  · have e : numP l = failT := by unfold numP; rw [if_pos hE]
    rw [e] at h; simp [failT] at h
  · have e : numP l = (2, ⟨#[]⟩, (numRE (strOfNums (l.take (runL digC l)))).1, runL digC l, (numRE (strOfNums (l.take (runL digC l)))).2) := by unfold numP; rw [if_neg hE]
    rw [e] at h
    obtain ⟨v0, v1, _, _⟩ := numRE_ok h
    generalize hv : (numRE (strOfNums (l.take (runL digC l)))).1 = v at *
    have hd := number_digits v v0 v1
    have h2 : (numRE ⟨(itoa v).toArray⟩).2 = 0 := by rw [hd]
    obtain ⟨_, _, d3, d4⟩ := numRE_ok h2
    have hB : tB (numP l) = bytesOf ⟨(itoa v).toArray⟩ := by rw [e]; unfold tB; simp only []; rw [textZ_2]
    have hS : strOfNums (bytesOf ⟨(itoa v).toArray⟩) = ⟨(itoa v).toArray⟩ := strOfNums_bytes _
    have hne : bytesOf ⟨(itoa v).toArray⟩ ≠ [] := by
      intro h9
      have := congrArg List.length h9
      rw [bytesOf_length] at this
      exact d4 this
    generalize bytesOf ⟨(itoa v).toArray⟩ = D at *
    have hcls := digits_class d3
    refine ⟨by rw [e]; show (1 : Int) ≤ 2; decide, by rw [e]; show (2 : Int) ≤ 5; decide, ?_, fun r hr' => ?_⟩
    · rw [hB]; exact vZ_ascii _ fun c hc => by have := (hcls c hc).1; omega
    · rw [hB, e]
      have hrun : runL digC (D ++ r) = D.length := runL_app _ _ (fun c hc => by rw [(hcls c hc).2]; rfl) (runL_rest hr' rfl)
      have hnp : numP (D ++ r) = (2, ⟨#[]⟩, v, D.length, 0) := by
        unfold numP
        rw [hrun, List.take_left, List.drop_left, hS, hd]
        have : clsAt r ≠ 2 := by
          rcases hr' with rfl | ⟨t, rfl⟩
          · simp [clsAt]
          · show classZ 32 ≠ 2; decide
        rw [if_neg this]
      rw [← hnp]
      unfold nextP
      cases D with
      | nil => exact absurd rfl hne
      | cons c t =>
        obtain ⟨hc1, hc2⟩ := hcls c (by simp)
        have hb : isB (c :: t ++ r) = false := by
          have a1 : c ≠ 120 := by omega
          have a2 : c ≠ 88 := by omega
          rw [List.cons_append]
          cases t ++ r <;> simp [isB, a1, a2]
        have hcl : clsAt (c :: t ++ r) = 3 := hc2
        rw [if_neg (by rw [hb]; decide), if_neg (by rw [hcl]; decide), if_pos hcl]
end Go.Proofs.YtoclbmepgeelmaaDoor.Utf
