import Derived.Test.YtoclbmepgeelmaaDoorEnc
import Derived.Test.YtoclbmepgeelmaaDoorPat
import Derived.Test.YtoclbmepgeelmaaDoorPRbx2
import Derived.Test.YtoclbmepgeelmaaDoorPRcx1
namespace Go.Proofs.YtoclbmepgeelmaaDoor.Utf
set_option linter.unusedVariables false
set_option linter.unusedSimpArgs false
open Go.RowKit Go.Lib Go.Proofs.YtoclbmepgeelmaaDoorW.PrintWords Go.Proofs.YtoclbmepgeelmaaDoorW.PrintLast Go.Proofs.YtoclbmepgeelmaaDoorW.PrintMore

/-- A point's class. -/
def classZ (v : Int) : Int :=
  if v = 32 ∨ v = 9 ∨ v = 10 ∨ v = 13 then 1
  else if (97 ≤ v ∧ v ≤ 122) ∨ (65 ≤ v ∧ v ≤ 90) ∨ v = 95 then 2
  else if 48 ≤ v ∧ v ≤ 57 then 3 else if v = 39 then 4 else if 33 ≤ v ∧ v ≤ 126 then 5 else 0
theorem rcls2 (v : Int) (b : Bool) (hb : b = decide (48 ≤ v ∧ v ≤ 57)) : PRb.hindsightref05_Class.j2 1 v b = some (if 48 ≤ v ∧ v ≤ 57 then 3 else if v = 39 then 4 else if 33 ≤ v ∧ v ≤ 126 then 5 else 0) := by
  subst hb
  simp only [PRb.hindsightref05_Class.j2]
  by_cases h : 48 ≤ v ∧ v ≤ 57
  · rw [if_pos (decide_eq_true h), if_pos h]
  · rw [if_neg (by simpa using h), if_neg h]
    repeat' split
    all_goals first | rfl | (exfalso; omega)
theorem rcls1 (v : Int) (b : Bool) (hb : b = decide ((97 ≤ v ∧ v ≤ 122) ∨ (65 ≤ v ∧ v ≤ 90) ∨ v = 95)) : PRb.hindsightref05_Class.j1 2 v b = some (if (97 ≤ v ∧ v ≤ 122) ∨ (65 ≤ v ∧ v ≤ 90) ∨ v = 95 then 2 else if 48 ≤ v ∧ v ≤ 57 then 3 else if v = 39 then 4 else if 33 ≤ v ∧ v ≤ 126 then 5 else 0) := by
  subst hb
  rw [PRb.hindsightref05_Class.j1]
  by_cases h : (97 ≤ v ∧ v ≤ 122) ∨ (65 ≤ v ∧ v ≤ 90) ∨ v = 95
  · rw [if_pos (decide_eq_true h), if_pos h]
  · rw [if_neg (by rw [decide_eq_true_eq]; exact h), if_neg h]
    by_cases h48 : v ≥ 48
    · rw [if_pos h48]; exact rcls2 v _ (by rw [decide_eq_decide]; omega)
    · rw [if_neg h48]; exact rcls2 v _ (by symm; rw [decide_eq_false_iff_not]; omega)
set_option maxHeartbeats 1000000 in
theorem rclass_f (v : Int) : PRb.hindsightref05_Class.f 4 v = some (classZ v) := by
  have J0 : ∀ b : Bool, b = decide (v = 32 ∨ v = 9 ∨ v = 10 ∨ v = 13) → PRb.hindsightref05_Class.j0 4 v b = some (classZ v) := by
    intro b hb
    subst hb
    unfold classZ
    rw [PRb.hindsightref05_Class.j0]
    by_cases h : v = 32 ∨ v = 9 ∨ v = 10 ∨ v = 13
    · rw [if_pos (decide_eq_true h), if_pos h]
    · rw [if_neg (by rw [decide_eq_true_eq]; exact h), if_neg h]
      have up1 : ∀ b : Bool, b = decide ((97 ≤ v ∧ v ≤ 122) ∨ (65 ≤ v ∧ v ≤ 90) ∨ v = 95) → PRb.hindsightref05_Class.j1 3 v b = _ := fun b hb => (PRb.hindsightref05_Class.mono_l 2).2.1 _ _ _ (rcls1 v b hb)
      obtain ⟨R, hR⟩ : ∃ R : Int, (if (97 ≤ v ∧ v ≤ 122) ∨ (65 ≤ v ∧ v ≤ 90) ∨ v = 95 then 2 else if 48 ≤ v ∧ v ≤ 57 then 3 else if v = 39 then 4 else if 33 ≤ v ∧ v ≤ 126 then 5 else 0) = R := ⟨_, rfl⟩
      simp only [hR] at up1
      rw [hR]
      clear hR
      repeat' split
      all_goals
        first
        | exact up1 _ (by symm; rw [decide_eq_true_eq]; omega)
        | exact up1 _ (by symm; rw [decide_eq_false_iff_not]; omega)
        | exact up1 _ (by rw [decide_eq_decide]; omega)
        | exact up1 _ (by rw [Bool.eq_iff_iff, decide_eq_true_eq, beq_iff_eq]; omega)
  unfold PRb.hindsightref05_Class.f
  repeat' split
  all_goals
    first
    | exact J0 _ (by symm; rw [decide_eq_true_eq]; omega)
    | exact J0 _ (by rw [Bool.eq_iff_iff, decide_eq_true_eq, beq_iff_eq]; omega)
theorem pcls2 (v : Int) (b : Bool) (hb : b = decide (48 ≤ v ∧ v ≤ 57)) : PRc.runes_Class.j2 1 v b = some (if 48 ≤ v ∧ v ≤ 57 then 3 else if v = 39 then 4 else if 33 ≤ v ∧ v ≤ 126 then 5 else 0) := by
  subst hb
  simp only [PRc.runes_Class.j2]
  by_cases h : 48 ≤ v ∧ v ≤ 57
  · rw [if_pos (decide_eq_true h), if_pos h]
  · rw [if_neg (by simpa using h), if_neg h]
    repeat' split
    all_goals first | rfl | (exfalso; omega)
theorem pcls1 (v : Int) (b : Bool) (hb : b = decide ((97 ≤ v ∧ v ≤ 122) ∨ (65 ≤ v ∧ v ≤ 90) ∨ v = 95)) : PRc.runes_Class.j1 2 v b = some (if (97 ≤ v ∧ v ≤ 122) ∨ (65 ≤ v ∧ v ≤ 90) ∨ v = 95 then 2 else if 48 ≤ v ∧ v ≤ 57 then 3 else if v = 39 then 4 else if 33 ≤ v ∧ v ≤ 126 then 5 else 0) := by
  subst hb
  rw [PRc.runes_Class.j1]
  by_cases h : (97 ≤ v ∧ v ≤ 122) ∨ (65 ≤ v ∧ v ≤ 90) ∨ v = 95
  · rw [if_pos (decide_eq_true h), if_pos h]
  · rw [if_neg (by rw [decide_eq_true_eq]; exact h), if_neg h]
    by_cases h48 : v ≥ 48
    · rw [if_pos h48]; exact pcls2 v _ (by rw [decide_eq_decide]; omega)
    · rw [if_neg h48]; exact pcls2 v _ (by symm; rw [decide_eq_false_iff_not]; omega)
set_option maxHeartbeats 1000000 in
theorem class_f (v : Int) : PRc.runes_Class.f 4 v = some (classZ v) := by
  have J0 : ∀ b : Bool, b = decide (v = 32 ∨ v = 9 ∨ v = 10 ∨ v = 13) → PRc.runes_Class.j0 4 v b = some (classZ v) := by
    intro b hb
    subst hb
    unfold classZ
    rw [PRc.runes_Class.j0]
    by_cases h : v = 32 ∨ v = 9 ∨ v = 10 ∨ v = 13
    · rw [if_pos (decide_eq_true h), if_pos h]
    · rw [if_neg (by rw [decide_eq_true_eq]; exact h), if_neg h]
      have up1 : ∀ b : Bool, b = decide ((97 ≤ v ∧ v ≤ 122) ∨ (65 ≤ v ∧ v ≤ 90) ∨ v = 95) → PRc.runes_Class.j1 3 v b = _ := fun b hb => (PRc.runes_Class.mono_l 2).2.1 _ _ _ (pcls1 v b hb)
      obtain ⟨R, hR⟩ : ∃ R : Int, (if (97 ≤ v ∧ v ≤ 122) ∨ (65 ≤ v ∧ v ≤ 90) ∨ v = 95 then 2 else if 48 ≤ v ∧ v ≤ 57 then 3 else if v = 39 then 4 else if 33 ≤ v ∧ v ≤ 126 then 5 else 0) = R := ⟨_, rfl⟩
      simp only [hR] at up1
      rw [hR]
      clear hR
      repeat' split
      all_goals
        first
        | exact up1 _ (by symm; rw [decide_eq_true_eq]; omega)
        | exact up1 _ (by symm; rw [decide_eq_false_iff_not]; omega)
        | exact up1 _ (by rw [decide_eq_decide]; omega)
        | exact up1 _ (by rw [Bool.eq_iff_iff, decide_eq_true_eq, beq_iff_eq]; omega)
  unfold PRc.runes_Class.f
  repeat' split
  all_goals
    first
    | exact J0 _ (by symm; rw [decide_eq_true_eq]; omega)
    | exact J0 _ (by rw [Bool.eq_iff_iff, decide_eq_true_eq, beq_iff_eq]; omega)
theorem class_walk (v : Int) (w : World) : Calls Tryd.prog 35 #[.int .i32 v] w fun e w' => e = .returned (.int .i64 (classZ v)) ∧ Drawn0 w w' :=
  PRc.runes_Class.calls 4 v _ w (class_f v)
theorem rclass_walk (v : Int) (w : World) : Calls Tryd.prog 36 #[.int .i64 v] w fun e w' => e = .returned (.int .i64 (classZ v)) ∧ Drawn0 w w' :=
  PRb.hindsightref05_Class.calls 4 v _ w (rclass_f v)

/-- A byte, folded. -/
def foldZ (v : Int) : Int := if 65 ≤ v ∧ v ≤ 90 then v + 32 else v
def foldS (s : ByteArray) : ByteArray := strOfNums ((bytesOf s).map foldZ)
theorem bytes_rd (s : ByteArray) (i : Nat) (h : i < s.size) : (bytesOf s).drop i = bt s (i : Int) :: (bytesOf s).drop (i + 1) := by
  have hl : i < (bytesOf s).length := by rw [bytesOf_length]; exact h
  rw [List.drop_eq_getElem_cons hl, ← rd_bytesOf]
  simp [rd, List.getD_eq_getElem?_getD, hl]
theorem rfold_f (s : ByteArray) (hs : (s.size : Int) ≤ 1000000) : ∃ k, PRb.hindsightref05_Fold.f k s = some (foldS s) := by
  have go : ∀ (m i : Nat) (acc : List Int), i + m = s.size → acc.length = i → ∃ k, PRb.hindsightref05_Fold.l0 k s acc (i : Int) = some (strOfNums (acc ++ ((bytesOf s).drop i).map foldZ)) := by
    intro m
    induction m with
    | zero =>
      intro i acc hi _
      refine ⟨1, ?_⟩
      simp only [PRb.hindsightref05_Fold.l0]
      rw [if_neg (by omega), List.drop_eq_nil_of_le (by rw [bytesOf_length]; omega)]
      simp
    | succ m ih =>
      intro i acc hi ha
      have hb := bt_range s (i : Int)
      obtain ⟨k, hk⟩ := ih (i + 1) (acc ++ [foldZ (bt s (i : Int))]) (by omega) (by simp; omega)
      refine ⟨k + 1, ?_⟩
      have hr : some (strOfNums (acc ++ ((bytesOf s).drop i).map foldZ)) = some (strOfNums (acc ++ [foldZ (bt s (i : Int))] ++ ((bytesOf s).drop (i + 1)).map foldZ)) := by
        rw [bytes_rd s i (by omega)]; simp
      rw [hr]
      have wi : wrap64 ((i : Int) + 1) = ((i + 1 : Nat) : Int) := by rw [wrap64_id (by omega) (by omega)]; omega
      simp only [PRb.hindsightref05_Fold.l0]
      rw [if_pos (by omega), if_pos (by omega), wi]
      unfold foldZ at hk ⊢
      by_cases h1 : bt s (i : Int) ≥ 65
      · rw [if_pos h1]
        by_cases h2 : bt s (i : Int) ≤ 90
        · rw [if_pos h2, if_pos (by omega), show (bt s (i : Int) + 32) % 256 = bt s (i : Int) + 32 by omega]
          rw [if_pos ⟨h1, h2⟩] at hk ⊢
          exact hk
        · rw [if_neg h2, if_pos (by omega)]
          rw [if_neg (fun h => h2 h.2)] at hk ⊢
          exact hk
      · rw [if_neg h1, if_pos (by omega)]
        rw [if_neg (fun h => h1 h.1)] at hk ⊢
        exact hk
  obtain ⟨k, hk⟩ := go s.size 0 [] (by omega) rfl
  exact ⟨k, by unfold PRb.hindsightref05_Fold.f; simpa [foldS] using hk⟩
theorem rfold_walk (s : ByteArray) (w : World) (hs : (s.size : Int) ≤ 1000000) : Calls Tryd.prog 38 #[.string s] w fun e w' => e = .returned (.string (foldS s)) ∧ Below w.heap.size w w' := by
  obtain ⟨k, hk⟩ := rfold_f s hs
  exact PRb.hindsightref05_Fold.calls k s _ w hk
end Go.Proofs.YtoclbmepgeelmaaDoor.Utf
