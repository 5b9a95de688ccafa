import Derived.Test.YtoclbmepgeelmaaDoorEnc
import Derived.Test.YtoclbmepgeelmaaDoorSplit
import Derived.WalkMore
import Derived.Test.YtoclbmepgeelmaaDoorPRbx2
import Derived.Test.YtoclbmepgeelmaaDoorPRcx1
import Derived.Lib.ConvBytes
import Derived.Lib.SmallJoins
import Derived.Test.YtoclbmepgeelmaaDoorPRbx1
namespace Go.Proofs.YtoclbmepgeelmaaDoor.Utf
set_option linter.unusedVariables false
set_option linter.unusedSimpArgs false
open Go.RowKit Go.Lib Go.Proofs.YtoclbmepgeelmaaDoorW.PrintWords Go.Proofs.YtoclbmepgeelmaaDoorW.PrintLast Go.Proofs.YtoclbmepgeelmaaDoorW.PrintMore

theorem take_rdN (s : List Int) (k : Nat) (h : k < s.length) : s.take (k + 1) = s.take k ++ [rd s (k : Int)] := by
  rw [List.take_succ_eq_append_getElem h]
  simp [rd, List.getD_eq_getElem?_getD, h]
/-- A point's class. -/
def classZ (v : Int) : Int :=
  if v = 32 ∨ v = 9 ∨ v = 10 ∨ v = 13 then 1
  else if (97 ≤ v ∧ v ≤ 122) ∨ (65 ≤ v ∧ v ≤ 90) ∨ v = 95 then 2
  else if 48 ≤ v ∧ v ≤ 57 then 3 else if v = 39 then 4 else if 33 ≤ v ∧ v ≤ 126 then 5 else 0
theorem rcls2 (v : Int) (b : Bool) (hb : b = decide (48 ≤ v ∧ v ≤ 57)) : PRb.hindsightref05_Class.j2 1 v b = some (if 48 ≤ v ∧ v ≤ 57 then 3 else if v = 39 then 4 else if 33 ≤ v ∧ v ≤ 126 then 5 else 0) := by
  subst hb
  simp only [PRb.hindsightref05_Class.j2]
  by_cases h : 48 ≤ v ∧ v ≤ 57
  · rw [if_pos (decide_eq_true h), if_pos h]
  · rw [if_neg (by simpa using h), if_neg h]
    repeat' split
    all_goals first | rfl | (exfalso; omega)
theorem rcls1 (v : Int) (b : Bool) (hb : b = decide ((97 ≤ v ∧ v ≤ 122) ∨ (65 ≤ v ∧ v ≤ 90) ∨ v = 95)) : PRb.hindsightref05_Class.j1 2 v b = some (if (97 ≤ v ∧ v ≤ 122) ∨ (65 ≤ v ∧ v ≤ 90) ∨ v = 95 then 2 else if 48 ≤ v ∧ v ≤ 57 then 3 else if v = 39 then 4 else if 33 ≤ v ∧ v ≤ 126 then 5 else 0) := by
  subst hb
  rw [PRb.hindsightref05_Class.j1]
  by_cases h : (97 ≤ v ∧ v ≤ 122) ∨ (65 ≤ v ∧ v ≤ 90) ∨ v = 95
  · rw [if_pos (decide_eq_true h), if_pos h]
  · rw [if_neg (by rw [decide_eq_true_eq]; exact h), if_neg h]
    by_cases h48 : v ≥ 48
    · rw [if_pos h48]; exact rcls2 v _ (by rw [decide_eq_decide]; omega)
    · rw [if_neg h48]; exact rcls2 v _ (by symm; rw [decide_eq_false_iff_not]; omega)
set_option maxHeartbeats 1000000 in
theorem rclass_f (v : Int) : PRb.hindsightref05_Class.f 4 v = some (classZ v) := by
  have J0 : ∀ b : Bool, b = decide (v = 32 ∨ v = 9 ∨ v = 10 ∨ v = 13) → PRb.hindsightref05_Class.j0 4 v b = some (classZ v) := by
    intro b hb
    subst hb
    unfold classZ
    rw [PRb.hindsightref05_Class.j0]
    by_cases h : v = 32 ∨ v = 9 ∨ v = 10 ∨ v = 13
    · rw [if_pos (decide_eq_true h), if_pos h]
    · rw [if_neg (by rw [decide_eq_true_eq]; exact h), if_neg h]
      have up1 : ∀ b : Bool, b = decide ((97 ≤ v ∧ v ≤ 122) ∨ (65 ≤ v ∧ v ≤ 90) ∨ v = 95) → PRb.hindsightref05_Class.j1 3 v b = _ := fun b hb => (PRb.hindsightref05_Class.mono_l 2).2.1 _ _ _ (rcls1 v b hb)
      obtain ⟨R, hR⟩ : ∃ R : Int, (if (97 ≤ v ∧ v ≤ 122) ∨ (65 ≤ v ∧ v ≤ 90) ∨ v = 95 then 2 else if 48 ≤ v ∧ v ≤ 57 then 3 else if v = 39 then 4 else if 33 ≤ v ∧ v ≤ 126 then 5 else 0) = R := ⟨_, rfl⟩
      simp only [hR] at up1
      rw [hR]
      clear hR
      repeat' split
      all_goals
        first
        | exact up1 _ (by symm; rw [decide_eq_true_eq]; omega)
        | exact up1 _ (by symm; rw [decide_eq_false_iff_not]; omega)
        | exact up1 _ (by rw [decide_eq_decide]; omega)
        | exact up1 _ (by rw [Bool.eq_iff_iff, decide_eq_true_eq, beq_iff_eq]; omega)
  unfold PRb.hindsightref05_Class.f
  repeat' split
  all_goals
    first
    | exact J0 _ (by symm; rw [decide_eq_true_eq]; omega)
    | exact J0 _ (by rw [Bool.eq_iff_iff, decide_eq_true_eq, beq_iff_eq]; omega)
theorem pcls2 (v : Int) (b : Bool) (hb : b = decide (48 ≤ v ∧ v ≤ 57)) : PRc.runes_Class.j2 1 v b = some (if 48 ≤ v ∧ v ≤ 57 then 3 else if v = 39 then 4 else if 33 ≤ v ∧ v ≤ 126 then 5 else 0) := by
  subst hb
  simp only [PRc.runes_Class.j2]
  by_cases h : 48 ≤ v ∧ v ≤ 57
  · rw [if_pos (decide_eq_true h), if_pos h]
  · rw [if_neg (by simpa using h), if_neg h]
    repeat' split
    all_goals first | rfl | (exfalso; omega)
theorem pcls1 (v : Int) (b : Bool) (hb : b = decide ((97 ≤ v ∧ v ≤ 122) ∨ (65 ≤ v ∧ v ≤ 90) ∨ v = 95)) : PRc.runes_Class.j1 2 v b = some (if (97 ≤ v ∧ v ≤ 122) ∨ (65 ≤ v ∧ v ≤ 90) ∨ v = 95 then 2 else if 48 ≤ v ∧ v ≤ 57 then 3 else if v = 39 then 4 else if 33 ≤ v ∧ v ≤ 126 then 5 else 0) := by
  subst hb
  rw [PRc.runes_Class.j1]
  by_cases h : (97 ≤ v ∧ v ≤ 122) ∨ (65 ≤ v ∧ v ≤ 90) ∨ v = 95
  · rw [if_pos (decide_eq_true h), if_pos h]
  · rw [if_neg (by rw [decide_eq_true_eq]; exact h), if_neg h]
    by_cases h48 : v ≥ 48
    · rw [if_pos h48]; exact pcls2 v _ (by rw [decide_eq_decide]; omega)
    · rw [if_neg h48]; exact pcls2 v _ (by symm; rw [decide_eq_false_iff_not]; omega)
set_option maxHeartbeats 1000000 in
theorem class_f (v : Int) : PRc.runes_Class.f 4 v = some (classZ v) := by
  have J0 : ∀ b : Bool, b = decide (v = 32 ∨ v = 9 ∨ v = 10 ∨ v = 13) → PRc.runes_Class.j0 4 v b = some (classZ v) := by
    intro b hb
    subst hb
    unfold classZ
    rw [PRc.runes_Class.j0]
    by_cases h : v = 32 ∨ v = 9 ∨ v = 10 ∨ v = 13
    · rw [if_pos (decide_eq_true h), if_pos h]
    · rw [if_neg (by rw [decide_eq_true_eq]; exact h), if_neg h]
      have up1 : ∀ b : Bool, b = decide ((97 ≤ v ∧ v ≤ 122) ∨ (65 ≤ v ∧ v ≤ 90) ∨ v = 95) → PRc.runes_Class.j1 3 v b = _ := fun b hb => (PRc.runes_Class.mono_l 2).2.1 _ _ _ (pcls1 v b hb)
      obtain ⟨R, hR⟩ : ∃ R : Int, (if (97 ≤ v ∧ v ≤ 122) ∨ (65 ≤ v ∧ v ≤ 90) ∨ v = 95 then 2 else if 48 ≤ v ∧ v ≤ 57 then 3 else if v = 39 then 4 else if 33 ≤ v ∧ v ≤ 126 then 5 else 0) = R := ⟨_, rfl⟩
      simp only [hR] at up1
      rw [hR]
      clear hR
      repeat' split
      all_goals
        first
        | exact up1 _ (by symm; rw [decide_eq_true_eq]; omega)
        | exact up1 _ (by symm; rw [decide_eq_false_iff_not]; omega)
        | exact up1 _ (by rw [decide_eq_decide]; omega)
        | exact up1 _ (by rw [Bool.eq_iff_iff, decide_eq_true_eq, beq_iff_eq]; omega)
  unfold PRc.runes_Class.f
  repeat' split
  all_goals
    first
    | exact J0 _ (by symm; rw [decide_eq_true_eq]; omega)
    | exact J0 _ (by rw [Bool.eq_iff_iff, decide_eq_true_eq, beq_iff_eq]; omega)
theorem class_walk (v : Int) (w : World) : Calls Tryd.prog 35 #[.int .i32 v] w fun e w' => e = .returned (.int .i64 (classZ v)) ∧ Drawn0 w w' :=
  PRc.runes_Class.calls 4 v _ w (class_f v)
theorem rclass_walk (v : Int) (w : World) : Calls Tryd.prog 36 #[.int .i64 v] w fun e w' => e = .returned (.int .i64 (classZ v)) ∧ Drawn0 w w' :=
  PRb.hindsightref05_Class.calls 4 v _ w (rclass_f v)

/-- A byte, folded. -/
def foldZ (v : Int) : Int := if 65 ≤ v ∧ v ≤ 90 then v + 32 else v
def foldS (s : ByteArray) : ByteArray := strOfNums ((bytesOf s).map foldZ)
theorem bytes_rd (s : ByteArray) (i : Nat) (h : i < s.size) : (bytesOf s).drop i = bt s (i : Int) :: (bytesOf s).drop (i + 1) := by
  have hl : i < (bytesOf s).length := by rw [bytesOf_length]; exact h
  rw [List.drop_eq_getElem_cons hl, ← rd_bytesOf]
  simp [rd, List.getD_eq_getElem?_getD, hl]
theorem rfold_f (s : ByteArray) (hs : (s.size : Int) ≤ 1000000) : ∃ k, PRb.hindsightref05_Fold.f k s = some (foldS s) := by
  have go : ∀ (m i : Nat) (acc : List Int), i + m = s.size → acc.length = i → ∃ k, PRb.hindsightref05_Fold.l0 k s acc (i : Int) = some (strOfNums (acc ++ ((bytesOf s).drop i).map foldZ)) := by
    intro m
    induction m with
    | zero =>
      intro i acc hi _
      refine ⟨1, ?_⟩
      simp only [PRb.hindsightref05_Fold.l0]
      rw [if_neg (by omega), List.drop_eq_nil_of_le (by rw [bytesOf_length]; omega)]
      simp
    | succ m ih =>
      intro i acc hi ha
      have hb := bt_range s (i : Int)
      obtain ⟨k, hk⟩ := ih (i + 1) (acc ++ [foldZ (bt s (i : Int))]) (by omega) (by simp; omega)
      refine ⟨k + 1, ?_⟩
      have hr : some (strOfNums (acc ++ ((bytesOf s).drop i).map foldZ)) = some (strOfNums (acc ++ [foldZ (bt s (i : Int))] ++ ((bytesOf s).drop (i + 1)).map foldZ)) := by
        rw [bytes_rd s i (by omega)]; simp
      rw [hr]
      have wi : wrap64 ((i : Int) + 1) = ((i + 1 : Nat) : Int) := by rw [wrap64_id (by omega) (by omega)]; omega
      simp only [PRb.hindsightref05_Fold.l0]
      rw [if_pos (by omega), if_pos (by omega), wi]
      unfold foldZ at hk ⊢
      by_cases h1 : bt s (i : Int) ≥ 65
      · rw [if_pos h1]
        by_cases h2 : bt s (i : Int) ≤ 90
        · rw [if_pos h2, if_pos (by omega), show (bt s (i : Int) + 32) % 256 = bt s (i : Int) + 32 by omega]
          rw [if_pos ⟨h1, h2⟩] at hk ⊢
          exact hk
        · rw [if_neg h2, if_pos (by omega)]
          rw [if_neg (fun h => h2 h.2)] at hk ⊢
          exact hk
      · rw [if_neg h1, if_pos (by omega)]
        rw [if_neg (fun h => h1 h.1)] at hk ⊢
        exact hk
  obtain ⟨k, hk⟩ := go s.size 0 [] (by omega) rfl
  exact ⟨k, by unfold PRb.hindsightref05_Fold.f; simpa [foldS] using hk⟩
theorem rfold_walk (s : ByteArray) (w : World) (hs : (s.size : Int) ≤ 1000000) : Calls Tryd.prog 38 #[.string s] w fun e w' => e = .returned (.string (foldS s)) ∧ Below w.heap.size w w' := by
  obtain ⟨k, hk⟩ := rfold_f s hs
  exact PRb.hindsightref05_Fold.calls k s _ w hk
end Go.Proofs.YtoclbmepgeelmaaDoor.Utf
namespace Go.Proofs.YtoclbmepgeelmaaDoor.Utf
set_option linter.unusedVariables false
set_option linter.unusedSimpArgs false
open Go.RowKit Go.Lib Go.Proofs.YtoclbmepgeelmaaDoorW.PrintWords Go.Proofs.YtoclbmepgeelmaaDoorW.PrintLast Go.Proofs.YtoclbmepgeelmaaDoorW.PrintMore

/-- Are bytes a name's, the first one's place told. -/
def nameOk : Bool → List Int → Bool
  | _, [] => true
  | f, c :: t => (classZ c == 2 || (classZ c == 3 && !f)) && nameOk false t
def nameE (s : ByteArray) : Int := if 20 < s.size then 2 else if s.size = 0 then 3 else if nameOk true (bytesOf s) then 0 else 3
def nameR (s : ByteArray) : ByteArray := if nameE s = 0 then foldS s else ⟨#[]⟩

theorem rname_f (s : ByteArray) : ∃ k, PRb.hindsightref05_Name.f k s = some (nameR s, nameE s) := by
  by_cases hlen : 20 < s.size
  · have e : nameE s = 2 := by simp [nameE, hlen]
    refine ⟨1, ?_⟩
    unfold PRb.hindsightref05_Name.f nameR
    rw [if_pos (by omega), e]; rfl
  by_cases h0 : s.size = 0
  · have e : nameE s = 3 := by simp [nameE, h0]
    refine ⟨1, ?_⟩
    unfold PRb.hindsightref05_Name.f nameR
    rw [if_neg (by omega), e]
    simp only [PRb.hindsightref05_Name.l0]
    rw [if_neg (by omega), if_pos (by omega)]; rfl
  obtain ⟨kf, hf⟩ := rfold_f s (by omega)
  have go : ∀ (m i : Nat), i + m = s.size → ∃ k, PRb.hindsightref05_Name.l0 k s (i : Int) = some (if nameOk (i == 0) ((bytesOf s).drop i) then (foldS s, 0) else (⟨#[]⟩, 3)) := by
    intro m
    induction m with
    | zero =>
      intro i hi
      refine ⟨kf + 1, ?_⟩
      simp only [PRb.hindsightref05_Name.l0]
      rw [if_neg (by omega), if_neg (by omega), List.drop_eq_nil_of_le (by rw [bytesOf_length]; omega), hf]
      simp [nameOk]
    | succ m ih =>
      intro i hi
      have hb := bt_range s (i : Int)
      obtain ⟨k, hk⟩ := ih (i + 1) (by omega)
      have wi : wrap64 ((i : Int) + 1) = ((i + 1 : Nat) : Int) := by rw [wrap64_id (by omega) (by omega)]; omega
      have hk4 : PRb.hindsightref05_Name.l0 (k + 4) s ((i + 1 : Nat) : Int) = _ := up (f := fun k => PRb.hindsightref05_Name.l0 k s ((i + 1 : Nat) : Int)) (fun k => PRb.hindsightref05_Name.mono_l k _ _) (show k ≤ k + 4 by omega) hk
      have hc : PRb.hindsightref05_Class.f (k + 4) (bt s (i : Int)) = _ := up (f := fun k => PRb.hindsightref05_Class.f k (bt s (i : Int))) (PRb.hindsightref05_Class.mono _) (show 4 ≤ k + 4 by omega) (rclass_f _)
      obtain ⟨q, hq⟩ : ∃ q, k + 4 = q := ⟨_, rfl⟩
      rw [hq] at hk4 hc
      refine ⟨q + 1, ?_⟩
      simp only [PRb.hindsightref05_Name.l0]
      rw [if_pos (by omega), if_pos (by omega), wrap64_id (n := bt s (i : Int)) (by omega) (by omega), hc, Option.bind_some, wi, hk4, bytes_rd s i (by omega)]
      obtain ⟨c, hcc⟩ : ∃ c, classZ (bt s (i : Int)) = c := ⟨_, rfl⟩
      simp only [nameOk, hcc]
      have e1 : (i + 1 == 0) = false := by simp
      rw [e1]
      by_cases hi0 : i = 0
      · subst hi0
        by_cases c2 : c = 2
        · simp [c2]
        · by_cases c3 : c = 3
          · simp [c3]
          · simp [c2, c3]
      · have e2 : (i == 0) = false := by simpa using hi0
        have e3 : ¬ (i : Int) = 0 := by omega
        rw [e2]
        by_cases c2 : c = 2
        · simp [c2, hi0]
        · by_cases c3 : c = 3
          · simp [c3, hi0]
          · simp [c2, c3]
  obtain ⟨k, hk⟩ := go s.size 0 (by omega)
  refine ⟨k, ?_⟩
  unfold PRb.hindsightref05_Name.f nameR nameE
  rw [if_neg (by omega), if_neg hlen, if_neg h0]
  rw [show ((0 : Nat) : Int) = 0 from rfl] at hk
  rw [hk]
  simp only [List.drop_zero, beq_self_eq_true]
  split <;> rfl
theorem rname_walk (s : ByteArray) (w : World) : Calls Tryd.prog 34 #[.string s] w fun e w' => e = .returned (.tuple #[.string (nameR s), .int .i64 (nameE s)]) ∧ Below w.heap.size w w' := by
  obtain ⟨k, hk⟩ := rname_f s
  exact PRb.hindsightref05_Name.calls k s _ _ w hk
end Go.Proofs.YtoclbmepgeelmaaDoor.Utf
namespace Go.Proofs.YtoclbmepgeelmaaDoor.Utf
set_option linter.unusedVariables false
set_option linter.unusedSimpArgs false
open Go.RowKit Go.Lib Go.Proofs.YtoclbmepgeelmaaDoorW.PrintWords Go.Proofs.YtoclbmepgeelmaaDoorW.PrintLast Go.Proofs.YtoclbmepgeelmaaDoorW.PrintMore

/-- A row of bytes that came of a text, in block B: the first bytes are xs. -/
def BRow (W : World) (B : Nat) (xs : List Int) : Prop :=
  ∃ cs : Array Value, ∃ N, W.heap[B]? = some (.cells cs 5 (N, N + 1)) ∧ cs.size = N ∧ xs.length ≤ N ∧ ∀ j, j < xs.length → cs[j]? = some (.int .u8 (xs.getD j 0))
theorem BRow.cell {W : World} {B : Nat} {xs : List Int} (h : BRow W B xs) (j : Nat) (hj : j < xs.length) : W.cell? ⟨B, j, none⟩ = some (.int .u8 (xs.getD j 0)) ∧ W.frozen? ⟨B, j, none⟩ = false := by
  obtain ⟨cs, N, h1, h2, h3, h4⟩ := h
  constructor
  · simp only [World.cell?, h1]; simpa using h4 j hj
  · simp only [World.frozen?, h1]
    have : ¬ N ≤ j := by omega
    simp [this]
theorem BRow.set {W : World} {B : Nat} {xs : List Int} (h : BRow W B xs) (j : Nat) (hj : j < xs.length) (v : Int) : BRow (W.setCell ⟨B, j, none⟩ (.int .u8 v)) B (xs.set j v) := by
  obtain ⟨cs, N, h1, h2, h3, h4⟩ := h
  refine ⟨cs.setIfInBounds j (.int .u8 v), N, ?_, by simpa using h2, by simpa using h3, ?_⟩
  · simp only [World.setCell, Array.getElem?_modify]
    rw [if_pos trivial, h1]; rfl
  · intro q hq
    rw [List.length_set] at hq
    by_cases e : j = q
    · subst e
      rw [Array.getElem?_setIfInBounds_self_of_lt (by omega)]
      simp [List.getD_eq_getElem?_getD, hj]
    · rw [Array.getElem?_setIfInBounds_ne e, h4 q hq, List.getD_eq_getElem?_getD, List.getD_eq_getElem?_getD, List.getElem?_set_ne e]
theorem BRow.new (W : World) (s : ByteArray) : BRow (bytesWorld W 5 s) W.heap.size (bytesOf s) := by
  refine ⟨_, _, bytesWorld_at_new W 5 s, rfl, ?_, ?_⟩
  · rw [bytesOf_length]
    simp [bytesCells]
  · intro j hj
    rw [bytesOf_length] at hj
    have hc := bytesWorld_cell W 5 s j hj
    simp only [World.cell?, bytesWorld_at_new] at hc
    have e : (bytesOf s).getD j 0 = ((s.data.toList.getD j 0).toNat : Int) := by
      have hl : j < s.data.toList.length := by simpa using hj
      simp [bytesOf, List.getD_eq_getElem?_getD, List.getElem?_eq_getElem hl]
    rw [e]
    simpa using hc

/-- The bytes, the first i of them folded. -/
def foldTo (s : ByteArray) (i : Nat) : List Int := ((bytesOf s).take i).map foldZ ++ (bytesOf s).drop i
theorem foldTo_zero (s : ByteArray) : foldTo s 0 = bytesOf s := by simp [foldTo]
theorem foldTo_length (s : ByteArray) (i : Nat) : (foldTo s i).length = s.size := by
  have := bytesOf_length s
  simp [foldTo]; omega
theorem foldTo_at (s : ByteArray) (i : Nat) (h : i < s.size) : (foldTo s i).getD i 0 = bt s (i : Int) := by
  have hl := bytesOf_length s
  have h1 : (((bytesOf s).take i).map foldZ).length = i := by simp; omega
  rw [List.getD_eq_getElem?_getD, foldTo, List.getElem?_append_right (by omega), h1, Nat.sub_self, bytes_rd s i h]
  rfl
theorem foldTo_step (s : ByteArray) (i : Nat) (h : i < s.size) : foldTo s (i + 1) = (foldTo s i).set i (foldZ (bt s (i : Int))) := by
  have hl := bytesOf_length s
  have h1 : (((bytesOf s).take i).map foldZ).length = i := by simp; omega
  have hi : i < (bytesOf s).length := by omega
  have ht : (bytesOf s).take (i + 1) = (bytesOf s).take i ++ [bt s (i : Int)] := by
    rw [take_rdN _ i hi, rd_bytesOf]
  rw [foldTo, foldTo, ht, List.set_append_right _ _ (by omega), h1, Nat.sub_self, bytes_rd s i h]
  simp
theorem foldTo_all (s : ByteArray) : strOfNums (foldTo s s.size) = foldS s := by
  have hl := bytesOf_length s
  rw [foldTo, List.take_of_length_le (by omega), List.drop_eq_nil_of_le (by omega), List.append_nil, foldS]

set_option maxHeartbeats 4000000 in
set_option maxRecDepth 100000 in
theorem fold_walk (s : ByteArray) (w : World) (hs : s.size ≤ 140737488351232) : Calls Tryd.prog 37 #[.string s] w fun e w' => e = .returned (.string (foldS s)) ∧ Below w.heap.size w w' := by
  have hcv := Go.Lib.run_convert_string_bytes (P := Tryd.prog) w 9 70 5 s Tryd.underlying9 Tryd.underlying70 Tryd.underlying5
  obtain ⟨W, hW⟩ : ∃ W, bytesWorld w 5 s = W := ⟨_, rfl⟩
  have hb : Below w.heap.size w W := by rw [← hW]; exact Go.Joins.below_bytesWorld _ _ _ _ (Nat.le_refl _)
  have hr : BRow W w.heap.size (bytesOf s) := by rw [← hW]; exact BRow.new w s
  have hsz : w.heap.size < W.heap.size := by rw [← hW, bytesWorld_size]; omega
  rw [hW] at hcv
  obtain ⟨C, hC⟩ : ∃ C, grownCap w s.size 0 5 = C := ⟨_, rfl⟩
  rw [hC] at hcv
  obtain ⟨B, hB⟩ : ∃ B, w.heap.size = B := ⟨_, rfl⟩
  rw [hB] at hcv hr hsz
  have HR := Aside0.mk hr
  have HB := Aside0.mk hb
  clear hr hb hW hC
  go_enter Tryd.func37, Tryd.ntmps37
  go_wp2
  go_loopg [10] (s.size + 1) (fun gk v10 wx => ∃ j : Int, v10 = .int .i64 j ∧ 0 ≤ j ∧ j ≤ s.size ∧ s.size - j.toNat < gk ∧ Aside0 (BRow wx B (foldTo s j.toNat)) ∧ Aside0 (Below w.heap.size w wx))
  case atStart => exact ⟨0, by go_num, by omega, by omega, by omega, ⟨by rw [show (0 : Int).toNat = 0 from rfl, foldTo_zero]; exact HR.out⟩, HB⟩
  case round =>
    clear HR HB
    obtain ⟨j, rfl, hj0, hj1, hg, HR, HB⟩ := hrel
    cases gk with
    | zero => omega
    | succ k1 =>
      by_cases cj : j < (s.size : Int)
      · have dj := decide_eq_true (p := j < (s.size : Int)) cj
        obtain ⟨cc, cf⟩ := HR.out.cell j.toNat (by rw [foldTo_length]; omega)
        rw [foldTo_at s j.toNat (by omega), Int.toNat_of_nonneg hj0] at cc
        have hb := bt_range s j
        have hstep := foldTo_step s j.toNat (by omega)
        rw [Int.toNat_of_nonneg hj0] at hstep
        obtain ⟨c, hc⟩ : ∃ c, bt s j = c := ⟨_, rfl⟩
        rw [hc] at cc hb hstep
        by_cases c65 : 65 ≤ c ∧ c ≤ 90
        · have d1 := decide_eq_true (p := 65 ≤ c) c65.1
          have d2 := decide_eq_true (p := c ≤ 90) c65.2
          have hset := HR.out.set j.toNat (by rw [foldTo_length]; omega) (c + 97 - 65)
          rw [← show foldZ c = c + 97 - 65 by unfold foldZ; rw [if_pos c65]; omega, ← hstep, show foldZ c = c + 97 - 65 by unfold foldZ; rw [if_pos c65]; omega] at hset
          have HS := Aside0.mk hset
          clear hset hstep
          go_wp2
          go_roundg k1
          case measure => omega
          case rel => exact ⟨j + 1, by go_num, by omega, by omega, by omega, ⟨by rw [show (j + 1).toNat = j.toNat + 1 by omega]; exact HS.out⟩, ⟨HB.out.setCell (by show _ ≤ B; omega) _⟩⟩
        · have hkeep : BRow wr B (foldTo s (j.toNat + 1)) := by
            have : foldTo s (j.toNat + 1) = foldTo s j.toNat := by
              rw [hstep, show foldZ c = c by unfold foldZ; rw [if_neg c65]]
              have hl : j.toNat < (foldTo s j.toNat).length := by rw [foldTo_length]; omega
              have hg := foldTo_at s j.toNat (by omega)
              rw [Int.toNat_of_nonneg hj0, hc, List.getD_eq_getElem?_getD, List.getElem?_eq_getElem hl] at hg
              simp only [Option.getD_some] at hg
              rw [← hg, List.set_getElem_self]
            rw [this]; exact HR.out
          have HS := Aside0.mk hkeep
          clear hkeep hstep
          by_cases c1 : 65 ≤ c
          · have d1 := decide_eq_true (p := 65 ≤ c) c1
            have d2 := decide_eq_false (p := c ≤ 90) (by omega)
            go_wp2
            go_roundg k1
            case measure => omega
            case rel => exact ⟨j + 1, by go_num, by omega, by omega, by omega, ⟨by rw [show (j + 1).toNat = j.toNat + 1 by omega]; exact HS.out⟩, HB⟩
          · have d1 := decide_eq_false (p := 65 ≤ c) c1
            go_wp2
            go_roundg k1
            case measure => omega
            case rel => exact ⟨j + 1, by go_num, by omega, by omega, by omega, ⟨by rw [show (j + 1).toNat = j.toNat + 1 by omega]; exact HS.out⟩, HB⟩
      · have dj := decide_eq_false (p := j < (s.size : Int)) cj
        have hr : ReadsInt wr .u8 (some ⟨B, 0, none⟩) s.size (foldTo s j.toNat) := by
          refine ⟨foldTo_length _ _, by omega, fun hn => ⟨⟨B, 0, none⟩, rfl, fun q hq => ?_⟩⟩
          have := (HR.out.cell q (by rw [foldTo_length]; exact hq)).1
          simpa [add_at] using this
        have cv := string_of_reads (P := Tryd.prog) (c := C) (src := 70) (dst := 9) (e := 5) Tryd.underlying70 Tryd.underlying5 Tryd.underlying9 hr
        rw [show j.toNat = s.size by omega, foldTo_all] at cv
        clear hr HR
        go_wp2
        go_ret
        exact ⟨rfl, by first | exact HB.out | (rw [← hB]; exact HB.out)⟩
end Go.Proofs.YtoclbmepgeelmaaDoor.Utf
namespace Go.Proofs.YtoclbmepgeelmaaDoor.Utf
set_option linter.unusedVariables false
set_option linter.unusedSimpArgs false
open Go.RowKit Go.Lib Go.Proofs.YtoclbmepgeelmaaDoorW.PrintWords Go.Proofs.YtoclbmepgeelmaaDoorW.PrintLast Go.Proofs.YtoclbmepgeelmaaDoorW.PrintMore

/-- What a range over a text yields at a place: a byte below 128 itself; else a point from 128 on. -/
theorem decode_cases (s : ByteArray) (p : Nat) (h : p < s.size) :
    (bt s (p : Int) < 128 ∧ Utf8.decode s p = ((bt s (p : Int)).toNat, 1)) ∨ (128 ≤ bt s (p : Int) ∧ 128 ≤ (Utf8.decode s p).1 ∧ 1 ≤ (Utf8.decode s p).2) := by
  have hb : bt s (p : Int) = ((s[p]'h).toNat : Int) := by
    unfold bt
    rw [dif_pos (show (p : Int).toNat < s.size by omega)]
    rfl
  by_cases ha : (s[p]'h).toNat < 128
  · left
    refine ⟨by omega, ?_⟩
    rw [decode_ascii s p h ha, hb]; rfl
  · right
    obtain ⟨h1, h2⟩ := decode_high s p h (by omega)
    exact ⟨by omega, h1, h2⟩
theorem class_high (v : Int) (h : 127 ≤ v) : classZ v = 0 := by
  unfold classZ
  repeat' split
  all_goals first | rfl | (exfalso; omega)

set_option maxHeartbeats 4000000 in
set_option maxRecDepth 100000 in
theorem name_walk (s : ByteArray) (w : World) :
    Calls Tryd.prog 33 #[.string s] w fun e w' => e = .returned (.tuple #[.string (nameR s), .int .i64 (nameE s)]) ∧ Below w.heap.size w w' := by
  by_cases hlen : 20 < s.size
  · have e : nameE s = 2 := by simp [nameE, hlen]
    have r : nameR s = ⟨#[]⟩ := by simp [nameR, e]
    rw [e, r]
    have d := decide_eq_true (p := (20 : Int) < (s.size : Int)) (by omega)
    clear e r
    go_enter Tryd.func33, Tryd.ntmps33
    go_wp2
    go_ret2
    exact ⟨rfl, Below.refl _ _⟩
  have d := decide_eq_false (p := (20 : Int) < (s.size : Int)) (by omega)
  have cF := fun W => fold_walk s W (by omega)
  have CF := Aside0.mk cF
  have hN : nameE s = (if s.size = 0 then 3 else if nameOk true (bytesOf s) then 0 else 3) := by unfold nameE; rw [if_neg hlen]
  obtain ⟨E, hE⟩ : ∃ E, nameE s = E := ⟨_, rfl⟩
  obtain ⟨R, hR⟩ : ∃ R, nameR s = R := ⟨_, rfl⟩
  have hRR : R = if E = 0 then foldS s else ⟨#[]⟩ := by rw [← hR, ← hE]; rfl
  rw [hE] at hN
  rw [hE, hR]
  have HN := Aside0.mk hN
  have HRR := Aside0.mk hRR
  clear hE hR hN hRR cF
  go_enter Tryd.func33, Tryd.ntmps33
  go_wp2_with fail
  go_loopg [] (s.size + 1) (fun gk wx => ∃ p : Nat, Aside0 (wx.heap[w.heap.size]? = some (.stringIter s p)) ∧ Aside0 (Below w.heap.size w wx) ∧ s.size - p < gk ∧ p ≤ s.size ∧ Aside0 (nameOk true (bytesOf s) = nameOk (p == 0) ((bytesOf s).drop p)))
  case atStart => exact ⟨0, ⟨World.iter_heap w s 0⟩, ⟨below_alloc (Below.refl _ _) _⟩, by omega, by omega, ⟨by simp⟩⟩
  case round =>
    obtain ⟨p, HI, HB, hg, hp0, HO⟩ := hrel
    cases gk with
    | zero => omega
    | succ k1 =>
      by_cases hp : p < s.size
      · have hnx : ∀ ty, (Instr.next (.pointer (some ⟨w.heap.size, 0, none⟩)) true ty).run Tryd.prog wr = _ := fun ty => Lib.run_next_any_at wr w.heap.size s p ty HI.out hp
        have hd := decode_cases s p hp
        have hst : nameOk (p == 0) ((bytesOf s).drop p) = ((classZ (bt s (p : Int)) == 2 || (classZ (bt s (p : Int)) == 3 && !(p == 0))) && nameOk false ((bytesOf s).drop (p + 1))) := by rw [bytes_rd s p hp]; rfl
        obtain ⟨⟨r, n⟩, hrn⟩ : ∃ d, Utf8.decode s p = d := ⟨_, rfl⟩
        simp only [hrn] at hnx hd
        have HO2 := Aside0.mk (HO.out.trans hst)
        clear hst HO hrn
        have HI2 := Aside0.mk (Lib.iterAt_heap wr w.heap.size s p (p + n) HI.out)
        have HB2 := Aside0.mk (Lib.below_iterAt HB.out (k := w.heap.size) (by omega) s (p + n))
        obtain ⟨wi, hwi⟩ : ∃ wi, wr.iterAt w.heap.size s (p + n) = wi := ⟨_, rfl⟩
        rw [hwi] at hnx HI2 HB2
        clear hwi HI HB
        have cc : classZ (r : Int) = classZ (bt s (p : Int)) := by
          rcases hd with ⟨h1, h2⟩ | ⟨h1, h2, h3⟩
          · simp only [Prod.mk.injEq] at h2
            have := bt_range s (p : Int)
            rw [show (r : Int) = bt s (p : Int) by omega]
          · rw [class_high _ (by omega), class_high _ (by omega)]
        have hn : classZ (bt s (p : Int)) ≠ 0 → n = 1 := fun h => by
          rcases hd with ⟨h1, h2⟩ | ⟨h1, h2, h3⟩
          · simp only [Prod.mk.injEq] at h2; exact h2.2
          · exact absurd (class_high _ (by omega)) h
        rw [← cc] at HO2 hn
        have cW := fun W => class_walk (r : Int) W
        obtain ⟨c, hc⟩ : ∃ c, classZ (r : Int) = c := ⟨_, rfl⟩
        rw [hc] at HO2 hn cW
        have CW := Aside0.mk cW
        clear cW hd cc hc
        have go : (c ≠ 2 ∧ c ≠ 3) ∨ (c = 3 ∧ p = 0) ∨ (c = 3 ∧ p ≠ 0) ∨ c = 2 := by omega
        rcases go with ⟨g2, g3⟩ | ⟨g3, gp⟩ | ⟨g3, gp⟩ | g2
        · have b2 : (c != 2) = true := by simpa using g2
          have b3 : (c != 3) = true := by simpa using g3
          have hbad : nameOk true (bytesOf s) = false := by rw [HO2.out]; simp [g2, g3]
          have hE := HN.out
          rw [if_neg (by omega), hbad] at hE
          simp only [Bool.false_eq_true, ↓reduceIte] at hE
          have hR := HRR.out
          rw [hE] at hR
          simp only [show ¬ (3 : Int) = 0 by omega, ↓reduceIte] at hR
          subst hE hR
          clear HN HRR hn
          go_wp2_with (go_at_call 35; refine (CW.out _).mono ?_; rintro e w2 ⟨rfl, ⟨nd, rfl⟩⟩)
          go_ret2
          exact ⟨rfl, pw_below_drewN HB2.out nd⟩
        · subst g3 gp
          have hbad : nameOk true (bytesOf s) = false := by rw [HO2.out]; simp
          have hE := HN.out
          rw [if_neg (by omega), hbad] at hE
          simp only [Bool.false_eq_true, ↓reduceIte] at hE
          have hR := HRR.out
          rw [hE] at hR
          simp only [show ¬ (3 : Int) = 0 by omega, ↓reduceIte] at hR
          subst hE hR
          clear HN HRR hn
          go_wp2_with (go_at_call 35; refine (CW.out _).mono ?_; rintro e w2 ⟨rfl, ⟨nd, rfl⟩⟩)
          go_ret2
          exact ⟨rfl, pw_below_drewN HB2.out nd⟩
        · subst g3
          obtain rfl := hn (by omega)
          have bp : ((p : Int) == 0) = false := by simpa using gp
          have bp2 : (p == 0) = false := by simpa using gp
          have HO3 : Aside0 (nameOk true (bytesOf s) = nameOk ((p + 1) == 0) ((bytesOf s).drop (p + 1))) := ⟨by rw [HO2.out, bp2]; simp⟩
          clear hn HO2
          go_wp2_with (go_at_call 35; refine (CW.out _).mono ?_; rintro e w2 ⟨rfl, ⟨nd, rfl⟩⟩)
          go_roundg k1
          case measure => omega
          case rel => exact ⟨p + 1, HI2, ⟨pw_below_drewN HB2.out nd⟩, by omega, by omega, HO3⟩
        · subst g2
          obtain rfl := hn (by omega)
          have HO3 : Aside0 (nameOk true (bytesOf s) = nameOk ((p + 1) == 0) ((bytesOf s).drop (p + 1))) := ⟨by rw [HO2.out]; simp⟩
          clear hn HO2
          go_wp2_with (go_at_call 35; refine (CW.out _).mono ?_; rintro e w2 ⟨rfl, ⟨nd, rfl⟩⟩)
          go_roundg k1
          case measure => omega
          case rel => exact ⟨p + 1, HI2, ⟨pw_below_drewN HB2.out nd⟩, by omega, by omega, HO3⟩
      · have hnx : ∀ ty, (Instr.next (.pointer (some ⟨w.heap.size, 0, none⟩)) true ty).run Tryd.prog wr = _ := fun ty => Lib.run_next_end_at wr w.heap.size s p ty HI.out hp
        have hok : nameOk true (bytesOf s) = true := by rw [HO.out, List.drop_eq_nil_of_le (by rw [bytesOf_length]; omega)]; rfl
        by_cases h0 : s.size = 0
        · have hE := HN.out
          rw [if_pos h0] at hE
          have hR := HRR.out
          rw [hE] at hR
          simp only [show ¬ (3 : Int) = 0 by omega, ↓reduceIte] at hR
          subst hE hR
          have hs0 : s = ⟨#[]⟩ := by
            have : s.data.toList = [] := List.eq_nil_of_length_eq_zero (by simpa using h0)
            exact ByteArray.ext (Array.toList_inj.1 this)
          have bs : (s.toList == []) = true := by rw [hs0, ByteArray.toList_eq]; rfl
          have bs2 : s.toList = [] := by rw [hs0, ByteArray.toList_eq]
          clear HN HRR HO hok
          go_wp2_with fail
          go_ret2
          exact ⟨rfl, HB.out⟩
        · have hE := HN.out
          rw [if_neg h0, hok] at hE
          simp only [↓reduceIte] at hE
          have hR := HRR.out
          rw [hE] at hR
          simp only [↓reduceIte] at hR
          subst hE hR
          have bs2 : ¬ s.toList = [] := by
            rw [ByteArray.toList_eq]
            intro h
            have := congrArg List.length h
            simp at this
            exact h0 (by rw [this]; rfl)
          have bs : (s.toList == []) = false := by simpa using bs2
          clear HN HRR HO hok
          go_wp2_with (go_at_call 37; refine (CF.out _).mono ?_; rintro e w2 ⟨rfl, hb⟩)
          go_ret2
          exact ⟨rfl, below_step HB.out hb⟩
end Go.Proofs.YtoclbmepgeelmaaDoor.Utf
namespace Go.Proofs.YtoclbmepgeelmaaDoor.Utf
set_option linter.unusedVariables false
set_option linter.unusedSimpArgs false
open Go.RowKit Go.Lib Go.Proofs.YtoclbmepgeelmaaDoorW.PrintWords Go.Proofs.YtoclbmepgeelmaaDoorW.PrintLast Go.Proofs.YtoclbmepgeelmaaDoorW.PrintMore

def digitsOk (l : List Int) : Bool := l.all fun c => decide (48 ≤ c ∧ c ≤ 57)
def dv : Int → List Int → Int
  | a, [] => a
  | a, c :: t => dv (10 * a + (c - 48)) t
theorem dv_le : ∀ (l : List Int) (a : Int), 0 ≤ a → digitsOk l = true → a ≤ dv a l
  | [], a, _, _ => by simp [dv]
  | c :: t, a, ha, h => by
    simp only [digitsOk, List.all_cons, Bool.and_eq_true, decide_eq_true_eq] at h
    have := dv_le t (10 * a + (c - 48)) (by omega) h.2
    simp only [dv]; omega
/-- What a run of digits is: its number and its error, from a state on. -/
def numOf (e n : Int) (l : List Int) : Int × Int :=
  if digitsOk l then (if e = 0 ∧ dv n l ≤ 9223372036854775807 then (dv n l, 0) else (0, 21)) else (0, 3)
def numRE (s : ByteArray) : Int × Int := if s.size = 0 then (0, 3) else numOf 0 0 (bytesOf s)
theorem numOf_cons_bad {e n c : Int} {t : List Int} (h : ¬ (48 ≤ c ∧ c ≤ 57)) : numOf e n (c :: t) = (0, 3) := by
  simp [numOf, digitsOk, h]
theorem numOf_over {n : Int} {c : Int} {t : List Int} {e : Int} (hn : 0 ≤ n) (h : 48 ≤ c ∧ c ≤ 57) (hov : 9223372036854775807 < 10 * n + (c - 48)) : numOf e n (c :: t) = numOf 21 n t := by
  unfold numOf
  have e1 : digitsOk (c :: t) = digitsOk t := by simp [digitsOk, h]
  rw [e1]
  split
  · rename_i hd
    have := dv_le t (10 * n + (c - 48)) (by omega) hd
    rw [if_neg (by simp only [dv]; omega), if_neg (by omega)]
  · rfl
theorem numOf_step {n : Int} {c : Int} {t : List Int} {e : Int} (h : 48 ≤ c ∧ c ≤ 57) : numOf e n (c :: t) = numOf e (10 * n + (c - 48)) t := by
  unfold numOf
  have e1 : digitsOk (c :: t) = digitsOk t := by simp [digitsOk, h]
  rw [e1]; rfl
theorem numOf_twice {n m : Int} {t : List Int} : numOf 21 n t = numOf 21 m t := by
  unfold numOf
  split
  · rw [if_neg (by omega), if_neg (by omega)]
  · rfl

theorem rnum_f (s : ByteArray) (hs : (s.size : Int) ≤ 1000000) : ∃ k, PRb.hindsightref05_Number.f k s = some (numRE s) := by
  have go : ∀ (m i : Nat), i + m = s.size → 0 < s.size → ∀ (n e : Int), 0 ≤ n → n ≤ 9223372036854775807 → (e = 0 ∨ e = 21) → ∃ k, PRb.hindsightref05_Number.l0 k s n e (i : Int) = some (numOf e n ((bytesOf s).drop i)) := by
    intro m
    induction m with
    | zero =>
      intro i hi h0 n e hn0 hn1 he
      refine ⟨1, ?_⟩
      simp only [PRb.hindsightref05_Number.l0]
      rw [if_neg (by omega), if_neg (by omega), List.drop_eq_nil_of_le (by rw [bytesOf_length]; omega)]
      rcases he with rfl | rfl
      · simp [numOf, digitsOk, dv, hn1]
      · simp [numOf, digitsOk]
    | succ m ih =>
      intro i hi h0 n e hn0 hn1 he
      have hb := bt_range s (i : Int)
      have wi : wrap64 ((i : Int) + 1) = ((i + 1 : Nat) : Int) := by rw [wrap64_id (by omega) (by omega)]; omega
      rw [bytes_rd s i (by omega)]
      obtain ⟨c, hc⟩ : ∃ c, bt s (i : Int) = c := ⟨_, rfl⟩
      rw [hc] at hb ⊢
      have wc : wrap64 (wrap64 c - 48) = c - 48 := by rw [wrap64_id (n := c) (by omega) (by omega), wrap64_id (by omega) (by omega)]
      by_cases hd : 48 ≤ c ∧ c ≤ 57
      · -- a digit
        have jf : ∀ k, PRb.hindsightref05_Number.l0 (k + 1) s n e (i : Int) = PRb.hindsightref05_Number.j1 k s n e (i : Int) (c - 48) false := fun k => by
          simp only [PRb.hindsightref05_Number.l0]
          rw [if_pos (by omega), if_pos (by omega), hc, wc, if_neg (by omega), decide_eq_false (by omega)]
        by_cases hov : 9223372036854775807 < 10 * n + (c - 48)
        · obtain ⟨k, hk⟩ := ih (i + 1) (by omega) h0 n 21 hn0 hn1 (.inr rfl)
          refine ⟨k + 1 + 1 + 1, ?_⟩
          rw [jf, numOf_over hn0 hd hov]
          simp only [PRb.hindsightref05_Number.j1]
          rw [if_neg (by simp)]
          have j2t : PRb.hindsightref05_Number.j2 (k + 1) s n e (i : Int) (c - 48) true = some (numOf 21 n ((bytesOf s).drop (i + 1))) := by
            simp only [PRb.hindsightref05_Number.j2]
            rw [if_pos trivial, if_neg (by omega), wi, hk]
          by_cases g1 : n > 922337203685477580
          · rw [if_pos g1, j2t]
          · rw [if_neg g1, if_pos (by omega), decide_eq_true (by omega), j2t]
        · obtain ⟨k, hk⟩ : ∃ k, PRb.hindsightref05_Number.l0 k s (if e = 0 then 10 * n + (c - 48) else n) e ((i + 1 : Nat) : Int) = some (numOf e (if e = 0 then 10 * n + (c - 48) else n) ((bytesOf s).drop (i + 1))) := by
            apply ih (i + 1) (by omega) h0 _ e _ _ he
            · split <;> omega
            · split <;> omega
          refine ⟨k + 1 + 1 + 1, ?_⟩
          rw [jf, numOf_step hd]
          simp only [PRb.hindsightref05_Number.j1]
          rw [if_neg (by simp)]
          have j2f : PRb.hindsightref05_Number.j2 (k + 1) s n e (i : Int) (c - 48) false = some (numOf e (10 * n + (c - 48)) ((bytesOf s).drop (i + 1))) := by
            simp only [PRb.hindsightref05_Number.j2]
            rw [if_neg (by simp)]
            rcases he with rfl | rfl
            · rw [if_pos rfl, wi, wrap64_id (n := 10 * n) (by omega) (by omega), wrap64_id (n := 10 * n + (c - 48)) (by omega) (by omega)]
              simpa using hk
            · rw [if_neg (by omega), wi]
              rw [if_neg (by omega)] at hk
              rw [hk, numOf_twice]
          rw [if_neg (by omega)]
          by_cases g2 : n = 922337203685477580
          · rw [if_pos g2, decide_eq_false (by omega), j2f]
          · rw [if_neg g2, j2f]
      · refine ⟨2, ?_⟩
        rw [numOf_cons_bad hd]
        simp only [PRb.hindsightref05_Number.l0]
        rw [if_pos (by omega), if_pos (by omega), hc, wc]
        by_cases h1 : c - 48 < 0
        · rw [if_pos h1]
          simp only [PRb.hindsightref05_Number.j1]
          rw [if_pos trivial]
        · rw [if_neg h1, decide_eq_true (by omega)]
          simp only [PRb.hindsightref05_Number.j1]
          rw [if_pos trivial]
  by_cases h0 : s.size = 0
  · refine ⟨1, ?_⟩
    unfold PRb.hindsightref05_Number.f numRE
    simp only [PRb.hindsightref05_Number.l0]
    rw [if_neg (by omega), if_pos (by omega), if_pos h0]
  · obtain ⟨k, hk⟩ := go s.size 0 (by omega) (by omega) 0 0 (by omega) (by omega) (.inl rfl)
    refine ⟨k, ?_⟩
    unfold PRb.hindsightref05_Number.f numRE
    rw [if_neg h0]
    simpa using hk
theorem rnum_walk (s : ByteArray) (w : World) (hs : (s.size : Int) ≤ 1000000) : Calls Tryd.prog 42 #[.string s] w fun e w' => e = .returned (.tuple #[.int .i64 (numRE s).1, .int .i64 (numRE s).2]) ∧ Drawn0 w w' := by
  obtain ⟨k, hk⟩ := rnum_f s hs
  exact PRb.hindsightref05_Number.calls k s _ _ w hk
end Go.Proofs.YtoclbmepgeelmaaDoor.Utf
namespace Go.Proofs.YtoclbmepgeelmaaDoor.Utf
set_option linter.unusedVariables false
set_option linter.unusedSimpArgs false
open Go.RowKit Go.Lib Go.Proofs.YtoclbmepgeelmaaDoorW.PrintWords Go.Proofs.YtoclbmepgeelmaaDoorW.PrintLast Go.Proofs.YtoclbmepgeelmaaDoorW.PrintMore

theorem class_digit (v : Int) : (classZ v = 3) ↔ (48 ≤ v ∧ v ≤ 57) := by
  unfold classZ
  repeat' split
  all_goals constructor <;> intro h <;> omega

set_option maxHeartbeats 4000000 in
set_option maxRecDepth 100000 in
theorem num_walk (s : ByteArray) (w : World) (hs : s.size ≤ 1000000) :
    Calls Tryd.prog 41 #[.string s] w fun e w' => e = .returned (.tuple #[.int .i64 (numRE s).1, .int .i64 (numRE s).2]) ∧ Below w.heap.size w w' := by
  obtain ⟨R, hR⟩ : ∃ R, numRE s = R := ⟨_, rfl⟩
  rw [hR]
  have hRR : s.size ≠ 0 → R = numOf 0 0 (bytesOf s) := fun h => by rw [← hR, numRE, if_neg h]
  have hR0 : s.size = 0 → R = (0, 3) := fun h => by rw [← hR, numRE, if_pos h]
  have HR0 := Aside0.mk hR0
  have HRR := Aside0.mk hRR
  clear hR hRR hR0
  go_enter Tryd.func41, Tryd.ntmps41
  go_wp2_with fail
  go_loopg [4, 5] (s.size + 1) (fun gk v4 v5 wx => ∃ (p : Nat) (n : Int) (o : Bool), v4 = .int .u64 n ∧ v5 = .bool o ∧ Aside0 (wx.heap[w.heap.size]? = some (.stringIter s p)) ∧ Aside0 (Below w.heap.size w wx) ∧ s.size - p < gk ∧ p ≤ s.size ∧ 0 ≤ n ∧ n ≤ 9300000000000000000 ∧ (o = false → n ≤ 9223372036854775807) ∧ Aside0 (s.size ≠ 0 → R = numOf (if o then 21 else 0) n ((bytesOf s).drop p)))
  case atStart => exact ⟨0, 0, false, by go_num, rfl, ⟨World.iter_heap w s 0⟩, ⟨below_alloc (Below.refl _ _) _⟩, by omega, by omega, by omega, by omega, by omega, ⟨by simpa using HRR.out⟩⟩
  case round =>
    obtain ⟨p, n, o, rfl, rfl, HI, HB, hg, hp0, hn0, hn1, hno, HO⟩ := hrel
    cases gk with
    | zero => omega
    | succ k1 =>
      by_cases hp : p < s.size
      · have hnx : ∀ ty, (Instr.next (.pointer (some ⟨w.heap.size, 0, none⟩)) true ty).run Tryd.prog wr = _ := fun ty => Lib.run_next_any_at wr w.heap.size s p ty HI.out hp
        have hd := decode_cases s p hp
        have hst : R = numOf (if o then 21 else 0) n (bt s (p : Int) :: (bytesOf s).drop (p + 1)) := by rw [← bytes_rd s p hp]; exact HO.out (by omega)
        obtain ⟨⟨r, m⟩, hrn⟩ : ∃ d, Utf8.decode s p = d := ⟨_, rfl⟩
        simp only [hrn] at hnx hd
        clear HO hrn HR0 HRR
        have HI2 := Aside0.mk (Lib.iterAt_heap wr w.heap.size s p (p + m) HI.out)
        have HB2 := Aside0.mk (Lib.below_iterAt HB.out (k := w.heap.size) (by omega) s (p + m))
        obtain ⟨wi, hwi⟩ : ∃ wi, wr.iterAt w.heap.size s (p + m) = wi := ⟨_, rfl⟩
        rw [hwi] at hnx HI2 HB2
        clear hwi HI HB
        have hb := bt_range s (p : Int)
        obtain ⟨c, hc⟩ : ∃ c, bt s (p : Int) = c := ⟨_, rfl⟩
        rw [hc] at hd hst hb
        have cW := fun W => class_walk (r : Int) W
        by_cases c3 : 48 ≤ c ∧ c ≤ 57
        · obtain ⟨rfl, hrc⟩ : m = 1 ∧ (r : Int) = c := by
            rcases hd with ⟨h1, h2⟩ | ⟨h1, h2, h3⟩
            · simp only [Prod.mk.injEq] at h2; omega
            · omega
          rw [hrc] at hnx cW
          rw [(class_digit c).2 c3] at cW
          have CW := Aside0.mk cW
          clear cW hd hrc hc
          cases o with
          | true =>
            have hst2 : Aside0 (s.size ≠ 0 → R = numOf (if true then 21 else 0) n ((bytesOf s).drop (p + 1))) := ⟨fun _ => by rw [hst]; simp only [if_true]; rw [numOf_step c3, numOf_twice]⟩
            clear hst hno
            go_wp2_with (go_at_call 35; refine (CW.out _).mono ?_; rintro e w2 ⟨rfl, ⟨nd, rfl⟩⟩)
            go_roundg k1
            case measure => omega
            case rel => exact ⟨p + 1, n, true, by go_num, rfl, HI2, ⟨pw_below_drewN HB2.out nd⟩, by omega, by omega, by omega, by omega, by simp, hst2⟩
          | false =>
            have hn2 := hno rfl
            clear hno
            by_cases g1 : 922337203685477580 < n
            · have d1 := decide_eq_true (p := (922337203685477580 : Int) < n) g1
              have hst2 : Aside0 (s.size ≠ 0 → R = numOf (if true then 21 else 0) n ((bytesOf s).drop (p + 1))) := ⟨fun _ => by rw [hst]; simp only [if_true, Bool.false_eq_true, if_false]; rw [numOf_over hn0 c3 (by omega)]⟩
              clear hst
              go_wp2_with (go_at_call 35; refine (CW.out _).mono ?_; rintro e w2 ⟨rfl, ⟨nd, rfl⟩⟩)
              go_roundg k1
              case measure => omega
              case rel => exact ⟨p + 1, n, true, by go_num, rfl, HI2, ⟨pw_below_drewN HB2.out nd⟩, by omega, by omega, by omega, by omega, by simp, hst2⟩
            · have d1 := decide_eq_false (p := (922337203685477580 : Int) < n) g1
              by_cases g2 : 9223372036854775807 < 10 * n + (c - 48)
              · have d2 := decide_eq_true (p := (9223372036854775807 : Int) < 10 * n + (c - 48)) g2
                have hst2 : Aside0 (s.size ≠ 0 → R = numOf (if true then 21 else 0) (10 * n + (c - 48)) ((bytesOf s).drop (p + 1))) := ⟨fun _ => by rw [hst]; simp only [if_true, Bool.false_eq_true, if_false]; rw [numOf_over hn0 c3 (by omega), numOf_twice]⟩
                clear hst
                go_wp2_with (go_at_call 35; refine (CW.out _).mono ?_; rintro e w2 ⟨rfl, ⟨nd, rfl⟩⟩)
                go_roundg k1
                case measure => omega
                case rel => exact ⟨p + 1, 10 * n + (c - 48), true, by go_num, rfl, HI2, ⟨pw_below_drewN HB2.out nd⟩, by omega, by omega, by omega, by omega, by simp, hst2⟩
              · have d2 := decide_eq_false (p := (9223372036854775807 : Int) < 10 * n + (c - 48)) g2
                have hst2 : Aside0 (s.size ≠ 0 → R = numOf (if false then 21 else 0) (10 * n + (c - 48)) ((bytesOf s).drop (p + 1))) := ⟨fun _ => by rw [hst]; simp only [Bool.false_eq_true, if_false]; rw [numOf_step c3]⟩
                clear hst
                go_wp2_with (go_at_call 35; refine (CW.out _).mono ?_; rintro e w2 ⟨rfl, ⟨nd, rfl⟩⟩)
                go_roundg k1
                case measure => omega
                case rel => exact ⟨p + 1, 10 * n + (c - 48), false, by go_num, rfl, HI2, ⟨pw_below_drewN HB2.out nd⟩, by omega, by omega, by omega, by omega, by omega, hst2⟩
        · have cr : classZ (r : Int) ≠ 3 := by
            rw [Ne, class_digit]
            rcases hd with ⟨h1, h2⟩ | ⟨h1, h2, h3⟩
            · simp only [Prod.mk.injEq] at h2; omega
            · omega
          rw [numOf_cons_bad c3] at hst
          subst hst
          obtain ⟨cl, hcl⟩ : ∃ cl, classZ (r : Int) = cl := ⟨_, rfl⟩
          rw [hcl] at cr cW
          have b3 : (cl != 3) = true := by simpa using cr
          have CW := Aside0.mk cW
          clear cW hd hcl cr
          go_wp2_with (go_at_call 35; refine (CW.out _).mono ?_; rintro e w2 ⟨rfl, ⟨nd, rfl⟩⟩)
          go_ret2
          exact ⟨rfl, pw_below_drewN HB2.out nd⟩
      · have hnx : ∀ ty, (Instr.next (.pointer (some ⟨w.heap.size, 0, none⟩)) true ty).run Tryd.prog wr = _ := fun ty => Lib.run_next_end_at wr w.heap.size s p ty HI.out hp
        by_cases h0 : s.size = 0
        · have hR := HR0.out h0
          subst hR
          have hs0 : s = ⟨#[]⟩ := by
            have : s.data.toList = [] := List.eq_nil_of_length_eq_zero (by simpa using h0)
            exact ByteArray.ext (Array.toList_inj.1 this)
          have bs : (s.toList == []) = true := by rw [hs0, ByteArray.toList_eq]; rfl
          have bs2 : s.toList = [] := by rw [hs0, ByteArray.toList_eq]
          clear HR0 HRR HO hs0
          go_wp2_with fail
          go_ret2
          exact ⟨rfl, HB.out⟩
        · have hR := HO.out h0
          rw [List.drop_eq_nil_of_le (by rw [bytesOf_length]; omega)] at hR
          have bs2 : ¬ s.toList = [] := by
            rw [ByteArray.toList_eq]
            intro h
            have := congrArg List.length h
            simp at this
            exact h0 (by rw [this]; rfl)
          have bs : (s.toList == []) = false := by simpa using bs2
          clear HR0 HRR HO
          cases o with
          | true =>
            have e2 : R = (0, 21) := by rw [hR]; simp [numOf, digitsOk]
            subst e2
            clear hR
            go_wp2_with fail
            go_ret2
            exact ⟨rfl, HB.out⟩
          | false =>
            have hn2 := hno rfl
            have e2 : R = (n, 0) := by rw [hR]; simp [numOf, digitsOk, dv, hn2]
            subst e2
            clear hR hno
            go_wp2_with fail
            go_ret2
            exact ⟨rfl, HB.out⟩
end Go.Proofs.YtoclbmepgeelmaaDoor.Utf
