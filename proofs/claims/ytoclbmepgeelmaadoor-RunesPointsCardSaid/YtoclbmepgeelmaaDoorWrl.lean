import Derived.Test.YtoclbmepgeelmaaDoorJoi
import Derived.Test.YtoclbmepgeelmaaDoorRun12
namespace Go.Proofs.YtoclbmepgeelmaaDoor.Utf
set_option linter.unusedVariables false
set_option linter.unusedSimpArgs false
open Go.RowKit Go.Lib Go.Proofs.YtoclbmepgeelmaaDoorW.PrintWords Go.Proofs.YtoclbmepgeelmaaDoorW.PrintLast Go.Proofs.YtoclbmepgeelmaaDoorW.PrintMore Go.Proofs.YtoclbmepgeelmaaDoor.PRa

/-- The document's Write: a point's bytes, or none. -/
def wrL (x : Int) : List Int := if validRune x then encodeRuneZ x else []
theorem rwr_f (x : Int) : hindsightref05_Write.f 1 x = some (wrL x) := by
  unfold hindsightref05_Write.f wrL
  by_cases hv : validRune x = true
  · rw [if_pos hv]
    unfold validRune at hv
    simp only [decide_eq_true_eq] at hv
    rw [if_neg (by omega), if_neg (by omega)]
    have E : (if x ≥ 55296 then hindsightref05_Write.j0 1 x (decide (x ≤ 57343)) else hindsightref05_Write.j0 1 x false) = hindsightref05_Write.j0 1 x false := by
      by_cases h : x ≥ 55296
      · rw [if_pos h, decide_eq_false (by omega)]
      · rw [if_neg h]
    rw [E]
    simp only [hindsightref05_Write.j0]
    rw [if_neg (by simp)]
    have t : ∀ d : Int, 0 < d → Int.tdiv x d = x / d := fun d hd => Int.tdiv_eq_ediv_of_nonneg (by omega)
    have m : ∀ y : Int, 0 ≤ y → Int.tmod y 64 = y % 64 := fun y hy => Int.tmod_eq_emod_of_nonneg hy
    rw [t 64 (by omega), t 4096 (by omega), t 262144 (by omega)]
    rw [show wrap64 (x / 64) = x / 64 from wrap64_id (by omega) (by omega), show wrap64 (x / 4096) = x / 4096 from wrap64_id (by omega) (by omega), show wrap64 (x / 262144) = x / 262144 from wrap64_id (by omega) (by omega)]
    rw [m x (by omega), m (x / 64) (by omega), m (x / 4096) (by omega)]
    by_cases c1 : x < 128
    · rw [if_pos c1, encodeRuneZ_one (by omega) (by omega), show x % 256 = x by omega]
    rw [if_neg c1]
    have e1 : wrap64 (128 + x % 64) % 256 = 128 + x % 64 := by rw [wrap64_id (by omega) (by omega)]; omega
    by_cases c2 : x < 2048
    · rw [if_pos c2, encodeRuneZ_two (by omega) (by omega), e1]
      rw [show wrap64 (192 + x / 64) % 256 = 192 + x / 64 by rw [wrap64_id (by omega) (by omega)]; omega]
    rw [if_neg c2]
    have e2 : wrap64 (128 + x / 64 % 64) % 256 = 128 + x / 64 % 64 := by rw [wrap64_id (by omega) (by omega)]; omega
    by_cases c3 : x < 65536
    · rw [if_pos c3, encodeRuneZ_three (by omega), e1, e2]
      rw [show wrap64 (224 + x / 4096) % 256 = 224 + x / 4096 by rw [wrap64_id (by omega) (by omega)]; omega]
    rw [if_neg c3, encodeRuneZ_four (by omega) (by omega), e1, e2]
    rw [show wrap64 (240 + x / 262144) % 256 = 240 + x / 262144 by rw [wrap64_id (by omega) (by omega)]; omega, show wrap64 (128 + x / 4096 % 64) % 256 = 128 + x / 4096 % 64 by rw [wrap64_id (by omega) (by omega)]; omega]
  · rw [if_neg hv]
    unfold validRune at hv
    simp only [decide_eq_true_eq] at hv
    have J : hindsightref05_Write.j0 1 x true = some [] := by simp [hindsightref05_Write.j0]
    by_cases c1 : x < 0
    · rw [if_pos c1, J]
    rw [if_neg c1]
    by_cases c2 : x > 1114111
    · rw [if_pos c2, J]
    rw [if_neg c2, if_pos (by omega), decide_eq_true (by omega), J]
theorem rwr_walk (x : Int) (w : World) : Calls Tryd.prog 50 #[.int .i64 x] w fun e w' => ∃ v : Value, e = .returned v ∧ (Kd.int .u8).R 5 w' w.heap.size (fun _ => True) v (wrL x) ∧ Below w.heap.size w w' :=
  hindsightref05_Write.calls 1 x _ w (rwr_f x)
/-- What the law's own loop puts together. -/
def wantS (xs : List Int) : ByteArray := strOfNums (xs.flatMap wrL)
theorem strOfNums_app (a b : List Int) : strOfNums (a ++ b) = strOfNums a ++ strOfNums b := by
  apply ByteArray.ext; apply Array.toList_inj.1
  rw [ByteArray.data_append, Array.toList_append, strOfNums_data, strOfNums_data, strOfNums_data, List.map_append]
theorem wantS_snoc (xs : List Int) (x : Int) : wantS (xs ++ [x]) = wantS xs ++ strOfNums (wrL x) := by
  unfold wantS; rw [List.flatMap_append, strOfNums_app]; simp
theorem wrL_le (x : Int) : (wrL x).length ≤ 4 := by
  unfold wrL
  split
  · exact (encodeRuneZ_length x).2
  · simp
theorem wantS_le : ∀ xs : List Int, (wantS xs).size ≤ 4 * xs.length := by
  intro xs
  unfold wantS
  rw [strOfNums_size]
  induction xs with
  | nil => simp
  | cons x t ih =>
    have := wrL_le x
    rw [List.flatMap_cons, List.length_append, List.length_cons]; omega
theorem wantS_ok : ∀ {xs : List Int}, joinOk xs = true → wantS xs = ⟨(encZ xs).toArray⟩ := by
  intro xs h
  apply ByteArray.ext; apply Array.toList_inj.1
  unfold wantS
  rw [strOfNums_data]
  show _ = encZ xs
  unfold encZ
  induction xs with
  | nil => rfl
  | cons x t ih =>
    simp only [joinOk, List.all_cons, Bool.and_eq_true] at h
    rw [List.flatMap_cons, List.flatMap_cons, List.map_append, ih h.2, wrL, if_pos h.1]
    rfl
end Go.Proofs.YtoclbmepgeelmaaDoor.Utf
