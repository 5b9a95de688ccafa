import Derived.Test.YtoclbmepgeelmaaDoorCls
namespace Go.Proofs.YtoclbmepgeelmaaDoor.Utf
set_option linter.unusedVariables false
set_option linter.unusedSimpArgs false
open Go.RowKit Go.Lib Go.Proofs.YtoclbmepgeelmaaDoorW.PrintWords Go.Proofs.YtoclbmepgeelmaaDoorW.PrintLast Go.Proofs.YtoclbmepgeelmaaDoorW.PrintMore

/-- Are bytes a name's, the first one's place told. -/
def nameOk : Bool → List Int → Bool
  | _, [] => true
  | f, c :: t => (classZ c == 2 || (classZ c == 3 && !f)) && nameOk false t
def nameE (s : ByteArray) : Int := if 20 < s.size then 2 else if s.size = 0 then 3 else if nameOk true (bytesOf s) then 0 else 3
def nameR (s : ByteArray) : ByteArray := if nameE s = 0 then foldS s else ⟨#[]⟩

theorem rname_f (s : ByteArray) : ∃ k, PRb.hindsightref05_Name.f k s = some (nameR s, nameE s) := by
  by_cases hlen : 20 < s.size
  · have e : nameE s = 2 := by simp [nameE, hlen]
    refine ⟨1, ?_⟩
    unfold PRb.hindsightref05_Name.f nameR
    rw [if_pos (by omega), e]; rfl
  by_cases h0 : s.size = 0
  · have e : nameE s = 3 := by simp [nameE, h0]
    refine ⟨1, ?_⟩
    unfold PRb.hindsightref05_Name.f nameR
    rw [if_neg (by omega), e]
    simp only [PRb.hindsightref05_Name.l0]
    rw [if_neg (by omega), if_pos (by omega)]; rfl
  obtain ⟨kf, hf⟩ := rfold_f s (by omega)
  have go : ∀ (m i : Nat), i + m = s.size → ∃ k, PRb.hindsightref05_Name.l0 k s (i : Int) = some (if nameOk (i == 0) ((bytesOf s).drop i) then (foldS s, 0) else (⟨#[]⟩, 3)) := by
    intro m
    induction m with
    | zero =>
      intro i hi
      refine ⟨kf + 1, ?_⟩
      simp only [PRb.hindsightref05_Name.l0]
      rw [if_neg (by omega), if_neg (by omega), List.drop_eq_nil_of_le (by rw [bytesOf_length]; omega), hf]
      simp [nameOk]
    | succ m ih =>
      intro i hi
      have hb := bt_range s (i : Int)
      obtain ⟨k, hk⟩ := ih (i + 1) (by omega)
      have wi : wrap64 ((i : Int) + 1) = ((i + 1 : Nat) : Int) := by rw [wrap64_id (by omega) (by omega)]; omega
      have hk4 : PRb.hindsightref05_Name.l0 (k + 4) s ((i + 1 : Nat) : Int) = _ := up (f := fun k => PRb.hindsightref05_Name.l0 k s ((i + 1 : Nat) : Int)) (fun k => PRb.hindsightref05_Name.mono_l k _ _) (show k ≤ k + 4 by omega) hk
      have hc : PRb.hindsightref05_Class.f (k + 4) (bt s (i : Int)) = _ := up (f := fun k => PRb.hindsightref05_Class.f k (bt s (i : Int))) (PRb.hindsightref05_Class.mono _) (show 4 ≤ k + 4 by omega) (rclass_f _)
      obtain ⟨q, hq⟩ : ∃ q, k + 4 = q := ⟨_, rfl⟩
      rw [hq] at hk4 hc
      refine ⟨q + 1, ?_⟩
      simp only [PRb.hindsightref05_Name.l0]
      rw [if_pos (by omega), if_pos (by omega), wrap64_id (n := bt s (i : Int)) (by omega) (by omega), hc, Option.bind_some, wi, hk4, bytes_rd s i (by omega)]
      obtain ⟨c, hcc⟩ : ∃ c, classZ (bt s (i : Int)) = c := ⟨_, rfl⟩
      simp only [nameOk, hcc]
      have e1 : (i + 1 == 0) = false := by simp
      rw [e1]
      by_cases hi0 : i = 0
      · subst hi0
        by_cases c2 : c = 2
        · simp [c2]
        · by_cases c3 : c = 3
          · simp [c3]
          · simp [c2, c3]
      · have e2 : (i == 0) = false := by simpa using hi0
        have e3 : ¬ (i : Int) = 0 := by omega
        rw [e2]
        by_cases c2 : c = 2
        · simp [c2, hi0]
        · by_cases c3 : c = 3
          · simp [c3, hi0]
          · simp [c2, c3]
  obtain ⟨k, hk⟩ := go s.size 0 (by omega)
  refine ⟨k, ?_⟩
  unfold PRb.hindsightref05_Name.f nameR nameE
  rw [if_neg (by omega), if_neg hlen, if_neg h0]
  rw [show ((0 : Nat) : Int) = 0 from rfl] at hk
  rw [hk]
  simp only [List.drop_zero, beq_self_eq_true]
  split <;> rfl
theorem rname_walk (s : ByteArray) (w : World) : Calls Tryd.prog 34 #[.string s] w fun e w' => e = .returned (.tuple #[.string (nameR s), .int .i64 (nameE s)]) ∧ Below w.heap.size w w' := by
  obtain ⟨k, hk⟩ := rname_f s
  exact PRb.hindsightref05_Name.calls k s _ _ w hk
end Go.Proofs.YtoclbmepgeelmaaDoor.Utf
