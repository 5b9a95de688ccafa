import Derived.Test.YtoclbmepgeelmaaDoorAl5
namespace Go.Proofs.YtoclbmepgeelmaaDoor.Utf
set_option linter.unusedVariables false
set_option linter.unusedSimpArgs false
open Go.RowKit Go.Lib Go.Proofs.YtoclbmepgeelmaaDoorW.PrintWords Go.Proofs.YtoclbmepgeelmaaDoorW.PrintLast Go.Proofs.YtoclbmepgeelmaaDoorW.PrintMore

/-- A quote twice, of numbers. -/
def dblZ (l : List Int) : List Int := l.flatMap fun c => if c = 39 then [39, 39] else [c]
theorem rquote_l0 (s : ByteArray) (hs : (s.size : Int) ≤ 1000000) : ∀ (m i : Nat) (acc : List Int), i + m = s.size → acc.length ≤ 2 * i + 1 → ∃ k, PRb.hindsightref05_Quote.l0 k s acc (i : Int) = some (strOfNums (acc ++ dblZ ((bytesOf s).drop i) ++ [39])) := by
  intro m
  induction m with
  | zero =>
    intro i acc hi ha
    refine ⟨1, ?_⟩
    simp only [PRb.hindsightref05_Quote.l0]
    rw [if_neg (by omega), if_pos (by omega), List.drop_eq_nil_of_le (by rw [bytesOf_length]; omega)]
    simp [dblZ]
  | succ m ih =>
    intro i acc hi ha
    have wi : wrap64 ((i : Int) + 1) = ((i + 1 : Nat) : Int) := by rw [wrap64_id (by omega) (by omega)]; omega
    rw [bytes_rd s i (by omega)]
    by_cases h39 : bt s (i : Int) = 39
    · obtain ⟨k, hk⟩ := ih (i + 1) (acc ++ [39] ++ [39]) (by omega) (by simp; omega)
      refine ⟨k + 1, ?_⟩
      simp only [PRb.hindsightref05_Quote.l0]
      rw [if_pos (by omega), if_pos (by omega), if_pos (by omega), Option.bind_some, if_pos h39, if_pos (by simp; omega), wi, h39, hk]
      simp [dblZ]
    · obtain ⟨k, hk⟩ := ih (i + 1) (acc ++ [bt s (i : Int)]) (by omega) (by simp; omega)
      refine ⟨k + 1, ?_⟩
      simp only [PRb.hindsightref05_Quote.l0]
      rw [if_pos (by omega), if_pos (by omega), if_pos (by omega), Option.bind_some, if_neg h39, wi, hk]
      simp [dblZ, h39]
theorem quoteS_nums (s : ByteArray) : quoteS s = strOfNums (39 :: (dblZ (bytesOf s) ++ [39])) := by
  have h : ∀ l : List UInt8, (dblZ (l.map fun b => (b.toNat : Int))).map (fun n => UInt8.ofNat n.toNat) = dbl l := by
    intro l
    induction l with
    | nil => rfl
    | cons b t ih =>
      have hb : ((b.toNat : Int) = 39) = (b = 39) := by
        apply propext
        constructor
        · intro e
          apply UInt8.toNat_inj.1
          have : b.toNat = 39 := by omega
          rw [this]; rfl
        · rintro rfl; rfl
      by_cases h39 : b = 39
      · subst h39
        have e1 : dblZ (((39 : UInt8) :: t).map fun b => (b.toNat : Int)) = 39 :: 39 :: dblZ (t.map fun b => (b.toNat : Int)) := by simp [dblZ]
        have e2 : dbl (39 :: t) = 39 :: 39 :: dbl t := by simp [dbl]
        rw [e1, e2, List.map_cons, List.map_cons, ih]; rfl
      · have e1 : dblZ ((b :: t).map fun b => (b.toNat : Int)) = (b.toNat : Int) :: dblZ (t.map fun b => (b.toNat : Int)) := by
          simp [dblZ, hb, h39]
        have e2 : dbl (b :: t) = b :: dbl t := by simp [dbl, h39]
        rw [e1, e2, List.map_cons, ih]
        simp
  apply ByteArray.ext
  apply Array.toList_inj.1
  rw [strOfNums_data, List.map_cons, List.map_append, bytesOf, h]
  simp [quoteS]
theorem rquote_f (s : ByteArray) (hs : (s.size : Int) ≤ 1000000) : ∃ k, PRb.hindsightref05_Quote.f k s = some (quoteS s) := by
  obtain ⟨k, hk⟩ := rquote_l0 s hs s.size 0 [39] (by omega) (by simp)
  refine ⟨k, ?_⟩
  unfold PRb.hindsightref05_Quote.f
  rw [quoteS_nums]
  simpa using hk
end Go.Proofs.YtoclbmepgeelmaaDoor.Utf
