import Derived.Test.YtoclbmepgeelmaaDoorNmw
import Derived.Test.YtoclbmepgeelmaaDoorPRbx1
namespace Go.Proofs.YtoclbmepgeelmaaDoor.Utf
set_option linter.unusedVariables false
set_option linter.unusedSimpArgs false
open Go.RowKit Go.Lib Go.Proofs.YtoclbmepgeelmaaDoorW.PrintWords Go.Proofs.YtoclbmepgeelmaaDoorW.PrintLast Go.Proofs.YtoclbmepgeelmaaDoorW.PrintMore

def digitsOk (l : List Int) : Bool := l.all fun c => decide (48 ≤ c ∧ c ≤ 57)
def dv : Int → List Int → Int
  | a, [] => a
  | a, c :: t => dv (10 * a + (c - 48)) t
theorem dv_le : ∀ (l : List Int) (a : Int), 0 ≤ a → digitsOk l = true → a ≤ dv a l
  | [], a, _, _ => by simp [dv]
  | c :: t, a, ha, h => by
    simp only [digitsOk, List.all_cons, Bool.and_eq_true, decide_eq_true_eq] at h
    have := dv_le t (10 * a + (c - 48)) (by omega) h.2
    simp only [dv]; omega
/-- What a run of digits is: its number and its error, from a state on. -/
def numOf (e n : Int) (l : List Int) : Int × Int :=
  if digitsOk l then (if e = 0 ∧ dv n l ≤ 9223372036854775807 then (dv n l, 0) else (0, 21)) else (0, 3)
def numRE (s : ByteArray) : Int × Int := if s.size = 0 then (0, 3) else numOf 0 0 (bytesOf s)
theorem numOf_cons_bad {e n c : Int} {t : List Int} (h : ¬ (48 ≤ c ∧ c ≤ 57)) : numOf e n (c :: t) = (0, 3) := by
  simp [numOf, digitsOk, h]
theorem numOf_over {n : Int} {c : Int} {t : List Int} {e : Int} (hn : 0 ≤ n) (h : 48 ≤ c ∧ c ≤ 57) (hov : 9223372036854775807 < 10 * n + (c - 48)) : numOf e n (c :: t) = numOf 21 n t := by
  unfold numOf
  have e1 : digitsOk (c :: t) = digitsOk t := by simp [digitsOk, h]
  rw [e1]
  split
  · rename_i hd
    have := dv_le t (10 * n + (c - 48)) (by omega) hd
    rw [if_neg (by simp only [dv]; omega), if_neg (by omega)]
  · rfl
theorem numOf_step {n : Int} {c : Int} {t : List Int} {e : Int} (h : 48 ≤ c ∧ c ≤ 57) : numOf e n (c :: t) = numOf e (10 * n + (c - 48)) t := by
  unfold numOf
  have e1 : digitsOk (c :: t) = digitsOk t := by simp [digitsOk, h]
  rw [e1]; rfl
theorem numOf_twice {n m : Int} {t : List Int} : numOf 21 n t = numOf 21 m t := by
  unfold numOf
  split
  · rw [if_neg (by omega), if_neg (by omega)]
  · rfl

theorem rnum_f (s : ByteArray) (hs : (s.size : Int) ≤ 1000000) : ∃ k, PRb.hindsightref05_Number.f k s = some (numRE s) := by
  have go : ∀ (m i : Nat), i + m = s.size → 0 < s.size → ∀ (n e : Int), 0 ≤ n → n ≤ 9223372036854775807 → (e = 0 ∨ e = 21) → ∃ k, PRb.hindsightref05_Number.l0 k s n e (i : Int) = some (numOf e n ((bytesOf s).drop i)) := by
    intro m
    induction m with
    | zero =>
      intro i hi h0 n e hn0 hn1 he
      refine ⟨1, ?_⟩
      simp only [PRb.hindsightref05_Number.l0]
      rw [if_neg (by omega), if_neg (by omega), List.drop_eq_nil_of_le (by rw [bytesOf_length]; omega)]
      rcases he with rfl | rfl
      · simp [numOf, digitsOk, dv, hn1]
      · simp [numOf, digitsOk]
    | succ m ih =>
      intro i hi h0 n e hn0 hn1 he
      have hb := bt_range s (i : Int)
      have wi : wrap64 ((i : Int) + 1) = ((i + 1 : Nat) : Int) := by rw [wrap64_id (by omega) (by omega)]; omega
      rw [bytes_rd s i (by omega)]
      obtain ⟨c, hc⟩ : ∃ c, bt s (i : Int) = c := ⟨_, rfl⟩
      rw [hc] at hb ⊢
      have wc : wrap64 (wrap64 c - 48) = c - 48 := by rw [wrap64_id (n := c) (by omega) (by omega), wrap64_id (by omega) (by omega)]
      by_cases hd : 48 ≤ c ∧ c ≤ 57
      · -- a digit
        have jf : ∀ k, PRb.hindsightref05_Number.l0 (k + 1) s n e (i : Int) = PRb.hindsightref05_Number.j1 k s n e (i : Int) (c - 48) false := fun k => by
          simp only [PRb.hindsightref05_Number.l0]
          rw [if_pos (by omega), if_pos (by omega), hc, wc, if_neg (by omega), decide_eq_false (by omega)]
        by_cases hov : 9223372036854775807 < 10 * n + (c - 48)
        · obtain ⟨k, hk⟩ := ih (i + 1) (by omega) h0 n 21 hn0 hn1 (.inr rfl)
          refine ⟨k + 1 + 1 + 1, ?_⟩
          rw [jf, numOf_over hn0 hd hov]
          simp only [PRb.hindsightref05_Number.j1]
          rw [if_neg (by simp)]
          have j2t : PRb.hindsightref05_Number.j2 (k + 1) s n e (i : Int) (c - 48) true = some (numOf 21 n ((bytesOf s).drop (i + 1))) := by
            simp only [PRb.hindsightref05_Number.j2]
            rw [if_pos trivial, if_neg (by omega), wi, hk]
          by_cases g1 : n > 922337203685477580
          · rw [if_pos g1, j2t]
          · rw [if_neg g1, if_pos (by omega), decide_eq_true (by omega), j2t]
        · obtain ⟨k, hk⟩ : ∃ k, PRb.hindsightref05_Number.l0 k s (if e = 0 then 10 * n + (c - 48) else n) e ((i + 1 : Nat) : Int) = some (numOf e (if e = 0 then 10 * n + (c - 48) else n) ((bytesOf s).drop (i + 1))) := by
            apply ih (i + 1) (by omega) h0 _ e _ _ he
            · split <;> omega
            · split <;> omega
          refine ⟨k + 1 + 1 + 1, ?_⟩
          rw [jf, numOf_step hd]
          simp only [PRb.hindsightref05_Number.j1]
          rw [if_neg (by simp)]
          have j2f : PRb.hindsightref05_Number.j2 (k + 1) s n e (i : Int) (c - 48) false = some (numOf e (10 * n + (c - 48)) ((bytesOf s).drop (i + 1))) := by
            simp only [PRb.hindsightref05_Number.j2]
            rw [if_neg (by simp)]
            rcases he with rfl | rfl
            · rw [if_pos rfl, wi, wrap64_id (n := 10 * n) (by omega) (by omega), wrap64_id (n := 10 * n + (c - 48)) (by omega) (by omega)]
              simpa using hk
            · rw [if_neg (by omega), wi]
              rw [if_neg (by omega)] at hk
              rw [hk, numOf_twice]
          rw [if_neg (by omega)]
          by_cases g2 : n = 922337203685477580
          · rw [if_pos g2, decide_eq_false (by omega), j2f]
          · rw [if_neg g2, j2f]
      · refine ⟨2, ?_⟩
        rw [numOf_cons_bad hd]
        simp only [PRb.hindsightref05_Number.l0]
        rw [if_pos (by omega), if_pos (by omega), hc, wc]
        by_cases h1 : c - 48 < 0
        · rw [if_pos h1]
          simp only [PRb.hindsightref05_Number.j1]
          rw [if_pos trivial]
        · rw [if_neg h1, decide_eq_true (by omega)]
          simp only [PRb.hindsightref05_Number.j1]
          rw [if_pos trivial]
  by_cases h0 : s.size = 0
  · refine ⟨1, ?_⟩
    unfold PRb.hindsightref05_Number.f numRE
    simp only [PRb.hindsightref05_Number.l0]
    rw [if_neg (by omega), if_pos (by omega), if_pos h0]
  · obtain ⟨k, hk⟩ := go s.size 0 (by omega) (by omega) 0 0 (by omega) (by omega) (.inl rfl)
    refine ⟨k, ?_⟩
    unfold PRb.hindsightref05_Number.f numRE
    rw [if_neg h0]
    simpa using hk
theorem rnum_walk (s : ByteArray) (w : World) (hs : (s.size : Int) ≤ 1000000) : Calls Tryd.prog 42 #[.string s] w fun e w' => e = .returned (.tuple #[.int .i64 (numRE s).1, .int .i64 (numRE s).2]) ∧ Drawn0 w w' := by
  obtain ⟨k, hk⟩ := rnum_f s hs
  exact PRb.hindsightref05_Number.calls k s _ _ w hk
end Go.Proofs.YtoclbmepgeelmaaDoor.Utf
