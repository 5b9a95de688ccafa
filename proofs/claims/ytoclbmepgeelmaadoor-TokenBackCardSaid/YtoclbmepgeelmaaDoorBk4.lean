import Derived.Test.YtoclbmepgeelmaaDoorBk3
import Derived.Test.YtoclbmepgeelmaaDoorTk4
import Derived.Test.YtoclbmepgeelmaaDoorWrw
namespace Go.Proofs.YtoclbmepgeelmaaDoor.Utf
set_option linter.unusedVariables false
set_option linter.unusedSimpArgs false
open Go.RowKit Go.Lib Go.Proofs.YtoclbmepgeelmaaDoorW.PrintWords Go.Proofs.YtoclbmepgeelmaaDoor.PRe

theorem next_back (l : List Int) (hr : ∀ c ∈ l, 0 ≤ c ∧ c ≤ 255) (hv : vZ l = true) (h : (nextP l).2.2.2.2 = 0) : Back (nextP l) := by
  unfold nextP at h ⊢
  by_cases hb : isB l = true
  · rw [if_pos hb] at h ⊢; exact bytes_back l h
  · rw [if_neg hb] at h ⊢
    by_cases h2 : clsAt l = 2
    · rw [if_pos h2] at h ⊢; exact word_back l hr h2 h
    · rw [if_neg h2] at h ⊢
      by_cases h3 : clsAt l = 3
      · rw [if_pos h3] at h ⊢; exact num_back l h
      · rw [if_neg h3] at h ⊢
        by_cases h4 : clsAt l = 4
        · rw [if_pos h4] at h ⊢; exact quo_back l hr h4 hv h
        · rw [if_neg h4] at h ⊢; exact sgn_back l h
theorem next_noblank {l : List Int} (h : (nextP l).2.2.2.2 = 0) : runL blkC l = 0 ∧ l ≠ [] := by
  cases l with
  | nil => exact absurd h (by decide)
  | cons c t =>
    refine ⟨?_, by simp⟩
    by_cases h1 : classZ c = 1
    · exfalso
      have hb : isB (c :: t) = false := by
        have a1 : c ≠ 120 := by rintro rfl; exact absurd h1 (by decide)
        have a2 : c ≠ 88 := by rintro rfl; exact absurd h1 (by decide)
        cases t <;> simp [isB, a1, a2]
      unfold nextP at h
      rw [if_neg (by rw [hb]; decide), if_neg (by simp [clsAt, h1]), if_neg (by simp [clsAt, h1]), if_neg (by simp [clsAt, h1])] at h
      by_cases h0 : sgnN (c :: t) = 0
      · simp [sgnP, h0, failT] at h
      · rcases sgn_cases h0 with ⟨a, b, u, e, h2, _⟩ | ⟨a, u, e, h2, _⟩
        · injection e with e1 e2
          have := (twoL_cases h2).1
          rw [← e1, h1] at this; exact absurd this (by decide)
        · injection e with e1 e2
          have := (oneL_cases h2).1
          rw [← e1, h1] at this; exact absurd this (by decide)
    · exact runL_no t (by simp [blkC, h1])
/-- What a token's bytes end with. -/
def Piece (l : List Int) (n : Nat) : Prop := ∃ x c y, l = x ++ c :: y ∧ x.length + 1 = n ∧ 0 ≤ c ∧ c < 128
theorem piece_run {p : Int → Bool} {l : List Int} (hr : ∀ c ∈ l, 0 ≤ c ∧ c ≤ 255) (hp0 : p 0 = false) (h1 : 1 ≤ runL p l) : Piece l (runL p l) := by
  have hle := runL_le p l
  have ht := runL_take p l
  have hlt : runL p l - 1 < l.length := by omega
  refine ⟨l.take (runL p l - 1), l[runL p l - 1], l.drop (runL p l), ?_, ?_, ?_⟩
  · have : l.drop (runL p l - 1) = l[runL p l - 1] :: l.drop (runL p l) := by
      rw [List.drop_eq_getElem_cons hlt, show runL p l - 1 + 1 = runL p l by omega]
    rw [← this, List.take_append_drop]
  · rw [List.length_take]; omega
  · have hm : l[runL p l - 1] ∈ l.take (runL p l) := by
      rw [List.mem_take_iff_getElem]
      exact ⟨runL p l - 1, by omega, rfl⟩
    have hc := ht _ hm
    have h2 := hr _ (List.mem_of_mem_take hm)
    refine ⟨h2.1, ?_⟩
    apply Decidable.byContradiction
    intro h3
    rw [class_high _ (by omega), hp0] at hc
    cases hc
theorem next_piece {l : List Int} (hr : ∀ c ∈ l, 0 ≤ c ∧ c ≤ 255) (h : (nextP l).2.2.2.2 = 0) : Piece l (nextP l).2.2.2.1 := by
  have hn := next_pos h
  unfold nextP at h hn ⊢
  by_cases hb : isB l = true
  · rw [if_pos hb] at h hn ⊢
    cases hk : closeL (l.drop 2) with
    | none => simp [bytesP, hk, failT] at h
    | some k =>
      cases ho : unhexL ((l.drop 2).take k) with
      | none => simp [bytesP, hk, ho, failT] at h
      | some o =>
        have e : bytesP l = (4, strOfNums o, 0, k + 3, 0) := by unfold bytesP; rw [hk]; simp only []; rw [ho]
        rw [e]
        obtain ⟨x, y, h1, h2⟩ := closeL_cut _ _ (Nat.le_refl _) k hk
        refine ⟨l.take 2 ++ x, 39, y, ?_, ?_, by decide, by decide⟩
        · rw [List.append_assoc, ← h1, List.take_append_drop]
        · have : 2 ≤ l.length := by
            have := congrArg List.length h1
            simp at this; omega
          simp; omega
  · rw [if_neg hb] at h hn ⊢
    by_cases h2 : clsAt l = 2
    · rw [if_pos h2] at h hn ⊢
      by_cases hE : nameE (strOfNums (l.take (runL wordC l))) = 0
      · have e : wordP l = (1, nameR (strOfNums (l.take (runL wordC l))), 0, runL wordC l, 0) := by unfold wordP; simp only; rw [if_pos hE]
        rw [e] at hn ⊢
        exact piece_run hr rfl hn
      · have e : wordP l = failT := by unfold wordP; simp only; rw [if_neg hE]
        rw [e] at h; simp [failT] at h
    · rw [if_neg h2] at h hn ⊢
      by_cases h3 : clsAt l = 3
      · rw [if_pos h3] at h hn ⊢
        by_cases hE : clsAt (l.drop (runL digC l)) = 2
        · have e : numP l = failT := by unfold numP; rw [if_pos hE]
          rw [e] at h; simp [failT] at h
        · have e : numP l = (2, ⟨#[]⟩, (numRE (strOfNums (l.take (runL digC l)))).1, runL digC l, (numRE (strOfNums (l.take (runL digC l)))).2) := by unfold numP; rw [if_neg hE]
          rw [e] at hn ⊢
          exact piece_run hr rfl hn
      · rw [if_neg h3] at h hn ⊢
        by_cases h4 : clsAt l = 4
        · rw [if_pos h4] at h hn ⊢
          cases hk : closeL (l.drop 1) with
          | none =>
            have e : quoP l = failT := by unfold quoP; rw [hk]
            rw [e] at h; simp [failT] at h
          | some k =>
            have e : quoP l = (3, unqR (strOfNums (l.take (k + 2))), 0, k + 2, 0) := by unfold quoP; rw [hk]
            rw [e]
            obtain ⟨x, y, h1, h2⟩ := closeL_cut _ _ (Nat.le_refl _) k hk
            refine ⟨l.take 1 ++ x, 39, y, ?_, ?_, by decide, by decide⟩
            · rw [List.append_assoc, ← h1, List.take_append_drop]
            · have : 1 ≤ l.length := by
                have := congrArg List.length h1
                simp at this; omega
              simp; omega
        · rw [if_neg h4] at h hn ⊢
          by_cases h0 : sgnN l = 0
          · simp [sgnP, h0, failT] at h
          · have e : sgnP l = (5, strOfNums (l.take (sgnN l)), 0, sgnN l, 0) := by unfold sgnP; rw [if_neg h0]
            rw [e]
            rcases sgn_cases h0 with ⟨a, b, u, rfl, h2, hs⟩ | ⟨a, u, rfl, h2, hs⟩
            · have := twoL_cases h2
              rw [hs]; exact ⟨[a], b, u, rfl, rfl, by omega, by omega⟩
            · have := oneL_cases h2
              rw [hs]; exact ⟨[], a, u, rfl, rfl, by omega, by omega⟩
theorem piece_valid {l : List Int} {n : Nat} (h : Piece l n) (hv : vZ l = true) : vZ (l.drop n) = true := by
  obtain ⟨x, c, y, rfl, hn, h0, h1⟩ := h
  have : (x ++ c :: y).drop n = y := by
    rw [show x ++ c :: y = (x ++ [c]) ++ y by simp, ← hn, show x.length + 1 = (x ++ [c]).length by simp, List.drop_left]
  rw [this]; exact (vZ_behind h0 h1 hv).1
theorem blank_valid : ∀ (l : List Int), vZ l = true → vZ (l.drop (runL blkC l)) = true
  | [], h => h
  | c :: t, h => by
    by_cases hc : blkC (classZ c) = true
    · rw [runL_yes t hc, List.drop_succ_cons]
      have h32 : 0 ≤ c ∧ c < 128 := by
        have : classZ c = 1 := by simpa [blkC] using hc
        unfold classZ at this
        split at this
        · omega
        · (repeat' split at this) <;> omega
      exact blank_valid t (vZ_behind (x := []) h32.1 h32.2 h).1
    · rw [runL_no t (by simpa using hc)]; exact h
end Go.Proofs.YtoclbmepgeelmaaDoor.Utf
