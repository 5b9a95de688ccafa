import Derived.Test.YtoclbmepgeelmaaDoorBk5
import Derived.Test.YtoclbmepgeelmaaDoorSam
namespace Go.Proofs.YtoclbmepgeelmaaDoor.Utf
set_option linter.unusedVariables false
set_option linter.unusedSimpArgs false
open Go.RowKit Go.Lib Go.Proofs.YtoclbmepgeelmaaDoorW.PrintWords Go.Proofs.YtoclbmepgeelmaaDoor.PRe

theorem dblZ_len : ∀ X : List Int, X.length ≤ (dblZ X).length
  | [] => Nat.le_refl _
  | c :: t => by
    have := dblZ_len t
    rw [dblZ_cons]
    split <;> simp <;> omega
theorem unhexL_len : ∀ (n : Nat) (l o : List Int), l.length ≤ n → unhexL l = some o → o.length ≤ l.length
  | _, [], o, _, h => by simp only [unhexL, Option.some.injEq] at h; subst h; simp
  | _, [_], o, _, h => by simp [unhexL] at h
  | 0, a :: b :: t, o, hn, _ => by simp at hn
  | n + 1, a :: b :: t, o, hn, h => by
    simp only [List.length_cons] at hn
    simp only [unhexL] at h
    by_cases ha : hexZ a < 0
    · rw [if_pos ha] at h; cases h
    · rw [if_neg ha] at h
      by_cases hb : hexZ b < 0
      · rw [if_pos hb] at h; cases h
      · rw [if_neg hb, Option.map_eq_some_iff] at h
        obtain ⟨q, hq, rfl⟩ := h
        have := unhexL_len n t q (by omega) hq
        simp; omega
theorem strOfNums_len (l : List Int) : (strOfNums l).size = l.length := by
  show (strOfNums l).data.size = _
  rw [← Array.length_toList, strOfNums_data, List.length_map]
theorem next_fit (l : List Int) (h : (nextP l).2.2.2.2 = 0) : (nextP l).2.1.size ≤ l.length ∧ 0 ≤ (nextP l).2.2.1 ∧ (nextP l).2.2.1 ≤ 9223372036854775807 := by
  unfold nextP at h ⊢
  by_cases hb : isB l = true
  · rw [if_pos hb] at h ⊢
    cases hk : closeL (l.drop 2) with
    | none => simp [bytesP, hk, failT] at h
    | some k =>
      cases ho : unhexL ((l.drop 2).take k) with
      | none => simp [bytesP, hk, ho, failT] at h
      | some o =>
        have e : bytesP l = (4, strOfNums o, 0, k + 3, 0) := by unfold bytesP; rw [hk]; simp only []; rw [ho]
        rw [e]
        have := unhexL_len _ _ o (Nat.le_refl _) ho
        rw [List.length_take, List.length_drop] at this
        refine ⟨?_, Int.le_refl _, by show (0 : Int) ≤ _; decide⟩
        show (strOfNums o).size ≤ _
        rw [strOfNums_len]; omega
  · rw [if_neg hb] at h ⊢
    by_cases h2 : clsAt l = 2
    · rw [if_pos h2] at h ⊢
      by_cases hE : nameE (strOfNums (l.take (runL wordC l))) = 0
      · have e : wordP l = (1, nameR (strOfNums (l.take (runL wordC l))), 0, runL wordC l, 0) := by unfold wordP; simp only; rw [if_pos hE]
        rw [e]
        refine ⟨?_, Int.le_refl _, by show (0 : Int) ≤ _; decide⟩
        show (nameR _).size ≤ _
        rw [(told_law _ hE).1, foldS_size, strOfNums_len, List.length_take]; omega
      · have e : wordP l = failT := by unfold wordP; simp only; rw [if_neg hE]
        rw [e] at h; simp [failT] at h
    · rw [if_neg h2] at h ⊢
      by_cases h3 : clsAt l = 3
      · rw [if_pos h3] at h ⊢
        by_cases hE : clsAt (l.drop (runL digC l)) = 2
        · have e : numP l = failT := by unfold numP; rw [if_pos hE]
          rw [e] at h; simp [failT] at h
        · have e : numP l = (2, ⟨#[]⟩, (numRE (strOfNums (l.take (runL digC l)))).1, runL digC l, (numRE (strOfNums (l.take (runL digC l)))).2) := by unfold numP; rw [if_neg hE]
          rw [e] at h ⊢
          have := numRE_ok h
          exact ⟨Nat.zero_le _, this.1, this.2.1⟩
      · rw [if_neg h3] at h ⊢
        by_cases h4 : clsAt l = 4
        · rw [if_pos h4] at h ⊢
          cases hk : closeL (l.drop 1) with
          | none =>
            have e : quoP l = failT := by unfold quoP; rw [hk]
            rw [e] at h; simp [failT] at h
          | some k =>
            have e : quoP l = (3, unqR (strOfNums (l.take (k + 2))), 0, k + 2, 0) := by unfold quoP; rw [hk]
            rw [e]
            refine ⟨?_, Int.le_refl _, by show (0 : Int) ≤ _; decide⟩
            show (unqR _).size ≤ _
            unfold unqR
            rw [strOfNums_len]
            cases hq : unqO (strOfNums (l.take (k + 2))) with
            | none => exact Nat.zero_le _
            | some Q =>
              have h1 := congrArg List.length (unqO_some hq)
              rw [bytesOf_length, strOfNums_len, List.length_take] at h1
              have h2 := dblZ_len Q
              simp only [List.length_cons, List.length_append, List.length_nil] at h1
              show Q.length ≤ _
              omega
        · rw [if_neg h4] at h ⊢
          by_cases h0 : sgnN l = 0
          · simp [sgnP, h0, failT] at h
          · have e : sgnP l = (5, strOfNums (l.take (sgnN l)), 0, sgnN l, 0) := by unfold sgnP; rw [if_neg h0]
            rw [e]
            refine ⟨?_, Int.le_refl _, by show (0 : Int) ≤ _; decide⟩
            show (strOfNums _).size ≤ _
            rw [strOfNums_len, List.length_take]; omega
def Fit1 (b : Nat) (t : S53) : Prop := 0 ≤ t.f3 ∧ t.f3 ≤ 9223372036854775807 ∧ t.f2.size ≤ b
theorem readP_fit (B : Nat) : ∀ (f : Nat) (l : List Int) (p : Nat) (acc : List S53), l.length ≤ B → (∀ t ∈ acc, Fit1 B t) → ∀ t ∈ (readP f l p acc).1, Fit1 B t
  | 0, l, p, acc, _, _ => by intro t ht; cases ht
  | f + 1, l, p, acc, hl, ha => by
    rw [readP_step]
    have hd : (l.drop (runL blkC l)).length ≤ l.length := by rw [List.length_drop]; omega
    by_cases he : l.drop (runL blkC l) = []
    · rw [if_pos he]
      intro t ht
      rcases List.mem_append.1 ht with ht | ht
      · exact ha t ht
      · rw [List.mem_singleton.1 ht]; exact ⟨Int.le_refl _, by show (0 : Int) ≤ _; decide, Nat.zero_le _⟩
    · rw [if_neg he]
      generalize l.drop (runL blkC l) = m at *
      by_cases hn : (nextP m).2.2.2.2 ≠ 0
      · rw [if_pos hn]; intro t ht; cases ht
      · rw [if_neg hn]
        obtain ⟨q1, q2, q3⟩ := next_fit m (Decidable.not_not.1 hn)
        refine readP_fit B f _ _ _ (by rw [List.length_drop]; omega) fun t ht => ?_
        rcases List.mem_append.1 ht with ht | ht
        · exact ha t ht
        · rw [List.mem_singleton.1 ht]; exact ⟨q2, q3, by show (nextP m).2.1.size ≤ B; omega⟩
theorem readT_fit (s : ByteArray) : ∀ t ∈ (readT s).1, Fit1 s.size t := by
  unfold readT
  split
  · intro t ht; cases ht
  · split
    · exact readP_fit s.size _ _ 0 [] (by rw [bytesOf_length]; exact Nat.le_refl _) (by intro t ht; cases ht)
    · intro t ht; cases ht
theorem same_of_strip {L M : List S53} (h : M.map strip = L.map strip) : SameBut L M := by
  have hl : M.length = L.length := by have := congrArg List.length h; simpa using this
  refine ⟨hl, fun i h0 h1 => ?_⟩
  have g : ∀ X : List S53, i.toNat < X.length → (X.map strip)[i.toNat]? = some (strip (rd_T53 X i)) := by
    intro X hX
    simp [rd_T53, List.getD_eq_getElem?_getD, hX]
  have h2 := g M (by omega)
  rw [h, g L (by omega)] at h2
  have h3 := Option.some.inj h2
  simp only [strip, Prod.mk.injEq] at h3
  exact ⟨h3.1.symm, h3.2.1.symm, h3.2.2.symm⟩
theorem write_of_strip {L M : List S53} (h : M.map strip = L.map strip) : writeS M = writeS L := by
  have e : ∀ X : List S53, textsL X = ((X.map strip).filter fun t => keepK t.1).map fun t => textZ t.1 t.2.1 t.2.2 := by
    intro X
    unfold textsL
    rw [List.filter_map, List.map_map]
    rfl
  unfold writeS writeL
  rw [e, e, h]
end Go.Proofs.YtoclbmepgeelmaaDoor.Utf
