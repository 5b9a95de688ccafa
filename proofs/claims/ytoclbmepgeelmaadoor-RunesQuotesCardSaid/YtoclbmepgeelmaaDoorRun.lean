import Derived.Test.YtoclbmepgeelmaaDoorRqu
import Derived.Test.YtoclbmepgeelmaaDoorRun12
namespace Go.Proofs.YtoclbmepgeelmaaDoor.Utf
set_option linter.unusedVariables false
set_option linter.unusedSimpArgs false
open Go.RowKit Go.Lib Go.Proofs.YtoclbmepgeelmaaDoorW.PrintWords Go.Proofs.YtoclbmepgeelmaaDoorW.PrintLast Go.Proofs.YtoclbmepgeelmaaDoorW.PrintMore

/-- Each byte; behind a quote the next is passed over. -/
def pick : List Int → List Int
  | [] => []
  | c :: t => if c = 39 then (match t with
      | [] => [39]
      | _ :: u => 39 :: pick u) else c :: pick t
theorem pick_other {c : Int} (hc : c ≠ 39) (t : List Int) : pick (c :: t) = c :: pick t := by
  cases t <;> simp [pick, hc]
theorem dblZ_cons (c : Int) (t : List Int) : dblZ (c :: t) = if c = 39 then 39 :: 39 :: dblZ t else c :: dblZ t := by
  unfold dblZ; rw [List.flatMap_cons]; split <;> rfl
theorem unqL_dbl : ∀ X : List Int, unqL (dblZ X) = some X
  | [] => rfl
  | c :: t => by
    rw [dblZ_cons]
    by_cases h : c = 39
    · subst h; rw [if_pos rfl]; simp [unqL, unqL_dbl t]
    · rw [if_neg h, unqL_other h, unqL_dbl t]; rfl
theorem pick_dbl : ∀ X : List Int, pick (dblZ X) = X
  | [] => rfl
  | c :: t => by
    rw [dblZ_cons]
    by_cases h : c = 39
    · subst h; rw [if_pos rfl]; simp [pick, pick_dbl t]
    · rw [if_neg h, pick_other h, pick_dbl t]
theorem dbl_unqL : ∀ (n : Nat) (l X : List Int), l.length ≤ n → unqL l = some X → dblZ X = l
  | _, [], X, _, h => by
    simp only [unqL, Option.some.injEq] at h
    subst h; rfl
  | 0, c :: t, X, hn, _ => by simp at hn
  | n + 1, c :: t, X, hn, h => by
    simp only [List.length_cons] at hn
    by_cases hc : c = 39
    · subst hc
      cases t with
      | nil => simp [unqL] at h
      | cons d u =>
        by_cases hd : d = 39
        · subst hd
          simp only [unqL, ↓reduceIte, Option.map_eq_some_iff] at h
          obtain ⟨Y, hY, rfl⟩ := h
          rw [dblZ_cons, if_pos rfl, dbl_unqL n u Y (by simp at hn; omega) hY]
        · simp [unqL, hd] at h
    · rw [unqL_other hc, Option.map_eq_some_iff] at h
      obtain ⟨Y, hY, rfl⟩ := h
      rw [dblZ_cons, if_neg hc, dbl_unqL n t Y (by omega) hY]
theorem runq_l0 (s : ByteArray) (hs : (s.size : Int) ≤ 100000) : ∀ (m i : Nat) (acc : List Int), s.size ≤ i + m + 1 → 1 ≤ i → i ≤ s.size + 1 → acc.length ≤ i →
    ∃ k, PRb.hindsightref05_Unquote.l0 k s acc (i : Int) = (if (quoteS (strOfNums (acc ++ pick (((bytesOf s).take (s.size - 1)).drop i)))).toList = s.toList then some (strOfNums (acc ++ pick (((bytesOf s).take (s.size - 1)).drop i)), 0) else some (⟨#[]⟩, 3)) := by
  intro m
  induction m using Nat.strongRecOn with
  | _ m ih =>
  intro i acc hi hi1 hi2 ha
  have hbl := bytesOf_length s
  have w1 : wrap64 ((i : Int) + 1) = ((i + 1 : Nat) : Int) := by rw [wrap64_id (by omega) (by omega)]; omega
  by_cases hlt : i + 1 < s.size
  · have hd : ((bytesOf s).take (s.size - 1)).drop i = bt s (i : Int) :: ((bytesOf s).take (s.size - 1)).drop (i + 1) := by
      have hl : i < ((bytesOf s).take (s.size - 1)).length := by simp; omega
      have hl2 : i < (bytesOf s).length := by omega
      rw [List.drop_eq_getElem_cons hl]
      congr 1
      rw [List.getElem_take, ← rd_bytesOf]
      simp [rd, List.getD_eq_getElem?_getD, hl2]
    by_cases h39 : bt s (i : Int) = 39
    · have w2 : wrap64 ((((i + 1 : Nat) : Int)) + 1) = ((i + 2 : Nat) : Int) := by rw [wrap64_id (by omega) (by omega)]; omega
      obtain ⟨k, hk⟩ := ih (m - 1) (by omega) (i + 2) (acc ++ [39]) (by omega) (by omega) (by omega) (by simp; omega)
      refine ⟨k + 1, ?_⟩
      have hp : acc ++ pick (((bytesOf s).take (s.size - 1)).drop i) = acc ++ [39] ++ pick (((bytesOf s).take (s.size - 1)).drop (i + 2)) := by
        rw [hd, h39]
        cases hr : ((bytesOf s).take (s.size - 1)).drop (i + 1) with
        | nil =>
          have : ((bytesOf s).take (s.size - 1)).drop (i + 2) = [] := by
            rw [show i + 2 = i + 1 + 1 by omega, ← List.drop_drop, hr]; rfl
          rw [this]; simp [pick]
        | cons d u =>
          have : ((bytesOf s).take (s.size - 1)).drop (i + 2) = u := by
            rw [show i + 2 = i + 1 + 1 by omega, ← List.drop_drop, hr]; rfl
          rw [this]; simp [pick]
      rw [hp]
      simp only [PRb.hindsightref05_Unquote.l0]
      rw [w1, if_pos (by omega), if_pos (by omega), if_pos (by omega), if_pos (by omega), Option.bind_some, if_pos h39, w2, h39, hk]
    · obtain ⟨k, hk⟩ := ih (m - 1) (by omega) (i + 1) (acc ++ [bt s (i : Int)]) (by omega) (by omega) (by omega) (by simp; omega)
      refine ⟨k + 1, ?_⟩
      have hp : acc ++ pick (((bytesOf s).take (s.size - 1)).drop i) = acc ++ [bt s (i : Int)] ++ pick (((bytesOf s).take (s.size - 1)).drop (i + 1)) := by
        rw [hd, pick_other h39]; simp
      rw [hp]
      simp only [PRb.hindsightref05_Unquote.l0]
      rw [w1, if_pos (by omega), if_pos (by omega), if_pos (by omega), if_pos (by omega), Option.bind_some, if_neg h39, hk]
  · have hnil : ((bytesOf s).take (s.size - 1)).drop i = [] := List.drop_eq_nil_of_le (by simp; omega)
    rw [hnil]
    have hacc : acc ++ pick [] = acc := by simp [pick]
    rw [hacc]
    obtain ⟨k, hk⟩ := rquote_f (strOfNums acc) (by rw [strOfNums_size]; omega)
    refine ⟨k + 1, ?_⟩
    simp only [PRb.hindsightref05_Unquote.l0]
    rw [w1, if_neg (by omega), hk, Option.bind_some]
theorem quote_nums_inj {xs : List Int} {s : ByteArray} (hx : ∀ x ∈ xs, 0 ≤ x ∧ x ≤ 255) : (quoteS (strOfNums xs)).toList = s.toList ↔ bytesOf s = 39 :: (dblZ xs ++ [39]) := by
  have hd : ∀ x ∈ (39 :: (dblZ xs ++ [39]) : List Int), 0 ≤ x ∧ x ≤ 255 := by
    intro x hm
    rcases List.mem_cons.1 hm with rfl | hm
    · omega
    · rcases List.mem_append.1 hm with hm | hm
      · obtain ⟨c, hc, hxc⟩ := List.mem_flatMap.1 hm
        have := hx c hc
        split at hxc
        · simp at hxc; omega
        · simp at hxc; omega
      · simp at hm; omega
  rw [ByteArray.toList_eq, ByteArray.toList_eq, quoteS_nums, bytesOf_str xs hx]
  constructor
  · intro h
    have : strOfNums (39 :: (dblZ xs ++ [39])) = s := ByteArray.ext (Array.toList_inj.1 h)
    rw [← this, bytesOf_str _ hd]
  · intro h
    rw [← h, strOfNums_data, bytesOf, List.map_map]
    conv => rhs; rw [← List.map_id s.data.toList]
    apply List.map_congr_left
    intro b _
    simp
theorem pick_mem : ∀ (n : Nat) (l : List Int), l.length ≤ n → ∀ x ∈ pick l, x ∈ l
  | _, [], _, x, h => by simp [pick] at h
  | 0, c :: t, hn, _, _ => by simp at hn
  | n + 1, c :: t, hn, x, h => by
    simp only [List.length_cons] at hn
    by_cases hc : c = 39
    · subst hc
      cases t with
      | nil => simpa [pick] using h
      | cons d u =>
        simp only [pick, ↓reduceIte, List.mem_cons] at h
        rcases h with rfl | h
        · simp
        · have := pick_mem n u (by simp at hn; omega) x h
          simp [this]
    · rw [pick_other hc] at h
      rcases List.mem_cons.1 h with rfl | h
      · simp
      · have := pick_mem n t (by omega) x h
        simp [this]
/-- A text of two bytes or more: its ends, and what stands between. -/
theorem bytes_ends (s : ByteArray) (h : 2 ≤ s.size) : bytesOf s = bt s 0 :: (bytesOf (s.extract 1 (s.size - 1)) ++ [bt s ((s.size : Int) - 1)]) := by
  have e0 := bytes_rd s 0 (by omega)
  rw [List.drop_zero] at e0
  have e1 := bytes_rd s (s.size - 1) (by omega)
  have e2 : List.drop (s.size - 1) (bytesOf s) = [bt s ((s.size : Int) - 1)] := by
    rw [e1, show ((s.size - 1 : Nat) : Int) = (s.size : Int) - 1 by omega, show s.size - 1 + 1 = s.size by omega, List.drop_eq_nil_of_le (by rw [bytesOf_length]; omega)]
  have hm : bytesOf (s.extract 1 (s.size - 1)) = ((bytesOf s).take (s.size - 1)).drop 1 := by
    unfold bytesOf
    rw [ByteArray.data_extract, Array.toList_extract, List.extract_eq_drop_take', List.map_drop, List.map_take]
  rw [hm, ← e2]
  conv => lhs; rw [e0]
  show _ :: _ = _ :: _
  congr 1
  rw [show (0 + 1 : Nat) = 1 from rfl]
  rw [List.drop_take, show List.drop (s.size - 1) (bytesOf s) = List.drop (s.size - 1 - 1) (List.drop 1 (bytesOf s)) by rw [List.drop_drop]; congr 1; omega, List.take_append_drop]
theorem unqO_ends {s : ByteArray} {M : List Int} (h : bytesOf s = 39 :: (M ++ [39])) : unqO s = unqL M := by
  have hl := congrArg List.length h
  rw [bytesOf_length] at hl
  simp at hl
  have h2 := bytes_ends s (by omega)
  rw [h] at h2
  obtain ⟨q0, q⟩ := List.cons.inj h2
  obtain ⟨q1, q2⟩ := List.append_inj' q rfl
  simp only [List.cons.injEq, and_true] at q2
  unfold unqO
  rw [if_neg (by omega), if_neg (by rw [← q0, ← q2]; simp), q1]
theorem unqO_some {s : ByteArray} {Q : List Int} (h : unqO s = some Q) : bytesOf s = 39 :: (dblZ Q ++ [39]) := by
  unfold unqO at h
  split at h
  · cases h
  · split at h
    · cases h
    · rename_i a b
      rw [bytes_ends s (by omega), dbl_unqL _ _ _ (Nat.le_refl _) h]
      have b0 : bt s 0 = 39 := Decidable.byContradiction fun q => b (.inl q)
      have b1 : bt s ((s.size : Int) - 1) = 39 := Decidable.byContradiction fun q => b (.inr q)
      rw [b0, b1]
/-- The document's Unquote. -/
theorem runq_f (s : ByteArray) (hs : (s.size : Int) ≤ 100000) : ∃ k, PRb.hindsightref05_Unquote.f k s = some (unqR s, unqE s) := by
  obtain ⟨k, hk⟩ := runq_l0 s hs s.size 1 [] (by omega) (by omega) (by omega) (by simp)
  refine ⟨k, ?_⟩
  unfold PRb.hindsightref05_Unquote.f
  rw [show ((1 : Nat) : Int) = 1 from rfl] at hk
  rw [hk]
  clear hk
  simp only [List.nil_append]
  obtain ⟨P, hP⟩ : ∃ P, pick (((bytesOf s).take (s.size - 1)).drop 1) = P := ⟨_, rfl⟩
  have hPb : ∀ x ∈ P, 0 ≤ x ∧ x ≤ 255 := by
    rw [← hP]
    intro x hx
    exact bytesOf_range s x (List.mem_of_mem_take (List.mem_of_mem_drop (pick_mem _ _ (Nat.le_refl _) x hx)))
  rw [hP]
  unfold unqR unqE
  cases hO : unqO s with
  | none =>
    rw [if_neg]
    · rfl
    · rw [quote_nums_inj hPb]
      intro h
      rw [unqO_ends h, unqL_dbl] at hO
      cases hO
  | some Q =>
    have hb := unqO_some hO
    have hPQ : P = Q := by
      have hl := congrArg List.length hb
      rw [bytesOf_length] at hl
      simp at hl
      rw [← hP, hb, hl]
      simp [pick_dbl]
    subst hPQ
    rw [if_pos ((quote_nums_inj hPb).2 hb)]
    rfl
end Go.Proofs.YtoclbmepgeelmaaDoor.Utf
