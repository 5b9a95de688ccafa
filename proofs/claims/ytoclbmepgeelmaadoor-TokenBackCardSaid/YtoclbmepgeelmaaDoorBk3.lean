import Derived.Test.YtoclbmepgeelmaaDoorBk2
namespace Go.Proofs.YtoclbmepgeelmaaDoor.Utf
set_option linter.unusedVariables false
set_option linter.unusedSimpArgs false
open Go.RowKit Go.Lib Go.Proofs.YtoclbmepgeelmaaDoorW.PrintWords

/-! #### quoted texts -/
theorem closeL_end {r : List Int} (hr : Rest r) : closeL (39 :: r) = some 0 := by
  rcases hr with rfl | ⟨t, rfl⟩ <;> simp [closeL]
theorem closeL_dbl : ∀ (X r : List Int), Rest r → closeL (dblZ X ++ 39 :: r) = some (dblZ X).length
  | [], r, hr => closeL_end hr
  | c :: t, r, hr => by
    rw [dblZ_cons]
    by_cases hc : c = 39
    · rw [if_pos hc]
      show closeL (39 :: 39 :: (dblZ t ++ 39 :: r)) = _
      have : closeL (39 :: 39 :: (dblZ t ++ 39 :: r)) = (closeL (dblZ t ++ 39 :: r)).map (· + 2) := by simp [closeL]
      rw [this, closeL_dbl t r hr]; simp
    · rw [if_neg hc]
      show closeL (c :: (dblZ t ++ 39 :: r)) = _
      rw [closeL_other hc, closeL_dbl t r hr]; simp
theorem closeL_cut : ∀ (n : Nat) (l : List Int), l.length ≤ n → ∀ k, closeL l = some k → ∃ x y, l = x ++ 39 :: y ∧ x.length = k
  | _, [], _, k, h => by simp [closeL] at h
  | 0, c :: t, hn, _, _ => by simp at hn
  | n + 1, c :: t, hn, k, h => by
    simp only [List.length_cons] at hn
    by_cases hc : c = 39
    · subst hc
      cases t with
      | nil =>
        simp only [closeL, ↓reduceIte, Option.some.injEq] at h
        subst h; exact ⟨[], [], rfl, rfl⟩
      | cons d u =>
        by_cases hd : d = 39
        · subst hd
          simp only [closeL, ↓reduceIte, Option.map_eq_some_iff] at h
          obtain ⟨q, hq, rfl⟩ := h
          obtain ⟨x, y, rfl, hx⟩ := closeL_cut n u (by simp at hn; omega) q hq
          exact ⟨39 :: 39 :: x, y, rfl, by simp [hx]⟩
        · simp only [closeL, ↓reduceIte] at h
          rw [if_neg hd, Option.some.injEq] at h
          subst h; exact ⟨[], d :: u, rfl, rfl⟩
    · rw [closeL_other hc, Option.map_eq_some_iff] at h
      obtain ⟨q, hq, rfl⟩ := h
      obtain ⟨x, y, rfl, hx⟩ := closeL_cut n t (by omega) q hq
      exact ⟨c :: x, y, rfl, by simp [hx]⟩
theorem dblZ_memB (X : List Int) : ∀ x ∈ X, x ∈ dblZ X := by
  intro x hx
  unfold dblZ
  refine List.mem_flatMap.2 ⟨x, hx, ?_⟩
  split
  · rename_i h; subst h; simp
  · simp
theorem dblZ_range {X : List Int} (h : ∀ x ∈ X, 0 ≤ x ∧ x ≤ 255) : ∀ x ∈ dblZ X, 0 ≤ x ∧ x ≤ 255 := by
  intro x hx
  unfold dblZ at hx
  obtain ⟨c, hc, hx⟩ := List.mem_flatMap.1 hx
  have := h c hc
  split at hx
  · simp at hx; subst hx; omega
  · simp at hx; subst hx; exact this
theorem quote_bytes (t : ByteArray) : bytesOf (quoteS t) = 39 :: (dblZ (bytesOf t) ++ [39]) := by
  rw [quoteS_nums, bytesOf_str]
  intro x hx
  rcases List.mem_cons.1 hx with rfl | hx
  · omega
  · rcases List.mem_append.1 hx with hx | hx
    · exact dblZ_range (bytesOf_range t) x hx
    · rw [List.mem_singleton.1 hx]; omega
theorem quoP_read (t : ByteArray) (r : List Int) (hr : Rest r) : nextP (bytesOf (quoteS t) ++ r) = (3, t, 0, (bytesOf (quoteS t)).length, 0) := by
  have hq := (unquote_quote t).1
  have hl : (bytesOf (quoteS t)).length = (dblZ (bytesOf t)).length + 2 := by rw [quote_bytes]; simp
  have ht : (bytesOf (quoteS t) ++ r).take ((dblZ (bytesOf t)).length + 2) = bytesOf (quoteS t) := by rw [← hl, List.take_left]
  have hcl : closeL ((bytesOf (quoteS t) ++ r).drop 1) = some (dblZ (bytesOf t)).length := by
    rw [quote_bytes]
    show closeL ((dblZ (bytesOf t) ++ [39]) ++ r) = _
    rw [List.append_assoc]
    exact closeL_dbl _ _ hr
  have hP : quoP (bytesOf (quoteS t) ++ r) = (3, t, 0, (bytesOf (quoteS t)).length, 0) := by
    unfold quoP
    rw [hcl]
    simp only []
    rw [ht, strOfNums_bytes, hq, hl]
  rw [← hP]
  have e : bytesOf (quoteS t) ++ r = 39 :: ((dblZ (bytesOf t) ++ [39]) ++ r) := by rw [quote_bytes]; rfl
  rw [e]
  unfold nextP
  have hb : isB (39 :: ((dblZ (bytesOf t) ++ [39]) ++ r)) = false := by
    cases (dblZ (bytesOf t) ++ [39]) ++ r <;> simp [isB]
  have hc4 : clsAt (39 :: ((dblZ (bytesOf t) ++ [39]) ++ r)) = 4 := by show classZ 39 = 4; decide
  rw [if_neg (by rw [hb]; decide), if_neg (by rw [hc4]; decide), if_neg (by rw [hc4]; decide), if_pos hc4]
theorem quo_back (l : List Int) (hr : ∀ c ∈ l, 0 ≤ c ∧ c ≤ 255) (hc : clsAt l = 4) (hv : vZ l = true) (h : (quoP l).2.2.2.2 = 0) : Back (quoP l) := by
  cases hk : closeL (l.drop 1) with
  | none =>
    have e : quoP l = failT := by unfold quoP; rw [hk]
    rw [e] at h; simp [failT] at h
  | some k =>
    have e : quoP l = (3, unqR (strOfNums (l.take (k + 2))), 0, k + 2, 0) := by unfold quoP; rw [hk]
    have hB : tB (quoP l) = bytesOf (quoteS (unqR (strOfNums (l.take (k + 2))))) := by rw [e]; unfold tB; simp only []; rw [textZ_3]
    refine ⟨by rw [e]; show (1 : Int) ≤ 3; decide, by rw [e]; show (3 : Int) ≤ 5; decide, ?_, fun r hr' => ?_⟩
    · rw [hB]
      cases hq : unqO (strOfNums (l.take (k + 2))) with
      | none =>
        have : unqR (strOfNums (l.take (k + 2))) = strOfNums [] := by unfold unqR; rw [hq]; rfl
        rw [this, quote_bytes, bytesOf_str _ (by intro x hx; cases hx)]
        exact vZ_ascii _ (by intro x hx; simp [dblZ] at hx; omega)
      | some Q =>
        have h1 := unqO_some hq
        have hP : ∀ c ∈ l.take (k + 2), 0 ≤ c ∧ c ≤ 255 := fun c hc => hr c (List.mem_of_mem_take hc)
        rw [bytesOf_str _ hP] at h1
        have hQ : ∀ x ∈ Q, 0 ≤ x ∧ x ≤ 255 := fun x hx => hP x (by rw [h1]; simp [dblZ_memB Q x hx])
        have : unqR (strOfNums (l.take (k + 2))) = strOfNums Q := by unfold unqR; rw [hq]; rfl
        rw [this, quote_bytes, bytesOf_str _ hQ, ← List.cons_append]
        refine (vZ_behind (y := l.drop (k + 2)) (by decide) (by decide) ?_).2
        have e2 : l = (39 :: dblZ Q ++ [39]) ++ l.drop (k + 2) := by
          rw [List.cons_append, ← h1, List.take_append_drop]
        rw [e2] at hv
        simpa using hv
    · rw [hB, quoP_read _ _ hr', e]

/-! #### bytes -/
theorem hexD_lo {x : Int} (h0 : 0 ≤ x) (h1 : x ≤ 15) : hexZ (hexD x) = x ∧ hexD x ≠ 39 ∧ 0 ≤ hexD x ∧ hexD x < 128 := by
  unfold hexD hexZ
  split <;> (repeat' split) <;> omega
theorem hexL_cons (c : Int) (t : List Int) : hexL (c :: t) = hexD (c / 16) :: hexD (c % 16) :: hexL t := by simp [hexL]
theorem hexL_ok : ∀ l : List Int, (∀ c ∈ l, 0 ≤ c ∧ c ≤ 255) → unhexL (hexL l) = some l ∧ dblZ (hexL l) = hexL l ∧ ∀ c ∈ hexL l, 0 ≤ c ∧ c < 128
  | [], _ => ⟨rfl, rfl, by intro c hc; simp [hexL] at hc⟩
  | c :: t, h => by
    obtain ⟨i1, i2, i3⟩ := hexL_ok t (fun d hd => h d (by simp [hd]))
    have hc := h c (by simp)
    obtain ⟨a1, a2, a3, a4⟩ := hexD_lo (x := c / 16) (by omega) (by omega)
    obtain ⟨b1, b2, b3, b4⟩ := hexD_lo (x := c % 16) (by omega) (by omega)
    rw [hexL_cons]
    refine ⟨?_, ?_, ?_⟩
    · simp only [unhexL]
      rw [a1, b1, if_neg (by omega), if_neg (by omega), i1]
      simp only [Option.map_some]
      congr 2; omega
    · rw [dblZ_cons, if_neg a2, dblZ_cons, if_neg b2, i2]
    · intro d hd
      rcases List.mem_cons.1 hd with rfl | hd
      · exact ⟨a3, a4⟩
      · rcases List.mem_cons.1 hd with rfl | hd
        · exact ⟨b3, b4⟩
        · exact i3 d hd
theorem unhexL_range : ∀ (n : Nat) (l o : List Int), l.length ≤ n → unhexL l = some o → ∀ c ∈ o, 0 ≤ c ∧ c ≤ 255
  | _, [], o, _, h => by simp only [unhexL, Option.some.injEq] at h; subst h; intro c hc; cases hc
  | _, [_], o, _, h => by simp [unhexL] at h
  | 0, a :: b :: t, o, hn, _ => by simp at hn
  | n + 1, a :: b :: t, o, hn, h => by
    simp only [List.length_cons] at hn
    simp only [unhexL] at h
    by_cases ha : hexZ a < 0
    · rw [if_pos ha] at h; cases h
    · rw [if_neg ha] at h
      by_cases hb : hexZ b < 0
      · rw [if_pos hb] at h; cases h
      · rw [if_neg hb, Option.map_eq_some_iff] at h
        obtain ⟨q, hq, rfl⟩ := h
        have h1 := hexZ_le a
        have h2 := hexZ_le b
        intro c hc
        rcases List.mem_cons.1 hc with rfl | hc
        · omega
        · exact unhexL_range n t q (by omega) hq c hc
theorem bytesOf_app2 (a b : ByteArray) : bytesOf (a ++ b) = bytesOf a ++ bytesOf b := by
  unfold bytesOf
  rw [ByteArray.data_append, Array.toList_append, List.map_append]
theorem bytes_back (l : List Int) (h : (bytesP l).2.2.2.2 = 0) : Back (bytesP l) := by
  cases hk : closeL (l.drop 2) with
  | none =>
    have e : bytesP l = failT := by unfold bytesP; rw [hk]
    rw [e] at h; simp [failT] at h
  | some k =>
    cases ho : unhexL ((l.drop 2).take k) with
    | none =>
      have e : bytesP l = failT := by unfold bytesP; rw [hk]; simp only []; rw [ho]
      rw [e] at h; simp [failT] at h
    | some o =>
      have e : bytesP l = (4, strOfNums o, 0, k + 3, 0) := by unfold bytesP; rw [hk]; simp only []; rw [ho]
      have hor := unhexL_range _ _ o (Nat.le_refl _) ho
      obtain ⟨u1, u2, u3⟩ := hexL_ok o hor
      have hB : tB (bytesP l) = 120 :: 39 :: (hexL o ++ [39]) := by
        rw [e]; unfold tB
        simp only []
        rw [textZ_4, bytesOf_app2, quote_bytes, bytesOf_str o hor, bytesOf_str (hexL o) (fun c hc => by have := u3 c hc; omega), u2]
        rfl
      have hlen : (tB (bytesP l)).length = (hexL o).length + 3 := by rw [hB]; simp
      refine ⟨by rw [e]; show (1 : Int) ≤ 4; decide, by rw [e]; show (4 : Int) ≤ 5; decide, ?_, fun r hr' => ?_⟩
      · rw [hB]
        refine vZ_ascii _ fun c hc => ?_
        rcases List.mem_cons.1 hc with rfl | hc
        · omega
        · rcases List.mem_cons.1 hc with rfl | hc
          · omega
          · rcases List.mem_append.1 hc with hc | hc
            · exact u3 c hc
            · rw [List.mem_singleton.1 hc]; omega
      · rw [hlen, hB, e]
        have e2 : 120 :: 39 :: (hexL o ++ [39]) ++ r = 120 :: 39 :: (hexL o ++ 39 :: r) := by simp
        rw [e2]
        have hcl : closeL (hexL o ++ 39 :: r) = some (hexL o).length := by
          have := closeL_dbl (hexL o) r hr'
          rwa [u2] at this
        unfold nextP
        have hb : isB (120 :: 39 :: (hexL o ++ 39 :: r)) = true := by simp [isB]
        rw [if_pos hb]
        unfold bytesP
        show (match closeL (hexL o ++ 39 :: r) with
          | none => failT
          | some k => match unhexL ((hexL o ++ 39 :: r).take k) with
            | none => failT
            | some o => (4, strOfNums o, 0, k + 3, 0)) = _
        rw [hcl]
        simp only []
        rw [List.take_left, u1]
end Go.Proofs.YtoclbmepgeelmaaDoor.Utf
