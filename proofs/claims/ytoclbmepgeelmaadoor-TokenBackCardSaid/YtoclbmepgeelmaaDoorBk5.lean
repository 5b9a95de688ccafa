import Derived.Test.YtoclbmepgeelmaaDoorBk4
namespace Go.Proofs.YtoclbmepgeelmaaDoor.Utf
set_option linter.unusedVariables false
set_option linter.unusedSimpArgs false
open Go.RowKit Go.Lib Go.Proofs.YtoclbmepgeelmaaDoorW.PrintWords Go.Proofs.YtoclbmepgeelmaaDoor.PRe

abbrev tS (t : S53) : List Int := bytesOf (textZ t.f0 t.f2 t.f3)
def BackS (t : S53) : Prop := 1 ≤ t.f0 ∧ t.f0 ≤ 5 ∧ vZ (tS t) = true ∧ ∀ r, Rest r → nextP (tS t ++ r) = (t.f0, t.f2, t.f3, (tS t).length, 0)
/-- What a good text's tokens are like. -/
theorem readP_back : ∀ (f : Nat) (l : List Int) (p : Nat) (acc : List S53), (∀ c ∈ l, 0 ≤ c ∧ c ≤ 255) → vZ l = true → l.length < f → (readP f l p acc).2.2 = 0 →
    ∃ (ts : List S53) (e : Int), (readP f l p acc).1 = acc ++ ts ++ [⟨0, e, ⟨#[]⟩, 0⟩] ∧ ∀ t ∈ ts, BackS t
  | 0, l, p, acc, _, _, h, _ => by omega
  | f + 1, l, p, acc, hr, hv, h, h0 => by
    have hb := runL_le blkC l
    have hbv := blank_valid l hv
    have hbr : ∀ c ∈ l.drop (runL blkC l), 0 ≤ c ∧ c ≤ 255 := fun c hc => hr c (List.mem_of_mem_drop hc)
    have hbl : (l.drop (runL blkC l)).length ≤ l.length := by rw [List.length_drop]; omega
    rw [readP_step] at h0 ⊢
    by_cases he : l.drop (runL blkC l) = []
    · rw [if_pos he] at h0 ⊢
      exact ⟨[], _, by rw [List.append_nil], by intro t ht; cases ht⟩
    · rw [if_neg he] at h0 ⊢
      generalize l.drop (runL blkC l) = m at *
      by_cases hn : (nextP m).2.2.2.2 ≠ 0
      · rw [if_pos hn] at h0; exact absurd h0 hn
      · rw [if_neg hn] at h0 ⊢
        have hn0 : (nextP m).2.2.2.2 = 0 := Decidable.not_not.1 hn
        have hB := next_back m hbr hbv hn0
        have hpos := next_pos hn0
        have hok := (next_ok m).2
        obtain ⟨ts, e, e1, e2⟩ := readP_back f _ _ _ (fun c hc => hbr c (List.mem_of_mem_drop hc)) (piece_valid (next_piece hbr hn0) hbv) (by rw [List.length_drop]; omega) h0
        refine ⟨⟨(nextP m).1, ((p + runL blkC l : Nat) : Int), (nextP m).2.1, (nextP m).2.2.1⟩ :: ts, e, by rw [e1]; simp, ?_⟩
        intro t ht
        rcases List.mem_cons.1 ht with rfl | ht
        · exact hB
        · exact e2 t ht
theorem tS_ne {t : S53} (h : BackS t) : tS t ≠ [] := by
  intro h0
  have := h.2.2.2 [] (.inl rfl)
  rw [h0] at this
  have h1 : (40 : Int) = 0 := congrArg (fun x : Tk => x.2.2.2.2) this
  exact absurd h1 (by decide)
def tailZ (u : List S53) : List Int := u.flatMap fun t => 32 :: tS t
def wZ : List S53 → List Int
  | [] => []
  | t :: u => tS t ++ tailZ u
theorem tail_rest (u : List S53) : Rest (tailZ u) := by
  cases u with
  | nil => exact .inl rfl
  | cons t u => exact .inr ⟨tS t ++ tailZ u, by simp [tailZ]⟩
def strip (t : S53) : Int × ByteArray × Int := (t.f0, t.f2, t.f3)
theorem readP_tokB {t : S53} (h : BackS t) {r : List Int} (hr : Rest r) (g p : Nat) (acc : List S53) :
    readP (g + 1) (tS t ++ r) p acc = readP g r (p + (tS t).length) (acc ++ [⟨t.f0, (p : Int), t.f2, t.f3⟩]) := by
  have hn := h.2.2.2 r hr
  have hz : runL blkC (tS t ++ r) = 0 := (next_noblank (by rw [hn])).1
  rw [readP_step, hz, List.drop_zero, hn]
  simp only [Nat.add_zero]
  rw [if_neg (by simp [tS_ne h]), if_neg (by decide), List.drop_left]
theorem readP_tail : ∀ (u : List S53), (∀ t ∈ u, BackS t) → ∀ (f p : Nat) (acc : List S53), (tailZ u).length < f →
    ∃ (us : List S53) (e : Int), readP f (tailZ u) p acc = (acc ++ us ++ [⟨0, e, ⟨#[]⟩, 0⟩], 0, 0) ∧ us.map strip = u.map strip
  | [], _, f, p, acc, hf => by
    obtain ⟨g, rfl⟩ : ∃ g, f = g + 1 := ⟨f - 1, by omega⟩
    exact ⟨[], ((p + 0 : Nat) : Int), by rw [readP_step, if_pos (by rfl), List.append_nil]; rfl, rfl⟩
  | t :: u, h, f, p, acc, hf => by
    have e1 : tailZ (t :: u) = 32 :: (tS t ++ tailZ u) := by simp [tailZ]
    rw [e1] at hf ⊢
    rw [readP_blank f 32 _ p acc (by decide)]
    simp only [List.length_cons, List.length_append] at hf
    obtain ⟨g, rfl⟩ : ∃ g, f = g + 1 := ⟨f - 1, by omega⟩
    have ht := h t (by simp)
    have hl : 0 < (tS t).length := List.length_pos_iff.2 (tS_ne ht)
    rw [readP_tokB ht (tail_rest u)]
    obtain ⟨us, e, h1, h2⟩ := readP_tail u (fun x hx => h x (by simp [hx])) g (p + 1 + (tS t).length) (acc ++ [⟨t.f0, ((p + 1 : Nat) : Int), t.f2, t.f3⟩]) (by omega)
    exact ⟨⟨t.f0, ((p + 1 : Nat) : Int), t.f2, t.f3⟩ :: us, e, by rw [h1]; simp, by simp [h2, strip]⟩
theorem readP_w (u : List S53) (h : ∀ t ∈ u, BackS t) (f p : Nat) (acc : List S53) (hf : (wZ u).length < f) :
    ∃ (us : List S53) (e : Int), readP f (wZ u) p acc = (acc ++ us ++ [⟨0, e, ⟨#[]⟩, 0⟩], 0, 0) ∧ us.map strip = u.map strip := by
  cases u with
  | nil => exact readP_tail [] h f p acc hf
  | cons t u =>
    have ht := h t (by simp)
    have hl : 0 < (tS t).length := List.length_pos_iff.2 (tS_ne ht)
    simp only [wZ, List.length_append] at hf ⊢
    obtain ⟨g, rfl⟩ : ∃ g, f = g + 1 := ⟨f - 1, by omega⟩
    rw [readP_tokB ht (tail_rest u)]
    obtain ⟨us, e, h1, h2⟩ := readP_tail u (fun x hx => h x (by simp [hx])) g (p + (tS t).length) (acc ++ [⟨t.f0, (p : Int), t.f2, t.f3⟩]) (by omega)
    exact ⟨⟨t.f0, (p : Int), t.f2, t.f3⟩ :: us, e, by rw [h1]; simp, by simp [h2, strip]⟩
theorem vZ_tail : ∀ u : List S53, (∀ t ∈ u, BackS t) → vZ (tailZ u) = true
  | [], _ => vZ_nil
  | t :: u, h => by
    have e1 : tailZ (t :: u) = [32] ++ (tS t ++ tailZ u) := by simp [tailZ]
    rw [e1, vZ_app (vZ_one (by decide) (by decide)), vZ_app (h t (by simp)).2.2.1]
    exact vZ_tail u (fun x hx => h x (by simp [hx]))
theorem vZ_w (u : List S53) (h : ∀ t ∈ u, BackS t) : vZ (wZ u) = true := by
  cases u with
  | nil => exact vZ_nil
  | cons t u =>
    show vZ (tS t ++ tailZ u) = true
    rw [vZ_app (h t (by simp)).2.2.1]
    exact vZ_tail u (fun x hx => h x (by simp [hx]))
theorem bytes_writeS (u : List S53) (h : ∀ t ∈ u, BackS t) (e : Int) : bytesOf (writeS (u ++ [⟨0, e, ⟨#[]⟩, 0⟩])) = wZ u := by
  have hT : textsL (u ++ [⟨0, e, ⟨#[]⟩, 0⟩]) = u.map fun t => textZ t.f0 t.f2 t.f3 := by
    unfold textsL
    rw [List.filter_append, List.filter_eq_self.2 (fun t ht => by have := h t ht; simp [keepK, this.1, this.2.1])]
    have : ([⟨0, e, ⟨#[]⟩, 0⟩] : List S53).filter (fun t => keepK t.f0) = [] := by simp [keepK]
    rw [this, List.append_nil]
  unfold writeS writeL bytesOf
  rw [hT]
  cases u with
  | nil => rfl
  | cons t u =>
    rw [List.map_cons, List.map_cons, join_cons]
    simp only []
    rw [List.map_append]
    show _ = tS t ++ tailZ u
    refine congrArg (tS t ++ ·) ?_
    unfold joinTail tailZ
    clear hT h
    induction u with
    | nil => rfl
    | cons x u ih =>
      rw [List.flatMap_cons, ← ih]
      simp [bytesOf]
/-- P19.3, plainly. -/
theorem back_law (s : ByteArray) (h : (readT s).2.2 = 0) (hw : (writeS (readT s).1).size ≤ 4096) :
    (readT (writeS (readT s).1)).2.2 = 0 ∧ (readT (writeS (readT s).1)).1.map strip = (readT s).1.map strip := by
  have hs : ¬ 4096 < s.size := by
    intro h1
    simp [readT, h1] at h
  have hvs : validD s.data.toList = true := by
    apply Decidable.byContradiction
    intro h1
    simp [readT, hs, h1] at h
  have e0 : readT s = readP (s.size + 1) (bytesOf s) 0 [] := by unfold readT; rw [if_neg hs, if_pos hvs]
  rw [e0] at h
  obtain ⟨ts, e, h1, h2⟩ := readP_back (s.size + 1) (bytesOf s) 0 [] (bytesOf_range s) (by rw [vZ_bytes]; exact hvs) (by rw [bytesOf_length]; omega) h
  rw [List.nil_append] at h1
  have e1 : (readT s).1 = ts ++ [⟨0, e, ⟨#[]⟩, 0⟩] := by rw [e0, h1]
  rw [e1] at hw ⊢
  have hB := bytes_writeS ts h2 e
  have hl : (wZ ts).length = (writeS (ts ++ [⟨0, e, ⟨#[]⟩, 0⟩])).size := by rw [← hB, bytesOf_length]
  have hv : validD (writeS (ts ++ [⟨0, e, ⟨#[]⟩, 0⟩])).data.toList = true := by rw [← vZ_bytes, hB]; exact vZ_w ts h2
  have e2 : readT (writeS (ts ++ [⟨0, e, ⟨#[]⟩, 0⟩])) = readP ((writeS (ts ++ [⟨0, e, ⟨#[]⟩, 0⟩])).size + 1) (wZ ts) 0 [] := by
    unfold readT; rw [if_neg (by omega), if_pos hv, hB]
  obtain ⟨us, e', h3, h4⟩ := readP_w ts h2 ((writeS (ts ++ [⟨0, e, ⟨#[]⟩, 0⟩])).size + 1) 0 [] (by omega)
  rw [e2, h3]
  exact ⟨rfl, by simp [h4, strip]⟩
end Go.Proofs.YtoclbmepgeelmaaDoor.Utf
