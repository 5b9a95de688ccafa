import Derived.Test.YtoclbmepgeelmaaDoorUtf
import Derived.Lib.RuneBytes
import Derived.Lib.MapLaws
namespace Go.Proofs.YtoclbmepgeelmaaDoor.Utf
set_option linter.unusedVariables false
set_option linter.unusedSimpArgs false
open Go.RowKit Go.Lib

/-- A number that is a point. -/
def Scalar (r : Nat) : Prop := r < 55296 ∨ (57343 < r ∧ r ≤ 1114111)
theorem encL (x : Int) (h0 : 0 ≤ x) (h1 : x < 256) : ((x.toNat.toUInt8).toNat : Int) = x := by
  rw [Nat.toUInt8, UInt8.toNat_ofNat']
  omega
theorem enc_one {r : Nat} (h : r ≤ 127) : encodeRune (r : Int) = [r.toUInt8] := by
  simp only [encodeRune, encodeRuneZ_one (r := (r : Int)) (by omega) (by omega), List.map_cons, List.map_nil, Int.toNat_natCast]
set_option maxHeartbeats 1000000 in
/-- The bytes of a point are read as that point, whatever follows. -/
theorem decode_encode (r : Nat) (hr : Scalar r) (y : List UInt8) : decodeL (encodeRune (r : Int) ++ y) = (r, (encodeRune (r : Int)).length) ∧ ¬ (r = 65533 ∧ (encodeRune (r : Int)).length = 1) := by
  unfold Scalar at hr
  have E : ∀ x : Int, 0 ≤ x → x < 256 → (x.toNat.toUInt8).toNat = x.toNat := fun x h0 h1 => by have := encL x h0 h1; omega
  by_cases c1 : r ≤ 127
  · have e : encodeRune (r : Int) = [((r : Int)).toNat.toUInt8] := by simp only [encodeRune, encodeRuneZ_one (r := (r : Int)) (by omega) (by omega), List.map_cons, List.map_nil]
    rw [e, decodeL_N]
    simp only [List.cons_append, List.nil_append, List.getD_cons_zero, List.length_cons, List.length_nil]
    rw [E _ (by omega) (by omega)]
    unfold decodeN
    rw [if_pos (by omega)]
    exact ⟨by simp, by omega⟩
  by_cases c2 : r ≤ 2047
  · have e : encodeRune (r : Int) = [(192 + (r : Int) / 64).toNat.toUInt8, (128 + (r : Int) % 64).toNat.toUInt8] := by simp only [encodeRune, encodeRuneZ_two (r := (r : Int)) (by omega) (by omega), List.map_cons, List.map_nil]
    rw [e, decodeL_N]
    simp only [List.cons_append, List.nil_append, List.getD_cons_zero, List.getD_cons_succ, List.length_cons, List.length_nil]
    rw [E _ (by omega) (by omega), E _ (by omega) (by omega)]
    unfold decodeN
    rw [if_neg (by omega), if_pos (by omega), if_pos (by omega)]
    exact ⟨by apply Prod.ext <;> simp only <;> omega, by omega⟩
  by_cases c3 : r ≤ 65535
  · have e : encodeRune (r : Int) = [(224 + (r : Int) / 4096).toNat.toUInt8, (128 + (r : Int) / 64 % 64).toNat.toUInt8, (128 + (r : Int) % 64).toNat.toUInt8] := by simp only [encodeRune, encodeRuneZ_three (r := (r : Int)) (by omega), List.map_cons, List.map_nil]
    rw [e, decodeL_N]
    simp only [List.cons_append, List.nil_append, List.getD_cons_zero, List.getD_cons_succ, List.length_cons, List.length_nil]
    rw [E _ (by omega) (by omega), E _ (by omega) (by omega), E _ (by omega) (by omega)]
    unfold decodeN
    rw [if_neg (by omega), if_neg (by omega), if_pos (by omega), if_pos (by omega)]
    exact ⟨by apply Prod.ext <;> simp only <;> omega, by omega⟩
  · have e : encodeRune (r : Int) = [(240 + (r : Int) / 262144).toNat.toUInt8, (128 + (r : Int) / 4096 % 64).toNat.toUInt8, (128 + (r : Int) / 64 % 64).toNat.toUInt8, (128 + (r : Int) % 64).toNat.toUInt8] := by simp only [encodeRune, encodeRuneZ_four (r := (r : Int)) (by omega) (by omega), List.map_cons, List.map_nil]
    rw [e, decodeL_N]
    simp only [List.cons_append, List.nil_append, List.getD_cons_zero, List.getD_cons_succ, List.length_cons, List.length_nil]
    rw [E _ (by omega) (by omega), E _ (by omega) (by omega), E _ (by omega) (by omega), E _ (by omega) (by omega)]
    unfold decodeN
    rw [if_neg (by omega), if_neg (by omega), if_neg (by omega), if_pos (by omega), if_pos (by omega)]
    exact ⟨by apply Prod.ext <;> simp only <;> omega, by omega⟩
/-- What is read from good bytes is a point. -/
theorem scalar_decode (l : List UInt8) (hne : l ≠ []) (hv : ¬ ((decodeL l).1 = 65533 ∧ (decodeL l).2 = 1)) : Scalar (decodeL l).1 := by
  rw [decodeL_N] at hv ⊢
  have k0 := (l.getD 0 0).toNat_lt
  have k1 := (l.getD 1 0).toNat_lt
  have k2 := (l.getD 2 0).toNat_lt
  have k3 := (l.getD 3 0).toNat_lt
  unfold Scalar
  rcases decodeN_shape l.length (l.getD 0 0).toNat (l.getD 1 0).toNat (l.getD 2 0).toNat (l.getD 3 0).toNat with ⟨c, e⟩ | ⟨c1, c2, c3, cv, e⟩ | ⟨c1, c2, c3, c4, cv, cs, e⟩ | ⟨c1, c2, c3, c4, c5, cv, cw, e⟩ | e
  · rw [e]; dsimp only; omega
  · rw [e]; dsimp only; omega
  · rw [e]; dsimp only; omega
  · rw [e]; dsimp only; omega
  · rw [e] at hv; exact absurd ⟨rfl, rfl⟩ hv

def encs (rs : List Nat) : List UInt8 := rs.flatMap fun (r : Nat) => encodeRune (r : Int)
def ints (rs : List Nat) : List Int := rs.map fun (r : Nat) => (r : Int)
theorem encs_append (a b : List Nat) : encs (a ++ b) = encs a ++ encs b := by simp [encs]
theorem ints_append (a b : List Nat) : ints (a ++ b) = ints a ++ ints b := by simp [ints]
theorem ints_inj {a b : List Nat} (h : ints a = ints b) : a = b := by
  have := congrArg (List.map Int.toNat) h
  simpa [ints, List.map_map, Function.comp_def] using this
theorem enc_ne (r : Nat) : encodeRune (r : Int) ≠ [] := by
  intro h
  have h1 := (encodeRuneZ_length (r : Int)).1
  have h2 := congrArg List.length h
  simp [encodeRune] at h2
  rw [h2] at h1
  simp at h1
/-- Points' bytes ahead of a text. -/
theorem encs_ahead : ∀ (rs : List Nat) (x : List UInt8), (∀ r ∈ rs, Scalar r) → validD (encs rs ++ x) = validD x ∧ runesOf (encs rs ++ x) = ints rs ++ runesOf x
  | [], x, _ => by simp [encs, ints]
  | r :: rs, x, h => by
    obtain ⟨hd, hb⟩ := decode_encode r (h r (by simp)) (encs rs ++ x)
    obtain ⟨i1, i2⟩ := encs_ahead rs x (fun q hq => h q (by simp [hq]))
    have e : encs (r :: rs) ++ x = encodeRune (r : Int) ++ (encs rs ++ x) := by simp [encs]
    have hne : encodeRune (r : Int) ++ (encs rs ++ x) ≠ [] := by simp [enc_ne]
    rw [e, validD_step _ hne, runesOf_step _ hne, hd]
    simp only []
    rw [if_neg hb, List.drop_left, i1, i2]
    exact ⟨rfl, by simp [ints]⟩
theorem encs_valid (rs : List Nat) (h : ∀ r ∈ rs, Scalar r) : validD (encs rs) = true ∧ runesOf (encs rs) = ints rs := by
  have := encs_ahead rs [] h
  simpa [validD_nil, runesOf_nil] using this
/-- A good text is its points' bytes. -/
theorem valid_encs : ∀ (n : Nat) (l : List UInt8), l.length ≤ n → validD l = true → ∃ rs, (∀ r ∈ rs, Scalar r) ∧ l = encs rs ∧ runesOf l = ints rs
  | 0, l, hn, _ => by
    have : l = [] := List.eq_nil_of_length_eq_zero (by omega)
    subst this
    exact ⟨[], by simp, rfl, rfl⟩
  | n + 1, l, hn, hv => by
    by_cases hne : l = []
    · subst hne; exact ⟨[], by simp, rfl, rfl⟩
    · rw [validD_step l hne] at hv
      by_cases hb : (decodeL l).1 = 65533 ∧ (decodeL l).2 = 1
      · rw [if_pos hb] at hv; cases hv
      · rw [if_neg hb] at hv
        have hw := decodeL_width l
        have hl : 0 < l.length := List.length_pos_iff.2 hne
        obtain ⟨rs, h1, h2, h3⟩ := valid_encs n (l.drop (decodeL l).2) (by rw [List.length_drop]; omega) hv
        refine ⟨(decodeL l).1 :: rs, ?_, ?_, ?_⟩
        · intro r hr
          rcases List.mem_cons.1 hr with rfl | hr
          · exact scalar_decode l hne hb
          · exact h1 r hr
        · have := encode_decode l hne hb
          simp only [encs, List.flatMap_cons]
          rw [this, ← encs, ← h2, List.take_append_drop]
        · rw [runesOf_step l hne, h3]
          simp [ints]
theorem valid_encs' {l : List UInt8} (hv : validD l = true) : ∃ rs, (∀ r ∈ rs, Scalar r) ∧ l = encs rs ∧ runesOf l = ints rs := valid_encs _ l (Nat.le_refl _) hv
theorem runesOf_inj {a b : List UInt8} (ha : validD a = true) (hb : validD b = true) (h : runesOf a = runesOf b) : a = b := by
  obtain ⟨ra, _, ea, ia⟩ := valid_encs' ha
  obtain ⟨rb, _, eb, ib⟩ := valid_encs' hb
  rw [ia, ib] at h
  rw [ea, eb, ints_inj h]
theorem valid_append {a x : List UInt8} (ha : validD a = true) : validD (a ++ x) = validD x ∧ runesOf (a ++ x) = runesOf a ++ runesOf x := by
  obtain ⟨ra, hs, ea, ia⟩ := valid_encs' ha
  obtain ⟨h1, h2⟩ := encs_ahead ra x hs
  rw [ia, ea]; exact ⟨h1, h2⟩

/-- A byte that goes on with a point. -/
def cont (b : UInt8) : Prop := 128 ≤ b.toNat ∧ b.toNat < 192
theorem enc_bytes (r : Nat) (hr : Scalar r) : ∃ b t, encodeRune (r : Int) = b :: t ∧ ¬ cont b ∧ ∀ c ∈ t, cont c := by
  unfold Scalar at hr
  have E : ∀ x : Int, 0 ≤ x → x < 256 → (x.toNat.toUInt8).toNat = x.toNat := fun x h0 h1 => by have := encL x h0 h1; omega
  unfold cont
  by_cases c1 : r ≤ 127
  · refine ⟨_, _, by simp only [encodeRune, encodeRuneZ_one (r := (r : Int)) (by omega) (by omega), List.map_cons, List.map_nil]; rfl, ?_, ?_⟩
    · rw [E _ (by omega) (by omega)]; omega
    · simp
  by_cases c2 : r ≤ 2047
  · refine ⟨_, _, by simp only [encodeRune, encodeRuneZ_two (r := (r : Int)) (by omega) (by omega), List.map_cons, List.map_nil]; rfl, ?_, ?_⟩
    · rw [E _ (by omega) (by omega)]; omega
    · intro c hc
      simp only [List.mem_cons, List.mem_nil_iff, or_false] at hc
      subst hc
      rw [E _ (by omega) (by omega)]; omega
  by_cases c3 : r ≤ 65535
  · refine ⟨_, _, by simp only [encodeRune, encodeRuneZ_three (r := (r : Int)) (by omega), List.map_cons, List.map_nil]; rfl, ?_, ?_⟩
    · rw [E _ (by omega) (by omega)]; omega
    · intro c hc
      simp only [List.mem_cons, List.mem_nil_iff, or_false] at hc
      rcases hc with rfl | rfl <;> (rw [E _ (by omega) (by omega)]; omega)
  · refine ⟨_, _, by simp only [encodeRune, encodeRuneZ_four (r := (r : Int)) (by omega) (by omega), List.map_cons, List.map_nil]; rfl, ?_, ?_⟩
    · rw [E _ (by omega) (by omega)]; omega
    · intro c hc
      simp only [List.mem_cons, List.mem_nil_iff, or_false] at hc
      rcases hc with rfl | rfl | rfl <;> (rw [E _ (by omega) (by omega)]; omega)
/-- Ahead of a good text, what makes a good text with it is good itself. -/
theorem encs_split : ∀ (r : List Nat) (u : List UInt8) (rb : List Nat), (∀ q ∈ r, Scalar q) → (∀ q ∈ rb, Scalar q) → encs r = u ++ encs rb → ∃ ru, (∀ q ∈ ru, Scalar q) ∧ u = encs ru ∧ r = ru ++ rb
  | r, [], rb, hr, hb, h => by
    refine ⟨[], by simp, rfl, ?_⟩
    have h1 := (encs_valid r hr).2
    have h2 := (encs_valid rb hb).2
    simp only [List.nil_append] at h
    rw [h] at h1
    exact ints_inj (h1.symm.trans h2)
  | [], c :: u, rb, hr, hb, h => by simp [encs] at h
  | q :: r, c :: u, rb, hr, hb, h => by
    have e : encs (q :: r) = encodeRune (q : Int) ++ encs r := by simp [encs]
    rw [e] at h
    obtain ⟨b, t, eq, hnb, hct⟩ := enc_bytes q (hr q (by simp))
    rw [eq] at h
    simp only [List.cons_append, List.cons.injEq] at h
    obtain ⟨rfl, h⟩ := h
    rcases List.append_eq_append_iff.1 h with ⟨m, h1, h2⟩ | ⟨m, h1, h2⟩
    · obtain ⟨ru, i1, i2, i3⟩ := encs_split r m rb (fun x hx => hr x (by simp [hx])) hb h2
      refine ⟨q :: ru, ?_, ?_, by rw [i3]; rfl⟩
      · intro x hx
        rcases List.mem_cons.1 hx with rfl | hx
        · exact hr _ (by simp)
        · exact i1 x hx
      · have : encs (q :: ru) = encodeRune (q : Int) ++ encs ru := by simp [encs]
        rw [this, eq, ← i2, h1]; rfl
    · cases rb with
      | nil =>
        simp only [encs, List.flatMap_nil] at h2
        obtain ⟨rfl, h3⟩ := List.append_eq_nil_iff.1 h2.symm
        refine ⟨[q], ?_, ?_, ?_⟩
        · intro x hx
          rw [List.mem_singleton.1 hx]; exact hr _ (by simp)
        · have : encs [q] = encodeRune (q : Int) := by simp [encs]
          rw [this, eq, h1]; simp
        · cases r with
          | nil => rfl
          | cons x r => exact absurd h3 (by simp [enc_ne])
      | cons x rb =>
        obtain ⟨b', t', eq', hnb', _⟩ := enc_bytes x (hb x (by simp))
        have e' : encs (x :: rb) = encodeRune (x : Int) ++ encs rb := by simp [encs]
        rw [e', eq'] at h2
        cases m with
        | nil =>
          rw [List.nil_append] at h2
          rw [List.append_nil] at h1
          refine ⟨[q], ?_, ?_, ?_⟩
          · intro y hy
            rw [List.mem_singleton.1 hy]; exact hr _ (by simp)
          · have : encs [q] = encodeRune (q : Int) := by simp [encs]
            rw [this, eq, h1]
          · have h3 : encs r = encs (x :: rb) := by rw [e', eq']; exact h2.symm
            have i1 := (encs_valid r (fun y hy => hr y (by simp [hy]))).2
            have i2 := (encs_valid (x :: rb) hb).2
            rw [h3] at i1
            rw [ints_inj (i1.symm.trans i2)]; rfl
        | cons y m =>
          simp only [List.cons_append, List.cons.injEq] at h2
          exact absurd (hct b' (by rw [h1, ← h2.1]; simp)) hnb'
theorem valid_split {u b : List UInt8} (hb : validD b = true) (h : validD (u ++ b) = true) : validD u = true ∧ runesOf (u ++ b) = runesOf u ++ runesOf b := by
  obtain ⟨rb, hs, eb, ib⟩ := valid_encs' hb
  obtain ⟨r, hr, er, ir⟩ := valid_encs' h
  rw [eb] at er
  obtain ⟨ru, hu, eu, e⟩ := encs_split r u rb hr hs er.symm
  have hv : validD u = true := by rw [eu]; exact (encs_valid ru hu).1
  exact ⟨hv, (valid_append hv).2⟩
end Go.Proofs.YtoclbmepgeelmaaDoor.Utf
