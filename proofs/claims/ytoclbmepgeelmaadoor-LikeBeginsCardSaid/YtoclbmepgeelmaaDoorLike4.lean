import Derived.Test.YtoclbmepgeelmaaDoorLikeA
import Derived.Test.YtoclbmepgeelmaaDoorPRax4
import Derived.Test.YtoclbmepgeelmaaDoorEnc
namespace Go.Proofs.YtoclbmepgeelmaaDoor.Utf
set_option linter.unusedVariables false
set_option linter.unusedSimpArgs false
open Go.RowKit Go.Lib Go.Proofs.YtoclbmepgeelmaaDoorW.PrintWords Go.Proofs.YtoclbmepgeelmaaDoor.PRa

/-! ### texts without signs -/
def isPlain (l : List UInt8) : Bool := l.all fun b => b.toNat != 37 && b.toNat != 95
theorem plain_f (s : ByteArray) (hs : (s.size : Int) ≤ 1000000) : ∃ k, hindsightlaw06_plain.f k s = some (isPlain s.data.toList) := by
  have go : ∀ (m i : Nat), i + m = s.size → ∃ k, hindsightlaw06_plain.l0 k s (i : Int) = some (isPlain (s.data.toList.drop i)) := by
    intro m
    induction m with
    | zero =>
      intro i hi
      refine ⟨1, ?_⟩
      simp only [hindsightlaw06_plain.l0]
      rw [if_neg (by omega), List.drop_eq_nil_of_le (by simp; omega)]
      rfl
    | succ m ih =>
      intro i hi
      have hl : i < s.data.toList.length := by simp; omega
      have hb : bt s (i : Int) = ((s.data.toList[i]'hl).toNat : Int) := by
        unfold bt
        rw [dif_pos (show (i : Int).toNat < s.size by omega)]
        rfl
      rw [List.drop_eq_getElem_cons hl]
      obtain ⟨c, hc⟩ : ∃ c, s.data.toList[i]'hl = c := ⟨_, rfl⟩
      rw [hc] at hb ⊢
      obtain ⟨k, hk⟩ := ih (i + 1) (by omega)
      by_cases h37 : c.toNat = 37
      · refine ⟨1, ?_⟩
        simp only [hindsightlaw06_plain.l0]
        rw [if_pos (by omega), if_pos (by omega), if_pos (by omega)]
        simp [isPlain, h37]
      · by_cases h95 : c.toNat = 95
        · refine ⟨1, ?_⟩
          simp only [hindsightlaw06_plain.l0]
          rw [if_pos (by omega), if_pos (by omega), if_neg (by omega), if_pos (by omega)]
          simp [isPlain, h95]
        · refine ⟨k + 1, ?_⟩
          simp only [hindsightlaw06_plain.l0]
          rw [if_pos (by omega), if_pos (by omega), if_neg (by omega), if_neg (by omega), wrap64_id (by omega) (by omega), show (i : Int) + 1 = ((i + 1 : Nat) : Int) by omega, hk]
          simp [isPlain, h37, h95]
  obtain ⟨k, hk⟩ := go s.size 0 (by omega)
  exact ⟨k, by unfold hindsightlaw06_plain.f; simpa using hk⟩

theorem plain_walk (s : ByteArray) (w : World) (hs : (s.size : Int) ≤ 1000000) :
    Calls Tryd.prog 22 #[.string s] w fun e w' => e = .returned (.bool (isPlain s.data.toList)) ∧ Drawn0 w w' := by
  obtain ⟨k, hk⟩ := plain_f s hs
  exact hindsightlaw06_plain.calls k s _ w hk

/-- A pattern without signs is as itself alone. -/
theorem like_plain : ∀ (p s : List Int), (∀ x ∈ p, x ≠ 37 ∧ x ≠ 95) → (like p s = true ↔ p = s)
  | [], s, _ => by
    simp only [like, List.isEmpty_iff]
    exact ⟨fun h => h.symm, fun h => h.symm⟩
  | x :: p, [], h => by
    have := h x (by simp)
    simp [like, this.1]
  | x :: p, c :: t, h => by
    have hx := h x (by simp)
    have b95 : (x == 95) = false := by simpa using hx.2
    simp only [like, if_neg hx.1, b95, Bool.false_or, Bool.and_eq_true, beq_iff_eq, List.cons.injEq]
    rw [like_plain p t (fun y hy => h y (by simp [hy]))]
theorem plain_runes {l : List UInt8} (hv : validD l = true) (hp : isPlain l = true) : ∀ x ∈ runesOf l, x ≠ 37 ∧ x ≠ 95 := by
  obtain ⟨rs, hs, e, i⟩ := valid_encs' hv
  rw [i]
  intro x hx
  obtain ⟨r, hr, rfl⟩ := List.mem_map.1 hx
  have hb : ∀ b ∈ encodeRune (r : Int), b.toNat ≠ 37 ∧ b.toNat ≠ 95 := fun b hb => by
    have hm : b ∈ l := by rw [e]; exact List.mem_flatMap.2 ⟨r, hr, hb⟩
    have := List.all_eq_true.1 hp b hm
    simp only [Bool.and_eq_true, bne_iff_ne] at this
    exact this
  constructor
  · intro h
    have : r = 37 := by omega
    subst this
    exact (hb 37 (by decide)).1 rfl
  · intro h
    have : r = 95 := by omega
    subst this
    exact (hb 95 (by decide)).2 rfl
theorem textE_valid {l : List UInt8} (h : textE l = 0) : validD l = true := (textE_zero h).2
theorem self_law (a b : ByteArray) (hp : isPlain a.data.toList = true) (h : fullE a.data.toList b.data.toList = 0) : fullR a.data.toList b.data.toList = (a.toList == b.toList) := by
  rw [ByteArray.toList_eq, ByteArray.toList_eq]
  unfold fullE at h
  unfold fullR
  by_cases hc : compE a.data.toList = 0
  · rw [if_pos hc] at h ⊢
    unfold textR
    rw [if_pos h]
    have hva := (compE_zero hc).2
    have hvb := (textE_zero h).2
    rw [Bool.eq_iff_iff, like_plain _ _ (plain_runes hva hp), beq_iff_eq]
    constructor
    · exact runesOf_inj hva hvb
    · intro e; rw [e]
  · rw [if_neg hc] at h; exact absurd h hc
theorem many_law (b : List UInt8) : (fullE [37] b == 0) = true → fullR [37] b = true := by
  intro h
  have h0 : fullE [37] b = 0 := by simpa using h
  have hc : compE [37] = 0 := by decide
  unfold fullE at h0
  rw [if_pos hc] at h0
  unfold fullR textR
  rw [if_pos hc, if_pos h0, show runesOf [37] = [37] by decide, like_iff]
  exact Lk.all _

set_option maxHeartbeats 4000000 in
set_option maxRecDepth 100000 in
theorem likeSelf_walk (a b : ByteArray) (w : World) (hT : Tabs w) :
    Calls Tryd.prog 4 #[.string a, .string b] w fun e w' => e = .returned (.bool true) ∧ Below w.heap.size w w' := by
  have cA : ∀ W : World, Below w.heap.size w W → Calls Tryd.prog 17 #[] W fun e w' => e = .returned (.bool true) ∧ Below W.heap.size W w' := fun W h => alive06 W (hT.below h)
  have CA := Aside0.mk cA
  have HT := Aside0.mk hT
  clear cA hT
  go_enter Tryd.func4, Tryd.ntmps4
  go_upto_region 1 with (fail)
  go_cut [16] (fun v16 wc => ∃ x : Bool, v16 = .bool x ∧ (x = false → (a.size : Int) ≤ 300) ∧ wc = w)
  case first =>
    have hn : (a.size : Int) ≤ 300 ∨ 300 < (a.size : Int) := by omega
    have hm : (b.size : Int) ≤ 300 ∨ 300 < (b.size : Int) := by omega
    rcases hn with hn | hn <;> rcases hm with hm | hm
    all_goals
      first | have f1 := decide_eq_true (p := (300 : Int) < (a.size : Int)) (by omega) | have f1 := decide_eq_false (p := (300 : Int) < (a.size : Int)) (by omega)
      first | have f2 := decide_eq_true (p := (300 : Int) < (b.size : Int)) (by omega) | have f2 := decide_eq_false (p := (300 : Int) < (b.size : Int)) (by omega)
      go_wp2
      go_meet
      case rel => exact ⟨_, rfl, by simp <;> omega, rfl⟩
  case rest =>
    obtain ⟨x, rfl, hx, rfl⟩ := hcut
    cases x with
    | true =>
      clear hx
      go_wp2_with fail
      refine (CA.out _ (Below.refl _ _)).mono ?_
      rintro e w1 ⟨rfl, hb⟩
      go_wp2_with fail
      go_ret
      exact ⟨rfl, hb⟩
    | false =>
      have hs := hx rfl
      clear hx
      have c1 := lmatch_walk a b wc HT.out
      have c2 := fun W h => lmatch_walk { data := #[37] } b W h
      have c3 := fun W => plain_walk a W (by omega)
      have l1 := self_law a b
      have l2 := many_law b.data.toList
      rw [show ({ data := #[37] } : ByteArray).data.toList = [37] from rfl] at c2
      generalize fullR a.data.toList b.data.toList = X at c1 l1
      generalize fullE a.data.toList b.data.toList = E at c1 l1
      generalize fullR [37] b.data.toList = Y at c2 l2
      generalize fullE [37] b.data.toList = F at c2 l2
      generalize isPlain a.data.toList = P at c3 l1
      have C1 := Aside0.mk c1
      have C2 := Aside0.mk c2
      have C3 := Aside0.mk c3
      clear c1 c2 c3
      obtain ⟨Q, hQ⟩ : ∃ Q, (a.toList == b.toList) = Q := ⟨_, rfl⟩
      rw [hQ] at l1
      have d1 : P = false ∨ (P = true ∧ (E == 0) = false) ∨ (P = true ∧ (E == 0) = true ∧ X = Q) := by
        cases P with
        | false => exact .inl rfl
        | true =>
          cases h : (E == 0) with
          | false => exact .inr (.inl ⟨rfl, rfl⟩)
          | true => exact .inr (.inr ⟨rfl, rfl, l1 rfl (by simpa using h)⟩)
      have d2 : (F != 0) = true ∨ ((F != 0) = false ∧ Y = true) := by
        cases h : (F != 0) with
        | true => exact .inl rfl
        | false => exact .inr ⟨rfl, l2 (by simpa using h)⟩
      clear l1 l2 hs
      have fin : ∀ W : World, Below wc.heap.size wc W → Calls Tryd.prog 17 #[] W fun e w' => e = .returned (.bool true) ∧ Below wc.heap.size wc w' := fun W h => (CA.out W h).mono fun e w' h' => ⟨h'.1, below_step h h'.2⟩
      have FIN := Aside0.mk fin
      clear fin CA
      go_wp2_with fail
      refine C1.out.mono ?_
      rintro e w1 ⟨rfl, hb⟩
      have HB1 := Aside0.mk hb; clear hb
      go_wp2_with fail
      refine (C2.out _ (HT.out.below HB1.out)).mono ?_
      rintro e w2 ⟨rfl, hb⟩
      have HB2 := Aside0.mk (below_step HB1.out hb); clear hb
      clear HT C1 C2
      rcases d1 with rfl | ⟨rfl, hE⟩ | ⟨rfl, hE, rfl⟩
      · go_wp2_with fail
        refine (C3.out _).mono ?_
        rintro e w3 ⟨rfl, ⟨nd, rfl⟩⟩
        have HB3 := Aside0.mk (pw_below_drewN HB2.out nd)
        rcases d2 with hF | ⟨hF, rfl⟩
        all_goals
          go_wp2_with fail
          refine (FIN.out _ HB3.out).mono ?_
          rintro e w4 ⟨rfl, hb⟩
          go_wp2_with fail
          go_ret
          exact ⟨rfl, hb⟩
      · go_wp2_with fail
        refine (C3.out _).mono ?_
        rintro e w3 ⟨rfl, ⟨nd, rfl⟩⟩
        have HB3 := Aside0.mk (pw_below_drewN HB2.out nd)
        rcases d2 with hF | ⟨hF, rfl⟩
        all_goals
          go_wp2_with fail
          refine (FIN.out _ HB3.out).mono ?_
          rintro e w4 ⟨rfl, hb⟩
          go_wp2_with fail
          go_ret
          exact ⟨rfl, hb⟩
      · go_wp2_with fail
        refine (C3.out _).mono ?_
        rintro e w3 ⟨rfl, ⟨nd, rfl⟩⟩
        have HB3 := Aside0.mk (pw_below_drewN HB2.out nd)
        cases X
        all_goals
          rcases d2 with hF | ⟨hF, rfl⟩
          all_goals
            go_wp2_with fail
            refine (FIN.out _ HB3.out).mono ?_
            rintro e w4 ⟨rfl, hb⟩
            go_wp2_with fail
            go_ret
            exact ⟨rfl, hb⟩
end Go.Proofs.YtoclbmepgeelmaaDoor.Utf
