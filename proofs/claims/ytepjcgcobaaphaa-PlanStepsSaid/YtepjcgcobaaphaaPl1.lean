import Derived.Test.YtepjcgcobaaphaaPl0
namespace Go.Proofs.Ytepjcgcobaaphaa.Pl
set_option linter.unusedVariables false
set_option linter.unusedSimpArgs false
open Go.RowKit Go.Lib Go.Proofs.YtepjcgcobaaphaaW.PrintWords Go.Proofs.YtepjcgcobaaphaaW.PrintLast Go.Proofs.YtepjcgcobaaphaaW.PrintMore Go.Proofs.Ytepjcgcobaaphaa.PPa

set_option maxHeartbeats 2000000 in
set_option maxRecDepth 100000 in
theorem index36 (L : List S36) (A : Option Addr) (c : Nat) (w : World) (p : S36 → Bool) (hC : Kd.C k36 w A L.length L) (hc : L.length ≤ c) (hm : L.length < 9223372036854775808)
    (hp : ∀ x ∈ L, ∀ (A' : Option Addr) (c' : Nat) (w' : World), Below w.heap.size w w' → x.f5.length ≤ c' → Kd.C k36 w' A' x.f5.length x.f5 → Calls Try.prog 28 #[V36 x A' c'] w' fun e w'' => e = .returned (.bool (p x)) ∧ Below w'.heap.size w' w'') :
    Calls Try.prog 36 #[.slice A L.length c, .func (.func 28) #[] #[]] w fun e w' => ∃ r : Int, e = .returned (.int .i64 r) ∧ (decide (0 ≤ r)) = L.any p ∧ Below w.heap.size w w' := by
  have HC := Aside0.mk hC
  have HP := Aside0.mk hp
  clear hC hp hc
  go_enter Try.func36, Try.ntmps36
  go_wp2
  go_loopg [5, 8] L.length (fun gg _ s8 wr => ∃ kk : Nat, kk ≤ L.length ∧ L.length - kk ≤ gg ∧ s8 = .int .i64 kk ∧ Aside0 (Below w.heap.size w wr) ∧ Aside0 ((L.take kk).any p = false))
  case atStart => exact ⟨0, Nat.zero_le _, by omega, rfl, ⟨Below.refl _ _⟩, ⟨by simp⟩⟩
  case round =>
    obtain ⟨kk, hkk, hg, rfl, HB, HA⟩ := hrel
    by_cases hlt : kk < L.length
    · have hltz : (kk : Int) < (L.length : Int) := by omega
      obtain ⟨ad, A7, c7, hA, h0, h1, h2, h3, h4, h5, h6, h7, hl7, hc7⟩ := at_T36 (Kd.C_below HC.out HB.out) (kk : Int) (by omega) hltz
      rw [Int.toNat_natCast] at h0 h1 h2 h3 h4 h5 h6 h7
      subst hA
      have hcall := HP.out (rd_T36 L kk) (rd36_mem L kk hlt) A7 c7 wr HB.out hl7 hc7
      have HT := Aside0.mk (any_take p L kk hlt)
      clear hc7 hl7
      obtain ⟨x, hx⟩ : ∃ x, x = rd_T36 L kk := ⟨_, rfl⟩
      rw [← hx] at h0 h1 h2 h3 h4 h5 h6 h7 HT hcall
      have HX := Aside0.mk hx
      clear hx
      have HG := Aside0.mk hg
      have HL := Aside0.mk hlt
      cases hq : p x with
      | true =>
        rw [hq] at hcall
        have HQ := Aside0.mk hq
        have HK := Aside0.mk hcall
        clear hcall hlt hg hkk hq
        go_wp2_with fail
        refine HK.out.mono ?_
        rintro e w' ⟨rfl, hb⟩
        go_wp2
        go_ret
        refine ⟨_, rfl, ?_, below_step HB.out hb⟩
        rw [← List.take_append_drop (kk + 1) L, List.any_append, HT.out, HQ.out]
        simp
      | false =>
        rw [hq] at hcall
        have HQ := Aside0.mk hq
        have HK := Aside0.mk hcall
        clear hcall hlt hg hkk hq
        go_wp2_with fail
        refine HK.out.mono ?_
        rintro e w' ⟨rfl, hb⟩
        go_wp2
        go_roundg (L.length - (kk + 1))
        case measure => have := HG.out; have := HL.out; omega
        case rel => exact ⟨kk + 1, HL.out, by omega, by go_num, ⟨below_step HB.out hb⟩, ⟨by rw [HT.out, HA.out, HQ.out]; rfl⟩⟩
    · have hltz : ¬ (kk : Int) < (L.length : Int) := by omega
      have : kk = L.length := by omega
      subst this
      go_wp2
      go_ret
      refine ⟨_, rfl, ?_, HB.out⟩
      have := HA.out
      rw [List.take_length] at this
      rw [this]; decide
set_option maxHeartbeats 2000000 in
set_option maxRecDepth 100000 in
theorem contains36 (L : List S36) (A : Option Addr) (c : Nat) (w : World) (p : S36 → Bool) (hC : Kd.C k36 w A L.length L) (hc : L.length ≤ c) (hm : L.length < 9223372036854775808)
    (hp : ∀ x ∈ L, ∀ (A' : Option Addr) (c' : Nat) (w' : World), Below w.heap.size w w' → x.f5.length ≤ c' → Kd.C k36 w' A' x.f5.length x.f5 → Calls Try.prog 28 #[V36 x A' c'] w' fun e w'' => e = .returned (.bool (p x)) ∧ Below w'.heap.size w' w'') :
    Calls Try.prog 27 #[.slice A L.length c, .func (.func 28) #[] #[]] w fun e w' => e = .returned (.bool (L.any p)) ∧ Below w.heap.size w w' := by
  have HK := Aside0.mk (index36 L A c w p hC hc hm hp)
  clear hC hp hc hm
  go_enter Try.func27, Try.ntmps27
  go_wp2_with fail
  refine HK.out.mono ?_
  rintro e w' ⟨r, rfl, hr, hb⟩
  have HR := Aside0.mk hr
  have HB := Aside0.mk hb
  clear hb hr
  go_wp2
  go_ret
  exact ⟨by rw [HR.out]; rfl, HB.out⟩
/-- Bounds of a tree's slices: every list of args in it is short. -/
theorem nlen_ok {x : S36} (h : cnt x ≤ 1000000000000) : x.f5.length < 9223372036854775808 := by
  have h1 : x.f5.length ≤ cntL x.f5 := by
    generalize x.f5 = l
    induction l with
    | nil => simp
    | cons a t ih => rw [cntL]; have := cnt_eq a; simp; omega
  have := cnt_eq x
  omega
set_option maxHeartbeats 4000000 in
set_option maxRecDepth 100000 in
theorem safe_walk (k : Nat) : ∀ (x : S36) (A : Option Addr) (c : Nat) (w : World), cnt x ≤ k → cnt x ≤ 1000000000000 → x.f5.length ≤ c → Kd.C k36 w A x.f5.length x.f5 →
    Calls Try.prog 14 #[V36 x A c] w fun e w' => e = .returned (.bool (safeP x)) ∧ Below w.heap.size w w' := by
  induction k with
  | zero => intro x A c w h _ _ _; have := cnt_eq x; omega
  | succ k ih =>
    intro x A c w hk hk2 hc hC
    have hcon : ∀ w1, Below w.heap.size w w1 → Calls Try.prog 27 #[.slice A x.f5.length c, .func (.func 28) #[] #[]] w1 fun e w' => e = .returned (.bool (x.f5.any fun a => !safeP a)) ∧ Below w1.heap.size w1 w' := by
      intro w1 hb1
      refine contains36 x.f5 A c w1 (fun a => !safeP a) (Kd.C_below hC hb1) hc (nlen_ok hk2) ?_
      intro a ha A' c' w2 hb2 hl hC2
      have hlt := cnt_mem ha
      have hs := fun w3 (hb3 : Below w2.heap.size w2 w3) => ih a A' c' w3 (by omega) (by omega) hl (Kd.C_below hC2 hb3)
      generalize safeP a = s at hs
      have HS := Aside0.mk hs
      clear hs hlt hC2 hl hb2 ha hk hk2 hc hC ih
      go_enter Try.func28, Try.ntmps28
      go_wp2_with fail
      refine (HS.out _ (by repeat (first | exact Below.refl _ _ | apply below_alloc))).mono ?_
      rintro e w' ⟨rfl, hb⟩
      go_wp2
      go_ret
      exact ⟨rfl, below_step (by repeat (first | exact Below.refl _ _ | apply below_alloc)) hb⟩
    have HC := Aside0.mk hcon
    clear hcon ih hk hk2 hC hc
    have hsp := safeP_eq x
    have hna : (x.f5.any fun a => !safeP a) = !(x.f5.all safeP) := by rw [List.not_all_eq_any_not]
    rw [hna] at HC
    generalize x.f5.all safeP = q at *
    generalize safeP x = r at *
    obtain ⟨f0, f1, f2, f3, f4, f5⟩ := x
    simp only at *
    have hr := hsp
    clear hsp hna
    have hkind : f0 = 1 ∨ f0 = 2 ∨ f0 = 5 ∨ ((f0 == 1) = false ∧ (f0 == 2) = false ∧ (f0 == 5) = false) := by
      by_cases h1 : f0 = 1
      · exact .inl h1
      by_cases h2 : f0 = 2
      · exact .inr (.inl h2)
      by_cases h5 : f0 = 5
      · exact .inr (.inr (.inl h5))
      exact .inr (.inr (.inr ⟨by simpa using h1, by simpa using h2, by simpa using h5⟩))
    have hops : (∃ i, i < 9 ∧ f1.toList = opsSafe.getD i []) ∨ (opsSafe.any (fun s => f1.toList == s) = false ∧ ∀ s ∈ opsSafe, (f1.toList == s) = false) := by
      by_cases h : opsSafe.any (fun s => f1.toList == s) = true
      · left
        obtain ⟨s, hs, he⟩ := List.any_eq_true.1 h
        obtain ⟨i, hi, rfl⟩ := List.getElem_of_mem hs
        exact ⟨i, hi, by rw [List.getD_eq_getElem?_getD, List.getElem?_eq_getElem hi]; exact eq_of_beq he⟩
      · right
        have h' : opsSafe.any (fun s => f1.toList == s) = false := by
          cases hh : opsSafe.any (fun s => f1.toList == s)
          · rfl
          · exact absurd hh h
        exact ⟨h', fun s hs => by have := List.any_eq_false.1 h' s hs; simpa using this⟩
    rcases hops with ⟨i, hi, ho⟩ | ⟨hn, ho⟩
    · have hb : baseSafe f0 f1 = true := by
        unfold baseSafe
        rw [Bool.or_eq_true]; right
        exact List.any_eq_true.2 ⟨opsSafe.getD i [], by rw [List.getD_eq_getElem?_getD, List.getElem?_eq_getElem hi]; exact List.getElem_mem hi, by rw [ho]; exact beq_self_eq_true _⟩
      rw [hb, Bool.true_and] at hr
      subst hr
      clear hb
      match i, hi with
      | 0, _ =>
        have b0 : (f1.toList == [110, 111, 116]) = true := by rw [ho]; rfl
        clear ho
        rcases hkind with rfl | rfl | rfl | ⟨n1, n2, n5⟩
        all_goals
          go_enter Try.func14, Try.ntmps14
          go_wp2_with fail
          refine (HC.out _ (by repeat (first | exact Below.refl _ _ | apply below_alloc))).mono ?_
          rintro e w' ⟨rfl, hb⟩
          have HB := Aside0.mk hb
          clear hb
          go_wp2
          go_ret
          exact ⟨by simp, below_step (by repeat (first | exact Below.refl _ _ | apply below_alloc)) HB.out⟩
      | 1, _ =>
        have b0 : (f1.toList == [110, 111, 116]) = false := by rw [ho]; rfl
        have b1 : (f1.toList == [111, 114]) = true := by rw [ho]; rfl
        clear ho
        rcases hkind with rfl | rfl | rfl | ⟨n1, n2, n5⟩
        all_goals
          go_enter Try.func14, Try.ntmps14
          go_wp2_with fail
          refine (HC.out _ (by repeat (first | exact Below.refl _ _ | apply below_alloc))).mono ?_
          rintro e w' ⟨rfl, hb⟩
          have HB := Aside0.mk hb
          clear hb
          go_wp2
          go_ret
          exact ⟨by simp, below_step (by repeat (first | exact Below.refl _ _ | apply below_alloc)) HB.out⟩
      | 2, _ =>
        have b0 : (f1.toList == [110, 111, 116]) = false := by rw [ho]; rfl
        have b1 : (f1.toList == [111, 114]) = false := by rw [ho]; rfl
        have b2 : (f1.toList == [97, 110, 100]) = true := by rw [ho]; rfl
        clear ho
        rcases hkind with rfl | rfl | rfl | ⟨n1, n2, n5⟩
        all_goals
          go_enter Try.func14, Try.ntmps14
          go_wp2_with fail
          refine (HC.out _ (by repeat (first | exact Below.refl _ _ | apply below_alloc))).mono ?_
          rintro e w' ⟨rfl, hb⟩
          have HB := Aside0.mk hb
          clear hb
          go_wp2
          go_ret
          exact ⟨by simp, below_step (by repeat (first | exact Below.refl _ _ | apply below_alloc)) HB.out⟩
      | 3, _ =>
        have b0 : (f1.toList == [110, 111, 116]) = false := by rw [ho]; rfl
        have b1 : (f1.toList == [111, 114]) = false := by rw [ho]; rfl
        have b2 : (f1.toList == [97, 110, 100]) = false := by rw [ho]; rfl
        have b3 : (f1.toList == [61]) = true := by rw [ho]; rfl
        clear ho
        rcases hkind with rfl | rfl | rfl | ⟨n1, n2, n5⟩
        all_goals
          go_enter Try.func14, Try.ntmps14
          go_wp2_with fail
          refine (HC.out _ (by repeat (first | exact Below.refl _ _ | apply below_alloc))).mono ?_
          rintro e w' ⟨rfl, hb⟩
          have HB := Aside0.mk hb
          clear hb
          go_wp2
          go_ret
          exact ⟨by simp, below_step (by repeat (first | exact Below.refl _ _ | apply below_alloc)) HB.out⟩
      | 4, _ =>
        have b0 : (f1.toList == [110, 111, 116]) = false := by rw [ho]; rfl
        have b1 : (f1.toList == [111, 114]) = false := by rw [ho]; rfl
        have b2 : (f1.toList == [97, 110, 100]) = false := by rw [ho]; rfl
        have b3 : (f1.toList == [61]) = false := by rw [ho]; rfl
        have b4 : (f1.toList == [60, 62]) = true := by rw [ho]; rfl
        clear ho
        rcases hkind with rfl | rfl | rfl | ⟨n1, n2, n5⟩
        all_goals
          go_enter Try.func14, Try.ntmps14
          go_wp2_with fail
          refine (HC.out _ (by repeat (first | exact Below.refl _ _ | apply below_alloc))).mono ?_
          rintro e w' ⟨rfl, hb⟩
          have HB := Aside0.mk hb
          clear hb
          go_wp2
          go_ret
          exact ⟨by simp, below_step (by repeat (first | exact Below.refl _ _ | apply below_alloc)) HB.out⟩
      | 5, _ =>
        have b0 : (f1.toList == [110, 111, 116]) = false := by rw [ho]; rfl
        have b1 : (f1.toList == [111, 114]) = false := by rw [ho]; rfl
        have b2 : (f1.toList == [97, 110, 100]) = false := by rw [ho]; rfl
        have b3 : (f1.toList == [61]) = false := by rw [ho]; rfl
        have b4 : (f1.toList == [60, 62]) = false := by rw [ho]; rfl
        have b5 : (f1.toList == [60]) = true := by rw [ho]; rfl
        clear ho
        rcases hkind with rfl | rfl | rfl | ⟨n1, n2, n5⟩
        all_goals
          go_enter Try.func14, Try.ntmps14
          go_wp2_with fail
          refine (HC.out _ (by repeat (first | exact Below.refl _ _ | apply below_alloc))).mono ?_
          rintro e w' ⟨rfl, hb⟩
          have HB := Aside0.mk hb
          clear hb
          go_wp2
          go_ret
          exact ⟨by simp, below_step (by repeat (first | exact Below.refl _ _ | apply below_alloc)) HB.out⟩
      | 6, _ =>
        have b0 : (f1.toList == [110, 111, 116]) = false := by rw [ho]; rfl
        have b1 : (f1.toList == [111, 114]) = false := by rw [ho]; rfl
        have b2 : (f1.toList == [97, 110, 100]) = false := by rw [ho]; rfl
        have b3 : (f1.toList == [61]) = false := by rw [ho]; rfl
        have b4 : (f1.toList == [60, 62]) = false := by rw [ho]; rfl
        have b5 : (f1.toList == [60]) = false := by rw [ho]; rfl
        have b6 : (f1.toList == [60, 61]) = true := by rw [ho]; rfl
        clear ho
        rcases hkind with rfl | rfl | rfl | ⟨n1, n2, n5⟩
        all_goals
          go_enter Try.func14, Try.ntmps14
          go_wp2_with fail
          refine (HC.out _ (by repeat (first | exact Below.refl _ _ | apply below_alloc))).mono ?_
          rintro e w' ⟨rfl, hb⟩
          have HB := Aside0.mk hb
          clear hb
          go_wp2
          go_ret
          exact ⟨by simp, below_step (by repeat (first | exact Below.refl _ _ | apply below_alloc)) HB.out⟩
      | 7, _ =>
        have b0 : (f1.toList == [110, 111, 116]) = false := by rw [ho]; rfl
        have b1 : (f1.toList == [111, 114]) = false := by rw [ho]; rfl
        have b2 : (f1.toList == [97, 110, 100]) = false := by rw [ho]; rfl
        have b3 : (f1.toList == [61]) = false := by rw [ho]; rfl
        have b4 : (f1.toList == [60, 62]) = false := by rw [ho]; rfl
        have b5 : (f1.toList == [60]) = false := by rw [ho]; rfl
        have b6 : (f1.toList == [60, 61]) = false := by rw [ho]; rfl
        have b7 : (f1.toList == [62]) = true := by rw [ho]; rfl
        clear ho
        rcases hkind with rfl | rfl | rfl | ⟨n1, n2, n5⟩
        all_goals
          go_enter Try.func14, Try.ntmps14
          go_wp2_with fail
          refine (HC.out _ (by repeat (first | exact Below.refl _ _ | apply below_alloc))).mono ?_
          rintro e w' ⟨rfl, hb⟩
          have HB := Aside0.mk hb
          clear hb
          go_wp2
          go_ret
          exact ⟨by simp, below_step (by repeat (first | exact Below.refl _ _ | apply below_alloc)) HB.out⟩
      | 8, _ =>
        have b0 : (f1.toList == [110, 111, 116]) = false := by rw [ho]; rfl
        have b1 : (f1.toList == [111, 114]) = false := by rw [ho]; rfl
        have b2 : (f1.toList == [97, 110, 100]) = false := by rw [ho]; rfl
        have b3 : (f1.toList == [61]) = false := by rw [ho]; rfl
        have b4 : (f1.toList == [60, 62]) = false := by rw [ho]; rfl
        have b5 : (f1.toList == [60]) = false := by rw [ho]; rfl
        have b6 : (f1.toList == [60, 61]) = false := by rw [ho]; rfl
        have b7 : (f1.toList == [62]) = false := by rw [ho]; rfl
        have b8 : (f1.toList == [62, 61]) = true := by rw [ho]; rfl
        clear ho
        rcases hkind with rfl | rfl | rfl | ⟨n1, n2, n5⟩
        all_goals
          go_enter Try.func14, Try.ntmps14
          go_wp2_with fail
          refine (HC.out _ (by repeat (first | exact Below.refl _ _ | apply below_alloc))).mono ?_
          rintro e w' ⟨rfl, hb⟩
          have HB := Aside0.mk hb
          clear hb
          go_wp2
          go_ret
          exact ⟨by simp, below_step (by repeat (first | exact Below.refl _ _ | apply below_alloc)) HB.out⟩
    · have b0 := ho [110, 111, 116] (by decide)
      have b1 := ho [111, 114] (by decide)
      have b2 := ho [97, 110, 100] (by decide)
      have b3 := ho [61] (by decide)
      have b4 := ho [60, 62] (by decide)
      have b5 := ho [60] (by decide)
      have b6 := ho [60, 61] (by decide)
      have b7 := ho [62] (by decide)
      have b8 := ho [62, 61] (by decide)
      clear ho
      have hbb : baseSafe f0 f1 = (f0 == 1 || f0 == 2 || f0 == 5) := by unfold baseSafe; rw [hn, Bool.or_false]
      rw [hbb] at hr
      clear hbb hn
      rcases hkind with rfl | rfl | rfl | ⟨n1, n2, n5⟩
      · subst hr
        go_enter Try.func14, Try.ntmps14
        go_wp2_with fail
        refine (HC.out _ (by repeat (first | exact Below.refl _ _ | apply below_alloc))).mono ?_
        rintro e w' ⟨rfl, hb⟩
        have HB := Aside0.mk hb
        clear hb
        go_wp2
        go_ret
        exact ⟨by simp, below_step (by repeat (first | exact Below.refl _ _ | apply below_alloc)) HB.out⟩
      · subst hr
        go_enter Try.func14, Try.ntmps14
        go_wp2_with fail
        refine (HC.out _ (by repeat (first | exact Below.refl _ _ | apply below_alloc))).mono ?_
        rintro e w' ⟨rfl, hb⟩
        have HB := Aside0.mk hb
        clear hb
        go_wp2
        go_ret
        exact ⟨by simp, below_step (by repeat (first | exact Below.refl _ _ | apply below_alloc)) HB.out⟩
      · subst hr
        go_enter Try.func14, Try.ntmps14
        go_wp2_with fail
        refine (HC.out _ (by repeat (first | exact Below.refl _ _ | apply below_alloc))).mono ?_
        rintro e w' ⟨rfl, hb⟩
        have HB := Aside0.mk hb
        clear hb
        go_wp2
        go_ret
        exact ⟨by simp, below_step (by repeat (first | exact Below.refl _ _ | apply below_alloc)) HB.out⟩
      · rw [n1, n2, n5] at hr
        simp only [Bool.or_self, Bool.false_and] at hr
        subst hr
        go_enter Try.func14, Try.ntmps14
        go_wp2
        go_ret
        exact ⟨rfl, by repeat (first | exact Below.refl _ _ | apply below_alloc)⟩
end Go.Proofs.Ytepjcgcobaaphaa.Pl
