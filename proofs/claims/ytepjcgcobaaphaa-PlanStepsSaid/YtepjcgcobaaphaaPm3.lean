import Derived.Test.YtepjcgcobaaphaaPl9
import Derived.Test.YtepjcgcobaaphaaPm2
namespace Go.Proofs.Ytepjcgcobaaphaa.Pl
set_option linter.unusedVariables false
set_option linter.unusedSimpArgs false
open Go.RowKit Go.Lib Go.Proofs.YtepjcgcobaaphaaW.PrintWords Go.Proofs.YtepjcgcobaaphaaW.PrintLast Go.Proofs.YtepjcgcobaaphaaW.PrintMore Go.Proofs.Ytepjcgcobaaphaa.PPa

theorem equalP_some {L : List S36} {slot first : Int} {n : S36} (h : equalP L slot first = some n) : belowP n first = true ∧ cnt n ≤ cntL L := by
  obtain ⟨p, hp, he⟩ := List.exists_of_findSome?_eq_some h
  unfold eqOne at he
  have hpc := cntL_mem hp
  split at he
  · rename_i hq
    have hl : p.f5.length = 2 := by
      unfold isEq at hq
      simp at hq
      exact hq.2.2
    split at he
    · rename_i h1
      injection he with he
      subst he
      refine ⟨(Bool.and_eq_true_iff.1 h1).2, ?_⟩
      have := cnt_mem (rd36_mem p.f5 1 (by omega))
      simp only [Int.natCast_one] at this
      omega
    · split at he
      · rename_i h2
        injection he with he
        subst he
        refine ⟨(Bool.and_eq_true_iff.1 h2).2, ?_⟩
        have := cnt_mem (rd36_mem p.f5 0 (by omega))
        simp only [Int.natCast_zero] at this
        omega
      · cases he
  · cases he
/-- What the statement says of a step. -/
def okS (t : S29) (m : Nat) (s : Int × Int × List S36) : Prop :=
  (∀ n ∈ s.2.2, belowP n t.f0 = true ∧ cnt n ≤ m) ∧ ((s.1 = 0 ∧ s.2.2.length = 0) ∨ (s.1 = 1 ∧ s.2.2.length = t.f2.length) ∨ (s.1 = 2 ∧ s.2.2.length = 1))
theorem stepP_ok (t : S29) (L : List S36) : okS t (cntL L) (stepP t L) := by
  unfold stepP
  split
  · exact ⟨fun n hn => (by cases hn), .inl ⟨rfl, rfl⟩⟩
  · split
    · rename_i h
      refine ⟨fun n hn => ?_, .inr (.inl ⟨rfl, h⟩)⟩
      obtain ⟨k, _, hk⟩ := List.mem_filterMap.1 hn
      exact equalP_some hk
    · split
      · rename_i k n h
        obtain ⟨k', _, hk⟩ := List.exists_of_findSome?_eq_some h
        unfold oneIndex at hk
        obtain ⟨n', hn', he⟩ := Option.map_eq_some_iff.1 hk
        injection he with e1 e2
        subst e2
        exact ⟨fun m hm => by rw [List.mem_singleton.1 hm]; exact equalP_some hn', .inr (.inr ⟨rfl, rfl⟩)⟩
      · exact ⟨fun n hn => (by cases hn), .inl ⟨rfl, rfl⟩⟩
def rd45 (xs : List (Int × Int × List S36)) (i : Int) : Int × Int × List S36 := xs.getD i.toNat (0, 0, [])
theorem steps_ok (T : List S29) (C : List S36) (i : Nat) (h : i < T.length) : okS (rd29 T (i : Int)) (cntL C) (rd45 (stepsP T C) (i : Int)) := by
  have e : rd45 (stepsP T C) (i : Int) = if allSafe C = true then stepP (rd29 T (i : Int)) (allParts C) else (0, 0, []) := by
    unfold rd45 stepsP rd29
    simp [List.getD_eq_getElem?_getD, h]
  rw [e]
  split
  · have := stepP_ok (rd29 T (i : Int)) (allParts C)
    exact ⟨fun n hn => ⟨(this.1 n hn).1, Nat.le_trans (this.1 n hn).2 (allParts_cnt C)⟩, this.2⟩
  · exact ⟨fun n hn => (by cases hn), .inl ⟨rfl, rfl⟩⟩
theorem at45 {w0 W V : World} {A : Option Addr} {n : Nat} {xs : List (Int × Int × List S36)} (h : Kd.C (kS w0) W A n xs) (hb : Below W.heap.size W V) (i : Int) (h0 : 0 ≤ i) (h1 : i < n) :
    ∃ ad An cn, A = some ad ∧ V.cell? (ad.add (i.toNat * 3)) = some (.int .i64 (rd45 xs i).1) ∧ V.cell? ⟨(ad.add (i.toNat * 3)).block, (ad.add (i.toNat * 3)).off + 1, none⟩ = some (.int .i64 (rd45 xs i).2.1) ∧ V.cell? ⟨(ad.add (i.toNat * 3)).block, (ad.add (i.toNat * 3)).off + 2, none⟩ = some (.slice An (rd45 xs i).2.2.length cn) ∧ (rd45 xs i).2.2.length ≤ cn ∧ Kd.C (Kd.fixed k36 w0) W An (rd45 xs i).2.2.length (rd45 xs i).2.2 := by
  obtain ⟨ad, c, e, _, hK, hc0⟩ := Kd.C_get h (0, 0, []) i h0 h1
  have hc : ∀ j u, c[j]? = some u → W.cell? (ad.add (i.toNat * 3 + j)) = some u := hc0
  obtain ⟨An, cn, rfl, l, g⟩ := kS_open hK
  exact ⟨ad, An, cn, e, bcell hb (hc 0 _ rfl), by rw [← add_field _ _ 1 (by omega)]; exact bcell hb (hc 1 _ rfl), by rw [← add_field _ _ 2 (by omega)]; exact bcell hb (hc 2 _ rfl), l, g⟩
def UsedC : Prop := ∀ (x : S36) (A : Option Addr) (c : Nat) (w : World), cnt x ≤ 100000000000 → x.f5.length ≤ c → Kd.C k36 w A x.f5.length x.f5 →
    Calls Try.prog 12 #[V36 x A c] w fun e w' => ∃ (A' : Option Addr) (c' : Nat) (us : List Int), e = .returned (.slice A' us.length c') ∧ us.length ≤ c' ∧ us.length ≤ 1000000000000 ∧ Kd.C (Kd.int .i64) w' A' us.length us ∧ (∀ s, s ∈ us ↔ s ∈ cols x) ∧ Below w.heap.size w w'
/-- A table that the statement lets in. -/
def letT (t : S29) : Prop := t.f2.length ≤ 20 ∧ t.f3.length ≤ 20 ∧ (-10000 < t.f0 ∧ t.f0 < 10000) ∧ (-10000 < t.f1 ∧ t.f1 < 10000)
theorem letT_take {T : List S29} {i : Nat} (h : i < T.length) (h1 : ∀ t ∈ T.take i, letT t) (h2 : letT (rd29 T (i : Int))) : ∀ t ∈ T.take (i + 1), letT t := by
  have : T.take (i + 1) = T.take i ++ [rd29 T (i : Int)] := by
    rw [List.take_succ_eq_append_getElem h]
    unfold rd29
    rw [Int.toNat_natCast, List.getD_eq_getElem?_getD, List.getElem?_eq_getElem h]
    rfl
  rw [this]
  intro t ht
  rcases List.mem_append.1 ht with ht | ht
  · exact h1 t ht
  · rw [List.mem_singleton.1 ht]; exact h2
theorem cnt_take {C : List S36} {i : Nat} (h : i < C.length) (h1 : ∀ x ∈ C.take i, cnt x ≤ 200) (h2 : cnt (rd_T36 C (i : Int)) ≤ 200) : ∀ x ∈ C.take (i + 1), cnt x ≤ 200 := by
  rw [take_succ36 C i h]
  intro t ht
  rcases List.mem_append.1 ht with ht | ht
  · exact h1 t ht
  · rw [List.mem_singleton.1 ht]; exact h2
theorem cntL_small {C : List S36} (h : ∀ x ∈ C, cnt x ≤ 200) : cntL C ≤ 200 * C.length := by
  induction C with
  | nil => simp [cntL]
  | cons a t ih =>
    have h1 := h a List.mem_cons_self
    have h2 := ih (fun x hx => h x (List.mem_cons_of_mem _ hx))
    rw [cntL, List.length_cons]; omega
set_option maxHeartbeats 8000000 in
set_option maxRecDepth 100000 in
theorem planBelow_walk (HAl : ∀ w : World, Calls Try.prog 5 #[] w fun e w' => e = .returned (.bool true) ∧ Below w.heap.size w w') (HEq : EqualC) (HUs : UsedC) (T : List S29) (AT : Option Addr) (cT : Nat) (C : List S36) (AC : Option Addr) (cC : Nat) (w : World)
    (hT : Kd.C k29 w AT T.length T) (hC : Kd.C k36 w AC C.length C) (lT : T.length < 9223372036854775808) (lC : C.length < 9223372036854775808) :
    Calls Try.prog 4 #[.slice AT T.length cT, .slice AC C.length cC] w fun e w' => e = .returned (.bool true) ∧ Below w.heap.size w w' := by
  have HA := Aside0.mk HAl
  have HE := Aside0.mk HEq
  have HU := Aside0.mk HUs
  have HT := Aside0.mk hT
  have HC := Aside0.mk hC
  clear HAl HEq HUs hT hC
  by_cases t6 : 6 < T.length
  · have d1 : decide ((6 : Int) < (T.length : Int)) = true := decide_eq_true (by omega)
    go_enter Try.func4, Try.ntmps4
    go_wp2_with fail
    refine (HA.out _).mono ?_
    rintro e w' ⟨rfl, hb⟩
    have HB := Aside0.mk hb
    clear hb
    go_wp2
    go_ret
    exact ⟨rfl, HB.out⟩
  have d1 : decide ((6 : Int) < (T.length : Int)) = false := decide_eq_false (by omega)
  by_cases c6 : 6 < C.length
  · have d2 : decide ((6 : Int) < (C.length : Int)) = true := decide_eq_true (by omega)
    go_enter Try.func4, Try.ntmps4
    go_wp2_with fail
    refine (HA.out _).mono ?_
    rintro e w' ⟨rfl, hb⟩
    have HB := Aside0.mk hb
    clear hb
    go_wp2
    go_ret
    exact ⟨rfl, HB.out⟩
  have d2 : decide ((6 : Int) < (C.length : Int)) = false := decide_eq_false (by omega)
  go_enter Try.func4, Try.ntmps4
  go_wp2
  go_loopg [5] T.length (fun gg s5 wr => ∃ kk : Nat, kk ≤ T.length ∧ T.length - kk ≤ gg ∧ s5 = .int .i64 kk ∧ Aside0 (Below w.heap.size w wr) ∧ Aside0 (∀ t ∈ T.take kk, letT t))
  case atStart => exact ⟨0, Nat.zero_le _, by omega, rfl, ⟨Below.refl _ _⟩, ⟨fun t ht => by simp at ht⟩⟩
  case round =>
    obtain ⟨kk, hkk, hg, rfl, HB, HL⟩ := hrel
    by_cases hlt : kk < T.length
    · have hltz : (kk : Int) < (T.length : Int) := by omega
      obtain ⟨ad, A2, c2, A3, c3, hA, h0, h1, h2, h3, h4, g2, g3⟩ := at29 HT.out HB.out (kk : Int) (by omega) hltz
      rw [Int.toNat_natCast] at h0 h1 h2 h3 h4
      subst hA
      have hlt2 := fun hx => letT_take hlt HL.out hx
      obtain ⟨x, hx⟩ : ∃ x, x = rd29 T kk := ⟨_, rfl⟩
      rw [← hx] at h0 h1 h2 h3 h4 hlt2
      have HX := Aside0.mk hg
      have HLT := Aside0.mk hlt
      have HL2 := Aside0.mk hlt2
      clear hx hlt hg hkk g2 g3 hlt2
      by_cases k1 : 20 < x.f2.length
      · have d3 : decide ((20 : Int) < (x.f2.length : Int)) = true := decide_eq_true (by omega)
        clear k1
        go_wp2_with fail
        refine (HA.out _).mono ?_
        rintro e w' ⟨rfl, hb⟩
        have HBb := Aside0.mk (below_step HB.out hb)
        clear hb
        go_wp2
        go_ret
        exact ⟨rfl, HBb.out⟩
      have d3 : decide ((20 : Int) < (x.f2.length : Int)) = false := decide_eq_false (by omega)
      by_cases k2 : 20 < x.f3.length
      · have d4 : decide ((20 : Int) < (x.f3.length : Int)) = true := decide_eq_true (by omega)
        clear k1 k2
        go_wp2_with fail
        refine (HA.out _).mono ?_
        rintro e w' ⟨rfl, hb⟩
        have HBb := Aside0.mk (below_step HB.out hb)
        clear hb
        go_wp2
        go_ret
        exact ⟨rfl, HBb.out⟩
      have d4 : decide ((20 : Int) < (x.f3.length : Int)) = false := decide_eq_false (by omega)
      have KS0 := Aside0.mk (fun V => small_walk x.f0 V)
      have KS1 := Aside0.mk (fun V => small_walk x.f1 V)
      have HK := Aside0.mk (And.intro k1 k2)
      clear k1 k2
      cases m0 : (decide (-10000 < x.f0) && decide (x.f0 < 10000)) with
      | false =>
        simp only [m0] at KS0
        clear m0
        go_wp2_with fail
        refine (KS0.out _).mono ?_
        rintro e w1 ⟨rfl, hb1⟩
        have HB1 := Aside0.mk (below_step HB.out hb1)
        clear hb1
        go_wp2_with fail
        refine (HA.out _).mono ?_
        rintro e w' ⟨rfl, hb⟩
        have HBb := Aside0.mk (below_step HB1.out hb)
        clear hb
        go_wp2
        go_ret
        exact ⟨rfl, HBb.out⟩
      | true =>
        have M0 := Aside0.mk m0
        simp only [m0] at KS0
        clear m0
        cases m1 : (decide (-10000 < x.f1) && decide (x.f1 < 10000)) with
        | false =>
          simp only [m1] at KS1
          clear m1
          go_wp2_with fail
          refine (KS0.out _).mono ?_
          rintro e w1 ⟨rfl, hb1⟩
          have HB1 := Aside0.mk (below_step HB.out hb1)
          have h1' := bcell hb1 h1
          clear hb1
          go_wp2_with fail
          refine (KS1.out _).mono ?_
          rintro e w2 ⟨rfl, hb2⟩
          have HB2 := Aside0.mk (below_step HB1.out hb2)
          clear hb2
          go_wp2_with fail
          refine (HA.out _).mono ?_
          rintro e w' ⟨rfl, hb⟩
          have HBb := Aside0.mk (below_step HB2.out hb)
          clear hb
          go_wp2
          go_ret
          exact ⟨rfl, HBb.out⟩
        | true =>
          have M1 := Aside0.mk m1
          simp only [m1] at KS1
          clear m1
          go_wp2_with fail
          refine (KS0.out _).mono ?_
          rintro e w1 ⟨rfl, hb1⟩
          have HB1 := Aside0.mk (below_step HB.out hb1)
          have h1' := bcell hb1 h1
          clear hb1
          go_wp2_with fail
          refine (KS1.out _).mono ?_
          rintro e w2 ⟨rfl, hb2⟩
          have HB2 := Aside0.mk (below_step HB1.out hb2)
          clear hb2
          go_wp2_with fail
          go_roundg (T.length - (kk + 1))
          case measure => have := HX.out; have := HLT.out; omega
          case rel =>
            refine ⟨kk + 1, HLT.out, by omega, by go_num, HB2, ⟨HL2.out ?_⟩⟩
            have q0 := M0.out
            have q1 := M1.out
            have q2 := HK.out
            simp only [Bool.and_eq_true, decide_eq_true_eq] at q0 q1
            exact ⟨by omega, by omega, q0, q1⟩
    · have hltz : ¬ (kk : Int) < (T.length : Int) := by omega
      have hkl : kk = T.length := by omega
      subst hkl
      have hLT := HL.out
      rw [List.take_length] at hLT
      have HLT := Aside0.mk hLT
      obtain ⟨W1, hW1⟩ : ∃ W, W = wr := ⟨_, rfl⟩
      subst hW1
      clear hLT HL hkk hg hlt
      go_wp2
      go_loopg [6] C.length (fun gg s6 wq => ∃ kk : Nat, kk ≤ C.length ∧ C.length - kk ≤ gg ∧ s6 = .int .i64 kk ∧ Aside0 (Below w.heap.size w wq) ∧ Aside0 (∀ x ∈ C.take kk, cnt x ≤ 200))
      case atStart => exact ⟨0, Nat.zero_le _, by omega, rfl, HB, ⟨fun t ht => by simp at ht⟩⟩
      case round =>
        clear HB
        obtain ⟨kk, hkk, hg, rfl, HB, HL⟩ := hrel
        by_cases hlt : kk < C.length
        · have hltz2 : (kk : Int) < (C.length : Int) := by omega
          obtain ⟨ad, A7, c7, hA, h0, h1, h2, h3, h4, h5, h6, h7, hl7, hC7⟩ := at36 HC.out HB.out (kk : Int) (by omega) hltz2
          rw [Int.toNat_natCast] at h0 h1 h2 h3 h4 h5 h6 h7
          subst hA
          have hlt2 := fun hx => cnt_take hlt HL.out hx
          obtain ⟨b, hb1, hb2⟩ := great_walk (rd_T36 C kk)
          have hgr := hb2 A7 c7 wr hl7 (Kd.C_below hC7 HB.out)
          obtain ⟨x, hx⟩ : ∃ x, x = rd_T36 C kk := ⟨_, rfl⟩
          rw [← hx] at h0 h1 h2 h3 h4 h5 h6 h7 hlt2 hgr hb1
          have HX := Aside0.mk hg
          have HLT2 := Aside0.mk hlt
          have HL2 := Aside0.mk hlt2
          have HB1 := Aside0.mk hb1
          have HGR := Aside0.mk hgr
          clear hx hlt hg hkk hl7 hC7 hb2 hgr hb1 hlt2
          cases b with
          | true =>
            go_wp2_with fail
            refine HGR.out.mono ?_
            rintro e w1 ⟨rfl, hb1⟩
            have HBa := Aside0.mk (below_step HB.out hb1)
            clear hb1
            go_wp2_with fail
            refine (HA.out _).mono ?_
            rintro e w' ⟨rfl, hb⟩
            have HBb := Aside0.mk (below_step HBa.out hb)
            clear hb
            go_wp2
            go_ret
            exact ⟨rfl, HBb.out⟩
          | false =>
            go_wp2_with fail
            refine HGR.out.mono ?_
            rintro e w1 ⟨rfl, hb1⟩
            have HBa := Aside0.mk (below_step HB.out hb1)
            clear hb1
            go_wp2_with fail
            go_roundg (C.length - (kk + 1))
            case measure => have := HX.out; have := HLT2.out; omega
            case rel => exact ⟨kk + 1, HLT2.out, by omega, by go_num, HBa, ⟨HL2.out (HB1.out trivial)⟩⟩
        · have hltz2 : ¬ (kk : Int) < (C.length : Int) := by omega
          have hkl : kk = C.length := by omega
          subst hkl
          have hLC := HL.out
          rw [List.take_length] at hLC
          have hcL := cntL_small hLC
          have hcL2 : cntL C ≤ 1200 := by omega
          have hst := steps_walk HE.out T AT cT C AC cC wr (Kd.C_below HT.out HB.out) (Kd.C_below HC.out HB.out) (by omega) (by omega) (fun t ht => ⟨by have := (HLT.out t ht).1; omega, by have := (HLT.out t ht).2.1; omega, (HLT.out t ht).2.2.1, (HLT.out t ht).2.2.2.2⟩) (by omega)
          have hsl := stepsP_len T C
          have hok := fun i h => steps_ok T C i h
          obtain ⟨S, hS⟩ : ∃ S, S = stepsP T C := ⟨_, rfl⟩
          rw [← hS] at hst hsl
          simp only [← hS] at hok
          have HST := Aside0.mk hst
          have HOK := Aside0.mk hok
          have HCL := Aside0.mk hcL2
          clear hst hok hS hLC hcL hcL2 HL hkk hg hlt
          go_wp2_with fail
          refine HST.out.mono ?_
          rintro e W7 ⟨v7, rfl, hR7, hb7⟩
          obtain ⟨A7, c7, rfl, hl7, hC7⟩ := Kd.R_reads hR7
          have HC7 := Aside0.mk hC7
          have HB7 := Aside0.mk (below_step HB.out hb7)
          have HW7 := Aside0.mk hb7
          clear hR7 hb7 hl7 hC7
          have hsz : ((S.length : Int) != (T.length : Int)) = false := by rw [hsl]; simp
          have HSL := Aside0.mk hsl
          clear hsl
          go_wp2_with fail
          go_loopg [8] S.length (fun gg s8 wq => ∃ kk : Nat, kk ≤ S.length ∧ S.length - kk ≤ gg ∧ s8 = .int .i64 kk ∧ Aside0 (Below W7.heap.size W7 wq))
          case atStart => exact ⟨0, Nat.zero_le _, by omega, rfl, ⟨Below.refl _ _⟩⟩
          case round =>
            obtain ⟨kk, hkk, hg, rfl, HQ⟩ := hrel
            by_cases hlt : kk < S.length
            · have hltT : kk < T.length := by have := HSL.out; omega
              have hltz3 : (kk : Int) < (S.length : Int) := by omega
              have hltz4 : (kk : Int) < (T.length : Int) := by omega
              obtain ⟨ad, An, cn, hA, y0, y1, y2, hln, hCn⟩ := at45 HC7.out (Below.refl _ _) (kk : Int) (by omega) hltz3
              obtain ⟨ae, K2, d2', K3, d3', hA2, x0, x1, x2, x3, x4, _, _⟩ := at29 HT.out HB7.out (kk : Int) (by omega) hltz4
              rw [Int.toNat_natCast] at y0 y1 y2 x0 x1 x2 x3 x4
              subst hA hA2
              have hok1 := HOK.out kk hltT
              obtain ⟨s, hs⟩ : ∃ s, s = rd45 S kk := ⟨_, rfl⟩
              obtain ⟨t, ht⟩ : ∃ t, t = rd29 T kk := ⟨_, rfl⟩
              rw [← hs] at y0 y1 y2 hln hCn hok1
              rw [← ht] at x0 x1 x2 x3 x4 hok1
              have HY := Aside0.mk (And.intro y0 (And.intro y1 y2))
              have HXX := Aside0.mk (And.intro x0 (And.intro x1 x2))
              have HLN := Aside0.mk hln
              have HCN := Aside0.mk hCn
              have HO := Aside0.mk hok1
              have HX := Aside0.mk hg
              have HLT2 := Aside0.mk hlt
              obtain ⟨W8, hW8⟩ : ∃ W, W = wr := ⟨_, rfl⟩
              subst hW8
              clear hs ht hlt hltT hg hkk hln hCn hok1 y0 y1 y2 x0 x1 x2 x3 x4
              have hnm : s.2.2.length < 9223372036854775808 := by have := HCN.out.2.1; omega
              go_wp2_with fail
              go_loopg [9] s.2.2.length (fun gg s9 wq => ∃ jj : Nat, jj ≤ s.2.2.length ∧ s.2.2.length - jj ≤ gg ∧ s9 = .int .i64 jj ∧ Aside0 (Below W7.heap.size W7 wq))
              case atStart => exact ⟨0, Nat.zero_le _, by omega, rfl, HQ⟩
              case round =>
                clear HQ
                obtain ⟨jj, hjj, hg, rfl, HQ⟩ := hrel
                have y0 := bcell HQ.out HY.out.1
                have y1 := bcell HQ.out HY.out.2.1
                have y2 := bcell HQ.out HY.out.2.2
                have x0 := bcell HQ.out HXX.out.1
                have x1 := bcell HQ.out HXX.out.2.1
                have x2 := bcell HQ.out HXX.out.2.2
                by_cases hlt : jj < s.2.2.length
                · have hltz5 : (jj : Int) < (s.2.2.length : Int) := by omega
                  obtain ⟨ag, A9, c9, hA9, h0, h1, h2, h3, h4, h5, h6, h7, hl9, hC9⟩ := atF36 HCN.out HQ.out (jj : Int) (by omega) hltz5
                  rw [Int.toNat_natCast] at h0 h1 h2 h3 h4 h5 h6 h7
                  subst hA9
                  have hmem := rd36_mem s.2.2 jj hlt
                  obtain ⟨x, hx⟩ : ∃ x, x = rd_T36 s.2.2 jj := ⟨_, rfl⟩
                  rw [← hx] at h0 h1 h2 h3 h4 h5 h6 h7 hl9 hC9 hmem
                  have hbp := HO.out.1 x hmem
                  have hus := fun (V : World) (hV : Below W7.heap.size W7 V) => HU.out x A9 c9 V (by have := hbp.2; have := HCL.out; omega) hl9 (Kd.C_below hC9 (below_then HW7.out HW7.out.size hV))
                  have HUS := Aside0.mk hus
                  have HBP := Aside0.mk hbp.1
                  have HX2 := Aside0.mk hg
                  have HLT3 := Aside0.mk hlt
                  clear hx hlt hg hjj hl9 hC9 hmem hbp hus
                  go_wp2_with fail
                  refine (HUS.out _ HQ.out).mono ?_
                  rintro e W9 ⟨Au, cu, us, rfl, hlu, hub, hCu, hmu, hb9⟩
                  have hall : ∀ q ∈ us, q < t.f0 := by
                    intro q hq
                    have hq2 := (hmu q).1 hq
                    have hb := HBP.out
                    unfold belowP at hb
                    rw [Bool.not_eq_true', List.any_eq_false] at hb
                    have := hb q hq2
                    simp at this
                    exact this
                  have HALL := Aside0.mk hall
                  have HCU := Aside0.mk hCu
                  have HQ9 := Aside0.mk (below_then HQ.out HQ.out.size hb9)
                  have hum : us.length < 9223372036854775808 := by omega
                  clear hb9 hmu hCu hlu hub hall h0 h1 h2 h3 h4 h5 h6 h7 y0 y1 y2 x0 x1 x2
                  go_wp2_with fail
                  go_loopg [11] us.length (fun gg s11 wq => ∃ mm : Nat, mm ≤ us.length ∧ us.length - mm ≤ gg ∧ s11 = .int .i64 mm ∧ Aside0 (Below W9.heap.size W9 wq))
                  case atStart => exact ⟨0, Nat.zero_le _, by omega, rfl, ⟨Below.refl _ _⟩⟩
                  case round =>
                    obtain ⟨mm, hmm, hg, rfl, HQ10⟩ := hrel
                    have HQW := Aside0.mk (below_then HQ9.out HQ9.out.size HQ10.out)
                    have x0 := bcell HQW.out HXX.out.1
                    by_cases hlt : mm < us.length
                    · have hltz6 : (mm : Int) < (us.length : Int) := by omega
                      obtain ⟨ah, hAh, z0⟩ := Kd.at_int (Kd.C_below HCU.out HQ10.out) (mm : Int) (by omega) hltz6
                      rw [Int.toNat_natCast] at z0
                      subst hAh
                      have hlt0 := HALL.out _ (rd_memI us mm hlt)
                      obtain ⟨q, hq⟩ : ∃ q, q = rd us mm := ⟨_, rfl⟩
                      rw [← hq] at z0 hlt0
                      have hdq : decide (t.f0 ≤ q) = false := decide_eq_false (by omega)
                      have HX3 := Aside0.mk hg
                      have HLT4 := Aside0.mk hlt
                      clear hq hlt0 hlt hg hmm
                      go_wp2_with fail
                      go_region
                      all_goals
                        go_wp2_with fail
                        go_roundg (us.length - (mm + 1))
                        case measure => have := HX3.out; have := HLT4.out; omega
                        case rel => exact ⟨mm + 1, HLT4.out, by omega, by go_num, ⟨HQ10.out.drew⟩⟩
                    · have hltz6 : ¬ (mm : Int) < (us.length : Int) := by omega
                      have hml : mm = us.length := by omega
                      subst hml
                      clear x0
                      go_wp2_with fail
                      go_roundg (s.2.2.length - (jj + 1))
                      case measure => have := HX2.out; have := HLT3.out; omega
                      case rel => exact ⟨jj + 1, HLT3.out, by omega, by go_num, HQW⟩
                · have hltz5 : ¬ (jj : Int) < (s.2.2.length : Int) := by omega
                  have hjl : jj = s.2.2.length := by omega
                  subst hjl
                  clear hjj hg hlt
                  have hk := HO.out.2
                  rcases hk with ⟨e1, e2⟩ | ⟨e1, e2⟩ | ⟨e1, e2⟩
                  · rw [e1] at y0
                    have hl0 : s.2.2.length = 0 := e2
                    clear e1 e2
                    go_wp2_with fail
                    go_roundg (S.length - (kk + 1))
                    case measure => have := HX.out; have := HLT2.out; omega
                    case rel => exact ⟨kk + 1, HLT2.out, by omega, by go_num, HQ⟩
                  · rw [e1] at y0
                    have n1 : ((s.2.2.length : Int) != (t.f2.length : Int)) = false := by rw [e2]; simp
                    clear e1 e2
                    go_wp2_with fail
                    go_roundg (S.length - (kk + 1))
                    case measure => have := HX.out; have := HLT2.out; omega
                    case rel => exact ⟨kk + 1, HLT2.out, by omega, by go_num, HQ⟩
                  · rw [e1] at y0
                    have n1 : ((s.2.2.length : Int) != (1 : Int)) = false := by rw [e2]; rfl
                    clear e1 e2
                    go_wp2_with fail
                    go_roundg (S.length - (kk + 1))
                    case measure => have := HX.out; have := HLT2.out; omega
                    case rel => exact ⟨kk + 1, HLT2.out, by omega, by go_num, HQ⟩
            · have hltz3 : ¬ (kk : Int) < (S.length : Int) := by omega
              have hkl : kk = S.length := by omega
              subst hkl
              clear hg hlt hkk
              go_wp2_with fail
              refine (HA.out _).mono ?_
              rintro e w' ⟨rfl, hb⟩
              have HBb := Aside0.mk (below_step (below_then HB7.out HB7.out.size HQ.out) hb)
              clear hb
              go_wp2
              go_ret
              exact ⟨rfl, HBb.out⟩
end Go.Proofs.Ytepjcgcobaaphaa.Pl
