import Derived.Test.YtoclbmepgeelmaaDoorLikeA
namespace Go.Proofs.YtoclbmepgeelmaaDoor.Utf
set_option linter.unusedVariables false
set_option linter.unusedSimpArgs false
open Go.RowKit Go.Lib Go.Proofs.YtoclbmepgeelmaaDoorW.PrintWords Go.Proofs.YtoclbmepgeelmaaDoor.PRa

set_option maxHeartbeats 4000000 in
set_option maxRecDepth 100000 in
theorem likeMatches_walk (p s : ByteArray) (w : World) (hT : Tabs w) :
    Calls Tryd.prog 3 #[.string p, .string s] w fun e w' => e = .returned (.bool true) ∧ Below w.heap.size w w' := by
  have cA : ∀ W : World, Below w.heap.size w W → Calls Tryd.prog 17 #[] W fun e w' => e = .returned (.bool true) ∧ Below W.heap.size W w' := fun W h => alive06 W (hT.below h)
  have CA := Aside0.mk cA
  have HT := Aside0.mk hT
  clear cA hT
  go_enter Tryd.func3, Tryd.ntmps3
  go_upto_region 1 with (fail)
  go_cut [40] (fun v40 wc => ∃ b, v40 = .bool b ∧ wc = w)
  case first =>
    have hn : (p.size : Int) ≤ 200 ∨ (200 < (p.size : Int) ∧ (p.size : Int) ≤ 1000) ∨ (1000 < (p.size : Int) ∧ (p.size : Int) ≤ 1200) ∨ 1200 < (p.size : Int) := by omega
    have hm : (s.size : Int) ≤ 400 ∨ (400 < (s.size : Int) ∧ (s.size : Int) ≤ 100000) ∨ (100000 < (s.size : Int) ∧ (s.size : Int) ≤ 100100) ∨ 100100 < (s.size : Int) := by omega
    rcases hn with hn | hn | hn | hn <;> rcases hm with hm | hm | hm | hm
    all_goals
      first | have f1 := decide_eq_true (p := (200 : Int) < (p.size : Int)) (by omega) | have f1 := decide_eq_false (p := (200 : Int) < (p.size : Int)) (by omega)
      first | have f2 := decide_eq_true (p := (p.size : Int) ≤ 1000) (by omega) | have f2 := decide_eq_false (p := (p.size : Int) ≤ 1000) (by omega)
      first | have f3 := decide_eq_true (p := (1200 : Int) < (p.size : Int)) (by omega) | have f3 := decide_eq_false (p := (1200 : Int) < (p.size : Int)) (by omega)
      first | have f4 := decide_eq_true (p := (400 : Int) < (s.size : Int)) (by omega) | have f4 := decide_eq_false (p := (400 : Int) < (s.size : Int)) (by omega)
      first | have f5 := decide_eq_true (p := (s.size : Int) ≤ 100000) (by omega) | have f5 := decide_eq_false (p := (s.size : Int) ≤ 100000) (by omega)
      first | have f6 := decide_eq_true (p := (100100 : Int) < (s.size : Int)) (by omega) | have f6 := decide_eq_false (p := (100100 : Int) < (s.size : Int)) (by omega)
      clear hn hm
      go_wp2
      go_meet
      case rel => exact ⟨_, rfl, rfl⟩
  case rest =>
    obtain ⟨b, rfl, rfl⟩ := hcut
    cases b with
    | true =>
      go_wp2_with fail
      refine (CA.out _ (Below.refl _ _)).mono ?_
      rintro e w1 ⟨rfl, hb⟩
      go_wp2_with fail
      go_ret
      exact ⟨rfl, hb⟩
    | false =>
      have c1 := lmatch_walk p s wc HT.out
      have c2 := rmatch_walk p s
      have c3 := compile_walk p
      unfold PatOr at c3
      by_cases h0 : compE p.data.toList = 0
      · have hcz := compE_zero h0
        have hrl := runesOf_length p.data.toList
        have eE : fullE p.data.toList s.data.toList = textE s.data.toList := by simp [fullE, h0]
        have eR : fullR p.data.toList s.data.toList = textR (runesOf p.data.toList) s.data.toList := by simp [fullR, h0]
        have c4 : ∀ (pv : Value) (W : World), Tabs W → PatAt W pv (runesOf p.data.toList) → _ := fun pv W h1 h2 => pmatch_walk pv (runesOf p.data.toList) s W h1 h2 (by omega)
        rw [h0] at c3
        simp only [↓reduceIte] at c3
        rw [eE, eR] at c1 c2
        obtain ⟨R, hR⟩ : ∃ R, textR (runesOf p.data.toList) s.data.toList = R := ⟨_, rfl⟩
        obtain ⟨E, hE⟩ : ∃ E, textE s.data.toList = E := ⟨_, rfl⟩
        rw [hR, hE] at c1 c2
        simp only [hR, hE] at c4
        have bE : (E == E) = true := by simp
        have bR : (R == R) = true := by simp
        have C1 := Aside0.mk c1
        have C2 := Aside0.mk c2
        have C3 := Aside0.mk c3
        have C4 := Aside0.mk c4
        clear c1 c2 c3 c4 h0 hcz hrl eE eR hR hE
        go_wp2_with fail
        refine C1.out.mono ?_
        rintro e w1 ⟨rfl, hb⟩
        have HB1 := Aside0.mk hb; clear hb
        go_wp2_with fail
        refine (C2.out _).mono ?_
        rintro e w2 ⟨rfl, hb⟩
        have HB2 := Aside0.mk (below_step HB1.out hb); clear hb
        go_wp2_with fail
        refine (C3.out _ (HT.out.below HB2.out)).mono ?_
        rintro e w3 ⟨pv, rfl, hP, hb⟩
        have HB3 := Aside0.mk (below_step HB2.out hb); clear hb
        obtain ⟨pb, PA, pc, rfl, hP'⟩ := hP
        have HP : Aside0 (PatAt w3 (.pointer (some ⟨pb, 0, none⟩)) (runesOf p.data.toList)) := ⟨⟨pb, PA, pc, rfl, hP'⟩⟩
        clear hP'
        go_wp2_with fail
        refine (C4.out _ _ (HT.out.below HB3.out) HP.out).mono ?_
        rintro e w4 ⟨rfl, hb⟩
        have HB4 := Aside0.mk (below_step HB3.out hb); clear hb
        go_wp2_with fail
        refine (CA.out _ HB4.out).mono ?_
        rintro e w5 ⟨rfl, hb⟩
        have HB5 := Aside0.mk (below_step HB4.out hb); clear hb
        go_wp2_with fail
        go_ret
        exact ⟨rfl, HB5.out⟩
      · have eE : fullE p.data.toList s.data.toList = compE p.data.toList := by simp [fullE, h0]
        have eR : fullR p.data.toList s.data.toList = false := by simp [fullR, h0]
        rw [eE, eR] at c1 c2
        obtain ⟨E, hE⟩ : ∃ E, compE p.data.toList = E := ⟨_, rfl⟩
        rw [hE] at c1 c2 h0
        simp only [hE, if_neg h0] at c3
        have bE : (E == E) = true := by simp
        have b0 : (E != 0) = true := by simpa using h0
        have C1 := Aside0.mk c1
        have C2 := Aside0.mk c2
        have C3 := Aside0.mk c3
        clear c1 c2 c3 h0 eE eR hE
        go_wp2_with fail
        refine C1.out.mono ?_
        rintro e w1 ⟨rfl, hb⟩
        have HB1 := Aside0.mk hb; clear hb
        go_wp2_with fail
        refine (C2.out _).mono ?_
        rintro e w2 ⟨rfl, hb⟩
        have HB2 := Aside0.mk (below_step HB1.out hb); clear hb
        go_wp2_with fail
        refine (C3.out _ (HT.out.below HB2.out)).mono ?_
        rintro e w3 ⟨pv, rfl, rfl, hb⟩
        have HB3 := Aside0.mk (below_step HB2.out hb); clear hb
        go_wp2_with fail
        refine (pmatch_nil s _).mono ?_
        rintro e w4 ⟨rfl, hb⟩
        have HB4 := Aside0.mk (below_step HB3.out hb); clear hb
        go_wp2_with fail
        refine (CA.out _ HB4.out).mono ?_
        rintro e w5 ⟨rfl, hb⟩
        have HB5 := Aside0.mk (below_step HB4.out hb); clear hb
        go_wp2_with fail
        go_ret
        exact ⟨rfl, HB5.out⟩
end Go.Proofs.YtoclbmepgeelmaaDoor.Utf
