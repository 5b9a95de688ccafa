import Derived.Test.YtoclbmepgeelmaaDoorAl5
namespace Go.Proofs.YtoclbmepgeelmaaDoor.Utf
set_option linter.unusedVariables false
set_option linter.unusedSimpArgs false
open Go.RowKit Go.Lib Go.Proofs.YtoclbmepgeelmaaDoorW.PrintWords Go.Proofs.YtoclbmepgeelmaaDoorW.PrintLast Go.Proofs.YtoclbmepgeelmaaDoorW.PrintMore

set_option maxHeartbeats 4000000 in
set_option maxRecDepth 100000 in
theorem runesNames_walk (s : ByteArray) (r : Int) (w : World) (hr : (Lit.int .i32 r).wf = true) (hT : Tabs5 w) :
    Calls Tryd.prog 10 #[.string s, .int .i32 r] w fun e w' => e = .returned (.bool true) ∧ Below w.heap.size w w' := by
  have fin : ∀ W : World, Below w.heap.size w W → Calls Tryd.prog 32 #[] W fun e w' => e = .returned (.bool true) ∧ Below w.heap.size w w' := fun W h => (alive05 W (hT.below h)).mono fun e w' h' => ⟨h'.1, below_step h h'.2⟩
  have FIN := Aside0.mk fin
  clear fin hT
  by_cases hlen : 1000 < s.size
  · have d := decide_eq_true (p := (1000 : Int) < (s.size : Int)) (by omega)
    go_enter Tryd.func10, Tryd.ntmps10
    go_wp2_with fail
    refine (FIN.out _ (Below.refl _ _)).mono ?_
    rintro e w1 ⟨rfl, hb⟩
    go_wp2_with fail
    go_ret
    exact ⟨rfl, hb⟩
  have d := decide_eq_false (p := (1000 : Int) < (s.size : Int)) (by omega)
  have hr2 : -2147483648 ≤ r ∧ r ≤ 2147483647 := by
    have m1 : IntKind.i32.min = -2147483648 := by decide
    have m2 : IntKind.i32.max = 2147483647 := by decide
    simpa [Lit.wf, m1, m2] using hr
  have wr : IntKind.i64.wrap r = r := (i64_w _).trans (wrap64_id (by omega) (by omega))
  have k1 := name_walk s w
  have k2 := fun W => rname_walk s W
  have k3 := fun W => class_walk r W
  have k4 := fun W => rclass_walk r W
  have k5 := fun W => fold_walk s W (by omega)
  have k6 := fun W => rfold_walk s W (by omega)
  generalize nameR s = R at k1 k2
  generalize nameE s = E at k1 k2
  generalize classZ r = C at k3 k4
  generalize foldS s = F at k5 k6
  have bR : (R.toList == R.toList) = true := by simp
  have bE : (E == E) = true := by simp
  have bC : (C == C) = true := by simp
  have bF : (F.toList == F.toList) = true := by simp
  have K1 := Aside0.mk k1
  have K2 := Aside0.mk k2
  have K3 := Aside0.mk k3
  have K4 := Aside0.mk k4
  have K5 := Aside0.mk k5
  have K6 := Aside0.mk k6
  clear k1 k2 k3 k4 k5 k6
  go_enter Tryd.func10, Tryd.ntmps10
  go_wp2_with fail
  refine K1.out.mono ?_
  rintro e w1 ⟨rfl, hb⟩
  have HB1 := Aside0.mk hb; clear hb
  go_wp2_with fail
  refine (K2.out _).mono ?_
  rintro e w2 ⟨rfl, hb⟩
  have HB2 := Aside0.mk (below_step HB1.out hb); clear hb
  go_wp2_with fail
  refine (FIN.out _ HB2.out).mono ?_
  rintro e w3 ⟨rfl, hb⟩
  have HB3 := Aside0.mk hb; clear hb
  go_wp2_with fail
  refine (K3.out _).mono ?_
  rintro e w4 ⟨rfl, ⟨nd, rfl⟩⟩
  have HB4 := Aside0.mk (pw_below_drewN HB3.out nd)
  go_wp2_with fail
  refine (K4.out _).mono ?_
  rintro e w5 ⟨rfl, ⟨nd2, rfl⟩⟩
  have HB5 := Aside0.mk (pw_below_drewN HB4.out nd2)
  go_wp2_with fail
  refine (K5.out _).mono ?_
  rintro e w6 ⟨rfl, hb⟩
  have HB6 := Aside0.mk (below_step (pw_below_drewN HB3.out (nd + nd2)) hb); clear hb
  go_wp2_with fail
  refine (K6.out _).mono ?_
  rintro e w7 ⟨rfl, hb⟩
  have HB7 := Aside0.mk (below_step HB6.out hb); clear hb
  go_wp2_with fail
  go_ret
  exact ⟨rfl, HB7.out⟩
end Go.Proofs.YtoclbmepgeelmaaDoor.Utf
