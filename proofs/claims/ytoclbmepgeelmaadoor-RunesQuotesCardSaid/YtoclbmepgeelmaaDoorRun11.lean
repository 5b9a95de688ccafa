import Derived.Test.YtoclbmepgeelmaaDoorRdg
import Derived.Test.YtoclbmepgeelmaaDoorAl5
namespace Go.Proofs.YtoclbmepgeelmaaDoor.Utf
set_option linter.unusedVariables false
set_option linter.unusedSimpArgs false
open Go.RowKit Go.Lib Go.Proofs.YtoclbmepgeelmaaDoorW.PrintWords Go.Proofs.YtoclbmepgeelmaaDoorW.PrintLast Go.Proofs.YtoclbmepgeelmaaDoorW.PrintMore

theorem runq_walk (s : ByteArray) (w : World) (hs : (s.size : Int) ≤ 100000) : Calls Tryd.prog 40 #[.string s] w fun e w' => e = .returned (.tuple #[.string (unqR s), .int .i64 (unqE s)]) ∧ Below w.heap.size w w' := by
  obtain ⟨k, hk⟩ := runq_f s hs
  exact PRb.hindsightref05_Unquote.calls k s _ _ w hk
theorem rquote_walk (s : ByteArray) (w : World) (hs : (s.size : Int) ≤ 1000000) : Calls Tryd.prog 44 #[.string s] w fun e w' => e = .returned (.string (quoteS s)) ∧ Below w.heap.size w w' := by
  obtain ⟨k, hk⟩ := rquote_f s hs
  exact PRb.hindsightref05_Quote.calls k s _ w hk
theorem rdig_walk (n : Int) (w : World) (h0 : -9223372036854775808 ≤ n) (h1 : n ≤ 9223372036854775807) : Calls Tryd.prog 46 #[.int .i64 n] w fun e w' => e = .returned (.string ⟨(itoa n).toArray⟩) ∧ Below w.heap.size w w' := by
  obtain ⟨k, hk⟩ := rdig_f n h0 h1
  exact PRb.hindsightref05_Digits.calls k n _ w hk

set_option maxHeartbeats 4000000 in
set_option maxRecDepth 100000 in
theorem runesQuotes_walk (s d : ByteArray) (n : Int) (w : World) (hn : (Lit.int .i64 n).wf = true) (hT : Tabs5 w) :
    Calls Tryd.prog 11 #[.string s, .string d, .int .i64 n] w fun e w' => e = .returned (.bool true) ∧ Below w.heap.size w w' := by
  have fin : ∀ W : World, Below w.heap.size w W → Calls Tryd.prog 32 #[] W fun e w' => e = .returned (.bool true) ∧ Below w.heap.size w w' := fun W h => (alive05 W (hT.below h)).mono fun e w' h' => ⟨h'.1, below_step h h'.2⟩
  have FIN := Aside0.mk fin
  have HT := Aside0.mk hT
  clear fin hT
  by_cases hlen : 1000 < s.size
  · have d1 := decide_eq_true (p := (1000 : Int) < (s.size : Int)) (by omega)
    go_enter Tryd.func11, Tryd.ntmps11
    go_wp2_with fail
    refine (FIN.out _ (Below.refl _ _)).mono ?_
    rintro e w1 ⟨rfl, hb⟩
    go_wp2_with fail
    go_ret
    exact ⟨rfl, hb⟩
  have d1 := decide_eq_false (p := (1000 : Int) < (s.size : Int)) (by omega)
  by_cases hlen2 : 1000 < d.size
  · have d2 := decide_eq_true (p := (1000 : Int) < (d.size : Int)) (by omega)
    go_enter Tryd.func11, Tryd.ntmps11
    go_wp2_with fail
    refine (FIN.out _ (Below.refl _ _)).mono ?_
    rintro e w1 ⟨rfl, hb⟩
    go_wp2_with fail
    go_ret
    exact ⟨rfl, hb⟩
  have d2 := decide_eq_false (p := (1000 : Int) < (d.size : Int)) (by omega)
  have hn2 : -9223372036854775808 ≤ n ∧ n ≤ 9223372036854775807 := by
    have m1 : IntKind.i64.min = -9223372036854775808 := by decide
    have m2 : IntKind.i64.max = 9223372036854775807 := by decide
    simpa [Lit.wf, m1, m2] using hn
  have k1 := unquote_walk s w (by omega)
  have k2 := fun W => runq_walk s W (by omega)
  have k3 := fun W => num_walk d W (by omega)
  have k4 := fun W => rnum_walk d W (by omega)
  have k5 := fun W => quote_walk s W (by omega)
  have k6 := fun W => rquote_walk s W (by omega)
  have k7 := fun W => digits_walk n W hn2.1 hn2.2
  have k8 := fun W => rdig_walk n W hn2.1 hn2.2
  clear hn
  generalize unqR s = R at k1 k2
  generalize unqE s = E at k1 k2
  generalize (numRE d).1 = N at k3 k4
  generalize (numRE d).2 = NE at k3 k4
  generalize quoteS s = Q at k5 k6
  generalize (⟨(itoa n).toArray⟩ : ByteArray) = I at k7 k8
  have bR : (R.toList == R.toList) = true := by simp
  have bE : (E == E) = true := by simp
  have bN : (N == N) = true := by simp
  have bM : (NE == NE) = true := by simp
  have bQ : (Q.toList == Q.toList) = true := by simp
  have bI : (I.toList == I.toList) = true := by simp
  have K1 := Aside0.mk k1
  have K2 := Aside0.mk k2
  have K3 := Aside0.mk k3
  have K4 := Aside0.mk k4
  have K5 := Aside0.mk k5
  have K6 := Aside0.mk k6
  have K7 := Aside0.mk k7
  have K8 := Aside0.mk k8
  clear k1 k2 k3 k4 k5 k6 k7 k8
  go_enter Tryd.func11, Tryd.ntmps11
  go_wp2_with fail
  refine K1.out.mono ?_
  rintro e w1 ⟨rfl, hb⟩
  have HB1 := Aside0.mk hb; clear hb
  go_wp2_with fail
  refine (K2.out _).mono ?_
  rintro e w2 ⟨rfl, hb⟩
  have HB2 := Aside0.mk (below_step HB1.out hb); clear hb
  go_wp2_with fail
  refine (K3.out _).mono ?_
  rintro e w3 ⟨rfl, hb⟩
  have HB3 := Aside0.mk (below_step HB2.out hb); clear hb
  go_wp2_with fail
  refine (K4.out _).mono ?_
  rintro e w4 ⟨rfl, ⟨nd, rfl⟩⟩
  have HB4 := Aside0.mk (pw_below_drewN HB3.out nd)
  go_wp2_with fail
  refine (FIN.out _ HB4.out).mono ?_
  rintro e w5 ⟨rfl, hb⟩
  have HB5 := Aside0.mk hb; clear hb
  go_wp2_with fail
  refine (K5.out _ (HT.out.below HB5.out)).mono ?_
  rintro e w6 ⟨rfl, hb⟩
  have HB6 := Aside0.mk (below_step HB5.out hb); clear hb
  go_wp2_with fail
  refine (K6.out _).mono ?_
  rintro e w7 ⟨rfl, hb⟩
  have HB7 := Aside0.mk (below_step HB6.out hb); clear hb
  go_wp2_with fail
  refine (K7.out _ (HT.out.below HB7.out)).mono ?_
  rintro e w8 ⟨rfl, hb⟩
  have HB8 := Aside0.mk (below_step HB7.out hb); clear hb
  go_wp2_with fail
  refine (K8.out _).mono ?_
  rintro e w9 ⟨rfl, hb⟩
  have HB9 := Aside0.mk (below_step HB8.out hb); clear hb
  go_wp2_with fail
  go_ret
  exact ⟨rfl, HB9.out⟩
end Go.Proofs.YtoclbmepgeelmaaDoor.Utf
