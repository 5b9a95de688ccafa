import Derived.Test.YtoclbmepgeelmaaDoorRn3
import Derived.Test.YtoclbmepgeelmaaDoorRn2
namespace Go.Proofs.YtoclbmepgeelmaaDoor.Utf
set_option linter.unusedVariables false
set_option linter.unusedSimpArgs false
open Go.RowKit Go.Lib Go.Proofs.YtoclbmepgeelmaaDoorW.PrintWords Go.Proofs.YtoclbmepgeelmaaDoorW.PrintLast Go.Proofs.YtoclbmepgeelmaaDoorW.PrintMore

theorem splitR_le14 (l : List UInt8) : (splitR l).length ≤ l.length := by
  unfold splitR; split
  · exact runesOf_length l
  · simp
theorem splitR_rg (l : List UInt8) : ∀ x ∈ splitR l, -2147483648 ≤ x ∧ x ≤ 2147483647 := by
  intro x hx
  unfold splitR at hx
  split at hx
  · have := runesOf_range _ x hx
    omega
  · simp at hx
theorem join_at (A : Option Addr) (c : Nat) (xs : List Int) (R : ByteArray) (E : Int) (hR : joinR xs = R) (hE : joinE xs = E) (hx : ∀ x ∈ xs, -2147483648 ≤ x ∧ x ≤ 2147483647) (hl : xs.length ≤ 1000000) (hc : xs.length ≤ c) (w : World) (hC : (Kd.int .i32).C w A xs.length xs) :
    Calls Tryd.prog 51 #[.slice A xs.length c] w fun e w' => e = .returned (.tuple #[.string R, .int .i64 E]) ∧ Below w.heap.size w w' := by
  rw [← hR, ← hE]; exact join_walk A c xs w hx hl hc hC
theorem split_at (s : ByteArray) (X : List Int) (E : Int) (hX : splitR s.data.toList = X) (hE : splitE s.data.toList = E) (hs : s.size ≤ 35184372088830) (w : World) (hT : Tabs w) :
    Calls Tryd.prog 47 #[.string s] w fun e w' => ∃ v : Value, e = .returned (.tuple #[v, .int .i64 E]) ∧ (Kd.int .i32).R 21 w' w.heap.size (fun _ => True) v X ∧ Below w.heap.size w w' := by
  rw [← hX, ← hE]; exact split_walk s w hs hT

set_option maxHeartbeats 16000000 in
set_option maxRecDepth 100000 in
theorem runesBack_walk (s : ByteArray) (A : Option Addr) (c : Nat) (xs : List Int) (n : Int) (w : World) (hx : ∀ x ∈ xs, -2147483648 ≤ x ∧ x ≤ 2147483647) (hc : xs.length ≤ c) (hmx : xs.length ≤ 9223372036854775807) (hC : (Kd.int .i32).C w A xs.length xs) (hn : -9223372036854775808 ≤ n ∧ n ≤ 9223372036854775807) (hT : Tabs5 w) :
    Calls Tryd.prog 14 #[.string s, .slice A xs.length c, .int .i64 n] w fun e w' => e = .returned (.bool true) ∧ Below w.heap.size w w' := by
  have fin : ∀ W : World, Below w.heap.size w W → Calls Tryd.prog 32 #[] W fun e w' => e = .returned (.bool true) ∧ Below w.heap.size w w' := fun W h => (alive05 W (hT.below h)).mono fun e w' h' => ⟨h'.1, below_step h h'.2⟩
  have FIN := Aside0.mk fin
  have HT := Aside0.mk hT
  have HX := Aside0.mk hx
  have HC := Aside0.mk hC
  clear fin hT hx hC
  by_cases hlen : 1000 < s.size
  · have d1 := decide_eq_true (p := (1000 : Int) < (s.size : Int)) (by omega)
    go_enter Tryd.func14, Tryd.ntmps14
    go_wp2_with fail
    refine (FIN.out _ (Below.refl _ _)).mono ?_
    rintro e w1 ⟨rfl, hb⟩
    go_wp2_with fail
    go_ret
    exact ⟨rfl, hb⟩
  have d1 := decide_eq_false (p := (1000 : Int) < (s.size : Int)) (by omega)
  by_cases hlen2 : 300 < xs.length
  · have d2 := decide_eq_true (p := (300 : Int) < (xs.length : Int)) (by omega)
    go_enter Tryd.func14, Tryd.ntmps14
    go_wp2_with fail
    refine (FIN.out _ (Below.refl _ _)).mono ?_
    rintro e w1 ⟨rfl, hb⟩
    go_wp2_with fail
    go_ret
    exact ⟨rfl, hb⟩
  have d2 := decide_eq_false (p := (300 : Int) < (xs.length : Int)) (by omega)
  have hle := splitR_le14 s.data.toList
  rw [Array.length_toList] at hle
  have hle' : (splitR s.data.toList).length ≤ s.size := hle
  have HRG := Aside0.mk (splitR_rg s.data.toList)
  have hqs := quoteS_size s
  have uq := unquote_quote s
  have KQ := Aside0.mk (fun W h => quote_walk s W (by omega) h)
  have KU := Aside0.mk (fun W => unquote_at (quoteS s) s 0 (by omega) uq W)
  have bS : (s.toList == s.toList) = true := by simp
  have bS2 : (s.toList != s.toList) = false := by simp
  have KD := Aside0.mk (fun W h => digits_at n ⟨(itoa n).toArray⟩ hn.1 hn.2 rfl W h)
  have KN : Aside0 (0 ≤ n → ∀ W, Calls Tryd.prog 41 #[.string ⟨(itoa n).toArray⟩] W fun e w' => e = .returned (.tuple #[.int .i64 n, .int .i64 0]) ∧ Below W.heap.size W w') := by
    refine ⟨fun h W => ?_⟩
    have hl := itoa_length_le n hn.1 hn.2
    exact number_at ⟨(itoa n).toArray⟩ (n, 0) (show (itoa n).toArray.size ≤ _ by rw [List.size_toArray]; omega) (number_digits n h hn.2) W
  obtain ⟨Q, hQ⟩ : ∃ Q, quoteS s = Q := ⟨_, rfl⟩
  rw [hQ] at KQ KU
  obtain ⟨D, hD⟩ : ∃ D : ByteArray, (⟨(itoa n).toArray⟩ : ByteArray) = D := ⟨_, rfl⟩
  rw [hD] at KD KN
  have bn : (n == n) = true := by simp
  clear hQ hD hqs uq hle
  have KJ := Aside0.mk (fun R E hR hE W h => join_at A c xs R E hR hE HX.out (by omega) hc W h)
  rcases hVE : validD s.data.toList with _ | _
  case' false =>
    have K1 := Aside0.mk (fun W h => split_at s [] 3 (by simp [splitR, hVE]) (by simp [splitE, hVE]) (by omega) W h)
    clear hVE
    go_enter Tryd.func14, Tryd.ntmps14
    go_wp2_with fail
    refine (K1.out _ HT.out.1).mono ?_
    rintro e wa ⟨v, rfl, hR, hb⟩
    have HBa := Aside0.mk hb; clear hb
    clear hR
    go_wp2_with fail
  case' true =>
    have jb := join_split s hVE
    have K1 := Aside0.mk (fun W h => split_at s _ 0 rfl (by simp [splitE, hVE]) (by omega) W h)
    clear hVE
    have hrg := HRG.out
    obtain ⟨X, hX⟩ : ∃ X, splitR s.data.toList = X := ⟨_, rfl⟩
    rw [hX] at K1 jb hle' hrg
    have K2 := Aside0.mk (fun A1 c1 h1 W h => join_at A1 c1 X s 0 jb.1 jb.2 hrg (by omega) h1 W h)
    clear jb hX hrg hle'
    go_enter Tryd.func14, Tryd.ntmps14
    go_wp2_with fail
    refine (K1.out _ HT.out.1).mono ?_
    rintro e w1 ⟨v, rfl, hR, hb⟩
    obtain ⟨A1, c1, rfl, hc1, hC1⟩ := Kd.R_reads hR
    have HC1 := Aside0.mk hC1
    have HB1 := Aside0.mk hb; clear hb hR hC1
    go_wp2_with fail
    refine (K2.out A1 c1 hc1 _ HC1.out).mono ?_
    rintro e wa ⟨rfl, hb⟩
    have HBa := Aside0.mk (below_step HB1.out hb); clear hb
    go_wp2_with fail
  all_goals
    rcases hok : joinOk xs with _ | _
  case' false.false | true.false =>
    have K3 := Aside0.mk (fun W h => KJ.out ⟨#[]⟩ 3 (by simp [joinR, hok]) (by simp [joinE, hok]) W h)
    clear hok KJ
    refine (K3.out _ (Kd.C_below HC.out HBa.out)).mono ?_
    rintro e wz ⟨rfl, hb⟩
    have HBz := Aside0.mk (below_step HBa.out hb); clear hb
    go_wp2_with fail
    refine (KQ.out _ (HT.out.below HBz.out)).mono ?_
    rintro e wb ⟨rfl, hb⟩
    have HBb := Aside0.mk (below_step HBz.out hb); clear hb
    go_wp2_with fail
    refine (KU.out _).mono ?_
    rintro e wd ⟨rfl, hb⟩
    have HBd := Aside0.mk (below_step HBb.out hb); clear hb
    by_cases hn0 : n < 0
    · have dn := decide_eq_true (p := n < 0) hn0
      go_wp2_with fail
      refine (FIN.out _ HBd.out).mono ?_
      rintro e we ⟨rfl, hb⟩
      go_wp2_with fail
      go_ret
      exact ⟨rfl, hb⟩
    · have dn := decide_eq_false (p := n < 0) hn0
      have KN' := Aside0.mk (KN.out (by omega))
      go_wp2_with fail
      refine (KD.out _ (HT.out.below HBd.out)).mono ?_
      rintro e we ⟨rfl, hb⟩
      have HBe := Aside0.mk (below_step HBd.out hb); clear hb
      go_wp2_with fail
      refine (KN'.out _).mono ?_
      rintro e wf ⟨rfl, hb⟩
      have HBf := Aside0.mk (below_step HBe.out hb); clear hb
      go_wp2_with fail
      refine (FIN.out _ HBf.out).mono ?_
      rintro e wg ⟨rfl, hb⟩
      go_wp2_with fail
      go_ret
      exact ⟨rfl, hb⟩
  case' false.true | true.true =>
    have sj := split_join xs hok
    have hz4 : (joinR xs).size ≤ 4 * xs.length := by
      rw [joinR, if_pos hok]
      show (encZ xs).toArray.size ≤ _
      rw [List.size_toArray]
      exact encZ_le xs
    have K3 := Aside0.mk (fun W h => KJ.out _ 0 rfl (by simp [joinE, hok]) W h)
    obtain ⟨T, hT⟩ : ∃ T, joinR xs = T := ⟨_, rfl⟩
    rw [hT] at K3 sj hz4
    have K4 := Aside0.mk (fun W h => split_at T xs 0 sj.1 sj.2 (by omega) W h)
    clear hok KJ sj hz4 hT
    refine (K3.out _ (Kd.C_below HC.out HBa.out)).mono ?_
    rintro e wh ⟨rfl, hb⟩
    have HBh := Aside0.mk (below_step HBa.out hb); clear hb
    go_wp2_with fail
    refine (K4.out _ (HT.out.below HBh.out).1).mono ?_
    rintro e wi ⟨v, rfl, hR, hb⟩
    obtain ⟨A2, c2, rfl, hc2, hC2⟩ := Kd.R_reads hR
    have HC2 := Aside0.mk hC2
    have HBi := Aside0.mk (below_step HBh.out hb); clear hb hR hC2
    have bL : ((xs.length : Int) != (xs.length : Int)) = false := by simp
    go_wp2_with fail
    clear bL
    go_loopg [15] (xs.length + 1) (fun gk v15 wx => ∃ j : Int, v15 = .int .i64 j ∧ Aside0 (Below wi.heap.size wi wx) ∧ 0 ≤ j ∧ j ≤ xs.length ∧ xs.length - j.toNat < gk)
    case atStart => exact ⟨0, by go_num, ⟨Below.refl _ _⟩, by omega, by omega, by omega⟩
    case round =>
      obtain ⟨j, rfl, HBj, hj0, hj1, hg⟩ := hrel
      cases gk with
      | zero => omega
      | succ kk =>
        by_cases cj : j < (xs.length : Int)
        · have dj := decide_eq_true (p := j < (xs.length : Int)) cj
          obtain ⟨ad1, e1, cl1⟩ := Kd.at_int (Kd.C_below HC2.out HBj.out) j (by omega) (by omega)
          subst e1
          obtain ⟨ad2, e2, cl2⟩ := Kd.at_int (Kd.C_below HC.out (below_step HBi.out HBj.out)) j (by omega) (by omega)
          subst e2
          obtain ⟨x, hx⟩ : ∃ x, rd xs j = x := ⟨_, rfl⟩
          rw [hx] at cl1 cl2
          have bx : (x != x) = false := by simp
          clear hx
          go_wp2_with fail
          go_region
          go_wp2
          go_roundg kk
          case measure => omega
          case rel => exact ⟨j + 1, by go_num, ⟨by first | exact HBj.out | exact below_drew HBj.out⟩, by omega, by omega, by omega⟩
        · have dj := decide_eq_false (p := j < (xs.length : Int)) cj
          have HBz := Aside0.mk (below_step HBi.out HBj.out)
          clear HBj HBi HBh HC2 K3 K4
          go_wp2_with fail
          refine (KQ.out _ (HT.out.below HBz.out)).mono ?_
          rintro e wb ⟨rfl, hb⟩
          have HBb := Aside0.mk (below_step HBz.out hb); clear hb
          go_wp2_with fail
          refine (KU.out _).mono ?_
          rintro e wd ⟨rfl, hb⟩
          have HBd := Aside0.mk (below_step HBb.out hb); clear hb
          by_cases hn0 : n < 0
          · have dn := decide_eq_true (p := n < 0) hn0
            go_wp2_with fail
            refine (FIN.out _ HBd.out).mono ?_
            rintro e we ⟨rfl, hb⟩
            go_wp2_with fail
            go_ret
            exact ⟨rfl, hb⟩
          · have dn := decide_eq_false (p := n < 0) hn0
            have KN' := Aside0.mk (KN.out (by omega))
            go_wp2_with fail
            refine (KD.out _ (HT.out.below HBd.out)).mono ?_
            rintro e we ⟨rfl, hb⟩
            have HBe := Aside0.mk (below_step HBd.out hb); clear hb
            go_wp2_with fail
            refine (KN'.out _).mono ?_
            rintro e wf ⟨rfl, hb⟩
            have HBf := Aside0.mk (below_step HBe.out hb); clear hb
            go_wp2_with fail
            refine (FIN.out _ HBf.out).mono ?_
            rintro e wg ⟨rfl, hb⟩
            go_wp2_with fail
            go_ret
            exact ⟨rfl, hb⟩
theorem runesBack_row (s : ByteArray) (A : Option Addr) (c : Nat) (xs : List Int) (n : Int) (w : World) (hx : ∀ x ∈ xs, (Lit.int .i32 x).wf = true) (hc : xs.length ≤ c) (hmx : xs.length ≤ maxLen) (hC : (Kd.int .i32).C w A xs.length xs) (hn : (Lit.int .i64 n).wf = true) (hT : Tabs5 w) :
    Calls Tryd.prog 14 #[.string s, .slice A xs.length c, .int .i64 n] w fun e w' => e = .returned (.bool true) ∧ Below w.heap.size w w' := by
  have hn2 : -9223372036854775808 ≤ n ∧ n ≤ 9223372036854775807 := by
    have m1 : IntKind.i64.min = -9223372036854775808 := by decide
    have m2 : IntKind.i64.max = 9223372036854775807 := by decide
    simpa [Lit.wf, m1, m2] using hn
  refine runesBack_walk s A c xs n w (fun x h => ?_) hc (by unfold maxLen at hmx; omega) hC hn2 hT
  have m1 : IntKind.i32.min = -2147483648 := by decide
  have m2 : IntKind.i32.max = 2147483647 := by decide
  simpa [Lit.wf, m1, m2] using hx x h
end Go.Proofs.YtoclbmepgeelmaaDoor.Utf
