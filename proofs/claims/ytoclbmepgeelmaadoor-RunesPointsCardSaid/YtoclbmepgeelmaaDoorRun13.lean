import Derived.Test.YtoclbmepgeelmaaDoorWrl
import Derived.Test.YtoclbmepgeelmaaDoorAl5
namespace Go.Proofs.YtoclbmepgeelmaaDoor.Utf
set_option linter.unusedVariables false
set_option linter.unusedSimpArgs false
open Go.RowKit Go.Lib Go.Proofs.YtoclbmepgeelmaaDoorW.PrintWords Go.Proofs.YtoclbmepgeelmaaDoorW.PrintLast Go.Proofs.YtoclbmepgeelmaaDoorW.PrintMore

theorem rsplit_walk (s : ByteArray) (w : World) (hs : (s.size : Int) ≤ 17592186044415) : Calls Tryd.prog 23 #[.string s] w fun e w' => ∃ v : Value, e = .returned (.tuple #[v, .bool (validD s.data.toList)]) ∧ (Kd.int .i64).R 3 w' w.heap.size (fun _ => True) v (splitR s.data.toList) ∧ Below w.heap.size w w' := by
  have h : PRa.hindsightref05_Split.f (s.size + 21) s = some (splitR s.data.toList, validD s.data.toList) := by
    rw [split_f s hs, splitR]; cases validD s.data.toList <;> rfl
  exact PRa.hindsightref05_Split.calls _ s _ _ w h
theorem splitR_le (l : List UInt8) : (splitR l).length ≤ l.length := by
  unfold splitR; split
  · exact runesOf_length l
  · simp

theorem joinE_snoc (T : List Int) (x : Int) : joinE (T ++ [x]) = if validRune x = true then joinE T else 3 := by
  unfold joinE joinOk
  rw [List.all_append]
  cases h : validRune x <;> simp [h]
theorem wrL_nil (x : Int) : (validRune x = true → 1 ≤ (wrL x).length) ∧ (validRune x = false → (wrL x).length = 0) := by
  unfold wrL
  refine ⟨fun h => ?_, fun h => ?_⟩
  · rw [if_pos h]; exact (encodeRuneZ_length x).1
  · rw [if_neg (by simp [h])]; rfl

set_option maxHeartbeats 8000000 in
set_option maxRecDepth 100000 in
theorem runesPoints_walk (s : ByteArray) (A : Option Addr) (c : Nat) (xs : List Int) (w : World) (hx : ∀ x ∈ xs, -2147483648 ≤ x ∧ x ≤ 2147483647) (hc : xs.length ≤ c) (hmx : xs.length ≤ 9223372036854775807) (hC : (Kd.int .i32).C w A xs.length xs) (hT : Tabs5 w) :
    Calls Tryd.prog 13 #[.string s, .slice A xs.length c] w fun e w' => e = .returned (.bool true) ∧ Below w.heap.size w w' := by
  have fin : ∀ W : World, Below w.heap.size w W → Calls Tryd.prog 32 #[] W fun e w' => e = .returned (.bool true) ∧ Below w.heap.size w w' := fun W h => (alive05 W (hT.below h)).mono fun e w' h' => ⟨h'.1, below_step h h'.2⟩
  have FIN := Aside0.mk fin
  have HT := Aside0.mk hT
  have HX := Aside0.mk hx
  have HC := Aside0.mk hC
  clear fin hT hx hC
  by_cases hlen : 1000 < s.size
  · have d1 := decide_eq_true (p := (1000 : Int) < (s.size : Int)) (by omega)
    go_enter Tryd.func13, Tryd.ntmps13
    go_wp2_with fail
    refine (FIN.out _ (Below.refl _ _)).mono ?_
    rintro e w1 ⟨rfl, hb⟩
    go_wp2_with fail
    go_ret
    exact ⟨rfl, hb⟩
  have d1 := decide_eq_false (p := (1000 : Int) < (s.size : Int)) (by omega)
  by_cases hlen2 : 300 < xs.length
  · have d2 := decide_eq_true (p := (300 : Int) < (xs.length : Int)) (by omega)
    go_enter Tryd.func13, Tryd.ntmps13
    go_wp2_with fail
    refine (FIN.out _ (Below.refl _ _)).mono ?_
    rintro e w1 ⟨rfl, hb⟩
    go_wp2_with fail
    go_ret
    exact ⟨rfl, hb⟩
  have d2 := decide_eq_false (p := (300 : Int) < (xs.length : Int)) (by omega)
  have k1 := split_walk s w (by omega) HT.out.1
  have k2 := fun W => rsplit_walk s W (by omega)
  have k3 := fun W => count_walk s W (by omega)
  have k4 := fun W => right_walk s W (by omega)
  have hle := splitR_le s.data.toList
  have hrg : ∀ x ∈ splitR s.data.toList, 0 ≤ x ∧ x ≤ 1114111 := by
    intro x hx
    unfold splitR at hx
    split at hx
    · exact runesOf_range _ x hx
    · simp at hx
  rw [Array.length_toList] at hle
  have hle' : (splitR s.data.toList).length ≤ s.size := hle
  have hVE : (validD s.data.toList = true ∧ splitE s.data.toList = 0) ∨ (validD s.data.toList = false ∧ splitE s.data.toList = 3) := by
    unfold splitE
    cases validD s.data.toList <;> simp
  obtain ⟨X, hX⟩ : ∃ X, splitR s.data.toList = X := ⟨_, rfl⟩
  obtain ⟨V, hV⟩ : ∃ V, validD s.data.toList = V := ⟨_, rfl⟩
  obtain ⟨E, hE⟩ : ∃ E, splitE s.data.toList = E := ⟨_, rfl⟩
  rw [hX, hE] at k1 k3
  rw [hX, hV] at k2
  rw [hV] at k4
  rw [hV, hE] at hVE
  rw [hX] at hrg hle'
  have K1 := Aside0.mk k1
  have K2 := Aside0.mk k2
  have K3 := Aside0.mk k3
  have K4 := Aside0.mk k4
  have HRG := Aside0.mk hrg
  clear k1 k2 k3 k4 hX hV hE hle hrg
  have bX : (X.length : Int) ≤ 1000 := by omega
  have bX0 : ((X.length : Int) != (X.length : Int)) = false := by simp
  clear hle'
  rcases hVE with ⟨rfl, rfl⟩ | ⟨rfl, rfl⟩
  all_goals
    go_enter Tryd.func13, Tryd.ntmps13
    go_wp2_with fail
    refine K1.out.mono ?_
    rintro e w1 ⟨v, rfl, hR, hb⟩
    obtain ⟨A1, c1, rfl, hc1, hC1⟩ := Kd.R_reads hR
    have HC1 := Aside0.mk hC1
    have HB1 := Aside0.mk hb; clear hb hR hC1
    go_wp2_with fail
    refine (K2.out _).mono ?_
    rintro e w2 ⟨v, rfl, hR, hb⟩
    obtain ⟨A2, c2, rfl, hc2, hC2⟩ := Kd.R_reads hR
    have HC2 := Aside0.mk hC2
    have HC1' := Aside0.mk (Kd.C_below HC1.out hb)
    have HB2 := Aside0.mk (below_step HB1.out hb); clear hb hR hC2 HC1 HB1
    go_wp2_with fail
    refine (K3.out _ (HT.out.below HB2.out).1).mono ?_
    rintro e w3 ⟨rfl, hb⟩
    have HC1 := Aside0.mk (Kd.C_below HC1'.out hb)
    have HC2' := Aside0.mk (Kd.C_below HC2.out hb)
    have HB3 := Aside0.mk (below_step HB2.out hb); clear hb HC2 HB2 HC1'
    go_wp2_with fail
    refine (K4.out _ (HT.out.below HB3.out).1).mono ?_
    rintro e w4 ⟨rfl, hb⟩
    have HC1' := Aside0.mk (Kd.C_below HC1.out hb)
    have HC2 := Aside0.mk (Kd.C_below HC2'.out hb)
    have HB4 := Aside0.mk (below_step HB3.out hb); clear hb HC2' HB3 HC1
    go_wp2_with fail
    go_loopg [11] (X.length + 1) (fun gk v11 wx => ∃ i : Int, v11 = .int .i64 i ∧ Aside0 (Below w4.heap.size w4 wx) ∧ 0 ≤ i ∧ i ≤ X.length ∧ X.length - i.toNat < gk)
    case atStart => exact ⟨0, by go_num, ⟨Below.refl _ _⟩, by omega, by omega, by omega⟩
    case round =>
      obtain ⟨i, rfl, HB5, hi0, hi1, hg⟩ := hrel
      cases gk with
      | zero => omega
      | succ kk =>
        by_cases ci : i < (X.length : Int)
        · have di := decide_eq_true (p := i < (X.length : Int)) ci
          obtain ⟨ad1, e1, cl1⟩ := Kd.at_int (Kd.C_below HC1'.out HB5.out) i (by omega) (by omega)
          subst e1
          obtain ⟨ad2, e2, cl2⟩ := Kd.at_int (Kd.C_below HC2.out HB5.out) i (by omega) (by omega)
          subst e2
          have hr := HRG.out _ (mem_rdJ X i hi0 ci)
          obtain ⟨x, hx⟩ : ∃ x, rd X i = x := ⟨_, rfl⟩
          rw [hx] at cl1 cl2 hr
          have wx : IntKind.i64.wrap x = x := (i64_w _).trans (wrap64_id (by omega) (by omega))
          have bx : (x != x) = false := by simp
          clear hx
          go_wp2_with fail
          go_region
          go_wp2
          go_roundg kk
          case measure => omega
          case rel => exact ⟨i + 1, by go_num, ⟨by first | exact HB5.out | exact below_drew HB5.out⟩, by omega, by omega, by omega⟩
        · have di := decide_eq_false (p := i < (X.length : Int)) ci
          have HBl := Aside0.mk (below_step HB4.out HB5.out)
          have HCl := Aside0.mk (Kd.C_below HC.out HBl.out)
          have hszl := HBl.out.size
          clear HB5 HB4 HC1' HC2 K1 K2 K3 K4 HRG bX bX0
          obtain ⟨Wl, hWl⟩ : ∃ W, wr = W := ⟨_, rfl⟩
          subst hWl
          go_wp2_with fail
          go_loopg [12, 13, 14] (xs.length + 1) (fun gk v12 v13 v14 wx => ∃ j : Int, v12 = .string (wantS (xs.take j.toNat)) ∧ v13 = .int .i64 (joinE (xs.take j.toNat)) ∧ v14 = .int .i64 j ∧ Aside0 (Below wr.heap.size wr wx) ∧ 0 ≤ j ∧ j ≤ xs.length ∧ xs.length - j.toNat < gk)
          case atStart => exact ⟨0, by simp [wantS]; rfl, by simp [joinE, joinOk], by go_num, ⟨Below.refl _ _⟩, by omega, by omega, by omega⟩
          case round =>
            obtain ⟨j, rfl, rfl, rfl, HBx, hj0, hj1, hg2⟩ := hrel
            cases gk with
            | zero => omega
            | succ kj =>
              by_cases cj : j < (xs.length : Int)
              · have dj := decide_eq_true (p := j < (xs.length : Int)) cj
                obtain ⟨ad1, e1, cl1⟩ := Kd.at_int (Kd.C_below HCl.out HBx.out) j (by omega) (by omega)
                subst e1
                have hr := HX.out _ (mem_rdJ xs j hj0 cj)
                have ht := take_rdJ xs j hj0 cj
                obtain ⟨x, hx⟩ : ∃ x, rd xs j = x := ⟨_, rfl⟩
                rw [hx] at cl1 hr ht
                clear hx
                have wx : IntKind.i64.wrap x = x := (i64_w _).trans (wrap64_id (by omega) (by omega))
                have h4 := wrL_le x
                have hw := wantS_snoc (xs.take j.toNat) x
                have hj := joinE_snoc (xs.take j.toNat) x
                rw [← ht] at hw hj
                have hsz := wantS_le (xs.take j.toNat)
                rw [List.length_take] at hsz
                have hs2 : (strOfNums (wrL x)).size ≤ 4 := by rw [strOfNums_size]; exact h4
                have hemp := wrL_nil x
                have KW := Aside0.mk (fun W => rwr_walk x W)
                obtain ⟨WN, hWN⟩ : ∃ q, wantS (xs.take (j + 1).toNat) = q := ⟨_, rfl⟩
                obtain ⟨JN, hJN⟩ : ∃ q, joinE (xs.take (j + 1).toNat) = q := ⟨_, rfl⟩
                obtain ⟨WT, hWT⟩ : ∃ q, wantS (xs.take j.toNat) = q := ⟨_, rfl⟩
                obtain ⟨JT, hJT⟩ : ∃ q, joinE (xs.take j.toNat) = q := ⟨_, rfl⟩
                rw [hWN, hWT] at hw
                rw [hJN, hJT] at hj
                rw [hWT] at hsz
                rw [hWT, hJT]
                have Hw := Aside0.mk hw
                have Hj := Aside0.mk hj
                have HWN := Aside0.mk hWN
                have HJN := Aside0.mk hJN
                clear hWN hJN hWT hJT hw hj ht
                obtain ⟨L, hL⟩ : ∃ q, wrL x = q := ⟨_, rfl⟩
                rw [hL] at KW Hw hs2 h4 hemp
                clear hL
                have hbn : WT.size + (strOfNums L).size ≤ 9223372036854775807 := by omega
                by_cases hv : validRune x = true
                · have bL : ((L.length : Int) == 0) = false := by
                    rw [beq_eq_false_iff_ne]; have := hemp.1 hv; omega
                  have eJ : JN = JT := by rw [Hj.out, if_pos hv]
                  have EJ := Aside0.mk eJ
                  clear hv hemp eJ
                  go_wp2_with fail
                  refine (KW.out _).mono ?_
                  rintro e w5 ⟨v, rfl, hR, hb⟩
                  obtain ⟨A3, c3, rfl, hc3, hC3⟩ := Kd.R_reads hR
                  have cv := Kd.C_string (P := Tryd.prog) (c := c3) (src := 70) (dst := 9) (e := 5) Tryd.underlying70 Tryd.underlying5 Tryd.underlying9 hC3
                  have HB6 := Aside0.mk (below_step HBx.out hb)
                  clear hR hb hC3
                  go_wp2
                  go_roundg kj
                  case measure => omega
                  case rel => exact ⟨j + 1, by rw [HWN.out, Hw.out], by rw [HJN.out, EJ.out], by go_num, ⟨HB6.out⟩, by omega, by omega, by omega⟩
                · have bL : ((L.length : Int) == 0) = true := by
                    rw [beq_iff_eq]; have := hemp.2 (by simpa using hv); omega
                  have eJ : JN = 3 := by rw [Hj.out, if_neg hv]
                  have EJ := Aside0.mk eJ
                  clear hv hemp eJ
                  go_wp2_with fail
                  refine (KW.out _).mono ?_
                  rintro e w5 ⟨v, rfl, hR, hb⟩
                  obtain ⟨A3, c3, rfl, hc3, hC3⟩ := Kd.R_reads hR
                  have cv := Kd.C_string (P := Tryd.prog) (c := c3) (src := 70) (dst := 9) (e := 5) Tryd.underlying70 Tryd.underlying5 Tryd.underlying9 hC3
                  have HB6 := Aside0.mk (below_step HBx.out hb)
                  clear hR hb hC3
                  go_wp2
                  go_roundg kj
                  case measure => omega
                  case rel => exact ⟨j + 1, by rw [HWN.out, Hw.out], by rw [HJN.out, EJ.out], by go_num, ⟨HB6.out⟩, by omega, by omega, by omega⟩
              · have dj := decide_eq_false (p := j < (xs.length : Int)) cj
                have hfull : xs.take j.toNat = xs := List.take_of_length_le (by omega)
                rw [hfull]
                clear hfull
                have KJ := Aside0.mk (fun W h => join_walk A c xs W HX.out (by omega) hc h)
                have HCx := Aside0.mk (Kd.C_below HCl.out HBx.out)
                have HBy := Aside0.mk (below_step HBl.out HBx.out)
                cases hok : joinOk xs with
                | true =>
                  have eW := wantS_ok hok
                  have eE : joinE xs = 0 := by simp [joinE, hok]
                  have eR : joinR xs = ⟨(encZ xs).toArray⟩ := by simp [joinR, hok]
                  rw [eE, eR] at KJ
                  rw [eW, eE]
                  obtain ⟨Z, hZ⟩ : ∃ Z : ByteArray, (⟨(encZ xs).toArray⟩ : ByteArray) = Z := ⟨_, rfl⟩
                  rw [hZ] at KJ ⊢
                  have bZ : (Z.toList == Z.toList) = true := by simp
                  clear eW eE eR hZ hok
                  go_wp2_with fail
                  refine (KJ.out _ HCx.out).mono ?_
                  rintro e w6 ⟨rfl, hb⟩
                  have HB7 := Aside0.mk (below_step HBy.out hb); clear hb
                  go_wp2_with fail
                  refine (FIN.out _ HB7.out).mono ?_
                  rintro e w7 ⟨rfl, hb⟩
                  go_wp2_with fail
                  go_ret
                  exact ⟨rfl, hb⟩
                | false =>
                  have eE : joinE xs = 3 := by simp [joinE, hok]
                  have eR : joinR xs = ⟨#[]⟩ := by simp [joinR, hok]
                  rw [eE, eR] at KJ
                  rw [eE]
                  clear eE eR hok
                  go_wp2_with fail
                  refine (KJ.out _ HCx.out).mono ?_
                  rintro e w6 ⟨rfl, hb⟩
                  have HB7 := Aside0.mk (below_step HBy.out hb); clear hb
                  go_wp2_with fail
                  refine (FIN.out _ HB7.out).mono ?_
                  rintro e w7 ⟨rfl, hb⟩
                  go_wp2_with fail
                  go_ret
                  exact ⟨rfl, hb⟩
end Go.Proofs.YtoclbmepgeelmaaDoor.Utf
namespace Go.Proofs.YtoclbmepgeelmaaDoor.Utf
open Go.RowKit Go.Proofs.YtoclbmepgeelmaaDoorW.PrintWords
theorem i32_range {x : Int} (h : (Lit.int .i32 x).wf = true) : -2147483648 ≤ x ∧ x ≤ 2147483647 := by
  have m1 : IntKind.i32.min = -2147483648 := by decide
  have m2 : IntKind.i32.max = 2147483647 := by decide
  simpa [Lit.wf, m1, m2] using h
theorem runesPoints_row (s : ByteArray) (A : Option Addr) (c : Nat) (xs : List Int) (w : World) (hx : ∀ x ∈ xs, (Lit.int .i32 x).wf = true) (hc : xs.length ≤ c) (hmx : xs.length ≤ maxLen) (hC : (Kd.int .i32).C w A xs.length xs) (hT : Tabs5 w) :
    Calls Tryd.prog 13 #[.string s, .slice A xs.length c] w fun e w' => e = .returned (.bool true) ∧ Below w.heap.size w w' :=
  runesPoints_walk s A c xs w (fun x h => i32_range (hx x h)) hc (by unfold maxLen at hmx; omega) hC hT
end Go.Proofs.YtoclbmepgeelmaaDoor.Utf
