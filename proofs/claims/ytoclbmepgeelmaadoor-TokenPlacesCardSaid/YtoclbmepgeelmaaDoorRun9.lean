import Derived.Test.YtoclbmepgeelmaaDoorTk2
import Derived.Test.YtoclbmepgeelmaaDoorTk4
import Derived.Test.YtoclbmepgeelmaaDoorSam
namespace Go.Proofs.YtoclbmepgeelmaaDoor.Utf
set_option linter.unusedVariables false
set_option linter.unusedSimpArgs false
open Go.RowKit Go.Lib Go.Proofs.YtoclbmepgeelmaaDoorW.PrintWords Go.Proofs.YtoclbmepgeelmaaDoorW.PrintLast Go.Proofs.YtoclbmepgeelmaaDoorW.PrintMore Go.Proofs.YtoclbmepgeelmaaDoor.PRe

theorem tsame_sh (n : Nat) (L : List S53) (hL : L.length ≤ 100000) (A0 : Option Addr) (c0 : Nat) (A1 : Option Addr) (c1 : Nat) (w : World) (h0 : Kd.C k53 w A0 L.length L) (hc0 : L.length ≤ c0) (h1 : Kd.C k53 w A1 L.length (L.map (sh n))) (hc1 : L.length ≤ c1) :
    Calls Tryd.prog 31 #[.slice A0 L.length c0, .slice A1 L.length c1] w fun e w' => e = .returned (.bool true) ∧ Below w.heap.size w w' := by
  refine tsame_walk L (L.map (sh n)) ⟨List.length_map .., fun i hi0 hi1 => ?_⟩ hL A0 c0 A1 c1 w h0 hc0 h1 hc1
  have hl : i.toNat < L.length := by omega
  have e : rd_T53 (L.map (sh n)) i = sh n (rd_T53 L i) := by simp [rd_T53, List.getD_eq_getElem?_getD, hl]
  rw [e]
  exact ⟨rfl, rfl, rfl⟩
theorem sh_read (n : Nat) (s : ByteArray) (L : List S53) (p c : Int) (h : readT s = (L, p, c)) (hn : n + s.size ≤ 4096) : ∃ p', (c = 40 → p' = p + n) ∧ ∀ W, TabsT W →
    Calls Tryd.prog 28 #[.string (spaces n ++ s)] W fun e w' => ∃ (A : Option Addr) (q : Nat), e = .returned (.tuple #[.slice A L.length q, .agg #[.int .i64 p', .int .i64 c]]) ∧ L.length ≤ q ∧ Kd.C k53 w' A L.length (L.map (sh n)) ∧ Below W.heap.size W w' := by
  obtain ⟨p', h1, h2⟩ := readT_spaces n s hn
  rw [h] at h1 h2
  refine ⟨p', h2, fun W hT => ?_⟩
  have hz : (spaces n ++ s).size = n + s.size := by rw [ByteArray.size_append, spaces_size]
  have := read_at _ _ p' c h1 (by omega) W hT
  rw [List.length_map] at this
  exact this

set_option maxHeartbeats 2400000 in
set_option maxRecDepth 100000 in
theorem tokenPlaces_walk (s : ByteArray) (bl : Int) (w : World) (hT : TabsT w) :
    Calls Tryd.prog 9 #[.string s, .int .i64 bl] w fun e w' => e = .returned (.bool true) ∧ Below w.heap.size w w' := by
  have fin : ∀ W : World, Below w.heap.size w W → Calls Tryd.prog 27 #[] W fun e w' => e = .returned (.bool true) ∧ Below W.heap.size W w' := fun W h => alive19 W (hT.below h)
  have FIN := Aside0.mk fin
  have HT := Aside0.mk hT
  clear fin hT
  by_cases h1 : 1000 < s.size
  · have d1 := decide_eq_true (p := (1000 : Int) < (s.size : Int)) (by omega)
    go_enter Tryd.func9, Tryd.ntmps9
    go_wp2_with fail
    refine (FIN.out _ (Below.refl _ _)).mono ?_
    rintro e w1 ⟨rfl, hb⟩
    go_wp2_with fail
    go_ret
    exact ⟨rfl, hb⟩
  have d1 := decide_eq_false (p := (1000 : Int) < (s.size : Int)) (by omega)
  by_cases h2 : bl < 0
  · have d2 := decide_eq_true (p := bl < 0) h2
    go_enter Tryd.func9, Tryd.ntmps9
    go_wp2_with fail
    refine (FIN.out _ (Below.refl _ _)).mono ?_
    rintro e w1 ⟨rfl, hb⟩
    go_wp2_with fail
    go_ret
    exact ⟨rfl, hb⟩
  have d2 := decide_eq_false (p := bl < 0) h2
  by_cases h3 : 50 < bl
  · have d3 := decide_eq_true (p := 50 < bl) h3
    go_enter Tryd.func9, Tryd.ntmps9
    go_wp2_with fail
    refine (FIN.out _ (Below.refl _ _)).mono ?_
    rintro e w1 ⟨rfl, hb⟩
    go_wp2_with fail
    go_ret
    exact ⟨rfl, hb⟩
  have d3 := decide_eq_false (p := 50 < bl) h3
  obtain ⟨n, rfl⟩ := Int.eq_ofNat_of_zero_le (show 0 ≤ bl by omega)
  have hn : n ≤ 50 := by omega
  have hsh := readT_shape s (by omega)
  rcases hR : readT s with ⟨L, p, c⟩
  rw [hR] at hsh
  simp only at hsh
  obtain ⟨p', hp', k2⟩ := sh_read n s L p c hR (by omega)
  have hLl : L.length ≤ 100000 := by
    have := readT_lenP s
    rw [hR] at this
    simp only at this
    omega
  have K1 := Aside0.mk (fun W h => read_at s L p c hR (by omega) W h)
  have K2 := Aside0.mk k2
  have hsz : s.size ≤ 1000 := by omega
  clear hR k2 h1 h2 h3
  have bcc : (c != c) = false := by simp
  have bLL : ((L.length : Int) != (L.length : Int)) = false := by simp
  by_cases hc0 : c = 0
  case' pos =>
    subst hc0
    rcases hsh with ⟨_, M, hM, hri⟩ | ⟨h, _⟩
    case' inr => exact absurd rfl h
    have hMl := congrArg List.length hM
    simp only [List.length_append, List.length_singleton] at hMl
    have hlast : rd_T53 L ((L.length : Int) - 1) = ⟨0, (s.size : Int), ⟨#[]⟩, 0⟩ := by
      unfold rd_T53
      rw [show ((L.length : Int) - 1).toNat = M.length by omega, hM]
      simp [List.getD_eq_getElem?_getD]
    have bL0 : ((L.length : Int) == 0) = false := by rw [beq_eq_false_iff_ne]; omega
    have bsz : ((s.size : Int) != (s.size : Int)) = false := by simp
    have hL1 : 1 ≤ L.length := by omega
    have HRI := Aside0.mk hri
    have HLA := Aside0.mk hlast
    clear hM hMl hri hlast hp'
    go_enter Tryd.func9, Tryd.ntmps9
    go_wp2_with fail
    refine (K1.out _ HT.out).mono ?_
    rintro e w1 ⟨A1, q1, rfl, hq1, hC1, hb⟩
    obtain ⟨o1, ho1⟩ : ∃ o, o = Obj.cells #[.int .i64 p, .int .i64 0] 45 (0, 0) := ⟨_, rfl⟩
    have HC1 := Aside0.mk (Kd.C_below hC1 (below_alloc (Below.refl _ _) (.cells #[.int .i64 p, .int .i64 0] 45 (0, 0))))
    have HB := Aside0.mk (below_alloc hb (.cells #[.int .i64 p, .int .i64 0] 45 (0, 0)))
    have BK := Aside0.mk (blk_new w1 (.cells #[.int .i64 p, .int .i64 0] 45 (0, 0)))
    clear hb hC1 ho1
    have hl := HLA.out
    obtain ⟨ad, e1, x0, x1, x2, x3⟩ := at_T53 HC1.out ((L.length - 1 : Nat) : Int) (by omega) (by omega)
    subst e1
    rw [show ((L.length - 1 : Nat) : Int) = (L.length : Int) - 1 by omega, hl, show ((L.length : Int) - 1).toNat = L.length - 1 by omega] at x0 x1
    simp only at x0 x1
    clear x2 x3 hl
    go_wp2_with fail
    clear x0 x1
    have CELL1 := Aside0.mk (Below.refl w1.heap.size w1)
    go_loopg [7] (L.length + 1) (fun gk v7 wx => ∃ i : Int, v7 = .int .i64 i ∧ Aside0 (Below w.heap.size w wx) ∧ Aside0 (Kd.C k53 wx (some ad) L.length L) ∧ Aside0 (wx.heap[w1.heap.size]? = some (.cells #[.int .i64 p, .int .i64 0] 45 (0, 0))) ∧ 0 ≤ i ∧ i ≤ L.length ∧ L.length - i.toNat < gk)
    case atStart => exact ⟨0, by go_num, HB, HC1, BK, by omega, by omega, by omega⟩
    case round =>
      clear HB HC1 BK CELL1
      obtain ⟨i, rfl, HB, HC1, BK, hi0, hi1, hg⟩ := hrel
      cases gk with
      | zero => omega
      | succ kk =>
        by_cases ci : i < (L.length : Int)
        · have di := decide_eq_true (p := i < (L.length : Int)) ci
          obtain ⟨ad', e1, x0, x1, x2, x3⟩ := at_T53 HC1.out i (by omega) (by omega)
          obtain rfl := Option.some.inj e1
          clear x0 x2 x3 e1
          obtain ⟨r1, _⟩ := Rise.at_ i.toNat HRI.out (by omega)
          by_cases ci0 : 0 < i
          · have di0 := decide_eq_true (p := 0 < i) ci0
            obtain ⟨ad', e1, y0, y1, y2, y3⟩ := at_T53 HC1.out (i - 1) (by omega) (by omega)
            obtain rfl := Option.some.inj e1
            clear y0 y2 y3 e1
            obtain ⟨_, r2⟩ := Rise.at_ (i - 1).toNat HRI.out (by omega)
            have r3 := r2 (by omega)
            rw [show (i - 1).toNat + 1 = i.toNat by omega] at r3
            have r1' : 0 ≤ (rd_T53 L i).f1 := r1
            have r3' : (rd_T53 L (i - 1)).f1 < (rd_T53 L i).f1 := r3
            obtain ⟨v, hv⟩ : ∃ v, (rd_T53 L i).f1 = v := ⟨_, rfl⟩
            obtain ⟨u, hu⟩ : ∃ u, (rd_T53 L (i - 1)).f1 = u := ⟨_, rfl⟩
            rw [hv] at x1 r1' r3'
            rw [hu] at y1 r3'
            rw [show (i - 1).toNat = i.toNat - 1 by omega] at y1
            have dv := decide_eq_false (p := v < 0) (by omega)
            have du := decide_eq_false (p := v ≤ u) (by omega)
            have wi : IntKind.i64.wrap (i - 1) = i - 1 := (i64_w _).trans (wrap64_id (by omega) (by omega))
            have i1 : 0 ≤ i - 1 := by omega
            clear hv hu r1 r2 r3 r1' r3'
            go_wp2_with fail
            go_quiet (fail)
            go_wp2
            go_roundg kk
            case measure => omega
            case rel => exact ⟨i + 1, by go_num, ⟨pw_below_drewN HB.out _⟩, ⟨Kd.C_below HC1.out (pw_below_drewN (Below.refl _ _) _)⟩, ⟨blk_drewN BK.out _⟩, by omega, by omega, by omega⟩
          · have di0 := decide_eq_false (p := 0 < i) ci0
            have r1' : 0 ≤ (rd_T53 L i).f1 := r1
            obtain ⟨v, hv⟩ : ∃ v, (rd_T53 L i).f1 = v := ⟨_, rfl⟩
            rw [hv] at x1 r1'
            have dv := decide_eq_false (p := v < 0) (by omega)
            clear hv r1 r1'
            go_wp2_with fail
            go_quiet (fail)
            go_wp2
            go_roundg kk
            case measure => omega
            case rel => exact ⟨i + 1, by go_num, ⟨pw_below_drewN HB.out _⟩, ⟨Kd.C_below HC1.out (pw_below_drewN (Below.refl _ _) _)⟩, ⟨blk_drewN BK.out _⟩, by omega, by omega, by omega⟩
        · have di := decide_eq_false (p := i < (L.length : Int)) ci
          clear HRI HLA
          go_wp2_with fail
          go_loopg [8, 9] (n + 1) (fun gk v8 v9 wx => ∃ j : Nat, v8 = .string (spaces j) ∧ v9 = .int .i64 (j : Int) ∧ Aside0 (Below w.heap.size w wx) ∧ Aside0 (Kd.C k53 wx (some ad) L.length L) ∧ Aside0 (wx.heap[w1.heap.size]? = some (.cells #[.int .i64 p, .int .i64 0] 45 (0, 0))) ∧ j ≤ n ∧ n - j < gk)
          case atStart => exact ⟨0, rfl, by go_num, HB, HC1, BK, by omega, by omega⟩
          case round =>
            clear HB HC1 BK
            obtain ⟨j, rfl, rfl, HB, HC1, BK, hj, hg⟩ := hrel
            cases gk with
            | zero => omega
            | succ kj =>
              have hzj := spaces_size j
              by_cases cj : j < n
              · have dj := decide_eq_true (p := (j : Int) < (n : Int)) (by omega)
                have dj2 := decide_eq_true (p := j < n) cj
                have hsn := spaces_snoc j
                obtain ⟨S, hS⟩ : ∃ S, spaces j = S := ⟨_, rfl⟩
                rw [hS] at hzj hsn ⊢
                have HSN := Aside0.mk hsn
                have bS : S.size + 1 ≤ 9223372036854775807 := by omega
                clear hzj hsn hS
                go_wp2_with fail
                go_roundg kj
                case measure => omega
                case rel => exact ⟨j + 1, by rw [HSN.out], by go_num, HB, HC1, BK, by omega, by omega⟩
              · have dj := decide_eq_false (p := (j : Int) < (n : Int)) (by omega)
                have dj2 := decide_eq_false (p := j < n) cj
                obtain rfl : j = n := by omega
                obtain ⟨S, hS⟩ : ∃ S, spaces j = S := ⟨_, rfl⟩
                rw [hS] at K2 hzj ⊢
                have bS : S.size + s.size ≤ 9223372036854775807 := by omega
                clear hzj hS
                go_wp2_with fail
                refine (K2.out _ (HT.out.below HB.out)).mono ?_
                rintro e w2 ⟨A2, q2, rfl, hq2, hC2, hb⟩
                have BKn := Aside0.mk (blk_alloc (blk_below BK.out hb) (.cells #[.int .i64 p', .int .i64 0] 45 (0, 0)))
                have HCn := Aside0.mk (Kd.C_below HC1.out (below_alloc hb (.cells #[.int .i64 p', .int .i64 0] 45 (0, 0))))
                have HBn := Aside0.mk (below_alloc (below_step HB.out hb) (.cells #[.int .i64 p', .int .i64 0] 45 (0, 0)))
                have HC2 := Aside0.mk (Kd.C_below hC2 (below_alloc (Below.refl _ _) (.cells #[.int .i64 p', .int .i64 0] 45 (0, 0))))
                clear hb hC2 BK HC1 HB
                have f0 := (blk_cell BKn.out 0).trans (show _ = some (.int .i64 p) from rfl)
                have f1 := (blk_cell BKn.out 1).trans (show _ = some (.int .i64 0) from rfl)
                have b40 : ((0 : Int) == 40) = false := by decide
                go_wp2_with fail
                refine (FIN.out _ HBn.out).mono ?_
                rintro e w3 ⟨rfl, hb⟩
                have BKm := Aside0.mk (blk_below BKn.out hb)
                have HCm := Aside0.mk (Kd.C_below HCn.out hb)
                have HC2m := Aside0.mk (Kd.C_below HC2.out hb)
                have HBm := Aside0.mk (below_step HBn.out hb)
                clear f0 f1 hb BKn HCn HC2 HBn
                have f1 := (blk_cell BKm.out 1).trans (show _ = some (.int .i64 0) from rfl)
                go_wp2_with fail
                refine (tsame_sh j L hLl (some ad) q1 A2 q2 _ HCm.out hq1 HC2m.out hq2).mono ?_
                rintro e w4 ⟨rfl, hb⟩
                have HBo := Aside0.mk (below_step HBm.out hb)
                clear hb
                go_wp2_with fail
                go_ret
                exact ⟨rfl, HBo.out⟩
  case' neg =>
    have bc0 : (c == 0) = false := by simpa using hc0
    have bc0' : (c != 0) = true := by simpa using hc0
    rcases hsh with ⟨h, _⟩ | ⟨_, hLe, hp0, hp1⟩
    case' inl => exact absurd h hc0
    have dp0 := decide_eq_false (p := p < 0) (by omega)
    have dp1 := decide_eq_false (p := (s.size : Int) < p) (by omega)
    have bpp : c = 40 → ((p' - (n : Int)) != p) = false := by
      intro h
      rw [hp' h]
      simp
    have wpp : c = 40 → IntKind.i64.wrap (p' - (n : Int)) = p' - (n : Int) := by
      intro h
      have := hp' h
      exact (i64_w _).trans (wrap64_id (by omega) (by omega))
    have BPP := Aside0.mk bpp
    have WPP := Aside0.mk wpp
    clear bpp wpp hp'
    subst hLe
    go_enter Tryd.func9, Tryd.ntmps9
    go_wp2_with fail
    refine (K1.out _ HT.out).mono ?_
    rintro e w1 ⟨A1, q1, rfl, hq1, hC1, hb⟩
    have HC1 := Aside0.mk (Kd.C_below hC1 (below_alloc (Below.refl _ _) (.cells #[.int .i64 p, .int .i64 c] 45 (0, 0))))
    have HB := Aside0.mk (below_alloc hb (.cells #[.int .i64 p, .int .i64 c] 45 (0, 0)))
    have BK := Aside0.mk (blk_new w1 (.cells #[.int .i64 p, .int .i64 c] 45 (0, 0)))
    clear hb hC1
    go_wp2_with fail
    go_loopg [8, 9] (n + 1) (fun gk v8 v9 wx => ∃ j : Nat, v8 = .string (spaces j) ∧ v9 = .int .i64 (j : Int) ∧ Aside0 (Below w.heap.size w wx) ∧ Aside0 (Kd.C k53 wx A1 ([] : List S53).length []) ∧ Aside0 (wx.heap[w1.heap.size]? = some (.cells #[.int .i64 p, .int .i64 c] 45 (0, 0))) ∧ j ≤ n ∧ n - j < gk)
    case atStart => exact ⟨0, rfl, by go_num, HB, HC1, BK, by omega, by omega⟩
    case round =>
      clear HB HC1 BK
      obtain ⟨j, rfl, rfl, HB, HC1, BK, hj, hg⟩ := hrel
      cases gk with
      | zero => omega
      | succ kj =>
        have hzj := spaces_size j
        by_cases cj : j < n
        · have dj := decide_eq_true (p := (j : Int) < (n : Int)) (by omega)
          have dj2 := decide_eq_true (p := j < n) cj
          have hsn := spaces_snoc j
          obtain ⟨S, hS⟩ : ∃ S, spaces j = S := ⟨_, rfl⟩
          rw [hS] at hzj hsn ⊢
          have HSN := Aside0.mk hsn
          have bS : S.size + 1 ≤ 9223372036854775807 := by omega
          clear hzj hsn hS
          go_wp2_with fail
          go_roundg kj
          case measure => omega
          case rel => exact ⟨j + 1, by rw [HSN.out], by go_num, HB, HC1, BK, by omega, by omega⟩
        · have dj := decide_eq_false (p := (j : Int) < (n : Int)) (by omega)
          have dj2 := decide_eq_false (p := j < n) cj
          obtain rfl : j = n := by omega
          obtain ⟨S, hS⟩ : ∃ S, spaces j = S := ⟨_, rfl⟩
          rw [hS] at K2 hzj ⊢
          have bS : S.size + s.size ≤ 9223372036854775807 := by omega
          clear hzj hS
          go_wp2_with fail
          refine (K2.out _ (HT.out.below HB.out)).mono ?_
          rintro e w2 ⟨A2, q2, rfl, hq2, hC2, hb⟩
          have BKn := Aside0.mk (blk_alloc (blk_below BK.out hb) (.cells #[.int .i64 p', .int .i64 c] 45 (0, 0)))
          have HCn := Aside0.mk (Kd.C_below HC1.out (below_alloc hb (.cells #[.int .i64 p', .int .i64 c] 45 (0, 0))))
          have HBn := Aside0.mk (below_alloc (below_step HB.out hb) (.cells #[.int .i64 p', .int .i64 c] 45 (0, 0)))
          have HC2 := Aside0.mk (Kd.C_below hC2 (below_alloc (Below.refl _ _) (.cells #[.int .i64 p', .int .i64 c] 45 (0, 0))))
          clear hb hC2 BK HC1 HB
          have f0 := (blk_cell BKn.out 0).trans (show _ = some (.int .i64 p) from rfl)
          have f1 := (blk_cell BKn.out 1).trans (show _ = some (.int .i64 c) from rfl)
          by_cases c40 : c = 40
          · have b40 : (c == 40) = true := by simpa using c40
            have bpp := BPP.out c40
            have wpp := WPP.out c40
            clear c40
            go_wp2_with fail
            refine (FIN.out _ HBn.out).mono ?_
            rintro e w3 ⟨rfl, hb⟩
            have BKm := Aside0.mk (blk_below BKn.out hb)
            have HBm := Aside0.mk (below_step HBn.out hb)
            clear f0 f1 hb
            have f1 := (blk_cell BKm.out 1).trans (show _ = some (.int .i64 c) from rfl)
            go_wp2_with fail
            go_ret
            exact ⟨rfl, HBm.out⟩
          · have b40 : (c == 40) = false := by simpa using c40
            clear c40
            go_wp2_with fail
            refine (FIN.out _ HBn.out).mono ?_
            rintro e w3 ⟨rfl, hb⟩
            have BKm := Aside0.mk (blk_below BKn.out hb)
            have HBm := Aside0.mk (below_step HBn.out hb)
            clear f0 f1 hb
            have f1 := (blk_cell BKm.out 1).trans (show _ = some (.int .i64 c) from rfl)
            go_wp2_with fail
            go_ret
            exact ⟨rfl, HBm.out⟩
theorem tokenPlaces_row (s : ByteArray) (bl : Int) (w : World) (_h : (Lit.int .i64 bl).wf = true) (hT : TabsT w) :
    Calls Tryd.prog 9 #[.string s, .int .i64 bl] w fun e w' => e = .returned (.bool true) ∧ Below w.heap.size w w' := tokenPlaces_walk s bl w hT
end Go.Proofs.YtoclbmepgeelmaaDoor.Utf
