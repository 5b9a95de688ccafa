import Derived.Test.YtepjcgcobaaphaaRf10
import Derived.Test.YtepjcgcobaaphaaPm5
namespace Go.Proofs.Ytepjcgcobaaphaa.Nd
set_option linter.unusedVariables false
set_option linter.unusedSimpArgs false
open Go.RowKit Go.Lib Go.Proofs.YtepjcgcobaaphaaW.PrintWords Go.Proofs.YtepjcgcobaaphaaW.PrintLast Go.Proofs.YtepjcgcobaaphaaW.PrintMore Go.Proofs.Ytepjcgcobaaphaa.PPa
open Go.Proofs.Ytepjcgcobaaphaa.Pl (S29 k29 rd29 rd29_mem cnt cntL cells5 bcell EqualC letT letT_take cnt_take cntL_small small_walk great_walk at36 at45 rd45 steps_walk stepsP stepsP_len allParts allParts_cnt equalP_some steps_ok)

theorem info31 : (Try.prog.info? 31).map (fun i => (i.zero, i.size, i.bytes)) = some (some (.agg #[(.int .i64 0), (.int .i64 0), (.slice none 0 0), (.slice none 0 0), (.bool false)]), 5, 72) := by kernel_rfl
theorem C_unfix {α : Type} {d : Kd α} {w0 W : World} {A : Option Addr} {n : Nat} {xs : List α} (h : (Kd.fixed d w0).C W A n xs) (hb : Below w0.heap.size w0 W) : d.C W A n xs :=
  ReadsRow.imp_ h (Below.refl _ _) (fun _ _ hp => d.K_below hb hp)
theorem kS_open {w0 w : World} {x : Int × Int × List S38} {cs : List Value} (h : (kS w0).K w x cs) : ∃ A c, cs = [.int .i64 x.1, .int .i64 x.2.1, .slice A x.2.2.length c] ∧ x.2.2.length ≤ c ∧ Kd.C (Kd.fixed k38 w0) w A x.2.2.length x.2.2 := by
  obtain ⟨_, _, rfl, rfl, ⟨_, _, rfl, rfl, ⟨A, c, rfl, l, g⟩⟩⟩ := h
  exact ⟨A, c, rfl, l, g⟩
def rd47 (xs : List (Int × Int × List S38)) (i : Int) : Int × Int × List S38 := xs.getD i.toNat (0, 0, [])
theorem at47 {w0 W V : World} {A : Option Addr} {n : Nat} {xs : List (Int × Int × List S38)} (h : Kd.C (kS w0) W A n xs) (hb : Below W.heap.size W V) (i : Int) (h0 : 0 ≤ i) (h1 : i < n) :
    ∃ ad An cn, A = some ad ∧ V.cell? (ad.add (i.toNat * 3)) = some (.int .i64 (rd47 xs i).1) ∧ V.cell? ⟨(ad.add (i.toNat * 3)).block, (ad.add (i.toNat * 3)).off + 1, none⟩ = some (.int .i64 (rd47 xs i).2.1) ∧ V.cell? ⟨(ad.add (i.toNat * 3)).block, (ad.add (i.toNat * 3)).off + 2, none⟩ = some (.slice An (rd47 xs i).2.2.length cn) ∧ (rd47 xs i).2.2.length ≤ cn ∧ Kd.C (Kd.fixed k38 w0) W An (rd47 xs i).2.2.length (rd47 xs i).2.2 := by
  obtain ⟨ad, c, e, _, hK, hc0⟩ := Kd.C_get h (0, 0, []) i h0 h1
  have hc : ∀ j u, c[j]? = some u → W.cell? (ad.add (i.toNat * 3 + j)) = some u := hc0
  obtain ⟨An, cn, rfl, l, g⟩ := kS_open hK
  exact ⟨ad, An, cn, e, bcell hb (hc 0 _ rfl), by rw [← add_field _ _ 1 (by omega)]; exact bcell hb (hc 1 _ rfl), by rw [← add_field _ _ 2 (by omega)]; exact bcell hb (hc 2 _ rfl), l, g⟩
theorem rd_conv (S : List (Int × Int × List S36)) (i : Nat) (h : i < S.length) : rd47 (S.map conv) (i : Int) = conv (rd45 S (i : Int)) := by
  unfold rd47 rd45
  simp [List.getD_eq_getElem?_getD, List.getElem?_map, List.getElem?_eq_getElem h]
theorem take_succ29 (T : List S29) (i : Nat) (h : i < T.length) : T.take (i + 1) = T.take i ++ [rd29 T (i : Int)] := by
  rw [List.take_succ_eq_append_getElem h]
  unfold rd29
  rw [Int.toNat_natCast, List.getD_eq_getElem?_getD, List.getElem?_eq_getElem h]
  rfl
theorem node_M (w : World) (base : Nat) (ok : Nat → Prop) (x : S36) {v : Value} (g7 : Kd.R k38 38 w base ok v (nodeR x).f5) : k38.M w base ok (nodeR x) [.int .i64 x.f0, .string x.f1, .int .u8 x.f2.f0, .int .i64 x.f2.f1, .string x.f2.f2, .int .i64 x.f3, .int .u8 x.f4, v] := by
  have h := k38_mkM w base ok (nodeR x) g7
  rw [nodeR_eq] at h ⊢
  exact h
theorem cntL_nodes (C : List S36) : Rf.cntL (C.map nodeR) = cntL C := by rw [← nodeRL_map]; exact cntL_nodeRL C
set_option maxHeartbeats 8000000 in
set_option maxRecDepth 100000 in
theorem planSteps_walk (HAl : ∀ w : World, Calls Try.prog 5 #[] w fun e w' => e = .returned (.bool true) ∧ Below w.heap.size w w') (HEq : EqualC) (T : List S29) (AT : Option Addr) (cT : Nat) (C : List S36) (AC : Option Addr) (cC : Nat) (w : World)
    (hT : Kd.C k29 w AT T.length T) (hC : Kd.C k36 w AC C.length C) (lT : T.length < 9223372036854775808) (lC : C.length < 9223372036854775808) :
    Calls Try.prog 3 #[.slice AT T.length cT, .slice AC C.length cC] w fun e w' => e = .returned (.bool true) ∧ Below w.heap.size w w' := by
  have HA := Aside0.mk HAl
  have HE := Aside0.mk HEq
  have HT := Aside0.mk hT
  have HC := Aside0.mk hC
  clear HAl HEq hT hC
  by_cases t6 : 6 < T.length
  · have d1 : decide ((6 : Int) < (T.length : Int)) = true := decide_eq_true (by omega)
    go_enter Try.func3, Try.ntmps3
    go_wp2_with fail
    refine (HA.out _).mono ?_
    rintro e w' ⟨rfl, hb⟩
    have HB := Aside0.mk hb
    clear hb
    go_wp2
    go_ret
    exact ⟨rfl, HB.out⟩
  have d1 : decide ((6 : Int) < (T.length : Int)) = false := decide_eq_false (by omega)
  by_cases c6 : 6 < C.length
  · have d2 : decide ((6 : Int) < (C.length : Int)) = true := decide_eq_true (by omega)
    go_enter Try.func3, Try.ntmps3
    go_wp2_with fail
    refine (HA.out _).mono ?_
    rintro e w' ⟨rfl, hb⟩
    have HB := Aside0.mk hb
    clear hb
    go_wp2
    go_ret
    exact ⟨rfl, HB.out⟩
  have d2 : decide ((6 : Int) < (C.length : Int)) = false := decide_eq_false (by omega)
  go_enter Try.func3, Try.ntmps3
  go_wp2
  go_loopg [5, 7] T.length (fun gg s5 s7 wr => ∃ (kk : Nat) (vv : Value), kk ≤ T.length ∧ T.length - kk ≤ gg ∧ s5 = vv ∧ s7 = .int .i64 kk ∧ Aside0 (Below w.heap.size w wr) ∧ Aside0 (∀ t ∈ T.take kk, letT t) ∧ Aside0 (Kd.R (Kd.fixed k29 w) 31 wr w.heap.size (fun _ => True) vv (T.take kk)))
  case atStart => exact ⟨0, .slice none 0 0, Nat.zero_le _, by omega, rfl, rfl, ⟨Below.refl _ _⟩, ⟨fun t ht => by simp at ht⟩, ⟨Kd.R_nil _ _ _ _ _⟩⟩
  case round =>
    obtain ⟨kk, vv, hkk, hg, rfl, rfl, HB, HL, HR⟩ := hrel
    obtain ⟨vA, vc, rfl⟩ := Kd.R_slice HR.out
    by_cases hlt : kk < T.length
    · have hltz : (kk : Int) < (T.length : Int) := by omega
      obtain ⟨ad, A2, c2, A3, c3, hA, h0, h1, h2, h3, h4, g2, g3, q2, q3⟩ := at29L HT.out HB.out (kk : Int) (by omega) hltz
      rw [Int.toNat_natCast] at h0 h1 h2 h3 h4
      subst hA
      have hlt2 := fun hx => letT_take hlt HL.out hx
      have htk := take_succ29 T kk hlt
      have htl : (T.take kk).length ≤ 1000 := by rw [List.length_take]; omega
      obtain ⟨TT, hTT⟩ : ∃ TT, TT = T.take kk := ⟨_, rfl⟩
      rw [← hTT] at HR htk htl ⊢
      clear hTT
      obtain ⟨x, hx⟩ : ∃ x, x = rd29 T kk := ⟨_, rfl⟩
      rw [← hx] at h0 h1 h2 h3 h4 hlt2 g2 g3 q2 q3 htk
      have HX := Aside0.mk hg
      have HLT := Aside0.mk hlt
      have HL2 := Aside0.mk hlt2
      have HTK := Aside0.mk htk
      have HTL := Aside0.mk htl
      have HKx := Aside0.mk (Pl.k29_mk w x q2 g2 q3 g3)
      obtain ⟨W1, hW1⟩ : ∃ W, W = wr := ⟨_, rfl⟩
      subst hW1
      clear hx hlt hg hkk g2 g3 q2 q3 hlt2 htk htl
      go_upto_region 9 with (fail)
      generalize hWx : W1.alloc (.cells #[.int .i64 x.f0, .int .i64 x.f1, .slice A2 x.f2.length c2, .slice A3 x.f3.length c3, .bool x.f4] 29) = Wx
      obtain ⟨gx, hgx⟩ : ∃ g, g = W1.heap.size := ⟨_, rfl⟩
      rw [← hgx]
      have hbx : Wx.heap[gx]? = some (.cells #[.int .i64 x.f0, .int .i64 x.f1, .slice A2 x.f2.length c2, .slice A3 x.f3.length c3, .bool x.f4] 29 (0, 0)) := by rw [← hWx, hgx]; exact blk_new _ _
      have HBw : Aside0 (Below w.heap.size w Wx) := ⟨by rw [← hWx]; exact below_alloc HB.out _⟩
      have HR1 : Aside0 (Kd.R (Kd.fixed k29 w) 31 Wx w.heap.size (fun _ => True) (.slice vA TT.length vc) TT) := ⟨by rw [← hWx]; exact Kd.R_below HR.out (below_alloc (Below.refl _ _) _)⟩
      obtain ⟨t0, t1, t2, t3, t4⟩ := cells5 hbx
      have HBX := Aside0.mk hbx
      clear hWx hgx hbx h0 h1 h2 h3 h4 HB HR
      by_cases k1 : 20 < x.f2.length
      · have d3 : decide ((20 : Int) < (x.f2.length : Int)) = true := decide_eq_true (by omega)
        clear k1
        go_wp2_with fail
        refine (HA.out _).mono ?_
        rintro e w' ⟨rfl, hb⟩
        have HBb := Aside0.mk (below_step HBw.out hb)
        clear hb
        go_wp2
        go_ret
        exact ⟨rfl, HBb.out⟩
      have d3 : decide ((20 : Int) < (x.f2.length : Int)) = false := decide_eq_false (by omega)
      by_cases k2 : 20 < x.f3.length
      · have d4 : decide ((20 : Int) < (x.f3.length : Int)) = true := decide_eq_true (by omega)
        clear k1 k2
        go_wp2_with fail
        refine (HA.out _).mono ?_
        rintro e w' ⟨rfl, hb⟩
        have HBb := Aside0.mk (below_step HBw.out hb)
        clear hb
        go_wp2
        go_ret
        exact ⟨rfl, HBb.out⟩
      have d4 : decide ((20 : Int) < (x.f3.length : Int)) = false := decide_eq_false (by omega)
      have KS0 := Aside0.mk (fun V => small_walk x.f0 V)
      have KS1 := Aside0.mk (fun V => small_walk x.f1 V)
      have HK := Aside0.mk (And.intro k1 k2)
      clear k1 k2
      cases m0 : (decide (-10000 < x.f0) && decide (x.f0 < 10000)) with
      | false =>
        simp only [m0] at KS0
        clear m0
        go_wp2_with fail
        refine (KS0.out _).mono ?_
        rintro e V1 ⟨rfl, hb1⟩
        have hbx := blk_below HBX.out hb1
        have HBw1 := Aside0.mk (below_step HBw.out hb1)
        have HR2 := Aside0.mk (Kd.R_below HR1.out hb1)
        clear t0 t1 t2 t3 t4 HBX HBw HR1 hb1
        obtain ⟨t0, t1, t2, t3, t4⟩ := cells5 hbx
        have HBX := Aside0.mk hbx
        have HBw := HBw1
        have HR1 := HR2
        clear hbx HBw1 HR2
        go_wp2_with fail
        refine (HA.out _).mono ?_
        rintro e w' ⟨rfl, hb⟩
        have HBb := Aside0.mk (below_step HBw.out hb)
        clear hb
        go_wp2
        go_ret
        exact ⟨rfl, HBb.out⟩
      | true =>
        have M0 := Aside0.mk m0
        simp only [m0] at KS0
        clear m0
        cases m1 : (decide (-10000 < x.f1) && decide (x.f1 < 10000)) with
        | false =>
          simp only [m1] at KS1
          clear m1
          go_wp2_with fail
          refine (KS0.out _).mono ?_
          rintro e V1 ⟨rfl, hb1⟩
          have hbx := blk_below HBX.out hb1
          have HBw1 := Aside0.mk (below_step HBw.out hb1)
          have HR2 := Aside0.mk (Kd.R_below HR1.out hb1)
          clear t0 t1 t2 t3 t4 HBX HBw HR1 hb1
          obtain ⟨t0, t1, t2, t3, t4⟩ := cells5 hbx
          have HBX := Aside0.mk hbx
          have HBw := HBw1
          have HR1 := HR2
          clear hbx HBw1 HR2
          go_wp2_with fail
          refine (KS1.out _).mono ?_
          rintro e V1 ⟨rfl, hb1⟩
          have hbx := blk_below HBX.out hb1
          have HBw1 := Aside0.mk (below_step HBw.out hb1)
          have HR2 := Aside0.mk (Kd.R_below HR1.out hb1)
          clear t0 t1 t2 t3 t4 HBX HBw HR1 hb1
          obtain ⟨t0, t1, t2, t3, t4⟩ := cells5 hbx
          have HBX := Aside0.mk hbx
          have HBw := HBw1
          have HR1 := HR2
          clear hbx HBw1 HR2
          go_wp2_with fail
          refine (HA.out _).mono ?_
          rintro e w' ⟨rfl, hb⟩
          have HBb := Aside0.mk (below_step HBw.out hb)
          clear hb
          go_wp2
          go_ret
          exact ⟨rfl, HBb.out⟩
        | true =>
          have M1 := Aside0.mk m1
          simp only [m1] at KS1
          clear m1
          go_wp2_with fail
          refine (KS0.out _).mono ?_
          rintro e V1 ⟨rfl, hb1⟩
          have hbx := blk_below HBX.out hb1
          have HBw1 := Aside0.mk (below_step HBw.out hb1)
          have HR2 := Aside0.mk (Kd.R_below HR1.out hb1)
          clear t0 t1 t2 t3 t4 HBX HBw HR1 hb1
          obtain ⟨t0, t1, t2, t3, t4⟩ := cells5 hbx
          have HBX := Aside0.mk hbx
          have HBw := HBw1
          have HR1 := HR2
          clear hbx HBw1 HR2
          go_wp2_with fail
          refine (KS1.out _).mono ?_
          rintro e V1 ⟨rfl, hb1⟩
          have hbx := blk_below HBX.out hb1
          have HBw1 := Aside0.mk (below_step HBw.out hb1)
          have HR2 := Aside0.mk (Kd.R_below HR1.out hb1)
          clear t0 t1 t2 t3 t4 HBX HBw HR1 hb1
          obtain ⟨t0, t1, t2, t3, t4⟩ := cells5 hbx
          have HBX := Aside0.mk hbx
          have HBw := HBw1
          have HR1 := HR2
          clear hbx HBw1 HR2
          go_wp2_with (at_builtin; refine Kd.R_append (Kd.fixed k29 w) (w0 := w) w.heap.size ?a1 (.tmp 55) (.tmp 67) 25 31 (.agg #[(.int .i64 0), (.int .i64 0), (.slice none 0 0), (.slice none 0 0), (.bool false)]) 72 ?a2 Try.underlying25 info31 ?a3 ?a4 ?a5 _ TT x [.int .i64 x.f0, .int .i64 x.f1, .slice A2 x.f2.length c2, .slice A3 x.f3.length c3, .bool x.f4] (fun _ => True) (fun _ => False) ?a6 ?a7 ?aP (fun _ hk => hk.elim) (fun _ _ => trivial) HR1.out ?aB ?aS ?aL ?_; (case a1 => rfl); (case a2 => rfl); (case a3 => rfl); (case a4 => show 0 < 5; omega); (case a5 => omega); (case a6 => rfl); (case a7 => rfl); (case aP => exact HKx.out); (case aB => exact HBw.out); (case aS => exact HBw.out.size); (case aL => have := HTL.out; omega); intro v1 w1 ho hb1 hg1 hat1; obtain ⟨A1, c1, rfl⟩ := Kd.R_slice ho; have HO := Aside0.mk ho; have HB1 := Aside0.mk hb1; clear ho; clear hb1; clear hat1; clear hg1)
          go_roundg (T.length - (kk + 1))
          case measure => have := HX.out; have := HLT.out; omega
          case rel =>
            refine ⟨kk + 1, _, HLT.out, by omega, rfl, by go_num, HB1, ⟨HL2.out ?_⟩, ⟨by rw [HTK.out]; have := HO.out; rw [List.length_append] at this; exact this⟩⟩
            have q0 := M0.out
            have q1 := M1.out
            have q2 := HK.out
            simp only [Bool.and_eq_true, decide_eq_true_eq] at q0 q1
            exact ⟨by omega, by omega, q0, q1⟩
    · have hltz : ¬ (kk : Int) < (T.length : Int) := by omega
      have hkl : kk = T.length := by omega
      subst hkl
      rw [List.take_length] at HL HR
      rw [List.take_length]
      have HLT := HL
      obtain ⟨W1, hW1⟩ : ∃ W, W = wr := ⟨_, rfl⟩
      subst hW1
      clear hkk hg hlt HL
      go_wp2
      go_loopg [6, 9] C.length (fun gg s6 s9 wq => ∃ (kk : Nat) (vv : Value), kk ≤ C.length ∧ C.length - kk ≤ gg ∧ s6 = vv ∧ s9 = .int .i64 kk ∧ Aside0 (Below W1.heap.size W1 wq) ∧ Aside0 (∀ x ∈ C.take kk, cnt x ≤ 200) ∧ Aside0 (Kd.R k38 38 wq W1.heap.size (fun _ => True) vv ((C.take kk).map nodeR)))
      case atStart => exact ⟨0, .slice none 0 0, Nat.zero_le _, by omega, rfl, rfl, ⟨Below.refl _ _⟩, ⟨fun t ht => by simp at ht⟩, ⟨Kd.R_nil _ _ _ _ _⟩⟩
      case round =>
        obtain ⟨kk, vv, hkk, hg, rfl, rfl, HBq, HLq, HRq⟩ := hrel
        obtain ⟨vB, vd, rfl⟩ := Kd.R_slice HRq.out
        have HBW : Aside0 (Below w.heap.size w wr) := ⟨below_then HB.out HB.out.size HBq.out⟩
        by_cases hlt : kk < C.length
        · have hltz2 : (kk : Int) < (C.length : Int) := by omega
          obtain ⟨ad, A7, c7, hA, h0, h1, h2, h3, h4, h5, h6, h7, hl7, hC7⟩ := at36 HC.out HBW.out (kk : Int) (by omega) hltz2
          rw [Int.toNat_natCast] at h0 h1 h2 h3 h4 h5 h6 h7
          subst hA
          have hlt2 := fun hx => cnt_take hlt HLq.out hx
          have htk : (C.take (kk + 1)).map nodeR = (C.take kk).map nodeR ++ [nodeR (rd_T36 C kk)] := by rw [Pl.take_succ36 C kk hlt, List.map_append]; rfl
          have htl : ((C.take kk).map nodeR).length ≤ 1000 := by rw [List.length_map, List.length_take]; omega
          obtain ⟨b, hb1, hb2⟩ := great_walk (rd_T36 C kk)
          have hgr := hb2 A7 c7 wr hl7 (Kd.C_below hC7 HBW.out)
          have hnd := fun (V : World) (hV : Below wr.heap.size wr V) (hx : Pl.cnt (rd_T36 C kk) ≤ 100000000000) => node_walk (rd_T36 C kk) A7 c7 V hx hl7 (Kd.C_below hC7 (below_then HBW.out HBW.out.size hV))
          obtain ⟨CC, hCC⟩ : ∃ CC, CC = (C.take kk).map nodeR := ⟨_, rfl⟩
          rw [← hCC] at HRq htk htl ⊢
          obtain ⟨x, hx⟩ : ∃ x, x = rd_T36 C kk := ⟨_, rfl⟩
          rw [← hx] at h0 h1 h2 h3 h4 h5 h6 h7 hlt2 hgr hb1 htk
          simp only [← hx] at hnd
          have HX := Aside0.mk hg
          have HLT2 := Aside0.mk hlt
          have HL2 := Aside0.mk hlt2
          have HB1 := Aside0.mk hb1
          have HGR := Aside0.mk hgr
          have HND := Aside0.mk hnd
          have HTK := Aside0.mk htk
          have HTL := Aside0.mk htl
          clear hx hlt hg hkk hl7 hC7 hb2 hgr hb1 hlt2 hnd htk htl hCC
          cases b with
          | true =>
            go_wp2_with fail
            refine HGR.out.mono ?_
            rintro e w1 ⟨rfl, hb1⟩
            have HBa := Aside0.mk (below_step HBW.out hb1)
            clear hb1
            go_wp2_with fail
            refine (HA.out _).mono ?_
            rintro e w' ⟨rfl, hb⟩
            have HBb := Aside0.mk (below_step HBa.out hb)
            clear hb
            go_wp2
            go_ret
            exact ⟨rfl, HBb.out⟩
          | false =>
            have HCN : Aside0 (cnt x ≤ 200) := ⟨HB1.out rfl⟩
            go_wp2_with fail
            refine HGR.out.mono ?_
            rintro e w1 ⟨rfl, hb1⟩
            have g0 := bcell hb1 h0
            have g1 := bcell hb1 h1
            have g2 := bcell hb1 h2
            have g3 := bcell hb1 h3
            have g4 := bcell hb1 h4
            have g5 := bcell hb1 h5
            have g6 := bcell hb1 h6
            have g7 := bcell hb1 h7
            have HBa := Aside0.mk hb1
            clear hb1 h0 h1 h2 h3 h4 h5 h6 h7
            go_wp2_with fail
            refine (HND.out _ HBa.out (by have := HCN.out; omega)).mono ?_
            rintro e V2 ⟨v, rfl, hrn, hb⟩
            obtain ⟨inn, hown⟩ := Kd.R_own (Kd.R_below HRq.out HBa.out)
            have hnew := Kd.R_new hrn hown
            obtain ⟨vA2, vc2, rfl⟩ := Kd.R_slice hrn
            have HB2 : Aside0 (Below W1.heap.size W1 V2) := ⟨below_step (below_step HBq.out HBa.out) hb⟩
            have HPm := Aside0.mk (node_M V2 W1.heap.size _ x (Kd.R_lower hnew (Nat.le_trans HBq.out.size HBa.out.size)))
            have HRV := Aside0.mk (Kd.R_below (Kd.R_below HRq.out HBa.out) hb)
            clear hrn hb hown hnew g0 g1 g2 g3 g4 g5 g6 g7
            obtain ⟨ln, hln⟩ : ∃ n, n = (nodeR x).f5.length := ⟨_, rfl⟩
            rw [← hln] at HPm ⊢
            clear hln
            go_wp2_with (at_builtin; refine Kd.R_append k38 (w0 := W1) W1.heap.size ?a1 (.tmp 81) (.tmp 87) 26 38 (.agg #[(.int .i64 0), (.string ⟨#[]⟩), (.int .u8 0), (.int .i64 0), (.string ⟨#[]⟩), (.int .i64 0), (.int .u8 0), (.slice none 0 0)]) 96 ?a2 Try.underlying26 info38y ?a3 ?a4 ?a5 _ CC (nodeR x) [.int .i64 x.f0, .string x.f1, .int .u8 x.f2.f0, .int .i64 x.f2.f1, .string x.f2.f2, .int .i64 x.f3, .int .u8 x.f4, .slice vA2 ln vc2] (fun _ => True) _ ?a6 ?a7 HPm.out (fun k hk => hk) (fun _ _ => trivial) HRV.out HB2.out HB2.out.size ?aL ?_; (case a1 => rfl); (case a2 => rfl); (case a3 => rfl); (case a4 => show 0 < 8; omega); (case a5 => omega); (case a6 => rfl); (case a7 => rfl); (case aL => have := HTL.out; omega); intro v1 w2 ho hb1 hg1 hat1; obtain ⟨A1, c1, rfl⟩ := Kd.R_slice ho; have HO := Aside0.mk ho; have HB3 := Aside0.mk hb1; clear ho; clear hb1; clear hat1; clear hg1)
            go_roundg (C.length - (kk + 1))
            case measure => have := HX.out; have := HLT2.out; omega
            case rel => exact ⟨kk + 1, _, HLT2.out, by omega, rfl, by go_num, HB3, ⟨HL2.out HCN.out⟩, ⟨by rw [HTK.out]; have := HO.out; rw [List.length_append] at this; exact this⟩⟩
        · have hltz2 : ¬ (kk : Int) < (C.length : Int) := by omega
          have hkl : kk = C.length := by omega
          subst hkl
          have hLC := HLq.out
          rw [List.take_length] at hLC HRq
          rw [List.take_length]
          have hcL := cntL_small hLC
          have hcL2 : cntL C ≤ 1200 := by omega
          have hst := steps_walk HE.out T AT cT C AC cC wr (Kd.C_below HT.out HBW.out) (Kd.C_below HC.out HBW.out) (by omega) (by omega) (fun t ht => ⟨by have := (HLT.out t ht).1; omega, by have := (HLT.out t ht).2.1; omega, (HLT.out t ht).2.2.1, (HLT.out t ht).2.2.2.2⟩) (by omega)
          have hpc : Rf.cntL (allPartsR (C.map nodeR)) ≤ 1200 := Nat.le_trans (allPartsR_cnt _) (by rw [cntL_nodes]; exact hcL2)
          have hst2 := fun (V : World) (vA vB : Option Addr) (vc vd : Nat) (h1 : Kd.C k29 V vA T.length T) (h2 : Kd.C k38 V vB (C.map nodeR).length (C.map nodeR)) => stepsR_walk T vA vc (C.map nodeR) vB vd V (stepRC V T _ (fun A c hc => eqRC _ A c V (fun x hx => Nat.le_trans (Rf.cntL_mem hx) (by omega)) (Nat.lt_of_le_of_lt (Rf.len_cntL _) (by omega)) hc) (fun t ht => ⟨by have := (HLT.out t ht).1; omega, by have := (HLT.out t ht).2.1; omega, (HLT.out t ht).2.2.1, (HLT.out t ht).2.2.2.2⟩)) h1 h2 (by omega) (by rw [List.length_map]; omega) (by rw [cntL_nodes]; omega)
          rw [steps_conv] at hst2
          have hsl := stepsP_len T C
          have hok := fun i h => steps_ok T C i h
          obtain ⟨S, hS⟩ : ∃ S, S = stepsP T C := ⟨_, rfl⟩
          rw [← hS] at hst hsl
          simp only [← hS] at hok hst2
          obtain ⟨CN, hCN⟩ : ∃ CN, CN = C.map nodeR := ⟨_, rfl⟩
          simp only [← hCN] at hst2
          rw [← hCN] at HRq ⊢
          have HST := Aside0.mk hst
          have HST2 := Aside0.mk hst2
          have HOK := Aside0.mk hok
          have HCL := Aside0.mk hcL2
          have HSL := Aside0.mk hsl
          have HRT := Aside0.mk (Kd.R_below HR.out HBq.out)
          clear hst hok hS hLC hcL hcL2 hst2 hpc hsl hkk hg hlt HR HLq hCN
          go_wp2_with fail
          refine HST.out.mono ?_
          rintro e W7 ⟨v7, rfl, hR7, hb7⟩
          obtain ⟨A7, c7, rfl, hl7, hC7⟩ := Kd.R_reads hR7
          have HC7 := Aside0.mk hC7
          have HB7 := Aside0.mk (below_step HBW.out hb7)
          obtain ⟨vA8, vc8, hv8, hl8, hC8⟩ := Kd.R_reads (Kd.R_below HRT.out hb7)
          obtain ⟨vA9, vc9, hv9, hl9, hC9⟩ := Kd.R_reads (Kd.R_below HRq.out hb7)
          injection hv8 with e81 e82 e83
          injection hv9 with e91 e92 e93
          subst e81 e83 e91 e93
          have HS2 := Aside0.mk (HST2.out W7 _ _ vc vd (C_unfix hC8 HB7.out) hC9)
          have HW7 := Aside0.mk hb7
          clear hR7 hb7 hl7 hC7 hC8 hC9 hl8 hl9 HST2
          go_wp2_with fail
          refine HS2.out.mono ?_
          rintro e W9 ⟨v9, rfl, hR9, hb9⟩
          obtain ⟨A9, c9, rfl, hl9, hC9⟩ := Kd.R_reads hR9
          have HC9 := Aside0.mk hC9
          have HB9 := Aside0.mk hb9
          have HBW9 := Aside0.mk (below_step HB7.out hb9)
          have hsr : (S.map conv).length = S.length := List.length_map _
          rw [hsr] at HC9 ⊢
          have hsz : ((S.length : Int) != (S.length : Int)) = false := by simp
          clear hR9 hb9 hl9 hC9 hsr
          have hs6 : S.length ≤ 6 := by have := HSL.out; omega
          go_wp2_with fail
          go_loopg [12] S.length (fun gg s12 wq => ∃ kk : Nat, kk ≤ S.length ∧ S.length - kk ≤ gg ∧ s12 = .int .i64 kk ∧ Aside0 (Below W9.heap.size W9 wq))
          case atStart => exact ⟨0, Nat.zero_le _, by omega, rfl, ⟨Below.refl _ _⟩⟩
          case round =>
            obtain ⟨kk, hkk, hg, rfl, HQ⟩ := hrel
            by_cases hlt : kk < S.length
            · have hltT : kk < T.length := by have := HSL.out; omega
              have hltz3 : (kk : Int) < (S.length : Int) := by omega
              have HB79 : Aside0 (Below W7.heap.size W7 wr) := ⟨below_step HB9.out HQ.out⟩
              obtain ⟨ad, An, cn, hA, y0, y1, y2, hln, hCn⟩ := at45 HC7.out HB79.out (kk : Int) (by omega) hltz3
              obtain ⟨ae, Am, cm, hA2, z0, z1, z2, hlm, hCm⟩ := at47 HC9.out HQ.out (kk : Int) (by omega) hltz3
              rw [Int.toNat_natCast] at y0 y1 y2 z0 z1 z2
              rw [rd_conv S kk hlt] at z0 z1 z2 hlm hCm
              subst hA hA2
              have hok1 := HOK.out kk hltT
              have hLt := HLT.out _ (rd29_mem T kk hltT)
              obtain ⟨s, hs⟩ : ∃ s, s = rd45 S kk := ⟨_, rfl⟩
              rw [← hs] at y0 y1 y2 hln hCn hok1 z0 z1 z2 hlm hCm
              simp only [conv, List.length_map] at z0 z1 z2 hlm hCm
              have hl20 : s.2.2.length ≤ 1000 := by rcases hok1.2 with ⟨_, e2⟩ | ⟨_, e2⟩ | ⟨_, e2⟩ <;> have := hLt.1 <;> omega
              have hns : ∀ (V : World), Below wr.heap.size wr V → Calls Try.prog 11 #[.slice An s.2.2.length cn, .slice Am s.2.2.length cm] V fun e w' => e = .returned (.bool true) ∧ Below V.heap.size V w' := by
                intro V hV
                have hq := nodes_walk s.2.2 An cn Am cm V (fun x hx => Nat.le_trans (hok1.1 x hx).2 (by have := HCL.out; omega)) (by omega) (Kd.C_below (C_unfix hCn HW7.out) (below_step HB79.out hV)) hln (by rw [List.length_map]; exact Kd.C_below (C_unfix hCm HB9.out) (below_step HQ.out hV)) (by rw [List.length_map]; exact hlm)
                rw [List.length_map] at hq
                exact hq
              have HNS := Aside0.mk hns
              have HX := Aside0.mk hg
              have HLT2 := Aside0.mk hlt
              have n1 : (s.1 != s.1) = false := by simp
              have n2 : (s.2.1 != s.2.1) = false := by simp
              have HY := Aside0.mk (And.intro y0 (And.intro y1 (And.intro y2 (And.intro z0 (And.intro z1 z2)))))
              obtain ⟨W8, hW8⟩ : ∃ W, W = wr := ⟨_, rfl⟩
              subst hW8
              clear hs hlt hltT hg hkk hln hCn hok1 hLt hlm hCm hns hl20
              go_upto_region 24 with (fail)
              go_region_held3 (fun w' => w'.cell? (ad.add (kk * 3)) = some (.int .i64 s.1) ∧ w'.cell? ⟨(ad.add (kk * 3)).block, (ad.add (kk * 3)).off + 1, none⟩ = some (.int .i64 s.2.1) ∧ w'.cell? ⟨(ad.add (kk * 3)).block, (ad.add (kk * 3)).off + 2, none⟩ = some (.slice An s.2.2.length cn) ∧ w'.cell? (ae.add (kk * 3)) = some (.int .i64 s.1) ∧ w'.cell? ⟨(ae.add (kk * 3)).block, (ae.add (kk * 3)).off + 1, none⟩ = some (.int .i64 s.2.1) ∧ w'.cell? ⟨(ae.add (kk * 3)).block, (ae.add (kk * 3)).off + 2, none⟩ = some (.slice Am s.2.2.length cm)) (first | go_keep | exact ⟨k0, k1, k2, k3, k4, k5⟩) ((go_at_call 11; refine (HNS.out _ (by with_reducible exact below_drew1 (Below.refl _ _))).mono ?_; rintro e V ⟨rfl, hb⟩; have hbw : Below W8.heap.size W8 V := (by exact below_then (below_drew1 (Below.refl _ _)) (Nat.le_refl _) hb); have k0 := bcell hbw HY.out.1; have k1 := bcell hbw HY.out.2.1; have k2 := bcell hbw HY.out.2.2.1; have k3 := bcell hbw HY.out.2.2.2.1; have k4 := bcell hbw HY.out.2.2.2.2.1; have k5 := bcell hbw HY.out.2.2.2.2.2; have HBX := Aside0.mk hbw; clear hbw; clear hb))
              all_goals
                go_wp2_with fail
                go_roundg (S.length - (kk + 1))
                case measure => have := HX.out; have := HLT2.out; omega
                case rel =>
                  have q1 := HSL.out
                  have q2 := HLT2.out
                  exact ⟨kk + 1, HLT2.out, by omega, by go_num, ⟨below_step HQ.out HBX.out⟩⟩
            · have hltz3 : ¬ (kk : Int) < (S.length : Int) := by omega
              have hkl : kk = S.length := by omega
              subst hkl
              clear hg hlt hkk
              go_wp2_with fail
              refine (HA.out _).mono ?_
              rintro e w' ⟨rfl, hb⟩
              have HBb := Aside0.mk (below_step (below_then HBW9.out HBW9.out.size HQ.out) hb)
              clear hb
              go_wp2
              go_ret
              exact ⟨rfl, HBb.out⟩
theorem planSteps_at (T : List S29) (AT : Option Addr) (cT : Nat) (C : List S36) (AC : Option Addr) (cC : Nat) (w : World)
    (hT : Kd.C k29 w AT T.length T) (hC : Kd.C k36 w AC C.length C) (lT : T.length ≤ maxLen) (lC : C.length ≤ maxLen) :
    Calls Try.prog 3 #[.slice AT T.length cT, .slice AC C.length cC] w fun e w' => e = .returned (.bool true) ∧ Below w.heap.size w w' := by
  unfold maxLen at lT lC
  exact planSteps_walk Pl.aliveC Pl.equalC T AT cT C AC cC w hT hC (by omega) (by omega)
end Go.Proofs.Ytepjcgcobaaphaa.Nd
