import Derived.Test.YtepjcgcobaaphaaRm
namespace Go.Proofs.Ytepjcgcobaaphaa.Nd
set_option linter.unusedVariables false
set_option linter.unusedSimpArgs false
open Go.RowKit Go.Lib Go.Proofs.YtepjcgcobaaphaaW.PrintWords Go.Proofs.YtepjcgcobaaphaaW.PrintLast Go.Proofs.YtepjcgcobaaphaaW.PrintMore Go.Proofs.Ytepjcgcobaaphaa.PPa
open Go.Proofs.Ytepjcgcobaaphaa.Rf (RN lit_R V38 bcell cnt cntL)
open Go.Proofs.Ytepjcgcobaaphaa.Pl (S29 cells5 cells3 cells8 put3 set3 fz36 Z8 put8 R_setlow refuse wrongP not_wrong rd_memI)

theorem keyR_take (L : List S38) (first : Int) (ks : List Int) (i : Nat) (h : i < ks.length) : keyR L first (ks.take (i + 1)) = keyR L first (ks.take i) ++ [(Rf.equalP L (first + rd ks (i : Int)) first).getD z38] := by
  unfold keyR
  have : ks.take (i + 1) = ks.take i ++ [rd ks (i : Int)] := by
    rw [List.take_succ_eq_append_getElem h]
    unfold rd
    rw [Int.toNat_natCast, List.getD_eq_getElem?_getD, List.getElem?_eq_getElem h]
    rfl
  rw [this, List.map_append]; rfl
theorem allR_take (L : List S38) (first : Int) (ks : List Int) (i : Nat) (h : i < ks.length) : allR L first (ks.take (i + 1)) = (allR L first (ks.take i) && (Rf.equalP L (first + rd ks (i : Int)) first).isSome) := by
  unfold allR
  have : ks.take (i + 1) = ks.take i ++ [rd ks (i : Int)] := by
    rw [List.take_succ_eq_append_getElem h]
    unfold rd
    rw [Int.toNat_natCast, List.getD_eq_getElem?_getD, List.getElem?_eq_getElem h]
    rfl
  rw [this, List.all_append]; simp
theorem oneR_take (L : List S38) (first : Int) (ks : List Int) (i : Nat) (h : i < ks.length) :
    (ks.take (i + 1)).findSome? (oneR L first) = ((ks.take i).findSome? (oneR L first)).or (oneR L first (rd ks (i : Int))) := by
  have : ks.take (i + 1) = ks.take i ++ [rd ks (i : Int)] := by
    rw [List.take_succ_eq_append_getElem h]
    unfold rd
    rw [Int.toNat_natCast, List.getD_eq_getElem?_getD, List.getElem?_eq_getElem h]
    rfl
  rw [this, List.findSome?_append]
  cases h : oneR L first (rd ks (i : Int)) <;> simp [List.findSome?, h]
theorem keyR_len (L : List S38) (first : Int) (ks : List Int) : (keyR L first ks).length = ks.length := by unfold keyR; simp
/-- What the walk of step asks of Equal. -/
def EqRC (L : List S38) (A : Option Addr) (c : Nat) (w0 : World) : Prop := ∀ (slot first : Int) (w : World), Below w0.heap.size w0 w → Kd.C (Kd.fixed k38 w0) w A L.length L →
      Calls Try.prog 33 #[.slice A L.length c, .int .i64 slot, .int .i64 first] w fun e w' => ∃ (n : S38) (A' : Option Addr) (c' : Nat), e = .returned (.tuple #[V38 n A' c', .bool (Rf.equalP L slot first).isSome]) ∧ n = (Rf.equalP L slot first).getD z38 ∧ n.f5.length ≤ c' ∧ Kd.C k38 w0 A' n.f5.length n.f5 ∧ Below w.heap.size w w'
set_option maxHeartbeats 8000000 in
set_option maxRecDepth 100000 in
theorem stepR_walk (L : List S38) (A : Option Addr) (c : Nat) (w0 : World) (hLc : L.length ≤ c) (HEq : EqRC L A c w0)
    (T : S29) (A2 : Option Addr) (c2 : Nat) (A3 : Option Addr) (c3 : Nat) (w : World) (hw0 : Below w0.heap.size w0 w) (hC : Kd.C (Kd.fixed k38 w0) w A L.length L)
    (h2 : Kd.C (Kd.int .i64) w0 A2 T.f2.length T.f2) (h3 : Kd.C (Kd.int .i64) w0 A3 T.f3.length T.f3) (q2 : T.f2.length ≤ c2) (q3 : T.f3.length ≤ c3) (l2 : T.f2.length ≤ 1000) (l3 : T.f3.length ≤ 1000) (hf0 : -10000 < T.f0 ∧ T.f0 < 10000) (hf1 : T.f1 < 10000) :
    Calls Try.prog 21 #[.agg #[.int .i64 T.f0, .int .i64 T.f1, .slice A2 T.f2.length c2, .slice A3 T.f3.length c3, .bool T.f4], .slice A L.length c] w fun e w' => ∃ v : Value, e = .returned (.agg #[.int .i64 (stepR T L).1, .int .i64 (stepR T L).2.1, v]) ∧ RN w0 w' w.heap.size v (stepR T L).2.2 ∧ Below w.heap.size w w' := by
  obtain ⟨f0, f1, ks, is, f4⟩ := T
  simp only at *
  have HE := Aside0.mk HEq
  have HW0 := Aside0.mk hw0
  have HC := Aside0.mk hC
  have H2 := Aside0.mk h2
  have H3 := Aside0.mk h3
  have HF := Aside0.mk (And.intro hf0 hf1)
  have KA : Aside0 (∀ (V : World), Below w.heap.size w V → Calls Try.prog 32 #[.agg #[.int .i64 f0, .int .i64 f1, .slice A2 ks.length c2, .slice A3 is.length c3, .bool f4], .slice A2 ks.length c2] V fun e w' => e = .returned (.bool (!(ks.any (wrongP f1)))) ∧ Below V.heap.size V w') :=
    ⟨fun V hV => may_walk f0 f1 ks is f4 A2 c2 A3 c3 ks A2 c2 V (Kd.C_below H2.out (below_then HW0.out HW0.out.size hV)) q2 (Kd.C_below H3.out (below_then HW0.out HW0.out.size hV)) q3 (Kd.C_below H2.out (below_then HW0.out HW0.out.size hV)) q2 (by omega)⟩
  have KB : Aside0 (∀ (V : World), Below w.heap.size w V → Calls Try.prog 32 #[.agg #[.int .i64 f0, .int .i64 f1, .slice A2 ks.length c2, .slice A3 is.length c3, .bool f4], .slice A3 is.length c3] V fun e w' => e = .returned (.bool (!(is.any (wrongP f1)))) ∧ Below V.heap.size V w') :=
    ⟨fun V hV => may_walk f0 f1 ks is f4 A2 c2 A3 c3 is A3 c3 V (Kd.C_below H2.out (below_then HW0.out HW0.out.size hV)) q2 (Kd.C_below H3.out (below_then HW0.out HW0.out.size hV)) q3 (Kd.C_below H3.out (below_then HW0.out HW0.out.size hV)) q3 (by omega)⟩
  clear HEq hw0 hC h2 h3 hf0 hf1 hLc q2 q3
  obtain ⟨s, hss⟩ : ∃ s, s = stepR ⟨f0, f1, ks, is, f4⟩ L := ⟨_, rfl⟩
  rw [← hss]
  have HS := Aside0.mk hss
  clear hss
  go_enter Try.func21, Try.ntmps21
  go_upto_region 1 with (first | ((with_reducible refine gate_dst (N := 2) rfl ?_); refine box_event ?hg (N := 2) ?hd (cs := #[.int .i64 f0, .int .i64 f1, .slice A2 ks.length c2, .slice A3 is.length c3, .bool f4]) (t := 31) ?hr ?_; (case hd => rfl); (case hg => rfl); (case hr => first | (go_simp; done) | (go_simp; rfl)); intro g0 hg0 w3 hbox hb; have HG0 := Aside0.mk hg0; have HBX := Aside0.mk hbox; have HB := Aside0.mk hb; clear hg0; clear hbox; clear hb) | ((with_reducible refine gate_dst (N := 4) rfl ?_); refine box_event ?hg (N := 4) ?hd (cs := #[.int .i64 0, .int .i64 0, .slice none 0 0]) (t := 47) ?hr ?_; (case hd => rfl); (case hg => rfl); (case hr => first | (go_simp; done) | (go_simp; rfl)); intro g1 hg1 w4 hbox hb; have HG1 := Aside0.mk hg1; have BT := Aside0.mk (blk_below HBX.out hb); have BG := Aside0.mk hbox; have HB4 := Aside0.mk (below_step HB.out hb); have GE0 : Aside0 (w.heap.size ≤ g0) := ⟨by rw [HG0.out]; exact Nat.le_refl _⟩; have HNE01 : Aside0 (g1 ≠ g0) := ⟨by have q1 := blk_lt HBX.out; have q2 := HG1.out; omega⟩; have GE1 : Aside0 (w.heap.size ≤ g1) := ⟨by rw [HG1.out]; exact HB.out.size⟩; clear hg1; clear hbox; clear hb; clear HB; clear HBX))
  obtain ⟨t0, t1, t2, t3, t4⟩ := cells5 BT.out
  cases f4 with
  | false =>
    have HS0 : Aside0 (s = (0, 0, [])) := ⟨by rw [HS.out]; rfl⟩
    obtain ⟨r0, r1, r2⟩ := cells3 BG.out
    have rf := fz36 BG.out
    go_wp2_with fail
    refine bodyPost_ret (results_cell_row rfl _ _ g1 47 #[.int .i64 0, .int .i64 0, .slice none 0 0] (0, 0) _ rfl (put3 BG.out _ _ _) Try.underlying47 rfl (by kernel_rfl)) rfl ?_
    exact ⟨.slice none 0 0, by rw [HS0.out], by rw [HS0.out]; exact Kd.R_nil _ _ _ _ _, set3 HB4.out GE1.out _ _ _⟩
  | true =>
    by_cases hk : ks = []
    · subst hk
      have HS0 : Aside0 (s = (0, 0, [])) := ⟨by rw [HS.out]; rfl⟩
      obtain ⟨r0, r1, r2⟩ := cells3 BG.out
      have rf := fz36 BG.out
      go_wp2_with fail
      refine bodyPost_ret (results_cell_row rfl _ _ g1 47 #[.int .i64 0, .int .i64 0, .slice none 0 0] (0, 0) _ rfl (put3 BG.out _ _ _) Try.underlying47 rfl (by kernel_rfl)) rfl ?_
      exact ⟨.slice none 0 0, by rw [HS0.out], by rw [HS0.out]; exact Kd.R_nil _ _ _ _ _, set3 HB4.out GE1.out _ _ _⟩
    · have hk0 : ¬ ks.length = 0 := fun h => hk (List.length_eq_zero_iff.1 h)
      have hie : ks.isEmpty = false := by cases ks with | nil => exact absurd rfl hk | cons _ _ => rfl
      clear hk
      have hkz : ((ks.length : Int) == 0) = false := by simp; exact fun h => hk0 (by simp [h])
      cases wa : ks.any (wrongP f1) with
      | true =>
        have HS0 : Aside0 (s = (0, 0, [])) := ⟨by rw [HS.out]; unfold stepR refuse; simp only [hie, wa]; rfl⟩
        rw [wa] at KA
        clear wa
        go_wp2_with fail
        refine (KA.out _ HB4.out).mono ?_
        rintro e V1 ⟨rfl, hb⟩
        have bt := blk_below BT.out hb
        have bg := blk_below BG.out hb
        have hb4 := below_step HB4.out hb
        clear t0 t1 t2 t3 t4 BT BG HB4 hb
        have BT := Aside0.mk bt
        have BG := Aside0.mk bg
        have HB4 := Aside0.mk hb4
        obtain ⟨t0, t1, t2, t3, t4⟩ := cells5 BT.out
        clear bt bg hb4
        obtain ⟨r0, r1, r2⟩ := cells3 BG.out
        have rf := fz36 BG.out
        go_wp2_with fail
        refine bodyPost_ret (results_cell_row rfl _ _ g1 47 #[.int .i64 0, .int .i64 0, .slice none 0 0] (0, 0) _ rfl (put3 BG.out _ _ _) Try.underlying47 rfl (by kernel_rfl)) rfl ?_
        exact ⟨.slice none 0 0, by rw [HS0.out], by rw [HS0.out]; exact Kd.R_nil _ _ _ _ _, set3 HB4.out GE1.out _ _ _⟩
      | false =>
        have HWA := Aside0.mk wa
        rw [wa] at KA
        clear wa
        cases wb : is.any (wrongP f1) with
        | true =>
          have HS0 : Aside0 (s = (0, 0, [])) := ⟨by rw [HS.out]; unfold stepR refuse; simp only [hie, HWA.out, wb]; rfl⟩
          rw [wb] at KB
          clear wb
          go_wp2_with fail
          refine (KA.out _ HB4.out).mono ?_
          rintro e V1 ⟨rfl, hb⟩
          have bt := blk_below BT.out hb
          have bg := blk_below BG.out hb
          have hb4 := below_step HB4.out hb
          clear t0 t1 t2 t3 t4 BT BG HB4 hb
          have BT := Aside0.mk bt
          have BG := Aside0.mk bg
          have HB4 := Aside0.mk hb4
          obtain ⟨t0, t1, t2, t3, t4⟩ := cells5 BT.out
          clear bt bg hb4
          go_wp2_with fail
          refine (KB.out _ HB4.out).mono ?_
          rintro e V2 ⟨rfl, hb⟩
          have bt := blk_below BT.out hb
          have bg := blk_below BG.out hb
          have hb4 := below_step HB4.out hb
          clear t0 t1 t2 t3 t4 BT BG HB4 hb
          have BT := Aside0.mk bt
          have BG := Aside0.mk bg
          have HB4 := Aside0.mk hb4
          obtain ⟨t0, t1, t2, t3, t4⟩ := cells5 BT.out
          clear bt bg hb4
          obtain ⟨r0, r1, r2⟩ := cells3 BG.out
          have rf := fz36 BG.out
          go_wp2_with fail
          refine bodyPost_ret (results_cell_row rfl _ _ g1 47 #[.int .i64 0, .int .i64 0, .slice none 0 0] (0, 0) _ rfl (put3 BG.out _ _ _) Try.underlying47 rfl (by kernel_rfl)) rfl ?_
          exact ⟨.slice none 0 0, by rw [HS0.out], by rw [HS0.out]; exact Kd.R_nil _ _ _ _ _, set3 HB4.out GE1.out _ _ _⟩
        | false =>
          have HWB := Aside0.mk wb
          have hsm : s = if allR L f0 ks = true then ((1 : Int), (0 : Int), keyR L f0 ks) else match is.findSome? (oneR L f0) with | some (k, n) => ((2 : Int), k, [n]) | none => ((0 : Int), (0 : Int), []) := by
            rw [HS.out]; unfold stepR refuse; simp only [hie, HWA.out, wb]; rfl
          rw [wb] at KB
          have HSM := Aside0.mk hsm
          clear wb hsm HS
          go_wp2_with fail
          refine (KA.out _ HB4.out).mono ?_
          rintro e V1 ⟨rfl, hb⟩
          have bt := blk_below BT.out hb
          have bg := blk_below BG.out hb
          have hb4 := below_step HB4.out hb
          clear t0 t1 t2 t3 t4 BT BG HB4 hb
          have BT := Aside0.mk bt
          have BG := Aside0.mk bg
          have HB4 := Aside0.mk hb4
          obtain ⟨t0, t1, t2, t3, t4⟩ := cells5 BT.out
          clear bt bg hb4
          go_wp2_with fail
          refine (KB.out _ HB4.out).mono ?_
          rintro e V2 ⟨rfl, hb⟩
          have bt := blk_below BT.out hb
          have bg := blk_below BG.out hb
          have hb4 := below_step HB4.out hb
          clear t0 t1 t2 t3 t4 BT BG HB4 hb
          have BT := Aside0.mk bt
          have BG := Aside0.mk bg
          have HB4 := Aside0.mk hb4
          obtain ⟨t0, t1, t2, t3, t4⟩ := cells5 BT.out
          clear bt bg hb4
          go_upto_region 4 with ((with_reducible refine gate_dst (N := 5) rfl ?_); refine box_event ?hg (N := 5) ?hd (cs := #[.int .i64 0, .int .i64 0, .slice none 0 0]) (t := 47) ?hr ?_; (case hd => rfl); (case hg => rfl); (case hr => first | (go_simp; done) | (go_simp; rfl)); intro g5 hg5 w5 hbox hb; have HG5 := Aside0.mk hg5; have BS := Aside0.mk hbox; have HB5 := Aside0.mk hb; obtain ⟨s0, s1, s2⟩ := cells3 hbox; have sf := fz36 hbox; clear hg5; clear hbox; clear hb)
          generalize hW : World.setCell _ ⟨g5, 2, none⟩ (.slice none 0 0) = W5
          have HS5 : Aside0 (W5.heap[g5]? = some (.cells #[.int .i64 1, .int .i64 0, .slice none 0 0] 47 (0, 0))) := ⟨by rw [← hW]; exact put3 BS.out _ _ _⟩
          have HVW : Aside0 (Below V2.heap.size V2 W5) := ⟨by rw [← hW]; exact set3 HB5.out (Nat.le_of_eq HG5.out.symm) _ _ _⟩
          have HBV : Aside0 (w.heap.size ≤ V2.heap.size ∧ g0 < V2.heap.size ∧ g1 < V2.heap.size ∧ V2.heap.size ≤ g5) := ⟨⟨HB4.out.size, blk_lt BT.out, blk_lt BG.out, Nat.le_of_eq HG5.out.symm⟩⟩
          clear hW s0 s1 s2 sf t0 t1 t2 t3 t4 KA KB BS HB5 HG5
          go_wp2
          go_loopg [6] ks.length (fun gg s6 wr => ∃ (kk : Nat) (vv : Value) (kz : Int), kk ≤ ks.length ∧ ks.length - kk ≤ gg ∧ s6 = .int .i64 kk ∧ Aside0 (kz = if allR L f0 (ks.take kk) = true then 1 else 0) ∧ Aside0 (wr.heap[g5]? = some (.cells #[.int .i64 kz, .int .i64 0, vv] 47 (0, 0))) ∧ Aside0 (Below V2.heap.size V2 wr) ∧ Aside0 (g5 + 1 ≤ wr.heap.size) ∧ Aside0 (RN w0 wr (g5 + 1) vv (keyR L f0 (ks.take kk))))
          case atStart => exact ⟨0, .slice none 0 0, 1, Nat.zero_le _, by omega, rfl, ⟨rfl⟩, HS5, HVW, ⟨blk_lt HS5.out⟩, ⟨Kd.R_nil _ _ _ _ _⟩⟩
          case round =>
            clear HS5 HVW
            obtain ⟨kk, vv, kz, hkk, hg, rfl, HKZ, HSB, HBR, HSL, HR⟩ := hrel
            have hbt := (HBR.out.block _ HBV.out.2.1).trans BT.out
            obtain ⟨t0, t1, t2, t3, t4⟩ := cells5 hbt
            have HBT := Aside0.mk hbt
            have HBW : Aside0 (Below w.heap.size w wr) := ⟨below_then HB4.out HB4.out.size HBR.out⟩
            clear hbt
            by_cases hlt : kk < ks.length
            · have hltz : (kk : Int) < (ks.length : Int) := by omega
              obtain ⟨ad, hA, h0⟩ := Kd.at_int (Kd.C_below H2.out (below_then HW0.out HW0.out.size HBW.out)) (kk : Int) (by omega) hltz
              rw [Int.toNat_natCast] at h0
              subst hA
              have hnw := not_wrong HWA.out kk hlt
              have hcall := fun (V : World) (hV : Below wr.heap.size wr V) => HE.out (f0 + rd ks kk) f0 V (below_then HW0.out HW0.out.size (below_then HBW.out HBW.out.size hV)) (Kd.C_below HC.out (below_then HBW.out HBW.out.size hV))
              have hnt := keyR_take L f0 ks kk hlt
              have hat := allR_take L f0 ks kk hlt
              obtain ⟨en, hen⟩ : ∃ en, en = Rf.equalP L (f0 + rd ks kk) f0 := ⟨_, rfl⟩
              rw [← hen] at hnt hat
              simp only [← hen] at hcall
              obtain ⟨k, hkk2⟩ : ∃ k, k = rd ks kk := ⟨_, rfl⟩
              rw [← hkk2] at h0 hnw
              simp only [← hkk2] at hcall
              clear hkk2 hen
              obtain ⟨n, hm⟩ : ∃ n, n = en.getD z38 := ⟨_, rfl⟩
              simp only [← hm] at hcall
              have HN := Aside0.mk hm
              have HCL : Aside0 (∀ V, Below wr.heap.size wr V → Calls Try.prog 33 #[.slice A L.length c, .int .i64 (f0 + k), .int .i64 f0] V fun e w' => ∃ (A' : Option Addr) (c' : Nat), e = .returned (.tuple #[V38 n A' c', .bool en.isSome]) ∧ n.f5.length ≤ c' ∧ Kd.C k38 w0 A' n.f5.length n.f5 ∧ Below V.heap.size V w') := ⟨fun V hV => (hcall V hV).mono (by rintro e w' ⟨n', A', c', he, hn, hl, hC, hb⟩; subst hn; exact ⟨A', c', he, hl, hC, hb⟩)⟩
              clear hm
              have hw1 : -9223372036854775808 ≤ f0 + k := by have := HF.out; omega
              have hw2 : f0 + k ≤ 9223372036854775807 := by have := HF.out; omega
              have HX := Aside0.mk hg
              have HLT := Aside0.mk hlt
              have HNT := Aside0.mk hnt
              have HAT := Aside0.mk hat
              have hlen : (keyR L f0 (ks.take kk)).length ≤ 1000 := by rw [keyR_len, List.length_take]; omega
              have HLN := Aside0.mk hlen
              have hgl : g0 < wr.heap.size := Nat.lt_of_lt_of_le HBV.out.2.1 HBR.out.size
              have hgl1 : g0 < wr.heap.size + 1 := by omega
              have hal : ad.block < wr.heap.size := by have := Pl.cell_lt h0; rwa [show (ad.add kk).block = ad.block from by unfold Addr.add; split <;> rfl] at this
              have hal1 : ad.block < wr.heap.size + 1 := Nat.lt_succ_of_lt hal
              clear hlt hg hkk hnt hat hnw hlen hcall
              obtain ⟨W1, hW1⟩ : ∃ W, W = wr := ⟨_, rfl⟩
              subst hW1
              go_upto_region 7 with (fail)
              go_cut [7, 8] (fun v7 v8 wc => ∃ (g7 : Nat) (A' : Option Addr) (c' : Nat), v7 = .pointer (some ⟨g7, 0, none⟩) ∧ v8 = .bool en.isSome ∧ Aside0 (n.f5.length ≤ c' ∧ Kd.C k38 w0 A' n.f5.length n.f5) ∧ Aside0 (wc.heap[g7]? = some (.cells #[.int .i64 n.f0, .string n.f1, .int .u8 n.f2.f0, .int .i64 n.f2.f1, .string n.f2.f2, .int .i64 n.f3, .int .u8 n.f4, .slice A' n.f5.length c'] 38 (0, 0))) ∧ Aside0 (Below W1.heap.size W1 wc) ∧ Aside0 (W1.heap.size ≤ g7))
              case first =>
                have hz0 := World.new_ne W1 _ t0
                have hzk := World.new_ne W1 _ h0
                have hwr : IntKind.i64.wrap (f0 + k) = f0 + k := IntWalk.i64_in _ ⟨hw1, hw2⟩
                have hd0 : W1.heap.size ≤ W1.drew.heap.size := Nat.le_refl _
                have hd1 : ∀ o, W1.heap.size ≤ (W1.alloc o).drew.heap.size := fun o => by show _ ≤ (W1.alloc o).heap.size; rw [World.size_alloc]; exact Nat.le_succ _
                go_region_held3 (fun w' => w'.cell? ⟨g0, 0, none⟩ = some (.int .i64 f0) ∧ w'.cell? ⟨g0, 2, none⟩ = some (.slice (some ad) ks.length c2) ∧ w'.cell? (ad.add kk) = some (.int .i64 k)) (first | go_keep | exact ⟨k0, k2, kh⟩) ((go_at_call 33; refine (HCL.out _ (by first | with_reducible exact below_drew1 (Below.refl _ _) | with_reducible exact below_drew1 (below_alloc (Below.refl W1.heap.size W1) _))).mono ?_; rintro e V ⟨A', c', rfl, hln, hCn, hb⟩; have HC3 := Aside0.mk (And.intro hln hCn); have hbw : Below W1.heap.size W1 V := (by first | with_reducible exact below_then (below_drew1 (Below.refl _ _)) hd0 hb | with_reducible exact below_then (below_drew1 (below_alloc (Below.refl W1.heap.size W1) _)) (hd1 _) hb); have k0 := bcell hbw t0; have k2 := bcell hbw t2; have kh := bcell hbw h0; have hy0 := World.new_ne V _ k0; have hyk := World.new_ne V _ kh; have HBX := Aside0.mk hbw; clear hbw; try (have hz : V.heap[W1.heap.size]? = some (.cells Z8 38 (0, 0)) := (by with_reducible exact blk_below (blk_drew (blk_new W1 (.cells Z8 38))) hb); have z0 := (cells8 hz).1; have z1 := (cells8 hz).2.1; have z2 := (cells8 hz).2.2.1; have z3 := (cells8 hz).2.2.2.1; have z4 := (cells8 hz).2.2.2.2.1; have z5 := (cells8 hz).2.2.2.2.2.1; have z6 := (cells8 hz).2.2.2.2.2.2.1; have z7 := (cells8 hz).2.2.2.2.2.2.2; have zf := fz36 hz; have hzl := blk_lt hz; have HZ := Aside0.mk hz; clear hz); clear hln; clear hCn; clear hb))
                all_goals
                  go_wp2
                  go_meet
                  case rel => first
                    | with_reducible exact ⟨_, A', c', rfl, rfl, HC3, ⟨put8 HZ.out _ _ _ _ _ _ _ _⟩, ⟨Pl.set8 HBX.out (Nat.le_refl _) _ _ _ _ _ _ _ _⟩, ⟨Nat.le_refl _⟩⟩
                    | with_reducible exact ⟨_, A', c', rfl, rfl, HC3, ⟨blk_new _ _⟩, ⟨below_alloc HBX.out _⟩, ⟨HBX.out.size⟩⟩
              case rest =>
                obtain ⟨g7, A', c', rfl, rfl, HC3, HN7, HBc, HGE⟩ := hcut
                clear t0 t1 t2 t3 t4 h0 hgl hgl1 hal hal1 HCL
                have HS2 : Aside0 (wc.heap[g5]? = some (.cells #[.int .i64 kz, .int .i64 0, vv] 47 (0, 0))) := ⟨(HBc.out.block _ HSL.out).trans HSB.out⟩
                have HKm := Aside0.mk (k38_mk w0 n HC3.out.1 HC3.out.2)
                have HNE : Aside0 (g7 ≠ g5) := ⟨by have := HGE.out; have := HSL.out; omega⟩
                have HR2 := Aside0.mk (Kd.R_below HR.out HBc.out)
                have HB2 : Aside0 (Below V2.heap.size V2 wc) := ⟨below_then HBR.out HBR.out.size HBc.out⟩
                have HSL2 : Aside0 (g5 + 1 ≤ wc.heap.size) := ⟨Nat.le_trans HSL.out HBc.out.size⟩
                clear HSB HR HBR HSL HBW
                obtain ⟨W2, hW2⟩ : ∃ W, W = wc := ⟨_, rfl⟩
                subst hW2
                obtain ⟨s0, s1, s2⟩ := cells3 HS2.out
                have sf := fz36 HS2.out
                cases en with
                | none =>
                  go_upto_region 10 with (fail)
                  generalize hW : World.setCell _ ⟨g5, 0, none⟩ (.int .i64 0) = W3
                  have HS3 : Aside0 (W3.heap[g5]? = some (.cells #[.int .i64 0, .int .i64 0, vv] 47 (0, 0))) := ⟨by rw [← hW]; exact blk_put HS2.out 0 _ rfl⟩
                  have HN3 : Aside0 (W3.heap[g7]? = some (.cells #[.int .i64 n.f0, .string n.f1, .int .u8 n.f2.f0, .int .i64 n.f2.f1, .string n.f2.f2, .int .i64 n.f3, .int .u8 n.f4, .slice A' n.f5.length c'] 38 (0, 0))) := ⟨by rw [← hW]; exact (Below.heap_setCell _ _ _ _ HNE.out).trans HN7.out⟩
                  have HB3 : Aside0 (Below V2.heap.size V2 W3) := ⟨by rw [← hW]; exact HB2.out.setCell HBV.out.2.2.2 _⟩
                  have HR3 := Aside0.mk (R_setlow HR2.out (Nat.lt_succ_self g5) (j := 0) (u := .int .i64 0))
                  rw [hW] at HR3
                  have HSL3 : Aside0 (g5 + 1 ≤ W3.heap.size) := ⟨by rw [← hW]; simp [World.setCell]; exact HSL2.out⟩
                  clear hW s0 s1 s2 sf HS2 HN7 HB2 HR2 HSL2
                  obtain ⟨s0, s1, s2⟩ := cells3 HS3.out
                  have sf := fz36 HS3.out
                  obtain ⟨n0, n1, n2, n3, n4, n5, n6, n7⟩ := cells8 HN3.out
                  obtain ⟨vA, vc, rfl⟩ := Kd.R_slice HR3.out
                  go_wp2_with (at_builtin; refine Kd.R_append (Kd.fixed k38 w0) (w0 := W3) (g5 + 1) ?a1 (.tmp 63) (.tmp 65) 26 38 (.agg #[(.int .i64 0), (.string ⟨#[]⟩), (.int .u8 0), (.int .i64 0), (.string ⟨#[]⟩), (.int .i64 0), (.int .u8 0), (.slice none 0 0)]) 96 ?a2 Try.underlying26 info38y ?a3 ?a4 ?a5 _ (keyR L f0 (ks.take kk)) n [.int .i64 n.f0, .string n.f1, .int .u8 n.f2.f0, .int .i64 n.f2.f1, .string n.f2.f2, .int .i64 n.f3, .int .u8 n.f4, .slice A' n.f5.length c'] (fun _ => True) (fun _ => False) ?a6 ?a7 ?aP (fun _ hk => hk.elim) (fun _ _ => trivial) HR3.out ?aB ?aS ?aL ?_; (case a1 => rfl); (case a2 => rfl); (case a3 => rfl); (case a4 => show 0 < 8; omega); (case a5 => omega); (case a6 => rfl); (case a7 => rfl); (case aP => exact HKm.out); (case aB => exact Below.refl _ _); (case aS => exact HSL3.out); (case aL => have := HLN.out; omega); intro v1 w1 ho hb1 hg1 hat1; have hsw := (hb1.block _ (Nat.lt_succ_self g5)).trans HS3.out; obtain ⟨p0, p1, p2⟩ := cells3 hsw; have pf := fz36 hsw; have HSW := Aside0.mk hsw; obtain ⟨A1, c1, rfl⟩ := Kd.R_slice ho; have HO := Aside0.mk ho; have HB1 := Aside0.mk hb1; clear ho; clear hb1; clear hat1; clear hg1; clear hsw)
                  go_roundg (ks.length - (kk + 1))
                  case measure => have := HX.out; have := HLT.out; omega
                  case rel => exact ⟨kk + 1, _, 0, HLT.out, by omega, by go_num, ⟨by rw [HAT.out]; have := HKZ.out; simp_all⟩, ⟨blk_put HSW.out 2 _ rfl⟩, ⟨(HB3.out.trans (HB1.out.mono (Nat.le_trans HBV.out.2.2.2 (Nat.le_succ _)))).setCell HBV.out.2.2.2 _⟩, ⟨by show g5 + 1 ≤ (World.setCell _ _ _).heap.size; have := HB1.out.size; have := HSL3.out; simp [World.setCell]; omega⟩, ⟨by rw [HNT.out, ← HN.out]; have := HO.out; rw [List.length_append] at this; exact R_setlow this (Nat.lt_succ_self _)⟩⟩
                | some m =>
                  go_upto_region 10 with (fail)
                  obtain ⟨W3, hW3⟩ : ∃ W, W = W2 := ⟨_, rfl⟩
                  subst hW3
                  have HS3 := HS2
                  have HN3 := HN7
                  have HB3 := HB2
                  have HR3 := HR2
                  have HSL3 := HSL2
                  clear s0 s1 s2 sf HS2 HN7 HB2 HR2 HSL2
                  obtain ⟨s0, s1, s2⟩ := cells3 HS3.out
                  have sf := fz36 HS3.out
                  obtain ⟨n0, n1, n2, n3, n4, n5, n6, n7⟩ := cells8 HN3.out
                  obtain ⟨vA, vc, rfl⟩ := Kd.R_slice HR3.out
                  go_wp2_with (at_builtin; refine Kd.R_append (Kd.fixed k38 w0) (w0 := W3) (g5 + 1) ?a1 (.tmp 63) (.tmp 65) 26 38 (.agg #[(.int .i64 0), (.string ⟨#[]⟩), (.int .u8 0), (.int .i64 0), (.string ⟨#[]⟩), (.int .i64 0), (.int .u8 0), (.slice none 0 0)]) 96 ?a2 Try.underlying26 info38y ?a3 ?a4 ?a5 _ (keyR L f0 (ks.take kk)) n [.int .i64 n.f0, .string n.f1, .int .u8 n.f2.f0, .int .i64 n.f2.f1, .string n.f2.f2, .int .i64 n.f3, .int .u8 n.f4, .slice A' n.f5.length c'] (fun _ => True) (fun _ => False) ?a6 ?a7 ?aP (fun _ hk => hk.elim) (fun _ _ => trivial) HR3.out ?aB ?aS ?aL ?_; (case a1 => rfl); (case a2 => rfl); (case a3 => rfl); (case a4 => show 0 < 8; omega); (case a5 => omega); (case a6 => rfl); (case a7 => rfl); (case aP => exact HKm.out); (case aB => exact Below.refl _ _); (case aS => exact HSL3.out); (case aL => have := HLN.out; omega); intro v1 w1 ho hb1 hg1 hat1; have hsw := (hb1.block _ (Nat.lt_succ_self g5)).trans HS3.out; obtain ⟨p0, p1, p2⟩ := cells3 hsw; have pf := fz36 hsw; have HSW := Aside0.mk hsw; obtain ⟨A1, c1, rfl⟩ := Kd.R_slice ho; have HO := Aside0.mk ho; have HB1 := Aside0.mk hb1; clear ho; clear hb1; clear hat1; clear hg1; clear hsw)
                  go_roundg (ks.length - (kk + 1))
                  case measure => have := HX.out; have := HLT.out; omega
                  case rel => exact ⟨kk + 1, _, kz, HLT.out, by omega, by go_num, ⟨by rw [HAT.out]; have := HKZ.out; simp_all⟩, ⟨blk_put HSW.out 2 _ rfl⟩, ⟨(HB3.out.trans (HB1.out.mono (Nat.le_trans HBV.out.2.2.2 (Nat.le_succ _)))).setCell HBV.out.2.2.2 _⟩, ⟨by show g5 + 1 ≤ (World.setCell _ _ _).heap.size; have := HB1.out.size; have := HSL3.out; simp [World.setCell]; omega⟩, ⟨by rw [HNT.out, ← HN.out]; have := HO.out; rw [List.length_append] at this; exact R_setlow this (Nat.lt_succ_self _)⟩⟩
            · have hltz : ¬ (kk : Int) < (ks.length : Int) := by omega
              have hkl : kk = ks.length := by omega
              subst hkl
              rw [List.take_length] at *
              obtain ⟨vA, vc, rfl⟩ := Kd.R_slice HR.out
              have hbg := (HBR.out.block _ HBV.out.2.2.1).trans BG.out
              obtain ⟨r0, r1, r2⟩ := cells3 hbg
              have rf := fz36 hbg
              obtain ⟨s0, s1, s2⟩ := cells3 HSB.out
              have sf := fz36 HSB.out
              have HBG := Aside0.mk hbg
              clear hbg hg hkk hlt
              by_cases hall : allR L f0 ks = true
              · have hk1 : kz = 1 := by rw [HKZ.out, if_pos hall]
                subst hk1
                have HS1 : Aside0 (s = (1, 0, keyR L f0 ks)) := ⟨by rw [HSM.out, if_pos hall]⟩
                clear hall
                go_wp2
                refine bodyPost_ret (results_cell_row rfl _ _ g1 47 #[.int .i64 1, .int .i64 0, .slice vA (keyR L f0 ks).length vc] (0, 0) _ rfl (put3 HBG.out _ _ _) Try.underlying47 rfl (by kernel_rfl)) rfl ?_
                have hlt1 : g1 < g5 + 1 := by have := HBV.out; omega
                have hR3 := R_setlow (R_setlow (R_setlow HR.out hlt1 (j := 0) (u := .int .i64 1)) hlt1 (j := 1) (u := .int .i64 0)) hlt1 (j := 2) (u := .slice vA (keyR L f0 ks).length vc)
                exact ⟨_, by rw [HS1.out], by rw [HS1.out]; exact Kd.R_lower hR3 (by have := HBV.out; omega), set3 HBW.out GE1.out _ _ _⟩
              · have hk1 : kz = 0 := by rw [HKZ.out, if_neg hall]
                subst hk1
                have HS1 : Aside0 (s = match is.findSome? (oneR L f0) with | some (k, n) => ((2 : Int), k, [n]) | none => ((0 : Int), (0 : Int), [])) := ⟨by rw [HSM.out, if_neg hall]⟩
                have HBW2 := HBW
                clear HSM hall HR HWA HSB HSL HKZ
                obtain ⟨W6, hW6⟩ : ∃ W, W = wr := ⟨_, rfl⟩
                subst hW6
                go_wp2
                go_loopg [9] is.length (fun gg s9 wx => ∃ kk : Nat, kk ≤ is.length ∧ is.length - kk ≤ gg ∧ s9 = .int .i64 kk ∧ Aside0 (Below W6.heap.size W6 wx) ∧ Aside0 ((is.take kk).findSome? (oneR L f0) = none))
                case atStart => exact ⟨0, Nat.zero_le _, by omega, rfl, ⟨Below.refl _ _⟩, ⟨rfl⟩⟩
                case round =>
                  clear t0 t1 t2 t3 t4 r0 r1 r2 rf s0 s1 s2 sf
                  obtain ⟨kk, hkk, hg, rfl, HBX2, HA⟩ := hrel
                  have hbt := (HBX2.out.block _ (blk_lt HBT.out)).trans HBT.out
                  obtain ⟨t0, t1, t2, t3, t4⟩ := cells5 hbt
                  have hbg := (HBX2.out.block _ (blk_lt HBG.out)).trans HBG.out
                  have HBG2 := Aside0.mk hbg
                  have HBW : Aside0 (Below w.heap.size w wr) := ⟨below_then HBW2.out HBW2.out.size HBX2.out⟩
                  have hgl : g0 < wr.heap.size := blk_lt hbt
                  clear hbt hbg
                  by_cases hlt : kk < is.length
                  · have hltz2 : (kk : Int) < (is.length : Int) := by omega
                    obtain ⟨ad, hA, h0⟩ := Kd.at_int (Kd.C_below H3.out (below_then HW0.out HW0.out.size HBW.out)) (kk : Int) (by omega) hltz2
                    rw [Int.toNat_natCast] at h0
                    subst hA
                    have hnw := not_wrong HWB.out kk hlt
                    have hcall := fun (V : World) (hV : Below wr.heap.size wr V) => HE.out (f0 + rd is kk) f0 V (below_then HW0.out HW0.out.size (below_then HBW.out HBW.out.size hV)) (Kd.C_below HC.out (below_then HBW.out HBW.out.size hV))
                    obtain ⟨ad', hA', h00⟩ := Kd.at_int (Kd.C_below H3.out HW0.out) (kk : Int) (by omega) hltz2
                    obtain rfl := Option.some.inj hA'
                    rw [Int.toNat_natCast] at h00
                    have HNA : Aside0 (g1 ≠ (ad.add kk).block) := ⟨by have q1 := Pl.cell_lt h00; have q2 := GE1.out; omega⟩
                    clear h00
                    have hnt := oneR_take L f0 is kk hlt
                    have hone : oneR L f0 (rd is kk) = (Rf.equalP L (f0 + rd is kk) f0).map fun n => (rd is kk, n) := rfl
                    obtain ⟨en, hen⟩ : ∃ en, en = Rf.equalP L (f0 + rd is kk) f0 := ⟨_, rfl⟩
                    rw [← hen] at hone
                    simp only [← hen] at hcall
                    obtain ⟨k, hkk2⟩ : ∃ k, k = rd is kk := ⟨_, rfl⟩
                    rw [← hkk2] at h0 hnw hnt hone
                    simp only [← hkk2] at hcall
                    clear hkk2 hen
                    obtain ⟨n, hm⟩ : ∃ n, n = en.getD z38 := ⟨_, rfl⟩
                    simp only [← hm] at hcall
                    have HN := Aside0.mk hm
                    have HCL : Aside0 (∀ V, Below wr.heap.size wr V → Calls Try.prog 33 #[.slice A L.length c, .int .i64 (f0 + k), .int .i64 f0] V fun e w' => ∃ (A' : Option Addr) (c' : Nat), e = .returned (.tuple #[V38 n A' c', .bool en.isSome]) ∧ n.f5.length ≤ c' ∧ Kd.C k38 w0 A' n.f5.length n.f5 ∧ Below V.heap.size V w') := ⟨fun V hV => (hcall V hV).mono (by rintro e w' ⟨n', A', c', he, hn, hl, hC, hb⟩; subst hn; exact ⟨A', c', he, hl, hC, hb⟩)⟩
                    clear hm
                    have hw1 : -9223372036854775808 ≤ f0 + k := by have := HF.out; omega
                    have hw2 : f0 + k ≤ 9223372036854775807 := by have := HF.out; omega
                    rw [hone, HA.out] at hnt
                    have HX := Aside0.mk hg
                    have HLT := Aside0.mk hlt
                    have HNT := Aside0.mk hnt
                    have hgl1 : g0 < wr.heap.size + 1 := by omega
                    have hal : ad.block < wr.heap.size := by have := Pl.cell_lt h0; rwa [show (ad.add kk).block = ad.block from by unfold Addr.add; split <;> rfl] at this
                    have hal1 : ad.block < wr.heap.size + 1 := Nat.lt_succ_of_lt hal
                    have HH0 := Aside0.mk h0
                    have HT0 := Aside0.mk (And.intro t0 (And.intro t1 (And.intro t2 (And.intro t3 t4))))
                    clear hlt hg hkk hnt hnw hone hcall HA
                    obtain ⟨W1, hW1⟩ : ∃ W, W = wr := ⟨_, rfl⟩
                    subst hW1
                    go_upto_region 16 with (fail)
                    go_cut [10, 11] (fun v7 v8 wc => ∃ (g7 : Nat) (A' : Option Addr) (c' : Nat), v7 = .pointer (some ⟨g7, 0, none⟩) ∧ v8 = .bool en.isSome ∧ Aside0 (n.f5.length ≤ c' ∧ Kd.C k38 w0 A' n.f5.length n.f5) ∧ Aside0 (wc.heap[g7]? = some (.cells #[.int .i64 n.f0, .string n.f1, .int .u8 n.f2.f0, .int .i64 n.f2.f1, .string n.f2.f2, .int .i64 n.f3, .int .u8 n.f4, .slice A' n.f5.length c'] 38 (0, 0))) ∧ Aside0 (Below W1.heap.size W1 wc) ∧ Aside0 (W1.heap.size ≤ g7))
                    case first =>
                      have hz0 := World.new_ne W1 _ t0
                      have hzk := World.new_ne W1 _ h0
                      have hwr : IntKind.i64.wrap (f0 + k) = f0 + k := IntWalk.i64_in _ ⟨hw1, hw2⟩
                      have hd0 : W1.heap.size ≤ W1.drew.heap.size := Nat.le_refl _
                      have hd1 : ∀ o, W1.heap.size ≤ (W1.alloc o).drew.heap.size := fun o => by show _ ≤ (W1.alloc o).heap.size; rw [World.size_alloc]; exact Nat.le_succ _
                      go_region_held3 (fun w' => w'.cell? ⟨g0, 0, none⟩ = some (.int .i64 f0) ∧ w'.cell? ⟨g0, 3, none⟩ = some (.slice (some ad) is.length c3) ∧ w'.cell? (ad.add kk) = some (.int .i64 k)) (first | go_keep | exact ⟨k0, k2, kh⟩) ((go_at_call 33; refine (HCL.out _ (by first | with_reducible exact below_drew1 (Below.refl _ _) | with_reducible exact below_drew1 (below_alloc (Below.refl W1.heap.size W1) _))).mono ?_; rintro e V ⟨A', c', rfl, hln, hCn, hb⟩; have HC3 := Aside0.mk (And.intro hln hCn); have hbw : Below W1.heap.size W1 V := (by first | with_reducible exact below_then (below_drew1 (Below.refl _ _)) hd0 hb | with_reducible exact below_then (below_drew1 (below_alloc (Below.refl W1.heap.size W1) _)) (hd1 _) hb); have k0 := bcell hbw t0; have k2 := bcell hbw t3; have kh := bcell hbw h0; have hy0 := World.new_ne V _ k0; have hyk := World.new_ne V _ kh; have HBX := Aside0.mk hbw; clear hbw; try (have hz : V.heap[W1.heap.size]? = some (.cells Z8 38 (0, 0)) := (by with_reducible exact blk_below (blk_drew (blk_new W1 (.cells Z8 38))) hb); have z0 := (cells8 hz).1; have z1 := (cells8 hz).2.1; have z2 := (cells8 hz).2.2.1; have z3 := (cells8 hz).2.2.2.1; have z4 := (cells8 hz).2.2.2.2.1; have z5 := (cells8 hz).2.2.2.2.2.1; have z6 := (cells8 hz).2.2.2.2.2.2.1; have z7 := (cells8 hz).2.2.2.2.2.2.2; have zf := fz36 hz; have hzl := blk_lt hz; have HZ := Aside0.mk hz; clear hz); clear hln; clear hCn; clear hb))
                      all_goals
                        go_wp2
                        go_meet
                        case rel => first
                          | with_reducible exact ⟨_, A', c', rfl, rfl, HC3, ⟨put8 HZ.out _ _ _ _ _ _ _ _⟩, ⟨Pl.set8 HBX.out (Nat.le_refl _) _ _ _ _ _ _ _ _⟩, ⟨Nat.le_refl _⟩⟩
                          | with_reducible exact ⟨_, A', c', rfl, rfl, HC3, ⟨blk_new _ _⟩, ⟨below_alloc HBX.out _⟩, ⟨HBX.out.size⟩⟩
                    case rest =>
                      obtain ⟨g7, A', c', rfl, rfl, HC3, HN7, HBc, HGE⟩ := hcut
                      clear t0 t1 t2 t3 t4 h0 hgl hgl1 hal hal1 HCL
                      have HB3 := Aside0.mk (below_step HBX2.out HBc.out)
                      obtain ⟨W2, hW2⟩ : ∃ W, W = wc := ⟨_, rfl⟩
                      subst hW2
                      cases en with
                      | none =>
                        go_wp2_with fail
                        go_roundg (is.length - (kk + 1))
                        case measure => have := HX.out; have := HLT.out; omega
                        case rel => exact ⟨kk + 1, HLT.out, by omega, by go_num, HB3, ⟨by rw [HNT.out]; rfl⟩⟩
                      | some m2 =>
                        have hnm : n = m2 := HN.out
                        subst hnm
                        have HKm := Aside0.mk (k38_mk w0 n HC3.out.1 HC3.out.2)
                        have HB3w := Aside0.mk (below_step HBW.out HBc.out)
                        have hbg := blk_below HBG2.out HBc.out
                        obtain ⟨r0, r1, r2⟩ := cells3 hbg
                        have rf := fz36 hbg
                        have hgl := blk_lt hbg
                        have hgl1 : g1 < W2.heap.size + 1 := by omega
                        have HBG3 := Aside0.mk hbg
                        have t0 := bcell HBc.out HT0.out.1
                        have t1 := bcell HBc.out HT0.out.2.1
                        have t2 := bcell HBc.out HT0.out.2.2.1
                        have t3 := bcell HBc.out HT0.out.2.2.2.1
                        have t4 := bcell HBc.out HT0.out.2.2.2.2
                        have h0 := bcell HBc.out HH0.out
                        obtain ⟨n0, n1, n2, n3, n4, n5, n6, n7⟩ := cells8 HN7.out
                        clear hbg
                        go_wp2_with fail
                        have heq : is.findSome? (oneR L f0) = some (k, n) := by
                          rw [← List.take_append_drop (kk + 1) is, List.findSome?_append, HNT.out]; rfl
                        have HS2 : s = (2, k, [n]) := by rw [HS1.out, heq]
                        have hnx0 : g1 ≠ g0 := HNE01.out
                        have hnx7 : g1 ≠ g7 := by have q1 := HGE.out; have q2 := blk_lt HBG2.out; omega
                        have hnxa : g1 ≠ (ad.add kk).block := HNA.out
                        have y0 := World.new_ne W2 _ t3
                        have y1 := World.new_ne W2 _ h0
                        have y2 := World.new_ne W2 _ n0
                        go_region_held3 (fun w' => w'.cell? ⟨g0, 3, none⟩ = some (.slice (some ad) is.length c3) ∧ w'.cell? (ad.add kk) = some (.int .i64 k) ∧ w'.cell? ⟨g7, 0, none⟩ = some (.int .i64 n.f0) ∧ w'.cell? ⟨g7, 1, none⟩ = some (.string n.f1) ∧ w'.cell? ⟨g7, 2, none⟩ = some (.int .u8 n.f2.f0) ∧ w'.cell? ⟨g7, 3, none⟩ = some (.int .i64 n.f2.f1) ∧ w'.cell? ⟨g7, 4, none⟩ = some (.string n.f2.f2) ∧ w'.cell? ⟨g7, 5, none⟩ = some (.int .i64 n.f3) ∧ w'.cell? ⟨g7, 6, none⟩ = some (.int .u8 n.f4) ∧ w'.cell? ⟨g7, 7, none⟩ = some (.slice A' n.f5.length c')) (go_keep) (fail)
                        all_goals go_wp2
                        have hus : (((W2.setCell ⟨g1, 0, none⟩ (.int .i64 2)).setCell ⟨g1, 1, none⟩ (.int .i64 k)).setCell ⟨g1, 2, none⟩ (.slice (some ⟨W2.heap.size, 0, none⟩) 1 1)).heap.size = W2.heap.size := by simp [World.setCell]
                        have hlr := lit_R (w0 := w0) (W := (((W2.setCell ⟨g1, 0, none⟩ (.int .i64 2)).setCell ⟨g1, 1, none⟩ (.int .i64 k)).setCell ⟨g1, 2, none⟩ (.slice (some ⟨W2.heap.size, 0, none⟩) 1 1))) (cs := #[.int .i64 n.f0, .string n.f1, .int .u8 n.f2.f0, .int .i64 n.f2.f1, .string n.f2.f2, .int .i64 n.f3, .int .u8 n.f4, .slice A' n.f5.length c']) HKm.out rfl w.heap.size (by rw [hus]; exact HB3w.out.size)
                        rw [hus] at hlr
                        refine bodyPost_ret (results_cell_row rfl _ _ g1 47 #[.int .i64 2, .int .i64 k, .slice (some ⟨W2.heap.size, 0, none⟩) 1 1] (0, 0) _ rfl (blk_drew (blk_alloc (put3 HBG3.out _ _ _) _)) Try.underlying47 rfl (by kernel_rfl)) rfl ?_
                        exact ⟨_, rfl, hlr, below_drew1 (below_alloc (set3 HB3w.out GE1.out _ _ _) _)⟩
                  · have hltz2 : ¬ (kk : Int) < (is.length : Int) := by omega
                    have hkl : kk = is.length := by omega
                    subst hkl
                    have heq : is.findSome? (oneR L f0) = none := by have := HA.out; rwa [List.take_length] at this
                    have HS2 : Aside0 (s = (0, 0, [])) := ⟨by rw [HS1.out, heq]⟩
                    obtain ⟨r0, r1, r2⟩ := cells3 HBG2.out
                    have rf := fz36 HBG2.out
                    clear heq hgl
                    go_wp2
                    refine bodyPost_ret (results_cell_row rfl _ _ g1 47 #[.int .i64 0, .int .i64 0, .slice none 0 0] (0, 0) _ rfl (put3 HBG2.out _ _ _) Try.underlying47 rfl (by kernel_rfl)) rfl ?_
                    exact ⟨.slice none 0 0, by rw [HS2.out], by rw [HS2.out]; exact Kd.R_nil _ _ _ _ _, set3 HBW.out GE1.out _ _ _⟩
theorem stepRC (w : World) (T : List S29) (L : List S38) (HEq : ∀ A c, L.length ≤ c → EqRC L A c w) (lT : ∀ t ∈ T, t.f2.length ≤ 1000 ∧ t.f3.length ≤ 1000 ∧ (-10000 < t.f0 ∧ t.f0 < 10000) ∧ t.f1 < 10000) : StepRC w T L := by
  intro vA vc t A2 c2 A3 c3 V hl hV hC ht h2 h3 q2 q3
  obtain ⟨a, b, c, d⟩ := lT t ht
  exact stepR_walk L vA vc w hl (HEq vA vc hl) t A2 c2 A3 c3 V hV hC h2 h3 q2 q3 a b c d
theorem eqRC (L : List S38) (A : Option Addr) (c : Nat) (w : World) (hx : ∀ x ∈ L, cnt x ≤ 100000000000) (hm : L.length < 9223372036854775808) (hc : L.length ≤ c) : EqRC L A c w :=
  fun slot first V hV hC => Rf.equal_walk L A c slot first w V hV hx hm hc hC
end Go.Proofs.Ytepjcgcobaaphaa.Nd
