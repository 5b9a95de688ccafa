import Derived.Test.YtepjcgcobaaphaaPl9
namespace Go.Proofs.Ytepjcgcobaaphaa.Pl
set_option linter.unusedVariables false
set_option linter.unusedSimpArgs false
open Go.RowKit Go.Lib Go.Proofs.YtepjcgcobaaphaaW.PrintWords Go.Proofs.YtepjcgcobaaphaaW.PrintLast Go.Proofs.YtepjcgcobaaphaaW.PrintMore Go.Proofs.Ytepjcgcobaaphaa.PPa

set_option maxHeartbeats 8000000 in
set_option maxRecDepth 100000 in
theorem alive_walk (HEq : EqualC) (w : World) : Calls Try.prog 5 #[] w fun e w' => e = .returned (.bool true) ∧ Below w.heap.size w w' := by
  have HCOL : Aside0 (∀ w : World, Calls Try.prog 13 #[.int .i64 0] w fun e w' => e = .returned colV ∧ Below w.heap.size w w') := ⟨col_walk⟩
  have HE := Aside0.mk HEq
  clear HEq
  go_enter Try.func5, Try.ntmps5
  go_upto_region 2 with ((with_reducible refine gate_dst (N := 1) rfl ?_); refine box_event ?hg (N := 1) ?hd (cs := Z8) (t := 36) ?hr ?_; (case hd => rfl); (case hg => rfl); (case hr => first | (go_simp; done) | (go_simp; rfl)); intro gb hg w3 hbox hb; have HG : Aside0 (w.heap.size ≤ gb) := ⟨by rw [hg]; exact Nat.le_refl _⟩; have HBK := Aside0.mk hbox; have HB3 := Aside0.mk hb; obtain ⟨r0, r1, r2, r3, r4, r5, r6, r7⟩ := cells8 hbox; have rf := fz36 hbox; clear hg; clear hbox; clear hb)
  generalize hW : World.setCell _ ⟨gb, 7, none⟩ (.slice none 0 0) = W2
  have HW : Aside0 (W2.heap[gb]? = some (.cells oneC 36 (0, 0))) := ⟨by rw [← hW]; exact put8 HBK.out _ _ _ _ _ _ _ _⟩
  have HB2 : Aside0 (Below w.heap.size w W2) := ⟨by rw [← hW]; exact set8 HB3.out HG.out _ _ _ _ _ _ _ _⟩
  clear hW r0 r1 r2 r3 r4 r5 r6 r7 rf HB3 HBK
  obtain ⟨r0, r1, r2, r3, r4, r5, r6, r7⟩ := cells8 HW.out
  have hgl := blk_lt HW.out
  have hgl1 : gb < W2.heap.size + 1 := by omega
  go_cut [2] (fun v2 wc => ∃ (g2 b : Nat), v2 = .pointer (some ⟨g2, 0, none⟩) ∧ Aside0 (wc.heap[g2]? = some (.cells (binC ⟨#[61]⟩ b) 36 (0, 0))) ∧ Aside0 (wc.heap[b]? = some (.cells rowC 36 (0, 0))) ∧ Aside0 (wc.heap[gb]? = some (.cells oneC 36 (0, 0))) ∧ Aside0 (Below W2.heap.size W2 wc))
  case first =>
    go_region_with ((go_at_call 13; refine (HCOL.out _).mono ?_; rintro e V ⟨rfl, hb⟩; have hbx : V.heap[gb]? = some (.cells oneC 36 (0, 0)) := (by first | exact blk_below (blk_drew HW.out) hb | exact blk_below (blk_alloc (blk_drew HW.out) _) hb); have hbw : Below W2.heap.size W2 V := (by first | exact below_then (below_drew1 (Below.refl _ _)) (Nat.le_refl _) hb | exact below_then (below_alloc (below_drew1 (Below.refl W2.heap.size W2)) _) (by rw [World.size_alloc]; exact Nat.le_succ _) hb); have a0 := (cells8 hbx).1; have a1 := (cells8 hbx).2.1; have a2 := (cells8 hbx).2.2.1; have a3 := (cells8 hbx).2.2.2.1; have a4 := (cells8 hbx).2.2.2.2.1; have a5 := (cells8 hbx).2.2.2.2.2.1; have a6 := (cells8 hbx).2.2.2.2.2.2.1; have a7 := (cells8 hbx).2.2.2.2.2.2.2; have hvl := blk_lt hbx; have hvl1 : gb < V.heap.size + 1 := Nat.lt_succ_of_lt hvl; have hvl2 : gb < V.heap.size + 1 + 1 := Nat.lt_succ_of_lt hvl1; have HBX := Aside0.mk hbx; have HBV := Aside0.mk hbw; clear hbx; clear hbw; try (have hz : V.heap[W2.heap.size]? = some (.cells Z8 36 (0, 0)) := blk_below (blk_new W2.drew (.cells Z8 36 (0, 0))) hb; have z0 := (cells8 hz).1; have z1 := (cells8 hz).2.1; have z2 := (cells8 hz).2.2.1; have z3 := (cells8 hz).2.2.2.1; have z4 := (cells8 hz).2.2.2.2.1; have z5 := (cells8 hz).2.2.2.2.2.1; have z6 := (cells8 hz).2.2.2.2.2.2.1; have z7 := (cells8 hz).2.2.2.2.2.2.2; have zf := fz36 hz; have hzl := blk_lt hz; have HZ := Aside0.mk hz; clear hz); clear hb))
    all_goals
      go_wp2
      go_meet
      case rel => first
        | with_reducible exact ⟨_, _, rfl, ⟨blk_new1 _ _ _⟩, ⟨blk_alloc (blk_new _ _) _⟩, ⟨blk_alloc (blk_alloc HBX.out _) _⟩, ⟨below_alloc (below_alloc HBV.out _) _⟩⟩
        | with_reducible exact ⟨_, _, rfl, ⟨blk_alloc (blk_new _ _) _⟩, ⟨blk_new1 _ _ _⟩, ⟨blk_alloc (blk_alloc HBX.out _) _⟩, ⟨below_alloc (below_alloc HBV.out _) _⟩⟩
        | with_reducible exact ⟨_, _, rfl, ⟨blk_alloc (put8 HZ.out _ _ _ _ _ _ _ _) _⟩, ⟨blk_newS _ _ _ _ _ _ _ _ _ _ _⟩, ⟨blk_alloc (far8 HBX.out (Nat.ne_of_lt hgl) _ _ _ _ _ _ _ _) _⟩, ⟨below_alloc (set8 HBV.out (Nat.le_refl _) _ _ _ _ _ _ _ _) _⟩⟩
  case rest =>
    obtain ⟨g2, b2, rfl, HQ2, HR2, HW3, HBc⟩ := hcut
    clear r0 r1 r2 r3 r4 r5 r6 r7 hgl hgl1
    obtain ⟨W3, hW3⟩ : ∃ W, W = wc := ⟨_, rfl⟩
    subst hW3
    have HB3w := Aside0.mk (below_step HB2.out HBc.out)
    clear HB2 HBc HW
    go_upto_region 3 with (fail)
    obtain ⟨r0, r1, r2, r3, r4, r5, r6, r7⟩ := cells8 HW3.out
    have hgl := blk_lt HW3.out
    have hgl1 : gb < W3.heap.size + 1 := by omega
    go_cut [3] (fun v2 wc => ∃ (g2 b : Nat), v2 = .pointer (some ⟨g2, 0, none⟩) ∧ Aside0 (wc.heap[g2]? = some (.cells (binC ⟨#[43]⟩ b) 36 (0, 0))) ∧ Aside0 (wc.heap[b]? = some (.cells rowC 36 (0, 0))) ∧ Aside0 (wc.heap[gb]? = some (.cells oneC 36 (0, 0))) ∧ Aside0 (Below W3.heap.size W3 wc))
    case first =>
      go_region_with ((go_at_call 13; refine (HCOL.out _).mono ?_; rintro e V ⟨rfl, hb⟩; have hbx : V.heap[gb]? = some (.cells oneC 36 (0, 0)) := (by first | exact blk_below (blk_drew HW3.out) hb | exact blk_below (blk_alloc (blk_drew HW3.out) _) hb); have hbw : Below W3.heap.size W3 V := (by first | exact below_then (below_drew1 (Below.refl _ _)) (Nat.le_refl _) hb | exact below_then (below_alloc (below_drew1 (Below.refl W3.heap.size W3)) _) (by rw [World.size_alloc]; exact Nat.le_succ _) hb); have a0 := (cells8 hbx).1; have a1 := (cells8 hbx).2.1; have a2 := (cells8 hbx).2.2.1; have a3 := (cells8 hbx).2.2.2.1; have a4 := (cells8 hbx).2.2.2.2.1; have a5 := (cells8 hbx).2.2.2.2.2.1; have a6 := (cells8 hbx).2.2.2.2.2.2.1; have a7 := (cells8 hbx).2.2.2.2.2.2.2; have hvl := blk_lt hbx; have hvl1 : gb < V.heap.size + 1 := Nat.lt_succ_of_lt hvl; have hvl2 : gb < V.heap.size + 1 + 1 := Nat.lt_succ_of_lt hvl1; have HBX := Aside0.mk hbx; have HBV := Aside0.mk hbw; clear hbx; clear hbw; try (have hz : V.heap[W3.heap.size]? = some (.cells Z8 36 (0, 0)) := blk_below (blk_new W3.drew (.cells Z8 36 (0, 0))) hb; have z0 := (cells8 hz).1; have z1 := (cells8 hz).2.1; have z2 := (cells8 hz).2.2.1; have z3 := (cells8 hz).2.2.2.1; have z4 := (cells8 hz).2.2.2.2.1; have z5 := (cells8 hz).2.2.2.2.2.1; have z6 := (cells8 hz).2.2.2.2.2.2.1; have z7 := (cells8 hz).2.2.2.2.2.2.2; have zf := fz36 hz; have hzl := blk_lt hz; have HZ := Aside0.mk hz; clear hz); clear hb))
      all_goals
        go_wp2
        go_meet
        case rel => first
          | with_reducible exact ⟨_, _, rfl, ⟨blk_new1 _ _ _⟩, ⟨blk_alloc (blk_new _ _) _⟩, ⟨blk_alloc (blk_alloc HBX.out _) _⟩, ⟨below_alloc (below_alloc HBV.out _) _⟩⟩
          | with_reducible exact ⟨_, _, rfl, ⟨blk_alloc (blk_new _ _) _⟩, ⟨blk_new1 _ _ _⟩, ⟨blk_alloc (blk_alloc HBX.out _) _⟩, ⟨below_alloc (below_alloc HBV.out _) _⟩⟩
          | with_reducible exact ⟨_, _, rfl, ⟨blk_alloc (put8 HZ.out _ _ _ _ _ _ _ _) _⟩, ⟨blk_newS _ _ _ _ _ _ _ _ _ _ _⟩, ⟨blk_alloc (far8 HBX.out (Nat.ne_of_lt hgl) _ _ _ _ _ _ _ _) _⟩, ⟨below_alloc (set8 HBV.out (Nat.le_refl _) _ _ _ _ _ _ _ _) _⟩⟩
    case rest =>
      obtain ⟨g3, b3, rfl, HQ3, HR3, HW4, HBc4⟩ := hcut
      clear r0 r1 r2 r3 r4 r5 r6 r7 hgl hgl1
      obtain ⟨W4, hW4⟩ : ∃ W, W = wc := ⟨_, rfl⟩
      subst hW4
      have HQ2' := Aside0.mk (blk_below HQ2.out HBc4.out)
      have HR2' := Aside0.mk (blk_below HR2.out HBc4.out)
      have HB4 := Aside0.mk (below_step HB3w.out HBc4.out)
      clear HQ2 HR2
      have HQ2 := HQ2'
      have HR2 := HR2'
      clear HQ2' HR2'
      obtain ⟨q0, q1, q2, q3, q4, q5, q6, q7⟩ := cells8 HQ2.out
      have hgl := blk_lt HQ2.out
      have hgl1 : g2 < W4.heap.size + 1 := by omega
      have hgl2 : g2 < W4.heap.size + 1 + 1 := by omega
      clear HB3w HBc4 HW3 HW4
      go_wp2_with fail
      have k1 : ((W4.alloc (.cells #[.int .i64 0] 3)).alloc (.cells #[.int .i64 0, .int .i64 2, .slice (some ⟨W4.heap.size, 0, none⟩) 1 1, .slice none 0 0, .bool true] 29)).heap[W4.heap.size + 1]? = some (.cells #[.int .i64 0, .int .i64 2, .slice (some ⟨W4.heap.size, 0, none⟩) 1 1, .slice none 0 0, .bool true] 29 (0, 0)) := blk_new1 _ _ _
      have k0 : ((W4.alloc (.cells #[.int .i64 0] 3)).alloc (.cells #[.int .i64 0, .int .i64 2, .slice (some ⟨W4.heap.size, 0, none⟩) 1 1, .slice none 0 0, .bool true] 29)).heap[W4.heap.size]? = some (.cells #[.int .i64 0] 3 (0, 0)) := blk_alloc (blk_new _ _) _
      obtain ⟨W5, hW5⟩ : ∃ W, W = (W4.alloc (.cells #[.int .i64 0] 3)).alloc (.cells #[.int .i64 0, .int .i64 2, .slice (some ⟨W4.heap.size, 0, none⟩) 1 1, .slice none 0 0, .bool true] 29) := ⟨_, rfl⟩
      have hs5 : W4.heap.size + 1 + 1 = W5.heap.size := by rw [hW5, World.size_alloc, World.size_alloc]
      have hq5 : W5.heap[g2]? = some (.cells (binC ⟨#[61]⟩ b2) 36 (0, 0)) := by rw [hW5]; exact blk_alloc (blk_alloc HQ2.out _) _
      have hr5 : W5.heap[b2]? = some (.cells rowC 36 (0, 0)) := by rw [hW5]; exact blk_alloc (blk_alloc HR2.out _) _
      have hq6 : W5.heap[g3]? = some (.cells (binC ⟨#[43]⟩ b3) 36 (0, 0)) := by rw [hW5]; exact blk_alloc (blk_alloc HQ3.out _) _
      have hr6 : W5.heap[b3]? = some (.cells rowC 36 (0, 0)) := by rw [hW5]; exact blk_alloc (blk_alloc HR3.out _) _
      have hb5 : Below w.heap.size w W5 := by rw [hW5]; exact below_alloc (below_alloc HB4.out _) _
      rw [← hW5] at k0 k1 ⊢
      rw [hs5]
      clear hW5 hs5 HQ2 HR2 HQ3 HR3 HB4 q0 q1 q2 q3 q4 q5 q6 q7 hgl hgl1 hgl2
      have HQ2 := Aside0.mk hq5
      have HR2 := Aside0.mk hr5
      have HQ3 := Aside0.mk hq6
      have HR3 := Aside0.mk hr6
      have HT := Aside0.mk k1
      have HTK := Aside0.mk k0
      have HB5 := Aside0.mk hb5
      clear hq5 hr5 hq6 hr6 k0 k1 hb5
      have hst := steps_walk HE.out [tabT] (some ⟨W4.heap.size + 1, 0, none⟩) 1 [binN ⟨#[61]⟩] (some ⟨W5.heap.size, 0, none⟩) 1 (W5.alloc (.cells (binC ⟨#[61]⟩ b2) 36)) (row_tab (blk_alloc HT.out _) (blk_alloc HTK.out _)) (row_bin _ (blk_new W5 _) (blk_alloc HR2.out _)) (by simp) (by simp) (by intro t ht; rw [List.mem_singleton.1 ht]; simp [okT, tabT]) (by simp [binN, cntL, cnt, colN, oneN])
      rw [steps1] at hst
      have HS1 := Aside0.mk hst
      clear hst
      refine HS1.out.mono ?_
      rintro e W6 ⟨v5, rfl, hR5, hb6⟩
      obtain ⟨s5, c5, A5, n5, rfl, hs5b, hs5l, y0, y1, y2⟩ := first45 hR5
      have hb6p := below_then (below_alloc (Below.refl W5.heap.size W5) _) (by rw [World.size_alloc]; omega) hb6
      have hb6w := below_step HB5.out hb6p
      have HQ2n := Aside0.mk (blk_below HQ2.out hb6p)
      have HR2n := Aside0.mk (blk_below HR2.out hb6p)
      have HQ3n := Aside0.mk (blk_below HQ3.out hb6p)
      have HR3n := Aside0.mk (blk_below HR3.out hb6p)
      have HTn := Aside0.mk (blk_below HT.out hb6p)
      have HTKn := Aside0.mk (blk_below HTK.out hb6p)
      have HB6 := Aside0.mk hb6w
      clear HQ2 HR2 HQ3 HR3 HT HTK HB5 hb6 hb6p hb6w hR5 HS1
      obtain ⟨q0, q1, q2, q3, q4, q5, q6, q7⟩ := cells8 HQ2n.out
      obtain ⟨p0, p1, p2, p3, p4, p5, p6, p7⟩ := cells8 HQ3n.out
      have HY := Aside0.mk (And.intro y0 (And.intro y1 y2))
      clear y0 y1 y2 hs5b hs5l
      go_wp2_with fail
      have hst := steps_walk HE.out [tabT] (some ⟨W4.heap.size + 1, 0, none⟩) 1 [binN ⟨#[61]⟩, binN ⟨#[43]⟩] (some ⟨W6.heap.size, 0, none⟩) 2 _ (row_tab (blk_alloc HTn.out _) (blk_alloc HTKn.out _)) (row_bins _ _ (blk_new W6 _) (blk_alloc HR2n.out _) (blk_alloc HR3n.out _)) (by simp) (by simp) (by intro t ht; rw [List.mem_singleton.1 ht]; simp [okT, tabT]) (by simp [binN, cntL, cnt, colN, oneN])
      rw [steps2] at hst
      have HS2 := Aside0.mk hst
      clear hst q0 q1 q2 q3 q4 q5 q6 q7 p0 p1 p2 p3 p4 p5 p6 p7
      refine HS2.out.mono ?_
      rintro e W7 ⟨v6, rfl, hR6, hb7⟩
      obtain ⟨s6, c6, A6, n6, rfl, hs6b, hs6l, x0, x1, x2⟩ := first45 hR6
      have hb7p := below_then (below_alloc (Below.refl W6.heap.size W6) _) (by rw [World.size_alloc]; omega) hb7
      have y0 := bcell hb7p HY.out.1
      have y1 := bcell hb7p HY.out.2.1
      have y2 := bcell hb7p HY.out.2.2
      have hb7w := below_step HB6.out hb7p
      have HQ2 := Aside0.mk (blk_below HQ2n.out hb7p)
      have HR2 := Aside0.mk (blk_below HR2n.out hb7p)
      have HQ3 := Aside0.mk (blk_below HQ3n.out hb7p)
      have HR3 := Aside0.mk (blk_below HR3n.out hb7p)
      have HB7 := Aside0.mk hb7w
      clear HQ2n HR2n HQ3n HR3n HTn HTKn HB6 hb7 hb7p hb7w hR6 HS2 HY hs6b hs6l
      obtain ⟨q0, q1, q2, q3, q4, q5, q6, q7⟩ := cells8 HQ2.out
      have HSF1 := Aside0.mk (safeC (x := binN ⟨#[61]⟩) (A := some ⟨b2, 0, none⟩) (c := 2) (w := W7) (by simp [binN, cnt, cntL, colN, oneN]) (Nat.le_refl 2) (row_colone HR2.out))
      go_wp2_with fail
      rw [safe1] at HSF1
      refine HSF1.out.mono ?_
      rintro e W8 ⟨rfl, hb8⟩
      have HQ38 := Aside0.mk (blk_below HQ3.out hb8)
      have HR38 := Aside0.mk (blk_below HR3.out hb8)
      obtain ⟨p0, p1, p2, p3, p4, p5, p6, p7⟩ := cells8 HQ38.out
      have HB8 := Aside0.mk (below_step HB7.out hb8)
      have HSF2 := Aside0.mk (safeC (x := binN ⟨#[43]⟩) (A := some ⟨b3, 0, none⟩) (c := 2) (w := W8) (by simp [binN, cnt, cntL, colN, oneN]) (Nat.le_refl 2) (row_colone HR38.out))
      clear hb8 q0 q1 q2 q3 q4 q5 q6 q7
      rw [safe2] at HSF2
      go_wp2_with fail
      refine HSF2.out.mono ?_
      rintro e W9 ⟨rfl, hb9⟩
      have HB9 := Aside0.mk (below_step HB8.out hb9)
      clear hb9
      go_wp2
      go_ret
      exact ⟨rfl, HB9.out⟩

end Go.Proofs.Ytepjcgcobaaphaa.Pl
