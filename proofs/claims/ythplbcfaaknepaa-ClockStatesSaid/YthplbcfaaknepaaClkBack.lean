import Derived.Test.YthplbcfaaknepaaClkPlain
import Derived.Deep.DeepCutAuto
import Derived.Deep.RegionHeld3
namespace Go.Proofs.Ythplbcfaaknepaa
set_option linter.unusedVariables false
set_option linter.unusedSimpArgs false
open Go.RowKit Go.Proofs.YthplbcfaaknepaaW.PrintWords
attribute [local go_sem ↓ high] exec_alloc24 exec_build24 exec_box24
attribute [local go_sem] boxed_arr
theorem stored24 {V V2 V3 : World} {X Y : List Int} (hb : Below V.heap.size V V2) (h : V3 = (V2.alloc (blk Y)).setRow V2.heap.size (vals X)) :
    V3.heap[V2.heap.size]? = some (.cells (vals X) 24 (0, 0)) ∧ V.heap.size ≤ V2.heap.size ∧ (∀ k, k < V.heap.size → V3.heap[k]? = V.heap[k]?) ∧ V3.heap.size = V2.heap.size + 1 ∧ Below V.heap.size V V3 := by
  subst h
  have z := hb.size
  refine ⟨setRow_heap _ _ _ _ _ _ (new_at _ _ _ rfl), z, fun k hk => ?_, by simp, below_setRow (below_alloc hb _) z _⟩
  rw [setRow_other _ _ _ _ (by omega), heap_alloc_old _ _ (by omega)]
  exact hb.block _ hk
theorem stored23 {V V2 V3 : World} {cs : Array Value} (hb : Below V.heap.size V V2) (h : V3 = V2.alloc (.cells cs 23)) :
    V3.heap[V2.heap.size]? = some (.cells cs 23 (0, 0)) ∧ V.heap.size ≤ V2.heap.size ∧ (∀ k, k < V.heap.size → V3.heap[k]? = V.heap[k]?) ∧ V3.heap.size = V2.heap.size + 1 ∧ Below V.heap.size V V3 := by
  subst h
  have z := hb.size
  refine ⟨heap_alloc_new _ _, z, fun k hk => ?_, by simp, below_alloc hb _⟩
  rw [heap_alloc_old _ _ (by omega)]
  exact hb.block _ hk
theorem cell0 {V : World} {g : Nat} {x y : Value} (h : V.heap[g]? = some (.cells #[x, y] 23 (0, 0))) : V.cell? ⟨g, 0, none⟩ = some x := by rw [cell_of_row _ _ _ _ _ _ h]; rfl
theorem cell1 {V : World} {g : Nat} {x y : Value} (h : V.heap[g]? = some (.cells #[x, y] 23 (0, 0))) : V.cell? ⟨g, 1, none⟩ = some y := by rw [cell_of_row _ _ _ _ _ _ h]; rfl

set_option maxHeartbeats 3200000 in
set_option maxRecDepth 100000 in
theorem back_any (a r : Int) (a1 : -9223372036854775808 ≤ a) (a2 : a ≤ 9223372036854775807) (bs : List Int) (hl : bs.length = 64) (hB : Bytes bs) (w : World) (h0 : 0 ≤ r) (h1 : r < 4096) :
    Calls Try.prog 4 #[.agg #[.int .i64 a, .int .i64 r], arr bs] w fun e w' => e = .returned (.bool true) ∧ Below w.heap.size w w' := by
  have HL := Lib.hid hl
  have RQ := Lib.hid (readS_rng bs hl hB)
  have RK := Lib.hid (readS_back bs)
  have hrd : ∀ W, Calls Try.prog 11 #[arr bs] W (RdPost (readS bs) W) := fun W => read_all bs hl hB W
  obtain ⟨p, q, c, hx⟩ : ∃ p q c, readS bs = (p, q, c) := ⟨_, _, _, rfl⟩
  rw [hx] at RQ RK hrd
  have RD := Lib.hid hrd
  have RW : Hid (∀ W, Calls Try.prog 11 #[arr (wbytes a r)] W (RdPost (a, r, 0) W)) := by
    intro W
    have := read_all _ (wbytes_len a r) (bytes_wbytes a r) W
    rwa [readS_w a r a1 a2 h0 h1] at this
  obtain ⟨q0, q1⟩ := RQ.out
  dsimp only at q0 q1
  clear hl hB hx hrd
  go_enter Try.func4, Try.ntmps4
  go_upto_region 1 with (fail)
  obtain ⟨V, hV⟩ : ∃ V, V = (w.alloc (.cells #[.int .i64 a, .int .i64 r] 23)).alloc (blk bs) := ⟨_, rfl⟩
  have v1 : V.heap[w.heap.size]? = some (.cells #[.int .i64 a, .int .i64 r] 23 (0, 0)) := by subst hV; rw [heap_alloc_old]; exact heap_alloc_new _ _; simp
  have v2 : V.heap[w.heap.size + 1]? = some (.cells (vals bs) 24 (0, 0)) := by subst hV; exact new_at _ _ _ (by simp)
  have v3 : Below w.heap.size w V := by subst hV; exact below_alloc (below_alloc (Below.refl _ _) _) _
  have v4 : V.heap.size = w.heap.size + 2 := by subst hV; simp
  have c0 := cell0 v1
  have c1 := cell1 v1
  have V1 := Lib.hid v1
  have V2 := Lib.hid v2
  have V3 := Lib.hid v3
  have V4 := Lib.hid v4
  rw [← hV]
  clear hV v1 v2 v3 v4
  go_upto_region 2 with (first | (go_at_call 9; refine (write_any _ _ _ h0 h1).mono ?_; rintro e X1 ⟨rfl, hb1⟩) | (refine list_go rfl fun K hK => oper_store24 (.tmp 5) (.tmp 16) rfl _ rfl (wbytes a r) zs rfl (wbytes_len _ _) rfl (new_at _ _ _ rfl) (hK _ _ ?_)))
  obtain ⟨Y1, hY⟩ : ∃ Y1, Y1 = (X1.alloc (blk zs)).setRow X1.heap.size (vals (wbytes a r)) := ⟨_, rfl⟩
  obtain ⟨y1, y2, y3, y4, y5⟩ := stored24 hb1 hY
  have z1 := (y3 w.heap.size (by have := V4.out; omega)).trans V1.out
  have z2 := (y3 (w.heap.size + 1) (by have := V4.out; omega)).trans V2.out
  have zz : w.heap.size + 3 ≤ Y1.heap.size := by have := V4.out; omega
  have d0 := cell0 z1
  have d1 := cell1 z1
  have Y1' := Lib.hid y1
  have Y2 := Lib.hid y2
  have Z1 := Lib.hid z1
  have Z2 := Lib.hid z2
  have Y4 := Lib.hid y4
  have Y5 := Lib.hid (V3.out.trans (y5.mono (by have := V4.out; omega)))
  rw [← hY]
  clear hY y1 y2 y3 y4 y5 hb1 c0 c1 z1 z2
  go_upto_region 6 with (first | (refine list_go rfl fun K hK => oper_load24 (.tmp 5) rfl _ rfl _ (wbytes_len _ _) Y1'.out (hK _ _ ?_)) | (go_at_call 11; refine (RW.out _).mono ?_; rintro e X2 ⟨rfl, hb2⟩; have zx2 : w.heap.size < X2.heap.size := (by have := hb2.size; omega); have e0 := (hb2.cell (p := ⟨w.heap.size, 0, none⟩) (by show w.heap.size < _; omega)).trans d0; have e1 := (hb2.cell (p := ⟨w.heap.size, 1, none⟩) (by show w.heap.size < _; omega)).trans d1))
  obtain ⟨U, hU⟩ : ∃ U, U = X2.alloc (.cells #[.int .i64 a, .int .i64 r] 23) := ⟨_, rfl⟩
  obtain ⟨u1, u2, u3, u4, u5⟩ := stored23 hb2 hU
  have U1 := Lib.hid ((u3 w.heap.size (by omega)).trans Z1.out)
  have U2 := Lib.hid ((u3 (w.heap.size + 1) (by omega)).trans Z2.out)
  have U3 := Lib.hid (Y5.out.trans (u5.mono (by omega)))
  have uz : w.heap.size + 3 ≤ U.heap.size := by omega
  rw [← hU]
  clear hU u1 u2 u3 u4 u5 hb2 e0 e1 d0 d1 zx2 zz
  go_upto_region 7 with (first | (refine list_go rfl fun K hK => oper_load24 (.tmp 3) rfl _ rfl bs HL.out U2.out (hK _ _ ?_)) | (go_at_call 11; refine (RD.out _).mono ?_; rintro e X3 ⟨rfl, hb3⟩))
  obtain ⟨T, hT⟩ : ∃ T, T = X3.alloc (.cells #[.int .i64 p, .int .i64 q] 23) := ⟨_, rfl⟩
  obtain ⟨t1, t2, t3, t4, t5⟩ := stored23 hb3 hT
  have T0 := Lib.hid ((t3 w.heap.size (by omega)).trans U1.out)
  have T1 := Lib.hid ((t3 (w.heap.size + 1) (by omega)).trans U2.out)
  have T2 := Lib.hid t1
  have T3 := Lib.hid (U3.out.trans (t5.mono (by omega)))
  have g0 := cell0 t1
  have g1 := cell1 t1
  have tz : w.heap.size + 3 ≤ X3.heap.size := by omega
  have tz2 : X3.heap.size < T.heap.size := by omega
  rw [← hT]
  clear hT t1 t2 t3 t4 t5 hb3
  go_upto_region 8 with (first | (go_at_call 9; refine (write_any _ _ _ q0 q1).mono ?_; rintro e X4 ⟨rfl, hb4⟩) | (refine list_go rfl fun K hK => oper_store24 (.tmp 11) (.tmp 40) rfl _ rfl (wbytes p q) zs rfl (wbytes_len _ _) rfl (new_at _ _ _ rfl) (hK _ _ ?_)))
  obtain ⟨S, hS⟩ : ∃ S, S = (X4.alloc (blk zs)).setRow X4.heap.size (vals (wbytes p q)) := ⟨_, rfl⟩
  obtain ⟨s1, s2, s3, s4, s5⟩ := stored24 hb4 hS
  have S0 := Lib.hid ((s3 w.heap.size (by omega)).trans T0.out)
  have S1 := Lib.hid ((s3 (w.heap.size + 1) (by omega)).trans T1.out)
  have S2 := Lib.hid s1
  have S3 := Lib.hid (T3.out.trans (s5.mono (by omega)))
  have sz : w.heap.size + 3 ≤ X4.heap.size := by omega
  have sz2 : X4.heap.size < S.heap.size := by omega
  rw [← hS]
  clear hS s1 s2 s3 s4 s5 hb4 g0 g1
  go_wp2_with fail
  refine (alive_any _).mono ?_
  rintro e X5 ⟨rfl, hb5⟩
  have k1 := (hb5.cell (p := ⟨w.heap.size, 1, none⟩) (by show w.heap.size < _; omega)).trans (cell1 S0.out)
  have K3 := Lib.hid ((hb5.block (w.heap.size + 1) (by omega)).trans S1.out)
  have K4 := Lib.hid ((hb5.block X4.heap.size (by omega)).trans S2.out)
  have K5 := Lib.hid (S3.out.trans (hb5.mono (by omega)))
  clear hb5
  by_cases hc : c = 0
  · subst hc
    by_cases hz : bs = zs
    · have hz' : (bs == zs) = true := by simpa using hz
      clear hz
      go_wp2_with (first | (refine list_go rfl fun K hK => oper_load24 (.tmp 3) rfl _ rfl bs HL.out K3.out (hK _ _ ?_)) | (refine list_go rfl fun K hK => oper_build24 rfl (hK _ _ ?_)) | (refine list_go rfl fun K hK => oper_eq24 (.tmp 60) (.tmp 61) 24 rfl bs zs rfl rfl HL.out rfl (hK _ _ ?_)))
      go_ret
      exact ⟨rfl, K5.out⟩
    · have hz' : (bs == zs) = false := by simpa using hz
      have hw : (wbytes p q == bs) = true := by rw [RK.out rfl hz]; simp
      clear hz
      go_wp2_with (first | (refine list_go rfl fun K hK => oper_load24 (.tmp 3) rfl _ rfl bs HL.out K3.out (hK _ _ ?_)) | (refine list_go rfl fun K hK => oper_build24 rfl (hK _ _ ?_)) | (refine list_go rfl fun K hK => oper_eq24 (.tmp 60) (.tmp 61) 24 rfl bs zs rfl rfl HL.out rfl (hK _ _ ?_)) | (refine list_go rfl fun K hK => oper_load24 (.tmp 11) rfl _ rfl _ (wbytes_len _ _) K4.out (hK _ _ ?_)) | (refine list_go rfl fun K hK => oper_eq24 (.tmp 68) (.tmp 69) 24 rfl (wbytes p q) bs rfl rfl (wbytes_len _ _) HL.out (hK _ _ ?_)))
      go_ret
      exact ⟨rfl, K5.out⟩
  · have hc' : (c != 0) = true := by simpa using hc
    clear hc
    go_wp2
    go_ret
    exact ⟨rfl, K5.out⟩

end Go.Proofs.Ythplbcfaaknepaa
