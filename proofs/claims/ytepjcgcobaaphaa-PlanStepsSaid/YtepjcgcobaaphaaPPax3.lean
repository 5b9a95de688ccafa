-- PRINTED BY A PROGRAM (print.py of the kit)
import Derived.Test.YtepjcgcobaaphaaPPax0
import Derived.Test.YtepjcgcobaaphaaPPax1
namespace Go.Proofs.Ytepjcgcobaaphaa.PPa
open Go.RowKit Go.Proofs.YtepjcgcobaaphaaW.PrintWords Go.Proofs.YtepjcgcobaaphaaW.PrintLast Go.Proofs.YtepjcgcobaaphaaW.PrintMore
attribute [local go_sem] max2_int min2_int max_two min_two max_three min_three max_four min_four   -- for this text's walks alone
set_option linter.unusedVariables false
set_option linter.unusedSimpArgs false

attribute [local go_sem high] eqA34
/-! ### hindsightref22_Same: function 22 -/
mutual
def hindsightref22_Same.j0 : Nat → Bool → Int → ByteArray → Int → Int → ByteArray → Int → Int → List (S38) → Int → ByteArray → Int → Int → ByteArray → Int → Int → List (S38) → Option (Bool)
  | 0, _, _, _, _, _, _, _, _, _, _, _, _, _, _, _, _, _ => none
  | k + 1, x47, x119000, x119001, x119002, x119003, x119004, x119005, x119006, x119007, x120000, x120001, x120002, x120003, x120004, x120005, x120006, x120007 => if x47 = true then (some false) else (hindsightref22_Same.l0 k 0 x119000 x119001 x119002 x119003 x119004 x119005 x119006 x119007 x120000 x120001 x120002 x120003 x120004 x120005 x120006 x120007)
def hindsightref22_Same.l0 : Nat → Int → Int → ByteArray → Int → Int → ByteArray → Int → Int → List (S38) → Int → ByteArray → Int → Int → ByteArray → Int → Int → List (S38) → Option (Bool)
  | 0, _, _, _, _, _, _, _, _, _, _, _, _, _, _, _, _, _ => none
  | k + 1, x5, x119000, x119001, x119002, x119003, x119004, x119005, x119006, x119007, x120000, x120001, x120002, x120003, x120004, x120005, x120006, x120007 => if x5 < (x119007.length : Int) then (if 0 ≤ x5 then (if x5 < (x120007.length : Int) then ((hindsightref22_Same.f k ((rd_T38 x119007 x5).f0) ((rd_T38 x119007 x5).f1) ((rd_T38 x119007 x5).f2.f0) ((rd_T38 x119007 x5).f2.f1) ((rd_T38 x119007 x5).f2.f2) ((rd_T38 x119007 x5).f3) ((rd_T38 x119007 x5).f4) ((rd_T38 x119007 x5).f5) ((rd_T38 x120007 x5).f0) ((rd_T38 x120007 x5).f1) ((rd_T38 x120007 x5).f2.f0) ((rd_T38 x120007 x5).f2.f1) ((rd_T38 x120007 x5).f2.f2) ((rd_T38 x120007 x5).f3) ((rd_T38 x120007 x5).f4) ((rd_T38 x120007 x5).f5)).bind fun t122 => (if t122 = true then (hindsightref22_Same.l0 k (wrap64 (x5 + 1)) x119000 x119001 x119002 x119003 x119004 x119005 x119006 x119007 x120000 x120001 x120002 x120003 x120004 x120005 x120006 x120007) else (some false))) else (none)) else (none)) else (some true)
def hindsightref22_Same.f : Nat → Int → ByteArray → Int → Int → ByteArray → Int → Int → List (S38) → Int → ByteArray → Int → Int → ByteArray → Int → Int → List (S38) → Option (Bool)
  | 0, _, _, _, _, _, _, _, _, _, _, _, _, _, _, _, _ => none
  | k + 1, a0_0, a0_1, a0_2, a0_3, a0_4, a0_5, a0_6, l0_7, a1_0, a1_1, a1_2, a1_3, a1_4, a1_5, a1_6, l1_7 => if a0_0 = a1_0 then (if a0_1.toList = a1_1.toList then (if (!(a0_2 == a1_2) || (!(a0_3 == a1_3) || (!(a0_4.toList == a1_4.toList)))) = true then (hindsightref22_Same.j0 k true a0_0 a0_1 a0_2 a0_3 a0_4 a0_5 a0_6 l0_7 a1_0 a1_1 a1_2 a1_3 a1_4 a1_5 a1_6 l1_7) else (if a0_5 = a1_5 then (if a0_6 = a1_6 then (hindsightref22_Same.j0 k ((l0_7.length : Int) != (l1_7.length : Int)) a0_0 a0_1 a0_2 a0_3 a0_4 a0_5 a0_6 l0_7 a1_0 a1_1 a1_2 a1_3 a1_4 a1_5 a1_6 l1_7) else (hindsightref22_Same.j0 k true a0_0 a0_1 a0_2 a0_3 a0_4 a0_5 a0_6 l0_7 a1_0 a1_1 a1_2 a1_3 a1_4 a1_5 a1_6 l1_7)) else (hindsightref22_Same.j0 k true a0_0 a0_1 a0_2 a0_3 a0_4 a0_5 a0_6 l0_7 a1_0 a1_1 a1_2 a1_3 a1_4 a1_5 a1_6 l1_7))) else (hindsightref22_Same.j0 k true a0_0 a0_1 a0_2 a0_3 a0_4 a0_5 a0_6 l0_7 a1_0 a1_1 a1_2 a1_3 a1_4 a1_5 a1_6 l1_7)) else (hindsightref22_Same.j0 k true a0_0 a0_1 a0_2 a0_3 a0_4 a0_5 a0_6 l0_7 a1_0 a1_1 a1_2 a1_3 a1_4 a1_5 a1_6 l1_7)
end
theorem hindsightref22_Same.mono_l : ∀ k, (∀ y0 y1 y2 y3 y4 y5 y6 y7 y8 y9 y10 y11 y12 y13 y14 y15, LeO (hindsightref22_Same.f k y0 y1 y2 y3 y4 y5 y6 y7 y8 y9 y10 y11 y12 y13 y14 y15) (hindsightref22_Same.f (k + 1) y0 y1 y2 y3 y4 y5 y6 y7 y8 y9 y10 y11 y12 y13 y14 y15)) ∧ (∀ y0 y1 y2 y3 y4 y5 y6 y7 y8 y9 y10 y11 y12 y13 y14 y15 y16, LeO (hindsightref22_Same.j0 k y0 y1 y2 y3 y4 y5 y6 y7 y8 y9 y10 y11 y12 y13 y14 y15 y16) (hindsightref22_Same.j0 (k + 1) y0 y1 y2 y3 y4 y5 y6 y7 y8 y9 y10 y11 y12 y13 y14 y15 y16)) ∧ (∀ y0 y1 y2 y3 y4 y5 y6 y7 y8 y9 y10 y11 y12 y13 y14 y15 y16, LeO (hindsightref22_Same.l0 k y0 y1 y2 y3 y4 y5 y6 y7 y8 y9 y10 y11 y12 y13 y14 y15 y16) (hindsightref22_Same.l0 (k + 1) y0 y1 y2 y3 y4 y5 y6 y7 y8 y9 y10 y11 y12 y13 y14 y15 y16))
  | 0 => ⟨fun _ _ _ _ _ _ _ _ _ _ _ _ _ _ _ _ r h => by simp [hindsightref22_Same.f] at h, fun _ _ _ _ _ _ _ _ _ _ _ _ _ _ _ _ _ r h => by simp [hindsightref22_Same.j0] at h, fun _ _ _ _ _ _ _ _ _ _ _ _ _ _ _ _ _ r h => by simp [hindsightref22_Same.l0] at h⟩
  | k + 1 => by
    obtain ⟨ih0, ih1, ih2⟩ := hindsightref22_Same.mono_l k
    refine ⟨?_, ?_, ?_⟩
    · intro y0 y1 y2 y3 y4 y5 y6 y7 y8 y9 y10 y11 y12 y13 y14 y15
      unfold hindsightref22_Same.f
      repeat' first
      | (with_reducible exact ih0 _ _ _ _ _ _ _ _ _ _ _ _ _ _ _ _)
      | (with_reducible exact ih1 _ _ _ _ _ _ _ _ _ _ _ _ _ _ _ _ _)
      | (with_reducible exact ih2 _ _ _ _ _ _ _ _ _ _ _ _ _ _ _ _ _)
      | (with_reducible exact LeO.refl _)
      | (with_reducible exact LeO.none _)
      | (with_reducible refine LeO.ite ?_ ?_)
      | (with_reducible refine LeO.bind ?_ (fun _ => ?_))
      | exact ih0 _ _ _ _ _ _ _ _ _ _ _ _ _ _ _ _
      | exact ih1 _ _ _ _ _ _ _ _ _ _ _ _ _ _ _ _ _
      | exact ih2 _ _ _ _ _ _ _ _ _ _ _ _ _ _ _ _ _
      | exact LeO.none _
      | refine LeO.ite ?_ ?_
      | refine LeO.bind ?_ (fun _ => ?_)
    · intro y0 y1 y2 y3 y4 y5 y6 y7 y8 y9 y10 y11 y12 y13 y14 y15 y16
      unfold hindsightref22_Same.j0
      repeat' first
      | (with_reducible exact ih0 _ _ _ _ _ _ _ _ _ _ _ _ _ _ _ _)
      | (with_reducible exact ih1 _ _ _ _ _ _ _ _ _ _ _ _ _ _ _ _ _)
      | (with_reducible exact ih2 _ _ _ _ _ _ _ _ _ _ _ _ _ _ _ _ _)
      | (with_reducible exact LeO.refl _)
      | (with_reducible exact LeO.none _)
      | (with_reducible refine LeO.ite ?_ ?_)
      | (with_reducible refine LeO.bind ?_ (fun _ => ?_))
      | exact ih0 _ _ _ _ _ _ _ _ _ _ _ _ _ _ _ _
      | exact ih1 _ _ _ _ _ _ _ _ _ _ _ _ _ _ _ _ _
      | exact ih2 _ _ _ _ _ _ _ _ _ _ _ _ _ _ _ _ _
      | exact LeO.none _
      | refine LeO.ite ?_ ?_
      | refine LeO.bind ?_ (fun _ => ?_)
    · intro y0 y1 y2 y3 y4 y5 y6 y7 y8 y9 y10 y11 y12 y13 y14 y15 y16
      unfold hindsightref22_Same.l0
      repeat' first
      | (with_reducible exact ih0 _ _ _ _ _ _ _ _ _ _ _ _ _ _ _ _)
      | (with_reducible exact ih1 _ _ _ _ _ _ _ _ _ _ _ _ _ _ _ _ _)
      | (with_reducible exact ih2 _ _ _ _ _ _ _ _ _ _ _ _ _ _ _ _ _)
      | (with_reducible exact LeO.refl _)
      | (with_reducible exact LeO.none _)
      | (with_reducible refine LeO.ite ?_ ?_)
      | (with_reducible refine LeO.bind ?_ (fun _ => ?_))
      | exact ih0 _ _ _ _ _ _ _ _ _ _ _ _ _ _ _ _
      | exact ih1 _ _ _ _ _ _ _ _ _ _ _ _ _ _ _ _ _
      | exact ih2 _ _ _ _ _ _ _ _ _ _ _ _ _ _ _ _ _
      | exact LeO.none _
      | refine LeO.ite ?_ ?_
      | refine LeO.bind ?_ (fun _ => ?_)
theorem hindsightref22_Same.mono : ∀ a0 a1 a2 a3 a4 a5 a6 a7 a8 a9 a10 a11 a12 a13 a14 a15 k, LeO (hindsightref22_Same.f k a0 a1 a2 a3 a4 a5 a6 a7 a8 a9 a10 a11 a12 a13 a14 a15) (hindsightref22_Same.f (k + 1) a0 a1 a2 a3 a4 a5 a6 a7 a8 a9 a10 a11 a12 a13 a14 a15) := by
  intro a0 a1 a2 a3 a4 a5 a6 a7 a8 a9 a10 a11 a12 a13 a14 a15 k
  obtain ⟨ih0, ih1, ih2⟩ := hindsightref22_Same.mono_l k
  exact ih0 a0 a1 a2 a3 a4 a5 a6 a7 a8 a9 a10 a11 a12 a13 a14 a15
def hindsightref22_Same.T6 : Bool × List (List Nat × List Nat) := (true, [([], []), ([0], [0]), ([], []), ([1, 2], [1, 2]), ([3], [3]), ([], []), ([5], [5]), ([], []), ([6, 7], [6, 7]), ([8], [8]), ([4, 9], [4, 9]), ([10], [10])])
def hindsightref22_Same.B6 : List Nat := [0, 1, 0, 7, 15, 0, 32, 0, 224, 480, 1023, 2047]
theorem hindsightref22_Same.tab6 : rtab .any (opsOf Try.f22 6) = hindsightref22_Same.T6 := by kernel_rfl
theorem hindsightref22_Same.bits6 : waitsOk hindsightref22_Same.T6.2 hindsightref22_Same.B6 = true := by kernel_rfl
set_option maxHeartbeats 8000000 in
set_option maxRecDepth 100000 in
theorem hindsightref22_Same.calls (k : Nat) : ∀ (a0_0 : Int) (a0_1 : ByteArray) (a0_2 : Int) (a0_3 : Int) (a0_4 : ByteArray) (a0_5 : Int) (a0_6 : Int) (A0_7 : Option Addr) (c0_7 : Nat) (l0_7 : List (S38)) (a1_0 : Int) (a1_1 : ByteArray) (a1_2 : Int) (a1_3 : Int) (a1_4 : ByteArray) (a1_5 : Int) (a1_6 : Int) (A1_7 : Option Addr) (c1_7 : Nat) (l1_7 : List (S38)) (r : Bool) (w : World) (hr0_7 : Kd.C k38 w A0_7 l0_7.length l0_7) (hc0_7 : l0_7.length ≤ c0_7) (hr1_7 : Kd.C k38 w A1_7 l1_7.length l1_7) (hc1_7 : l1_7.length ≤ c1_7) (h : hindsightref22_Same.f k a0_0 a0_1 a0_2 a0_3 a0_4 a0_5 a0_6 l0_7 a1_0 a1_1 a1_2 a1_3 a1_4 a1_5 a1_6 l1_7 = some r),
    Calls Try.prog 22 #[.agg #[.int .i64 a0_0, .string a0_1, .int .u8 a0_2, .int .i64 a0_3, .string a0_4, .int .i64 a0_5, .int .u8 a0_6, .slice A0_7 l0_7.length c0_7], .agg #[.int .i64 a1_0, .string a1_1, .int .u8 a1_2, .int .i64 a1_3, .string a1_4, .int .i64 a1_5, .int .u8 a1_6, .slice A1_7 l1_7.length c1_7]] w fun e w' => e = .returned (.bool r) ∧ Below w.heap.size w w' := by
  induction k using Nat.strongRecOn with
  | _ k ih =>
  intro a0_0 a0_1 a0_2 a0_3 a0_4 a0_5 a0_6 A0_7 c0_7 l0_7 a1_0 a1_1 a1_2 a1_3 a1_4 a1_5 a1_6 A1_7 c1_7 l1_7 r w hr0_7 hc0_7 hr1_7 hc1_7 h
  cases k with
  | zero => exact absurd h (by simp [hindsightref22_Same.f])
  | succ k =>
  simp only [hindsightref22_Same.f] at h
  have hu38 := Try.underlying38
  have hu34 := Try.underlying34
  have HR0_7 := Aside0.mk hr0_7
  have HC0_7 := Aside0.mk hc0_7
  clear hr0_7 hc0_7
  have HR1_7 := Aside0.mk hr1_7
  have HC1_7 := Aside0.mk hc1_7
  clear hr1_7 hc1_7
  have HB := Aside0.mk (Below.refl w.heap.size w)
  have H : (if a0_0 = a1_0 then (if a0_1.toList = a1_1.toList then (if (!(a0_2 == a1_2) || (!(a0_3 == a1_3) || (!(a0_4.toList == a1_4.toList)))) = true then (hindsightref22_Same.j0 k true a0_0 a0_1 a0_2 a0_3 a0_4 a0_5 a0_6 l0_7 a1_0 a1_1 a1_2 a1_3 a1_4 a1_5 a1_6 l1_7) else (if a0_5 = a1_5 then (if a0_6 = a1_6 then (hindsightref22_Same.j0 k ((l0_7.length : Int) != (l1_7.length : Int)) a0_0 a0_1 a0_2 a0_3 a0_4 a0_5 a0_6 l0_7 a1_0 a1_1 a1_2 a1_3 a1_4 a1_5 a1_6 l1_7) else (hindsightref22_Same.j0 k true a0_0 a0_1 a0_2 a0_3 a0_4 a0_5 a0_6 l0_7 a1_0 a1_1 a1_2 a1_3 a1_4 a1_5 a1_6 l1_7)) else (hindsightref22_Same.j0 k true a0_0 a0_1 a0_2 a0_3 a0_4 a0_5 a0_6 l0_7 a1_0 a1_1 a1_2 a1_3 a1_4 a1_5 a1_6 l1_7))) else (hindsightref22_Same.j0 k true a0_0 a0_1 a0_2 a0_3 a0_4 a0_5 a0_6 l0_7 a1_0 a1_1 a1_2 a1_3 a1_4 a1_5 a1_6 l1_7)) else (hindsightref22_Same.j0 k true a0_0 a0_1 a0_2 a0_3 a0_4 a0_5 a0_6 l0_7 a1_0 a1_1 a1_2 a1_3 a1_4 a1_5 a1_6 l1_7)) = some r := h
  clear h
  have HC3 := Aside0.mk H
  clear H
  go_enter Try.func22, Try.ntmps22
  go_upto_region 1 with (first | ((with_reducible refine gate_dst (N := 2) rfl ?_); (try (refine gate_guard (by rfl) ?_; dsimp only)); refine box_event ?hg (N := 2) ?hd (cs := #[.int .i64 a0_0, .string a0_1, .int .u8 a0_2, .int .i64 a0_3, .string a0_4, .int .i64 a0_5, .int .u8 a0_6, .slice A0_7 l0_7.length c0_7]) (t := 38) ?hr ?_; (case hd => rfl); (case hg => rfl); (case hr => first | (go_simp; done) | (go_simp; rfl)); intro gb118 hg w4 hbox hb; have n0_ := Aside0.mk (below_step (by repeat (first | (with_reducible first | exact HB.out | apply below_alloc | apply pw_below_drewN | apply below_drew1) | exact HB.out)) hb); have n1_ := Aside0.mk (hbox); have n2_ := Aside0.mk ((by rw [hg]; exact (below_size (by repeat (first | (with_reducible first | exact HB.out | apply below_alloc | apply pw_below_drewN | apply below_drew1) | exact HB.out))) : w.heap.size ≤ gb118)); have n3_ := Aside0.mk ((by rw [hg]; exact (below_size (by repeat (first | (with_reducible first | exact HB.out | apply below_alloc | apply pw_below_drewN | apply below_drew1) | exact HB.out))) : w.heap.size ≤ gb118)); clear HB; have HB := n0_; have BK118 := n1_; have GW118 := n2_; have GE118 := n3_; clear n0_ n1_ n2_ n3_; clear hb hbox hg) | ((with_reducible refine gate_dst (N := 3) rfl ?_); (try (refine gate_guard (by rfl) ?_; dsimp only)); refine box_event ?hg (N := 3) ?hd (cs := #[.int .i64 a1_0, .string a1_1, .int .u8 a1_2, .int .i64 a1_3, .string a1_4, .int .i64 a1_5, .int .u8 a1_6, .slice A1_7 l1_7.length c1_7]) (t := 38) ?hr ?_; (case hd => rfl); (case hg => rfl); (case hr => first | (go_simp; done) | (go_simp; rfl)); intro gb119 hg w5 hbox hb; have n0_ := Aside0.mk (blk_below (g := gb118) (o := .cells #[.int .i64 a0_0, .string a0_1, .int .u8 a0_2, .int .i64 a0_3, .string a0_4, .int .i64 a0_5, .int .u8 a0_6, .slice A0_7 l0_7.length c0_7] 38 (0, 0)) (by (with_reducible repeat (first | refine blk_drewN ?_ _ | refine blk_drew ?_ | refine blk_alloc ?_ _)); exact BK118.out) hb); have n1_ := Aside0.mk (below_step (by repeat (first | (with_reducible first | exact HB.out | apply below_alloc | apply pw_below_drewN | apply below_drew1 | refine below_set ?_ GE118.out) | exact HB.out)) hb); have n2_ := Aside0.mk (hbox); have n3_ := Aside0.mk ((by rw [hg]; exact (below_size (by repeat (first | (with_reducible first | exact HB.out | apply below_alloc | apply pw_below_drewN | apply below_drew1 | refine below_set ?_ GE118.out) | exact HB.out))) : w.heap.size ≤ gb119)); have n4_ := Aside0.mk ((by rw [hg]; exact (below_size (by repeat (first | (with_reducible first | exact HB.out | apply below_alloc | apply pw_below_drewN | apply below_drew1 | refine below_set ?_ GE118.out) | exact HB.out))) : w.heap.size ≤ gb119)); have n5_ := Aside0.mk ((by rw [hg]; exact Nat.ne_of_lt (blk_lt (g := gb118) (o := .cells #[.int .i64 a0_0, .string a0_1, .int .u8 a0_2, .int .i64 a0_3, .string a0_4, .int .i64 a0_5, .int .u8 a0_6, .slice A0_7 l0_7.length c0_7] 38 (0, 0)) (by (with_reducible repeat (first | refine blk_drewN ?_ _ | refine blk_drew ?_ | refine blk_alloc ?_ _)); exact BK118.out)) : gb118 ≠ gb119)); have n6_ := Aside0.mk ((by rw [hg]; exact Nat.ne_of_gt (blk_lt (g := gb118) (o := .cells #[.int .i64 a0_0, .string a0_1, .int .u8 a0_2, .int .i64 a0_3, .string a0_4, .int .i64 a0_5, .int .u8 a0_6, .slice A0_7 l0_7.length c0_7] 38 (0, 0)) (by (with_reducible repeat (first | refine blk_drewN ?_ _ | refine blk_drew ?_ | refine blk_alloc ?_ _)); exact BK118.out)) : gb119 ≠ gb118)); clear BK118; clear HB; have BK118 := n0_; have HB := n1_; have BK119 := n2_; have GW119 := n3_; have GE119 := n4_; have NB118_119 := n5_; have NB119_118 := n6_; clear n0_ n1_ n2_ n3_ n4_ n5_ n6_; clear hb hbox hg))
  (try simp only [Act.put, List.setIfInBounds_toArray, List.set_cons_zero, List.set_cons_succ])
  go_cut [47] (fun v47 wc => ∃ (kq : Nat) (x47_2 : Bool), v47 = .bool x47_2 ∧ Aside0 (hindsightref22_Same.j0 kq x47_2 a0_0 a0_1 a0_2 a0_3 a0_4 a0_5 a0_6 l0_7 a1_0 a1_1 a1_2 a1_3 a1_4 a1_5 a1_6 l1_7 = some r) ∧ Aside0 (kq ≤ k) ∧ Aside0 (wc.heap[gb118]? = some (.cells #[.int .i64 a0_0, .string a0_1, .int .u8 a0_2, .int .i64 a0_3, .string a0_4, .int .i64 a0_5, .int .u8 a0_6, (.slice A0_7 l0_7.length c0_7)] 38 (0, 0))) ∧ Aside0 (wc.heap[gb119]? = some (.cells #[.int .i64 a1_0, .string a1_1, .int .u8 a1_2, .int .i64 a1_3, .string a1_4, .int .i64 a1_5, .int .u8 a1_6, (.slice A1_7 l1_7.length c1_7)] 38 (0, 0))) ∧ Aside0 (Below w.heap.size w wc))
  case first =>
    have H := HC3.out
    clear HC3
    by_cases c6 : a0_0 = a1_0
    · rw [if_pos c6] at H
      have c6b0 : (a0_0 == a1_0) = true := beq_iff_eq.mpr c6
      have c6b1 : (a0_0 != a1_0) = false := bne_eq_false_iff_eq.mpr c6
      clear c6
      (first | rw [c6b0] | (simp only [i64_w, i32_w]; rw [c6b0]) | skip)
      by_cases c7 : a0_1.toList = a1_1.toList
      · rw [if_pos c7] at H
        have c7b0 : (a0_1.toList == a1_1.toList) = true := beq_iff_eq.mpr c7
        have c7b1 : (a0_1.toList != a1_1.toList) = false := bne_eq_false_iff_eq.mpr c7
        clear c7
        by_cases c8 : (!(a0_2 == a1_2) || (!(a0_3 == a1_3) || (!(a0_4.toList == a1_4.toList)))) = true
        · rw [if_pos c8] at H
          have c8b0 : (!(a0_2 == a1_2) || (!(a0_3 == a1_3) || (!(a0_4.toList == a1_4.toList)))) = true := c8
          clear c8
          have H' := Aside0.mk H
          clear H
          have hnb9 := NB118_119.out
          have hnc9 := NB119_118.out
          have hcz10_0 : w5.cell? ⟨gb118, 0, none⟩ = some (.int .i64 a0_0) := (blk_cell BK118.out 0).trans rfl
          have hcz10_1 : w5.cell? ⟨gb118, 1, none⟩ = some (.string a0_1) := (blk_cell BK118.out 1).trans rfl
          have hcz10_2 : w5.cell? ⟨gb118, 2, none⟩ = some (.int .u8 a0_2) := (blk_cell BK118.out 2).trans rfl
          have hcz10_3 : w5.cell? ⟨gb118, 3, none⟩ = some (.int .i64 a0_3) := (blk_cell BK118.out 3).trans rfl
          have hcz10_4 : w5.cell? ⟨gb118, 4, none⟩ = some (.string a0_4) := (blk_cell BK118.out 4).trans rfl
          have hcz10_5 : w5.cell? ⟨gb118, 5, none⟩ = some (.int .i64 a0_5) := (blk_cell BK118.out 5).trans rfl
          have hcz10_6 : w5.cell? ⟨gb118, 6, none⟩ = some (.int .u8 a0_6) := (blk_cell BK118.out 6).trans rfl
          have hcz10_7 : w5.cell? ⟨gb118, 7, none⟩ = some (.slice A0_7 l0_7.length c0_7) := (blk_cell BK118.out 7).trans rfl
          have hfz10_0 := blk_frozen BK118.out 0
          have hfz10_1 := blk_frozen BK118.out 1
          have hfz10_2 := blk_frozen BK118.out 2
          have hfz10_3 := blk_frozen BK118.out 3
          have hfz10_4 := blk_frozen BK118.out 4
          have hfz10_5 := blk_frozen BK118.out 5
          have hfz10_6 := blk_frozen BK118.out 6
          have hfz10_7 := blk_frozen BK118.out 7
          have hcz11_0 : w5.cell? ⟨gb119, 0, none⟩ = some (.int .i64 a1_0) := (blk_cell BK119.out 0).trans rfl
          have hcz11_1 : w5.cell? ⟨gb119, 1, none⟩ = some (.string a1_1) := (blk_cell BK119.out 1).trans rfl
          have hcz11_2 : w5.cell? ⟨gb119, 2, none⟩ = some (.int .u8 a1_2) := (blk_cell BK119.out 2).trans rfl
          have hcz11_3 : w5.cell? ⟨gb119, 3, none⟩ = some (.int .i64 a1_3) := (blk_cell BK119.out 3).trans rfl
          have hcz11_4 : w5.cell? ⟨gb119, 4, none⟩ = some (.string a1_4) := (blk_cell BK119.out 4).trans rfl
          have hcz11_5 : w5.cell? ⟨gb119, 5, none⟩ = some (.int .i64 a1_5) := (blk_cell BK119.out 5).trans rfl
          have hcz11_6 : w5.cell? ⟨gb119, 6, none⟩ = some (.int .u8 a1_6) := (blk_cell BK119.out 6).trans rfl
          have hcz11_7 : w5.cell? ⟨gb119, 7, none⟩ = some (.slice A1_7 l1_7.length c1_7) := (blk_cell BK119.out 7).trans rfl
          have hfz11_0 := blk_frozen BK119.out 0
          have hfz11_1 := blk_frozen BK119.out 1
          have hfz11_2 := blk_frozen BK119.out 2
          have hfz11_3 := blk_frozen BK119.out 3
          have hfz11_4 := blk_frozen BK119.out 4
          have hfz11_5 := blk_frozen BK119.out 5
          have hfz11_6 := blk_frozen BK119.out 6
          have hfz11_7 := blk_frozen BK119.out 7
          go_wp2
          go_meet
          case rel => exact ⟨_, (true), (by first | rfl | (simp; done) | (simp [*]; done)), H', ⟨by first | omega | exact Nat.le_refl _⟩, ⟨by (with_reducible repeat (first | refine blk_drewN ?_ _ | refine blk_drew ?_ | refine blk_alloc ?_ _)); exact BK118.out⟩, ⟨by (with_reducible repeat (first | refine blk_drewN ?_ _ | refine blk_drew ?_ | refine blk_alloc ?_ _)); exact BK119.out⟩, ⟨by repeat (first | (with_reducible first | exact HB.out | apply below_alloc | apply pw_below_drewN | apply below_drew1 | refine below_set ?_ GE118.out | refine below_set ?_ GE119.out) | exact HB.out)⟩⟩
        · rw [if_neg c8] at H
          have c8b0 : (!(a0_2 == a1_2) || (!(a0_3 == a1_3) || (!(a0_4.toList == a1_4.toList)))) = false := by simpa using c8
          clear c8
          by_cases c12 : a0_5 = a1_5
          · rw [if_pos c12] at H
            have c12b0 : (a0_5 == a1_5) = true := beq_iff_eq.mpr c12
            have c12b1 : (a0_5 != a1_5) = false := bne_eq_false_iff_eq.mpr c12
            clear c12
            by_cases c13 : a0_6 = a1_6
            · rw [if_pos c13] at H
              have c13b0 : (a0_6 == a1_6) = true := beq_iff_eq.mpr c13
              have c13b1 : (a0_6 != a1_6) = false := bne_eq_false_iff_eq.mpr c13
              clear c13
              have H' := Aside0.mk H
              clear H
              have hnb14 := NB118_119.out
              have hnc14 := NB119_118.out
              have hcz15_0 : w5.cell? ⟨gb118, 0, none⟩ = some (.int .i64 a0_0) := (blk_cell BK118.out 0).trans rfl
              have hcz15_1 : w5.cell? ⟨gb118, 1, none⟩ = some (.string a0_1) := (blk_cell BK118.out 1).trans rfl
              have hcz15_2 : w5.cell? ⟨gb118, 2, none⟩ = some (.int .u8 a0_2) := (blk_cell BK118.out 2).trans rfl
              have hcz15_3 : w5.cell? ⟨gb118, 3, none⟩ = some (.int .i64 a0_3) := (blk_cell BK118.out 3).trans rfl
              have hcz15_4 : w5.cell? ⟨gb118, 4, none⟩ = some (.string a0_4) := (blk_cell BK118.out 4).trans rfl
              have hcz15_5 : w5.cell? ⟨gb118, 5, none⟩ = some (.int .i64 a0_5) := (blk_cell BK118.out 5).trans rfl
              have hcz15_6 : w5.cell? ⟨gb118, 6, none⟩ = some (.int .u8 a0_6) := (blk_cell BK118.out 6).trans rfl
              have hcz15_7 : w5.cell? ⟨gb118, 7, none⟩ = some (.slice A0_7 l0_7.length c0_7) := (blk_cell BK118.out 7).trans rfl
              have hfz15_0 := blk_frozen BK118.out 0
              have hfz15_1 := blk_frozen BK118.out 1
              have hfz15_2 := blk_frozen BK118.out 2
              have hfz15_3 := blk_frozen BK118.out 3
              have hfz15_4 := blk_frozen BK118.out 4
              have hfz15_5 := blk_frozen BK118.out 5
              have hfz15_6 := blk_frozen BK118.out 6
              have hfz15_7 := blk_frozen BK118.out 7
              have hcz16_0 : w5.cell? ⟨gb119, 0, none⟩ = some (.int .i64 a1_0) := (blk_cell BK119.out 0).trans rfl
              have hcz16_1 : w5.cell? ⟨gb119, 1, none⟩ = some (.string a1_1) := (blk_cell BK119.out 1).trans rfl
              have hcz16_2 : w5.cell? ⟨gb119, 2, none⟩ = some (.int .u8 a1_2) := (blk_cell BK119.out 2).trans rfl
              have hcz16_3 : w5.cell? ⟨gb119, 3, none⟩ = some (.int .i64 a1_3) := (blk_cell BK119.out 3).trans rfl
              have hcz16_4 : w5.cell? ⟨gb119, 4, none⟩ = some (.string a1_4) := (blk_cell BK119.out 4).trans rfl
              have hcz16_5 : w5.cell? ⟨gb119, 5, none⟩ = some (.int .i64 a1_5) := (blk_cell BK119.out 5).trans rfl
              have hcz16_6 : w5.cell? ⟨gb119, 6, none⟩ = some (.int .u8 a1_6) := (blk_cell BK119.out 6).trans rfl
              have hcz16_7 : w5.cell? ⟨gb119, 7, none⟩ = some (.slice A1_7 l1_7.length c1_7) := (blk_cell BK119.out 7).trans rfl
              have hfz16_0 := blk_frozen BK119.out 0
              have hfz16_1 := blk_frozen BK119.out 1
              have hfz16_2 := blk_frozen BK119.out 2
              have hfz16_3 := blk_frozen BK119.out 3
              have hfz16_4 := blk_frozen BK119.out 4
              have hfz16_5 := blk_frozen BK119.out 5
              have hfz16_6 := blk_frozen BK119.out 6
              have hfz16_7 := blk_frozen BK119.out 7
              go_wp2
              go_meet
              case rel => exact ⟨_, (((l0_7.length : Int) != (l1_7.length : Int))), (by first | rfl | (simp; done) | (simp [*]; done)), H', ⟨by first | omega | exact Nat.le_refl _⟩, ⟨by (with_reducible repeat (first | refine blk_drewN ?_ _ | refine blk_drew ?_ | refine blk_alloc ?_ _)); exact BK118.out⟩, ⟨by (with_reducible repeat (first | refine blk_drewN ?_ _ | refine blk_drew ?_ | refine blk_alloc ?_ _)); exact BK119.out⟩, ⟨by repeat (first | (with_reducible first | exact HB.out | apply below_alloc | apply pw_below_drewN | apply below_drew1 | refine below_set ?_ GE118.out | refine below_set ?_ GE119.out) | exact HB.out)⟩⟩
            · rw [if_neg c13] at H
              have c13b0 : (a0_6 == a1_6) = false := beq_eq_false_iff_ne.mpr c13
              have c13b1 : (a0_6 != a1_6) = true := bne_iff_ne.mpr c13
              have H' := Aside0.mk H
              clear H
              have hnb17 := NB118_119.out
              have hnc17 := NB119_118.out
              have hcz18_0 : w5.cell? ⟨gb118, 0, none⟩ = some (.int .i64 a0_0) := (blk_cell BK118.out 0).trans rfl
              have hcz18_1 : w5.cell? ⟨gb118, 1, none⟩ = some (.string a0_1) := (blk_cell BK118.out 1).trans rfl
              have hcz18_2 : w5.cell? ⟨gb118, 2, none⟩ = some (.int .u8 a0_2) := (blk_cell BK118.out 2).trans rfl
              have hcz18_3 : w5.cell? ⟨gb118, 3, none⟩ = some (.int .i64 a0_3) := (blk_cell BK118.out 3).trans rfl
              have hcz18_4 : w5.cell? ⟨gb118, 4, none⟩ = some (.string a0_4) := (blk_cell BK118.out 4).trans rfl
              have hcz18_5 : w5.cell? ⟨gb118, 5, none⟩ = some (.int .i64 a0_5) := (blk_cell BK118.out 5).trans rfl
              have hcz18_6 : w5.cell? ⟨gb118, 6, none⟩ = some (.int .u8 a0_6) := (blk_cell BK118.out 6).trans rfl
              have hcz18_7 : w5.cell? ⟨gb118, 7, none⟩ = some (.slice A0_7 l0_7.length c0_7) := (blk_cell BK118.out 7).trans rfl
              have hfz18_0 := blk_frozen BK118.out 0
              have hfz18_1 := blk_frozen BK118.out 1
              have hfz18_2 := blk_frozen BK118.out 2
              have hfz18_3 := blk_frozen BK118.out 3
              have hfz18_4 := blk_frozen BK118.out 4
              have hfz18_5 := blk_frozen BK118.out 5
              have hfz18_6 := blk_frozen BK118.out 6
              have hfz18_7 := blk_frozen BK118.out 7
              have hcz19_0 : w5.cell? ⟨gb119, 0, none⟩ = some (.int .i64 a1_0) := (blk_cell BK119.out 0).trans rfl
              have hcz19_1 : w5.cell? ⟨gb119, 1, none⟩ = some (.string a1_1) := (blk_cell BK119.out 1).trans rfl
              have hcz19_2 : w5.cell? ⟨gb119, 2, none⟩ = some (.int .u8 a1_2) := (blk_cell BK119.out 2).trans rfl
              have hcz19_3 : w5.cell? ⟨gb119, 3, none⟩ = some (.int .i64 a1_3) := (blk_cell BK119.out 3).trans rfl
              have hcz19_4 : w5.cell? ⟨gb119, 4, none⟩ = some (.string a1_4) := (blk_cell BK119.out 4).trans rfl
              have hcz19_5 : w5.cell? ⟨gb119, 5, none⟩ = some (.int .i64 a1_5) := (blk_cell BK119.out 5).trans rfl
              have hcz19_6 : w5.cell? ⟨gb119, 6, none⟩ = some (.int .u8 a1_6) := (blk_cell BK119.out 6).trans rfl
              have hcz19_7 : w5.cell? ⟨gb119, 7, none⟩ = some (.slice A1_7 l1_7.length c1_7) := (blk_cell BK119.out 7).trans rfl
              have hfz19_0 := blk_frozen BK119.out 0
              have hfz19_1 := blk_frozen BK119.out 1
              have hfz19_2 := blk_frozen BK119.out 2
              have hfz19_3 := blk_frozen BK119.out 3
              have hfz19_4 := blk_frozen BK119.out 4
              have hfz19_5 := blk_frozen BK119.out 5
              have hfz19_6 := blk_frozen BK119.out 6
              have hfz19_7 := blk_frozen BK119.out 7
              go_wp2
              go_meet
              case rel => exact ⟨_, (true), (by first | rfl | (simp; done) | (simp [*]; done)), H', ⟨by first | omega | exact Nat.le_refl _⟩, ⟨by (with_reducible repeat (first | refine blk_drewN ?_ _ | refine blk_drew ?_ | refine blk_alloc ?_ _)); exact BK118.out⟩, ⟨by (with_reducible repeat (first | refine blk_drewN ?_ _ | refine blk_drew ?_ | refine blk_alloc ?_ _)); exact BK119.out⟩, ⟨by repeat (first | (with_reducible first | exact HB.out | apply below_alloc | apply pw_below_drewN | apply below_drew1 | refine below_set ?_ GE118.out | refine below_set ?_ GE119.out) | exact HB.out)⟩⟩
          · rw [if_neg c12] at H
            have c12b0 : (a0_5 == a1_5) = false := beq_eq_false_iff_ne.mpr c12
            have c12b1 : (a0_5 != a1_5) = true := bne_iff_ne.mpr c12
            have H' := Aside0.mk H
            clear H
            have hnb20 := NB118_119.out
            have hnc20 := NB119_118.out
            have hcz21_0 : w5.cell? ⟨gb118, 0, none⟩ = some (.int .i64 a0_0) := (blk_cell BK118.out 0).trans rfl
            have hcz21_1 : w5.cell? ⟨gb118, 1, none⟩ = some (.string a0_1) := (blk_cell BK118.out 1).trans rfl
            have hcz21_2 : w5.cell? ⟨gb118, 2, none⟩ = some (.int .u8 a0_2) := (blk_cell BK118.out 2).trans rfl
            have hcz21_3 : w5.cell? ⟨gb118, 3, none⟩ = some (.int .i64 a0_3) := (blk_cell BK118.out 3).trans rfl
            have hcz21_4 : w5.cell? ⟨gb118, 4, none⟩ = some (.string a0_4) := (blk_cell BK118.out 4).trans rfl
            have hcz21_5 : w5.cell? ⟨gb118, 5, none⟩ = some (.int .i64 a0_5) := (blk_cell BK118.out 5).trans rfl
            have hcz21_6 : w5.cell? ⟨gb118, 6, none⟩ = some (.int .u8 a0_6) := (blk_cell BK118.out 6).trans rfl
            have hcz21_7 : w5.cell? ⟨gb118, 7, none⟩ = some (.slice A0_7 l0_7.length c0_7) := (blk_cell BK118.out 7).trans rfl
            have hfz21_0 := blk_frozen BK118.out 0
            have hfz21_1 := blk_frozen BK118.out 1
            have hfz21_2 := blk_frozen BK118.out 2
            have hfz21_3 := blk_frozen BK118.out 3
            have hfz21_4 := blk_frozen BK118.out 4
            have hfz21_5 := blk_frozen BK118.out 5
            have hfz21_6 := blk_frozen BK118.out 6
            have hfz21_7 := blk_frozen BK118.out 7
            have hcz22_0 : w5.cell? ⟨gb119, 0, none⟩ = some (.int .i64 a1_0) := (blk_cell BK119.out 0).trans rfl
            have hcz22_1 : w5.cell? ⟨gb119, 1, none⟩ = some (.string a1_1) := (blk_cell BK119.out 1).trans rfl
            have hcz22_2 : w5.cell? ⟨gb119, 2, none⟩ = some (.int .u8 a1_2) := (blk_cell BK119.out 2).trans rfl
            have hcz22_3 : w5.cell? ⟨gb119, 3, none⟩ = some (.int .i64 a1_3) := (blk_cell BK119.out 3).trans rfl
            have hcz22_4 : w5.cell? ⟨gb119, 4, none⟩ = some (.string a1_4) := (blk_cell BK119.out 4).trans rfl
            have hcz22_5 : w5.cell? ⟨gb119, 5, none⟩ = some (.int .i64 a1_5) := (blk_cell BK119.out 5).trans rfl
            have hcz22_6 : w5.cell? ⟨gb119, 6, none⟩ = some (.int .u8 a1_6) := (blk_cell BK119.out 6).trans rfl
            have hcz22_7 : w5.cell? ⟨gb119, 7, none⟩ = some (.slice A1_7 l1_7.length c1_7) := (blk_cell BK119.out 7).trans rfl
            have hfz22_0 := blk_frozen BK119.out 0
            have hfz22_1 := blk_frozen BK119.out 1
            have hfz22_2 := blk_frozen BK119.out 2
            have hfz22_3 := blk_frozen BK119.out 3
            have hfz22_4 := blk_frozen BK119.out 4
            have hfz22_5 := blk_frozen BK119.out 5
            have hfz22_6 := blk_frozen BK119.out 6
            have hfz22_7 := blk_frozen BK119.out 7
            go_wp2
            go_meet
            case rel => exact ⟨_, (true), (by first | rfl | (simp; done) | (simp [*]; done)), H', ⟨by first | omega | exact Nat.le_refl _⟩, ⟨by (with_reducible repeat (first | refine blk_drewN ?_ _ | refine blk_drew ?_ | refine blk_alloc ?_ _)); exact BK118.out⟩, ⟨by (with_reducible repeat (first | refine blk_drewN ?_ _ | refine blk_drew ?_ | refine blk_alloc ?_ _)); exact BK119.out⟩, ⟨by repeat (first | (with_reducible first | exact HB.out | apply below_alloc | apply pw_below_drewN | apply below_drew1 | refine below_set ?_ GE118.out | refine below_set ?_ GE119.out) | exact HB.out)⟩⟩
      · rw [if_neg c7] at H
        have c7b0 : (a0_1.toList == a1_1.toList) = false := beq_eq_false_iff_ne.mpr c7
        have c7b1 : (a0_1.toList != a1_1.toList) = true := bne_iff_ne.mpr c7
        have H' := Aside0.mk H
        clear H
        have hnb23 := NB118_119.out
        have hnc23 := NB119_118.out
        have hcz24_0 : w5.cell? ⟨gb118, 0, none⟩ = some (.int .i64 a0_0) := (blk_cell BK118.out 0).trans rfl
        have hcz24_1 : w5.cell? ⟨gb118, 1, none⟩ = some (.string a0_1) := (blk_cell BK118.out 1).trans rfl
        have hcz24_2 : w5.cell? ⟨gb118, 2, none⟩ = some (.int .u8 a0_2) := (blk_cell BK118.out 2).trans rfl
        have hcz24_3 : w5.cell? ⟨gb118, 3, none⟩ = some (.int .i64 a0_3) := (blk_cell BK118.out 3).trans rfl
        have hcz24_4 : w5.cell? ⟨gb118, 4, none⟩ = some (.string a0_4) := (blk_cell BK118.out 4).trans rfl
        have hcz24_5 : w5.cell? ⟨gb118, 5, none⟩ = some (.int .i64 a0_5) := (blk_cell BK118.out 5).trans rfl
        have hcz24_6 : w5.cell? ⟨gb118, 6, none⟩ = some (.int .u8 a0_6) := (blk_cell BK118.out 6).trans rfl
        have hcz24_7 : w5.cell? ⟨gb118, 7, none⟩ = some (.slice A0_7 l0_7.length c0_7) := (blk_cell BK118.out 7).trans rfl
        have hfz24_0 := blk_frozen BK118.out 0
        have hfz24_1 := blk_frozen BK118.out 1
        have hfz24_2 := blk_frozen BK118.out 2
        have hfz24_3 := blk_frozen BK118.out 3
        have hfz24_4 := blk_frozen BK118.out 4
        have hfz24_5 := blk_frozen BK118.out 5
        have hfz24_6 := blk_frozen BK118.out 6
        have hfz24_7 := blk_frozen BK118.out 7
        have hcz25_0 : w5.cell? ⟨gb119, 0, none⟩ = some (.int .i64 a1_0) := (blk_cell BK119.out 0).trans rfl
        have hcz25_1 : w5.cell? ⟨gb119, 1, none⟩ = some (.string a1_1) := (blk_cell BK119.out 1).trans rfl
        have hcz25_2 : w5.cell? ⟨gb119, 2, none⟩ = some (.int .u8 a1_2) := (blk_cell BK119.out 2).trans rfl
        have hcz25_3 : w5.cell? ⟨gb119, 3, none⟩ = some (.int .i64 a1_3) := (blk_cell BK119.out 3).trans rfl
        have hcz25_4 : w5.cell? ⟨gb119, 4, none⟩ = some (.string a1_4) := (blk_cell BK119.out 4).trans rfl
        have hcz25_5 : w5.cell? ⟨gb119, 5, none⟩ = some (.int .i64 a1_5) := (blk_cell BK119.out 5).trans rfl
        have hcz25_6 : w5.cell? ⟨gb119, 6, none⟩ = some (.int .u8 a1_6) := (blk_cell BK119.out 6).trans rfl
        have hcz25_7 : w5.cell? ⟨gb119, 7, none⟩ = some (.slice A1_7 l1_7.length c1_7) := (blk_cell BK119.out 7).trans rfl
        have hfz25_0 := blk_frozen BK119.out 0
        have hfz25_1 := blk_frozen BK119.out 1
        have hfz25_2 := blk_frozen BK119.out 2
        have hfz25_3 := blk_frozen BK119.out 3
        have hfz25_4 := blk_frozen BK119.out 4
        have hfz25_5 := blk_frozen BK119.out 5
        have hfz25_6 := blk_frozen BK119.out 6
        have hfz25_7 := blk_frozen BK119.out 7
        go_wp2
        go_meet
        case rel => exact ⟨_, (true), (by first | rfl | (simp; done) | (simp [*]; done)), H', ⟨by first | omega | exact Nat.le_refl _⟩, ⟨by (with_reducible repeat (first | refine blk_drewN ?_ _ | refine blk_drew ?_ | refine blk_alloc ?_ _)); exact BK118.out⟩, ⟨by (with_reducible repeat (first | refine blk_drewN ?_ _ | refine blk_drew ?_ | refine blk_alloc ?_ _)); exact BK119.out⟩, ⟨by repeat (first | (with_reducible first | exact HB.out | apply below_alloc | apply pw_below_drewN | apply below_drew1 | refine below_set ?_ GE118.out | refine below_set ?_ GE119.out) | exact HB.out)⟩⟩
    · rw [if_neg c6] at H
      have c6b0 : (a0_0 == a1_0) = false := beq_eq_false_iff_ne.mpr c6
      have c6b1 : (a0_0 != a1_0) = true := bne_iff_ne.mpr c6
      (first | rw [c6b0] | (simp only [i64_w, i32_w]; rw [c6b0]) | skip)
      have H' := Aside0.mk H
      clear H
      have hnb26 := NB118_119.out
      have hnc26 := NB119_118.out
      have hcz27_0 : w5.cell? ⟨gb118, 0, none⟩ = some (.int .i64 a0_0) := (blk_cell BK118.out 0).trans rfl
      have hcz27_1 : w5.cell? ⟨gb118, 1, none⟩ = some (.string a0_1) := (blk_cell BK118.out 1).trans rfl
      have hcz27_2 : w5.cell? ⟨gb118, 2, none⟩ = some (.int .u8 a0_2) := (blk_cell BK118.out 2).trans rfl
      have hcz27_3 : w5.cell? ⟨gb118, 3, none⟩ = some (.int .i64 a0_3) := (blk_cell BK118.out 3).trans rfl
      have hcz27_4 : w5.cell? ⟨gb118, 4, none⟩ = some (.string a0_4) := (blk_cell BK118.out 4).trans rfl
      have hcz27_5 : w5.cell? ⟨gb118, 5, none⟩ = some (.int .i64 a0_5) := (blk_cell BK118.out 5).trans rfl
      have hcz27_6 : w5.cell? ⟨gb118, 6, none⟩ = some (.int .u8 a0_6) := (blk_cell BK118.out 6).trans rfl
      have hcz27_7 : w5.cell? ⟨gb118, 7, none⟩ = some (.slice A0_7 l0_7.length c0_7) := (blk_cell BK118.out 7).trans rfl
      have hfz27_0 := blk_frozen BK118.out 0
      have hfz27_1 := blk_frozen BK118.out 1
      have hfz27_2 := blk_frozen BK118.out 2
      have hfz27_3 := blk_frozen BK118.out 3
      have hfz27_4 := blk_frozen BK118.out 4
      have hfz27_5 := blk_frozen BK118.out 5
      have hfz27_6 := blk_frozen BK118.out 6
      have hfz27_7 := blk_frozen BK118.out 7
      have hcz28_0 : w5.cell? ⟨gb119, 0, none⟩ = some (.int .i64 a1_0) := (blk_cell BK119.out 0).trans rfl
      have hcz28_1 : w5.cell? ⟨gb119, 1, none⟩ = some (.string a1_1) := (blk_cell BK119.out 1).trans rfl
      have hcz28_2 : w5.cell? ⟨gb119, 2, none⟩ = some (.int .u8 a1_2) := (blk_cell BK119.out 2).trans rfl
      have hcz28_3 : w5.cell? ⟨gb119, 3, none⟩ = some (.int .i64 a1_3) := (blk_cell BK119.out 3).trans rfl
      have hcz28_4 : w5.cell? ⟨gb119, 4, none⟩ = some (.string a1_4) := (blk_cell BK119.out 4).trans rfl
      have hcz28_5 : w5.cell? ⟨gb119, 5, none⟩ = some (.int .i64 a1_5) := (blk_cell BK119.out 5).trans rfl
      have hcz28_6 : w5.cell? ⟨gb119, 6, none⟩ = some (.int .u8 a1_6) := (blk_cell BK119.out 6).trans rfl
      have hcz28_7 : w5.cell? ⟨gb119, 7, none⟩ = some (.slice A1_7 l1_7.length c1_7) := (blk_cell BK119.out 7).trans rfl
      have hfz28_0 := blk_frozen BK119.out 0
      have hfz28_1 := blk_frozen BK119.out 1
      have hfz28_2 := blk_frozen BK119.out 2
      have hfz28_3 := blk_frozen BK119.out 3
      have hfz28_4 := blk_frozen BK119.out 4
      have hfz28_5 := blk_frozen BK119.out 5
      have hfz28_6 := blk_frozen BK119.out 6
      have hfz28_7 := blk_frozen BK119.out 7
      go_wp2
      go_meet
      case rel => exact ⟨_, (true), (by first | rfl | (simp; done) | (simp [*]; done)), H', ⟨by first | omega | exact Nat.le_refl _⟩, ⟨by (with_reducible repeat (first | refine blk_drewN ?_ _ | refine blk_drew ?_ | refine blk_alloc ?_ _)); exact BK118.out⟩, ⟨by (with_reducible repeat (first | refine blk_drewN ?_ _ | refine blk_drew ?_ | refine blk_alloc ?_ _)); exact BK119.out⟩, ⟨by repeat (first | (with_reducible first | exact HB.out | apply below_alloc | apply pw_below_drewN | apply below_drew1 | refine below_set ?_ GE118.out | refine below_set ?_ GE119.out) | exact HB.out)⟩⟩
  case rest =>
    clear HC3
    try clear c1
    try clear c2
    try clear p2
    try clear c6
    try clear c6b0
    try clear c6b1
    try clear c7
    try clear c7b0
    try clear c7b1
    try clear c8
    try clear c8b0
    try clear c9
    try clear c12
    try clear c12b0
    try clear c12b1
    try clear c13
    try clear c13b0
    try clear c13b1
    try clear c14
    try clear c17
    try clear c20
    try clear c22
    try clear c23
    try clear c26
    try clear hcz10_0
    try clear hcz10_1
    try clear hcz10_2
    try clear hcz10_3
    try clear hcz10_4
    try clear hcz10_5
    try clear hcz10_6
    try clear hcz10_7
    try clear hcz11_0
    try clear hcz11_1
    try clear hcz11_2
    try clear hcz11_3
    try clear hcz11_4
    try clear hcz11_5
    try clear hcz11_6
    try clear hcz11_7
    try clear hcz15_0
    try clear hcz15_1
    try clear hcz15_2
    try clear hcz15_3
    try clear hcz15_4
    try clear hcz15_5
    try clear hcz15_6
    try clear hcz15_7
    try clear hcz16_0
    try clear hcz16_1
    try clear hcz16_2
    try clear hcz16_3
    try clear hcz16_4
    try clear hcz16_5
    try clear hcz16_6
    try clear hcz16_7
    try clear hcz18_0
    try clear hcz18_1
    try clear hcz18_2
    try clear hcz18_3
    try clear hcz18_4
    try clear hcz18_5
    try clear hcz18_6
    try clear hcz18_7
    try clear hcz19_0
    try clear hcz19_1
    try clear hcz19_2
    try clear hcz19_3
    try clear hcz19_4
    try clear hcz19_5
    try clear hcz19_6
    try clear hcz19_7
    try clear hcz21_0
    try clear hcz21_1
    try clear hcz21_2
    try clear hcz21_3
    try clear hcz21_4
    try clear hcz21_5
    try clear hcz21_6
    try clear hcz21_7
    try clear hcz22_0
    try clear hcz22_1
    try clear hcz22_2
    try clear hcz22_3
    try clear hcz22_4
    try clear hcz22_5
    try clear hcz22_6
    try clear hcz22_7
    try clear hcz24_0
    try clear hcz24_1
    try clear hcz24_2
    try clear hcz24_3
    try clear hcz24_4
    try clear hcz24_5
    try clear hcz24_6
    try clear hcz24_7
    try clear hcz25_0
    try clear hcz25_1
    try clear hcz25_2
    try clear hcz25_3
    try clear hcz25_4
    try clear hcz25_5
    try clear hcz25_6
    try clear hcz25_7
    try clear hcz27_0
    try clear hcz27_1
    try clear hcz27_2
    try clear hcz27_3
    try clear hcz27_4
    try clear hcz27_5
    try clear hcz27_6
    try clear hcz27_7
    try clear hcz28_0
    try clear hcz28_1
    try clear hcz28_2
    try clear hcz28_3
    try clear hcz28_4
    try clear hcz28_5
    try clear hcz28_6
    try clear hcz28_7
    try clear hfz10_0
    try clear hfz10_1
    try clear hfz10_2
    try clear hfz10_3
    try clear hfz10_4
    try clear hfz10_5
    try clear hfz10_6
    try clear hfz10_7
    try clear hfz11_0
    try clear hfz11_1
    try clear hfz11_2
    try clear hfz11_3
    try clear hfz11_4
    try clear hfz11_5
    try clear hfz11_6
    try clear hfz11_7
    try clear hfz15_0
    try clear hfz15_1
    try clear hfz15_2
    try clear hfz15_3
    try clear hfz15_4
    try clear hfz15_5
    try clear hfz15_6
    try clear hfz15_7
    try clear hfz16_0
    try clear hfz16_1
    try clear hfz16_2
    try clear hfz16_3
    try clear hfz16_4
    try clear hfz16_5
    try clear hfz16_6
    try clear hfz16_7
    try clear hfz18_0
    try clear hfz18_1
    try clear hfz18_2
    try clear hfz18_3
    try clear hfz18_4
    try clear hfz18_5
    try clear hfz18_6
    try clear hfz18_7
    try clear hfz19_0
    try clear hfz19_1
    try clear hfz19_2
    try clear hfz19_3
    try clear hfz19_4
    try clear hfz19_5
    try clear hfz19_6
    try clear hfz19_7
    try clear hfz21_0
    try clear hfz21_1
    try clear hfz21_2
    try clear hfz21_3
    try clear hfz21_4
    try clear hfz21_5
    try clear hfz21_6
    try clear hfz21_7
    try clear hfz22_0
    try clear hfz22_1
    try clear hfz22_2
    try clear hfz22_3
    try clear hfz22_4
    try clear hfz22_5
    try clear hfz22_6
    try clear hfz22_7
    try clear hfz24_0
    try clear hfz24_1
    try clear hfz24_2
    try clear hfz24_3
    try clear hfz24_4
    try clear hfz24_5
    try clear hfz24_6
    try clear hfz24_7
    try clear hfz25_0
    try clear hfz25_1
    try clear hfz25_2
    try clear hfz25_3
    try clear hfz25_4
    try clear hfz25_5
    try clear hfz25_6
    try clear hfz25_7
    try clear hfz27_0
    try clear hfz27_1
    try clear hfz27_2
    try clear hfz27_3
    try clear hfz27_4
    try clear hfz27_5
    try clear hfz27_6
    try clear hfz27_7
    try clear hfz28_0
    try clear hfz28_1
    try clear hfz28_2
    try clear hfz28_3
    try clear hfz28_4
    try clear hfz28_5
    try clear hfz28_6
    try clear hfz28_7
    obtain ⟨kq, x47_2, rfl, HA, HJ2, BK118, BK119, HB⟩ := hcut
    cases kq with
    | zero => exact absurd HA.out (by simp [hindsightref22_Same.j0])
    | succ kj2 =>
      have H := HA.out
      clear HA
      simp only [hindsightref22_Same.j0] at H
      by_cases c29 : x47_2 = true
      · subst c29
        have H1 : (some false) = some r := by rw [if_pos rfl] at H; exact H
        clear H
        have H := H1
        clear H1
        obtain rfl := Option.some.inj H
        go_wp2
        go_ret
        exact ⟨by first | rfl | (simp [errW_none, errW_some] <;> rfl) | (simp [*, errW_none, errW_some] <;> rfl), by repeat (first | (with_reducible first | exact HB.out | apply below_alloc | apply pw_below_drewN | apply below_drew1 | refine below_set ?_ GE118.out | refine below_set ?_ GE119.out) | exact HB.out)⟩
      · replace c29 := Bool.eq_false_iff.mpr c29
        subst c29
        have H1 : (hindsightref22_Same.l0 kj2 0 a0_0 a0_1 a0_2 a0_3 a0_4 a0_5 a0_6 l0_7 a1_0 a1_1 a1_2 a1_3 a1_4 a1_5 a1_6 l1_7) = some r := by rw [if_neg (show ¬ (false = true) by decide)] at H; exact H
        clear H
        have H := H1
        clear H1
        have H' := Aside0.mk H
        clear H
        go_wp2
        go_loopg [5] kj2 (fun kq v5 w' => ∃ (x5_2 : Int), v5 = .int .i64 x5_2 ∧ Aside0 (hindsightref22_Same.l0 kq x5_2 a0_0 a0_1 a0_2 a0_3 a0_4 a0_5 a0_6 l0_7 a1_0 a1_1 a1_2 a1_3 a1_4 a1_5 a1_6 l1_7 = some r) ∧ Aside0 (kq ≤ kj2) ∧ Aside0 (w'.heap[gb118]? = some (.cells #[.int .i64 a0_0, .string a0_1, .int .u8 a0_2, .int .i64 a0_3, .string a0_4, .int .i64 a0_5, .int .u8 a0_6, (.slice A0_7 l0_7.length c0_7)] 38 (0, 0))) ∧ Aside0 (w'.heap[gb119]? = some (.cells #[.int .i64 a1_0, .string a1_1, .int .u8 a1_2, .int .i64 a1_3, .string a1_4, .int .i64 a1_5, .int .u8 a1_6, (.slice A1_7 l1_7.length c1_7)] 38 (0, 0))) ∧ Aside0 (Below w.heap.size w w'))
        case atStart => exact ⟨(0), (by first | rfl | (simp; done) | (simp [*]; done)), H', ⟨Nat.le_refl _⟩, ⟨by (with_reducible repeat (first | refine blk_drewN ?_ _ | refine blk_drew ?_ | refine blk_alloc ?_ _)); exact BK118.out⟩, ⟨by (with_reducible repeat (first | refine blk_drewN ?_ _ | refine blk_drew ?_ | refine blk_alloc ?_ _)); exact BK119.out⟩, ⟨by repeat (first | (with_reducible first | exact HB.out | apply below_alloc | apply pw_below_drewN | apply below_drew1 | refine below_set ?_ GE118.out | refine below_set ?_ GE119.out) | exact HB.out)⟩⟩
        case round =>
          clear H'
          try clear c1
          try clear c2
          try clear p2
          try clear c6
          try clear c6b0
          try clear c6b1
          try clear c7
          try clear c7b0
          try clear c7b1
          try clear c8
          try clear c8b0
          try clear c9
          try clear c12
          try clear c12b0
          try clear c12b1
          try clear c13
          try clear c13b0
          try clear c13b1
          try clear c14
          try clear c17
          try clear c20
          try clear c22
          try clear c23
          try clear c26
          try clear c29
          try clear hcz10_0
          try clear hcz10_1
          try clear hcz10_2
          try clear hcz10_3
          try clear hcz10_4
          try clear hcz10_5
          try clear hcz10_6
          try clear hcz10_7
          try clear hcz11_0
          try clear hcz11_1
          try clear hcz11_2
          try clear hcz11_3
          try clear hcz11_4
          try clear hcz11_5
          try clear hcz11_6
          try clear hcz11_7
          try clear hcz15_0
          try clear hcz15_1
          try clear hcz15_2
          try clear hcz15_3
          try clear hcz15_4
          try clear hcz15_5
          try clear hcz15_6
          try clear hcz15_7
          try clear hcz16_0
          try clear hcz16_1
          try clear hcz16_2
          try clear hcz16_3
          try clear hcz16_4
          try clear hcz16_5
          try clear hcz16_6
          try clear hcz16_7
          try clear hcz18_0
          try clear hcz18_1
          try clear hcz18_2
          try clear hcz18_3
          try clear hcz18_4
          try clear hcz18_5
          try clear hcz18_6
          try clear hcz18_7
          try clear hcz19_0
          try clear hcz19_1
          try clear hcz19_2
          try clear hcz19_3
          try clear hcz19_4
          try clear hcz19_5
          try clear hcz19_6
          try clear hcz19_7
          try clear hcz21_0
          try clear hcz21_1
          try clear hcz21_2
          try clear hcz21_3
          try clear hcz21_4
          try clear hcz21_5
          try clear hcz21_6
          try clear hcz21_7
          try clear hcz22_0
          try clear hcz22_1
          try clear hcz22_2
          try clear hcz22_3
          try clear hcz22_4
          try clear hcz22_5
          try clear hcz22_6
          try clear hcz22_7
          try clear hcz24_0
          try clear hcz24_1
          try clear hcz24_2
          try clear hcz24_3
          try clear hcz24_4
          try clear hcz24_5
          try clear hcz24_6
          try clear hcz24_7
          try clear hcz25_0
          try clear hcz25_1
          try clear hcz25_2
          try clear hcz25_3
          try clear hcz25_4
          try clear hcz25_5
          try clear hcz25_6
          try clear hcz25_7
          try clear hcz27_0
          try clear hcz27_1
          try clear hcz27_2
          try clear hcz27_3
          try clear hcz27_4
          try clear hcz27_5
          try clear hcz27_6
          try clear hcz27_7
          try clear hcz28_0
          try clear hcz28_1
          try clear hcz28_2
          try clear hcz28_3
          try clear hcz28_4
          try clear hcz28_5
          try clear hcz28_6
          try clear hcz28_7
          try clear hfz10_0
          try clear hfz10_1
          try clear hfz10_2
          try clear hfz10_3
          try clear hfz10_4
          try clear hfz10_5
          try clear hfz10_6
          try clear hfz10_7
          try clear hfz11_0
          try clear hfz11_1
          try clear hfz11_2
          try clear hfz11_3
          try clear hfz11_4
          try clear hfz11_5
          try clear hfz11_6
          try clear hfz11_7
          try clear hfz15_0
          try clear hfz15_1
          try clear hfz15_2
          try clear hfz15_3
          try clear hfz15_4
          try clear hfz15_5
          try clear hfz15_6
          try clear hfz15_7
          try clear hfz16_0
          try clear hfz16_1
          try clear hfz16_2
          try clear hfz16_3
          try clear hfz16_4
          try clear hfz16_5
          try clear hfz16_6
          try clear hfz16_7
          try clear hfz18_0
          try clear hfz18_1
          try clear hfz18_2
          try clear hfz18_3
          try clear hfz18_4
          try clear hfz18_5
          try clear hfz18_6
          try clear hfz18_7
          try clear hfz19_0
          try clear hfz19_1
          try clear hfz19_2
          try clear hfz19_3
          try clear hfz19_4
          try clear hfz19_5
          try clear hfz19_6
          try clear hfz19_7
          try clear hfz21_0
          try clear hfz21_1
          try clear hfz21_2
          try clear hfz21_3
          try clear hfz21_4
          try clear hfz21_5
          try clear hfz21_6
          try clear hfz21_7
          try clear hfz22_0
          try clear hfz22_1
          try clear hfz22_2
          try clear hfz22_3
          try clear hfz22_4
          try clear hfz22_5
          try clear hfz22_6
          try clear hfz22_7
          try clear hfz24_0
          try clear hfz24_1
          try clear hfz24_2
          try clear hfz24_3
          try clear hfz24_4
          try clear hfz24_5
          try clear hfz24_6
          try clear hfz24_7
          try clear hfz25_0
          try clear hfz25_1
          try clear hfz25_2
          try clear hfz25_3
          try clear hfz25_4
          try clear hfz25_5
          try clear hfz25_6
          try clear hfz25_7
          try clear hfz27_0
          try clear hfz27_1
          try clear hfz27_2
          try clear hfz27_3
          try clear hfz27_4
          try clear hfz27_5
          try clear hfz27_6
          try clear hfz27_7
          try clear hfz28_0
          try clear hfz28_1
          try clear hfz28_2
          try clear hfz28_3
          try clear hfz28_4
          try clear hfz28_5
          try clear hfz28_6
          try clear hfz28_7
          try clear p2
          obtain ⟨x5_2, rfl, HA, HK2, BK118, BK119, HB⟩ := hrel
          cases gk with
          | zero => exact absurd HA.out (by simp [hindsightref22_Same.l0])
          | succ k2 =>
            have H := HA.out
            clear HA
            simp only [hindsightref22_Same.l0] at H
            by_cases c30 : x5_2 < (l0_7.length : Int)
            · rw [if_pos c30] at H
              have c30b0 : decide (x5_2 < (l0_7.length : Int)) = true := decide_eq_true c30
              clear c30
              by_cases c31 : 0 ≤ x5_2
              · rw [if_pos c31] at H
                have c31b0 : decide (0 ≤ x5_2) = true := decide_eq_true c31
                clear c31
                by_cases c32 : x5_2 < (l1_7.length : Int)
                · rw [if_pos c32] at H
                  have c32b0 : decide (x5_2 < (l1_7.length : Int)) = true := decide_eq_true c32
                  clear c32
                  replace H := Option.bind_eq_some_iff.mp H
                  obtain ⟨t122, A330, H⟩ := H
                  replace H : (if t122 = true then (hindsightref22_Same.l0 k2 (wrap64 (x5_2 + 1)) a0_0 a0_1 a0_2 a0_3 a0_4 a0_5 a0_6 l0_7 a1_0 a1_1 a1_2 a1_3 a1_4 a1_5 a1_6 l1_7) else (some false)) = some r := H
                  have A33 := Aside0.mk A330
                  clear A330
                  by_cases c34 : t122 = true
                  · subst c34
                    have H1 : (hindsightref22_Same.l0 k2 (wrap64 (x5_2 + 1)) a0_0 a0_1 a0_2 a0_3 a0_4 a0_5 a0_6 l0_7 a1_0 a1_1 a1_2 a1_3 a1_4 a1_5 a1_6 l1_7) = some r := by rw [if_pos rfl] at H; exact H
                    clear H
                    have H := H1
                    clear H1
                    have H' := Aside0.mk H
                    clear H
                    have hnb35 := NB118_119.out
                    have hnc35 := NB119_118.out
                    have hcz36_0 : wr.cell? ⟨gb118, 0, none⟩ = some (.int .i64 a0_0) := (blk_cell BK118.out 0).trans rfl
                    have hcz36_1 : wr.cell? ⟨gb118, 1, none⟩ = some (.string a0_1) := (blk_cell BK118.out 1).trans rfl
                    have hcz36_2 : wr.cell? ⟨gb118, 2, none⟩ = some (.int .u8 a0_2) := (blk_cell BK118.out 2).trans rfl
                    have hcz36_3 : wr.cell? ⟨gb118, 3, none⟩ = some (.int .i64 a0_3) := (blk_cell BK118.out 3).trans rfl
                    have hcz36_4 : wr.cell? ⟨gb118, 4, none⟩ = some (.string a0_4) := (blk_cell BK118.out 4).trans rfl
                    have hcz36_5 : wr.cell? ⟨gb118, 5, none⟩ = some (.int .i64 a0_5) := (blk_cell BK118.out 5).trans rfl
                    have hcz36_6 : wr.cell? ⟨gb118, 6, none⟩ = some (.int .u8 a0_6) := (blk_cell BK118.out 6).trans rfl
                    have hcz36_7 : wr.cell? ⟨gb118, 7, none⟩ = some (.slice A0_7 l0_7.length c0_7) := (blk_cell BK118.out 7).trans rfl
                    have hfz36_0 := blk_frozen BK118.out 0
                    have hfz36_1 := blk_frozen BK118.out 1
                    have hfz36_2 := blk_frozen BK118.out 2
                    have hfz36_3 := blk_frozen BK118.out 3
                    have hfz36_4 := blk_frozen BK118.out 4
                    have hfz36_5 := blk_frozen BK118.out 5
                    have hfz36_6 := blk_frozen BK118.out 6
                    have hfz36_7 := blk_frozen BK118.out 7
                    try go_wp2
                    have n0_ := Aside0.mk (blk_drew BK118.out)
                    have n1_ := Aside0.mk (blk_drew BK119.out)
                    have n2_ := Aside0.mk (below_drew1 HB.out)
                    clear BK118
                    clear BK119
                    clear HB
                    have BK118 := n0_
                    have BK119 := n1_
                    have HB := n2_
                    clear n0_ n1_ n2_
                    have p120 : 0 ≤ (x5_2 : Int) := of_decide_eq_true (by first | (with_reducible assumption) | assumption)
                    have q120 : x5_2 < (l0_7.length : Int) := of_decide_eq_true (by first | (with_reducible assumption) | assumption)
                    obtain ⟨ad120, A120_7, c120_7, e120, hx120_0, hx120_1, hx120_2, hx120_3, hx120_4, hx120_5, hx120_6, hx120_7, hl120_7, hi120_7⟩ := at_T38 HR0_7.out x5_2 p120 q120
                    have hw120_7 := hx120_7
                    have hw120_6 := hx120_6
                    have hw120_5 := hx120_5
                    have hw120_4 := hx120_4
                    have hw120_3 := hx120_3
                    have hw120_2 := hx120_2
                    have hw120_1 := hx120_1
                    have hw120_0 := hx120_0
                    cases e120
                    replace hx120_0 := (HB.out.cell (World.block_lt_of_cell? w _ hx120_0)).trans hx120_0
                    replace hx120_1 := (HB.out.cell (World.block_lt_of_cell? w _ hx120_1)).trans hx120_1
                    replace hx120_2 := (HB.out.cell (World.block_lt_of_cell? w _ hx120_2)).trans hx120_2
                    replace hx120_3 := (HB.out.cell (World.block_lt_of_cell? w _ hx120_3)).trans hx120_3
                    replace hx120_4 := (HB.out.cell (World.block_lt_of_cell? w _ hx120_4)).trans hx120_4
                    replace hx120_5 := (HB.out.cell (World.block_lt_of_cell? w _ hx120_5)).trans hx120_5
                    replace hx120_6 := (HB.out.cell (World.block_lt_of_cell? w _ hx120_6)).trans hx120_6
                    replace hx120_7 := (HB.out.cell (World.block_lt_of_cell? w _ hx120_7)).trans hx120_7
                    have HR120_7 := Aside0.mk hi120_7
                    have HC120_7 := Aside0.mk hl120_7
                    clear hi120_7 hl120_7
                    replace p120 := eq_true p120
                    replace q120 := eq_true q120
                    have p121 : 0 ≤ (x5_2 : Int) := of_decide_eq_true (by first | (with_reducible assumption) | assumption)
                    have q121 : x5_2 < (l1_7.length : Int) := of_decide_eq_true (by first | (with_reducible assumption) | assumption)
                    obtain ⟨ad121, A121_7, c121_7, e121, hx121_0, hx121_1, hx121_2, hx121_3, hx121_4, hx121_5, hx121_6, hx121_7, hl121_7, hi121_7⟩ := at_T38 HR1_7.out x5_2 p121 q121
                    have hw121_7 := hx121_7
                    have hw121_6 := hx121_6
                    have hw121_5 := hx121_5
                    have hw121_4 := hx121_4
                    have hw121_3 := hx121_3
                    have hw121_2 := hx121_2
                    have hw121_1 := hx121_1
                    have hw121_0 := hx121_0
                    cases e121
                    replace hx121_0 := (HB.out.cell (World.block_lt_of_cell? w _ hx121_0)).trans hx121_0
                    replace hx121_1 := (HB.out.cell (World.block_lt_of_cell? w _ hx121_1)).trans hx121_1
                    replace hx121_2 := (HB.out.cell (World.block_lt_of_cell? w _ hx121_2)).trans hx121_2
                    replace hx121_3 := (HB.out.cell (World.block_lt_of_cell? w _ hx121_3)).trans hx121_3
                    replace hx121_4 := (HB.out.cell (World.block_lt_of_cell? w _ hx121_4)).trans hx121_4
                    replace hx121_5 := (HB.out.cell (World.block_lt_of_cell? w _ hx121_5)).trans hx121_5
                    replace hx121_6 := (HB.out.cell (World.block_lt_of_cell? w _ hx121_6)).trans hx121_6
                    replace hx121_7 := (HB.out.cell (World.block_lt_of_cell? w _ hx121_7)).trans hx121_7
                    have HR121_7 := Aside0.mk hi121_7
                    have HC121_7 := Aside0.mk hl121_7
                    clear hi121_7 hl121_7
                    replace p121 := eq_true p121
                    replace q121 := eq_true q121
                    refine start_ (n := 12) (S := fun w' => w'.cell? ⟨gb118, 0, none⟩ = some (.int .i64 a0_0) ∧ w'.cell? ⟨gb118, 1, none⟩ = some (.string a0_1) ∧ w'.cell? ⟨gb118, 2, none⟩ = some (.int .u8 a0_2) ∧ w'.cell? ⟨gb118, 3, none⟩ = some (.int .i64 a0_3) ∧ w'.cell? ⟨gb118, 4, none⟩ = some (.string a0_4) ∧ w'.cell? ⟨gb118, 5, none⟩ = some (.int .i64 a0_5) ∧ w'.cell? ⟨gb118, 6, none⟩ = some (.int .u8 a0_6) ∧ w'.cell? ⟨gb118, 7, none⟩ = some (.slice (some ad120) l0_7.length c0_7) ∧ w'.cell? ⟨gb119, 0, none⟩ = some (.int .i64 a1_0) ∧ w'.cell? ⟨gb119, 1, none⟩ = some (.string a1_1) ∧ w'.cell? ⟨gb119, 2, none⟩ = some (.int .u8 a1_2) ∧ w'.cell? ⟨gb119, 3, none⟩ = some (.int .i64 a1_3) ∧ w'.cell? ⟨gb119, 4, none⟩ = some (.string a1_4) ∧ w'.cell? ⟨gb119, 5, none⟩ = some (.int .i64 a1_5) ∧ w'.cell? ⟨gb119, 6, none⟩ = some (.int .u8 a1_6) ∧ w'.cell? ⟨gb119, 7, none⟩ = some (.slice (some ad121) l1_7.length c1_7) ∧ w'.cell? (ad120.add ((x5_2).toNat * 8)) = some (.int .i64 ((rd_T38 l0_7 x5_2).f0)) ∧ w'.cell? ⟨(ad120.add ((x5_2).toNat * 8)).block, (ad120.add ((x5_2).toNat * 8)).off + 1, none⟩ = some (.string ((rd_T38 l0_7 x5_2).f1)) ∧ w'.cell? ⟨(ad120.add ((x5_2).toNat * 8)).block, (ad120.add ((x5_2).toNat * 8)).off + 2, none⟩ = some (.int .u8 ((rd_T38 l0_7 x5_2).f2.f0)) ∧ w'.cell? ⟨(ad120.add ((x5_2).toNat * 8)).block, (ad120.add ((x5_2).toNat * 8)).off + 3, none⟩ = some (.int .i64 ((rd_T38 l0_7 x5_2).f2.f1)) ∧ w'.cell? ⟨(ad120.add ((x5_2).toNat * 8)).block, (ad120.add ((x5_2).toNat * 8)).off + 4, none⟩ = some (.string ((rd_T38 l0_7 x5_2).f2.f2)) ∧ w'.cell? ⟨(ad120.add ((x5_2).toNat * 8)).block, (ad120.add ((x5_2).toNat * 8)).off + 5, none⟩ = some (.int .i64 ((rd_T38 l0_7 x5_2).f3)) ∧ w'.cell? ⟨(ad120.add ((x5_2).toNat * 8)).block, (ad120.add ((x5_2).toNat * 8)).off + 6, none⟩ = some (.int .u8 ((rd_T38 l0_7 x5_2).f4)) ∧ w'.cell? ⟨(ad120.add ((x5_2).toNat * 8)).block, (ad120.add ((x5_2).toNat * 8)).off + 7, none⟩ = some (.slice A120_7 ((rd_T38 l0_7 x5_2).f5).length c120_7) ∧ w'.cell? (ad121.add ((x5_2).toNat * 8)) = some (.int .i64 ((rd_T38 l1_7 x5_2).f0)) ∧ w'.cell? ⟨(ad121.add ((x5_2).toNat * 8)).block, (ad121.add ((x5_2).toNat * 8)).off + 1, none⟩ = some (.string ((rd_T38 l1_7 x5_2).f1)) ∧ w'.cell? ⟨(ad121.add ((x5_2).toNat * 8)).block, (ad121.add ((x5_2).toNat * 8)).off + 2, none⟩ = some (.int .u8 ((rd_T38 l1_7 x5_2).f2.f0)) ∧ w'.cell? ⟨(ad121.add ((x5_2).toNat * 8)).block, (ad121.add ((x5_2).toNat * 8)).off + 3, none⟩ = some (.int .i64 ((rd_T38 l1_7 x5_2).f2.f1)) ∧ w'.cell? ⟨(ad121.add ((x5_2).toNat * 8)).block, (ad121.add ((x5_2).toNat * 8)).off + 4, none⟩ = some (.string ((rd_T38 l1_7 x5_2).f2.f2)) ∧ w'.cell? ⟨(ad121.add ((x5_2).toNat * 8)).block, (ad121.add ((x5_2).toNat * 8)).off + 5, none⟩ = some (.int .i64 ((rd_T38 l1_7 x5_2).f3)) ∧ w'.cell? ⟨(ad121.add ((x5_2).toNat * 8)).block, (ad121.add ((x5_2).toNat * 8)).off + 6, none⟩ = some (.int .u8 ((rd_T38 l1_7 x5_2).f4)) ∧ w'.cell? ⟨(ad121.add ((x5_2).toNat * 8)).block, (ad121.add ((x5_2).toNat * 8)).off + 7, none⟩ = some (.slice A121_7 ((rd_T38 l1_7 x5_2).f5).length c121_7)) (ds := []) #[false, false, false, false, false, false, false, false, false, false, false, false] (by kernel_rfl) rfl rfl ⟨(blk_cell BK118.out 0).trans rfl, (blk_cell BK118.out 1).trans rfl, (blk_cell BK118.out 2).trans rfl, (blk_cell BK118.out 3).trans rfl, (blk_cell BK118.out 4).trans rfl, (blk_cell BK118.out 5).trans rfl, (blk_cell BK118.out 6).trans rfl, (blk_cell BK118.out 7).trans rfl, (blk_cell BK119.out 0).trans rfl, (blk_cell BK119.out 1).trans rfl, (blk_cell BK119.out 2).trans rfl, (blk_cell BK119.out 3).trans rfl, (blk_cell BK119.out 4).trans rfl, (blk_cell BK119.out 5).trans rfl, (blk_cell BK119.out 6).trans rfl, (blk_cell BK119.out 7).trans rfl, ((HB.out.cell (World.block_lt_of_cell? w _ hw120_0)).trans hw120_0), ((HB.out.cell (World.block_lt_of_cell? w _ hw120_1)).trans hw120_1), ((HB.out.cell (World.block_lt_of_cell? w _ hw120_2)).trans hw120_2), ((HB.out.cell (World.block_lt_of_cell? w _ hw120_3)).trans hw120_3), ((HB.out.cell (World.block_lt_of_cell? w _ hw120_4)).trans hw120_4), ((HB.out.cell (World.block_lt_of_cell? w _ hw120_5)).trans hw120_5), ((HB.out.cell (World.block_lt_of_cell? w _ hw120_6)).trans hw120_6), ((HB.out.cell (World.block_lt_of_cell? w _ hw120_7)).trans hw120_7), ((HB.out.cell (World.block_lt_of_cell? w _ hw121_0)).trans hw121_0), ((HB.out.cell (World.block_lt_of_cell? w _ hw121_1)).trans hw121_1), ((HB.out.cell (World.block_lt_of_cell? w _ hw121_2)).trans hw121_2), ((HB.out.cell (World.block_lt_of_cell? w _ hw121_3)).trans hw121_3), ((HB.out.cell (World.block_lt_of_cell? w _ hw121_4)).trans hw121_4), ((HB.out.cell (World.block_lt_of_cell? w _ hw121_5)).trans hw121_5), ((HB.out.cell (World.block_lt_of_cell? w _ hw121_6)).trans hw121_6), ((HB.out.cell (World.block_lt_of_cell? w _ hw121_7)).trans hw121_7)⟩ (fun hHeld => ?_); refine with_tabW hindsightref22_Same.tab6 hindsightref22_Same.bits6 (fun HT_ HW_ => ?_)
                    generalize wr.drew = w37 at BK118 BK119 HB HR120_7 HR121_7 hx120_0 hx120_1 hx120_2 hx120_3 hx120_4 hx120_5 hx120_6 hx120_7 hx121_0 hx121_1 hx121_2 hx121_3 hx121_4 hx121_5 hx121_6 hx121_7 hHeld ⊢
                    refine pure_ (i := 0) (N := some 55) (v := ?_) (a' := ?_) #[true, false, false, false, false, false, false, false, false, false, false, false] rfl rfl (any_of HT_.out (by kernel_rfl)) (fun _ _ _ h => h) (Or.inl ⟨by rfl, ?_⟩) ?_ ?_
                    rotate_left
                    · intro w'
                      go_simp
                      with_reducible rfl
                    rotate_left
                    · simp only [Act.put, List.setIfInBounds_toArray, List.set_cons_zero, List.set_cons_succ, i64_w, i32_w]
                      rfl
                    refine pure_ (i := 2) (N := some 57) (v := ?_) (a' := ?_) #[true, false, true, false, false, false, false, false, false, false, false, false] rfl rfl (any_of HT_.out (by kernel_rfl)) (fun _ _ _ h => h) (Or.inl ⟨by rfl, ?_⟩) ?_ ?_
                    rotate_left
                    · intro w'
                      go_simp
                      with_reducible rfl
                    rotate_left
                    · simp only [Act.put, List.setIfInBounds_toArray, List.set_cons_zero, List.set_cons_succ, i64_w, i32_w]
                      rfl
                    refine pure_ (i := 5) (N := some 60) (v := ?_) (a' := ?_) #[true, false, true, false, false, true, false, false, false, false, false, false] rfl rfl (any_of HT_.out (by kernel_rfl)) (fun _ _ _ h => h) (Or.inl ⟨by rfl, ?_⟩) ?_ ?_
                    rotate_left
                    · intro w'
                      go_simp
                      with_reducible rfl
                    rotate_left
                    · simp only [Act.put, List.setIfInBounds_toArray, List.set_cons_zero, List.set_cons_succ, i64_w, i32_w]
                      rfl
                    refine pure_ (i := 7) (N := some 62) (v := ?_) (a' := ?_) #[true, false, true, false, false, true, false, true, false, false, false, false] rfl rfl (any_of HT_.out (by kernel_rfl)) (fun _ _ _ h => h) (Or.inl ⟨by rfl, ?_⟩) ?_ ?_
                    rotate_left
                    · intro w'
                      go_simp
                      with_reducible rfl
                    rotate_left
                    · simp only [Act.put, List.setIfInBounds_toArray, List.set_cons_zero, List.set_cons_succ, i64_w, i32_w]
                      rfl
                    refine take_ (i := 1) (N := some 56) (v := ?_) (a' := ?_) #[true, true, true, false, false, true, false, true, false, false, false, false] rfl rfl (take_ofW HT_.out HW_.out (by kernel_rfl)) (fun _ _ _ h => h) (Or.inl ⟨by rfl, ?_⟩) hHeld ?_ ?_
                    rotate_left
                    · rintro w' ⟨s0, s1, s2, s3, s4, s5, s6, s7, s8, s9, s10, s11, s12, s13, s14, s15, s16, s17, s18, s19, s20, s21, s22, s23, s24, s25, s26, s27, s28, s29, s30, s31⟩
                      go_simp
                      with_reducible rfl
                    rotate_left
                    · simp only [Act.put, List.setIfInBounds_toArray, List.set_cons_zero, List.set_cons_succ, i64_w, i32_w]
                      rfl
                    refine pure_ (i := 3) (N := some 58) (v := ?_) (a' := ?_) #[true, true, true, true, false, true, false, true, false, false, false, false] rfl rfl (any_of HT_.out (by kernel_rfl)) (fun _ _ _ h => h) (Or.inl ⟨by rfl, ?_⟩) ?_ ?_
                    rotate_left
                    · intro w'
                      go_simp
                      with_reducible rfl
                    rotate_left
                    · simp only [Act.put, List.setIfInBounds_toArray, List.set_cons_zero, List.set_cons_succ, i64_w, i32_w]
                      rfl
                    refine take_ (i := 4) (N := some 59) (v := ?_) (a' := ?_) #[true, true, true, true, true, true, false, true, false, false, false, false] rfl rfl (take_ofW HT_.out HW_.out (by kernel_rfl)) (fun _ _ _ h => h) (Or.inl ⟨by rfl, ?_⟩) hHeld ?_ ?_
                    rotate_left
                    · rintro w' ⟨s0, s1, s2, s3, s4, s5, s6, s7, s8, s9, s10, s11, s12, s13, s14, s15, s16, s17, s18, s19, s20, s21, s22, s23, s24, s25, s26, s27, s28, s29, s30, s31⟩
                      go_simp
                      with_reducible rfl
                    rotate_left
                    · simp only [Act.put, List.setIfInBounds_toArray, List.set_cons_zero, List.set_cons_succ, i64_w, i32_w]
                      rfl
                    refine take_ (i := 6) (N := some 61) (v := ?_) (a' := ?_) #[true, true, true, true, true, true, true, true, false, false, false, false] rfl rfl (take_ofW HT_.out HW_.out (by kernel_rfl)) (fun _ _ _ h => h) (Or.inl ⟨by rfl, ?_⟩) hHeld ?_ ?_
                    rotate_left
                    · rintro w' ⟨s0, s1, s2, s3, s4, s5, s6, s7, s8, s9, s10, s11, s12, s13, s14, s15, s16, s17, s18, s19, s20, s21, s22, s23, s24, s25, s26, s27, s28, s29, s30, s31⟩
                      go_simp
                      with_reducible rfl
                    rotate_left
                    · simp only [Act.put, List.setIfInBounds_toArray, List.set_cons_zero, List.set_cons_succ, i64_w, i32_w]
                      rfl
                    refine pure_ (i := 8) (N := some 63) (v := ?_) (a' := ?_) #[true, true, true, true, true, true, true, true, true, false, false, false] rfl rfl (any_of HT_.out (by kernel_rfl)) (fun _ _ _ h => h) (Or.inl ⟨by rfl, ?_⟩) ?_ ?_
                    rotate_left
                    · intro w'
                      go_simp
                      with_reducible rfl
                    rotate_left
                    · simp only [Act.put, List.setIfInBounds_toArray, List.set_cons_zero, List.set_cons_succ, i64_w, i32_w]
                      rfl
                    refine take_ (i := 9) (N := some 64) (v := ?_) (a' := ?_) #[true, true, true, true, true, true, true, true, true, true, false, false] rfl rfl (take_ofW HT_.out HW_.out (by kernel_rfl)) (fun _ _ _ h => h) (Or.inl ⟨by rfl, ?_⟩) hHeld ?_ ?_
                    rotate_left
                    · rintro w' ⟨s0, s1, s2, s3, s4, s5, s6, s7, s8, s9, s10, s11, s12, s13, s14, s15, s16, s17, s18, s19, s20, s21, s22, s23, s24, s25, s26, s27, s28, s29, s30, s31⟩
                      go_simp
                      with_reducible rfl
                    rotate_left
                    · simp only [Act.put, List.setIfInBounds_toArray, List.set_cons_zero, List.set_cons_succ, i64_w, i32_w]
                      rfl
                    refine one_ (i := 10) (N := some 65) #[true, true, true, true, true, true, true, true, true, true, true, false] rfl rfl (one_of HT_.out (by kernel_rfl)) (by decide) (fun K hK => ?_)
                    refine goes_ Try.func22 (by kernel_rfl) rfl #[.agg #[.int .i64 ((rd_T38 l0_7 x5_2).f0), .string ((rd_T38 l0_7 x5_2).f1), .int .u8 ((rd_T38 l0_7 x5_2).f2.f0), .int .i64 ((rd_T38 l0_7 x5_2).f2.f1), .string ((rd_T38 l0_7 x5_2).f2.f2), .int .i64 ((rd_T38 l0_7 x5_2).f3), .int .u8 ((rd_T38 l0_7 x5_2).f4), .slice A120_7 ((rd_T38 l0_7 x5_2).f5).length c120_7], .agg #[.int .i64 ((rd_T38 l1_7 x5_2).f0), .string ((rd_T38 l1_7 x5_2).f1), .int .u8 ((rd_T38 l1_7 x5_2).f2.f0), .int .i64 ((rd_T38 l1_7 x5_2).f2.f1), .string ((rd_T38 l1_7 x5_2).f2.f2), .int .i64 ((rd_T38 l1_7 x5_2).f3), .int .u8 ((rd_T38 l1_7 x5_2).f4), .slice A121_7 ((rd_T38 l1_7 x5_2).f5).length c121_7]] (by rfl) rfl rfl (by (try simp only [List.map_toArray, List.map_cons, List.map_nil]); first | done | rfl | (simp only [List.length_drop, List.length_take]; rfl)) ?_
                    with_reducible refine (ih k2 (by have := HJ2.out; have := HK2.out; omega) ((rd_T38 l0_7 x5_2).f0) ((rd_T38 l0_7 x5_2).f1) ((rd_T38 l0_7 x5_2).f2.f0) ((rd_T38 l0_7 x5_2).f2.f1) ((rd_T38 l0_7 x5_2).f2.f2) ((rd_T38 l0_7 x5_2).f3) ((rd_T38 l0_7 x5_2).f4) _ _ ((rd_T38 l0_7 x5_2).f5) ((rd_T38 l1_7 x5_2).f0) ((rd_T38 l1_7 x5_2).f1) ((rd_T38 l1_7 x5_2).f2.f0) ((rd_T38 l1_7 x5_2).f2.f1) ((rd_T38 l1_7 x5_2).f2.f2) ((rd_T38 l1_7 x5_2).f3) ((rd_T38 l1_7 x5_2).f4) _ _ ((rd_T38 l1_7 x5_2).f5) true _ ?side1 ?side2 ?side3 ?side4 A33.out).mono ?_
                    (case side1 => repeat (first | exact (Kd.C_below HR120_7.out HB.out) | (with_reducible refine Kd.C_alloc ?_ _) | (with_reducible refine Kd.C_drewN ?_ _) | (with_reducible refine Kd.C_drew ?_)))
                    (case side2 => exact HC120_7.out)
                    (case side3 => repeat (first | exact (Kd.C_below HR121_7.out HB.out) | (with_reducible refine Kd.C_alloc ?_ _) | (with_reducible refine Kd.C_drewN ?_ _) | (with_reducible refine Kd.C_drew ?_)))
                    (case side4 => exact HC121_7.out)
                    rintro e w38 ⟨rfl, hb⟩
                    refine ⟨_, rfl, ?_⟩
                    have n0_ := Aside0.mk (blk_below (g := gb118) (o := .cells #[.int .i64 a0_0, .string a0_1, .int .u8 a0_2, .int .i64 a0_3, .string a0_4, .int .i64 a0_5, .int .u8 a0_6, .slice (some ad120) l0_7.length c0_7] 38 (0, 0)) (by (with_reducible repeat (first | refine blk_drewN ?_ _ | refine blk_drew ?_ | refine blk_alloc ?_ _)); exact BK118.out) hb)
                    have n1_ := Aside0.mk (blk_below (g := gb119) (o := .cells #[.int .i64 a1_0, .string a1_1, .int .u8 a1_2, .int .i64 a1_3, .string a1_4, .int .i64 a1_5, .int .u8 a1_6, .slice (some ad121) l1_7.length c1_7] 38 (0, 0)) (by (with_reducible repeat (first | refine blk_drewN ?_ _ | refine blk_drew ?_ | refine blk_alloc ?_ _)); exact BK119.out) hb)
                    have n2_ := Aside0.mk (below_step (by repeat (first | (with_reducible first | exact HB.out | apply below_alloc | apply pw_below_drewN | apply below_drew1 | refine below_set ?_ GE118.out | refine below_set ?_ GE119.out) | exact HB.out)) hb)
                    clear BK118
                    clear BK119
                    clear HB
                    have BK118 := n0_
                    have BK119 := n1_
                    have HB := n2_
                    clear n0_ n1_ n2_
                    (try clear hb)
                    (try clear hb2)
                    (try clear hk)
                    (try clear hi)
                    refine hK.out _ _ ⟨(blk_cell BK118.out 0).trans rfl, (blk_cell BK118.out 1).trans rfl, (blk_cell BK118.out 2).trans rfl, (blk_cell BK118.out 3).trans rfl, (blk_cell BK118.out 4).trans rfl, (blk_cell BK118.out 5).trans rfl, (blk_cell BK118.out 6).trans rfl, (blk_cell BK118.out 7).trans rfl, (blk_cell BK119.out 0).trans rfl, (blk_cell BK119.out 1).trans rfl, (blk_cell BK119.out 2).trans rfl, (blk_cell BK119.out 3).trans rfl, (blk_cell BK119.out 4).trans rfl, (blk_cell BK119.out 5).trans rfl, (blk_cell BK119.out 6).trans rfl, (blk_cell BK119.out 7).trans rfl, ((HB.out.cell (World.block_lt_of_cell? w _ hw120_0)).trans hw120_0), ((HB.out.cell (World.block_lt_of_cell? w _ hw120_1)).trans hw120_1), ((HB.out.cell (World.block_lt_of_cell? w _ hw120_2)).trans hw120_2), ((HB.out.cell (World.block_lt_of_cell? w _ hw120_3)).trans hw120_3), ((HB.out.cell (World.block_lt_of_cell? w _ hw120_4)).trans hw120_4), ((HB.out.cell (World.block_lt_of_cell? w _ hw120_5)).trans hw120_5), ((HB.out.cell (World.block_lt_of_cell? w _ hw120_6)).trans hw120_6), ((HB.out.cell (World.block_lt_of_cell? w _ hw120_7)).trans hw120_7), ((HB.out.cell (World.block_lt_of_cell? w _ hw121_0)).trans hw121_0), ((HB.out.cell (World.block_lt_of_cell? w _ hw121_1)).trans hw121_1), ((HB.out.cell (World.block_lt_of_cell? w _ hw121_2)).trans hw121_2), ((HB.out.cell (World.block_lt_of_cell? w _ hw121_3)).trans hw121_3), ((HB.out.cell (World.block_lt_of_cell? w _ hw121_4)).trans hw121_4), ((HB.out.cell (World.block_lt_of_cell? w _ hw121_5)).trans hw121_5), ((HB.out.cell (World.block_lt_of_cell? w _ hw121_6)).trans hw121_6), ((HB.out.cell (World.block_lt_of_cell? w _ hw121_7)).trans hw121_7)⟩ (fun hHeld => ?_)
                    clear hK K
                    refine norm_ (a' := ?_) ?_ ?_
                    rotate_left
                    · show Act.put _ (some 65) _ = _
                      simp only [Act.put, List.setIfInBounds_toArray, List.set_cons_zero, List.set_cons_succ, i64_w, i32_w]
                      rfl
                    refine pure_ (i := 11) (N := some 66) (v := ?_) (a' := ?_) #[true, true, true, true, true, true, true, true, true, true, true, true] rfl rfl (any_of HT_.out (by kernel_rfl)) (fun _ _ _ h => h) (Or.inl ⟨by rfl, ?_⟩) ?_ ?_
                    rotate_left
                    · intro w'
                      go_simp
                      with_reducible rfl
                    rotate_left
                    · simp only [Act.put, List.setIfInBounds_toArray, List.set_cons_zero, List.set_cons_succ, i64_w, i32_w]
                      rfl
                    refine done_ (done_of HT_.out (by kernel_rfl)) ?_
                    try go_wp2
                    go_roundg k2
                    case measure => have := HJ2.out; have := HK2.out; omega
                    case rel => exact ⟨(wrap64 (x5_2 + 1)), (by first | rfl | (simp; done) | (simp [*]; done)), H', ⟨by have := HJ2.out; have := HK2.out; omega⟩, ⟨by (with_reducible repeat (first | refine blk_drewN ?_ _ | refine blk_drew ?_ | refine blk_alloc ?_ _)); exact BK118.out⟩, ⟨by (with_reducible repeat (first | refine blk_drewN ?_ _ | refine blk_drew ?_ | refine blk_alloc ?_ _)); exact BK119.out⟩, ⟨by repeat (first | (with_reducible first | exact HB.out | apply below_alloc | apply pw_below_drewN | apply below_drew1 | refine below_set ?_ GE118.out | refine below_set ?_ GE119.out) | exact HB.out)⟩⟩
                  · replace c34 := Bool.eq_false_iff.mpr c34
                    subst c34
                    have H1 : (some false) = some r := by rw [if_neg (show ¬ (false = true) by decide)] at H; exact H
                    clear H
                    have H := H1
                    clear H1
                    obtain rfl := Option.some.inj H
                    have hnb39 := NB118_119.out
                    have hnc39 := NB119_118.out
                    have hcz40_0 : wr.cell? ⟨gb118, 0, none⟩ = some (.int .i64 a0_0) := (blk_cell BK118.out 0).trans rfl
                    have hcz40_1 : wr.cell? ⟨gb118, 1, none⟩ = some (.string a0_1) := (blk_cell BK118.out 1).trans rfl
                    have hcz40_2 : wr.cell? ⟨gb118, 2, none⟩ = some (.int .u8 a0_2) := (blk_cell BK118.out 2).trans rfl
                    have hcz40_3 : wr.cell? ⟨gb118, 3, none⟩ = some (.int .i64 a0_3) := (blk_cell BK118.out 3).trans rfl
                    have hcz40_4 : wr.cell? ⟨gb118, 4, none⟩ = some (.string a0_4) := (blk_cell BK118.out 4).trans rfl
                    have hcz40_5 : wr.cell? ⟨gb118, 5, none⟩ = some (.int .i64 a0_5) := (blk_cell BK118.out 5).trans rfl
                    have hcz40_6 : wr.cell? ⟨gb118, 6, none⟩ = some (.int .u8 a0_6) := (blk_cell BK118.out 6).trans rfl
                    have hcz40_7 : wr.cell? ⟨gb118, 7, none⟩ = some (.slice A0_7 l0_7.length c0_7) := (blk_cell BK118.out 7).trans rfl
                    have hfz40_0 := blk_frozen BK118.out 0
                    have hfz40_1 := blk_frozen BK118.out 1
                    have hfz40_2 := blk_frozen BK118.out 2
                    have hfz40_3 := blk_frozen BK118.out 3
                    have hfz40_4 := blk_frozen BK118.out 4
                    have hfz40_5 := blk_frozen BK118.out 5
                    have hfz40_6 := blk_frozen BK118.out 6
                    have hfz40_7 := blk_frozen BK118.out 7
                    try go_wp2
                    have n0_ := Aside0.mk (blk_drew BK118.out)
                    have n1_ := Aside0.mk (blk_drew BK119.out)
                    have n2_ := Aside0.mk (below_drew1 HB.out)
                    clear BK118
                    clear BK119
                    clear HB
                    have BK118 := n0_
                    have BK119 := n1_
                    have HB := n2_
                    clear n0_ n1_ n2_
                    have p120 : 0 ≤ (x5_2 : Int) := of_decide_eq_true (by first | (with_reducible assumption) | assumption)
                    have q120 : x5_2 < (l0_7.length : Int) := of_decide_eq_true (by first | (with_reducible assumption) | assumption)
                    obtain ⟨ad120, A120_7, c120_7, e120, hx120_0, hx120_1, hx120_2, hx120_3, hx120_4, hx120_5, hx120_6, hx120_7, hl120_7, hi120_7⟩ := at_T38 HR0_7.out x5_2 p120 q120
                    have hw120_7 := hx120_7
                    have hw120_6 := hx120_6
                    have hw120_5 := hx120_5
                    have hw120_4 := hx120_4
                    have hw120_3 := hx120_3
                    have hw120_2 := hx120_2
                    have hw120_1 := hx120_1
                    have hw120_0 := hx120_0
                    cases e120
                    replace hx120_0 := (HB.out.cell (World.block_lt_of_cell? w _ hx120_0)).trans hx120_0
                    replace hx120_1 := (HB.out.cell (World.block_lt_of_cell? w _ hx120_1)).trans hx120_1
                    replace hx120_2 := (HB.out.cell (World.block_lt_of_cell? w _ hx120_2)).trans hx120_2
                    replace hx120_3 := (HB.out.cell (World.block_lt_of_cell? w _ hx120_3)).trans hx120_3
                    replace hx120_4 := (HB.out.cell (World.block_lt_of_cell? w _ hx120_4)).trans hx120_4
                    replace hx120_5 := (HB.out.cell (World.block_lt_of_cell? w _ hx120_5)).trans hx120_5
                    replace hx120_6 := (HB.out.cell (World.block_lt_of_cell? w _ hx120_6)).trans hx120_6
                    replace hx120_7 := (HB.out.cell (World.block_lt_of_cell? w _ hx120_7)).trans hx120_7
                    have HR120_7 := Aside0.mk hi120_7
                    have HC120_7 := Aside0.mk hl120_7
                    clear hi120_7 hl120_7
                    replace p120 := eq_true p120
                    replace q120 := eq_true q120
                    have p121 : 0 ≤ (x5_2 : Int) := of_decide_eq_true (by first | (with_reducible assumption) | assumption)
                    have q121 : x5_2 < (l1_7.length : Int) := of_decide_eq_true (by first | (with_reducible assumption) | assumption)
                    obtain ⟨ad121, A121_7, c121_7, e121, hx121_0, hx121_1, hx121_2, hx121_3, hx121_4, hx121_5, hx121_6, hx121_7, hl121_7, hi121_7⟩ := at_T38 HR1_7.out x5_2 p121 q121
                    have hw121_7 := hx121_7
                    have hw121_6 := hx121_6
                    have hw121_5 := hx121_5
                    have hw121_4 := hx121_4
                    have hw121_3 := hx121_3
                    have hw121_2 := hx121_2
                    have hw121_1 := hx121_1
                    have hw121_0 := hx121_0
                    cases e121
                    replace hx121_0 := (HB.out.cell (World.block_lt_of_cell? w _ hx121_0)).trans hx121_0
                    replace hx121_1 := (HB.out.cell (World.block_lt_of_cell? w _ hx121_1)).trans hx121_1
                    replace hx121_2 := (HB.out.cell (World.block_lt_of_cell? w _ hx121_2)).trans hx121_2
                    replace hx121_3 := (HB.out.cell (World.block_lt_of_cell? w _ hx121_3)).trans hx121_3
                    replace hx121_4 := (HB.out.cell (World.block_lt_of_cell? w _ hx121_4)).trans hx121_4
                    replace hx121_5 := (HB.out.cell (World.block_lt_of_cell? w _ hx121_5)).trans hx121_5
                    replace hx121_6 := (HB.out.cell (World.block_lt_of_cell? w _ hx121_6)).trans hx121_6
                    replace hx121_7 := (HB.out.cell (World.block_lt_of_cell? w _ hx121_7)).trans hx121_7
                    have HR121_7 := Aside0.mk hi121_7
                    have HC121_7 := Aside0.mk hl121_7
                    clear hi121_7 hl121_7
                    replace p121 := eq_true p121
                    replace q121 := eq_true q121
                    refine start_ (n := 12) (S := fun w' => w'.cell? ⟨gb118, 0, none⟩ = some (.int .i64 a0_0) ∧ w'.cell? ⟨gb118, 1, none⟩ = some (.string a0_1) ∧ w'.cell? ⟨gb118, 2, none⟩ = some (.int .u8 a0_2) ∧ w'.cell? ⟨gb118, 3, none⟩ = some (.int .i64 a0_3) ∧ w'.cell? ⟨gb118, 4, none⟩ = some (.string a0_4) ∧ w'.cell? ⟨gb118, 5, none⟩ = some (.int .i64 a0_5) ∧ w'.cell? ⟨gb118, 6, none⟩ = some (.int .u8 a0_6) ∧ w'.cell? ⟨gb118, 7, none⟩ = some (.slice (some ad120) l0_7.length c0_7) ∧ w'.cell? ⟨gb119, 0, none⟩ = some (.int .i64 a1_0) ∧ w'.cell? ⟨gb119, 1, none⟩ = some (.string a1_1) ∧ w'.cell? ⟨gb119, 2, none⟩ = some (.int .u8 a1_2) ∧ w'.cell? ⟨gb119, 3, none⟩ = some (.int .i64 a1_3) ∧ w'.cell? ⟨gb119, 4, none⟩ = some (.string a1_4) ∧ w'.cell? ⟨gb119, 5, none⟩ = some (.int .i64 a1_5) ∧ w'.cell? ⟨gb119, 6, none⟩ = some (.int .u8 a1_6) ∧ w'.cell? ⟨gb119, 7, none⟩ = some (.slice (some ad121) l1_7.length c1_7) ∧ w'.cell? (ad120.add ((x5_2).toNat * 8)) = some (.int .i64 ((rd_T38 l0_7 x5_2).f0)) ∧ w'.cell? ⟨(ad120.add ((x5_2).toNat * 8)).block, (ad120.add ((x5_2).toNat * 8)).off + 1, none⟩ = some (.string ((rd_T38 l0_7 x5_2).f1)) ∧ w'.cell? ⟨(ad120.add ((x5_2).toNat * 8)).block, (ad120.add ((x5_2).toNat * 8)).off + 2, none⟩ = some (.int .u8 ((rd_T38 l0_7 x5_2).f2.f0)) ∧ w'.cell? ⟨(ad120.add ((x5_2).toNat * 8)).block, (ad120.add ((x5_2).toNat * 8)).off + 3, none⟩ = some (.int .i64 ((rd_T38 l0_7 x5_2).f2.f1)) ∧ w'.cell? ⟨(ad120.add ((x5_2).toNat * 8)).block, (ad120.add ((x5_2).toNat * 8)).off + 4, none⟩ = some (.string ((rd_T38 l0_7 x5_2).f2.f2)) ∧ w'.cell? ⟨(ad120.add ((x5_2).toNat * 8)).block, (ad120.add ((x5_2).toNat * 8)).off + 5, none⟩ = some (.int .i64 ((rd_T38 l0_7 x5_2).f3)) ∧ w'.cell? ⟨(ad120.add ((x5_2).toNat * 8)).block, (ad120.add ((x5_2).toNat * 8)).off + 6, none⟩ = some (.int .u8 ((rd_T38 l0_7 x5_2).f4)) ∧ w'.cell? ⟨(ad120.add ((x5_2).toNat * 8)).block, (ad120.add ((x5_2).toNat * 8)).off + 7, none⟩ = some (.slice A120_7 ((rd_T38 l0_7 x5_2).f5).length c120_7) ∧ w'.cell? (ad121.add ((x5_2).toNat * 8)) = some (.int .i64 ((rd_T38 l1_7 x5_2).f0)) ∧ w'.cell? ⟨(ad121.add ((x5_2).toNat * 8)).block, (ad121.add ((x5_2).toNat * 8)).off + 1, none⟩ = some (.string ((rd_T38 l1_7 x5_2).f1)) ∧ w'.cell? ⟨(ad121.add ((x5_2).toNat * 8)).block, (ad121.add ((x5_2).toNat * 8)).off + 2, none⟩ = some (.int .u8 ((rd_T38 l1_7 x5_2).f2.f0)) ∧ w'.cell? ⟨(ad121.add ((x5_2).toNat * 8)).block, (ad121.add ((x5_2).toNat * 8)).off + 3, none⟩ = some (.int .i64 ((rd_T38 l1_7 x5_2).f2.f1)) ∧ w'.cell? ⟨(ad121.add ((x5_2).toNat * 8)).block, (ad121.add ((x5_2).toNat * 8)).off + 4, none⟩ = some (.string ((rd_T38 l1_7 x5_2).f2.f2)) ∧ w'.cell? ⟨(ad121.add ((x5_2).toNat * 8)).block, (ad121.add ((x5_2).toNat * 8)).off + 5, none⟩ = some (.int .i64 ((rd_T38 l1_7 x5_2).f3)) ∧ w'.cell? ⟨(ad121.add ((x5_2).toNat * 8)).block, (ad121.add ((x5_2).toNat * 8)).off + 6, none⟩ = some (.int .u8 ((rd_T38 l1_7 x5_2).f4)) ∧ w'.cell? ⟨(ad121.add ((x5_2).toNat * 8)).block, (ad121.add ((x5_2).toNat * 8)).off + 7, none⟩ = some (.slice A121_7 ((rd_T38 l1_7 x5_2).f5).length c121_7)) (ds := []) #[false, false, false, false, false, false, false, false, false, false, false, false] (by kernel_rfl) rfl rfl ⟨(blk_cell BK118.out 0).trans rfl, (blk_cell BK118.out 1).trans rfl, (blk_cell BK118.out 2).trans rfl, (blk_cell BK118.out 3).trans rfl, (blk_cell BK118.out 4).trans rfl, (blk_cell BK118.out 5).trans rfl, (blk_cell BK118.out 6).trans rfl, (blk_cell BK118.out 7).trans rfl, (blk_cell BK119.out 0).trans rfl, (blk_cell BK119.out 1).trans rfl, (blk_cell BK119.out 2).trans rfl, (blk_cell BK119.out 3).trans rfl, (blk_cell BK119.out 4).trans rfl, (blk_cell BK119.out 5).trans rfl, (blk_cell BK119.out 6).trans rfl, (blk_cell BK119.out 7).trans rfl, ((HB.out.cell (World.block_lt_of_cell? w _ hw120_0)).trans hw120_0), ((HB.out.cell (World.block_lt_of_cell? w _ hw120_1)).trans hw120_1), ((HB.out.cell (World.block_lt_of_cell? w _ hw120_2)).trans hw120_2), ((HB.out.cell (World.block_lt_of_cell? w _ hw120_3)).trans hw120_3), ((HB.out.cell (World.block_lt_of_cell? w _ hw120_4)).trans hw120_4), ((HB.out.cell (World.block_lt_of_cell? w _ hw120_5)).trans hw120_5), ((HB.out.cell (World.block_lt_of_cell? w _ hw120_6)).trans hw120_6), ((HB.out.cell (World.block_lt_of_cell? w _ hw120_7)).trans hw120_7), ((HB.out.cell (World.block_lt_of_cell? w _ hw121_0)).trans hw121_0), ((HB.out.cell (World.block_lt_of_cell? w _ hw121_1)).trans hw121_1), ((HB.out.cell (World.block_lt_of_cell? w _ hw121_2)).trans hw121_2), ((HB.out.cell (World.block_lt_of_cell? w _ hw121_3)).trans hw121_3), ((HB.out.cell (World.block_lt_of_cell? w _ hw121_4)).trans hw121_4), ((HB.out.cell (World.block_lt_of_cell? w _ hw121_5)).trans hw121_5), ((HB.out.cell (World.block_lt_of_cell? w _ hw121_6)).trans hw121_6), ((HB.out.cell (World.block_lt_of_cell? w _ hw121_7)).trans hw121_7)⟩ (fun hHeld => ?_); refine with_tabW hindsightref22_Same.tab6 hindsightref22_Same.bits6 (fun HT_ HW_ => ?_)
                    generalize wr.drew = w41 at BK118 BK119 HB HR120_7 HR121_7 hx120_0 hx120_1 hx120_2 hx120_3 hx120_4 hx120_5 hx120_6 hx120_7 hx121_0 hx121_1 hx121_2 hx121_3 hx121_4 hx121_5 hx121_6 hx121_7 hHeld ⊢
                    refine pure_ (i := 0) (N := some 55) (v := ?_) (a' := ?_) #[true, false, false, false, false, false, false, false, false, false, false, false] rfl rfl (any_of HT_.out (by kernel_rfl)) (fun _ _ _ h => h) (Or.inl ⟨by rfl, ?_⟩) ?_ ?_
                    rotate_left
                    · intro w'
                      go_simp
                      with_reducible rfl
                    rotate_left
                    · simp only [Act.put, List.setIfInBounds_toArray, List.set_cons_zero, List.set_cons_succ, i64_w, i32_w]
                      rfl
                    refine pure_ (i := 2) (N := some 57) (v := ?_) (a' := ?_) #[true, false, true, false, false, false, false, false, false, false, false, false] rfl rfl (any_of HT_.out (by kernel_rfl)) (fun _ _ _ h => h) (Or.inl ⟨by rfl, ?_⟩) ?_ ?_
                    rotate_left
                    · intro w'
                      go_simp
                      with_reducible rfl
                    rotate_left
                    · simp only [Act.put, List.setIfInBounds_toArray, List.set_cons_zero, List.set_cons_succ, i64_w, i32_w]
                      rfl
                    refine pure_ (i := 5) (N := some 60) (v := ?_) (a' := ?_) #[true, false, true, false, false, true, false, false, false, false, false, false] rfl rfl (any_of HT_.out (by kernel_rfl)) (fun _ _ _ h => h) (Or.inl ⟨by rfl, ?_⟩) ?_ ?_
                    rotate_left
                    · intro w'
                      go_simp
                      with_reducible rfl
                    rotate_left
                    · simp only [Act.put, List.setIfInBounds_toArray, List.set_cons_zero, List.set_cons_succ, i64_w, i32_w]
                      rfl
                    refine pure_ (i := 7) (N := some 62) (v := ?_) (a' := ?_) #[true, false, true, false, false, true, false, true, false, false, false, false] rfl rfl (any_of HT_.out (by kernel_rfl)) (fun _ _ _ h => h) (Or.inl ⟨by rfl, ?_⟩) ?_ ?_
                    rotate_left
                    · intro w'
                      go_simp
                      with_reducible rfl
                    rotate_left
                    · simp only [Act.put, List.setIfInBounds_toArray, List.set_cons_zero, List.set_cons_succ, i64_w, i32_w]
                      rfl
                    refine take_ (i := 1) (N := some 56) (v := ?_) (a' := ?_) #[true, true, true, false, false, true, false, true, false, false, false, false] rfl rfl (take_ofW HT_.out HW_.out (by kernel_rfl)) (fun _ _ _ h => h) (Or.inl ⟨by rfl, ?_⟩) hHeld ?_ ?_
                    rotate_left
                    · rintro w' ⟨s0, s1, s2, s3, s4, s5, s6, s7, s8, s9, s10, s11, s12, s13, s14, s15, s16, s17, s18, s19, s20, s21, s22, s23, s24, s25, s26, s27, s28, s29, s30, s31⟩
                      go_simp
                      with_reducible rfl
                    rotate_left
                    · simp only [Act.put, List.setIfInBounds_toArray, List.set_cons_zero, List.set_cons_succ, i64_w, i32_w]
                      rfl
                    refine pure_ (i := 3) (N := some 58) (v := ?_) (a' := ?_) #[true, true, true, true, false, true, false, true, false, false, false, false] rfl rfl (any_of HT_.out (by kernel_rfl)) (fun _ _ _ h => h) (Or.inl ⟨by rfl, ?_⟩) ?_ ?_
                    rotate_left
                    · intro w'
                      go_simp
                      with_reducible rfl
                    rotate_left
                    · simp only [Act.put, List.setIfInBounds_toArray, List.set_cons_zero, List.set_cons_succ, i64_w, i32_w]
                      rfl
                    refine take_ (i := 4) (N := some 59) (v := ?_) (a' := ?_) #[true, true, true, true, true, true, false, true, false, false, false, false] rfl rfl (take_ofW HT_.out HW_.out (by kernel_rfl)) (fun _ _ _ h => h) (Or.inl ⟨by rfl, ?_⟩) hHeld ?_ ?_
                    rotate_left
                    · rintro w' ⟨s0, s1, s2, s3, s4, s5, s6, s7, s8, s9, s10, s11, s12, s13, s14, s15, s16, s17, s18, s19, s20, s21, s22, s23, s24, s25, s26, s27, s28, s29, s30, s31⟩
                      go_simp
                      with_reducible rfl
                    rotate_left
                    · simp only [Act.put, List.setIfInBounds_toArray, List.set_cons_zero, List.set_cons_succ, i64_w, i32_w]
                      rfl
                    refine take_ (i := 6) (N := some 61) (v := ?_) (a' := ?_) #[true, true, true, true, true, true, true, true, false, false, false, false] rfl rfl (take_ofW HT_.out HW_.out (by kernel_rfl)) (fun _ _ _ h => h) (Or.inl ⟨by rfl, ?_⟩) hHeld ?_ ?_
                    rotate_left
                    · rintro w' ⟨s0, s1, s2, s3, s4, s5, s6, s7, s8, s9, s10, s11, s12, s13, s14, s15, s16, s17, s18, s19, s20, s21, s22, s23, s24, s25, s26, s27, s28, s29, s30, s31⟩
                      go_simp
                      with_reducible rfl
                    rotate_left
                    · simp only [Act.put, List.setIfInBounds_toArray, List.set_cons_zero, List.set_cons_succ, i64_w, i32_w]
                      rfl
                    refine pure_ (i := 8) (N := some 63) (v := ?_) (a' := ?_) #[true, true, true, true, true, true, true, true, true, false, false, false] rfl rfl (any_of HT_.out (by kernel_rfl)) (fun _ _ _ h => h) (Or.inl ⟨by rfl, ?_⟩) ?_ ?_
                    rotate_left
                    · intro w'
                      go_simp
                      with_reducible rfl
                    rotate_left
                    · simp only [Act.put, List.setIfInBounds_toArray, List.set_cons_zero, List.set_cons_succ, i64_w, i32_w]
                      rfl
                    refine take_ (i := 9) (N := some 64) (v := ?_) (a' := ?_) #[true, true, true, true, true, true, true, true, true, true, false, false] rfl rfl (take_ofW HT_.out HW_.out (by kernel_rfl)) (fun _ _ _ h => h) (Or.inl ⟨by rfl, ?_⟩) hHeld ?_ ?_
                    rotate_left
                    · rintro w' ⟨s0, s1, s2, s3, s4, s5, s6, s7, s8, s9, s10, s11, s12, s13, s14, s15, s16, s17, s18, s19, s20, s21, s22, s23, s24, s25, s26, s27, s28, s29, s30, s31⟩
                      go_simp
                      with_reducible rfl
                    rotate_left
                    · simp only [Act.put, List.setIfInBounds_toArray, List.set_cons_zero, List.set_cons_succ, i64_w, i32_w]
                      rfl
                    refine one_ (i := 10) (N := some 65) #[true, true, true, true, true, true, true, true, true, true, true, false] rfl rfl (one_of HT_.out (by kernel_rfl)) (by decide) (fun K hK => ?_)
                    refine goes_ Try.func22 (by kernel_rfl) rfl #[.agg #[.int .i64 ((rd_T38 l0_7 x5_2).f0), .string ((rd_T38 l0_7 x5_2).f1), .int .u8 ((rd_T38 l0_7 x5_2).f2.f0), .int .i64 ((rd_T38 l0_7 x5_2).f2.f1), .string ((rd_T38 l0_7 x5_2).f2.f2), .int .i64 ((rd_T38 l0_7 x5_2).f3), .int .u8 ((rd_T38 l0_7 x5_2).f4), .slice A120_7 ((rd_T38 l0_7 x5_2).f5).length c120_7], .agg #[.int .i64 ((rd_T38 l1_7 x5_2).f0), .string ((rd_T38 l1_7 x5_2).f1), .int .u8 ((rd_T38 l1_7 x5_2).f2.f0), .int .i64 ((rd_T38 l1_7 x5_2).f2.f1), .string ((rd_T38 l1_7 x5_2).f2.f2), .int .i64 ((rd_T38 l1_7 x5_2).f3), .int .u8 ((rd_T38 l1_7 x5_2).f4), .slice A121_7 ((rd_T38 l1_7 x5_2).f5).length c121_7]] (by rfl) rfl rfl (by (try simp only [List.map_toArray, List.map_cons, List.map_nil]); first | done | rfl | (simp only [List.length_drop, List.length_take]; rfl)) ?_
                    with_reducible refine (ih k2 (by have := HJ2.out; have := HK2.out; omega) ((rd_T38 l0_7 x5_2).f0) ((rd_T38 l0_7 x5_2).f1) ((rd_T38 l0_7 x5_2).f2.f0) ((rd_T38 l0_7 x5_2).f2.f1) ((rd_T38 l0_7 x5_2).f2.f2) ((rd_T38 l0_7 x5_2).f3) ((rd_T38 l0_7 x5_2).f4) _ _ ((rd_T38 l0_7 x5_2).f5) ((rd_T38 l1_7 x5_2).f0) ((rd_T38 l1_7 x5_2).f1) ((rd_T38 l1_7 x5_2).f2.f0) ((rd_T38 l1_7 x5_2).f2.f1) ((rd_T38 l1_7 x5_2).f2.f2) ((rd_T38 l1_7 x5_2).f3) ((rd_T38 l1_7 x5_2).f4) _ _ ((rd_T38 l1_7 x5_2).f5) false _ ?side1 ?side2 ?side3 ?side4 A33.out).mono ?_
                    (case side1 => repeat (first | exact (Kd.C_below HR120_7.out HB.out) | (with_reducible refine Kd.C_alloc ?_ _) | (with_reducible refine Kd.C_drewN ?_ _) | (with_reducible refine Kd.C_drew ?_)))
                    (case side2 => exact HC120_7.out)
                    (case side3 => repeat (first | exact (Kd.C_below HR121_7.out HB.out) | (with_reducible refine Kd.C_alloc ?_ _) | (with_reducible refine Kd.C_drewN ?_ _) | (with_reducible refine Kd.C_drew ?_)))
                    (case side4 => exact HC121_7.out)
                    rintro e w42 ⟨rfl, hb⟩
                    refine ⟨_, rfl, ?_⟩
                    have n0_ := Aside0.mk (blk_below (g := gb118) (o := .cells #[.int .i64 a0_0, .string a0_1, .int .u8 a0_2, .int .i64 a0_3, .string a0_4, .int .i64 a0_5, .int .u8 a0_6, .slice (some ad120) l0_7.length c0_7] 38 (0, 0)) (by (with_reducible repeat (first | refine blk_drewN ?_ _ | refine blk_drew ?_ | refine blk_alloc ?_ _)); exact BK118.out) hb)
                    have n1_ := Aside0.mk (blk_below (g := gb119) (o := .cells #[.int .i64 a1_0, .string a1_1, .int .u8 a1_2, .int .i64 a1_3, .string a1_4, .int .i64 a1_5, .int .u8 a1_6, .slice (some ad121) l1_7.length c1_7] 38 (0, 0)) (by (with_reducible repeat (first | refine blk_drewN ?_ _ | refine blk_drew ?_ | refine blk_alloc ?_ _)); exact BK119.out) hb)
                    have n2_ := Aside0.mk (below_step (by repeat (first | (with_reducible first | exact HB.out | apply below_alloc | apply pw_below_drewN | apply below_drew1 | refine below_set ?_ GE118.out | refine below_set ?_ GE119.out) | exact HB.out)) hb)
                    clear BK118
                    clear BK119
                    clear HB
                    have BK118 := n0_
                    have BK119 := n1_
                    have HB := n2_
                    clear n0_ n1_ n2_
                    (try clear hb)
                    (try clear hb2)
                    (try clear hk)
                    (try clear hi)
                    refine hK.out _ _ ⟨(blk_cell BK118.out 0).trans rfl, (blk_cell BK118.out 1).trans rfl, (blk_cell BK118.out 2).trans rfl, (blk_cell BK118.out 3).trans rfl, (blk_cell BK118.out 4).trans rfl, (blk_cell BK118.out 5).trans rfl, (blk_cell BK118.out 6).trans rfl, (blk_cell BK118.out 7).trans rfl, (blk_cell BK119.out 0).trans rfl, (blk_cell BK119.out 1).trans rfl, (blk_cell BK119.out 2).trans rfl, (blk_cell BK119.out 3).trans rfl, (blk_cell BK119.out 4).trans rfl, (blk_cell BK119.out 5).trans rfl, (blk_cell BK119.out 6).trans rfl, (blk_cell BK119.out 7).trans rfl, ((HB.out.cell (World.block_lt_of_cell? w _ hw120_0)).trans hw120_0), ((HB.out.cell (World.block_lt_of_cell? w _ hw120_1)).trans hw120_1), ((HB.out.cell (World.block_lt_of_cell? w _ hw120_2)).trans hw120_2), ((HB.out.cell (World.block_lt_of_cell? w _ hw120_3)).trans hw120_3), ((HB.out.cell (World.block_lt_of_cell? w _ hw120_4)).trans hw120_4), ((HB.out.cell (World.block_lt_of_cell? w _ hw120_5)).trans hw120_5), ((HB.out.cell (World.block_lt_of_cell? w _ hw120_6)).trans hw120_6), ((HB.out.cell (World.block_lt_of_cell? w _ hw120_7)).trans hw120_7), ((HB.out.cell (World.block_lt_of_cell? w _ hw121_0)).trans hw121_0), ((HB.out.cell (World.block_lt_of_cell? w _ hw121_1)).trans hw121_1), ((HB.out.cell (World.block_lt_of_cell? w _ hw121_2)).trans hw121_2), ((HB.out.cell (World.block_lt_of_cell? w _ hw121_3)).trans hw121_3), ((HB.out.cell (World.block_lt_of_cell? w _ hw121_4)).trans hw121_4), ((HB.out.cell (World.block_lt_of_cell? w _ hw121_5)).trans hw121_5), ((HB.out.cell (World.block_lt_of_cell? w _ hw121_6)).trans hw121_6), ((HB.out.cell (World.block_lt_of_cell? w _ hw121_7)).trans hw121_7)⟩ (fun hHeld => ?_)
                    clear hK K
                    refine norm_ (a' := ?_) ?_ ?_
                    rotate_left
                    · show Act.put _ (some 65) _ = _
                      simp only [Act.put, List.setIfInBounds_toArray, List.set_cons_zero, List.set_cons_succ, i64_w, i32_w]
                      rfl
                    refine pure_ (i := 11) (N := some 66) (v := ?_) (a' := ?_) #[true, true, true, true, true, true, true, true, true, true, true, true] rfl rfl (any_of HT_.out (by kernel_rfl)) (fun _ _ _ h => h) (Or.inl ⟨by rfl, ?_⟩) ?_ ?_
                    rotate_left
                    · intro w'
                      go_simp
                      with_reducible rfl
                    rotate_left
                    · simp only [Act.put, List.setIfInBounds_toArray, List.set_cons_zero, List.set_cons_succ, i64_w, i32_w]
                      rfl
                    refine done_ (done_of HT_.out (by kernel_rfl)) ?_
                    try go_wp2
                    go_ret
                    exact ⟨by first | rfl | (simp [errW_none, errW_some] <;> rfl) | (simp [*, errW_none, errW_some] <;> rfl), by repeat (first | (with_reducible first | exact HB.out | apply below_alloc | apply pw_below_drewN | apply below_drew1 | refine below_set ?_ GE118.out | refine below_set ?_ GE119.out) | exact HB.out)⟩
                · rw [if_neg c32] at H
                  exact absurd H (by simp)
              · rw [if_neg c31] at H
                exact absurd H (by simp)
            · rw [if_neg c30] at H
              have c30b0 : decide (x5_2 < (l0_7.length : Int)) = false := decide_eq_false c30
              clear c30
              obtain rfl := Option.some.inj H
              have hnb43 := NB118_119.out
              have hnc43 := NB119_118.out
              have hcz44_0 : wr.cell? ⟨gb118, 0, none⟩ = some (.int .i64 a0_0) := (blk_cell BK118.out 0).trans rfl
              have hcz44_1 : wr.cell? ⟨gb118, 1, none⟩ = some (.string a0_1) := (blk_cell BK118.out 1).trans rfl
              have hcz44_2 : wr.cell? ⟨gb118, 2, none⟩ = some (.int .u8 a0_2) := (blk_cell BK118.out 2).trans rfl
              have hcz44_3 : wr.cell? ⟨gb118, 3, none⟩ = some (.int .i64 a0_3) := (blk_cell BK118.out 3).trans rfl
              have hcz44_4 : wr.cell? ⟨gb118, 4, none⟩ = some (.string a0_4) := (blk_cell BK118.out 4).trans rfl
              have hcz44_5 : wr.cell? ⟨gb118, 5, none⟩ = some (.int .i64 a0_5) := (blk_cell BK118.out 5).trans rfl
              have hcz44_6 : wr.cell? ⟨gb118, 6, none⟩ = some (.int .u8 a0_6) := (blk_cell BK118.out 6).trans rfl
              have hcz44_7 : wr.cell? ⟨gb118, 7, none⟩ = some (.slice A0_7 l0_7.length c0_7) := (blk_cell BK118.out 7).trans rfl
              have hfz44_0 := blk_frozen BK118.out 0
              have hfz44_1 := blk_frozen BK118.out 1
              have hfz44_2 := blk_frozen BK118.out 2
              have hfz44_3 := blk_frozen BK118.out 3
              have hfz44_4 := blk_frozen BK118.out 4
              have hfz44_5 := blk_frozen BK118.out 5
              have hfz44_6 := blk_frozen BK118.out 6
              have hfz44_7 := blk_frozen BK118.out 7
              go_wp2
              go_ret
              exact ⟨by first | rfl | (simp [errW_none, errW_some] <;> rfl) | (simp [*, errW_none, errW_some] <;> rfl), by repeat (first | (with_reducible first | exact HB.out | apply below_alloc | apply pw_below_drewN | apply below_drew1 | refine below_set ?_ GE118.out | refine below_set ?_ GE119.out) | exact HB.out)⟩

end Go.Proofs.Ytepjcgcobaaphaa.PPa
