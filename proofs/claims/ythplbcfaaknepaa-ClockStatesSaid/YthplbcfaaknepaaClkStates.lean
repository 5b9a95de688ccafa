import Derived.Test.YthplbcfaaknepaaClkRef
import Derived.Test.YthplbcfaaknepaaClkBack
import Derived.Deep.DeepCutAuto
import Derived.Deep.RegionHeld3
namespace Go.Proofs.Ythplbcfaaknepaa
set_option linter.unusedVariables false
set_option linter.unusedSimpArgs false
open Go.RowKit Go.Proofs.YthplbcfaaknepaaW.PrintWords
attribute [local go_sem ↓ high] exec_alloc24 exec_build24 exec_box24
attribute [local go_sem] boxed_arr
def wS (a r : Int) : List Int × Int := if 0 ≤ r ∧ r < 4096 then (wbytes a r, 0) else (zs, 3)
theorem wS_len (a r : Int) : (wS a r).1.length = 64 := by unfold wS; split; exact wbytes_len _ _; rfl
theorem write_all (a r : Int) (w : World) : Calls Try.prog 9 #[.agg #[.int .i64 a, .int .i64 r]] w fun e w' => e = .returned (.tuple #[arr (wS a r).1, .int .i64 (wS a r).2]) ∧ Below w.heap.size w w' := by
  unfold wS
  by_cases h : 0 ≤ r ∧ r < 4096
  · rw [if_pos h]; exact write_any a r w h.1 h.2
  · rw [if_neg h]; exact write_no a r w (by omega)
theorem rwrite_all (a r : Int) (w : World) : Calls Try.prog 10 #[.int .i64 a, .int .i64 r] w fun e w' => ∃ A c, e = .returned (.tuple #[.slice A 64 c, .int .i64 (wS a r).2]) ∧ w'.ownsRow w.heap.size 5 1 (.slice A 64 c) 64 (nums .u8 (wS a r).1) ∧ Below w.heap.size w w' := by
  unfold wS
  by_cases h : 0 ≤ r ∧ r < 4096
  · rw [if_pos h]; exact rwrite_any a r w h.1 h.2
  · rw [if_neg h]; exact rwrite_no a r w (by omega)
theorem row_reads {w : World} {g : Nat} {bs : List Int} (hl : bs.length = 64) (h : w.heap[g]? = some (.cells (vals bs) 24 (0, 0))) : ReadsInt w .u8 (some ⟨g, 0, none⟩) 64 bs := by
  refine ⟨hl, by omega, fun _ => ⟨_, rfl, fun j hj => ?_⟩⟩
  rw [add_plain, cell_of_row _ _ _ _ _ _ h]
  simp [vals, nums, List.getD_eq_getElem?_getD, List.getElem?_eq_getElem (show j < bs.length by omega)]

/-- A later world: what lay in w lies there as it was. -/
structure LaterT (w : World) where
  val : World
  ok : Below w.heap.size w val
instance (w : World) : Nonempty (LaterT w) := ⟨⟨w, Below.refl _ _⟩⟩
theorem later_drew {w : World} : ∃ s : LaterT w, ({ w with drawn := w.drawn + 1 } : World) = s.val := ⟨⟨w.drew, (Below.refl w.heap.size w).drew⟩, rfl⟩
/-- A region that draws its order, whose operations only read what was there ahead of it, and whose callees write nothing that was there: walked once, in the text's order. -/
theorem wp_region_later {P : Program} {id : Nat} {Q : Exit → Act → World → Prop} {a : Act} {w : World} {l : List Oper} (hm : P.follows .mixedOrders = true) (hB : Region.lexB .any l.toArray = true)
    (h : wpQuiet P l.toArray (fun w' => ∃ s : LaterT w, w' = s.val) (fun a' => ∀ w', (∃ s : LaterT w, w' = s.val) → Q .normal a' w') l a) : (Code.region id l.toArray true).wp P Q a w :=
  wp_region_quiet (C := fun w' => ∃ s : LaterT w, w' = s.val) hm hB later_drew (by simpa using h)
theorem later_cell {w : World} {a : Addr} {v : Value} (h : w.cell? a = some v) (s : LaterT w) : s.val.cell? a = some v := (s.ok.cell (World.block_lt_of_cell? w a h)).trans h
theorem calls_later {P : Program} {f : FuncId} {args : Array Value} {w : World} {v : Value} {s : LaterT w}
    (h : Calls P f args s.val fun e w' => e = .returned v ∧ Below s.val.heap.size s.val w') : Calls P f args s.val fun e w'' => e = .returned v ∧ ∃ m : LaterT w, w'' = m.val :=
  h.mono fun _ w'' ⟨he, hb⟩ => ⟨he, ⟨w'', s.ok.trans (hb.mono s.ok.size)⟩, rfl⟩
theorem calls_later_same {P : Program} {f : FuncId} {args : Array Value} {w : World} {v : Value} {s : LaterT w}
    (h : Calls P f args s.val fun e w' => e = .returned v ∧ s.val = w') : Calls P f args s.val fun e w'' => e = .returned v ∧ ∃ m : LaterT w, w'' = m.val :=
  h.mono fun _ w'' ⟨he, hb⟩ => ⟨he, s, hb.symm⟩
set_option maxHeartbeats 3200000 in
set_option maxRecDepth 100000 in
theorem states_any (l x a r : Int) (l1 : -9223372036854775808 ≤ l) (x2 : x ≤ 9223372036854775807) (bs : List Int) (hl : bs.length = 64) (hB : Bytes bs) (w : World) :
    Calls Try.prog 3 #[.int .i64 l, .int .i64 x, .agg #[.int .i64 a, .int .i64 r], arr bs] w fun e w' => e = .returned (.bool true) ∧ Below w.heap.size w w' := by
  have hn1 : ∀ W, Calls Try.prog 7 #[.int .i64 l, .int .i64 x] W (P2 (nextS l x) W) := fun W => next_any l x l1 W
  have hn2 : ∀ W, Calls Try.prog 8 #[.int .i64 l, .int .i64 x] W (P2 (nextS l x) W) := fun W => rnext_any l x l1 x2 W
  obtain ⟨n1, n2, hn⟩ : ∃ n1 n2, nextS l x = (n1, n2) := ⟨_, _, rfl⟩
  rw [hn] at hn1 hn2
  have HN1 := Lib.hid hn1
  have HN2 := Lib.hid hn2
  clear hn hn1 hn2
  have hwr := write_all a r
  have hrw := rwrite_all a r
  have hX := wS_len a r
  obtain ⟨X, c, hx⟩ : ∃ X c, wS a r = (X, c) := ⟨_, _, rfl⟩
  rw [hx] at hwr hrw hX
  have hrd := fun W => read_all bs hl hB W
  have hrr := fun W (h : ReadsInt W .u8 (some ⟨w.heap.size + 1, 0, none⟩) 64 bs) => rread_any _ bs hl hB W h
  obtain ⟨p, q, d, hy⟩ : ∃ p q d, readS bs = (p, q, d) := ⟨_, _, _, rfl⟩
  rw [hy] at hrd hrr
  have HW := Lib.hid hwr
  have HRW := Lib.hid hrw
  have HX := Lib.hid hX
  have HRD := Lib.hid hrd
  have HRR := Lib.hid hrr
  have HL := Lib.hid hl
  clear hwr hrw hX hx hrd hrr hy hl hB
  go_enter Try.func3, Try.ntmps3
  go_upto_region 1 with (fail)
  obtain ⟨V, hV⟩ : ∃ V, V = (w.alloc (.cells #[.int .i64 a, .int .i64 r] 23)).alloc (blk bs) := ⟨_, rfl⟩
  have v1 : V.heap[w.heap.size]? = some (.cells #[.int .i64 a, .int .i64 r] 23 (0, 0)) := by subst hV; rw [heap_alloc_old]; exact heap_alloc_new _ _; simp
  have v2 : V.heap[w.heap.size + 1]? = some (.cells (vals bs) 24 (0, 0)) := by subst hV; exact new_at _ _ _ (by simp)
  have v3 : Below w.heap.size w V := by subst hV; exact below_alloc (below_alloc (Below.refl _ _) _) _
  have v4 : V.heap.size = w.heap.size + 2 := by subst hV; simp
  have c0 := cell0 v1
  have c1 := cell1 v1
  have V1 := Lib.hid v1
  have V2 := Lib.hid v2
  have V3 := Lib.hid v3
  have V4 := Lib.hid v4
  rw [← hV]
  clear hV v1 v2 v3 v4
  go_wp2_with fail
  refine (HN1.out _).mono ?_
  rintro e w1 ⟨rfl, rfl⟩
  go_wp2_with fail
  refine (HN2.out _).mono ?_
  rintro e w1 ⟨rfl, rfl⟩
  go_wp2_with fail
  refine (HW.out _).mono ?_
  rintro e X1 ⟨rfl, hb1⟩
  go_upto_region 4 with (refine list_go rfl fun K hK => oper_store24 (.tmp 13) (.tmp 37) rfl _ rfl X zs rfl HX.out rfl (new_at _ _ _ rfl) (hK _ _ ?_))
  obtain ⟨Y1, hY⟩ : ∃ Y1, Y1 = (X1.alloc (blk zs)).setRow X1.heap.size (vals X) := ⟨_, rfl⟩
  obtain ⟨y1, y2, y3, y4, y5⟩ := stored24 hb1 hY
  have z1 := (y3 w.heap.size (by have := V4.out; omega)).trans V1.out
  have z2 := (y3 (w.heap.size + 1) (by have := V4.out; omega)).trans V2.out
  have d0 := cell0 z1
  have d1 := cell1 z1
  have Y1' := Lib.hid y1
  have Z2 := Lib.hid z2
  have Y5 := Lib.hid (V3.out.trans (y5.mono (by have := V4.out; omega)))
  have yz : w.heap.size + 2 ≤ X1.heap.size := by have := V4.out; omega
  have yz2 : X1.heap.size < Y1.heap.size := by omega
  rw [← hY]
  clear hY y1 y2 y3 y4 y5 hb1 c0 c1 z1 z2
  go_wp2_with fail
  refine (HRW.out _).mono ?_
  rintro e X2 ⟨A2, c2, rfl, ho2, hb2⟩
  have HO2 := Lib.hid ho2
  have U1 := Lib.hid ((hb2.block X1.heap.size yz2).trans Y1'.out)
  have u2 := (hb2.block (w.heap.size + 1) (by omega)).trans Z2.out
  have U2 := Lib.hid u2
  have U3 := Lib.hid (Y5.out.trans (hb2.mono (by omega)))
  have uz : Y1.heap.size ≤ X2.heap.size := hb2.size
  clear ho2 hb2 d0 d1
  go_upto_region 6 with (first | (refine list_go rfl fun K hK => oper_load24 (.tmp 7) rfl _ rfl bs HL.out U2.out (hK _ _ ?_)) | (go_at_call 11; refine (HRD.out _).mono ?_; rintro e X3 ⟨rfl, hb3⟩))
  obtain ⟨T, hT⟩ : ∃ T, T = X3.alloc (.cells #[.int .i64 p, .int .i64 q] 23) := ⟨_, rfl⟩
  obtain ⟨t1, t2, t3, t4, t5⟩ := stored23 hb3 hT
  have T1 := Lib.hid ((t3 X1.heap.size (by omega)).trans U1.out)
  have T2 := Lib.hid ((t3 (w.heap.size + 1) (by omega)).trans U2.out)
  have T3 := Lib.hid t1
  have T4 := Lib.hid (U3.out.trans (t5.mono (by omega)))
  have TO := Lib.hid (pw_own_below HO2.out t5)
  have tz : X1.heap.size < T.heap.size := by omega
  have tz2 : X3.heap.size < T.heap.size := by omega
  rw [← hT]
  clear hT t1 t2 t3 t4 t5 hb3 U1 u2 U2 U3 HO2
  go_wp2_with fail
  refine (HRR.out _ (row_reads HL.out T2.out)).mono ?_
  rintro e X4 ⟨rfl, hb4⟩
  have S1 := Lib.hid ((hb4.block X1.heap.size tz).trans T1.out)
  have S3 := Lib.hid ((hb4.block X3.heap.size tz2).trans T3.out)
  have S4 := Lib.hid (T4.out.trans (hb4.mono (by omega)))
  have SO := Lib.hid (pw_own_below TO.out hb4)
  have sz : T.heap.size ≤ X4.heap.size := hb4.size
  clear hb4 T1 T2 T3 T4 TO
  go_upto_region 7 with (fail)
  have k1 := fun s : LaterT X4 => string_of_reads (P := Try.prog) (c := 64) Try.underlying30 Try.underlying5 Try.underlying9 (row_reads HX.out ((s.ok.block X1.heap.size (by omega)).trans S1.out))
  have k2 := fun s : LaterT X4 => own_string (P := Try.prog) Try.underlying30 Try.underlying5 Try.underlying9 (pw_own_below SO.out s.ok)
  have k3 := fun s : LaterT X4 => later_cell (cell0 S3.out) s
  have k4 := fun s : LaterT X4 => later_cell (cell1 S3.out) s
  refine wp_region_later (by kernel_rfl) (by kernel_rfl) ?_
  repeat (quiet_step ((go_at_call 13; exact calls_later (alive_any _))))
  refine wpQuiet_nil ?_
  rintro _ ⟨s, rfl⟩
  have KF := Lib.hid (S4.out.trans (s.ok.mono S4.out.size))
  clear k1 k2 k3 k4
  go_wp2
  go_ret
  exact ⟨rfl, KF.out⟩
end Go.Proofs.Ythplbcfaaknepaa
