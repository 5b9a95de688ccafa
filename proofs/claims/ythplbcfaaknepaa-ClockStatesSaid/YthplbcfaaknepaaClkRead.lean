import Derived.Test.YthplbcfaaknepaaClkWalks
import Derived.Deep.DeepCutAuto
namespace Go.Proofs.Ythplbcfaaknepaa
set_option linter.unusedVariables false
set_option linter.unusedSimpArgs false
open Go.RowKit Go.Proofs.YthplbcfaaknepaaW.PrintWords
attribute [local go_sem ↓ high] exec_alloc24

theorem zs_one : ∀ v ∈ (vals zs).toList, v.oneCell' = true := by
  intro v hv; exact one_nums .u8 zs v (by simpa [vals] using hv)
set_option maxRecDepth 100000 in
theorem write_no (a r : Int) (w : World) (h0 : r < 0 ∨ 4096 ≤ r) : Calls Try.prog 9 #[.agg #[.int .i64 a, .int .i64 r]] w fun e w' => e = .returned (.tuple #[arr zs, .int .i64 3]) ∧ Below w.heap.size w w' := by
  have key : ∀ W, W = ((w.alloc (.cells #[.int .i64 a, .int .i64 r] 23)).alloc (blk zs)).alloc (blk zs) → W.heap[w.heap.size + 1]? = some (.cells (vals zs) 24 (0, 0)) ∧ W.heap[w.heap.size + 1 + 1]? = some (.cells (vals zs) 24 (0, 0)) ∧ Below w.heap.size w W := by
    rintro W rfl
    exact ⟨by rw [heap_alloc_old]; exact new_at _ _ _ (by simp); simp, new_at _ _ _ (by simp), below_alloc (below_alloc (below_alloc (Below.refl _ _) _) _) _⟩
  have KEY := Lib.hid key
  clear key
  rcases h0 with h0 | h0
  · go_enter Try.func9, Try.ntmps9
    go_upto_region 3 with (fail)
    obtain ⟨W, hW⟩ : ∃ W, W = ((w.alloc (.cells #[.int .i64 a, .int .i64 r] 23)).alloc (blk zs)).alloc (blk zs) := ⟨_, rfl⟩
    obtain ⟨k1, k2, k3⟩ := KEY.out W hW
    rw [← hW]
    clear hW
    apply wp_region_lit
    refine wpList_load_row rfl 24 _ rfl _ rfl 24 _ _ _ k2 Try.underlying24 rfl (by kernel_rfl) ?_
    refine wpList_store_row rfl 24 (.tmp 2) (.tmp 13) rfl (w.heap.size + 1) rfl _ rfl _ 24 k1 rfl (by kernel_rfl) zs_one ?_
    have HR := Lib.hid (setRow_heap W (w.heap.size + 1) _ (vals zs) _ _ k1)
    have HB := Lib.hid (below_setRow k3 (Nat.le_succ _) (vals zs))
    clear k1 k2 k3 KEY
    go_wp2
    refine bodyPost_ret (v := .tuple #[arr zs, .int .i64 3]) ?_ rfl ⟨rfl, HB.out⟩
    exact results_arr Try.results9 _ _ (w.heap.size + 1) _ _ _ rfl HR.out rfl
  · have h1 : decide (r < 0) = false := by simp; omega
    go_enter Try.func9, Try.ntmps9
    go_upto_region 3 with (fail)
    obtain ⟨W, hW⟩ : ∃ W, W = ((w.alloc (.cells #[.int .i64 a, .int .i64 r] 23)).alloc (blk zs)).alloc (blk zs) := ⟨_, rfl⟩
    obtain ⟨k1, k2, k3⟩ := KEY.out W hW
    rw [← hW]
    clear hW
    apply wp_region_lit
    refine wpList_load_row rfl 24 _ rfl _ rfl 24 _ _ _ k2 Try.underlying24 rfl (by kernel_rfl) ?_
    refine wpList_store_row rfl 24 (.tmp 2) (.tmp 13) rfl (w.heap.size + 1) rfl _ rfl _ 24 k1 rfl (by kernel_rfl) zs_one ?_
    have HR := Lib.hid (setRow_heap W (w.heap.size + 1) _ (vals zs) _ _ k1)
    have HB := Lib.hid (below_setRow k3 (Nat.le_succ _) (vals zs))
    clear k1 k2 k3 KEY
    go_wp2
    refine bodyPost_ret (v := .tuple #[arr zs, .int .i64 3]) ?_ rfl ⟨rfl, HB.out⟩
    exact results_arr Try.results9 _ _ (w.heap.size + 1) _ _ _ rfl HR.out rfl

/-- the state that bytes are. -/
def lastOf (bs : List Int) : Int := be ((bs.drop 8).take 8) - 9223372036854775808
def rootOf (bs : List Int) : Int := be ((bs.drop 16).take 4)
def readS (bs : List Int) : Int × Int × Int :=
  if bs = zs then (-9223372036854775808, 0, 0) else
  if rootOf bs < 4096 ∧ wbytes (lastOf bs) (rootOf bs) = bs then (lastOf bs, rootOf bs, 0) else (0, 0, 52)
def boxed (v : Value) : Obj := .cells v.cells 24
theorem boxed_arr (bs : List Int) : boxed (arr bs) = blk bs := rfl
theorem exec_box24 (f : Operand → Value) (x : Operand) (d : Option Tmp) (t : TypeId) (p : String) (af : Array _) (g : Option _) (w : World) :
    (execOp f { dst := d, op := .box 24 x, type := t, pos := p, after := af, guard := g }).run Try.prog w = .ok (.value (.pointer (some ⟨w.heap.size, 0, none⟩))) (w.alloc (boxed (f x))) := by
  rfl
theorem build24 (w : World) : (Instr.build 24 #[]).run Try.prog w = .ok (arr zs) w := by kernel_rfl
theorem eqg24 : Try.prog.eqGuardType Try.prog.depth 24 = false := by kernel_rfl
theorem run_eq24 (xs ys : List Int) (hx : xs.length = 64) (hy : ys.length = 64) (w : World) : (Op.equalIn 10000 24 (arr xs) (arr ys)).run Try.prog w = .ok (xs == ys) w :=
  run_eq_bytes 9998 24 5 64 xs ys w Try.underlying24 Try.underlying5 ⟨_, rfl⟩ (by kernel_rfl) hx hy
section
variable {w : World} {ops : Array Oper} {rest : List Oper} {o : Oper} {a : Act} {Q : Exit → Act → World → Prop}
theorem list_go (hw : Region.wanted o (yielded ops a.tmps) = true) (h : ∀ K : Act → World → Prop, (∀ a w, wpList Try.prog ops Q rest a w → K a w) → o.wp Try.prog a w K Q) : wpList Try.prog ops Q (o :: rest) a w :=
  wpList_step fun K hK => by rw [if_pos hw]; exact h K hK
variable {K : Act → World → Prop}
theorem oper_build24 (ho : o.op = .build 24 #[]) (h : K (a.put o.dst (arr zs)) w) : o.wp Try.prog a w K Q := by
  unfold Oper.wp execOp
  have := build24 w
  simp only [ho, List.map_toArray, List.map_nil, Sem.run_bind, this, Result.andThen_ok, Sem.run_pure]
  exact h
theorem oper_eq24 (x y : Operand) (T : TypeId) (ho : o.op = .binOp .eql 24 x y T) (xs ys : List Int) (hx : a.eval x = arr xs) (hy : a.eval y = arr ys) (lx : xs.length = 64) (ly : ys.length = 64)
    (h : K (a.put o.dst (.bool (xs == ys))) w) : o.wp Try.prog a w K Q := by
  unfold Oper.wp execOp
  have h1 := run_eq24 xs ys lx ly w
  have h2 := run_eqGuard_agg (P := Try.prog) w .eql 24 x y (vals xs) (vals ys) eqg24
  have h3 := run_eql_struct (P := Try.prog) w 24 (vals xs) (vals ys)
  simp only [ho, hx, hy, Sem.run_bind]
  simp only [arr] at *
  rw [h2]
  simp only [Result.andThen_ok, h3, h1, Sem.run_pure]
  exact h
theorem oper_ne24 (x y : Operand) (T : TypeId) (ho : o.op = .binOp .neq 24 x y T) (xs ys : List Int) (hx : a.eval x = arr xs) (hy : a.eval y = arr ys) (lx : xs.length = 64) (ly : ys.length = 64)
    (h : K (a.put o.dst (.bool (!(xs == ys)))) w) : o.wp Try.prog a w K Q := by
  unfold Oper.wp execOp
  have h1 := run_eq24 xs ys lx ly w
  have h2 := run_eqGuard_agg (P := Try.prog) w .neq 24 x y (vals xs) (vals ys) eqg24
  have h3 := run_neq_struct (P := Try.prog) w 24 (vals xs) (vals ys)
  simp only [ho, hx, hy, Sem.run_bind]
  simp only [arr] at *
  rw [h2]
  simp only [Result.andThen_ok, h3, h1, Sem.run_pure]
  exact h
theorem oper_load24 (x : Operand) (ho : o.op = .load 24 x) (g : Nat) (hx : a.eval x = .pointer (some ⟨g, 0, none⟩)) (bs : List Int) (hl : bs.length = 64) (hg : w.heap[g]? = some (.cells (vals bs) 24 (0, 0)))
    (h : K (a.put o.dst (arr bs)) w) : o.wp Try.prog a w K Q :=
  wp_load_row 24 x ho g hx 24 (vals bs) _ _ hg Try.underlying24 rfl (by rw [vals_size, hl]; kernel_rfl) h
theorem vals_one (bs : List Int) : ∀ v ∈ (vals bs).toList, v.oneCell' = true := by
  intro v hv; exact one_nums .u8 bs v (by simpa [vals] using hv)
theorem oper_store24 (x y : Operand) (ho : o.op = .store 24 x y) (g : Nat) (hx : a.eval x = .pointer (some ⟨g, 0, none⟩)) (bs cs : List Int) (hy : a.eval y = arr bs) (hl : bs.length = 64) (hc : cs.length = 64) (hg : w.heap[g]? = some (.cells (vals cs) 24 (0, 0)))
    (h : K (a.put o.dst undef) (w.setRow g (vals bs))) : o.wp Try.prog a w K Q :=
  oper_store_row 24 x y ho g hx (vals bs) hy (vals cs) 24 hg (by rw [vals_size, vals_size, hl, hc]) (by rw [vals_size, hl]; kernel_rfl) (vals_one bs) h
end
attribute [local go_sem ↓ high] exec_box24
attribute [local go_sem] boxed_arr
theorem lastOf_eq (bs : List Int) (hl : bs.length = 64) (hB : Bytes bs) : IntKind.i64.wrap (bits .xor .u64 (be ((bs.drop 8).take 8)) 9223372036854775808) = lastOf bs := by
  obtain ⟨h1, h2⟩ := be_bd 8 ((bs.drop 8).take 8) (by simp; omega) (fun x hx => hB x (List.mem_of_mem_drop (List.mem_of_mem_take hx)))
  have h3 := flip_top (be ((bs.drop 8).take 8))
  have e : (256 : Int) ^ 8 = 18446744073709551616 := by decide
  rw [e] at h2
  rw [wraps_u64 _ h1 h2] at h3
  unfold lastOf
  rw [h3, IntKind.wrap_i64]
  omega
theorem rootOf_bd (bs : List Int) (hl : bs.length = 64) (hB : Bytes bs) : 0 ≤ rootOf bs ∧ rootOf bs < 4294967296 := by
  obtain ⟨h1, h2⟩ := be_bd 4 ((bs.drop 16).take 4) (by simp; omega) (fun x hx => hB x (List.mem_of_mem_drop (List.mem_of_mem_take hx)))
  have e : (256 : Int) ^ 4 = 4294967296 := by decide
  rw [e] at h2
  exact ⟨h1, h2⟩
theorem rootOf_eq (bs : List Int) (hl : bs.length = 64) (hB : Bytes bs) : IntKind.i64.wrap (be ((bs.drop 16).take 4)) = rootOf bs := by
  obtain ⟨h1, h2⟩ := rootOf_bd bs hl hB
  show IntKind.i64.wrap (rootOf bs) = _
  rw [IntKind.wrap_i64]
  omega
theorem wbytes_len (a r : Int) : (wbytes a r).length = 64 := by simp [wbytes, beOf_length]
def RdPost (x : Int × Int × Int) (w : World) (e : Ending) (w' : World) : Prop := e = .returned (.tuple #[.agg #[.int .i64 x.1, .int .i64 x.2.1], .int .i64 x.2.2]) ∧ Below w.heap.size w w'
set_option maxHeartbeats 1600000 in
set_option maxRecDepth 100000 in
theorem read_any (bs : List Int) (hl : bs.length = 64) (hB : Bytes bs) (w : World) (h0 : bs ≠ zs) : Calls Try.prog 11 #[arr bs] w (RdPost (readS bs) w) := by
  have H0 : Hid ((bs == zs) = false) := Lib.hid (by simpa using h0)
  have HL := Lib.hid hl
  have EL := Lib.hid (lastOf_eq bs hl hB)
  have ER := Lib.hid (rootOf_eq bs hl hB)
  have RB := Lib.hid (rootOf_bd bs hl hB)
  clear h0 hl
  go_enter Try.func11, Try.ntmps11
  go_upto_region 1 with (fail)
  obtain ⟨W, hW⟩ : ∃ W, W = (w.alloc (blk bs)).alloc (.cells #[.int .i64 0, .int .i64 0] 23) := ⟨_, rfl⟩
  have k1 : W.heap[w.heap.size]? = some (.cells (vals bs) 24 (0, 0)) := by subst hW; rw [heap_alloc_old]; exact new_at _ _ _ rfl; simp
  have k2 : Below w.heap.size w W := by subst hW; exact below_alloc (below_alloc (Below.refl _ _) _) _
  have k3 : W.heap[w.heap.size + 1]? = some (.cells #[.int .i64 0, .int .i64 0] 23 (0, 0)) := by subst hW; simpa using heap_alloc_new (w.alloc (blk bs)) (.cells #[.int .i64 0, .int .i64 0] 23)
  have k4 : W.heap.size = w.heap.size + 2 := by subst hW; simp
  rw [← hW]
  clear hW
  apply wp_region_lit
  refine list_go rfl fun K hK => oper_load24 _ rfl _ rfl bs HL.out k1 (hK _ _ ?_)
  refine list_go rfl fun K hK => oper_build24 rfl (hK _ _ ?_)
  refine list_go rfl fun K hK => oper_eq24 (.tmp 7) (.tmp 8) 24 rfl bs zs rfl rfl HL.out rfl (hK _ _ ?_)
  rw [H0.out]
  simp only [Act.put, List.setIfInBounds_toArray, List.set_cons_succ, List.set_cons_zero]
  have K1 := Lib.hid k1
  have K2 := Lib.hid k2
  have K3 := Lib.hid k3
  have K4 := Lib.hid k4
  have HBB := Lib.hid hB
  clear k1 k2 k3 k4 hB
  go_upto_region 3 with (fail)
  have hc8 : ∀ V, Below (w.heap.size + 2) W V → ∀ j, j < 8 → V.cell? ((⟨w.heap.size, 8, none⟩ : Addr).add j) = some (.int .u8 (((bs.drop 8).take 8).getD j 0)) := fun V hV j hj => by
    rw [add_at, hV.cell (by simp), cell_of_row _ _ _ _ _ _ K1.out]
    have := HL.out
    simp [vals, nums, List.getD_eq_getElem?_getD, hj]
    rw [List.getElem?_eq_getElem (by omega)]; rfl
  have hc4 : ∀ V, Below (w.heap.size + 2) W V → ∀ j, j < 4 → V.cell? ((⟨w.heap.size, 16, none⟩ : Addr).add j) = some (.int .u8 (((bs.drop 16).take 4).getD j 0)) := fun V hV j hj => by
    rw [add_at, hV.cell (by simp), cell_of_row _ _ _ _ _ _ K1.out]
    have := HL.out
    simp [vals, nums, List.getD_eq_getElem?_getD, hj]
    rw [List.getElem?_eq_getElem (by omega)]; rfl
  have C8 := Lib.hid hc8
  have C4 := Lib.hid hc4
  clear hc8 hc4
  go_cut [4] (fun v4 V => v4 = .pointer (some ⟨W.heap.size, 0, none⟩) ∧ Hid (V.heap[w.heap.size]? = some (.cells (vals bs) 24 (0, 0))) ∧ Hid (V.heap[w.heap.size + 1]? = some (.cells #[.int .i64 0, .int .i64 0] 23 (0, 0))) ∧
    Hid (V.heap[W.heap.size]? = some (.cells #[.int .i64 (lastOf bs), .int .i64 (rootOf bs)] 23 (0, 0))) ∧ Hid (Below w.heap.size w V) ∧ Hid (V.heap.size = w.heap.size + 3))
  case first =>
    go_region_law (first | (go_simp; go_at_call_of 19 (Value.int IntKind.i64 8); refine (wide_any 8 _ rfl _ 56 56 (by decide) (by decide) (by decide) ((bs.drop 8).take 8) ?g1 ?g2 _ ?g3 (by decide)).mono ?_; (case g1 => have := HL.out; simp; omega); (case g2 => exact fun x hx => HBB.out x (List.mem_of_mem_drop (List.mem_of_mem_take hx))); (case g3 => first | exact C8.out _ (below_drew (Below.refl _ _)) | exact C8.out _ (below_drew ((Below.refl _ _).alloc (by have := K4.out; omega) _))); rintro e W1 ⟨rfl, rfl⟩) | (go_simp; go_at_call_of 19 (Value.int IntKind.i64 4); refine (wide_any 4 _ rfl _ 48 48 (by decide) (by decide) (by decide) ((bs.drop 16).take 4) ?g1 ?g2 _ ?g3 (by decide)).mono ?_; (case g1 => have := HL.out; simp; omega); (case g2 => exact fun x hx => HBB.out x (List.mem_of_mem_drop (List.mem_of_mem_take hx))); (case g3 => first | exact C4.out _ (below_drew (Below.refl _ _)) | exact C4.out _ (below_drew ((Below.refl _ _).alloc (by have := K4.out; omega) _))); rintro e W1 ⟨rfl, rfl⟩))
    all_goals
      rw [EL.out, ER.out]
      obtain ⟨V, hV⟩ : ∃ V, V = (W.alloc (.cells #[.int .i64 (lastOf bs), .int .i64 (rootOf bs)] 23)).drew := ⟨_, rfl⟩
      have q1 : V.heap[w.heap.size]? = some (.cells (vals bs) 24 (0, 0)) := by subst hV; rw [heap_drew, heap_alloc_old _ _ (by have := K4.out; omega)]; exact K1.out
      have q2 : V.heap[w.heap.size + 1]? = some (.cells #[.int .i64 0, .int .i64 0] 23 (0, 0)) := by subst hV; rw [heap_drew, heap_alloc_old _ _ (by have := K4.out; omega)]; exact K3.out
      have q3 : V.heap[W.heap.size]? = some (.cells #[.int .i64 (lastOf bs), .int .i64 (rootOf bs)] 23 (0, 0)) := by subst hV; exact heap_alloc_new _ _
      have q4 : Below w.heap.size w V := by subst hV; exact below_drew (K2.out.alloc (by have := K4.out; omega) _)
      have q5 : V.heap.size = w.heap.size + 3 := by subst hV; have := K4.out; simp; omega
      have Q1 := Lib.hid q1
      have Q2 := Lib.hid q2
      have Q3 := Lib.hid q3
      have Q4 := Lib.hid q4
      have Q5 := Lib.hid q5
      rw [← hV]
      clear hV q1 q2 q3 q4 q5
      go_wp2
      go_meet
      case rel => exact ⟨rfl, Q1, Q2, Q3, Q4, Q5⟩
  case rest =>
    clear C8 C4 K1 K2 K3
    obtain ⟨rfl, Q1, Q2, Q3, Q4, Q5⟩ := hcut
    have s0 : wc.cell? ⟨W.heap.size, 0, none⟩ = some (.int .i64 (lastOf bs)) := by rw [cell_of_row _ _ _ _ _ _ Q3.out]; rfl
    have s1 : wc.cell? ⟨W.heap.size, 1, none⟩ = some (.int .i64 (rootOf bs)) := by rw [cell_of_row _ _ _ _ _ _ Q3.out]; rfl
    by_cases hr : rootOf bs < 4096
    · have HR := Lib.hid hr
      clear hr
      go_upto_region 5 with (first | (go_at_call 9; refine (write_any _ _ _ RB.out.1 HR.out).mono ?_; rintro e V2 ⟨rfl, hb2⟩) | (refine list_go rfl fun K hK => oper_store24 (.tmp 5) (.tmp 22) rfl _ rfl (wbytes (lastOf bs) (rootOf bs)) zs rfl (wbytes_len _ _) rfl (new_at _ _ _ rfl) (hK _ _ ?_)))
      obtain ⟨V3, hV⟩ : ∃ V3, V3 = (V2.alloc (blk zs)).setRow V2.heap.size (vals (wbytes (lastOf bs) (rootOf bs))) := ⟨_, rfl⟩
      have z2 : w.heap.size + 3 ≤ V2.heap.size := by have := hb2.size; have := Q5.out; omega
      have keep : ∀ k, k < w.heap.size + 3 → V3.heap[k]? = wc.heap[k]? := fun k hk => by
        subst hV
        rw [setRow_other _ _ _ _ (by omega), heap_alloc_old _ _ (by omega)]
        exact hb2.block _ (by have := Q5.out; omega)
      have x5 : V3.heap[V2.heap.size]? = some (.cells (vals (wbytes (lastOf bs) (rootOf bs))) 24 (0, 0)) := by subst hV; exact setRow_heap _ _ _ _ _ _ (new_at _ _ _ rfl)
      have x1 := (keep w.heap.size (by omega)).trans Q1.out
      have x2 := (keep (w.heap.size + 1) (by omega)).trans Q2.out
      have x3 := (keep W.heap.size (by have := K4.out; omega)).trans Q3.out
      have xb : Below w.heap.size w V3 := by subst hV; exact below_setRow (below_alloc (Q4.out.trans (hb2.mono (by have := Q5.out; omega))) _) (by omega) _
      have X5 := Lib.hid x5
      have X1 := Lib.hid x1
      have X2 := Lib.hid x2
      have X3 := Lib.hid x3
      have XB := Lib.hid xb
      rw [← hV]
      clear hV keep x5 x1 x2 x3 xb z2 hb2 s0 s1
      have y0 : V3.cell? ⟨w.heap.size + 1, 0, none⟩ = some (.int .i64 0) := by rw [cell_of_row _ _ _ _ _ _ X2.out]; rfl
      have y1 : V3.cell? ⟨w.heap.size + 1, 1, none⟩ = some (.int .i64 0) := by rw [cell_of_row _ _ _ _ _ _ X2.out]; rfl
      have y2 : V3.frozen? ⟨w.heap.size + 1, 0, none⟩ = false := frozen_of_row _ _ _ _ _ X2.out
      have y3 : V3.frozen? ⟨w.heap.size + 1, 1, none⟩ = false := frozen_of_row _ _ _ _ _ X2.out
      have y4 : V3.cell? ⟨W.heap.size, 0, none⟩ = some (.int .i64 (lastOf bs)) := by rw [cell_of_row _ _ _ _ _ _ X3.out]; rfl
      have y5 : V3.cell? ⟨W.heap.size, 1, none⟩ = some (.int .i64 (rootOf bs)) := by rw [cell_of_row _ _ _ _ _ _ X3.out]; rfl
      by_cases he : wbytes (lastOf bs) (rootOf bs) = bs
      · have HE := Lib.hid he
        have hs : readS bs = (lastOf bs, rootOf bs, 0) := by simp only [readS]; rw [if_neg (by have := H0.out; simpa using this), if_pos ⟨HR.out, he⟩]
        have HS := Lib.hid hs
        clear he hs
        have hq : (!(wbytes (lastOf bs) (rootOf bs) == bs)) = false := by rw [HE.out]; simp
        go_wp2_with (first | (refine list_go rfl fun K hK => oper_load24 (.tmp 5) rfl _ rfl _ (wbytes_len _ _) X5.out (hK _ _ ?_)) | (refine list_go rfl fun K hK => oper_load24 (.tmp 1) rfl _ rfl _ HL.out X1.out (hK _ _ ?_)) | (refine list_go rfl fun K hK => oper_ne24 (.tmp 27) (.tmp 28) 24 rfl (wbytes (lastOf bs) (rootOf bs)) bs rfl rfl (wbytes_len _ _) HL.out (hK _ _ ?_)))
        clear y4 y5
        have xf : Below w.heap.size w ((V3.setCell ⟨w.heap.size + 1, 0, none⟩ (.int .i64 (lastOf bs))).setCell ⟨w.heap.size + 1, 1, none⟩ (.int .i64 (rootOf bs))) := (XB.out.setCell (by simp) _).setCell (by simp) _
        refine bodyPost_ret (v := .tuple #[.agg #[.int .i64 (lastOf bs), .int .i64 (rootOf bs)], .int .i64 0]) (by simp [results, Try.results11, go_sem, y0, y1]) rfl ⟨by rw [HS.out], ?_⟩
        exact xf
      · have HS : Hid (readS bs = (0, 0, 52)) := by
          show _ = _
          simp only [readS]; rw [if_neg (by have := H0.out; simpa using this), if_neg (fun h => he h.2)]
        have hq : (!(wbytes (lastOf bs) (rootOf bs) == bs)) = true := by simp [he]
        clear he y4 y5
        go_wp2_with (first | (refine list_go rfl fun K hK => oper_load24 (.tmp 5) rfl _ rfl _ (wbytes_len _ _) X5.out (hK _ _ ?_)) | (refine list_go rfl fun K hK => oper_load24 (.tmp 1) rfl _ rfl _ HL.out X1.out (hK _ _ ?_)) | (refine list_go rfl fun K hK => oper_ne24 (.tmp 27) (.tmp 28) 24 rfl (wbytes (lastOf bs) (rootOf bs)) bs rfl rfl (wbytes_len _ _) HL.out (hK _ _ ?_)))
        have xf : Below w.heap.size w ((V3.setCell ⟨w.heap.size + 1, 0, none⟩ (.int .i64 0)).setCell ⟨w.heap.size + 1, 1, none⟩ (.int .i64 0)) := (XB.out.setCell (by simp) _).setCell (by simp) _
        refine bodyPost_ret (v := .tuple #[.agg #[.int .i64 0, .int .i64 0], .int .i64 52]) (by simp [results, Try.results11, go_sem, y0, y1]) rfl ⟨by rw [HS.out], ?_⟩
        exact xf
    · have HS : Hid (readS bs = (0, 0, 52)) := by
        show _ = _
        simp only [readS]; rw [if_neg (by have := H0.out; simpa using this), if_neg (fun h => hr h.1)]
      have hr' := hr
      clear hr
      go_upto_region 5 with (first | (go_at_call 9; refine (write_no _ _ _ (.inr (by omega))).mono ?_; rintro e V2 ⟨rfl, hb2⟩) | (refine list_go rfl fun K hK => oper_store24 (.tmp 5) (.tmp 22) rfl _ rfl zs zs rfl rfl rfl (new_at _ _ _ rfl) (hK _ _ ?_)))
      obtain ⟨V3, hV⟩ : ∃ V3, V3 = (V2.alloc (blk zs)).setRow V2.heap.size (vals zs) := ⟨_, rfl⟩
      have z2 : w.heap.size + 3 ≤ V2.heap.size := by have := hb2.size; have := Q5.out; omega
      have x2 : V3.heap[w.heap.size + 1]? = some (.cells #[.int .i64 0, .int .i64 0] 23 (0, 0)) := by
        subst hV
        rw [setRow_other _ _ _ _ (by omega), heap_alloc_old _ _ (by omega)]
        exact (hb2.block _ (by have := Q5.out; omega)).trans Q2.out
      have xb : Below w.heap.size w V3 := by subst hV; exact below_setRow (below_alloc (Q4.out.trans (hb2.mono (by have := Q5.out; omega))) _) (by omega) _
      have XB := Lib.hid xb
      have y0 : V3.cell? ⟨w.heap.size + 1, 0, none⟩ = some (.int .i64 0) := by rw [cell_of_row _ _ _ _ _ _ x2]; rfl
      have y1 : V3.cell? ⟨w.heap.size + 1, 1, none⟩ = some (.int .i64 0) := by rw [cell_of_row _ _ _ _ _ _ x2]; rfl
      have y2 : V3.frozen? ⟨w.heap.size + 1, 0, none⟩ = false := frozen_of_row _ _ _ _ _ x2
      have y3 : V3.frozen? ⟨w.heap.size + 1, 1, none⟩ = false := frozen_of_row _ _ _ _ _ x2
      rw [← hV]
      clear hV x2 xb z2 hb2 s0 s1
      go_wp2
      have xf : Below w.heap.size w ((V3.setCell ⟨w.heap.size + 1, 0, none⟩ (.int .i64 0)).setCell ⟨w.heap.size + 1, 1, none⟩ (.int .i64 0)) := (XB.out.setCell (by simp) _).setCell (by simp) _
      refine bodyPost_ret (v := .tuple #[.agg #[.int .i64 0, .int .i64 0], .int .i64 52]) (by simp [results, Try.results11, go_sem, y0, y1]) rfl ⟨by rw [HS.out], ?_⟩
      exact xf
set_option maxHeartbeats 1600000 in
set_option maxRecDepth 100000 in
theorem read_zero (w : World) : Calls Try.prog 11 #[arr zs] w (RdPost (readS zs) w) := by
  have HS : Hid (readS zs = (-9223372036854775808, 0, 0)) := Lib.hid (by simp [readS])
  go_enter Try.func11, Try.ntmps11
  go_upto_region 1 with (fail)
  obtain ⟨W, hW⟩ : ∃ W, W = (w.alloc (blk zs)).alloc (.cells #[.int .i64 0, .int .i64 0] 23) := ⟨_, rfl⟩
  have k1 : W.heap[w.heap.size]? = some (.cells (vals zs) 24 (0, 0)) := by subst hW; rw [heap_alloc_old]; exact new_at _ _ _ rfl; simp
  have k2 : Below w.heap.size w W := by subst hW; exact below_alloc (below_alloc (Below.refl _ _) _) _
  have k3 : W.heap[w.heap.size + 1]? = some (.cells #[.int .i64 0, .int .i64 0] 23 (0, 0)) := by subst hW; simpa using heap_alloc_new (w.alloc (blk zs)) (.cells #[.int .i64 0, .int .i64 0] 23)
  rw [← hW]
  clear hW
  apply wp_region_lit
  refine list_go rfl fun K hK => oper_load24 _ rfl _ rfl zs rfl k1 (hK _ _ ?_)
  refine list_go rfl fun K hK => oper_build24 rfl (hK _ _ ?_)
  refine list_go rfl fun K hK => oper_eq24 (.tmp 7) (.tmp 8) 24 rfl zs zs rfl rfl rfl rfl (hK _ _ ?_)
  rw [show (zs == zs) = true from by simp]
  simp only [Act.put, List.setIfInBounds_toArray, List.set_cons_succ, List.set_cons_zero]
  have K2 := Lib.hid k2
  have y0 : W.cell? ⟨w.heap.size + 1, 0, none⟩ = some (.int .i64 0) := by rw [cell_of_row _ _ _ _ _ _ k3]; rfl
  have y1 : W.cell? ⟨w.heap.size + 1, 1, none⟩ = some (.int .i64 0) := by rw [cell_of_row _ _ _ _ _ _ k3]; rfl
  have y2 : W.frozen? ⟨w.heap.size + 1, 0, none⟩ = false := frozen_of_row _ _ _ _ _ k3
  have y3 : W.frozen? ⟨w.heap.size + 1, 1, none⟩ = false := frozen_of_row _ _ _ _ _ k3
  clear k1 k2 k3
  go_wp2
  have xf : Below w.heap.size w ((W.setCell ⟨w.heap.size + 1, 0, none⟩ (.int .i64 (-9223372036854775808))).setCell ⟨w.heap.size + 1, 1, none⟩ (.int .i64 0)) := (K2.out.setCell (by simp) _).setCell (by simp) _
  refine bodyPost_ret (v := .tuple #[.agg #[.int .i64 (-9223372036854775808), .int .i64 0], .int .i64 0]) (by simp [results, Try.results11, go_sem, y0, y1]) rfl ⟨by rw [HS.out], ?_⟩
  exact xf
theorem read_all (bs : List Int) (hl : bs.length = 64) (hB : Bytes bs) (w : World) : Calls Try.prog 11 #[arr bs] w (RdPost (readS bs) w) := by
  by_cases h : bs = zs
  · subst h; exact read_zero w
  · exact read_any bs hl hB w h
end Go.Proofs.Ythplbcfaaknepaa
