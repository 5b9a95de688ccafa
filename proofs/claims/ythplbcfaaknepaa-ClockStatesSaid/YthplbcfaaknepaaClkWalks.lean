import Derived.Test.YthplbcfaaknepaaClkWords
namespace Go.Proofs.Ythplbcfaaknepaa
set_option linter.unusedVariables false
set_option linter.unusedSimpArgs false
open Go.RowKit Go.Proofs.YthplbcfaaknepaaW.PrintWords
attribute [local go_sem ↓ high] exec_alloc24


/-- the next stamp, told. -/
def nextS (a b : Int) : Int × Int := if 9223372036854775806 ≤ a ∨ 9223372036854775806 < b then (0, 44) else (if b < a + 1 then a + 1 else b, 0)
def P2 (x : Int × Int) (w : World) (e : Ending) (w' : World) : Prop := e = .returned (.tuple #[.int .i64 x.1, .int .i64 x.2]) ∧ w = w'

theorem nextS_no1 {a b : Int} (h : 9223372036854775806 ≤ a) : nextS a b = (0, 44) := by simp [nextS, h]
theorem nextS_no2 {a b : Int} (h : 9223372036854775806 < b) : nextS a b = (0, 44) := by simp [nextS, h]
theorem nextS_up {a b : Int} (h1 : a < 9223372036854775806) (h2 : b ≤ 9223372036854775806) (h : b < a + 1) : nextS a b = (a + 1, 0) := by
  simp only [nextS]; rw [if_neg (by omega), if_pos h]
theorem nextS_at {a b : Int} (h1 : a < 9223372036854775806) (h2 : b ≤ 9223372036854775806) (h : a + 1 ≤ b) : nextS a b = (b, 0) := by
  simp only [nextS]; rw [if_neg (by omega), if_neg (by omega)]

set_option maxRecDepth 100000 in
theorem next_any (a b : Int) (ha : -9223372036854775808 ≤ a) (w : World) : Calls Try.prog 7 #[.int .i64 a, .int .i64 b] w (P2 (nextS a b) w) := by
  by_cases h1 : 9223372036854775806 ≤ a
  · rw [nextS_no1 h1]
    go_enter Try.func7, Try.ntmps7
    go_wp2
    go_ret2
    exact ⟨rfl, rfl⟩
  by_cases h2 : 9223372036854775806 < b
  · rw [nextS_no2 h2]
    go_enter Try.func7, Try.ntmps7
    go_wp2
    go_ret2
    exact ⟨rfl, rfl⟩
  by_cases h3 : b < a + 1
  · rw [nextS_up (by omega) (by omega) h3]
    go_enter Try.func7, Try.ntmps7
    go_wp2
    go_ret2
    exact ⟨rfl, rfl⟩
  · rw [nextS_at (by omega) (by omega) (by omega)]
    go_enter Try.func7, Try.ntmps7
    go_wp2
    go_ret2
    exact ⟨rfl, rfl⟩

set_option maxRecDepth 100000 in
theorem rnext_any (a b : Int) (ha : -9223372036854775808 ≤ a) (hb : b ≤ 9223372036854775807) (w : World) : Calls Try.prog 8 #[.int .i64 a, .int .i64 b] w (P2 (nextS a b) w) := by
  by_cases h1 : 9223372036854775805 < a
  · rw [nextS_no1 (by omega)]
    go_enter Try.func8, Try.ntmps8
    go_wp2
    go_ret2
    exact ⟨rfl, rfl⟩
  by_cases h2 : 9223372036854775806 < b
  · rw [nextS_no2 h2]
    have h2' : (b == 9223372036854775807) = true := by simp; omega
    clear h2
    go_enter Try.func8, Try.ntmps8
    go_wp2
    go_ret2
    exact ⟨rfl, rfl⟩
  have h2' : (b == 9223372036854775807) = false := by simp; omega
  by_cases h3 : a < b
  · rw [nextS_at (by omega) (by omega) (by omega)]
    go_enter Try.func8, Try.ntmps8
    go_wp2
    go_ret2
    exact ⟨rfl, rfl⟩
  · rw [nextS_up (by omega) (by omega) (by omega)]
    go_enter Try.func8, Try.ntmps8
    go_wp2
    go_ret2
    exact ⟨rfl, rfl⟩

set_option maxRecDepth 100000 in
theorem new_any (a : Int) (w : World) : Calls Try.prog 14 #[.int .i64 a] w fun e w' => e = .returned (.pointer (some ⟨w.heap.size, 0, none⟩)) ∧ w.alloc (.cells #[.int .i64 a] 52) = w' := by
  go_enter Try.func14, Try.ntmps14
  go_wp2
  go_ret
  exact ⟨rfl, rfl⟩
theorem last_nil (w : World) : Calls Try.prog 16 #[.pointer none] w fun e w' => e = .returned (.int .i64 0) ∧ w = w' := by
  go_enter Try.func16, Try.ntmps16
  go_wp2
  go_ret
  exact ⟨rfl, rfl⟩
theorem last_any (b : Addr) (a : Int) (w : World) (h : w.cell? b = some (.int .i64 a)) : Calls Try.prog 16 #[.pointer (some b)] w fun e w' => e = .returned (.int .i64 a) ∧ w = w' := by
  go_enter Try.func16, Try.ntmps16
  go_wp2
  go_ret
  exact ⟨rfl, rfl⟩
theorem ask_nil (x : Int) (w : World) : Calls Try.prog 15 #[.pointer none, .int .i64 x] w (P2 (0, 6) w) := by
  go_enter Try.func15, Try.ntmps15
  go_wp2
  go_ret2
  exact ⟨rfl, rfl⟩
theorem ask_any (b : Addr) (a x : Int) (ha : -9223372036854775808 ≤ a) (w : World) (h : w.cell? b = some (.int .i64 a)) : Calls Try.prog 15 #[.pointer (some b), .int .i64 x] w (P2 (nextS a x) w) := by
  go_enter Try.func15, Try.ntmps15
  go_wp2_with (go_at_call 7; refine (next_any _ _ ha _).mono ?_; rintro e w' ⟨rfl, rfl⟩)
  go_ret2
  exact ⟨rfl, rfl⟩
theorem keep_nil (x : Int) (w : World) : Calls Try.prog 17 #[.pointer none, .int .i64 x] w fun e w' => e = .returned (.int .i64 6) ∧ w = w' := by
  go_enter Try.func17, Try.ntmps17
  go_wp2
  go_ret
  exact ⟨rfl, rfl⟩
theorem keep_no (b : Addr) (a x : Int) (hx : x ≤ a) (w : World) (h : w.cell? b = some (.int .i64 a)) : Calls Try.prog 17 #[.pointer (some b), .int .i64 x] w fun e w' => e = .returned (.int .i64 1) ∧ w = w' := by
  go_enter Try.func17, Try.ntmps17
  go_wp2
  go_ret
  exact ⟨rfl, rfl⟩
theorem keep_yes (b : Addr) (a x : Int) (hx : a < x) (w : World) (h : w.cell? b = some (.int .i64 a)) (hf : w.frozen? b = false) : Calls Try.prog 17 #[.pointer (some b), .int .i64 x] w fun e w' => e = .returned (.int .i64 0) ∧ w.setCell b (.int .i64 x) = w' := by
  go_enter Try.func17, Try.ntmps17
  go_wp2
  go_ret
  exact ⟨rfl, rfl⟩
set_option maxRecDepth 100000 in
theorem wide_any (n : Nat) (m : Int) (hm : m = n) (A : Addr) (len cap : Nat) (hn : n ≤ len) (hc : len ≤ cap) (hn8 : n ≤ 8) (bs : List Int) (hl : n = bs.length) (hB : Bytes bs) (w : World)
    (hcell : ∀ j, j < n → w.cell? (A.add j) = some (.int .u8 (bs.getD j 0))) (_hcap : cap ≤ maxLen) :
    Calls Try.prog 19 #[.int .i64 m, .slice (some A) len cap] w fun e w' => e = .returned (.int .u64 (be bs)) ∧ w = w' := by
  subst hm
  unfold maxLen at _hcap
  have HL := Lib.hid hl
  have HC := Lib.hid hcell
  have HBB := Lib.hid hB
  clear hl hcell hB
  go_enter Try.func19, Try.ntmps19
  go_wp2
  go_loop [5, 12] (fun v i => ∃ k : Nat, k ≤ n ∧ i = .int .i64 k ∧ v = .int .u64 (be (bs.take k))) (fun _ i => n - (intOf i).toNat)
  case atStart => exact ⟨0, Nat.zero_le _, rfl, rfl⟩
  case round =>
    obtain ⟨k, hk, rfl, rfl⟩ := hrel
    by_cases hlt : k < n
    · have hcl := HC.out k hlt
      obtain ⟨b1, b2⟩ := be_lt k (bs.take k) (by simp [← HL.out]; omega) (fun x hx => HBB.out x (List.mem_of_mem_take hx)) (by omega)
      have hk' : k < bs.length := by rw [← HL.out]; exact hlt
      obtain ⟨b4, b5⟩ := HBB.out (bs.getD k 0) (by simp [List.getD_eq_getElem?_getD, List.getElem?_eq_getElem hk'])
      have HS : Hid (be (bs.take k) * 256 + bs.getD k 0 = be (bs.take (k + 1))) := by
        show _ = _
        rw [take_snoc bs k hk', be_snoc]
      clear hk'
      generalize bs.getD k 0 = c at *
      have h8 := or8 b1 b2 b4 b5
      generalize be (bs.take k) = v at *
      go_wp2
      go_round
      case rel => exact ⟨k + 1, by omega, by go_num, by rw [HS.out]⟩
      case measure => simp [intOf]; omega
    · go_wp2
      go_ret
      exact ⟨by simp only [Array.getD]; simp; rw [List.take_of_length_le (by rw [← HL.out]; omega)], rfl⟩

set_option maxRecDepth 100000 in
theorem addWide_any (n : Nat) (m : Int) (hm : m = n) (hn8 : n ≤ 8) (x : Int) (h0 : 0 ≤ x) (h1 : x < 18446744073709551616) (w : World) :
    Calls Try.prog 18 #[.slice none 0 0, .int .i64 m, .int .u64 x] w fun e w' => ∃ A c, e = .returned (.slice A n c) ∧ w'.ownsRow w.heap.size 5 1 (.slice A n c) n (nums .u8 (beOf n n x)) ∧ Below w.heap.size w w' := by
  subst hm
  go_enter Try.func18, Try.ntmps18
  go_wp2
  go_loopw [0, 9] (fun v i wr => ∃ k : Nat, k ≤ n ∧ i = .int .i64 k ∧ wr.ownsRow w.heap.size 5 1 v k (nums .u8 (beOf n k x)) ∧ Below w.heap.size w wr) (fun _ i _ => n - (intOf i).toNat)
  case atStart => exact ⟨0, Nat.zero_le _, rfl, own_nil _ _ _ _, Below.refl _ _⟩
  case round =>
    obtain ⟨k, hk, rfl, ho, hb⟩ := hrel
    have HO := Lib.hid ho
    have HB := Lib.hid hb
    clear ho hb
    by_cases hlt : k < n
    · go_wp2_with (at_builtin; go_must (refine print_append_num (w0 := w) w.heap.size rfl (.tmp 12) (.tmp 21) 30 5 .u8 1 rfl Try.underlying30 info5 (by decide) _ (beOf n k x) _ rfl rfl ?c1 ?c2 ?c3 ?c4 ?_); (case c1 => rw [beOf_length]; exact HO.out); (case c2 => exact HB.out); (case c3 => exact HB.out.size); (case c4 => rw [beOf_length]; omega); intro v1 w1 ho hb _ _)
      rw [beOf_snoc, beOf_length] at ho
      go_roundw
      case rel => exact ⟨k + 1, by omega, by go_num, ho, hb⟩
      case measure => simp [intOf]; omega
    · obtain rfl : k = n := by omega
      go_wp2
      obtain ⟨A, c, hs⟩ := own_slice HO.out
      go_ret
      exact ⟨A, c, congrArg Ending.returned hs, hs ▸ HO.out, HB.out⟩

theorem one_splice {L M : List Value} (hL : ∀ v ∈ L, v.oneCell' = true) (k : Nat) (hM : ∀ v ∈ M, v.oneCell' = true) : ∀ v ∈ splice L k M, v.oneCell' = true := by
  intro v hv
  simp only [splice, List.mem_append] at hv
  rcases hv with hv | hv | hv
  · exact hL v (List.mem_of_mem_take hv)
  · exact hM v hv
  · exact hL v (List.mem_of_mem_drop hv)
theorem splice_at (L M R C : List Value) (off : Nat) (hL : L.length = off) (hM : M.length = C.length) : splice (L ++ (M ++ R)) off C = L ++ (C ++ R) := by
  subst hL
  have e : L ++ (M ++ R) = (L ++ M) ++ R := by simp
  rw [splice, List.take_left, e, ← hM, show L.length + M.length = (L ++ M).length by simp, List.drop_left]
def wcells1 (a : Int) : List Value := splice (nums .u8 (1 :: List.replicate 63 0)) 8 (nums .u8 (beOf 8 8 (bits .xor .u64 (IntKind.u64.wrap a) 9223372036854775808)))
def wcells (a r : Int) : List Value := splice (wcells1 a) 16 (nums .u8 (beOf 4 4 (IntKind.u64.wrap r)))
theorem wcells_eq (a r : Int) (h1 : bits .xor .u64 (IntKind.u64.wrap a) 9223372036854775808 = (a + 9223372036854775808) % 18446744073709551616) (h2 : IntKind.u64.wrap r = r) : wcells a r = nums .u8 (wbytes a r) := by
  have e1 : nums .u8 (1 :: List.replicate 63 0) = nums .u8 [1, 0, 0, 0, 0, 0, 0, 0] ++ (nums .u8 (List.replicate 8 0) ++ nums .u8 (List.replicate 48 0)) := rfl
  have e2 : nums .u8 (List.replicate 48 0) = nums .u8 (List.replicate 4 0) ++ nums .u8 (List.replicate 44 0) := rfl
  unfold wcells wcells1
  rw [h1, h2, e1, splice_at _ _ _ _ _ (by simp [nums]) (by simp [nums, beOf_length]), ← List.append_assoc, e2, splice_at _ _ _ _ _ (by simp [nums, beOf_length]) (by simp [nums, beOf_length])]
  simp [wbytes, nums]
theorem wcells1_len (a : Int) : (wcells1 a).length = 64 := by unfold wcells1; rw [length_splice] <;> simp [nums, beOf_length]
theorem wcells_len (a r : Int) : (wcells a r).length = 64 := by unfold wcells; rw [length_splice] <;> simp [nums, beOf_length, wcells1_len]
theorem wcells_size (a r : Int) : (wcells a r).toArray.size = 64 := by simpa using wcells_len a r
theorem wcells_one (a r : Int) : ∀ v ∈ wcells a r, v.oneCell' = true := one_splice (one_splice (one_nums _ _) _ (one_nums _ _)) _ (one_nums _ _)
theorem results_arr {fn : Func} {p u : Tmp} (h : fn.results = #[.cell p 24, .tmp u]) (tmps : Array Value) (w : World) (g : Nat) (cs : Array Value) (t : TypeId) (fr : Nat × Nat)
    (hp : tmps.getD p undef = .pointer (some ⟨g, 0, none⟩)) (hg : w.heap[g]? = some (.cells cs t fr)) (hs : cs.size = 64) : (results fn tmps).run Try.prog w = .ok (.tuple #[.agg cs, tmps.getD u undef]) w := by
  rw [results_cell_tmp h, hp]
  simp only [asAddr, Sem.run_pure, Result.andThen_ok, run_loadVar_row w g t 24 cs fr _ hg Try.underlying24 rfl (by rw [hs]; kernel_rfl)]
set_option maxRecDepth 100000 in
theorem write_any (a r : Int) (w : World) (h0 : 0 ≤ r) (h1 : r < 4096) : Calls Try.prog 9 #[.agg #[.int .i64 a, .int .i64 r]] w fun e w' => e = .returned (.tuple #[arr (wbytes a r), .int .i64 0]) ∧ Below w.heap.size w w' := by
  go_enter Try.func9, Try.ntmps9
  go_upto_region 4 with (fail)
  obtain ⟨W, hW⟩ : ∃ W, W = ((w.alloc (.cells #[.int .i64 a, .int .i64 r] 23)).alloc (blk zs)).alloc (blk zs) := ⟨_, rfl⟩
  have c0 : W.cell? ⟨w.heap.size, 0, none⟩ = some (.int .i64 a) := by subst hW; simp [go_sem, World.cell?_alloc_past]
  have c1 : W.cell? ⟨w.heap.size, 1, none⟩ = some (.int .i64 r) := by subst hW; simp [go_sem, World.cell?_alloc_past]
  have b1 : W.heap[w.heap.size + 1]? = some (.cells (vals zs) 24 (0, 0)) := by subst hW; rw [heap_alloc_old]; exact new_at _ _ _ (by simp); simp
  have b2 : W.heap[w.heap.size + 1 + 1]? = some (.cells (vals zs) 24 (0, 0)) := by subst hW; exact new_at _ _ _ (by simp)
  have hz : W.heap.size = w.heap.size + 3 := by subst hW; simp
  have hb : Below w.heap.size w W := by subst hW; exact below_alloc (below_alloc (below_alloc (Below.refl _ _) _) _) _
  rw [← hW]
  clear hW
  have B1 := Lib.hid b1
  have B2 := Lib.hid b2
  have HZ := Lib.hid hz
  have HB := Lib.hid hb
  have z0 : W.cell? ⟨w.heap.size + 1 + 1, 0, none⟩ = some (.int .u8 0) := by rw [cell_of_row _ _ _ _ _ _ b2]; rfl
  have f0 : W.frozen? ⟨w.heap.size + 1 + 1, 0, none⟩ = false := frozen_of_row _ _ _ _ _ b2
  clear b1 b2 hz hb
  go_upto_region 5 with (fail)
  obtain ⟨W2, hW⟩ : ∃ W2, W2 = W.setCell ⟨w.heap.size + 1 + 1, 0, none⟩ (.int .u8 1) := ⟨_, rfl⟩
  have d0 : W2.cell? ⟨w.heap.size, 0, none⟩ = some (.int .i64 a) := by subst hW; rw [World.cell?_setCell_other]; exact c0; simp
  have d1 : W2.cell? ⟨w.heap.size, 1, none⟩ = some (.int .i64 r) := by subst hW; rw [World.cell?_setCell_other]; exact c1; simp
  have b1 : W2.heap[w.heap.size + 1]? = some (.cells (vals zs) 24 (0, 0)) := by subst hW; rw [heap_setCell_other]; exact B1.out; simp
  have b2 : W2.heap[w.heap.size + 1 + 1]? = some (.cells (vals (1 :: List.replicate 63 0)) 24 (0, 0)) := by subst hW; rw [heap_setCell_same _ _ _ _ _ _ B2.out]; rfl
  have hz : W2.heap.size = w.heap.size + 3 := by subst hW; simpa using HZ.out
  have hb : Below w.heap.size w W2 := by subst hW; exact HB.out.setCell (by simp; omega) _
  rw [← hW]
  clear hW c0 c1 B1 B2 HZ HB z0 f0
  have D1 := Lib.hid d1
  have B1 := Lib.hid b1
  have B2 := Lib.hid b2
  have HZ := Lib.hid hz
  have HB := Lib.hid hb
  clear b1 b2 hz hb
  obtain ⟨x0, x1⟩ := bits_u64 .xor (IntKind.u64.wrap a) 9223372036854775808
  have xe := flip_top a
  have XE := Lib.hid xe
  clear xe
  go_region_law (first | (go_simp; go_at_call 18; refine (addWide_any 8 _ rfl (by decide) _ x0 x1 _).mono ?_; rintro e w3 ⟨A3, c3, rfl, ho3, hb3⟩) | (refine step_copy_splice rfl (.tmp 15) (.tmp 20) 30 30 rfl 5 Try.underlying30 (by kernel_rfl) (some ⟨w.heap.size + 1 + 1, 8, none⟩) A3 56 56 8 c3 rfl rfl (w.heap.size + 1 + 1) 8 (nums .u8 (1 :: List.replicate 63 0)) 24 ?h1 (nums .u8 (beOf 8 8 (bits .xor .u64 (IntKind.u64.wrap a) 9223372036854775808))) ?h2 ?h3 ?h4 ?h5 (w.heap.size + 2) W2 ?h6 ?h7 ?_; (case h1 => exact (hb3.block _ (by simp; have := HZ.out; omega)).trans B2.out); (case h2 => simp [nums, beOf_length]); (case h3 => intro _; exact ⟨rfl, own_src ho3 (by decide)⟩); (case h4 => simp [nums, beOf_length]); (case h5 => exact one_nums _ _); (case h6 => exact below_from (by have := HZ.out; omega) (below_drewx W2) hb3); (case h7 => omega); intro w4 hg4 hb4))
  clear d0 d1 ho3 hb3 x0 x1
  go_upto_region 6 with (fail)
  have e0 : w4.cell? ⟨w.heap.size, 1, none⟩ = some (.int .i64 r) := (hb4.cell (p := ⟨w.heap.size, 1, none⟩) (by simp)).trans D1.out
  have hz : w.heap.size + 3 ≤ w4.heap.size := by have := hb4.size; have := HZ.out; omega
  have hgg : w4.heap[w.heap.size + 1 + 1]? = some (.cells (wcells1 a).toArray 24 (0, 0)) := hg4
  clear hg4
  have HG := Lib.hid hgg
  have HB4 := Lib.hid hb4
  have HZ4 := Lib.hid hz
  clear hgg hb4 hz
  have er := Lib.hid (wraps_u64 r h0 (by omega))
  obtain ⟨r0, r1⟩ := wrap_rng r
  go_region_law (first | (go_simp; go_at_call 18; refine (addWide_any 4 _ rfl (by decide) _ r0 r1 _).mono ?_; rintro e w5 ⟨A5, c5, rfl, ho5, hb5⟩) | (refine step_copy_splice rfl (.tmp 22) (.tmp 26) 30 30 rfl 5 Try.underlying30 (by kernel_rfl) (some ⟨w.heap.size + 1 + 1, 16, none⟩) A5 48 48 4 c5 rfl rfl (w.heap.size + 1 + 1) 16 (wcells1 a) 24 ?h1 (nums .u8 (beOf 4 4 (IntKind.u64.wrap r))) ?h2 ?h3 ?h4 ?h5 (w.heap.size + 2) W2 ?h6 ?h7 ?_; (case h1 => exact (hb5.block _ (by simp; have := HZ4.out; omega)).trans HG.out); (case h2 => simp [nums, beOf_length]); (case h3 => intro _; exact ⟨rfl, own_src ho5 (by decide)⟩); (case h4 => rw [wcells1_len]; simp [nums, beOf_length]); (case h5 => exact one_nums _ _); (case h6 => exact HB4.out.trans (below_from (by have := HZ4.out; omega) (below_drewx w4) hb5)); (case h7 => omega); intro w6 hg6 hb6))
  clear ho5 hb5 HG HB4 HZ4 e0
  go_upto_region 7 with (fail)
  have b1 : w6.heap[w.heap.size + 1]? = some (.cells (vals zs) 24 (0, 0)) := (hb6.block _ (by omega)).trans B1.out
  have hgg : w6.heap[w.heap.size + 1 + 1]? = some (.cells (wcells a r).toArray 24 (0, 0)) := hg6
  have hfin : Below w.heap.size w w6 := HB.out.trans (hb6.mono (by omega))
  clear hg6 hb6
  have B1' := Lib.hid b1
  have HG := Lib.hid hgg
  have HF := Lib.hid hfin
  clear b1 hgg hfin
  apply wp_region_lit
  refine wpList_load_row rfl 24 _ rfl _ rfl 24 _ _ _ HG.out Try.underlying24 rfl ?_ ?_
  · rw [wcells_size]; kernel_rfl
  refine wpList_store_row rfl 24 (.tmp 2) (.tmp 28) rfl (w.heap.size + 1) rfl _ rfl _ 24 B1'.out ?_ ?_ ?_ ?_
  · rw [wcells_size]; rfl
  · rw [wcells_size]; kernel_rfl
  · exact wcells_one a r
  have hr := setRow_heap w6 (w.heap.size + 1) _ (wcells a r).toArray _ _ B1'.out
  have hB := below_setRow HF.out (Nat.le_succ _) (wcells a r).toArray
  have HR := Lib.hid hr
  have HB' : Hid (Below w.heap.size w (w6.setRow (w.heap.size + 1) (wcells a r).toArray)) := Lib.hid hB
  clear hr hB
  go_wp2
  have hv := congrArg List.toArray (wcells_eq a r XE.out er.out)
  refine bodyPost_ret (v := .tuple #[arr (wbytes a r), .int .i64 0]) ?_ rfl ⟨rfl, HB'.out⟩
  refine (results_arr Try.results9 _ _ (w.heap.size + 1) _ _ _ rfl HR.out (wcells_size a r)).trans ?_
  rw [hv]
  rfl
end Go.Proofs.Ythplbcfaaknepaa
