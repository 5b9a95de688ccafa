import Derived.Test.YthplbcfaaknepaaClkPlain
import Derived.Deep.DeepCutAuto
import Derived.Deep.RegionHeld3
namespace Go.Proofs.Ythplbcfaaknepaa
set_option linter.unusedVariables false
set_option linter.unusedSimpArgs false
open Go.RowKit Go.Proofs.YthplbcfaaknepaaW.PrintWords

/-- hindsightref13.Write. -/
def le (n : Nat) (v : Int) : List Int := (List.range n).map fun i => v / 256 ^ i % 256
def one8 : List Int := [1, 0, 0, 0, 0, 0, 0, 0]
theorem lit_reads (W : World) (e : TypeId) (k : IntKind) (ys : List Int) (h : ys.length ≤ 9223372036854775807) : ReadsInt (W.alloc (.cells (nums k ys).toArray e)) k (some ⟨W.heap.size, 0, none⟩) ys.length ys := by
  obtain ⟨A, c, he, hr⟩ := own_reads (own_lit W W.heap.size e k ys (Nat.le_refl _) h)
  injection he with h1 h2 h3
  subst h1
  exact hr
def lenOf : Value → Nat
  | .slice _ n _ => n
  | _ => 0
def made64 : Array Value := madeCells #[.int .u8 0] 64
def lo : Nat → Int → List Int
  | 0, _ => []
  | k + 1, x => (x / 256 ^ k % 256) :: lo k x
theorem lenOf_own {w : World} {base n : Nat} {e : TypeId} {size : Nat} {v : Value} {xs : List Value} (h : w.ownsRow base e size v n xs) : lenOf v = n := by
  obtain ⟨A, c, rfl⟩ := own_slice h
  rfl
theorem lo_length (k : Nat) (x : Int) : (lo k x).length = k := by induction k with | zero => rfl | succ k ih => simp [lo, ih]
def head20 (x r : Int) : List Int := one8 ++ lo 8 x ++ [0, 0, r / 256, r % 256]
theorem head20_len (x r : Int) (k : Nat) : (head20 x r ++ List.replicate k 0).length = 20 + k := by simp [head20, one8, lo_length]; omega
theorem div_bd (x : Int) (k : Nat) (h0 : 0 ≤ x) (h1 : x < 18446744073709551616) : 0 ≤ x / 256 ^ k ∧ x / 256 ^ k < 18446744073709551616 := by
  have hp : (0 : Int) < 256 ^ k := Int.pow_pos (by decide)
  refine ⟨Int.ediv_nonneg h0 (by omega), Int.lt_of_le_of_lt (Int.ediv_le_self _ h0) h1⟩
theorem head20_w (a r : Int) (h0 : 0 ≤ r) (h1 : r < 4096) : head20 ((a + 9223372036854775808) % 18446744073709551616) r ++ List.replicate 44 0 = wbytes a r := by
  have e1 : ∀ x : Int, lo 8 x = beOf 8 8 x := by intro x; simp [lo, beOf, List.range_succ]
  have e2 : [0, 0, r / 256, r % 256] = beOf 4 4 r := by simp [beOf, List.range_succ]; omega
  unfold head20 wbytes
  rw [e1, e2]
  rfl
set_option maxHeartbeats 1600000 in
set_option maxRecDepth 100000 in
theorem rwrite_no (a r : Int) (w : World) (h0 : r < 0 ∨ (0 ≤ r ∧ 4095 < r)) : Calls Try.prog 10 #[.int .i64 a, .int .i64 r] w fun e w' => ∃ A c, e = .returned (.tuple #[.slice A 64 c, .int .i64 3]) ∧ w'.ownsRow w.heap.size 5 1 (.slice A 64 c) 64 (nums .u8 zs) ∧ Below w.heap.size w w' := by
  have hm : ∀ W : World, (Instr.makeSlice 30 (.int .i64 64) (.int .i64 64)).run Try.prog W = .ok (.slice (some ⟨W.heap.size, 0, none⟩) 64 64) (W.alloc (.cells made64 5)) := print_make (P := Try.prog) 30 5 .u8 1 Try.underlying30 info5 (by decide) 64 (by decide)
  have ho : ∀ W : World, w.heap.size ≤ W.heap.size → (W.alloc (.cells made64 5)).ownsRow w.heap.size 5 1 (.slice (some ⟨W.heap.size, 0, none⟩) 64 64) 64 (nums .u8 zs) := fun W h => own_made W w.heap.size 5 .u8 64 h (by decide)
  have HO := Lib.hid ho
  clear ho
  rcases h0 with h0 | ⟨h0, h1⟩
  · go_enter Try.func10, Try.ntmps10
    go_wp2
    go_ret2
    exact ⟨_, _, rfl, HO.out _ (Nat.le_refl _), by first | exact below_alloc (Below.refl _ _) _ | exact below_alloc (below_drew (Below.refl _ _)) _⟩
  · go_enter Try.func10, Try.ntmps10
    go_wp2
    go_ret2
    exact ⟨_, _, rfl, HO.out _ (Nat.le_refl _), by first | exact below_alloc (Below.refl _ _) _ | exact below_alloc (below_drew (Below.refl _ _)) _⟩
set_option maxHeartbeats 1600000 in
set_option maxRecDepth 100000 in
theorem rwrite_any (a r : Int) (w : World) (h0 : 0 ≤ r) (h1 : r < 4096) : Calls Try.prog 10 #[.int .i64 a, .int .i64 r] w fun e w' => ∃ A c, e = .returned (.tuple #[.slice A 64 c, .int .i64 0]) ∧ w'.ownsRow w.heap.size 5 1 (.slice A 64 c) 64 (nums .u8 (wbytes a r)) ∧ Below w.heap.size w w' := by
  have hx : IntKind.u64.wrap (IntKind.u64.wrap a + 9223372036854775808) = (a + 9223372036854775808) % 18446744073709551616 := by rw [IntKind.wrap_u64, IntKind.wrap_u64]; omega
  have HX := Lib.hid hx
  clear hx
  go_enter Try.func10, Try.ntmps10
  go_wp2_with fail
  obtain ⟨x, x0, x1, XE⟩ : ∃ x : Int, 0 ≤ x ∧ x < 18446744073709551616 ∧ Hid (x = (a + 9223372036854775808) % 18446744073709551616) := ⟨_, by omega, by omega, rfl⟩
  rw [HX.out, ← XE.out]
  go_loopw [7, 8, 9] (fun v7 v8 v9 wr => ∃ k : Nat, k ≤ 8 ∧ v9 = .int .i64 k ∧ v7 = .int .u64 (x / 256 ^ k) ∧ Hid (wr.ownsRow w.heap.size 5 1 v8 k (nums .u8 (lo k x))) ∧ Hid (wr.ownsRow w.heap.size 5 1 (.slice (some ⟨w.heap.size, 0, none⟩) 8 8) 8 (nums .u8 one8)) ∧ Hid (Below w.heap.size w wr) ∧ Hid (w.heap.size < wr.heap.size)) (fun _ _ v9 _ => 8 - (intOf v9).toNat)
  case atStart => exact ⟨0, by omega, rfl, by simp, Lib.hid (own_nil _ _ _ _), Lib.hid (own_lit w w.heap.size 5 .u8 one8 (by omega) (by decide)), Lib.hid (below_alloc (Below.refl _ _) _), Lib.hid (by simp)⟩
  case round =>
    obtain ⟨k, hk, rfl, rfl, H8, H6, HB, HZ⟩ := hrel
    by_cases hlt : k < 8
    · obtain ⟨A, c, hv, hr⟩ := own_reads H8.out
      have HR := Lib.hid hr
      rw [hv]
      clear hv hr
      obtain ⟨y0, y1⟩ := div_bd x k x0 x1
      go_wp2_with (at_builtin; go_must ((refine print_append_row (w0 := w) w.heap.size rfl (.tmp 28) (.tmp 29) 30 5 .u8 1 rfl Try.underlying30 info5 (by decide) (.slice (some ⟨wr.heap.size, 0, none⟩) 1 1) [x / 256 ^ k % 256] (lo k x) A k c rfl rfl ?c1 ?c2 ?c3 ?c4 ?c5 ?_; (case c1 => exact own_lit wr w.heap.size 5 .u8 [x / 256 ^ k % 256] (Nat.le_of_lt HZ.out) (by simp)); (case c2 => exact HR.out.below (below_alloc (Below.refl _ _) _)); (case c3 => exact below_alloc HB.out _); (case c4 => simp; exact Nat.le_succ_of_le (Nat.le_of_lt HZ.out)); (case c5 => simp; omega); intro v1 w1 ho hb hg _)))
      have h6 : w1.ownsRow w.heap.size 5 1 (.slice (some ⟨w.heap.size, 0, none⟩) 8 8) 8 (nums .u8 one8) := own_other (H6.out.alloc _) hg (.inr (by simp [Value.ownBlock]; have := HZ.out; omega))
      have hz : w.heap.size < w1.heap.size := by have := hg.size; have := HZ.out; simp at *; omega
      have HO : Hid (w1.ownsRow w.heap.size 5 1 v1 (k + 1) (nums .u8 (lo (k + 1) x))) := by
        have e : ([x / 256 ^ k % 256] ++ lo k x).length = k + 1 := by simp [lo_length]
        rw [e] at ho
        exact ho
      have H6' := Lib.hid h6
      have HB' := Lib.hid hb
      have HZ' := Lib.hid hz
      clear ho hb hg h6 hz HR
      have hd : x / 256 ^ k / 256 = x / 256 ^ (k + 1) := by rw [Int.pow_succ, Int.ediv_ediv_of_nonneg (Int.le_of_lt (Int.pow_pos (by decide)))]
      have HD := Lib.hid hd
      clear hd
      go_wp2
      rw [HD.out]
      go_roundw
      case rel => exact ⟨k + 1, by omega, by go_num, rfl, HO, H6', HB', HZ'⟩
      case measure => simp [intOf]; omega
    · obtain rfl : k = 8 := by omega
      obtain ⟨A, c, hv, hr⟩ := own_reads H8.out
      have HR := Lib.hid hr
      rw [hv]
      clear hv hr
      go_upto_region 12 with (at_builtin; go_must ((refine print_append_row (w0 := w) w.heap.size rfl (.tmp 33) (.tmp 34) 30 5 .u8 1 rfl Try.underlying30 info5 (by decide) (.slice (some ⟨w.heap.size, 0, none⟩) 8 8) one8 (lo 8 x) A 8 c rfl rfl ?c1 ?c2 ?c3 ?c4 ?c5 ?_; (case c1 => exact H6.out); (case c2 => exact HR.out); (case c3 => exact HB.out); (case c4 => exact Nat.le_of_lt HZ.out); (case c5 => decide); intro v2 w2 ho2 hb2 hg2 _)))
      have HO2 := Lib.hid ho2
      have HB2 := Lib.hid hb2
      clear ho2 hb2 hg2 HR H6 H8
      go_wp2_with (at_builtin; go_must ((refine print_append_row (w0 := w) w.heap.size rfl (.tmp 36) (.tmp 43) 30 5 .u8 1 rfl Try.underlying30 info5 (by decide) v2 (one8 ++ lo 8 x) [0, 0, r / 256, r % 256] (some ⟨w2.heap.size, 0, none⟩) 4 4 rfl rfl ?c1 ?c2 ?c3 ?c4 ?c5 ?_; (case c1 => exact HO2.out.alloc _); (case c2 => exact lit_reads w2 5 .u8 [0, 0, r / 256, r % 256] (by simp)); (case c3 => exact below_alloc HB2.out _); (case c4 => simp; have := HB2.out.size; omega); (case c5 => simp [one8, lo_length]); intro v3 w3 ho3 hb3 hg3 _)))
      have HO3 : Hid (w3.ownsRow w.heap.size 5 1 v3 20 (nums .u8 (head20 x r))) := by
        have e : (one8 ++ lo 8 x ++ [0, 0, r / 256, r % 256]).length = 20 := by simp [one8, lo_length]
        rw [e] at ho3
        exact ho3
      have HB3 := Lib.hid hb3
      clear ho3 hb3 hg3 HO2 HB2
      go_loopw [6] (fun v6 wq => ∃ k : Nat, k ≤ 44 ∧ Hid (wq.ownsRow w.heap.size 5 1 v6 (20 + k) (nums .u8 (head20 x r ++ List.replicate k 0))) ∧ Hid (Below w.heap.size w wq)) (fun v6 _ => 64 - lenOf v6)
      case atStart => exact ⟨0, by omega, by rw [List.replicate_zero, List.append_nil]; exact HO3, HB3⟩
      case round =>
        obtain ⟨k, hk, HO, HB⟩ := hrel
        obtain ⟨A6, c6, hv, _⟩ := own_reads HO.out
        rw [hv]
        have HV := Lib.hid hv
        clear hv
        by_cases hlt : k < 44
        · go_wp2_with (at_builtin; go_must ((refine print_append_num (w0 := w) w.heap.size rfl (.tmp 48) (.tmp 49) 30 5 .u8 1 rfl Try.underlying30 info5 (by decide) (.slice A6 (20 + k) c6) (head20 x r ++ List.replicate k 0) 0 rfl rfl ?c1 ?c2 ?c3 ?c4 ?_; (case c1 => have := HO.out; rw [HV.out] at this; rw [head20_len]; exact this); (case c2 => exact HB.out); (case c3 => exact HB.out.size); (case c4 => rw [head20_len]; omega); intro v4 w4 ho4 hb4 _ _)))
          have HO4 : Hid (w4.ownsRow w.heap.size 5 1 v4 (20 + (k + 1)) (nums .u8 (head20 x r ++ List.replicate (k + 1) 0))) := by
            have e : head20 x r ++ List.replicate k 0 ++ [0] = head20 x r ++ List.replicate (k + 1) 0 := by rw [List.append_assoc, ← List.replicate_succ']
            rw [e, head20_len] at ho4
            exact ho4
          have HB4 := Lib.hid hb4
          clear ho4 hb4
          have HM : Hid (lenOf v4 = 20 + (k + 1)) := Lib.hid (lenOf_own HO4.out)
          go_roundw
          case rel => exact ⟨k + 1, by omega, HO4, HB4⟩
          case measure => have := HM.out; simp [lenOf] at *; omega
        · obtain rfl : k = 44 := by omega
          have HW : Hid (head20 x r ++ List.replicate 44 0 = wbytes a r) := Lib.hid (by rw [XE.out]; exact head20_w a r h0 h1)
          have HO' := HO.out
          rw [HV.out, HW.out] at HO'
          have HF := Lib.hid HO'
          clear HO'
          go_wp2
          go_ret2
          exact ⟨A6, c6, rfl, HF.out, HB.out⟩

theorem strOf_inj {xs ys : List Int} (hx : Bytes xs) (hy : Bytes ys) (h : (strOfNums xs).toList = (strOfNums ys).toList) : xs = ys := by
  rw [ByteArray.toList_eq, ByteArray.toList_eq, strOfNums_data, strOfNums_data] at h
  induction xs generalizing ys with
  | nil => cases ys with | nil => rfl | cons y ys => simp at h
  | cons x xs ih =>
    cases ys with
    | nil => simp at h
    | cons y ys =>
      simp only [List.map_cons, List.cons.injEq] at h
      obtain ⟨h1, h2⟩ := h
      have x1 := hx x (by simp)
      have y1 := hy y (by simp)
      have e := congrArg UInt8.toNat h1
      simp at e
      have : x = y := by omega
      rw [this, ih (fun c hc => hx c (by simp [hc])) (fun c hc => hy c (by simp [hc])) h2]
theorem lastRaw_bd (bs : List Int) (hl : bs.length = 64) (hB : Bytes bs) : 0 ≤ be ((bs.drop 8).take 8) ∧ be ((bs.drop 8).take 8) < 18446744073709551616 := by
  obtain ⟨h1, h2⟩ := be_bd 8 ((bs.drop 8).take 8) (by simp; omega) (fun x hx => hB x (List.mem_of_mem_drop (List.mem_of_mem_take hx)))
  have e : (256 : Int) ^ 8 = 18446744073709551616 := by decide
  rw [e] at h2
  exact ⟨h1, h2⟩
theorem getD_w18 (a r : Int) (h0 : 0 ≤ r) (h1 : r < 4096) : (wbytes a r).getD 18 0 = r / 256 := by
  unfold wbytes
  simp [beOf, List.range_succ]
  omega
theorem getD_w19 (a r : Int) : (wbytes a r).getD 19 0 = r % 256 := by
  unfold wbytes
  simp [beOf, List.range_succ]
theorem readS_low (bs : List Int) (hl : bs.length = 64) (hB : Bytes bs) (hz : bs ≠ zs) :
    readS bs = if 256 * bs.getD 18 0 + bs.getD 19 0 < 4096 ∧ wbytes (lastOf bs) (256 * bs.getD 18 0 + bs.getD 19 0) = bs then (lastOf bs, 256 * bs.getD 18 0 + bs.getD 19 0, 0) else (0, 0, 52) := by
  have hbd : ∀ j, j < 64 → 0 ≤ bs.getD j 0 ∧ bs.getD j 0 ≤ 255 := fun j hj => hB _ (by simp [List.getD_eq_getElem?_getD, List.getElem?_eq_getElem (show j < bs.length by omega)])
  obtain ⟨a1, a2⟩ := hbd 18 (by omega)
  obtain ⟨b1, b2⟩ := hbd 19 (by omega)
  obtain ⟨r1, r2⟩ := rootOf_bd bs hl hB
  unfold readS
  rw [if_neg hz]
  by_cases h : rootOf bs < 4096 ∧ wbytes (lastOf bs) (rootOf bs) = bs
  · rw [if_pos h]
    have e18 := getD_w18 (lastOf bs) (rootOf bs) r1 h.1
    have e19 := getD_w19 (lastOf bs) (rootOf bs)
    rw [h.2] at e18 e19
    have e : 256 * bs.getD 18 0 + bs.getD 19 0 = rootOf bs := by rw [e18, e19]; omega
    rw [e, if_pos h]
  · rw [if_neg h, if_neg]
    rintro ⟨h1, h2⟩
    have e := rootOf_w (lastOf bs) (256 * bs.getD 18 0 + bs.getD 19 0) (by omega) h1
    rw [h2] at e
    exact h ⟨by omega, by rw [e]; exact h2⟩
set_option maxHeartbeats 1600000 in
set_option maxRecDepth 100000 in
theorem rread_any (A : Addr) (bs : List Int) (hl : bs.length = 64) (hB : Bytes bs) (w : World) (hr : ReadsInt w .u8 (some A) 64 bs) : Calls Try.prog 12 #[.slice (some A) 64 64] w fun e w' => e = .returned (.tuple #[.int .i64 (readS bs).1, .int .i64 (readS bs).2.1, .int .i64 (readS bs).2.2]) ∧ Below w.heap.size w w' := by
  have hc1 := string_of_reads (P := Try.prog) (c := 64) Try.underlying30 Try.underlying5 Try.underlying9 (hr.below (below_drew (Below.refl _ _)))
  have hc2 := string_of_reads (P := Try.prog) (c := 64) Try.underlying30 Try.underlying5 Try.underlying9 (hr.below (below_drew (below_alloc (Below.refl w.heap.size w) (.cells made64 5))))
  have ho : (w.alloc (.cells made64 5)).drew.ownsRow w.heap.size 5 1 (.slice (some ⟨w.heap.size, 0, none⟩) 64 64) 64 (nums .u8 zs) := pw_own_below (own_made w w.heap.size 5 .u8 64 (Nat.le_refl _) (by decide)) (below_drew (Below.refl _ _))
  have hc3 := own_string (P := Try.prog) Try.underlying30 Try.underlying5 Try.underlying9 ho
  have hm : ∀ W : World, (Instr.makeSlice 30 (.int .i64 64) (.int .i64 64)).run Try.prog W = .ok (.slice (some ⟨W.heap.size, 0, none⟩) 64 64) (W.alloc (.cells made64 5)) := print_make (P := Try.prog) 30 5 .u8 1 Try.underlying30 info5 (by decide) 64 (by decide)
  have HR := Lib.hid hr
  have HL := Lib.hid hl
  have HBB := Lib.hid hB
  clear ho hr hl hB
  by_cases hz : bs = zs
  · have hz' : ((strOfNums bs).toList == (strOfNums zs).toList) = true := by rw [hz]; simp
    have HS : Hid (readS bs = (-9223372036854775808, 0, 0)) := Lib.hid (by rw [hz, readS_zs])
    clear hz
    go_enter Try.func12, Try.ntmps12
    go_wp2
    go_region
    all_goals
      go_wp2
      go_ret3
      exact ⟨by rw [HS.out]; rfl, below_drew (below_alloc (Below.refl _ _) _)⟩
  · have hz' : ((strOfNums bs).toList == (strOfNums zs).toList) = false := by
      rw [beq_eq_false_iff_ne]
      exact fun h => hz (strOf_inj HBB.out (by intro c hc; have := List.eq_of_mem_replicate hc; omega) h)
    have HN := Lib.hid hz
    clear hz
    go_enter Try.func12, Try.ntmps12
    go_upto_region 1 with (fail)
    go_cut [15] (fun v15 wc => v15 = .bool false ∧ Hid (Below w.heap.size w wc))
    case first =>
      go_region
      all_goals
        go_wp2
        go_meet
        case rel => exact ⟨rfl, Lib.hid (below_drew (below_alloc (Below.refl _ _) _))⟩
    case rest =>
      clear hc1 hc2 hc3 hm hz'
      obtain ⟨rfl, HB⟩ := hcut
      have hcell : ∀ j, j < 64 → wc.cell? (A.add j) = some (.int .u8 (bs.getD j 0)) := fun j hj => by
        obtain ⟨ad, e, h⟩ := (HR.out.below HB.out).2.2 (by omega)
        injection e with e
        subst e
        exact h j hj
      have HC := Lib.hid hcell
      clear hcell
      go_wp2
      go_loop [5, 6] (fun v5 v6 => ∃ k : Nat, k ≤ 8 ∧ v6 = .int .i64 (8 + k) ∧ v5 = .int .u64 (be ((bs.drop 8).take k))) (fun _ v6 => 16 - (intOf v6).toNat)
      case atStart => exact ⟨0, by omega, rfl, rfl⟩
      case round =>
        obtain ⟨k, hk, rfl, rfl⟩ := hrel
        by_cases hlt : k < 8
        · have hcl := HC.out (8 + k) (by omega)
          obtain ⟨b1, b2⟩ := be_lt k ((bs.drop 8).take k) (by have := HL.out; simp; omega) (fun x hx => HBB.out x (List.mem_of_mem_drop (List.mem_of_mem_take hx))) (by omega)
          obtain ⟨b4, b5⟩ := HBB.out (bs.getD (8 + k) 0) (by have := HL.out; simp [List.getD_eq_getElem?_getD, List.getElem?_eq_getElem (show 8 + k < bs.length by omega)])
          have HS : Hid (256 * be ((bs.drop 8).take k) + bs.getD (8 + k) 0 = be ((bs.drop 8).take (k + 1))) := by
            have := HL.out
            show _ = _
            rw [take_snoc (bs.drop 8) k (by simp; omega), be_snoc]
            simp [List.getD_eq_getElem?_getD, List.getElem?_drop]
            omega
          generalize bs.getD (8 + k) 0 = c at *
          generalize be ((bs.drop 8).take k) = v at *
          go_wp2
          go_round
          case rel => exact ⟨k + 1, by omega, by go_num, by rw [HS.out]⟩
          case measure => simp [intOf]; omega
        · obtain rfl : k = 8 := by omega
          obtain ⟨l0, l1⟩ := lastRaw_bd bs HL.out HBB.out
          have hlast : wrap64 (IntKind.u64.wrap (be ((bs.drop 8).take 8) - 9223372036854775808)) = lastOf bs := by
            unfold lastOf
            rw [IntKind.wrap_u64]; unfold wrap64; omega
          have HLAST := Lib.hid hlast
          clear hlast
          have c18 : wc.cell? ⟨A.block, A.off + 18, none⟩ = some (.int .u8 (bs.getD 18 0)) := HC.out 18 (by omega)
          have c19 : wc.cell? ⟨A.block, A.off + 19, none⟩ = some (.int .u8 (bs.getD 19 0)) := HC.out 19 (by omega)
          have hb18 := HBB.out (bs.getD 18 0) (by have := HL.out; simp [List.getD_eq_getElem?_getD, List.getElem?_eq_getElem (show 18 < bs.length by omega)])
          have hb19 := HBB.out (bs.getD 19 0) (by have := HL.out; simp [List.getD_eq_getElem?_getD, List.getElem?_eq_getElem (show 19 < bs.length by omega)])
          have HRS := Lib.hid (readS_low bs HL.out HBB.out HN.out)
          obtain ⟨p18, q18⟩ := hb18
          obtain ⟨p19, q19⟩ := hb19
          generalize bs.getD 18 0 = x at *
          generalize bs.getD 19 0 = y at *
          generalize be ((bs.drop 8).take 8) = v at *
          go_upto_region 8 with (fail)
          go_cut [7, 8] (fun v7 v8 wq => v7 = .int .i64 (lastOf bs) ∧ v8 = .int .i64 (256 * x + y) ∧ Hid (Below w.heap.size w wq))
          case first =>
            go_region
            all_goals
              rw [HLAST.out]
              go_wp2
              go_meet
              case rel => exact ⟨rfl, rfl, Lib.hid (below_drew HB.out)⟩
          case rest =>
            clear c18 c19
            obtain ⟨rfl, rfl, HB2⟩ := hcut
            by_cases hr : 256 * x + y < 4096
            · go_wp2_with fail
              refine (rwrite_any (lastOf bs) (256 * x + y) _ (by omega) hr).mono ?_
              rintro e w2 ⟨A2, c2, rfl, ho2, hb2⟩
              have hcv1 := own_string (P := Try.prog) Try.underlying30 Try.underlying5 Try.underlying9 ho2
              have hcv2 := string_of_reads (P := Try.prog) (c := 64) Try.underlying30 Try.underlying5 Try.underlying9 (HR.out.below (HB2.out.trans (hb2.mono HB2.out.size)))
              have HBF := Lib.hid (HB2.out.trans (hb2.mono HB2.out.size))
              clear ho2 hb2
              by_cases hw : wbytes (lastOf bs) (256 * x + y) = bs
              · have hq : ((strOfNums (wbytes (lastOf bs) (256 * x + y))).toList != (strOfNums bs).toList) = false := by rw [hw]; simp
                have hq' : ((strOfNums (wbytes (lastOf bs) (256 * x + y))).toList == (strOfNums bs).toList) = true := by rw [hw]; simp
                have HS : Hid (readS bs = (lastOf bs, 256 * x + y, 0)) := Lib.hid (by rw [HRS.out, if_pos ⟨hr, hw⟩])
                clear hw HRS
                go_wp2
                go_ret3
                exact ⟨by rw [HS.out]; rfl, HBF.out⟩
              · have hq : ((strOfNums (wbytes (lastOf bs) (256 * x + y))).toList != (strOfNums bs).toList) = true := by
                  rw [bne_iff_ne]
                  exact fun h => hw (strOf_inj (bytes_wbytes _ _) HBB.out h)
                have hq' : ((strOfNums (wbytes (lastOf bs) (256 * x + y))).toList == (strOfNums bs).toList) = false := by
                  rw [beq_eq_false_iff_ne]
                  exact fun h => hw (strOf_inj (bytes_wbytes _ _) HBB.out h)
                have HS : Hid (readS bs = (0, 0, 52)) := Lib.hid (by rw [HRS.out, if_neg (fun h => hw h.2)])
                clear hw HRS
                go_wp2
                go_ret3
                exact ⟨by rw [HS.out]; rfl, HBF.out⟩
            · have HS : Hid (readS bs = (0, 0, 52)) := Lib.hid (by rw [HRS.out, if_neg (fun h => hr h.1)])
              go_wp2_with fail
              refine (rwrite_no (lastOf bs) (256 * x + y) _ (.inr ⟨by omega, by omega⟩)).mono ?_
              rintro e w2 ⟨A2, c2, rfl, ho2, hb2⟩
              have HBF := Lib.hid (HB2.out.trans (hb2.mono HB2.out.size))
              clear ho2 hb2 HRS
              go_wp2
              go_ret3
              exact ⟨by rw [HS.out]; rfl, HBF.out⟩
end Go.Proofs.Ythplbcfaaknepaa
