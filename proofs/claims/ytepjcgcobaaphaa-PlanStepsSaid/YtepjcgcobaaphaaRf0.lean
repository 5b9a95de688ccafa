import Derived.Test.YtepjcgcobaaphaaPPax0
import Derived.Test.YtepjcgcobaaphaaPPax1
import Derived.Lib.Walk
import Derived.Laws.OwnMore
import Derived.Test.YtepjcgcobaaphaaPl0
namespace Go.Proofs.Ytepjcgcobaaphaa.Rf
set_option linter.unusedVariables false
set_option linter.unusedSimpArgs false
open Go.RowKit Go.Lib Go.Proofs.YtepjcgcobaaphaaW.PrintWords Go.Proofs.YtepjcgcobaaphaaW.PrintLast Go.Proofs.YtepjcgcobaaphaaW.PrintMore Go.Proofs.Ytepjcgcobaaphaa.PPa

/-! ### The plain functions of plan -/
abbrev V38 (x : S38) (A : Option Addr) (c : Nat) : Value := .agg #[.int .i64 x.f0, .string x.f1, .int .u8 x.f2.f0, .int .i64 x.f2.f1, .string x.f2.f2, .int .i64 x.f3, .int .u8 x.f4, .slice A x.f5.length c]
mutual
def cnt : S38 → Nat
  | ⟨_, _, _, _, _, l⟩ => 1 + cntL l
def cntL : List S38 → Nat
  | [] => 0
  | a :: t => cnt a + cntL t
end
theorem cntL_mem {l : List S38} {a : S38} (h : a ∈ l) : cnt a ≤ cntL l := by
  induction l with
  | nil => cases h
  | cons b t ih =>
    rw [cntL]
    rcases List.mem_cons.1 h with rfl | h
    · omega
    · have := ih h; omega
theorem cnt_mem {x a : S38} (h : a ∈ x.f5) : cnt a < cnt x := by
  have h1 := cntL_mem h
  cases x; rw [cnt]; simp only at h1; omega
theorem cnt_eq (x : S38) : cnt x = 1 + cntL x.f5 := by cases x; rw [cnt]
def opsSafe : List (List UInt8) := [[110, 111, 116], [111, 114], [97, 110, 100], [61], [60, 62], [60], [60, 61], [62], [62, 61]]
def baseSafe (k : Int) (o : ByteArray) : Bool := (k == 1 || k == 2 || k == 5) || opsSafe.any (fun s => o.toList == s)
mutual
def safeP : S38 → Bool
  | ⟨k, o, _, _, _, l⟩ => baseSafe k o && safeL l
def safeL : List S38 → Bool
  | [] => true
  | a :: t => safeP a && safeL t
end
theorem safeL_all (l : List S38) : safeL l = l.all safeP := by
  induction l with
  | nil => rfl
  | cons a t ih => rw [safeL, ih]; rfl
theorem safeP_eq (x : S38) : safeP x = (baseSafe x.f0 x.f1 && x.f5.all safeP) := by
  cases x; rw [safeP, safeL_all]

theorem bcell {w w1 : World} (hb : Below w.heap.size w w1) {a : Addr} {v : Value} (h : w.cell? a = some v) : w1.cell? a = some v := by
  have hlt : a.block < w.heap.size := by
    rcases Nat.lt_or_ge a.block w.heap.size with h' | h'
    · exact h'
    · unfold World.cell? at h
      rw [Array.getElem?_eq_none h'] at h
      split at h
      · rename_i q; cases q
      · cases h
  exact (hb.cell hlt).trans h
theorem at36 {w0 w : World} {A : Option Addr} {n : Nat} {xs : List S38} (h : Kd.C k38 w0 A n xs) (hb : Below w0.heap.size w0 w) (i : Int) (h0 : 0 ≤ i) (h1 : i < n) : ∃ ad A7 c7, A = some ad ∧ w.cell? (ad.add (i.toNat * 8)) = some (.int .i64 (rd_T38 xs i).f0) ∧ w.cell? ⟨(ad.add (i.toNat * 8)).block, (ad.add (i.toNat * 8)).off + 1, none⟩ = some (.string (rd_T38 xs i).f1) ∧ w.cell? ⟨(ad.add (i.toNat * 8)).block, (ad.add (i.toNat * 8)).off + 2, none⟩ = some (.int .u8 (rd_T38 xs i).f2.f0) ∧ w.cell? ⟨(ad.add (i.toNat * 8)).block, (ad.add (i.toNat * 8)).off + 3, none⟩ = some (.int .i64 (rd_T38 xs i).f2.f1) ∧ w.cell? ⟨(ad.add (i.toNat * 8)).block, (ad.add (i.toNat * 8)).off + 4, none⟩ = some (.string (rd_T38 xs i).f2.f2) ∧ w.cell? ⟨(ad.add (i.toNat * 8)).block, (ad.add (i.toNat * 8)).off + 5, none⟩ = some (.int .i64 (rd_T38 xs i).f3) ∧ w.cell? ⟨(ad.add (i.toNat * 8)).block, (ad.add (i.toNat * 8)).off + 6, none⟩ = some (.int .u8 (rd_T38 xs i).f4) ∧ w.cell? ⟨(ad.add (i.toNat * 8)).block, (ad.add (i.toNat * 8)).off + 7, none⟩ = some (.slice A7 (rd_T38 xs i).f5.length c7) ∧ (rd_T38 xs i).f5.length ≤ c7 ∧ k38.C w0 A7 (rd_T38 xs i).f5.length (rd_T38 xs i).f5 := by
  obtain ⟨ad, A7, c7, e, h0, h1, h2, h3, h4, h5, h6, h7, hl, hC⟩ := at_T38 h i h0 h1
  exact ⟨ad, A7, c7, e, bcell hb h0, bcell hb h1, bcell hb h2, bcell hb h3, bcell hb h4, bcell hb h5, bcell hb h6, bcell hb h7, hl, hC⟩
theorem rd36_mem (L : List S38) (i : Nat) (h : i < L.length) : rd_T38 L (i : Int) ∈ L := by
  unfold rd_T38
  rw [Int.toNat_natCast, List.getD_eq_getElem?_getD, List.getElem?_eq_getElem h]
  exact List.getElem_mem h
theorem any_take (p : S38 → Bool) (L : List S38) (i : Nat) (h : i < L.length) : (L.take (i + 1)).any p = ((L.take i).any p || p (rd_T38 L (i : Int))) := by
  rw [List.take_succ_eq_append_getElem h, List.any_append]
  unfold rd_T38
  rw [Int.toNat_natCast, List.getD_eq_getElem?_getD, List.getElem?_eq_getElem h]
  simp


/-- Bounds of a tree's slices: every list of args in it is short. -/
theorem nlen_ok {x : S38} (h : cnt x ≤ 1000000000000) : x.f5.length < 9223372036854775808 := by
  have h1 : x.f5.length ≤ cntL x.f5 := by
    generalize x.f5 = l
    induction l with
    | nil => simp
    | cons a t ih => rw [cntL]; have := cnt_eq a; simp; omega
  have := cnt_eq x
  omega
theorem cntL_append (a b : List S38) : cntL (a ++ b) = cntL a + cntL b := by
  induction a with
  | nil => simp [cntL]
  | cons x t ih => rw [List.cons_append, cntL, ih, cntL]; omega
theorem take_succ36 (L : List S38) (i : Nat) (h : i < L.length) : L.take (i + 1) = L.take i ++ [rd_T38 L (i : Int)] := by
  rw [List.take_succ_eq_append_getElem h]
  unfold rd_T38
  rw [Int.toNat_natCast, List.getD_eq_getElem?_getD, List.getElem?_eq_getElem h]
  rfl
/-! ### The parts of a node -/
def isAnd (k : Int) (o : ByteArray) : Bool := k == 4 && o.toList == [97, 110, 100]
mutual
def partsP : S38 → List S38
  | ⟨k, o, a, b, c, l⟩ => if isAnd k o = true then partsL l else [⟨k, o, a, b, c, l⟩]
def partsL : List S38 → List S38
  | [] => []
  | a :: t => partsP a ++ partsL t
end
theorem partsP_eq (x : S38) : partsP x = if isAnd x.f0 x.f1 = true then partsL x.f5 else [x] := by cases x; rw [partsP]
theorem partsL_append (a b : List S38) : partsL (a ++ b) = partsL a ++ partsL b := by
  induction a with
  | nil => rfl
  | cons x t ih => rw [List.cons_append, partsL, ih, partsL, List.append_assoc]
mutual
theorem partsP_cnt : ∀ x : S38, cntL (partsP x) ≤ cnt x
  | ⟨k, o, a, b, c, l⟩ => by
    have := partsL_cnt l
    rw [partsP]
    split
    · rw [cnt]; omega
    · simp [cntL]
theorem partsL_cnt : ∀ l : List S38, cntL (partsL l) ≤ cntL l
  | [] => by simp [partsL]
  | a :: t => by
    have h1 := partsP_cnt a
    have h2 := partsL_cnt t
    rw [partsL, cntL, cntL_append]
    omega
end
theorem len_cntL (l : List S38) : l.length ≤ cntL l := by
  induction l with
  | nil => simp
  | cons a t ih => rw [cntL]; have := cnt_eq a; simp; omega
theorem info38x : (Try.prog.info? 38).map (fun i => (i.zero, i.size, i.bytes)) = some (some (.agg #[(.int .i64 0), (.string ⟨#[]⟩), (.int .u8 0), (.int .i64 0), (.string ⟨#[]⟩), (.int .i64 0), (.int .u8 0), (.slice none 0 0)]), 8, 96) := by kernel_rfl
/-- A row of nodes that the call made; what their args hold came in (it is read in w0). -/
abbrev RN (w0 w : World) (base : Nat) (v : Value) (xs : List S38) : Prop := Kd.R (Kd.fixed k38 w0) 38 w base (fun _ => True) v xs
theorem lit_R {w0 W : World} {x : S38} {cs : Array Value} (hK : k38.K w0 x cs.toList) (hs : cs.size = 8) (base : Nat) (hb : base ≤ W.heap.size) : RN w0 (W.alloc (.cells cs 38)) base (.slice (some ⟨W.heap.size, 0, none⟩) 1 1) [x] := by
  refine ⟨fun _ _ => trivial, cs.toList, World.ownsRow_lit W cs 1 hb (by unfold maxLen; omega) (by rw [hs]; rfl), ?_⟩
  have := (Reps.none (R := (Kd.fixed k38 w0).M (W.alloc (.cells cs 38)) base (fun k => True ∧ some k ≠ (Value.slice (some ⟨W.heap.size, 0, none⟩) 1 1).ownBlock)) (size := 8)).snoc (p := x) (c := cs.toList) hK (by simpa using hs)
  have h8 : (Kd.fixed k38 w0).sz = 8 := rfl
  rw [h8]
  simpa using this
set_option maxHeartbeats 4000000 in
set_option maxRecDepth 100000 in
theorem parts_walk (k : Nat) : ∀ (x : S38) (A : Option Addr) (c : Nat) (w w0 : World), cnt x ≤ k → cnt x ≤ 10000000000 → x.f5.length ≤ c → Kd.C k38 w0 A x.f5.length x.f5 → Below w0.heap.size w0 w →
    Calls Try.prog 20 #[V38 x A c] w fun e w' => ∃ v, e = .returned v ∧ RN w0 w' w.heap.size v (partsP x) ∧ Below w.heap.size w w' := by
  induction k with
  | zero => intro x A c w w0 h; have := cnt_eq x; omega
  | succ k ih =>
    intro x A c w w0 hk hk2 hc hC hw0
    have hK := k38_mk w0 x hc hC
    have HI := Aside0.mk ih
    have HC := Aside0.mk hC
    have HW := Aside0.mk hw0
    have hnl : x.f5.length < 9223372036854775808 := nlen_ok (by omega)
    have hce := cnt_eq x
    have hpe := partsP_eq x
    have HN := Aside0.mk (And.intro hk hk2)
    have HK := Aside0.mk hK
    clear ih hC hw0 hk hk2 hK hc
    cases ha : isAnd x.f0 x.f1 with
    | false =>
      rw [ha, if_neg (by decide)] at hpe
      rw [hpe]
      have hcase : ¬ x.f0 = 4 ∨ x.f0 = 4 ∧ ¬ x.f1.toList = [97, 110, 100] := by
        unfold isAnd at ha
        by_cases h1 : x.f0 = 4
        · refine .inr ⟨h1, fun h2 => ?_⟩
          rw [h1, h2] at ha; exact absurd ha (by decide)
        · exact .inl h1
      clear ha hpe hce
      obtain ⟨f0, f1, f2, f3, f4, L⟩ := x
      simp only at *
      rcases hcase with e1 | ⟨e1, e2n⟩
      · go_enter Try.func20, Try.ntmps20
        go_wp2
        go_ret
        refine ⟨_, rfl, ?_, below_alloc (below_alloc (Below.refl _ _) _) _⟩
        have := lit_R (W := w.alloc (.cells #[.int .i64 f0, .string f1, .int .u8 f2.f0, .int .i64 f2.f1, .string f2.f2, .int .i64 f3, .int .u8 f4, .slice A L.length c] 38)) (cs := #[.int .i64 f0, .string f1, .int .u8 f2.f0, .int .i64 f2.f1, .string f2.f2, .int .i64 f3, .int .u8 f4, .slice A L.length c]) HK.out rfl w.heap.size (by rw [World.size_alloc]; omega)
        rw [World.size_alloc] at this
        exact this
      · subst e1
        have e2 : (f1.toList == [97, 110, 100]) = false := by simpa using e2n
        clear e2n
        go_enter Try.func20, Try.ntmps20
        go_wp2
        go_ret
        refine ⟨_, rfl, ?_, below_alloc (below_alloc (Below.refl _ _) _) _⟩
        have := lit_R (W := w.alloc (.cells #[.int .i64 4, .string f1, .int .u8 f2.f0, .int .i64 f2.f1, .string f2.f2, .int .i64 f3, .int .u8 f4, .slice A L.length c] 38)) (cs := #[.int .i64 4, .string f1, .int .u8 f2.f0, .int .i64 f2.f1, .string f2.f2, .int .i64 f3, .int .u8 f4, .slice A L.length c]) HK.out rfl w.heap.size (by rw [World.size_alloc]; omega)
        rw [World.size_alloc] at this
        exact this
    | true =>
      rw [ha, if_pos rfl] at hpe
      rw [hpe]
      have hcL : cntL x.f5 ≤ k := by have := HN.out.1; omega
      have hcL2 : cntL x.f5 ≤ 10000000000 := by have := HN.out.2; omega
      unfold isAnd at ha
      obtain ⟨e1, e2⟩ := Bool.and_eq_true_iff.1 ha
      replace e1 : x.f0 = 4 := by simpa using e1
      replace e2 : x.f1.toList = [97, 110, 100] := by simpa using e2
      have HL := Aside0.mk (And.intro hcL hcL2)
      clear ha hpe hce HK hcL hcL2 HN
      obtain ⟨f0, f1, f2, f3, f4, L⟩ := x
      simp only at *
      subst e1
      go_enter Try.func20, Try.ntmps20
      go_wp2
      have hbox := blk_new w (.cells #[.int .i64 4, .string f1, .int .u8 f2.f0, .int .i64 f2.f1, .string f2.f2, .int .i64 f3, .int .u8 f4, .slice A L.length c] 38)
      go_loopg [3, 4] L.length (fun gg s3 s4 wr => ∃ (kk : Nat) (vv : Value), kk ≤ L.length ∧ L.length - kk ≤ gg ∧ s3 = vv ∧ s4 = .int .i64 kk ∧ Aside0 (Below w.heap.size w wr) ∧ Aside0 (wr.heap[w.heap.size]? = some (.cells #[.int .i64 4, .string f1, .int .u8 f2.f0, .int .i64 f2.f1, .string f2.f2, .int .i64 f3, .int .u8 f4, .slice A L.length c] 38 (0, 0))) ∧ Aside0 (RN w0 wr (w.heap.size + 1) vv (partsL (L.take kk))))
      case atStart => exact ⟨0, .slice none 0 0, Nat.zero_le _, by omega, rfl, rfl, ⟨below_alloc (Below.refl _ _) _⟩, ⟨hbox⟩, ⟨Kd.R_nil _ _ _ _ _⟩⟩
      case round =>
        clear hbox
        obtain ⟨kk, vv, hkk, hg, rfl, rfl, HB, HBX, HR⟩ := hrel
        have bx : wr.cell? ⟨w.heap.size, 7, none⟩ = some (.slice A L.length c) := by rw [blk_cell HBX.out]; rfl
        by_cases hlt : kk < L.length
        · have hltz : (kk : Int) < (L.length : Int) := by omega
          have hw0r : Below w0.heap.size w0 wr := below_then HW.out HW.out.size HB.out
          obtain ⟨ad, A7, c7, hA, h0, h1, h2, h3, h4, h5, h6, h7, hl7, hC7⟩ := at36 HC.out hw0r (kk : Int) (by omega) hltz
          rw [Int.toNat_natCast] at h0 h1 h2 h3 h4 h5 h6 h7
          subst hA
          have hmem := rd36_mem L kk hlt
          have htk := take_succ36 L kk hlt
          have hcl := cntL_mem hmem
          have e3 : partsL (L.take (kk + 1)) = partsL (L.take kk) ++ partsP (rd_T38 L kk) := by
            rw [htk, partsL_append]; simp [partsL]
          have hlen : (partsL (L.take kk)).length + (partsP (rd_T38 L kk)).length ≤ 10000000000 := by
            have q1 := len_cntL (partsL (L.take (kk + 1)))
            have q2 := partsL_cnt (L.take (kk + 1))
            have q3 := cntL_append (L.take (kk + 1)) (L.drop (kk + 1))
            rw [List.take_append_drop] at q3
            have q0 : (partsL (L.take (kk + 1))).length = (partsL (L.take kk)).length + (partsP (rd_T38 L kk)).length := by rw [e3, List.length_append]
            have := HL.out.2
            omega
          have hcall : ∀ w2, Below wr.heap.size wr w2 → Calls Try.prog 20 #[V38 (rd_T38 L kk) A7 c7] w2 fun e w' => ∃ v, e = .returned v ∧ RN w0 w' w2.heap.size v (partsP (rd_T38 L kk)) ∧ Below w2.heap.size w2 w' :=
            fun w2 hb2 => HI.out (rd_T38 L kk) A7 c7 w2 w0 (by have := HL.out.1; omega) (by have := HL.out.2; omega) hl7 hC7 (below_then hw0r hw0r.size hb2)
          have HC2 := Aside0.mk hcall
          have HX := Aside0.mk hg
          have HLT := Aside0.mk hlt
          have HE3 := Aside0.mk e3
          have HLN := Aside0.mk hlen
          clear hcall e3 hcl htk hmem hC7 hl7 hw0r hkk hg hlt hlen
          obtain ⟨x, hx⟩ : ∃ x, x = rd_T38 L kk := ⟨_, rfl⟩
          rw [← hx] at h0 h1 h2 h3 h4 h5 h6 h7 HC2 HE3 HLN
          clear hx
          go_wp2_with fail
          refine (HC2.out _ (Below.refl _ _)).mono ?_
          rintro e w2 ⟨v2, rfl, hr2, hb2⟩
          obtain ⟨A2, c2, rfl, hl2, hC2⟩ := Kd.R_reads hr2
          have HB2 := Aside0.mk (below_step HB.out hb2)
          have HBX2 := Aside0.mk (blk_below HBX.out hb2)
          have HR2 := Aside0.mk (Kd.R_below HR.out hb2)
          have HC3 := Aside0.mk hC2
          have hsz := HB2.out.size
          have hgl := blk_lt HBX2.out
          have hblow : Below (w.heap.size + 1) w2 w2 := Below.refl _ _
          clear hr2 hb2 hC2 hl2
          go_wp2_with (at_builtin; refine Kd.R_append_rows (Kd.fixed k38 w0) (Rr := fun x cs => k38.K w0 x cs) (w0 := w2) (w.heap.size + 1) ?a1 (.tmp 22) (.tmp 28) 26 38 (.agg #[(.int .i64 0), (.string ⟨#[]⟩), (.int .u8 0), (.int .i64 0), (.string ⟨#[]⟩), (.int .i64 0), (.int .u8 0), (.slice none 0 0)]) 96 ?a2 Try.underlying26 info38x ?a3 ?a4 ?a5 _ (partsL (L.take kk)) (partsP x) A2 (partsP x).length c2 (fun _ => True) (fun _ => False) ?a6 ?a7 HR2.out ?aR (fun _ _ h => h) (fun _ hk => hk.elim) (fun _ _ => trivial) hblow hgl ?aL ?_; (case a1 => rfl); (case a2 => rfl); (case a3 => rfl); (case a4 => show 0 < 8; omega); (case a5 => omega); (case a6 => rfl); (case a7 => rfl); (case aR => exact HC3.out); (case aL => have := HLN.out; omega); intro v1 w1 ho hb1 hg1 hat1; obtain ⟨A1, c1, rfl⟩ := Kd.R_slice ho; have HO := Aside0.mk ho; have HB1 := Aside0.mk hb1; clear ho; clear hb1; clear hat1; clear hg1)
          go_roundg (L.length - (kk + 1))
          case measure => have := HX.out; have := HLT.out; omega
          case rel => exact ⟨kk + 1, _, HLT.out, by omega, rfl, by go_num, ⟨HB2.out.trans (HB1.out.mono (Nat.le_succ _))⟩, ⟨(HB1.out.block _ (Nat.lt_succ_self _)).trans HBX2.out⟩, ⟨by rw [HE3.out]; have := HO.out; rwa [List.length_append] at this⟩⟩
        · have hltz : ¬ (kk : Int) < (L.length : Int) := by omega
          have : kk = L.length := by omega
          subst this
          obtain ⟨A2, c2, rfl, hl2, hC2⟩ := Kd.R_reads HR.out
          go_wp2
          go_ret
          refine ⟨_, rfl, ?_, HB.out⟩
          have := HR.out
          rw [List.take_length] at this
          exact Kd.R_lower this (Nat.le_succ _)
end Go.Proofs.Ytepjcgcobaaphaa.Rf
