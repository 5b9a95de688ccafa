import Derived.Test.YtepjcgcobaaphaaPl1
namespace Go.Proofs.Ytepjcgcobaaphaa.Pl
set_option linter.unusedVariables false
set_option linter.unusedSimpArgs false
open Go.RowKit Go.Lib Go.Proofs.YtepjcgcobaaphaaW.PrintWords Go.Proofs.YtepjcgcobaaphaaW.PrintLast Go.Proofs.YtepjcgcobaaphaaW.PrintMore Go.Proofs.Ytepjcgcobaaphaa.PPa

/-! ### The slots of a node, as they are gathered -/
mutual
def cols : S36 → List Int
  | ⟨k, _, _, s, _, l⟩ => (if k = 2 then [s] else []) ++ colsL l
def colsL : List S36 → List Int
  | [] => []
  | a :: t => cols a ++ colsL t
end
theorem cols_eq (x : S36) : cols x = (if x.f0 = 2 then [x.f3] else []) ++ colsL x.f5 := by cases x; rw [cols]
mutual
theorem cols_len : ∀ x : S36, (cols x).length ≤ cnt x
  | ⟨k, _, _, s, _, l⟩ => by
    have := colsL_len l
    rw [cols, cnt, List.length_append]
    split <;> simp <;> omega
theorem colsL_len : ∀ l : List S36, (colsL l).length ≤ cntL l
  | [] => by simp [colsL]
  | a :: t => by
    have h1 := cols_len a
    have h2 := colsL_len t
    rw [colsL, cntL, List.length_append]
    omega
end
theorem colsL_append (a b : List S36) : colsL (a ++ b) = colsL a ++ colsL b := by
  induction a with
  | nil => rfl
  | cons x t ih => rw [List.cons_append, colsL, ih, colsL, List.append_assoc]
theorem cntL_append (a b : List S36) : cntL (a ++ b) = cntL a + cntL b := by
  induction a with
  | nil => simp [cntL]
  | cons x t ih => rw [List.cons_append, cntL, ih, cntL]; omega
theorem take_succ36 (L : List S36) (i : Nat) (h : i < L.length) : L.take (i + 1) = L.take i ++ [rd_T36 L (i : Int)] := by
  rw [List.take_succ_eq_append_getElem h]
  unfold rd_T36
  rw [Int.toNat_natCast, List.getD_eq_getElem?_getD, List.getElem?_eq_getElem h]
  rfl
theorem infoI : (Try.prog.info? 3).map (fun i => (i.zero, i.size, i.bytes)) = some (some (.int .i64 0), 1, 8) := by kernel_rfl

/-- The list that is gathered: its box N, its value v. -/
def Box (N : Nat) (w : World) (v : Value) (l : List Int) : Prop :=
  w.heap[N]? = some (.cells #[v] 27 (0, 0)) ∧ Kd.R (Kd.int .i64) 3 w (N + 1) (fun k => N < k) v l
theorem Box.lt {N : Nat} {w : World} {v : Value} {l : List Int} (h : Box N w v l) : N < w.heap.size := by
  rcases Nat.lt_or_ge N w.heap.size with h' | h'
  · exact h'
  · have := h.1; rw [Array.getElem?_eq_none h'] at this; cases this
theorem Box.cell {N : Nat} {w : World} {v : Value} {l : List Int} (h : Box N w v l) : w.cell? ⟨N, 0, none⟩ = some v := by
  simp [World.cell?, h.1]
theorem Box.frozen {N : Nat} {w : World} {v : Value} {l : List Int} (h : Box N w v l) : w.frozen? ⟨N, 0, none⟩ = false := by
  simp [World.frozen?, h.1]
theorem Box.below {N : Nat} {w w1 : World} {v : Value} {l : List Int} (h : Box N w v l) (hb : Below w.heap.size w w1) : Box N w1 v l :=
  ⟨(hb.block N h.lt).trans h.1, Kd.R_below h.2 hb⟩
theorem box_step {N : Nat} {w w1 : World} {v : Value} {l : List Int} (h : Box N w v l) (hb : Below (N + 1) w w1) : w1.heap[N]? = some (.cells #[v] 27 (0, 0)) ∧ w1.frozen? ⟨N, 0, none⟩ = false ∧ w1.cell? ⟨N, 0, none⟩ = some v := by
  have h1 : w1.heap[N]? = some (.cells #[v] 27 (0, 0)) := (hb.block N (Nat.lt_succ_self N)).trans h.1
  exact ⟨h1, by simp [World.frozen?, h1], by simp [World.cell?, h1]⟩
def Grew (N : Nat) (w w' : World) (v v' : Value) : Prop := Below N w w' ∧ KeepBut w w' N v.ownBlock ∧ (v'.ownBlock = v.ownBlock ∨ ∃ b, v'.ownBlock = some b ∧ w.heap.size ≤ b)
theorem Grew.trans {N : Nat} {w w1 w2 : World} {v v1 v2 : Value} (h : Grew N w w1 v v1) (k : Grew N w1 w2 v1 v2) : Grew N w w2 v v2 := by
  refine ⟨h.1.trans k.1, h.2.1.trans k.2.1 h.2.2, ?_⟩
  rcases k.2.2 with e | ⟨b, e, hb⟩
  · rw [e]; exact h.2.2
  · exact .inr ⟨b, e, Nat.le_trans h.2.1.1 hb⟩
theorem Grew.of_below {N : Nat} {w w1 : World} (h : Below w.heap.size w w1) (hN : N ≤ w.heap.size) (v : Value) : Grew N w w1 v v := ⟨h.mono hN, KeepBut.of_below h N _, .inl rfl⟩
theorem Box.own_lt {N : Nat} {w : World} {v : Value} {l : List Int} (h : Box N w v l) {k : Nat} (hk : v.ownBlock = some k) : k < w.heap.size := by
  obtain ⟨inner, ho⟩ := Kd.R_own h.2
  exact _root_.Go.Proofs.YtepjcgcobaaphaaW.PrintWords.own_lt ho k hk
set_option maxHeartbeats 2000000 in
set_option maxRecDepth 100000 in
theorem used1_walk (x : S36) (A : Option Addr) (c : Nat) (w : World) (N : Nat) (v : Value) (l : List Int) (hB : Box N w v l) (hl : l.length ≤ 1000000000000) :
    Calls Try.prog 24 #[V36 x A c, .pointer (some ⟨N, 0, none⟩)] w fun e w' => e = .returned (.tuple #[]) ∧ ∃ v', Box N w' v' (l ++ if x.f0 = 2 then [x.f3] else []) ∧ Grew N w w' v v' := by
  by_cases h2 : x.f0 = 2
  · have hk : (x.f0 == 2) = true := beq_iff_eq.mpr h2
    have e0 : (if x.f0 = 2 then [x.f3] else []) = [x.f3] := if_pos h2
    rw [e0]
    clear e0 h2
    have u4 := Try.underlying27
    have hcz : ∀ o, (w.alloc o).cell? ⟨N, 0, none⟩ = some v := fun o => by rw [World.cell?_alloc_past _ _ _ hB.lt]; exact hB.cell
    have HBx := Aside0.mk hB
    have HLx := Aside0.mk hl
    clear hB hl
    go_enter Try.func24, Try.ntmps24
    have hlt := HBx.out.lt
    have e1 : IntKind.i64.wrap 0 = 0 := rfl
    go_wp2_with (at_builtin; refine Kd.R_append (Kd.int .i64) (w0 := w) (N + 1) ?a1 (.tmp 6) (.tmp 9) 27 3 (.int .i64 0) 8 ?a2 Try.underlying27 infoI ?a3 ?a4 ?a5 v l x.f3 [.int .i64 x.f3] (fun k => N < k) (fun _ => False) ?a6 ?a7 ?aP (fun _ hk => hk.elim) ?aF ?aO ?aB ?aS ?aL ?_; (case a1 => rfl); (case a2 => rfl); (case a3 => rfl); (case a4 => decide); (case a5 => omega); (case a6 => rfl); (case a7 => show Value.slice (some ⟨w.heap.size + 1, 0, none⟩) 1 1 = _; rw [World.size_alloc]); (case aP => exact rfl); (case aB => exact (Below.refl _ _).alloc (by omega) _); (case aF => intro k hk; simp only [World.alloc, Array.size_push] at hk; omega); (case aO => exact Kd.R_below HBx.out.2 (below_alloc (Below.refl _ _) _)); (case aS => simp only [World.alloc, Array.size_push]; omega); (case aL => have := HLx.out; omega); intro v1 w1 ho hb1 hg1 hat1; obtain ⟨A1, c1, rfl⟩ := Kd.R_slice ho; obtain ⟨hN1, hfz, hcv⟩ := box_step HBx.out hb1; have HO := Aside0.mk ho; have HB1 := Aside0.mk hb1; have HG := Aside0.mk (And.intro hg1 hat1); have HN := Aside0.mk hN1; clear ho; clear hb1; clear hN1; clear hat1; clear hg1)
    go_end0
    have hh := HO.out
    rw [List.length_append, List.length_singleton] at hh
    refine ⟨rfl, .slice A1 (l.length + 1) c1, ⟨blk_put HN.out 0 _ rfl, Kd.R_far hh (p := ⟨N, 0, none⟩) (fun k hk => Nat.ne_of_gt hk) _⟩, (HB1.out.mono (Nat.le_succ N)).setCell (Nat.le_refl N) _, ?_, ?_⟩
    · exact (((KeepBut.of_below (below_alloc (Below.refl _ _) _) N _).trans (KeepBut.of_grown HG.out.1 N) (.inl rfl)).set_ 0 _)
    · rcases HG.out.2 with e | ⟨b, e, hb⟩
      · rw [List.length_append] at e; exact .inl e
      · rw [List.length_append] at e; exact .inr ⟨b, e, by rw [World.size_alloc] at hb; omega⟩
  · have hk : (x.f0 == 2) = false := beq_eq_false_iff_ne.mpr h2
    have e0 : (if x.f0 = 2 then [x.f3] else []) = [] := if_neg h2
    rw [e0, List.append_nil]
    have HBx := Aside0.mk hB
    clear e0 h2 hB
    go_enter Try.func24, Try.ntmps24
    go_wp2
    go_end0
    exact ⟨rfl, v, HBx.out.below (below_alloc (Below.refl _ _) _), Grew.of_below (below_alloc (Below.refl _ _) _) (Nat.le_of_lt HBx.out.lt) v⟩
/-- The closure of Used as a value. -/
abbrev F24 (N : Nat) : Value := .func (.func 24) #[] #[.pointer (some ⟨N, 0, none⟩)]
set_option maxHeartbeats 4000000 in
set_option maxRecDepth 100000 in
theorem each_walk (k : Nat) : ∀ (x : S36) (A : Option Addr) (c : Nat) (w w0 : World) (N : Nat) (v : Value) (l : List Int), cnt x ≤ k → cnt x ≤ 1000000000000 → x.f5.length ≤ c → Kd.C k36 w0 A x.f5.length x.f5 → Below w0.heap.size w0 w → w0.heap.size ≤ N → Box N w v l → l.length + cnt x ≤ 1000000000000 →
    Calls Try.prog 23 #[V36 x A c, F24 N] w fun e w' => e = .returned (.tuple #[]) ∧ ∃ v', Box N w' v' (l ++ cols x) ∧ Grew N w w' v v' := by
  induction k with
  | zero => intro x A c w w0 N v l h; have := cnt_eq x; omega
  | succ k ih =>
    intro x A c w w0 N v l hk hk2 hc hC hw0 hN hB hl
    have H1 : ∀ w1, Below w.heap.size w w1 → Calls Try.prog 24 #[V36 x A c, .pointer (some ⟨N, 0, none⟩)] w1 fun e w' => e = .returned (.tuple #[]) ∧ ∃ v', Box N w' v' (l ++ if x.f0 = 2 then [x.f3] else []) ∧ Grew N w1 w' v v' :=
      fun w1 hb1 => used1_walk x A c w1 N v l (hB.below hb1) (by omega)
    have HI := Aside0.mk ih
    have HC := Aside0.mk hC
    have hnl := nlen_ok hk2
    have hcl := cols_eq x
    have hce := cnt_eq x
    have HW := Aside0.mk hw0
    have HBX := Aside0.mk hB
    have hlen1 : (l ++ if x.f0 = 2 then [x.f3] else []).length + cntL x.f5 ≤ 1000000000000 := by
      rw [List.length_append]; split <;> simp <;> omega
    have hkL : cntL x.f5 ≤ k := by omega
    obtain ⟨l1, hl1⟩ : ∃ l1, l1 = l ++ if x.f0 = 2 then [x.f3] else [] := ⟨_, rfl⟩
    rw [← hl1] at H1 hlen1
    have e2 : l ++ cols x = l1 ++ colsL x.f5 := by rw [hcl, hl1, List.append_assoc]
    rw [e2]
    have HK := Aside0.mk H1
    have hNlt := hB.lt
    have HLL := Aside0.mk (And.intro hlen1 (And.intro hkL (And.intro hN hNlt)))
    clear hcl hce hl1 e2 H1 hk hk2 hl ih hC hw0 hN hB hlen1 hkL hNlt hc
    obtain ⟨f0, f1, f2, f3, f4, L⟩ := x
    simp only at *
    go_enter Try.func23, Try.ntmps23
    go_wp2_with fail
    refine (HK.out _ (below_alloc (Below.refl _ _) _)).mono ?_
    rintro e w1 ⟨rfl, v1, hb1, hg1⟩
    have hgb : w1.heap[w.heap.size]? = some (.cells #[.int .i64 f0, .string f1, .int .u8 f2.f0, .int .i64 f2.f1, .string f2.f2, .int .i64 f3, .int .u8 f4, .slice A L.length c] 36 (0, 0)) := by
      refine hg1.2.1.blk (blk_new w _) ?_ ?_
      · have := HLL.out.2.2.2; omega
      · intro h
        have := HBX.out.own_lt h.symm
        omega
    have hc7 : w1.cell? ⟨w.heap.size, 7, none⟩ = some (.slice A L.length c) := by rw [blk_cell hgb]; rfl
    have hc5 : w1.cell? ⟨w.heap.size, 5, none⟩ = some (.int .i64 f3) := by rw [blk_cell hgb]; rfl
    have HB1 := Aside0.mk hb1
    have HG1 := Aside0.mk ((Grew.of_below (below_alloc (Below.refl _ _) _) (Nat.le_of_lt HBX.out.lt) v).trans hg1)
    clear hb1 hg1 hgb
    go_wp2
    go_loopg [12] L.length (fun gg s12 wr => ∃ (kk : Nat) (vv : Value), kk ≤ L.length ∧ L.length - kk ≤ gg ∧ s12 = .int .i64 kk ∧ Aside0 (Box N wr vv (l1 ++ colsL (L.take kk))) ∧ Aside0 (Grew N w wr v vv))
    case atStart => exact ⟨0, v1, Nat.zero_le _, by omega, rfl, ⟨by simpa [colsL] using HB1.out⟩, HG1⟩
    case round =>
      clear hc7 hc5
      obtain ⟨kk, vv, hkk, hg, rfl, HB, HG⟩ := hrel
      by_cases hlt : kk < L.length
      · have hltz : (kk : Int) < (L.length : Int) := by omega
        have hw0r : Below w0.heap.size w0 wr := HW.out.trans (HG.out.1.mono HLL.out.2.2.1)
        obtain ⟨ad, A7, c7, hA, h0, h1, h2, h3, h4, h5, h6, h7, hl7, hC7⟩ := at36 HC.out hw0r (kk : Int) (by omega) hltz
        rw [Int.toNat_natCast] at h0 h1 h2 h3 h4 h5 h6 h7
        subst hA
        have hmem := rd36_mem L kk hlt
        have htk := take_succ36 L kk hlt
        have hcl := cntL_mem hmem
        have hsplit : cntL (L.take kk) + cnt (rd_T36 L kk) ≤ cntL L := by
          have e := cntL_append (L.take (kk + 1)) (L.drop (kk + 1))
          rw [List.take_append_drop, htk, cntL_append] at e
          simp only [cntL] at e
          omega
        have hcolk := colsL_len (L.take kk)
        have e3 : l1 ++ colsL (L.take (kk + 1)) = (l1 ++ colsL (L.take kk)) ++ cols (rd_T36 L kk) := by
          rw [htk, colsL_append, List.append_assoc]; simp [colsL]
        have hll : (l1 ++ colsL (L.take kk)).length + cnt (rd_T36 L kk) ≤ 1000000000000 := by
          rw [List.length_append]; have := HLL.out.1; omega
        have hcall : ∀ w2, Below wr.heap.size wr w2 → Calls Try.prog 23 #[V36 (rd_T36 L kk) A7 c7, F24 N] w2 fun e w' => e = .returned (.tuple #[]) ∧ ∃ v', Box N w' v' (l1 ++ colsL (L.take (kk + 1))) ∧ Grew N w2 w' vv v' := by
          intro w2 hb2
          have hw02 : Below w0.heap.size w0 w2 := hw0r.trans (hb2.mono (by have := hw0r.size; have := HB.out.lt; have := HLL.out.2.2.1; omega))
          rw [e3]
          exact HI.out (rd_T36 L kk) A7 c7 w2 w0 N vv _ (by have := HLL.out.2.1; omega) (by have := HLL.out.1; omega) hl7 hC7 hw02 HLL.out.2.2.1 (HB.out.below hb2) hll
        have HC2 := Aside0.mk hcall
        have HX := Aside0.mk hg
        have HLT := Aside0.mk hlt
        clear hcall hsplit hcolk e3 hll hcl htk hmem hC7 hl7 hw0r hkk hg hlt
        obtain ⟨x, hx⟩ : ∃ x, x = rd_T36 L kk := ⟨_, rfl⟩
        rw [← hx] at h0 h1 h2 h3 h4 h5 h6 h7 HC2
        clear hx
        go_wp2_with fail
        refine (HC2.out _ (below_alloc (Below.refl _ _) _)).mono ?_
        rintro e w2 ⟨rfl, v2, hb2, hg2⟩
        have HB2 := Aside0.mk hb2
        have HG2 := Aside0.mk (HG.out.trans ((Grew.of_below (below_alloc (Below.refl _ _) _) (Nat.le_of_lt HB.out.lt) vv).trans hg2))
        clear hb2 hg2
        go_wp2
        go_roundg (L.length - (kk + 1))
        case measure => have := HX.out; have := HLT.out; omega
        case rel => exact ⟨kk + 1, v2, HLT.out, by omega, by go_num, HB2, HG2⟩
      · have hltz : ¬ (kk : Int) < (L.length : Int) := by omega
        have : kk = L.length := by omega
        subst this
        go_wp2
        go_end0
        refine ⟨rfl, vv, ?_, HG.out⟩
        have := HB.out
        rwa [List.take_length] at this
end Go.Proofs.Ytepjcgcobaaphaa.Pl
