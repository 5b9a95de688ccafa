import Derived.Test.YtepjcgcobaaphaaPl2
import Derived.Laws.OwnMore
namespace Go.Proofs.Ytepjcgcobaaphaa.Pl
set_option linter.unusedVariables false
set_option linter.unusedSimpArgs false
open Go.RowKit Go.Lib Go.Proofs.YtepjcgcobaaphaaW.PrintWords Go.Proofs.YtepjcgcobaaphaaW.PrintLast Go.Proofs.YtepjcgcobaaphaaW.PrintMore Go.Proofs.Ytepjcgcobaaphaa.PPa

/-! ### The parts of a node -/
def isAnd (k : Int) (o : ByteArray) : Bool := k == 4 && o.toList == [97, 110, 100]
mutual
def partsP : S36 → List S36
  | ⟨k, o, a, b, c, l⟩ => if isAnd k o = true then partsL l else [⟨k, o, a, b, c, l⟩]
def partsL : List S36 → List S36
  | [] => []
  | a :: t => partsP a ++ partsL t
end
theorem partsP_eq (x : S36) : partsP x = if isAnd x.f0 x.f1 = true then partsL x.f5 else [x] := by cases x; rw [partsP]
theorem partsL_append (a b : List S36) : partsL (a ++ b) = partsL a ++ partsL b := by
  induction a with
  | nil => rfl
  | cons x t ih => rw [List.cons_append, partsL, ih, partsL, List.append_assoc]
mutual
theorem partsP_cnt : ∀ x : S36, cntL (partsP x) ≤ cnt x
  | ⟨k, o, a, b, c, l⟩ => by
    have := partsL_cnt l
    rw [partsP]
    split
    · rw [cnt]; omega
    · simp [cntL]
theorem partsL_cnt : ∀ l : List S36, cntL (partsL l) ≤ cntL l
  | [] => by simp [partsL]
  | a :: t => by
    have h1 := partsP_cnt a
    have h2 := partsL_cnt t
    rw [partsL, cntL, cntL_append]
    omega
end
theorem len_cntL (l : List S36) : l.length ≤ cntL l := by
  induction l with
  | nil => simp
  | cons a t ih => rw [cntL]; have := cnt_eq a; simp; omega
theorem info36 : (Try.prog.info? 36).map (fun i => (i.zero, i.size, i.bytes)) = some (some (.agg #[(.int .i64 0), (.string ⟨#[]⟩), (.int .u8 0), (.int .i64 0), (.string ⟨#[]⟩), (.int .i64 0), (.int .u8 0), (.slice none 0 0)]), 8, 96) := by kernel_rfl
/-- A row of nodes that the call made; what their args hold came in (it is read in w0). -/
abbrev RN (w0 w : World) (base : Nat) (v : Value) (xs : List S36) : Prop := Kd.R (Kd.fixed k36 w0) 36 w base (fun _ => True) v xs
theorem lit_R {w0 W : World} {x : S36} {cs : Array Value} (hK : k36.K w0 x cs.toList) (hs : cs.size = 8) (base : Nat) (hb : base ≤ W.heap.size) : RN w0 (W.alloc (.cells cs 36)) base (.slice (some ⟨W.heap.size, 0, none⟩) 1 1) [x] := by
  refine ⟨fun _ _ => trivial, cs.toList, World.ownsRow_lit W cs 1 hb (by unfold maxLen; omega) (by rw [hs]; rfl), ?_⟩
  have := (Reps.none (R := (Kd.fixed k36 w0).M (W.alloc (.cells cs 36)) base (fun k => True ∧ some k ≠ (Value.slice (some ⟨W.heap.size, 0, none⟩) 1 1).ownBlock)) (size := 8)).snoc (p := x) (c := cs.toList) hK (by simpa using hs)
  have h8 : (Kd.fixed k36 w0).sz = 8 := rfl
  rw [h8]
  simpa using this
set_option maxHeartbeats 4000000 in
set_option maxRecDepth 100000 in
theorem parts_walk (k : Nat) : ∀ (x : S36) (A : Option Addr) (c : Nat) (w w0 : World), cnt x ≤ k → cnt x ≤ 10000000000 → x.f5.length ≤ c → Kd.C k36 w0 A x.f5.length x.f5 → Below w0.heap.size w0 w →
    Calls Try.prog 17 #[V36 x A c] w fun e w' => ∃ v, e = .returned v ∧ RN w0 w' w.heap.size v (partsP x) ∧ Below w.heap.size w w' := by
  induction k with
  | zero => intro x A c w w0 h; have := cnt_eq x; omega
  | succ k ih =>
    intro x A c w w0 hk hk2 hc hC hw0
    have hK := k36_mk w0 x hc hC
    have HI := Aside0.mk ih
    have HC := Aside0.mk hC
    have HW := Aside0.mk hw0
    have hnl : x.f5.length < 9223372036854775808 := nlen_ok (by omega)
    have hce := cnt_eq x
    have hpe := partsP_eq x
    have HN := Aside0.mk (And.intro hk hk2)
    have HK := Aside0.mk hK
    clear ih hC hw0 hk hk2 hK hc
    cases ha : isAnd x.f0 x.f1 with
    | false =>
      rw [ha, if_neg (by decide)] at hpe
      rw [hpe]
      have hcase : ¬ x.f0 = 4 ∨ x.f0 = 4 ∧ ¬ x.f1.toList = [97, 110, 100] := by
        unfold isAnd at ha
        by_cases h1 : x.f0 = 4
        · refine .inr ⟨h1, fun h2 => ?_⟩
          rw [h1, h2] at ha; exact absurd ha (by decide)
        · exact .inl h1
      clear ha hpe hce
      obtain ⟨f0, f1, f2, f3, f4, L⟩ := x
      simp only at *
      rcases hcase with e1 | ⟨e1, e2n⟩
      · go_enter Try.func17, Try.ntmps17
        go_wp2
        go_ret
        refine ⟨_, rfl, ?_, below_alloc (below_alloc (Below.refl _ _) _) _⟩
        have := lit_R (W := w.alloc (.cells #[.int .i64 f0, .string f1, .int .u8 f2.f0, .int .i64 f2.f1, .string f2.f2, .int .i64 f3, .int .u8 f4, .slice A L.length c] 36)) (cs := #[.int .i64 f0, .string f1, .int .u8 f2.f0, .int .i64 f2.f1, .string f2.f2, .int .i64 f3, .int .u8 f4, .slice A L.length c]) HK.out rfl w.heap.size (by rw [World.size_alloc]; omega)
        rw [World.size_alloc] at this
        exact this
      · subst e1
        have e2 : (f1.toList == [97, 110, 100]) = false := by simpa using e2n
        clear e2n
        go_enter Try.func17, Try.ntmps17
        go_wp2
        go_ret
        refine ⟨_, rfl, ?_, below_alloc (below_alloc (Below.refl _ _) _) _⟩
        have := lit_R (W := w.alloc (.cells #[.int .i64 4, .string f1, .int .u8 f2.f0, .int .i64 f2.f1, .string f2.f2, .int .i64 f3, .int .u8 f4, .slice A L.length c] 36)) (cs := #[.int .i64 4, .string f1, .int .u8 f2.f0, .int .i64 f2.f1, .string f2.f2, .int .i64 f3, .int .u8 f4, .slice A L.length c]) HK.out rfl w.heap.size (by rw [World.size_alloc]; omega)
        rw [World.size_alloc] at this
        exact this
    | true =>
      rw [ha, if_pos rfl] at hpe
      rw [hpe]
      have hcL : cntL x.f5 ≤ k := by have := HN.out.1; omega
      have hcL2 : cntL x.f5 ≤ 10000000000 := by have := HN.out.2; omega
      unfold isAnd at ha
      obtain ⟨e1, e2⟩ := Bool.and_eq_true_iff.1 ha
      replace e1 : x.f0 = 4 := by simpa using e1
      replace e2 : x.f1.toList = [97, 110, 100] := by simpa using e2
      have HL := Aside0.mk (And.intro hcL hcL2)
      clear ha hpe hce HK hcL hcL2 HN
      obtain ⟨f0, f1, f2, f3, f4, L⟩ := x
      simp only at *
      subst e1
      go_enter Try.func17, Try.ntmps17
      go_wp2
      go_loopg [3, 19] L.length (fun gg s3 s19 wr => ∃ (kk : Nat) (vv : Value), kk ≤ L.length ∧ L.length - kk ≤ gg ∧ s3 = vv ∧ s19 = .int .i64 kk ∧ Aside0 (Below w.heap.size w wr) ∧ Aside0 (RN w0 wr w.heap.size vv (partsL (L.take kk))))
      case atStart => exact ⟨0, .slice none 0 0, Nat.zero_le _, by omega, rfl, rfl, ⟨below_alloc (Below.refl _ _) _⟩, ⟨Kd.R_nil _ _ _ _ _⟩⟩
      case round =>
        obtain ⟨kk, vv, hkk, hg, rfl, rfl, HB, HR⟩ := hrel
        by_cases hlt : kk < L.length
        · have hltz : (kk : Int) < (L.length : Int) := by omega
          have hw0r : Below w0.heap.size w0 wr := below_then HW.out HW.out.size HB.out
          obtain ⟨ad, A7, c7, hA, h0, h1, h2, h3, h4, h5, h6, h7, hl7, hC7⟩ := at36 HC.out hw0r (kk : Int) (by omega) hltz
          rw [Int.toNat_natCast] at h0 h1 h2 h3 h4 h5 h6 h7
          subst hA
          have hmem := rd36_mem L kk hlt
          have htk := take_succ36 L kk hlt
          have hcl := cntL_mem hmem
          have e3 : partsL (L.take (kk + 1)) = partsL (L.take kk) ++ partsP (rd_T36 L kk) := by
            rw [htk, partsL_append]; simp [partsL]
          have hlen : (partsL (L.take kk)).length + (partsP (rd_T36 L kk)).length ≤ 10000000000 := by
            have q1 := len_cntL (partsL (L.take (kk + 1)))
            have q2 := partsL_cnt (L.take (kk + 1))
            have q3 := cntL_append (L.take (kk + 1)) (L.drop (kk + 1))
            rw [List.take_append_drop] at q3
            have q0 : (partsL (L.take (kk + 1))).length = (partsL (L.take kk)).length + (partsP (rd_T36 L kk)).length := by rw [e3, List.length_append]
            have := HL.out.2
            omega
          have hcall : ∀ w2, Below wr.heap.size wr w2 → Calls Try.prog 17 #[V36 (rd_T36 L kk) A7 c7] w2 fun e w' => ∃ v, e = .returned v ∧ RN w0 w' w2.heap.size v (partsP (rd_T36 L kk)) ∧ Below w2.heap.size w2 w' :=
            fun w2 hb2 => HI.out (rd_T36 L kk) A7 c7 w2 w0 (by have := HL.out.1; omega) (by have := HL.out.2; omega) hl7 hC7 (below_then hw0r hw0r.size hb2)
          have HC2 := Aside0.mk hcall
          have HX := Aside0.mk hg
          have HLT := Aside0.mk hlt
          have HE3 := Aside0.mk e3
          have HLN := Aside0.mk hlen
          clear hcall e3 hcl htk hmem hC7 hl7 hw0r hkk hg hlt hlen
          obtain ⟨x, hx⟩ : ∃ x, x = rd_T36 L kk := ⟨_, rfl⟩
          rw [← hx] at h0 h1 h2 h3 h4 h5 h6 h7 HC2 HE3 HLN
          clear hx
          go_wp2_with fail
          refine (HC2.out _ (below_alloc (Below.refl _ _) _)).mono ?_
          rintro e w2 ⟨v2, rfl, hr2, hb2⟩
          obtain ⟨A2, c2, rfl, hl2, hC2⟩ := Kd.R_reads hr2
          have HB2 := Aside0.mk (below_then HB.out HB.out.size (below_then (below_alloc (Below.refl _ _) _) (by rw [World.size_alloc]; omega) hb2) : Below w.heap.size w w2)
          have HR2 := Aside0.mk (Kd.R_below (Kd.R_below HR.out (below_alloc (Below.refl _ _) _)) hb2)
          have HC3 := Aside0.mk hC2
          have hsz := HB2.out.size
          clear hr2 hb2 hC2 hl2
          go_wp2_with (at_builtin; refine Kd.R_append_rows (Kd.fixed k36 w0) (Rr := fun x cs => k36.K w0 x cs) (w0 := w) w.heap.size ?a1 (.tmp 23) (.tmp 25) 23 36 (.agg #[(.int .i64 0), (.string ⟨#[]⟩), (.int .u8 0), (.int .i64 0), (.string ⟨#[]⟩), (.int .i64 0), (.int .u8 0), (.slice none 0 0)]) 96 ?a2 Try.underlying23 info36 ?a3 ?a4 ?a5 _ (partsL (L.take kk)) (partsP x) A2 (partsP x).length c2 (fun _ => True) (fun _ => False) ?a6 ?a7 HR2.out ?aR (fun _ _ h => h) (fun _ hk => hk.elim) (fun _ _ => trivial) HB2.out hsz ?aL ?_; (case a1 => rfl); (case a2 => rfl); (case a3 => rfl); (case a4 => show 0 < 8; omega); (case a5 => omega); (case a6 => rfl); (case a7 => rfl); (case aR => exact HC3.out); (case aL => have := HLN.out; omega); intro v1 w1 ho hb1 hg1 hat1; obtain ⟨A1, c1, rfl⟩ := Kd.R_slice ho; have HO := Aside0.mk ho; have HB1 := Aside0.mk hb1; clear ho; clear hb1; clear hat1; clear hg1)
          go_roundg (L.length - (kk + 1))
          case measure => have := HX.out; have := HLT.out; omega
          case rel => exact ⟨kk + 1, _, HLT.out, by omega, rfl, by go_num, HB1, ⟨by rw [HE3.out]; have := HO.out; rwa [List.length_append] at this⟩⟩
        · have hltz : ¬ (kk : Int) < (L.length : Int) := by omega
          have : kk = L.length := by omega
          subst this
          obtain ⟨A2, c2, rfl, hl2, hC2⟩ := Kd.R_reads HR.out
          go_wp2
          go_ret
          refine ⟨_, rfl, ?_, HB.out⟩
          have := HR.out
          rwa [List.take_length] at this
end Go.Proofs.Ytepjcgcobaaphaa.Pl
