import Derived.Test.YtepjcgcobaaphaaPl7
namespace Go.Proofs.Ytepjcgcobaaphaa.Pl
set_option linter.unusedVariables false
set_option linter.unusedSimpArgs false
open Go.RowKit Go.Lib Go.Proofs.YtepjcgcobaaphaaW.PrintWords Go.Proofs.YtepjcgcobaaphaaW.PrintLast Go.Proofs.YtepjcgcobaaphaaW.PrintMore Go.Proofs.Ytepjcgcobaaphaa.PPa

/-! ### Lists of tables, lists of steps -/
def k29 : Kd S29 := Kd.iso (Kd.pair (Kd.int .i64) (Kd.pair (Kd.int .i64) (Kd.pair (Kd.slice 3 (Kd.int .i64)) (Kd.pair (Kd.slice 3 (Kd.int .i64)) Kd.bool)))) (fun x : S29 => (x.f0, x.f1, x.f2, x.f3, x.f4))
theorem k29_open {w : World} {x : S29} {cs : List Value} (h : k29.K w x cs) : ∃ A2 c2 A3 c3, cs = [.int .i64 x.f0, .int .i64 x.f1, .slice A2 x.f2.length c2, .slice A3 x.f3.length c3, .bool x.f4] ∧ Kd.C (Kd.int .i64) w A2 x.f2.length x.f2 ∧ Kd.C (Kd.int .i64) w A3 x.f3.length x.f3 ∧ x.f2.length ≤ c2 ∧ x.f3.length ≤ c3 := by
  obtain ⟨_, _, rfl, rfl, ⟨_, _, rfl, rfl, ⟨_, _, rfl, ⟨A2, c2, rfl, l2, g2⟩, ⟨_, _, rfl, ⟨A3, c3, rfl, l3, g3⟩, rfl⟩⟩⟩⟩ := h
  exact ⟨A2, c2, A3, c3, rfl, g2, g3, l2, l3⟩
theorem k29_mk (w : World) (x : S29) {A2 A3 : Option Addr} {c2 c3 : Nat} (l2 : x.f2.length ≤ c2) (g2 : Kd.C (Kd.int .i64) w A2 x.f2.length x.f2) (l3 : x.f3.length ≤ c3) (g3 : Kd.C (Kd.int .i64) w A3 x.f3.length x.f3) :
    k29.K w x [.int .i64 x.f0, .int .i64 x.f1, .slice A2 x.f2.length c2, .slice A3 x.f3.length c3, .bool x.f4] :=
  ⟨[.int .i64 x.f0], [.int .i64 x.f1, .slice A2 x.f2.length c2, .slice A3 x.f3.length c3, .bool x.f4], rfl, rfl, ⟨[.int .i64 x.f1], [.slice A2 x.f2.length c2, .slice A3 x.f3.length c3, .bool x.f4], rfl, rfl, ⟨[.slice A2 x.f2.length c2], [.slice A3 x.f3.length c3, .bool x.f4], rfl, ⟨A2, c2, rfl, l2, g2⟩, ⟨[.slice A3 x.f3.length c3], [.bool x.f4], rfl, ⟨A3, c3, rfl, l3, g3⟩, rfl⟩⟩⟩⟩
def rd29 (xs : List S29) (i : Int) : S29 := xs.getD i.toNat z29
theorem rd29_mem (L : List S29) (i : Nat) (h : i < L.length) : rd29 L (i : Int) ∈ L := by
  unfold rd29
  rw [Int.toNat_natCast, List.getD_eq_getElem?_getD, List.getElem?_eq_getElem h]
  exact List.getElem_mem h
theorem at29 {w0 w : World} {A : Option Addr} {n : Nat} {xs : List S29} (h : Kd.C k29 w0 A n xs) (hb : Below w0.heap.size w0 w) (i : Int) (h0 : 0 ≤ i) (h1 : i < n) :
    ∃ ad A2 c2 A3 c3, A = some ad ∧ w.cell? (ad.add (i.toNat * 5)) = some (.int .i64 (rd29 xs i).f0) ∧ w.cell? ⟨(ad.add (i.toNat * 5)).block, (ad.add (i.toNat * 5)).off + 1, none⟩ = some (.int .i64 (rd29 xs i).f1) ∧ w.cell? ⟨(ad.add (i.toNat * 5)).block, (ad.add (i.toNat * 5)).off + 2, none⟩ = some (.slice A2 (rd29 xs i).f2.length c2) ∧ w.cell? ⟨(ad.add (i.toNat * 5)).block, (ad.add (i.toNat * 5)).off + 3, none⟩ = some (.slice A3 (rd29 xs i).f3.length c3) ∧ w.cell? ⟨(ad.add (i.toNat * 5)).block, (ad.add (i.toNat * 5)).off + 4, none⟩ = some (.bool (rd29 xs i).f4) ∧
      Kd.C (Kd.int .i64) w0 A2 (rd29 xs i).f2.length (rd29 xs i).f2 ∧ Kd.C (Kd.int .i64) w0 A3 (rd29 xs i).f3.length (rd29 xs i).f3 := by
  obtain ⟨ad, c, e, _, hK, hc0⟩ := Kd.C_get h z29 i h0 h1
  have hc : ∀ j u, c[j]? = some u → w0.cell? (ad.add (i.toNat * 5 + j)) = some u := hc0
  obtain ⟨A2, c2, A3, c3, rfl, g2, g3, _, _⟩ := k29_open hK
  exact ⟨ad, A2, c2, A3, c3, e, bcell hb (hc 0 _ rfl), by rw [← add_field _ _ 1 (by omega)]; exact bcell hb (hc 1 _ rfl), by rw [← add_field _ _ 2 (by omega)]; exact bcell hb (hc 2 _ rfl), by rw [← add_field _ _ 3 (by omega)]; exact bcell hb (hc 3 _ rfl), by rw [← add_field _ _ 4 (by omega)]; exact bcell hb (hc 4 _ rfl), g2, g3⟩
/-- A step among steps that the call made. -/
def kS (w0 : World) : Kd (Int × Int × List S36) := Kd.pair (Kd.int .i64) (Kd.pair (Kd.int .i64) (Kd.slice 36 (Kd.fixed k36 w0)))
theorem kS_open {w0 w : World} {x : Int × Int × List S36} {cs : List Value} (h : (kS w0).K w x cs) : ∃ A c, cs = [.int .i64 x.1, .int .i64 x.2.1, .slice A x.2.2.length c] ∧ x.2.2.length ≤ c ∧ Kd.C (Kd.fixed k36 w0) w A x.2.2.length x.2.2 := by
  obtain ⟨_, _, rfl, rfl, ⟨_, _, rfl, rfl, ⟨A, c, rfl, l, g⟩⟩⟩ := h
  exact ⟨A, c, rfl, l, g⟩
theorem kS_mkM {w0 w : World} {base : Nat} {ok : Nat → Prop} {x : Int × Int × List S36} {v : Value} (h : Kd.R (Kd.fixed k36 w0) 36 w base ok v x.2.2) : (kS w0).M w base ok x [.int .i64 x.1, .int .i64 x.2.1, v] :=
  ⟨[.int .i64 x.1], [.int .i64 x.2.1, v], rfl, rfl, ⟨[.int .i64 x.2.1], [v], rfl, rfl, ⟨v, rfl, h⟩⟩⟩
theorem info45 : (Try.prog.info? 45).map (fun i => (i.zero, i.size, i.bytes)) = some (some (.agg #[(.int .i64 0), (.int .i64 0), (.slice none 0 0)]), 3, 40) := by kernel_rfl
def allParts (C : List S36) : List S36 := C.flatMap fun x => if x.f0 = 0 then [] else partsP x
def allSafe (C : List S36) : Bool := C.all fun x => x.f0 == 0 || safeP x
def stepsP (T : List S29) (C : List S36) : List (Int × Int × List S36) := T.map fun t => if allSafe C = true then stepP t (allParts C) else (0, 0, [])
theorem allParts_take (C : List S36) (i : Nat) (h : i < C.length) : allParts (C.take (i + 1)) = allParts (C.take i) ++ (if (rd_T36 C (i : Int)).f0 = 0 then [] else partsP (rd_T36 C (i : Int))) := by
  unfold allParts; rw [take_succ36 C i h, List.flatMap_append]; simp
theorem allSafe_take (C : List S36) (i : Nat) (h : i < C.length) : allSafe (C.take (i + 1)) = (allSafe (C.take i) && ((rd_T36 C (i : Int)).f0 == 0 || safeP (rd_T36 C (i : Int)))) := by
  unfold allSafe; rw [take_succ36 C i h, List.all_append]; simp
theorem allParts_cnt (C : List S36) : cntL (allParts C) ≤ cntL C := by
  unfold allParts
  induction C with
  | nil => simp [cntL]
  | cons a t ih =>
    rw [List.flatMap_cons, cntL_append, cntL]
    have := partsP_cnt a
    split <;> simp [cntL] <;> omega
theorem stepsP_take (T : List S29) (C : List S36) (i : Nat) (h : i < T.length) : stepsP (T.take (i + 1)) C = stepsP (T.take i) C ++ [if allSafe C = true then stepP (rd29 T (i : Int)) (allParts C) else (0, 0, [])] := by
  unfold stepsP
  have : T.take (i + 1) = T.take i ++ [rd29 T (i : Int)] := by
    rw [List.take_succ_eq_append_getElem h]
    unfold rd29
    rw [Int.toNat_natCast, List.getD_eq_getElem?_getD, List.getElem?_eq_getElem h]
    rfl
  rw [this, List.map_append]; rfl
theorem stepsP_len (T : List S29) (C : List S36) : (stepsP T C).length = T.length := by unfold stepsP; simp
theorem R_setlow {α : Type} {d : Kd α} {e base g j : Nat} {w : World} {ok : Nat → Prop} {v u : Value} {xs : List α} (h : Kd.R d e w base ok v xs) (hg : g < base) : Kd.R d e (w.setCell ⟨g, j, none⟩ u) base ok v xs :=
  Kd.R_mono (Kd.R_step (ok := fun k => ok k ∧ base ≤ k) (Kd.R_mono (Kd.R_bound h) (fun k hk => ⟨hk.1, hk.2.1⟩)) (fun k hk _ => Below.heap_setCell w ⟨g, j, none⟩ u k (by show k ≠ g; have := hk.2; omega))) (fun k hk => hk.1)
theorem R_sethigh {α : Type} {d : Kd α} {e base g j n : Nat} {w : World} {v u : Value} {xs : List α} (h : Kd.R d e w base (fun k => k < n) v xs) (hg : n ≤ g) : Kd.R d e (w.setCell ⟨g, j, none⟩ u) base (fun k => k < n) v xs :=
  Kd.R_far h (p := ⟨g, j, none⟩) (fun k hk => by show k ≠ g; omega) u
theorem size_set (w : World) (p : Addr) (u : Value) : (w.setCell p u).heap.size = w.heap.size := by simp [World.setCell]
/-- What is asked of plan.Equal, as a contract. -/
def EqualC : Prop := ∀ (L : List S36) (A : Option Addr) (c : Nat) (slot first : Int) (w0 w : World), Below w0.heap.size w0 w → (∀ x ∈ L, cnt x ≤ 100000000000) → L.length < 9223372036854775808 → L.length ≤ c → Kd.C (Kd.fixed k36 w0) w A L.length L →
    Calls Try.prog 31 #[.slice A L.length c, .int .i64 slot, .int .i64 first] w fun e w' => ∃ (n : S36) (A' : Option Addr) (c' : Nat), e = .returned (.tuple #[V36 n A' c', .bool (equalP L slot first).isSome]) ∧ n = (equalP L slot first).getD z36 ∧ n.f5.length ≤ c' ∧ Kd.C k36 w0 A' n.f5.length n.f5 ∧ Below w.heap.size w w'
/-- A table that the statements let in. -/
def okT (t : S29) : Prop := t.f2.length ≤ 1000 ∧ t.f3.length ≤ 1000 ∧ (-10000 < t.f0 ∧ t.f0 < 10000) ∧ t.f1 < 10000
set_option maxHeartbeats 8000000 in
set_option maxRecDepth 100000 in
theorem steps_walk (HEq : EqualC) (T : List S29) (AT : Option Addr) (cT : Nat) (C : List S36) (AC : Option Addr) (cC : Nat) (w : World) (hT : Kd.C k29 w AT T.length T) (hC : Kd.C k36 w AC C.length C) (lT : T.length ≤ 1000) (lC : C.length ≤ 1000) (okTs : ∀ t ∈ T, okT t) (okC : cntL C ≤ 1000000000) :
    Calls Try.prog 9 #[.slice AT T.length cT, .slice AC C.length cC] w fun e w' => ∃ v, e = .returned v ∧ Kd.R (kS w) 45 w' w.heap.size (fun _ => True) v (stepsP T C) ∧ Below w.heap.size w w' := by
  have HE := Aside0.mk HEq
  have HT := Aside0.mk hT
  have HC := Aside0.mk hC
  have HOT := Aside0.mk okTs
  have HOC := Aside0.mk okC
  clear HEq hT hC okTs okC
  go_enter Try.func9, Try.ntmps9
  go_wp2
  go_loopg [5, 6, 15] C.length (fun gg s5 s6 s15 wr => ∃ (kk : Nat) (vv : Value), kk ≤ C.length ∧ C.length - kk ≤ gg ∧ s5 = vv ∧ s6 = .bool (allSafe (C.take kk)) ∧ s15 = .int .i64 kk ∧ Aside0 (Below w.heap.size w wr) ∧ Aside0 (RN w wr w.heap.size vv (allParts (C.take kk))))
  case atStart => exact ⟨0, .slice none 0 0, Nat.zero_le _, by omega, rfl, rfl, rfl, ⟨Below.refl _ _⟩, ⟨Kd.R_nil _ _ _ _ _⟩⟩
  case round =>
    obtain ⟨kk, vv, hkk, hg, rfl, rfl, rfl, HB, HR⟩ := hrel
    by_cases hlt : kk < C.length
    · have hltz : (kk : Int) < (C.length : Int) := by omega
      obtain ⟨ad, A7, c7, hA, h0, h1, h2, h3, h4, h5, h6, h7, hl7, hC7⟩ := at36 HC.out HB.out (kk : Int) (by omega) hltz
      rw [Int.toNat_natCast] at h0 h1 h2 h3 h4 h5 h6 h7
      subst hA
      have hmem := rd36_mem C kk hlt
      have hpt := allParts_take C kk hlt
      have hst := allSafe_take C kk hlt
      have hcx : cnt (rd_T36 C kk) ≤ 1000000000 := Nat.le_trans (cntL_mem hmem) HOC.out
      have hplen : (allParts (C.take (kk + 1))).length ≤ 1000000000 := by
        have q1 := len_cntL (allParts (C.take (kk + 1)))
        have q2 := allParts_cnt (C.take (kk + 1))
        have q3 := cntL_append (C.take (kk + 1)) (C.drop (kk + 1))
        rw [List.take_append_drop] at q3
        have := HOC.out
        omega
      have hS := fun (V : World) (hV : Below wr.heap.size wr V) => safe_walk (cnt (rd_T36 C kk)) (rd_T36 C kk) A7 c7 V (Nat.le_refl _) (by omega) hl7 (Kd.C_below hC7 (below_then HB.out HB.out.size hV))
      have hP := fun (V : World) (hV : Below wr.heap.size wr V) => parts_walk (cnt (rd_T36 C kk)) (rd_T36 C kk) A7 c7 V w (Nat.le_refl _) (by omega) hl7 hC7 (below_then HB.out HB.out.size hV)
      obtain ⟨x, hx⟩ : ∃ x, x = rd_T36 C kk := ⟨_, rfl⟩
      rw [← hx] at h0 h1 h2 h3 h4 h5 h6 h7 hpt hst hS hP
      have HX := Aside0.mk hg
      have HLT := Aside0.mk hlt
      have HST := Aside0.mk hst
      have HPL := Aside0.mk hplen
      have HBS := Aside0.mk HB.out.size
      clear hx hmem hcx hplen hlt hg hkk hC7 hl7 hst
      obtain ⟨sf, hsf⟩ : ∃ b, allSafe (C.take kk) = b := ⟨_, rfl⟩
      rw [hsf] at HST ⊢
      clear hsf
      by_cases hz : x.f0 = 0
      · rw [hz] at HST
        have HPT := Aside0.mk (hpt.trans (by rw [if_pos hz]))
        have hz2 : (x.f0 != 0) = false := by rw [hz]; rfl
        have hz3 : (x.f0 == 0) = true := by rw [hz]; rfl
        clear hpt hS hP
        go_wp2_with fail
        go_roundg (C.length - (kk + 1))
        case measure => have := HX.out; have := HLT.out; omega
        case rel => exact ⟨kk + 1, _, HLT.out, by omega, rfl, by rw [HST.out]; simp, by go_num, ⟨below_alloc HB.out _⟩, ⟨by rw [HPT.out, List.append_nil]; exact Kd.R_below HR.out (below_alloc (Below.refl _ _) _)⟩⟩
      · have HPT := Aside0.mk (hpt.trans (by rw [if_neg hz]))
        have hz2 : (x.f0 != 0) = true := by simpa using hz
        have hz3 : (x.f0 == 0) = false := by simpa using hz
        rw [hz3, Bool.false_or] at HST
        have HS := Aside0.mk hS
        have HP := Aside0.mk hP
        clear hpt hS hP
        cases sf with
        | true =>
          rw [Bool.true_and] at HST
          go_wp2_with fail
          refine (HS.out _ (below_alloc (Below.refl _ _) _)).mono ?_
          rintro e V1 ⟨rfl, hb⟩
          have hbx := (hb.block wr.heap.size (by rw [World.size_alloc]; omega)).trans (blk_new wr _)
          obtain ⟨a0, a1, a2, a3, a4, a5, a6, a7⟩ := cells8 hbx
          have HBa := Aside0.mk (below_then (below_alloc (Below.refl wr.heap.size wr) _) (by rw [World.size_alloc]; omega) hb : Below wr.heap.size wr V1)
          clear hb hbx h0 h1 h2 h3 h4 h5 h6 h7
          go_wp2_with fail
          refine (HP.out _ HBa.out).mono ?_
          rintro e V2 ⟨v2, rfl, hr2, hb2⟩
          obtain ⟨A2, c2, rfl, hl2, hC2⟩ := Kd.R_reads hr2
          have HB2 := Aside0.mk (below_then (below_then HB.out HB.out.size HBa.out) (Nat.le_trans HB.out.size HBa.out.size) hb2 : Below w.heap.size w V2)
          have HR2 := Aside0.mk (Kd.R_below (Kd.R_below HR.out HBa.out) hb2)
          have HC3 := Aside0.mk hC2
          clear hr2 hb2 hC2 hl2 a0 a1 a2 a3 a4 a5 a6 a7
          go_wp2_with (at_builtin; refine Kd.R_append_rows (Kd.fixed k36 w) (Rr := fun x cs => k36.K w x cs) (w0 := w) w.heap.size ?a1 (.tmp 27) (.tmp 29) 23 36 (.agg #[(.int .i64 0), (.string ⟨#[]⟩), (.int .u8 0), (.int .i64 0), (.string ⟨#[]⟩), (.int .i64 0), (.int .u8 0), (.slice none 0 0)]) 96 ?a2 Try.underlying23 info36 ?a3 ?a4 ?a5 _ (allParts (C.take kk)) (partsP x) A2 (partsP x).length c2 (fun _ => True) (fun _ => False) ?a6 ?a7 HR2.out ?aR (fun _ _ h => h) (fun _ hk => hk.elim) (fun _ _ => trivial) HB2.out HB2.out.size ?aL ?_; (case a1 => rfl); (case a2 => rfl); (case a3 => rfl); (case a4 => show 0 < 8; omega); (case a5 => omega); (case a6 => rfl); (case a7 => rfl); (case aR => exact HC3.out); (case aL => have q1 := HPL.out; rw [HPT.out, List.length_append] at q1; omega); intro v1 w1 ho hb1 hg1 hat1; obtain ⟨A1, c1, rfl⟩ := Kd.R_slice ho; have HO := Aside0.mk ho; have HB1 := Aside0.mk hb1; clear ho; clear hb1; clear hat1; clear hg1)
          go_roundg (C.length - (kk + 1))
          case measure => have := HX.out; have := HLT.out; omega
          case rel => exact ⟨kk + 1, _, HLT.out, by omega, rfl, by rw [HST.out]; try rfl, by go_num, HB1, ⟨by rw [HPT.out]; have := HO.out; rw [List.length_append] at this; exact this⟩⟩
        | false =>
          rw [Bool.false_and] at HST
          go_wp2_with fail
          refine (HP.out _ (below_alloc (Below.refl _ _) _)).mono ?_
          rintro e V2 ⟨v2, rfl, hr2, hb2⟩
          obtain ⟨A2, c2, rfl, hl2, hC2⟩ := Kd.R_reads hr2
          have HB2 := Aside0.mk (below_then (below_alloc HB.out _) (by rw [World.size_alloc]; have := HBS.out; omega) hb2 : Below w.heap.size w V2)
          have HR2 := Aside0.mk (Kd.R_below (Kd.R_below HR.out (below_alloc (Below.refl _ _) _)) hb2)
          have HC3 := Aside0.mk hC2
          clear hr2 hb2 hC2 hl2 h0 h1 h2 h3 h4 h5 h6 h7
          go_wp2_with (at_builtin; refine Kd.R_append_rows (Kd.fixed k36 w) (Rr := fun x cs => k36.K w x cs) (w0 := w) w.heap.size ?a1 (.tmp 27) (.tmp 29) 23 36 (.agg #[(.int .i64 0), (.string ⟨#[]⟩), (.int .u8 0), (.int .i64 0), (.string ⟨#[]⟩), (.int .i64 0), (.int .u8 0), (.slice none 0 0)]) 96 ?a2 Try.underlying23 info36 ?a3 ?a4 ?a5 _ (allParts (C.take kk)) (partsP x) A2 (partsP x).length c2 (fun _ => True) (fun _ => False) ?a6 ?a7 HR2.out ?aR (fun _ _ h => h) (fun _ hk => hk.elim) (fun _ _ => trivial) HB2.out HB2.out.size ?aL ?_; (case a1 => rfl); (case a2 => rfl); (case a3 => rfl); (case a4 => show 0 < 8; omega); (case a5 => omega); (case a6 => rfl); (case a7 => rfl); (case aR => exact HC3.out); (case aL => have q1 := HPL.out; rw [HPT.out, List.length_append] at q1; omega); intro v1 w1 ho hb1 hg1 hat1; obtain ⟨A1, c1, rfl⟩ := Kd.R_slice ho; have HO := Aside0.mk ho; have HB1 := Aside0.mk hb1; clear ho; clear hb1; clear hat1; clear hg1)
          go_roundg (C.length - (kk + 1))
          case measure => have := HX.out; have := HLT.out; omega
          case rel => exact ⟨kk + 1, _, HLT.out, by omega, rfl, by rw [HST.out]; try rfl, by go_num, HB1, ⟨by rw [HPT.out]; have := HO.out; rw [List.length_append] at this; exact this⟩⟩
    · have hltz : ¬ (kk : Int) < (C.length : Int) := by omega
      have hkl : kk = C.length := by omega
      subst hkl
      obtain ⟨vA, vc, rfl, hvl, hvC⟩ := RN.nodes HR.out
      rw [List.take_length] at *
      have hpl : (allParts C).length ≤ 1000000000 := by
        have q1 := len_cntL (allParts C)
        have q2 := allParts_cnt C
        have := HOC.out
        omega
      have hst : ∀ (t : S29) (A2 : Option Addr) (c2 : Nat) (A3 : Option Addr) (c3 : Nat) (V : World), Below wr.heap.size wr V → t ∈ T → Kd.C (Kd.int .i64) w A2 t.f2.length t.f2 → Kd.C (Kd.int .i64) w A3 t.f3.length t.f3 →
          Calls Try.prog 18 #[.agg #[.int .i64 t.f0, .int .i64 t.f1, .slice A2 t.f2.length c2, .slice A3 t.f3.length c3, .bool t.f4], .slice vA (allParts C).length vc] V fun e w' => ∃ v : Value, e = .returned (.agg #[.int .i64 (stepP t (allParts C)).1, .int .i64 (stepP t (allParts C)).2.1, v]) ∧ RN w w' V.heap.size v (stepP t (allParts C)).2.2 ∧ Below V.heap.size V w' := by
        intro t A2 c2 A3 c3 V hV ht g2 g3
        have ho := HOT.out t ht
        refine step_walk (allParts C) vA vc w hvl (fun slot first V2 hV2 hC2 => HE.out (allParts C) vA vc slot first w V2 hV2 (fun y hy => ?_) (by omega) hvl hC2) t A2 c2 A3 c3 V (below_then HB.out HB.out.size hV) (Kd.C_below hvC hV) g2 g3 ho.1 ho.2.1 ho.2.2.1 ho.2.2.2
        have q1 := cntL_mem hy
        have q2 := allParts_cnt C
        have := HOC.out
        omega
      have HST := Aside0.mk hst
      obtain ⟨sf, hsf⟩ : ∃ b, allSafe C = b := ⟨_, rfl⟩
      have HSF := Aside0.mk hsf
      rw [hsf]
      clear hst hpl hvC hvl hsf HR
      obtain ⟨W1, hW1⟩ : ∃ W, W = wr := ⟨_, rfl⟩
      subst hW1
      go_wp2
      go_loopg [9, 34] T.length (fun gg s9 s34 wq => ∃ (kk : Nat) (vv : Value), kk ≤ T.length ∧ T.length - kk ≤ gg ∧ s9 = vv ∧ s34 = .int .i64 kk ∧ Aside0 (Below W1.heap.size W1 wq) ∧ Aside0 (Kd.R (kS w) 45 wq W1.heap.size (fun _ => True) vv (stepsP (T.take kk) C)))
      case atStart => exact ⟨0, .slice none 0 0, Nat.zero_le _, by omega, rfl, rfl, ⟨Below.refl _ _⟩, ⟨Kd.R_nil _ _ _ _ _⟩⟩
      case round =>
        obtain ⟨kk, vv, hkk, hg, rfl, rfl, HBR, HR⟩ := hrel
        by_cases hlt : kk < T.length
        · have hltz2 : (kk : Int) < (T.length : Int) := by omega
          obtain ⟨ad, A2, c2, A3, c3, hA, h0, h1, h2, h3, h4, g2, g3⟩ := at29 HT.out (below_then HB.out HB.out.size HBR.out) (kk : Int) (by omega) hltz2
          rw [Int.toNat_natCast] at h0 h1 h2 h3 h4
          subst hA
          have hS := fun (V : World) (hV : Below wr.heap.size wr V) => HST.out (rd29 T kk) A2 c2 A3 c3 V (below_then HBR.out HBR.out.size hV) (rd29_mem T kk hlt) g2 g3
          have htk := stepsP_take T C kk hlt
          rw [HSF.out] at htk
          have hln : (stepsP (T.take kk) C).length ≤ 1000 := by rw [stepsP_len, List.length_take]; omega
          obtain ⟨x, hx⟩ : ∃ x, x = rd29 T kk := ⟨_, rfl⟩
          rw [← hx] at h0 h1 h2 h3 h4 hS htk
          have HX := Aside0.mk hg
          have HLT := Aside0.mk hlt
          have HLN := Aside0.mk hln
          have HTK := Aside0.mk htk
          have HRL : Aside0 (Kd.R (kS w) 45 wr W1.heap.size (fun k => k < wr.heap.size) u9 (stepsP (T.take kk) C)) := ⟨Kd.R_mono (Kd.R_bound HR.out) (fun k hk => hk.2.2.1)⟩
          clear hx hlt hg hkk g2 g3 htk hln
          cases sf with
          | true =>
            have HS := Aside0.mk hS
            clear hS
            go_wp2_with fail
            refine (HS.out _ (below_alloc (below_alloc (Below.refl _ _) _) _)).mono ?_
            rintro e V1 ⟨v, rfl, hrn, hb⟩
            have hgs : V1.heap[wr.heap.size + 1]? = some (.cells #[.int .i64 0, .int .i64 0, .slice none 0 0] 45 (0, 0)) := by
              refine (hb.block _ (by rw [World.size_alloc, World.size_alloc]; omega)).trans ?_
              have := blk_new (wr.alloc (.cells #[.int .i64 x.f0, .int .i64 x.f1, .slice A2 x.f2.length c2, .slice A3 x.f3.length c3, .bool x.f4] 29)) (.cells #[.int .i64 0, .int .i64 0, .slice none 0 0] 45)
              rwa [World.size_alloc] at this
            obtain ⟨r0, r1, r2⟩ := cells3 hgs
            have rf := fz36 hgs
            have hbb : Below wr.heap.size wr V1 := below_then (below_alloc (below_alloc (Below.refl _ _) _) _) (by rw [World.size_alloc, World.size_alloc]; omega) hb
            have HVB : Aside0 (Below W1.heap.size W1 V1) := ⟨below_then HBR.out HBR.out.size hbb⟩
            have HR1 := Aside0.mk (Kd.R_below HRL.out hbb)
            obtain ⟨inn, hown⟩ := Kd.R_own (Kd.R_below (Kd.R_below HR.out (below_alloc (Below.refl _ (wr)) (.cells #[.int .i64 x.f0, .int .i64 x.f1, .slice A2 x.f2.length c2, .slice A3 x.f3.length c3, .bool x.f4] 29))) (below_alloc (Below.refl _ _) (.cells #[.int .i64 0, .int .i64 0, .slice none 0 0] 45)))
            have hnew := Kd.R_new hrn hown
            obtain ⟨vA2, vc2, rfl⟩ := Kd.R_slice hrn
            have HNW := Aside0.mk hnew
            have hws : W1.heap.size ≤ wr.heap.size := HBR.out.size
            have hvs := HVB.out.size
            have hgl := blk_lt hgs
            clear hrn hb hgs hbb hown hnew h0 h1 h2 h3 h4
            generalize stepP x (allParts C) = sp at *
            have HPm := Aside0.mk (kS_mkM (x := sp) (Kd.R_lower (R_setlow (R_setlow (R_setlow HNW.out (by rw [World.size_alloc, World.size_alloc]; omega) (j := 0) (u := .int .i64 sp.1)) (by rw [World.size_alloc, World.size_alloc]; omega) (j := 1) (u := .int .i64 sp.2.1)) (by rw [World.size_alloc, World.size_alloc]; omega) (j := 2) (u := .slice vA2 sp.2.2.length vc2)) (by rw [World.size_alloc, World.size_alloc]; omega)) : (kS w).M (((V1.setCell ⟨wr.heap.size + 1, 0, none⟩ (.int .i64 sp.1)).setCell ⟨wr.heap.size + 1, 1, none⟩ (.int .i64 sp.2.1)).setCell ⟨wr.heap.size + 1, 2, none⟩ (.slice vA2 sp.2.2.length vc2)) W1.heap.size _ sp [.int .i64 sp.1, .int .i64 sp.2.1, .slice vA2 sp.2.2.length vc2])
            have HOU := Aside0.mk (Kd.R_mono (R_sethigh (R_sethigh (R_sethigh HR1.out (Nat.le_succ _) (j := 0) (u := .int .i64 sp.1)) (Nat.le_succ _) (j := 1) (u := .int .i64 sp.2.1)) (Nat.le_succ _) (j := 2) (u := .slice vA2 sp.2.2.length vc2)) (fun _ _ => trivial) : Kd.R (kS w) 45 (((V1.setCell ⟨wr.heap.size + 1, 0, none⟩ (.int .i64 sp.1)).setCell ⟨wr.heap.size + 1, 1, none⟩ (.int .i64 sp.2.1)).setCell ⟨wr.heap.size + 1, 2, none⟩ (.slice vA2 sp.2.2.length vc2)) W1.heap.size (fun _ => True) _ _)
            have HBU := Aside0.mk (set3 HVB.out (by omega) _ _ _ : Below W1.heap.size W1 (((V1.setCell ⟨wr.heap.size + 1, 0, none⟩ (.int .i64 sp.1)).setCell ⟨wr.heap.size + 1, 1, none⟩ (.int .i64 sp.2.1)).setCell ⟨wr.heap.size + 1, 2, none⟩ (.slice vA2 sp.2.2.length vc2)))
            have hus : (((V1.setCell ⟨wr.heap.size + 1, 0, none⟩ (.int .i64 sp.1)).setCell ⟨wr.heap.size + 1, 1, none⟩ (.int .i64 sp.2.1)).setCell ⟨wr.heap.size + 1, 2, none⟩ (.slice vA2 sp.2.2.length vc2)).heap.size = V1.heap.size := by rw [size_set, size_set, size_set]
            have HUS := Aside0.mk hus
            clear hus
            go_wp2_with (at_builtin; refine Kd.R_append (kS w) (w0 := W1) W1.heap.size ?a1 (.tmp 43) (.tmp 45) 40 45 (.agg #[(.int .i64 0), (.int .i64 0), (.slice none 0 0)]) 40 ?a2 Try.underlying40 info45 ?a3 ?a4 ?a5 _ (stepsP (T.take kk) C) sp [.int .i64 sp.1, .int .i64 sp.2.1, .slice vA2 sp.2.2.length vc2] (fun _ => True) _ ?a6 ?a7 HPm.out (fun k hk => hk) (fun _ _ => trivial) HOU.out HBU.out HBU.out.size ?aL ?_; (case a1 => rfl); (case a2 => rfl); (case a3 => rfl); (case a4 => show 0 < 3; omega); (case a5 => omega); (case a6 => rfl); (case a7 => rw [HUS.out]; rfl); (case aL => have := HLN.out; omega); intro v1 w1 ho hb1 hg1 hat1; obtain ⟨A1, c1, rfl⟩ := Kd.R_slice ho; have HO := Aside0.mk ho; have HB1 := Aside0.mk hb1; clear ho; clear hb1; clear hat1; clear hg1)
            go_roundg (T.length - (kk + 1))
            case measure => have := HX.out; have := HLT.out; omega
            case rel => exact ⟨kk + 1, _, HLT.out, by omega, rfl, by go_num, HB1, ⟨by rw [HTK.out, if_pos trivial]; have := HO.out; rw [List.length_append] at this; exact this⟩⟩
          | false =>
            clear hS
            have HPm : Aside0 ((kS w).M ((wr.alloc (.cells #[.int .i64 x.f0, .int .i64 x.f1, .slice A2 x.f2.length c2, .slice A3 x.f3.length c3, .bool x.f4] 29)).alloc (.cells #[.int .i64 0, .int .i64 0, .slice none 0 0] 45)) W1.heap.size (fun _ => False) ((0, 0, []) : Int × Int × List S36) [.int .i64 0, .int .i64 0, .slice none 0 0]) := ⟨kS_mkM (x := ((0, 0, []) : Int × Int × List S36)) (Kd.R_nil _ _ _ _ _)⟩
            have HOU := Aside0.mk (Kd.R_below (Kd.R_below HR.out (below_alloc (Below.refl _ wr) (.cells #[.int .i64 x.f0, .int .i64 x.f1, .slice A2 x.f2.length c2, .slice A3 x.f3.length c3, .bool x.f4] 29))) (below_alloc (Below.refl _ _) (.cells #[.int .i64 0, .int .i64 0, .slice none 0 0] 45)))
            have HBU := Aside0.mk (below_alloc (below_alloc HBR.out (.cells #[.int .i64 x.f0, .int .i64 x.f1, .slice A2 x.f2.length c2, .slice A3 x.f3.length c3, .bool x.f4] 29)) (.cells #[.int .i64 0, .int .i64 0, .slice none 0 0] 45))
            go_wp2_with (at_builtin; refine Kd.R_append (kS w) (w0 := W1) W1.heap.size ?a1 (.tmp 43) (.tmp 45) 40 45 (.agg #[(.int .i64 0), (.int .i64 0), (.slice none 0 0)]) 40 ?a2 Try.underlying40 info45 ?a3 ?a4 ?a5 _ (stepsP (T.take kk) C) ((0, 0, []) : Int × Int × List S36) [.int .i64 0, .int .i64 0, .slice none 0 0] (fun _ => True) _ ?a6 ?a7 HPm.out (fun k hk => hk.elim) (fun _ _ => trivial) HOU.out HBU.out HBU.out.size ?aL ?_; (case a1 => rfl); (case a2 => rfl); (case a3 => rfl); (case a4 => show 0 < 3; omega); (case a5 => omega); (case a6 => rfl); (case a7 => rw [World.size_alloc, World.size_alloc]; rfl); (case aL => have := HLN.out; omega); intro v1 w1 ho hb1 hg1 hat1; obtain ⟨A1, c1, rfl⟩ := Kd.R_slice ho; have HO := Aside0.mk ho; have HB1 := Aside0.mk hb1; clear ho; clear hb1; clear hat1; clear hg1)
            go_roundg (T.length - (kk + 1))
            case measure => have := HX.out; have := HLT.out; omega
            case rel => exact ⟨kk + 1, _, HLT.out, by omega, rfl, by go_num, HB1, ⟨by rw [HTK.out, if_neg (by decide)]; have := HO.out; rw [List.length_append] at this; exact this⟩⟩
        · have hltz2 : ¬ (kk : Int) < (T.length : Int) := by omega
          have hkl : kk = T.length := by omega
          subst hkl
          obtain ⟨rA, rc, rfl⟩ := Kd.R_slice HR.out
          rw [List.take_length] at *
          go_wp2
          go_ret
          exact ⟨_, rfl, Kd.R_lower HR.out HB.out.size, below_then HB.out HB.out.size HBR.out⟩
end Go.Proofs.Ytepjcgcobaaphaa.Pl
