import Derived.Test.YtepjcgcobaaphaaPl5
import Derived.Test.YtepjcgcobaaphaaPl6
namespace Go.Proofs.Ytepjcgcobaaphaa.Pl
set_option linter.unusedVariables false
set_option linter.unusedSimpArgs false
open Go.RowKit Go.Lib Go.Proofs.YtepjcgcobaaphaaW.PrintWords Go.Proofs.YtepjcgcobaaphaaW.PrintLast Go.Proofs.YtepjcgcobaaphaaW.PrintMore Go.Proofs.Ytepjcgcobaaphaa.PPa

/-! ### A table, its step -/
structure S29 where
  f0 : Int
  f1 : Int
  f2 : List Int
  f3 : List Int
  f4 : Bool
def z29 : S29 := ⟨0, 0, [], [], false⟩
def wrongP (n k : Int) : Bool := decide (k < 0) || decide (n ≤ k)
def refuse (T : S29) : Bool := !T.f4 || (T.f2.isEmpty || (T.f2.any (wrongP T.f1) || T.f3.any (wrongP T.f1)))
def keyNodes (L : List S36) (first : Int) (ks : List Int) : List S36 := ks.filterMap fun k => equalP L (first + k) first
def oneIndex (L : List S36) (first : Int) (k : Int) : Option (Int × S36) := (equalP L (first + k) first).map fun n => (k, n)
def stepP (T : S29) (L : List S36) : Int × Int × List S36 :=
  if refuse T = true then (0, 0, []) else
    if (keyNodes L T.f0 T.f2).length = T.f2.length then (1, 0, keyNodes L T.f0 T.f2) else
      match T.f3.findSome? (oneIndex L T.f0) with
      | some (k, n) => (2, k, [n])
      | none => (0, 0, [])
set_option maxHeartbeats 2000000 in
set_option maxRecDepth 100000 in
theorem step1_walk (B : Nat) (n k : Int) (w : World) (hc : w.cell? ⟨B, 1, none⟩ = some (.int .i64 n)) :
    Calls Try.prog 29 #[.int .i64 k, .pointer (some ⟨B, 0, none⟩)] w fun e w' => e = .returned (.bool (wrongP n k)) ∧ Below w.heap.size w w' := by
  unfold wrongP
  by_cases h : k < 0
  · have e1 : decide (k < 0) = true := decide_eq_true h
    rw [e1]
    go_enter Try.func29, Try.ntmps29
    go_wp2
    go_ret
    exact ⟨rfl, Below.refl _ _⟩
  · have e1 : decide (k < 0) = false := decide_eq_false h
    rw [e1]
    go_enter Try.func29, Try.ntmps29
    go_wp2
    go_ret
    exact ⟨rfl, Below.refl _ _⟩
theorem cells5 {w : World} {g : Nat} {t : TypeId} {v0 v1 v2 v3 v4 : Value} (h : w.heap[g]? = some (.cells #[v0, v1, v2, v3, v4] t (0, 0))) :
    w.cell? ⟨g, 0, none⟩ = some v0 ∧ w.cell? ⟨g, 1, none⟩ = some v1 ∧ w.cell? ⟨g, 2, none⟩ = some v2 ∧ w.cell? ⟨g, 3, none⟩ = some v3 ∧ w.cell? ⟨g, 4, none⟩ = some v4 :=
  ⟨(blk_cell h 0).trans rfl, (blk_cell h 1).trans rfl, (blk_cell h 2).trans rfl, (blk_cell h 3).trans rfl, (blk_cell h 4).trans rfl⟩
theorem cells3 {w : World} {g : Nat} {t : TypeId} {v0 v1 v2 : Value} (h : w.heap[g]? = some (.cells #[v0, v1, v2] t (0, 0))) :
    w.cell? ⟨g, 0, none⟩ = some v0 ∧ w.cell? ⟨g, 1, none⟩ = some v1 ∧ w.cell? ⟨g, 2, none⟩ = some v2 :=
  ⟨(blk_cell h 0).trans rfl, (blk_cell h 1).trans rfl, (blk_cell h 2).trans rfl⟩
theorem put3 {w : World} {g : Nat} {t : TypeId} {u0 u1 u2 : Value} (h : w.heap[g]? = some (.cells #[u0, u1, u2] t (0, 0))) (v0 v1 v2 : Value) :
    (((w.setCell ⟨g, 0, none⟩ v0).setCell ⟨g, 1, none⟩ v1).setCell ⟨g, 2, none⟩ v2).heap[g]? = some (.cells #[v0, v1, v2] t (0, 0)) := by
  have h0 := blk_put h 0 v0 (cs' := #[v0, u1, u2]) rfl
  have h1 := blk_put h0 1 v1 (cs' := #[v0, v1, u2]) rfl
  exact blk_put h1 2 v2 (cs' := #[v0, v1, v2]) rfl
theorem set3 {w0 w : World} {g : Nat} (h : Below w0.heap.size w0 w) (hg : w0.heap.size ≤ g) (v0 v1 v2 : Value) :
    Below w0.heap.size w0 (((w.setCell ⟨g, 0, none⟩ v0).setCell ⟨g, 1, none⟩ v1).setCell ⟨g, 2, none⟩ v2) :=
  below_set (below_set (below_set h hg) hg) hg
theorem keyNodes_take (L : List S36) (first : Int) (ks : List Int) (i : Nat) (h : i < ks.length) :
    keyNodes L first (ks.take (i + 1)) = keyNodes L first (ks.take i) ++ (equalP L (first + rd ks (i : Int)) first).toList := by
  unfold keyNodes
  have : ks.take (i + 1) = ks.take i ++ [rd ks (i : Int)] := by
    rw [List.take_succ_eq_append_getElem h]
    unfold rd
    rw [Int.toNat_natCast, List.getD_eq_getElem?_getD, List.getElem?_eq_getElem h]
    rfl
  rw [this, List.filterMap_append]
  cases h : equalP L (first + rd ks (i : Int)) first <;> simp [List.filterMap, h]
theorem oneIndex_take (L : List S36) (first : Int) (ks : List Int) (i : Nat) (h : i < ks.length) :
    (ks.take (i + 1)).findSome? (oneIndex L first) = ((ks.take i).findSome? (oneIndex L first)).or (oneIndex L first (rd ks (i : Int))) := by
  have : ks.take (i + 1) = ks.take i ++ [rd ks (i : Int)] := by
    rw [List.take_succ_eq_append_getElem h]
    unfold rd
    rw [Int.toNat_natCast, List.getD_eq_getElem?_getD, List.getElem?_eq_getElem h]
    rfl
  rw [this, List.findSome?_append]
  cases h : oneIndex L first (rd ks (i : Int)) <;> simp [List.findSome?, h]
theorem not_wrong {n : Int} {ks : List Int} (h : ks.any (wrongP n) = false) (i : Nat) (hi : i < ks.length) : 0 ≤ rd ks (i : Int) ∧ rd ks (i : Int) < n := by
  have := List.any_eq_false.1 h _ (rd_memI ks i hi)
  unfold wrongP at this
  simp at this
  omega
/-- The step's value: its nodes are read in w0. -/
abbrev VS (s : Int × Int × List S36) (A : Option Addr) (c : Nat) : Value := .agg #[.int .i64 s.1, .int .i64 s.2.1, .slice A s.2.2.length c]
theorem RN.set {w0 w : World} {base g j : Nat} {v u : Value} {xs : List S36} (h : RN w0 w base v xs) (hg : g < base) : RN w0 (w.setCell ⟨g, j, none⟩ u) base v xs :=
  Kd.R_mono (Kd.R_step (ok := fun k => base ≤ k) (Kd.R_mono (Kd.R_bound h) (fun k hk => hk.2.1)) (fun k hk _ => Below.heap_setCell w ⟨g, j, none⟩ u k (by show k ≠ g; omega))) (fun _ _ => trivial)
theorem RN.nodes {w0 w : World} {base : Nat} {v : Value} {xs : List S36} (h : RN w0 w base v xs) : ∃ A c, v = .slice A xs.length c ∧ xs.length ≤ c ∧ Kd.C (Kd.fixed k36 w0) w A xs.length xs := Kd.R_reads h
set_option maxHeartbeats 8000000 in
set_option maxRecDepth 100000 in
theorem step_walk (L : List S36) (A : Option Addr) (c : Nat) (w0 : World) (hLc : L.length ≤ c)
    (HEq : ∀ (slot first : Int) (w : World), Below w0.heap.size w0 w → Kd.C (Kd.fixed k36 w0) w A L.length L →
      Calls Try.prog 31 #[.slice A L.length c, .int .i64 slot, .int .i64 first] w fun e w' => ∃ (n : S36) (A' : Option Addr) (c' : Nat), e = .returned (.tuple #[V36 n A' c', .bool (equalP L slot first).isSome]) ∧ n = (equalP L slot first).getD z36 ∧ n.f5.length ≤ c' ∧ Kd.C k36 w0 A' n.f5.length n.f5 ∧ Below w.heap.size w w')
    (T : S29) (A2 : Option Addr) (c2 : Nat) (A3 : Option Addr) (c3 : Nat) (w : World) (hw0 : Below w0.heap.size w0 w) (hC : Kd.C (Kd.fixed k36 w0) w A L.length L)
    (h2 : Kd.C (Kd.int .i64) w0 A2 T.f2.length T.f2) (h3 : Kd.C (Kd.int .i64) w0 A3 T.f3.length T.f3) (l2 : T.f2.length ≤ 1000) (l3 : T.f3.length ≤ 1000) (hf0 : -10000 < T.f0 ∧ T.f0 < 10000) (hf1 : T.f1 < 10000) :
    Calls Try.prog 18 #[.agg #[.int .i64 T.f0, .int .i64 T.f1, .slice A2 T.f2.length c2, .slice A3 T.f3.length c3, .bool T.f4], .slice A L.length c] w fun e w' => ∃ v : Value, e = .returned (.agg #[.int .i64 (stepP T L).1, .int .i64 (stepP T L).2.1, v]) ∧ RN w0 w' w.heap.size v (stepP T L).2.2 ∧ Below w.heap.size w w' := by
  obtain ⟨f0, f1, ks, is, f4⟩ := T
  simp only at *
  have HE := Aside0.mk HEq
  have HW0 := Aside0.mk hw0
  have HC := Aside0.mk hC
  have H2 := Aside0.mk h2
  have H3 := Aside0.mk h3
  have HF := Aside0.mk (And.intro hf0 hf1)
  have hmf : ∀ (fn : Fn) (first cap : Array Value) (w : World), (Instr.makeFunc fn first cap).run Try.prog w = .ok (.func fn first cap) w := fun _ _ _ _ => rfl
  clear HEq hw0 hC h2 h3 hf0 hf1 hLc
  obtain ⟨s, hss⟩ : ∃ s, s = stepP ⟨f0, f1, ks, is, f4⟩ L := ⟨_, rfl⟩
  rw [← hss]
  have HS := Aside0.mk hss
  clear hss
  cases f4 with
  | false =>
    have HS0 : Aside0 (s = (0, 0, [])) := ⟨by rw [HS.out]; rfl⟩
    go_enter Try.func18, Try.ntmps18
    go_wp2_with (first | ((with_reducible refine gate_dst (N := 2) rfl ?_); refine box_event ?hg (N := 2) ?hd (cs := #[.int .i64 f0, .int .i64 f1, .slice A2 ks.length c2, .slice A3 is.length c3, .bool false]) (t := 29) ?hr ?_; (case hd => rfl); (case hg => rfl); (case hr => first | (go_simp; done) | (go_simp; rfl)); intro g0 hg0 w3 hbox hb; have HG0 := Aside0.mk hg0; have HBX := Aside0.mk hbox; have HB := Aside0.mk hb; clear hg0; clear hbox; clear hb) | ((with_reducible refine gate_dst (N := 4) rfl ?_); refine box_event ?hg (N := 4) ?hd (cs := #[.int .i64 0, .int .i64 0, .slice none 0 0]) (t := 45) ?hr ?_; (case hd => rfl); (case hg => rfl); (case hr => first | (go_simp; done) | (go_simp; rfl)); intro g1 hg1 w4 hbox hb; have HG1 := Aside0.mk hg1; have BT := Aside0.mk (blk_below HBX.out hb); have BG := Aside0.mk hbox; have HB4 := Aside0.mk (below_step HB.out hb); have GE0 : Aside0 (w.heap.size ≤ g0) := ⟨by rw [HG0.out]; exact Nat.le_refl _⟩; have GE1 : Aside0 (w.heap.size ≤ g1) := ⟨by rw [HG1.out]; exact HB.out.size⟩; obtain ⟨t0, t1, t2, t3, t4⟩ := cells5 BT.out; obtain ⟨r0, r1, r2⟩ := cells3 BG.out; have rf := fz36 BG.out; clear hg1; clear hbox; clear hb; clear HB; clear HBX))
    refine bodyPost_ret (results_cell_row rfl _ _ g1 45 #[.int .i64 0, .int .i64 0, .slice none 0 0] (0, 0) _ rfl (put3 BG.out _ _ _) Try.underlying45 rfl (by kernel_rfl)) rfl ?_
    exact ⟨.slice none 0 0, by rw [HS0.out], by rw [HS0.out]; exact Kd.R_nil _ _ _ _ _, set3 HB4.out GE1.out _ _ _⟩
  | true =>
    by_cases hk : ks = []
    · subst hk
      have HS0 : Aside0 (s = (0, 0, [])) := ⟨by rw [HS.out]; rfl⟩
      go_enter Try.func18, Try.ntmps18
      go_wp2_with (first | ((with_reducible refine gate_dst (N := 2) rfl ?_); refine box_event ?hg (N := 2) ?hd (cs := #[.int .i64 f0, .int .i64 f1, .slice A2 0 c2, .slice A3 is.length c3, .bool true]) (t := 29) ?hr ?_; (case hd => rfl); (case hg => rfl); (case hr => first | (go_simp; done) | (go_simp; rfl)); intro g0 hg0 w3 hbox hb; have HG0 := Aside0.mk hg0; have HBX := Aside0.mk hbox; have HB := Aside0.mk hb; clear hg0; clear hbox; clear hb) | ((with_reducible refine gate_dst (N := 4) rfl ?_); refine box_event ?hg (N := 4) ?hd (cs := #[.int .i64 0, .int .i64 0, .slice none 0 0]) (t := 45) ?hr ?_; (case hd => rfl); (case hg => rfl); (case hr => first | (go_simp; done) | (go_simp; rfl)); intro g1 hg1 w4 hbox hb; have HG1 := Aside0.mk hg1; have BT := Aside0.mk (blk_below HBX.out hb); have BG := Aside0.mk hbox; have HB4 := Aside0.mk (below_step HB.out hb); have GE0 : Aside0 (w.heap.size ≤ g0) := ⟨by rw [HG0.out]; exact Nat.le_refl _⟩; have GE1 : Aside0 (w.heap.size ≤ g1) := ⟨by rw [HG1.out]; exact HB.out.size⟩; obtain ⟨t0, t1, t2, t3, t4⟩ := cells5 BT.out; obtain ⟨r0, r1, r2⟩ := cells3 BG.out; have rf := fz36 BG.out; clear hg1; clear hbox; clear hb; clear HB; clear HBX))
      refine bodyPost_ret (results_cell_row rfl _ _ g1 45 #[.int .i64 0, .int .i64 0, .slice none 0 0] (0, 0) _ rfl (put3 BG.out _ _ _) Try.underlying45 rfl (by kernel_rfl)) rfl ?_
      exact ⟨.slice none 0 0, by rw [HS0.out], by rw [HS0.out]; exact Kd.R_nil _ _ _ _ _, set3 HB4.out GE1.out _ _ _⟩
    · have hk0 : ¬ ks.length = 0 := fun h => hk (List.length_eq_zero_iff.1 h)
      have hie : ks.isEmpty = false := by cases ks with | nil => exact absurd rfl hk | cons _ _ => rfl
      clear hk
      have hkz : ((ks.length : Int) == 0) = false := by simp; exact fun h => hk0 (by simp [h])
      have KA : Aside0 (∀ (V : World) (g : Nat), Below w.heap.size w V → V.cell? ⟨g, 1, none⟩ = some (.int .i64 f1) → Calls Try.prog 30 #[.slice A2 ks.length c2, FC 29 g] V fun e w' => e = .returned (.bool (ks.any (wrongP f1))) ∧ Below V.heap.size V w') :=
        ⟨fun V g hV hc => containsI29 g ks A2 c2 V (wrongP f1) (Kd.C_below H2.out (below_then HW0.out HW0.out.size hV)) (by omega) (fun k _ w' hb => step1_walk g f1 k w' (bcell hb hc))⟩
      have KB : Aside0 (∀ (V : World) (g : Nat), Below w.heap.size w V → V.cell? ⟨g, 1, none⟩ = some (.int .i64 f1) → Calls Try.prog 30 #[.slice A3 is.length c3, FC 29 g] V fun e w' => e = .returned (.bool (is.any (wrongP f1))) ∧ Below V.heap.size V w') :=
        ⟨fun V g hV hc => containsI29 g is A3 c3 V (wrongP f1) (Kd.C_below H3.out (below_then HW0.out HW0.out.size hV)) (by omega) (fun k _ w' hb => step1_walk g f1 k w' (bcell hb hc))⟩
      cases wa : ks.any (wrongP f1) with
      | true =>
        have HS0 : Aside0 (s = (0, 0, [])) := ⟨by rw [HS.out]; unfold stepP refuse; simp only [hie, wa]; rfl⟩
        rw [wa] at KA
        clear wa
        go_enter Try.func18, Try.ntmps18
        go_wp2_with (first | ((with_reducible refine gate_dst (N := 2) rfl ?_); refine box_event ?hg (N := 2) ?hd (cs := #[.int .i64 f0, .int .i64 f1, .slice A2 ks.length c2, .slice A3 is.length c3, .bool true]) (t := 29) ?hr ?_; (case hd => rfl); (case hg => rfl); (case hr => first | (go_simp; done) | (go_simp; rfl)); intro g0 hg0 w3 hbox hb; have HG0 := Aside0.mk hg0; have HBX := Aside0.mk hbox; have HB := Aside0.mk hb; clear hg0; clear hbox; clear hb) | ((with_reducible refine gate_dst (N := 4) rfl ?_); refine box_event ?hg (N := 4) ?hd (cs := #[.int .i64 0, .int .i64 0, .slice none 0 0]) (t := 45) ?hr ?_; (case hd => rfl); (case hg => rfl); (case hr => first | (go_simp; done) | (go_simp; rfl)); intro g1 hg1 w4 hbox hb; have HG1 := Aside0.mk hg1; have BT := Aside0.mk (blk_below HBX.out hb); have BG := Aside0.mk hbox; have HB4 := Aside0.mk (below_step HB.out hb); have GE0 : Aside0 (w.heap.size ≤ g0) := ⟨by rw [HG0.out]; exact Nat.le_refl _⟩; have GE1 : Aside0 (w.heap.size ≤ g1) := ⟨by rw [HG1.out]; exact HB.out.size⟩; obtain ⟨t0, t1, t2, t3, t4⟩ := cells5 BT.out; obtain ⟨r0, r1, r2⟩ := cells3 BG.out; have rf := fz36 BG.out; clear hg1; clear hbox; clear hb; clear HB; clear HBX))
        refine (KA.out _ _ HB4.out t1).mono ?_
        rintro e V1 ⟨rfl, hb⟩
        have bt := blk_below BT.out hb
        have bg := blk_below BG.out hb
        have hb4 := below_step HB4.out hb
        clear t0 t1 t2 t3 t4 r0 r1 r2 rf BT BG HB4 hb
        have BT := Aside0.mk bt
        have BG := Aside0.mk bg
        have HB4 := Aside0.mk hb4
        obtain ⟨t0, t1, t2, t3, t4⟩ := cells5 BT.out
        obtain ⟨r0, r1, r2⟩ := cells3 BG.out
        have rf := fz36 BG.out
        clear bt bg hb4
        go_wp2_with fail
        refine bodyPost_ret (results_cell_row rfl _ _ g1 45 #[.int .i64 0, .int .i64 0, .slice none 0 0] (0, 0) _ rfl (put3 BG.out _ _ _) Try.underlying45 rfl (by kernel_rfl)) rfl ?_
        exact ⟨.slice none 0 0, by rw [HS0.out], by rw [HS0.out]; exact Kd.R_nil _ _ _ _ _, set3 HB4.out GE1.out _ _ _⟩
      | false =>
        have HWA := Aside0.mk wa
        rw [wa] at KA
        clear wa
        cases wb : is.any (wrongP f1) with
        | true =>
          have HS0 : Aside0 (s = (0, 0, [])) := ⟨by rw [HS.out]; unfold stepP refuse; simp only [hie, HWA.out, wb]; rfl⟩
          rw [wb] at KB
          clear wb
          go_enter Try.func18, Try.ntmps18
          go_wp2_with (first | ((with_reducible refine gate_dst (N := 2) rfl ?_); refine box_event ?hg (N := 2) ?hd (cs := #[.int .i64 f0, .int .i64 f1, .slice A2 ks.length c2, .slice A3 is.length c3, .bool true]) (t := 29) ?hr ?_; (case hd => rfl); (case hg => rfl); (case hr => first | (go_simp; done) | (go_simp; rfl)); intro g0 hg0 w3 hbox hb; have HG0 := Aside0.mk hg0; have HBX := Aside0.mk hbox; have HB := Aside0.mk hb; clear hg0; clear hbox; clear hb) | ((with_reducible refine gate_dst (N := 4) rfl ?_); refine box_event ?hg (N := 4) ?hd (cs := #[.int .i64 0, .int .i64 0, .slice none 0 0]) (t := 45) ?hr ?_; (case hd => rfl); (case hg => rfl); (case hr => first | (go_simp; done) | (go_simp; rfl)); intro g1 hg1 w4 hbox hb; have HG1 := Aside0.mk hg1; have BT := Aside0.mk (blk_below HBX.out hb); have BG := Aside0.mk hbox; have HB4 := Aside0.mk (below_step HB.out hb); have GE0 : Aside0 (w.heap.size ≤ g0) := ⟨by rw [HG0.out]; exact Nat.le_refl _⟩; have GE1 : Aside0 (w.heap.size ≤ g1) := ⟨by rw [HG1.out]; exact HB.out.size⟩; obtain ⟨t0, t1, t2, t3, t4⟩ := cells5 BT.out; obtain ⟨r0, r1, r2⟩ := cells3 BG.out; have rf := fz36 BG.out; clear hg1; clear hbox; clear hb; clear HB; clear HBX))
          refine (KA.out _ _ HB4.out t1).mono ?_
          rintro e V1 ⟨rfl, hb⟩
          have bt := blk_below BT.out hb
          have bg := blk_below BG.out hb
          have hb4 := below_step HB4.out hb
          clear t0 t1 t2 t3 t4 r0 r1 r2 rf BT BG HB4 hb
          have BT := Aside0.mk bt
          have BG := Aside0.mk bg
          have HB4 := Aside0.mk hb4
          obtain ⟨t0, t1, t2, t3, t4⟩ := cells5 BT.out
          obtain ⟨r0, r1, r2⟩ := cells3 BG.out
          have rf := fz36 BG.out
          clear bt bg hb4
          go_wp2_with fail
          refine (KB.out _ _ HB4.out t1).mono ?_
          rintro e V2 ⟨rfl, hb⟩
          have bt := blk_below BT.out hb
          have bg := blk_below BG.out hb
          have hb4 := below_step HB4.out hb
          clear t0 t1 t2 t3 t4 r0 r1 r2 rf BT BG HB4 hb
          have BT := Aside0.mk bt
          have BG := Aside0.mk bg
          have HB4 := Aside0.mk hb4
          obtain ⟨t0, t1, t2, t3, t4⟩ := cells5 BT.out
          obtain ⟨r0, r1, r2⟩ := cells3 BG.out
          have rf := fz36 BG.out
          clear bt bg hb4
          go_wp2_with fail
          refine bodyPost_ret (results_cell_row rfl _ _ g1 45 #[.int .i64 0, .int .i64 0, .slice none 0 0] (0, 0) _ rfl (put3 BG.out _ _ _) Try.underlying45 rfl (by kernel_rfl)) rfl ?_
          exact ⟨.slice none 0 0, by rw [HS0.out], by rw [HS0.out]; exact Kd.R_nil _ _ _ _ _, set3 HB4.out GE1.out _ _ _⟩
        | false =>
          have HWB := Aside0.mk wb
          have HWA2 := HWA
          have hsm : s = if (keyNodes L f0 ks).length = ks.length then ((1 : Int), (0 : Int), keyNodes L f0 ks) else match is.findSome? (oneIndex L f0) with | some (k, n) => ((2 : Int), k, [n]) | none => ((0 : Int), (0 : Int), []) := by
            rw [HS.out]; unfold stepP refuse; simp only [hie, HWA.out, wb]; rfl
          rw [wb] at KB
          have HSM := Aside0.mk hsm
          clear wb hsm HS
          go_enter Try.func18, Try.ntmps18
          go_wp2_with (first | ((with_reducible refine gate_dst (N := 2) rfl ?_); refine box_event ?hg (N := 2) ?hd (cs := #[.int .i64 f0, .int .i64 f1, .slice A2 ks.length c2, .slice A3 is.length c3, .bool true]) (t := 29) ?hr ?_; (case hd => rfl); (case hg => rfl); (case hr => first | (go_simp; done) | (go_simp; rfl)); intro g0 hg0 w3 hbox hb; have HG0 := Aside0.mk hg0; have HBX := Aside0.mk hbox; have HB := Aside0.mk hb; clear hg0; clear hbox; clear hb) | ((with_reducible refine gate_dst (N := 4) rfl ?_); refine box_event ?hg (N := 4) ?hd (cs := #[.int .i64 0, .int .i64 0, .slice none 0 0]) (t := 45) ?hr ?_; (case hd => rfl); (case hg => rfl); (case hr => first | (go_simp; done) | (go_simp; rfl)); intro g1 hg1 w4 hbox hb; have HG1 := Aside0.mk hg1; have BT := Aside0.mk (blk_below HBX.out hb); have BG := Aside0.mk hbox; have HB4 := Aside0.mk (below_step HB.out hb); have GE0 : Aside0 (w.heap.size ≤ g0) := ⟨by rw [HG0.out]; exact Nat.le_refl _⟩; have GE1 : Aside0 (w.heap.size ≤ g1) := ⟨by rw [HG1.out]; exact HB.out.size⟩; obtain ⟨t0, t1, t2, t3, t4⟩ := cells5 BT.out; obtain ⟨r0, r1, r2⟩ := cells3 BG.out; have rf := fz36 BG.out; clear hg1; clear hbox; clear hb; clear HB; clear HBX))
          refine (KA.out _ _ HB4.out t1).mono ?_
          rintro e V1 ⟨rfl, hb⟩
          have bt := blk_below BT.out hb
          have bg := blk_below BG.out hb
          have hb4 := below_step HB4.out hb
          clear t0 t1 t2 t3 t4 r0 r1 r2 rf BT BG HB4 hb
          have BT := Aside0.mk bt
          have BG := Aside0.mk bg
          have HB4 := Aside0.mk hb4
          obtain ⟨t0, t1, t2, t3, t4⟩ := cells5 BT.out
          obtain ⟨r0, r1, r2⟩ := cells3 BG.out
          have rf := fz36 BG.out
          clear bt bg hb4
          go_wp2_with fail
          refine (KB.out _ _ HB4.out t1).mono ?_
          rintro e V2 ⟨rfl, hb⟩
          have bt := blk_below BT.out hb
          have bg := blk_below BG.out hb
          have hb4 := below_step HB4.out hb
          clear t0 t1 t2 t3 t4 r0 r1 r2 rf BT BG HB4 hb
          have BT := Aside0.mk bt
          have BG := Aside0.mk bg
          have HB4 := Aside0.mk hb4
          obtain ⟨t0, t1, t2, t3, t4⟩ := cells5 BT.out
          obtain ⟨r0, r1, r2⟩ := cells3 BG.out
          have rf := fz36 BG.out
          clear bt bg hb4
          go_wp2_with fail
          have HBV : Aside0 (w.heap.size ≤ V2.heap.size ∧ g0 < V2.heap.size ∧ g1 < V2.heap.size) := ⟨⟨HB4.out.size, blk_lt BT.out, blk_lt BG.out⟩⟩
          clear r0 r1 r2 rf t4 KA KB HWA
          go_loopg [6, 41] ks.length (fun gg s6 s41 wr => ∃ (kk : Nat) (vv : Value), kk ≤ ks.length ∧ ks.length - kk ≤ gg ∧ s6 = vv ∧ s41 = .int .i64 kk ∧ Aside0 (Below V2.heap.size V2 wr) ∧ Aside0 (RN w0 wr V2.heap.size vv (keyNodes L f0 (ks.take kk))))
          case atStart => exact ⟨0, .slice none 0 0, Nat.zero_le _, by omega, rfl, rfl, ⟨Below.refl _ _⟩, ⟨Kd.R_nil _ _ _ _ _⟩⟩
          case round =>
            clear t0 t1 t2 t3
            obtain ⟨kk, vv, hkk, hg, rfl, rfl, HBR, HR⟩ := hrel
            have hbt := (HBR.out.block _ HBV.out.2.1).trans BT.out
            obtain ⟨t0, t1, t2, t3, t4⟩ := cells5 hbt
            have HBT := Aside0.mk hbt
            have HBW : Aside0 (Below w.heap.size w wr) := ⟨below_then HB4.out HB4.out.size HBR.out⟩
            clear hbt
            by_cases hlt : kk < ks.length
            · have hltz : (kk : Int) < (ks.length : Int) := by omega
              obtain ⟨ad, hA, h0⟩ := Kd.at_int (Kd.C_below H2.out (below_then HW0.out HW0.out.size HBW.out)) (kk : Int) (by omega) hltz
              rw [Int.toNat_natCast] at h0
              subst hA
              have hnw := not_wrong HWA2.out kk hlt
              have hnt := keyNodes_take L f0 ks kk hlt
              have hcall := fun (V : World) (hV : Below wr.heap.size wr V) => HE.out (f0 + rd ks kk) f0 V (below_then HW0.out HW0.out.size (below_then HBW.out HBW.out.size hV)) (Kd.C_below HC.out (below_then HBW.out HBW.out.size hV))
              obtain ⟨k, hkk2⟩ : ∃ k, k = rd ks kk := ⟨_, rfl⟩
              rw [← hkk2] at h0 hnw hnt hcall
              clear hkk2
              have hw1 : -9223372036854775808 ≤ f0 + k := by have := HF.out; omega
              have hw2 : f0 + k ≤ 9223372036854775807 := by have := HF.out; omega
              have HX := Aside0.mk hg
              have HLT := Aside0.mk hlt
              have HNT := Aside0.mk hnt
              have hlen : (keyNodes L f0 (ks.take kk)).length ≤ 1000 := by
                unfold keyNodes
                exact Nat.le_trans (List.length_filterMap_le _ _) (by rw [List.length_take]; omega)
              have HLN := Aside0.mk hlen
              have HVB := Aside0.mk HBR.out.size
              clear hlt hg hkk hnt hnw hlen
              cases hq : equalP L (f0 + k) f0 with
              | none =>
                rw [hq] at hcall HNT
                have HCL := Aside0.mk hcall
                clear hcall hq
                go_wp2_with fail
                refine (HCL.out _ (Below.refl _ _)).mono ?_
                rintro e V3 ⟨n, A', c', rfl, hn, hln, hCn, hb⟩
                have HB3 := Aside0.mk (HBR.out.trans (hb.mono HVB.out))
                have HR3 := Aside0.mk (Kd.R_below HR.out hb)
                clear hb hn hln hCn
                go_wp2_with fail
                go_roundg (ks.length - (kk + 1))
                case measure => have := HX.out; have := HLT.out; omega
                case rel => exact ⟨kk + 1, _, HLT.out, by omega, rfl, by go_num, ⟨HB3.out.alloc HB3.out.size _⟩, ⟨by rw [HNT.out, show (none : Option S36).toList = [] from rfl, List.append_nil]; exact Kd.R_below HR3.out (below_alloc (Below.refl _ _) _)⟩⟩
              | some m =>
                rw [hq] at hcall HNT
                have HCL := Aside0.mk hcall
                clear hcall hq
                go_wp2_with fail
                refine (HCL.out _ (Below.refl _ _)).mono ?_
                rintro e V3 ⟨n, A', c', rfl, hn, hln, hCn, hb⟩
                replace hn : n = m := hn
                subst hn
                have HKm := Aside0.mk (k36_mk w0 n hln hCn)
                have HB3 := Aside0.mk (HBR.out.trans (hb.mono HVB.out))
                have HR3 := Aside0.mk (Kd.R_below HR.out hb)
                have hsz := HB3.out.size
                clear hb hln hCn
                go_wp2_with (at_builtin; refine Kd.R_append (Kd.fixed k36 w0) (w0 := V2) V2.heap.size ?a1 (.tmp 57) (.tmp 59) 23 36 (.agg #[(.int .i64 0), (.string ⟨#[]⟩), (.int .u8 0), (.int .i64 0), (.string ⟨#[]⟩), (.int .i64 0), (.int .u8 0), (.slice none 0 0)]) 96 ?a2 Try.underlying23 info36 ?a3 ?a4 ?a5 _ (keyNodes L f0 (ks.take kk)) n [.int .i64 n.f0, .string n.f1, .int .u8 n.f2.f0, .int .i64 n.f2.f1, .string n.f2.f2, .int .i64 n.f3, .int .u8 n.f4, .slice A' n.f5.length c'] (fun _ => True) (fun _ => False) ?a6 ?a7 ?aP (fun _ hk => hk.elim) (fun _ _ => trivial) (Kd.R_below HR3.out (below_alloc (Below.refl _ _) _)) ?aB ?aS ?aL ?_; (case a1 => rfl); (case a2 => rfl); (case a3 => rfl); (case a4 => show 0 < 8; omega); (case a5 => omega); (case a6 => rfl); (case a7 => show Value.slice (some ⟨V3.heap.size + 1, 0, none⟩) 1 1 = _; rw [World.size_alloc]); (case aP => exact HKm.out); (case aB => exact HB3.out.alloc hsz _); (case aS => rw [World.size_alloc]; omega); (case aL => have := HLN.out; omega); intro v1 w1 ho hb1 hg1 hat1; obtain ⟨A1, c1, rfl⟩ := Kd.R_slice ho; have HO := Aside0.mk ho; have HB1 := Aside0.mk hb1; clear ho; clear hb1; clear hat1; clear hg1)
                go_roundg (ks.length - (kk + 1))
                case measure => have := HX.out; have := HLT.out; omega
                case rel => exact ⟨kk + 1, _, HLT.out, by omega, rfl, by go_num, HB1, ⟨by rw [HNT.out]; have := HO.out; rw [List.length_append] at this; exact this⟩⟩
            · have hltz : ¬ (kk : Int) < (ks.length : Int) := by omega
              have hkl : kk = ks.length := by omega
              subst hkl
              obtain ⟨vA, vc, rfl, hvl, hvC⟩ := RN.nodes HR.out
              rw [List.take_length] at *
              have hbg := (HBR.out.block _ HBV.out.2.2).trans BG.out
              obtain ⟨r0, r1, r2⟩ := cells3 hbg
              have rf := fz36 hbg
              have HBG := Aside0.mk hbg
              have HVC := Aside0.mk (And.intro hvl hvC)
              clear hbg hvl hvC
              by_cases hall : (keyNodes L f0 ks).length = ks.length
              · have hz : (((keyNodes L f0 ks).length : Int) == (ks.length : Int)) = true := by rw [hall]; exact beq_self_eq_true _
                have HS1 : Aside0 (s = (1, 0, keyNodes L f0 ks)) := ⟨by rw [HSM.out, if_pos hall]⟩
                have HALL := Aside0.mk hall
                clear hall
                go_wp2
                refine bodyPost_ret (results_cell_row rfl _ _ g1 45 #[.int .i64 1, .int .i64 0, .slice vA (keyNodes L f0 ks).length vc] (0, 0) _ rfl (put3 HBG.out _ _ _) Try.underlying45 rfl (by kernel_rfl)) rfl ?_
                have hR3 := RN.set (RN.set (RN.set HR.out HBV.out.2.2 (j := 0) (u := .int .i64 1)) HBV.out.2.2 (j := 1) (u := .int .i64 0)) HBV.out.2.2 (j := 2) (u := .slice vA (keyNodes L f0 ks).length vc)
                exact ⟨_, by rw [HS1.out], by rw [HS1.out]; exact Kd.R_lower hR3 HBV.out.1, set3 HBW.out GE1.out _ _ _⟩
              · have hz : (((keyNodes L f0 ks).length : Int) == (ks.length : Int)) = false := by rw [beq_eq_false_iff_ne]; intro h; exact hall (by omega)
                have HS1 : Aside0 (s = match is.findSome? (oneIndex L f0) with | some (k, n) => ((2 : Int), k, [n]) | none => ((0 : Int), (0 : Int), [])) := ⟨by rw [HSM.out, if_neg hall]⟩
                have HBW2 := HBW
                clear HSM hall HVC HR HWA2
                go_wp2
                go_loopg [73] is.length (fun gg s73 wx => ∃ kk : Nat, kk ≤ is.length ∧ is.length - kk ≤ gg ∧ s73 = .int .i64 kk ∧ Aside0 (Below wr.heap.size wr wx) ∧ Aside0 ((is.take kk).findSome? (oneIndex L f0) = none))
                case atStart => exact ⟨0, Nat.zero_le _, by omega, rfl, ⟨Below.refl _ _⟩, ⟨rfl⟩⟩
                case round =>
                  clear t0 t1 t2 t3 t4 r0 r1 r2 rf hz
                  obtain ⟨kk, hkk, hg, rfl, HBX2, HA⟩ := hrel
                  have hbt := (HBX2.out.block _ (blk_lt HBT.out)).trans HBT.out
                  obtain ⟨t0, t1, t2, t3, t4⟩ := cells5 hbt
                  have hbg := (HBX2.out.block _ (blk_lt HBG.out)).trans HBG.out
                  have HBG2 := Aside0.mk hbg
                  have HBW3 : Aside0 (Below w.heap.size w wr) := ⟨below_then HBW2.out HBW2.out.size HBX2.out⟩
                  clear hbt hbg
                  by_cases hlt : kk < is.length
                  · have hltz2 : (kk : Int) < (is.length : Int) := by omega
                    obtain ⟨ad3, hA3, h03⟩ := Kd.at_int (Kd.C_below H3.out (below_then HW0.out HW0.out.size HBW3.out)) (kk : Int) (by omega) hltz2
                    rw [Int.toNat_natCast] at h03
                    subst hA3
                    have hnw := not_wrong HWB.out kk hlt
                    have hnt := oneIndex_take L f0 is kk hlt
                    have hcall := fun (V : World) (hV : Below wr.heap.size wr V) => HE.out (f0 + rd is kk) f0 V (below_then HW0.out HW0.out.size (below_then HBW3.out HBW3.out.size hV)) (Kd.C_below HC.out (below_then HBW3.out HBW3.out.size hV))
                    have hone : oneIndex L f0 (rd is kk) = (equalP L (f0 + rd is kk) f0).map fun n => (rd is kk, n) := rfl
                    obtain ⟨k, hkk2⟩ : ∃ k, k = rd is kk := ⟨_, rfl⟩
                    rw [← hkk2] at h03 hnw hnt hcall hone
                    clear hkk2
                    have hw1 : -9223372036854775808 ≤ f0 + k := by have := HF.out; omega
                    have hw2 : f0 + k ≤ 9223372036854775807 := by have := HF.out; omega
                    have HX := Aside0.mk hg
                    have HLT := Aside0.mk hlt
                    clear hlt hg hkk hnw
                    cases hq : equalP L (f0 + k) f0 with
                    | none =>
                      rw [hq] at hcall hone
                      rw [hone, HA.out] at hnt
                      have HNT := Aside0.mk hnt
                      have HCL := Aside0.mk hcall
                      clear hcall hq hone hnt
                      go_wp2_with fail
                      refine (HCL.out _ (Below.refl _ _)).mono ?_
                      rintro e V3 ⟨n, A', c', rfl, hn, hln, hCn, hb⟩
                      have HB3 := Aside0.mk (below_step HBX2.out hb)
                      clear hb hn hln hCn
                      go_wp2_with fail
                      go_roundg (is.length - (kk + 1))
                      case measure => have := HX.out; have := HLT.out; omega
                      case rel => exact ⟨kk + 1, HLT.out, by omega, by go_num, ⟨below_alloc HB3.out _⟩, ⟨by rw [HNT.out]; rfl⟩⟩
                    | some m =>
                      rw [hq] at hcall hone
                      rw [hone, HA.out] at hnt
                      have HNT := Aside0.mk hnt
                      have HCL := Aside0.mk hcall
                      clear hcall hq hone hnt
                      go_wp2_with fail
                      refine (HCL.out _ (Below.refl _ _)).mono ?_
                      rintro e V3 ⟨n, A', c', rfl, hn, hln, hCn, hb⟩
                      replace hn : n = m := hn
                      subst hn
                      have HKm := Aside0.mk (k36_mk w0 n hln hCn)
                      have HB3 := Aside0.mk (below_step HBW3.out hb)
                      have hbg := blk_below HBG2.out hb
                      obtain ⟨r0, r1, r2⟩ := cells3 hbg
                      have rf := fz36 hbg
                      have hgl := blk_lt hbg
                      have hgl1 : g1 < V3.heap.size + 1 := by omega
                      have hgl2 : g1 < V3.heap.size + 1 + 1 := by omega
                      have HBG3 := Aside0.mk hbg
                      clear hb hln hCn hbg
                      go_wp2_with fail
                      have heq : is.findSome? (oneIndex L f0) = some (k, n) := by
                        rw [← List.take_append_drop (kk + 1) is, List.findSome?_append, HNT.out]; rfl
                      have HS2 : s = (2, k, [n]) := by rw [HS1.out, heq]
                      have hus : ((((V3.setCell ⟨g1, 0, none⟩ (.int .i64 2)).setCell ⟨g1, 1, none⟩ (.int .i64 k)).setCell ⟨g1, 2, none⟩ (.slice (some ⟨V3.heap.size + 1, 0, none⟩) 1 1)).alloc (.cells #[.int .i64 n.f0, .string n.f1, .int .u8 n.f2.f0, .int .i64 n.f2.f1, .string n.f2.f2, .int .i64 n.f3, .int .u8 n.f4, .slice A' n.f5.length c'] 36)).heap.size = V3.heap.size + 1 := by
                        rw [World.size_alloc]; simp [World.setCell]
                      have hlr := lit_R (w0 := w0) (W := ((((V3.setCell ⟨g1, 0, none⟩ (.int .i64 2)).setCell ⟨g1, 1, none⟩ (.int .i64 k)).setCell ⟨g1, 2, none⟩ (.slice (some ⟨V3.heap.size + 1, 0, none⟩) 1 1)).alloc (.cells #[.int .i64 n.f0, .string n.f1, .int .u8 n.f2.f0, .int .i64 n.f2.f1, .string n.f2.f2, .int .i64 n.f3, .int .u8 n.f4, .slice A' n.f5.length c'] 36))) (cs := #[.int .i64 n.f0, .string n.f1, .int .u8 n.f2.f0, .int .i64 n.f2.f1, .string n.f2.f2, .int .i64 n.f3, .int .u8 n.f4, .slice A' n.f5.length c']) HKm.out rfl w.heap.size (by rw [hus]; have := HB3.out.size; omega)
                      rw [hus] at hlr
                      refine bodyPost_ret (results_cell_row rfl _ _ g1 45 #[.int .i64 2, .int .i64 k, .slice (some ⟨V3.heap.size + 1, 0, none⟩) 1 1] (0, 0) _ rfl (blk_alloc (blk_alloc (put3 HBG3.out _ _ _) _) _) Try.underlying45 rfl (by kernel_rfl)) rfl ?_
                      exact ⟨_, by rw [HS2], by rw [HS2]; exact hlr, below_alloc (below_alloc (set3 HB3.out GE1.out _ _ _) _) _⟩
                  · have hltz2 : ¬ (kk : Int) < (is.length : Int) := by omega
                    have hkl : kk = is.length := by omega
                    subst hkl
                    have heq : is.findSome? (oneIndex L f0) = none := by have := HA.out; rwa [List.take_length] at this
                    have HS2 : Aside0 (s = (0, 0, [])) := ⟨by rw [HS1.out, heq]⟩
                    obtain ⟨r0, r1, r2⟩ := cells3 HBG2.out
                    have rf := fz36 HBG2.out
                    clear heq
                    go_wp2
                    refine bodyPost_ret (results_cell_row rfl _ _ g1 45 #[.int .i64 0, .int .i64 0, .slice none 0 0] (0, 0) _ rfl (put3 HBG2.out _ _ _) Try.underlying45 rfl (by kernel_rfl)) rfl ?_
                    exact ⟨.slice none 0 0, by rw [HS2.out], by rw [HS2.out]; exact Kd.R_nil _ _ _ _ _, set3 HBW3.out GE1.out _ _ _⟩
end Go.Proofs.Ytepjcgcobaaphaa.Pl
