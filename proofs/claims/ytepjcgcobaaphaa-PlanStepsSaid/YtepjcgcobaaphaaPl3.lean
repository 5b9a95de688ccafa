import Derived.Test.YtepjcgcobaaphaaPl2
import Derived.Lib.OwnBridge
import Derived.Lib.SlicesCompact
import Derived.Sort.OwnSortedInts
namespace Go.Proofs.Ytepjcgcobaaphaa.Pl
set_option linter.unusedVariables false
set_option linter.unusedSimpArgs false
open Go.RowKit Go.Lib Go.Sort Go.Proofs.YtepjcgcobaaphaaW.PrintWords Go.Proofs.YtepjcgcobaaphaaW.PrintLast Go.Proofs.YtepjcgcobaaphaaW.PrintMore Go.Proofs.Ytepjcgcobaaphaa.PPa

theorem compact_sub (zs : List Int) : ∀ s ∈ compact zs, s ∈ zs := by
  intro s hs
  unfold compact compactUpTo at hs
  obtain ⟨j, hj, rfl⟩ := List.mem_map.1 hs
  have hj' := List.mem_range.1 (List.mem_filter.1 hj).1
  rw [show zs.toArray[j]! = zs[j] by simp [getElem!_pos, hj']]
  exact List.getElem_mem hj'
theorem compact_at (zs : List Int) : ∀ j, (h : j < zs.length) → zs[j] ∈ compact zs := by
  intro j
  induction j with
  | zero =>
    intro h
    unfold compact compactUpTo
    refine List.mem_map.2 ⟨0, List.mem_filter.2 ⟨List.mem_range.2 h, by simp [keeps]⟩, by simp [getElem!_pos, h]⟩
  | succ j ih =>
    intro h
    by_cases e : zs[j + 1] = zs[j]
    · rw [e]; exact ih (by omega)
    · unfold compact compactUpTo
      refine List.mem_map.2 ⟨j + 1, List.mem_filter.2 ⟨List.mem_range.2 h, ?_⟩, by simp [getElem!_pos, h]⟩
      apply keeps_pos
      simpa [getElem!_pos, h, show j < zs.length by omega] using e
theorem compact_mem (zs : List Int) (s : Int) : s ∈ compact zs ↔ s ∈ zs :=
  ⟨compact_sub zs s, fun h => by obtain ⟨j, hj, rfl⟩ := List.getElem_of_mem h; exact compact_at zs j hj⟩
theorem Box.split {N : Nat} {w : World} {v : Value} {l : List Int} (h : Box N w v l) :
    (v = .slice none 0 0 ∧ l = []) ∨ ∃ g cap, v = .slice (some ⟨g, 0, none⟩) l.length cap ∧ N < g ∧ g < w.heap.size ∧ l.length ≤ cap ∧ Holds (Value.int .i64) w g 0 l.toArray := by
  have ho := Kd.own_of_R h.2
  by_cases hv : v = .slice none 0 0
  · refine .inl ⟨hv, ?_⟩
    rcases ho.2 with ⟨_, h0⟩ | ⟨g, cap, cur, he, _⟩
    · have := ho.1
      rw [h0] at this
      simp only [encs, List.length_map] at this
      exact List.length_eq_zero_iff.1 (by omega)
    · rw [hv] at he; cases he
  · obtain ⟨g, cap, e, hb, hlt, hn, hm, _, hH⟩ := holds_of_ownsRow (enc := Value.int .i64) ho hv
    exact .inr ⟨g, cap, e, by omega, hlt, hn, hH⟩
def sortL (l : List Int) : List Int := l.mergeSort fun x y => decide (x ≤ y)
theorem sortL_len (l : List Int) : (sortL l).length = l.length := by unfold sortL; exact List.length_mergeSort ..
theorem sortL_mem (l : List Int) (s : Int) : s ∈ sortL l ↔ s ∈ l := by unfold sortL; exact List.mem_mergeSort
/-- What is asked of the library's sort (its contract is laid in another text). -/
def SortC : Prop := ∀ (blk off cap : Nat) (zs : List Int) (w : World), Holds (Value.int .i64) w blk off zs.toArray → blk < w.heap.size → zs.length < 4611686018427387904 →
    Calls Try.prog 25 #[.slice (some ⟨blk, off, none⟩) zs.length cap] w fun e w' =>
      e = .returned (.tuple #[]) ∧ ∃ n os, w' = grow (putRow (Value.int .i64) (Sort.ahead w n) blk off (zs.mergeSort fun x y => decide (x ≤ y)).toArray) os
def SortN : Prop := ∀ (p : Option Addr) (cap : Nat) (w : World), Calls Try.prog 25 #[.slice p 0 cap] w fun e w' => e = .returned (.tuple #[]) ∧ w' = w
def CompactC : Prop := ∀ (blk off cap : Nat) (zs : List Int) (w : World), Holds (Value.int .i64) w blk off zs.toArray → zs.length ≤ 9223372036854775807 → zs.length ≤ cap →
    Calls Try.prog 26 #[.slice (some ⟨blk, off, none⟩) zs.length cap] w fun e w' => e = .returned (.slice (some ⟨blk, off, none⟩) (Lib.compact zs).length cap) ∧ ∃ q, w' = putRow (Value.int .i64) (Sort.ahead w q) blk off (Lib.compact zs ++ List.replicate (zs.length - (Lib.compact zs).length) 0).toArray
def CompactN : Prop := ∀ (a : Option Addr) (cap : Nat) (w : World), Calls Try.prog 26 #[.slice a 0 cap] w fun e w' => e = .returned (.slice a 0 cap) ∧ w' = w
/-- slices.Sort at the gathered row. -/
theorem sort_at (S : SortC) {N g cap : Nat} {w : World} {l : List Int} (h : Box N w (.slice (some ⟨g, 0, none⟩) l.length cap) l) (hg : N < g) (hlt : g < w.heap.size) (hH : Holds (Value.int .i64) w g 0 l.toArray) (hl : l.length ≤ 1000000000000) :
    Calls Try.prog 25 #[.slice (some ⟨g, 0, none⟩) l.length cap] w fun e w' => e = .returned (.tuple #[]) ∧ w'.heap[N]? = some (.cells #[.slice (some ⟨g, 0, none⟩) l.length cap] 27 (0, 0)) ∧ g < w'.heap.size ∧ Below N w w' ∧ Holds (Value.int .i64) w' g 0 (sortL l).toArray := by
  refine (S g 0 cap l w hH hlt (by omega)).mono ?_
  rintro e w' ⟨rfl, n, os, rfl⟩
  have hgb := grownBy_sortedI (w := w) (g := g) (n := n) (os := os) (sortL l).toArray
  have hb : Below N w (grow (putRow (Value.int .i64) (Sort.ahead w n) g 0 (sortL l).toArray) os) := (Below.refl N w).grown hgb (Nat.le_of_lt h.lt) (fun k hk => by injection hk with hk; omega)
  refine ⟨rfl, ?_, Nat.lt_of_lt_of_le hlt hb.size, hb, ?_⟩
  · refine (hgb.block N h.lt ?_).trans h.1
    intro e; injection e with e; omega
  · exact holds_grow _ _ _ _ _ _ (by simpa [Sort.ahead] using hlt) (holds_putRow _ _ _ _ l.toArray _ (holds_ahead _ _ _ _ _ _ hH) (by simp [sortL_len]))
theorem compact_at_row (S : CompactC) {N g cap : Nat} {w : World} {l : List Int} (hg : N ≤ g) (hH : Holds (Value.int .i64) w g 0 l.toArray) (hl : l.length ≤ 1000000000000) (hc : l.length ≤ cap) :
    Calls Try.prog 26 #[.slice (some ⟨g, 0, none⟩) l.length cap] w fun e w' => e = .returned (.slice (some ⟨g, 0, none⟩) (compact l).length cap) ∧ Below N w w' ∧ Kd.C (Kd.int .i64) w' (some ⟨g, 0, none⟩) (compact l).length (compact l) := by
  refine (S g 0 cap l w hH (by omega) hc).mono ?_
  rintro e w' ⟨rfl, q, rfl⟩
  have hcl := compact_length_le l
  refine ⟨rfl, below_putRow (Below.refl N w) hg, ?_⟩
  have hH2 := holds_putRow (Value.int .i64) (Sort.ahead w q) g 0 l.toArray (compact l ++ List.replicate (l.length - (compact l).length) 0).toArray (holds_ahead _ _ _ _ _ _ hH) (by simp; omega)
  refine Kd.C_of_reads (d := (0 : Int)) (h1 := fun _ => rfl) ⟨rfl, by omega, fun hn => ⟨_, rfl, fun j hj => ?_⟩⟩
  have h2 := (hH2 j (by simp; omega)).1
  rw [show (⟨g, 0, none⟩ : Addr).add j = ⟨g, 0 + j, none⟩ from by simp [Addr.add] <;> omega, h2]
  congr 2
  rw [List.getD_eq_getElem?_getD, List.getElem?_eq_getElem hj]
  simp [getElem!_pos, hj, show j < l.length by omega, show j < (compact l).length + (l.length - (compact l).length) by omega]
set_option maxHeartbeats 4000000 in
set_option maxRecDepth 100000 in
theorem used_walk (hS : SortC) (hS0 : SortN) (hK : CompactC) (hK0 : CompactN) (x : S36) (A : Option Addr) (c : Nat) (w : World) (hx : cnt x ≤ 100000000000) (hc : x.f5.length ≤ c) (hC : Kd.C k36 w A x.f5.length x.f5) :
    Calls Try.prog 12 #[V36 x A c] w fun e w' => ∃ (A' : Option Addr) (c' : Nat) (us : List Int), e = .returned (.slice A' us.length c') ∧ us.length ≤ c' ∧ us.length ≤ 1000000000000 ∧ Kd.C (Kd.int .i64) w' A' us.length us ∧ (∀ s, s ∈ us ↔ s ∈ cols x) ∧ Below w.heap.size w w' := by
  have HE : ∀ w2, Below w.heap.size w w2 → Box (w.heap.size + 1) w2 (.slice none 0 0) [] → Calls Try.prog 23 #[V36 x A c, F24 (w.heap.size + 1)] w2 fun e w' => e = .returned (.tuple #[]) ∧ ∃ v', Box (w.heap.size + 1) w' v' (cols x) ∧ Below (w.heap.size + 1) w2 w' := by
    intro w2 hb2 hB
    refine (each_walk (cnt x) x A c w2 w (w.heap.size + 1) (.slice none 0 0) [] (Nat.le_refl _) (by omega) hc hC hb2 (Nat.le_succ _) hB (by simp; omega)).mono ?_
    rintro e w' ⟨rfl, v', hB', hG⟩
    exact ⟨rfl, v', hB', hG.1⟩
  have hcl := cols_len x
  have HCL := Aside0.mk (show (cols x).length ≤ 1000000000000 by omega)
  have HEE := Aside0.mk HE
  have H1 := Aside0.mk hS
  have H2 := Aside0.mk hS0
  have H3 := Aside0.mk hK
  have H4 := Aside0.mk hK0
  clear HE hS hS0 hK hK0 hC hc hx hcl
  have hmf : ∀ (fn : Fn) (first cap : Array Value) (w : World), (Instr.makeFunc fn first cap).run Try.prog w = .ok (.func fn first cap) w := fun _ _ _ _ => rfl
  generalize cols x = l at *
  obtain ⟨f0, f1, f2, f3, f4, L⟩ := x
  try simp only at *
  go_enter Try.func12, Try.ntmps12
  go_wp2_with fail
  refine (HEE.out _ (below_alloc (below_alloc (Below.refl _ _) _) _) ⟨?_, Kd.R_nil _ _ _ _ _⟩).mono ?_
  · have := blk_new (w.alloc (.cells #[.int .i64 f0, .string f1, .int .u8 f2.f0, .int .i64 f2.f1, .string f2.f2, .int .i64 f3, .int .u8 f4, .slice A L.length c] 36)) (.cells #[.slice none 0 0] 27)
    rwa [World.size_alloc] at this
  rintro e w3 ⟨rfl, v3, hB3, hb3⟩
  have hcell := hB3.cell
  have HB3 := Aside0.mk hB3
  have hbb : Below w.heap.size w w3 := (below_alloc (below_alloc (Below.refl _ _) _) _).trans (hb3.mono (Nat.le_succ _))
  have HBB := Aside0.mk hbb
  clear hb3 hbb
  rcases hB3.split with ⟨rfl, rfl⟩ | ⟨g, cap, rfl, hg, hlt, hcap, hH⟩
  · clear hB3
    go_wp2_with fail
    refine (H2.out _ _ _).mono ?_
    rintro e w4 ⟨rfl, rfl⟩
    go_wp2_with fail
    refine (H4.out _ _ _).mono ?_
    rintro e w5 ⟨rfl, rfl⟩
    go_wp2
    go_ret
    exact ⟨none, 0, [], rfl, Nat.le_refl _, Nat.zero_le _, Kd.C_nil _ _, fun s => Iff.rfl, HBB.out⟩
  · have hs := Aside0.mk (sort_at H1.out hB3 hg hlt hH HCL.out)
    have HX := Aside0.mk (And.intro hg hcap)
    clear hB3 hg hlt hcap hH
    go_wp2_with fail
    refine hs.out.mono ?_
    rintro e w4 ⟨rfl, hN4, hlt4, hb4, hH4⟩
    have hc4 : w4.cell? ⟨w.heap.size + 1, 0, none⟩ = some (.slice (some ⟨g, 0, none⟩) l.length cap) := by rw [blk_cell hN4]; rfl
    have hk := compact_at_row H3.out (N := w.heap.size + 1) (l := sortL l) (cap := cap) (by have := HX.out.1; omega) hH4 (by rw [sortL_len]; exact HCL.out) (by rw [sortL_len]; exact HX.out.2)
    rw [sortL_len] at hk
    have HKK := Aside0.mk hk
    have HB4 := Aside0.mk hb4
    clear hk hb4 hH4 hN4 hlt4
    go_wp2_with fail
    refine HKK.out.mono ?_
    rintro e w5 ⟨rfl, hb5, hC5⟩
    have HB5 := Aside0.mk hb5
    have HC5 := Aside0.mk hC5
    clear hb5 hC5
    go_wp2
    go_ret
    refine ⟨_, _, compact (sortL l), rfl, ?_, ?_, HC5.out, fun s => by rw [compact_mem, sortL_mem], HBB.out.trans ((HB4.out.trans HB5.out).mono (Nat.le_succ _))⟩
    · have := compact_length_le (sortL l); rw [sortL_len] at this; have := HX.out.2; omega
    · have := compact_length_le (sortL l); rw [sortL_len] at this; have := HCL.out; omega
end Go.Proofs.Ytepjcgcobaaphaa.Pl
