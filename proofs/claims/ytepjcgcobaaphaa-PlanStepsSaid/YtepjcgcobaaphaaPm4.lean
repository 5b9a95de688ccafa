import Derived.Test.YtepjcgcobaaphaaPl8
import Derived.Deep.Slices
import Derived.Deep.Fields
import Derived.ChangeSame
import Derived.OpenShut
namespace Go.Proofs.Ytepjcgcobaaphaa.Pl
set_option linter.unusedVariables false
set_option linter.unusedSimpArgs false
open Go.ChangeShapes Go.WideShapes Go.Deep
open Go.RowKit Go.Lib Go.Proofs.YtepjcgcobaaphaaW.PrintWords Go.Proofs.Ytepjcgcobaaphaa.PPa

theorem co3 : Try.prog.cellsOf 3 = 1 := by kernel_rfl
theorem co2 : Try.prog.cellsOf 2 = 1 := by kernel_rfl
theorem co4 : Try.prog.cellsOf 4 = 1 := by kernel_rfl
theorem co5 : Try.prog.cellsOf 5 = 1 := by kernel_rfl
theorem co9 : Try.prog.cellsOf 9 = 1 := by kernel_rfl
theorem co23 : Try.prog.cellsOf 23 = 1 := by kernel_rfl
theorem co27 : Try.prog.cellsOf 27 = 1 := by kernel_rfl
theorem co34 : Try.prog.cellsOf 34 = 3 := by kernel_rfl
theorem co36 : Try.prog.cellsOf 36 = 8 := by kernel_rfl
theorem co29 : Try.prog.cellsOf 29 = 5 := by kernel_rfl
section
variable {H : Type} {enc : TypeId × Value → H} {w : World} {base : Nat} {spare : Nat → Bool} {held : Bool}
/-- A Value's three cells. -/
theorem open_val {fuel : Nat} {v2 v3 v4 : Value} {y : DataW H × List MemPlace} (h : DataW.trod enc Try.prog w base spare held fuel 34 [v2, v3, v4] = some y) :
    ∃ (a b : Int) (s : ByteArray), v2 = .int .u8 a ∧ v3 = .int .i64 b ∧ v4 = .string s := by
  obtain ⟨ys, n, hn, hy, hlen, hyl, hf⟩ := DataW.trod_struct Try.underlying34 h
  have hyl3 : ys.length = 3 := hyl
  have f0 : DataW.trod enc Try.prog w base spare held n 5 (([v2, v3, v4].drop 0).take (Try.prog.cellsOf 5)) = ys[0]? := hf 0 _ rfl
  have f1 : DataW.trod enc Try.prog w base spare held n 2 (([v2, v3, v4].drop 1).take (Try.prog.cellsOf 2)) = ys[1]? := hf 1 _ rfl
  have f2 : DataW.trod enc Try.prog w base spare held n 9 (([v2, v3, v4].drop 2).take (Try.prog.cellsOf 9)) = ys[2]? := hf 2 _ rfl
  rw [co5, List.getElem?_eq_getElem (by omega)] at f0
  rw [co2, List.getElem?_eq_getElem (by omega)] at f1
  rw [co9, List.getElem?_eq_getElem (by omega)] at f2
  obtain ⟨n0, e0, _, _⟩ := DataW.trod_int (k := .u8) (by kernel_rfl) f0
  obtain ⟨n1, e1, _, _⟩ := DataW.trod_int (k := .i64) (by kernel_rfl) f1
  obtain ⟨s2, e2, _, _⟩ := DataW.trod_string (by kernel_rfl) f2
  injection e0 with e0
  injection e1 with e1
  injection e2 with e2
  exact ⟨n0, n1, s2, e0, e1, e2⟩
/-- The data in a list are smaller than the datum. -/
theorem agg_lt {ys : List (DataW H × List MemPlace)} {j : Nat} (h : j < ys.length) : SizeOf.sizeOf (ys[j].1) < SizeOf.sizeOf (DataW.agg (ys.map (·.1))) := by
  have h1 : ys[j].1 ∈ ys.map (·.1) := List.mem_map.2 ⟨ys[j], List.getElem_mem h, rfl⟩
  have h2 := List.sizeOf_lt_of_mem h1
  rw [DataW.agg.sizeOf_spec]
  omega
theorem slice_lt {D : Nat → DataW H} {len : Nat} {r : List (DataW H)} {i : Nat} (h : i < len) : SizeOf.sizeOf (D i) < SizeOf.sizeOf (DataW.slice ((List.range len).map D) r) := by
  have h1 : D i ∈ (List.range len).map D := List.mem_map.2 ⟨i, List.mem_range.2 h, rfl⟩
  have h2 := List.sizeOf_lt_of_mem h1
  rw [DataW.slice.sizeOf_spec]
  omega
instance : Inhabited S36 := ⟨z36⟩
instance : Inhabited S29 := ⟨z29⟩
set_option maxRecDepth 100000 in
/-- A []typing.Node that reads: a list of trees. -/
theorem open_nodes (k : Nat) : ∀ {fuel : Nat} {cs : List Value} {x : DataW H × List MemPlace}, SizeOf.sizeOf x.1 ≤ k → DataW.trod enc Try.prog w base spare held fuel 23 cs = some x →
    ∃ (A : Option Addr) (c : Nat) (L : List S36), cs = [.slice A L.length c] ∧ L.length ≤ c ∧ L.length ≤ maxLen ∧ Kd.C k36 w A L.length L := by
  induction k with
  | zero =>
    intro fuel cs x hk h
    cases x with | mk d p => cases d <;> simp at hk
  | succ k ih =>
    intro fuel cs x hk h
    rcases open_slice Try.underlying23 h with ⟨rfl, _⟩ | ⟨a, len, cap, m, n, D, Pl, rfl, hb, hl, hm, hmm, hx, hi⟩
    · exact ⟨none, 0, [], rfl, Nat.le_refl _, Nat.zero_le _, Kd.C_nil _ _⟩
    · have hlm : len ≤ m := by rw [hmm]; split <;> omega
      have hex : ∀ i, i < len → ∃ t : S36, ∃ c : List Value, k36.K w t c ∧ ∀ j u, c[j]? = some u → w.cell? (a.add (i * 8 + j)) = some u := by
        intro i hil
        obtain ⟨cs', hc, ht⟩ := hi i (by omega)
        rw [co36] at hc
        obtain ⟨ys, n', hn', hy, hlen, hyl, hf⟩ := DataW.trod_struct Try.underlying36 ht
        rw [co36] at hlen
        obtain ⟨_, hcl, hat⟩ := World.cells?_some hc
        have hyl6 : ys.length = 6 := hyl
        simp only [Prod.mk.injEq] at hy
        obtain ⟨v0, v1, v2, v3, v4, v5, v6, v7, rfl⟩ : ∃ v0 v1 v2 v3 v4 v5 v6 v7, cs' = [v0, v1, v2, v3, v4, v5, v6, v7] := by
          match cs', hlen with
          | [v0, v1, v2, v3, v4, v5, v6, v7], _ => exact ⟨v0, v1, v2, v3, v4, v5, v6, v7, rfl⟩
        have f0 : DataW.trod enc Try.prog w base spare held n' 3 (([v0, v1, v2, v3, v4, v5, v6, v7].drop 0).take (Try.prog.cellsOf 3)) = ys[0]? := hf 0 _ rfl
        have f1 : DataW.trod enc Try.prog w base spare held n' 9 (([v0, v1, v2, v3, v4, v5, v6, v7].drop 1).take (Try.prog.cellsOf 9)) = ys[1]? := hf 1 _ rfl
        have f2 : DataW.trod enc Try.prog w base spare held n' 34 (([v0, v1, v2, v3, v4, v5, v6, v7].drop 2).take (Try.prog.cellsOf 34)) = ys[2]? := hf 2 _ rfl
        have f3 : DataW.trod enc Try.prog w base spare held n' 3 (([v0, v1, v2, v3, v4, v5, v6, v7].drop 5).take (Try.prog.cellsOf 3)) = ys[3]? := hf 3 _ rfl
        have f4 : DataW.trod enc Try.prog w base spare held n' 5 (([v0, v1, v2, v3, v4, v5, v6, v7].drop 6).take (Try.prog.cellsOf 5)) = ys[4]? := hf 4 _ rfl
        have f5 : DataW.trod enc Try.prog w base spare held n' 23 (([v0, v1, v2, v3, v4, v5, v6, v7].drop 7).take (Try.prog.cellsOf 23)) = ys[5]? := hf 5 _ rfl
        rw [co3, List.getElem?_eq_getElem (by omega)] at f0 f3
        rw [co9, List.getElem?_eq_getElem (by omega)] at f1
        rw [co34, List.getElem?_eq_getElem (by omega)] at f2
        rw [co5, List.getElem?_eq_getElem (by omega)] at f4
        rw [co23, List.getElem?_eq_getElem (by omega)] at f5
        obtain ⟨n0, e0, _, _⟩ := DataW.trod_int (k := .i64) (by kernel_rfl) f0
        obtain ⟨s1, e1, _, _⟩ := DataW.trod_string (by kernel_rfl) f1
        obtain ⟨qa, qb, qs, e2, e3, e4⟩ := open_val f2
        obtain ⟨n5, e5, _, _⟩ := DataW.trod_int (k := .i64) (by kernel_rfl) f3
        obtain ⟨n6, e6, _, _⟩ := DataW.trod_int (k := .u8) (by kernel_rfl) f4
        have hsz : SizeOf.sizeOf (ys[5]'(by omega)).1 ≤ k := by
          have q1 := agg_lt (ys := ys) (j := 5) (by omega)
          rw [← hy.1] at q1
          have q2 := slice_lt (D := D) (r := (List.range (m - len)).map fun j => D (len + j)) hil
          rw [hx] at hk
          simp only at hk
          omega
        obtain ⟨A7, c7, L7, e7, hl7, _, hC7⟩ := ih hsz f5
        injection e0 with e0
        injection e1 with e1
        injection e5 with e5
        injection e6 with e6
        injection e7 with e7
        subst e0 e1 e2 e3 e4 e5 e6 e7
        refine ⟨⟨n0, s1, ⟨qa, qb, qs⟩, n5, n6, L7⟩, _, k36_mk w ⟨n0, s1, ⟨qa, qb, qs⟩, n5, n6, L7⟩ hl7 hC7, fun j u hu => ?_⟩
        have hjl : j < 8 := by
          have := (List.getElem?_eq_some_iff.1 hu).1
          simpa using this
        have h3 := hat j hjl
        rw [← Go.Deep.add_add, h3]
        exact hu
      obtain ⟨T, hT⟩ := choose_lt (p := fun i (t : S36) => ∃ c : List Value, k36.K w t c ∧ ∀ j u, c[j]? = some u → w.cell? (a.add (i * 8 + j)) = some u) hex
      have hLl : ((List.range len).map T).length = len := by simp
      refine ⟨some a, cap, (List.range len).map T, by rw [hLl], by omega, by omega, ⟨rfl, by rw [hLl]; unfold maxLen at hm; omega, fun _ => ⟨a, rfl, fun j p hj => ?_⟩⟩⟩
      have hjl : j < len := by
        have := (List.getElem?_eq_some_iff.1 hj).1
        omega
      have hp : p = T j := by
        rw [List.getElem?_map, List.getElem?_range hjl] at hj
        simpa using hj.symm
      subst hp
      obtain ⟨c, hK, hc⟩ := hT j hjl
      exact ⟨c, k36.K_len hK, hK, fun i u hu => hc i u hu⟩
/-- A []int in a struct that reads. -/
theorem open_is {fuel : Nat} {cs : List Value} {x : DataW H × List MemPlace} (h : DataW.trod enc Try.prog w base spare held fuel 27 cs = some x) :
    ∃ (A : Option Addr) (c : Nat) (L : List Int), cs = [.slice A L.length c] ∧ L.length ≤ c ∧ Kd.C (Kd.int .i64) w A L.length L := by
  rcases open_slice Try.underlying27 h with ⟨rfl, _⟩ | ⟨a, len, cap, m, n, D, Pl, rfl, hb, hl, hm, hmm, hx, hi⟩
  · exact ⟨none, 0, [], rfl, Nat.le_refl _, Kd.C_nil _ _⟩
  · have hlm : len ≤ m := by rw [hmm]; split <;> omega
    have hex : ∀ i, i < len → ∃ t : Int, w.cell? (a.add i) = some (.int .i64 t) := by
      intro i hil
      obtain ⟨cs', hc, ht⟩ := hi i (by omega)
      rw [co3] at hc
      obtain ⟨_, hcl, hat⟩ := World.cells?_some hc
      obtain ⟨n0, e0, _, _⟩ := DataW.trod_int (k := .i64) (by kernel_rfl) ht
      have h3 := hat 0 (by omega)
      rw [e0] at h3
      exact ⟨n0, by simpa [Addr.add] using h3⟩
    obtain ⟨T, hT⟩ := choose_lt (p := fun i (t : Int) => w.cell? (a.add i) = some (.int .i64 t)) hex
    have hLl : ((List.range len).map T).length = len := by simp
    refine ⟨some a, cap, (List.range len).map T, by rw [hLl], by omega, Kd.C_of_reads (d := (0 : Int)) (h1 := fun _ => rfl) ⟨rfl, by rw [hLl]; unfold maxLen at hm; omega, fun _ => ⟨a, rfl, fun j hj => ?_⟩⟩⟩
    rw [hLl] at hj
    rw [hT j hj, List.getD_eq_getElem?_getD, List.getElem?_map, List.getElem?_range hj]
    rfl
set_option maxRecDepth 100000 in
/-- A []plan.Table that reads. -/
theorem open_tabs {fuel : Nat} {cs : List Value} {x : DataW H × List MemPlace} (h : DataW.trod enc Try.prog w base spare held fuel 22 cs = some x) :
    ∃ (A : Option Addr) (c : Nat) (L : List S29), cs = [.slice A L.length c] ∧ L.length ≤ c ∧ L.length ≤ maxLen ∧ Kd.C k29 w A L.length L := by
  rcases open_slice Try.underlying22 h with ⟨rfl, _⟩ | ⟨a, len, cap, m, n, D, Pl, rfl, hb, hl, hm, hmm, hx, hi⟩
  · exact ⟨none, 0, [], rfl, Nat.le_refl _, Nat.zero_le _, Kd.C_nil _ _⟩
  · have hlm : len ≤ m := by rw [hmm]; split <;> omega
    have hex : ∀ i, i < len → ∃ t : S29, ∃ c : List Value, k29.K w t c ∧ ∀ j u, c[j]? = some u → w.cell? (a.add (i * 5 + j)) = some u := by
      intro i hil
      obtain ⟨cs', hc, ht⟩ := hi i (by omega)
      rw [co29] at hc
      obtain ⟨ys, n', hn', hy, hlen, hyl, hf⟩ := DataW.trod_struct Try.underlying29 ht
      rw [co29] at hlen
      obtain ⟨_, hcl, hat⟩ := World.cells?_some hc
      have hyl6 : ys.length = 5 := hyl
      obtain ⟨v0, v1, v2, v3, v4, rfl⟩ : ∃ v0 v1 v2 v3 v4, cs' = [v0, v1, v2, v3, v4] := by
        match cs', hlen with
        | [v0, v1, v2, v3, v4], _ => exact ⟨v0, v1, v2, v3, v4, rfl⟩
      have f0 : DataW.trod enc Try.prog w base spare held n' 3 (([v0, v1, v2, v3, v4].drop 0).take (Try.prog.cellsOf 3)) = ys[0]? := hf 0 _ rfl
      have f1 : DataW.trod enc Try.prog w base spare held n' 3 (([v0, v1, v2, v3, v4].drop 1).take (Try.prog.cellsOf 3)) = ys[1]? := hf 1 _ rfl
      have f2 : DataW.trod enc Try.prog w base spare held n' 27 (([v0, v1, v2, v3, v4].drop 2).take (Try.prog.cellsOf 27)) = ys[2]? := hf 2 _ rfl
      have f3 : DataW.trod enc Try.prog w base spare held n' 27 (([v0, v1, v2, v3, v4].drop 3).take (Try.prog.cellsOf 27)) = ys[3]? := hf 3 _ rfl
      have f4 : DataW.trod enc Try.prog w base spare held n' 4 (([v0, v1, v2, v3, v4].drop 4).take (Try.prog.cellsOf 4)) = ys[4]? := hf 4 _ rfl
      rw [co3, List.getElem?_eq_getElem (by omega)] at f0 f1
      rw [co27, List.getElem?_eq_getElem (by omega)] at f2 f3
      rw [co4, List.getElem?_eq_getElem (by omega)] at f4
      obtain ⟨n0, e0, _, _⟩ := DataW.trod_int (k := .i64) (by kernel_rfl) f0
      obtain ⟨n1, e1, _, _⟩ := DataW.trod_int (k := .i64) (by kernel_rfl) f1
      obtain ⟨A2, c2, L2, e2, hl2, hC2⟩ := open_is f2
      obtain ⟨A3, c3, L3, e3, hl3, hC3⟩ := open_is f3
      obtain ⟨n4, e4, _⟩ := DataW.trod_bool (by kernel_rfl) f4
      injection e0 with e0
      injection e1 with e1
      injection e2 with e2
      injection e3 with e3
      injection e4 with e4
      subst e0 e1 e2 e3 e4
      refine ⟨⟨n0, n1, L2, L3, n4⟩, _, k29_mk w ⟨n0, n1, L2, L3, n4⟩ hl2 hC2 hl3 hC3, fun j u hu => ?_⟩
      have hjl : j < 5 := by
        have := (List.getElem?_eq_some_iff.1 hu).1
        simpa using this
      have h3 := hat j hjl
      rw [← Go.Deep.add_add, h3]
      exact hu
    obtain ⟨T, hT⟩ := choose_lt (p := fun i (t : S29) => ∃ c : List Value, k29.K w t c ∧ ∀ j u, c[j]? = some u → w.cell? (a.add (i * 5 + j)) = some u) hex
    have hLl : ((List.range len).map T).length = len := by simp
    refine ⟨some a, cap, (List.range len).map T, by rw [hLl], by omega, by omega, ⟨rfl, by rw [hLl]; unfold maxLen at hm; omega, fun _ => ⟨a, rfl, fun j p hj => ?_⟩⟩⟩
    have hjl : j < len := by
      have := (List.getElem?_eq_some_iff.1 hj).1
      omega
    have hp : p = T j := by
      rw [List.getElem?_map, List.getElem?_range hjl] at hj
      simpa using hj.symm
    subst hp
    obtain ⟨c, hK, hc⟩ := hT j hjl
    exact ⟨c, k29.K_len hK, hK, fun i u hu => hc i u hu⟩
end
end Go.Proofs.Ytepjcgcobaaphaa.Pl
