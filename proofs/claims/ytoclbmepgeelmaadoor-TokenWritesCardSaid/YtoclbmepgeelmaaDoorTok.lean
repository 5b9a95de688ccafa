import Derived.Test.YtoclbmepgeelmaaDoorRun15
import Derived.Deep.Slices
import Derived.Deep.Fields
import Derived.ChangeSame
namespace Go.Proofs.YtoclbmepgeelmaaDoor.Utf
set_option linter.unusedVariables false
open Go.ChangeShapes Go.WideShapes Go.Deep
open Go.RowKit Go.Lib Go.Proofs.YtoclbmepgeelmaaDoorW.PrintWords Go.Proofs.YtoclbmepgeelmaaDoor.PRe

section
variable {H : Type} {enc : TypeId × Value → H} {P : Program} {w : World} {base : Nat} {spare : Nat → Bool} {held : Bool}
theorem open_slice_fields {t e : TypeId} {fs : Array Field} {fuel : Nat} {cs : List Value} {x : DataW H × List MemPlace} (ht : P.underlying t = some (.slice e)) (he : P.underlying e = some (.struct fs))
    (hone : oneCellFields P fs = true) (hC : P.cellsOf e = fs.size) (h : DataW.trod enc P w base spare held fuel t cs = some x) :
    (cs = [.slice none 0 0] ∧ x = (.nil, [])) ∨
    ∃ (a : Addr) (len cap m : Nat) (D : Nat → DataW H) (Pl : Nat → List MemPlace), cs = [.slice (some a) len cap] ∧ base ≤ a.block ∧ len ≤ cap ∧ cap ≤ maxLen ∧ m = (if spare a.block then cap else len) ∧
      x = (.slice ((List.range len).map D) ((List.range (m - len)).map fun j => D (len + j)), MemPlace.row a (m * fs.size) ++ (List.range m).flatMap Pl) ∧
      ∀ i, i < m → ∃ (ys : List (DataW H × List MemPlace)) (n : Nat), D i = .agg (ys.map (·.1)) ∧ Pl i = ys.flatMap (·.2) ∧ ys.length = fs.size ∧
        ∀ (j : Nat) (f : Field), fs[j]? = some f → ∃ (v : Value) (y : DataW H × List MemPlace), w.cell? (a.add (i * fs.size + j)) = some v ∧ ys[j]? = some y ∧ DataW.trod enc P w base spare held n f.type [v] = some y := by
  rcases open_slice ht h with h0 | ⟨a, len, cap, m, n, D, Pl, hcs, hb, hl, hm, hmm, hx, hi⟩
  · exact .inl h0
  · refine .inr ⟨a, len, cap, m, D, Pl, hcs, hb, hl, hm, hmm, by rw [hC] at hx; exact hx, fun i him => ?_⟩
    obtain ⟨cs', hc, ht'⟩ := hi i him
    rw [hC] at hc
    obtain ⟨ys, n', hn', hy, hlen, hyl, hf⟩ := DataW.trod_struct he ht'
    obtain ⟨_, hcl, hat⟩ := World.cells?_some hc
    simp only [Prod.mk.injEq] at hy
    refine ⟨ys, n', hy.1, hy.2, hyl, fun j f hj => ?_⟩
    obtain ⟨ho, hk⟩ := hone_of hone j f hj
    have hjl : j < fs.size := (Array.getElem?_eq_some_iff.1 hj).1
    have hcell := hat j hjl
    have hv : cs'[j]? = some (cs'[j]'(by omega)) := List.getElem?_eq_getElem (by omega)
    have h1 := hf j f hj
    rw [ho, hk] at h1
    have hone' : (cs'.drop j).take 1 = [cs'[j]'(by omega)] := by
      rw [List.drop_eq_getElem_cons (by omega)]
      rfl
    rw [hone'] at h1
    have hys : ys[j]? = some (ys[j]'(by omega)) := List.getElem?_eq_getElem (by omega)
    refine ⟨_, _, ?_, hys, h1.trans hys⟩
    rw [← Go.Deep.add_add, hcell, hv]
end

instance : Inhabited S53 := ⟨z53⟩

/-- A []token.Token that reads: its list, its cells, and the range of each element's Int. -/
theorem open_toks {H : Type} {enc : TypeId × Value → H} {w : World} {base : Nat} {spare : Nat → Bool} {held : Bool} {fuel : Nat} {cs : List Value} {x : DataW H × List MemPlace}
    (h : DataW.trod enc Tryd.prog w base spare held fuel 43 cs = some x) :
    ∃ (A : Option Addr) (c : Nat) (L : List S53), cs = [.slice A L.length c] ∧ L.length ≤ c ∧ L.length ≤ maxLen ∧ Kd.C k53 w A L.length L ∧ ∀ t ∈ L, -9223372036854775808 ≤ t.f3 ∧ t.f3 ≤ 9223372036854775807 := by
  rcases open_slice_fields Tryd.underlying43 Tryd.underlying53 (by kernel_rfl) (by kernel_rfl) h with ⟨rfl, _⟩ | ⟨a, len, cap, m, D, Pl, rfl, hb, hl, hm, hmm, hx, hi⟩
  · exact ⟨none, 0, [], rfl, Nat.le_refl _, Nat.zero_le _, ⟨rfl, by decide, fun h => absurd h (by decide)⟩, fun t ht => by cases ht⟩
  · have hlm : len ≤ m := by rw [hmm]; split <;> omega
    have hex : ∀ i, i < len → ∃ t : S53, (w.cell? (a.add (i * 4 + 0)) = some (.int .i64 t.f0) ∧ w.cell? (a.add (i * 4 + 1)) = some (.int .i64 t.f1) ∧ w.cell? (a.add (i * 4 + 2)) = some (.string t.f2) ∧ w.cell? (a.add (i * 4 + 3)) = some (.int .i64 t.f3)) ∧ (-9223372036854775808 ≤ t.f3 ∧ t.f3 ≤ 9223372036854775807) := by
      intro i hil
      obtain ⟨ys, n, hD, hP, hyl, hf⟩ := hi i (by omega)
      obtain ⟨v0, y0, hc0, _, ht0⟩ := hf 0 _ rfl
      obtain ⟨v1, y1, hc1, _, ht1⟩ := hf 1 _ rfl
      obtain ⟨v2, y2, hc2, _, ht2⟩ := hf 2 _ rfl
      obtain ⟨v3, y3, hc3, _, ht3⟩ := hf 3 _ rfl
      obtain ⟨n0, e0, _, w0⟩ := DataW.trod_int (k := .i64) (by kernel_rfl) ht0
      obtain ⟨n1, e1, _, w1⟩ := DataW.trod_int (k := .i64) (by kernel_rfl) ht1
      obtain ⟨s2, e2, _, w2⟩ := DataW.trod_string (by kernel_rfl) ht2
      obtain ⟨n3, e3, _, w3⟩ := DataW.trod_int (k := .i64) (by kernel_rfl) ht3
      injection e0 with e0
      injection e1 with e1
      injection e2 with e2
      injection e3 with e3
      subst e0 e1 e2 e3
      have w3' : -9223372036854775808 ≤ n3 ∧ n3 ≤ 9223372036854775807 := by
        have := w3
        simp [Lit.wf] at this
        have e1 : IntKind.i64.min = -9223372036854775808 := rfl
        have e2 : IntKind.i64.max = 9223372036854775807 := rfl
        omega
      exact ⟨⟨n0, n1, s2, n3⟩, ⟨hc0, hc1, hc2, hc3⟩, w3'⟩
    obtain ⟨T, hT⟩ := choose_lt (p := fun i (t : S53) => (w.cell? (a.add (i * 4 + 0)) = some (.int .i64 t.f0) ∧ w.cell? (a.add (i * 4 + 1)) = some (.int .i64 t.f1) ∧ w.cell? (a.add (i * 4 + 2)) = some (.string t.f2) ∧ w.cell? (a.add (i * 4 + 3)) = some (.int .i64 t.f3)) ∧ (-9223372036854775808 ≤ t.f3 ∧ t.f3 ≤ 9223372036854775807)) hex
    have hLl : ((List.range len).map T).length = len := by simp
    refine ⟨some a, cap, (List.range len).map T, by rw [hLl], by omega, by omega, ⟨rfl, by rw [hLl]; unfold maxLen at hm; omega, fun _ => ⟨a, rfl, fun j p hj => ?_⟩⟩, ?_⟩
    · have hjl : j < len := by
        have := (List.getElem?_eq_some_iff.1 hj).1
        omega
      have hp : p = T j := by
        rw [List.getElem?_map, List.getElem?_range hjl] at hj
        simpa using hj.symm
      subst hp
      obtain ⟨⟨g0, g1, g2, g3⟩, _⟩ := hT j hjl
      refine ⟨_, rfl, k53_mk w (T j), fun i u hu => ?_⟩
      show w.cell? (a.add (j * 4 + i)) = some u
      match i, hu with
      | 0, hu => simp at hu; subst hu; exact g0
      | 1, hu => simp at hu; subst hu; exact g1
      | 2, hu => simp at hu; subst hu; exact g2
      | 3, hu => simp at hu; subst hu; exact g3
      | (i+4), hu => simp at hu
    · intro t ht
      obtain ⟨i, hi', rfl⟩ := List.mem_map.1 ht
      exact (hT i (List.mem_range.1 hi')).2
theorem tokenWrites_row (A0 : Option Addr) (c0 : Nat) (L : List S53) (A1 : Option Addr) (c1 : Nat) (M : List S53) (w : World)
    (hLr : ∀ t ∈ L, -9223372036854775808 ≤ t.f3 ∧ t.f3 ≤ 9223372036854775807) (hc0 : L.length ≤ c0) (hm0 : L.length ≤ maxLen) (h0 : Kd.C k53 w A0 L.length L)
    (_ : ∀ t ∈ M, -9223372036854775808 ≤ t.f3 ∧ t.f3 ≤ 9223372036854775807) (hc1 : M.length ≤ c1) (hm1 : M.length ≤ maxLen) (h1 : Kd.C k53 w A1 M.length M) (hT : Tabs5 w) :
    Calls Tryd.prog 15 #[.slice A0 L.length c0, .slice A1 M.length c1] w fun e w' => e = .returned (.bool true) ∧ Below w.heap.size w w' :=
  tokenWrites_walk A0 c0 L A1 c1 M w hLr hc0 hm0 h0 hc1 hm1 h1 hT
end Go.Proofs.YtoclbmepgeelmaaDoor.Utf
