import Derived.Test.YthplbcfaaknepaaClkPlain
import Derived.ProofKit
import Derived.OpenShut
import Derived.Lib.SmallJoins
namespace Go.Proofs.Ythplbcfaaknepaa
set_option linter.unusedVariables false
set_option linter.unusedSimpArgs false
open Go.RowKit Go.ChangeShapes Go.WideShapes Go.ChangeAt Go.Joins Go.Proofs.YthplbcfaaknepaaW.PrintWords
theorem open_state {H : Type} {enc : TypeId × Value → H} {W : World} {base : Nat} {sp : Nat → Bool} {held : Bool} {v : Value} {d : DataW H} {p : List MemPlace} {b0 : Nat} {r : Reach}
    (hv : Value.okWide Try.prog W r b0 23 v) (h : DataW.Trod enc Try.prog W base sp held 23 v d p) : ∃ a r : Int, v = .agg #[.int .i64 a, .int .i64 r] ∧ (Lit.int .i64 a).wf = true ∧ (Lit.int .i64 r).wf = true := by
  obtain ⟨c0, c1, y0, y1, m, rfl, rfl, rfl, hy0, hy1⟩ := open_agg2 Try.underlying23 (by kernel_rfl) (by kernel_rfl) hv h
  obtain ⟨a, e0, _, wa⟩ := DataW.trod_int Try.underlying2 hy0
  obtain ⟨r, e1, _, wr⟩ := DataW.trod_int Try.underlying3 hy1
  simp at e0 e1
  subst e0; subst e1
  exact ⟨a, r, rfl, wa, wr⟩
def numOf : Option Value → Int
  | some (.int _ n) => n
  | _ => 0
theorem open_arr {H : Type} {enc : TypeId × Value → H} {W : World} {base : Nat} {sp : Nat → Bool} {held : Bool} {v : Value} {d : DataW H} {p : List MemPlace} {b0 : Nat} {r : Reach}
    (hv : Value.okWide Try.prog W r b0 24 v) (h : DataW.Trod enc Try.prog W base sp held 24 v d p) : ∃ bs : List Int, v = arr bs ∧ bs.length = 64 ∧ Bytes bs := by
  have hu := Try.underlying24
  simp only [Value.okWide, hu] at hv
  obtain ⟨cs, rfl, hsz, _⟩ := hv
  have hc : Try.prog.cellsOf 24 = 64 := by kernel_rfl
  have hc5 : Try.prog.cellsOf 5 = 1 := by kernel_rfl
  obtain ⟨fuel, hf⟩ := h
  obtain ⟨xs, m, _, _, hl, hx, hall⟩ := DataW.trod_array hu hf
  simp only [Value.cells, hc] at hl
  have key : ∀ i, i < 64 → ∃ n : Int, cs.toList[i]? = some (.int .u8 n) ∧ 0 ≤ n ∧ n ≤ 255 := by
    intro i hi
    have h1 := hall i hi
    rw [List.getElem?_eq_getElem (by omega)] at h1
    obtain ⟨n, e, _, wf⟩ := DataW.trod_int Try.underlying5 h1
    refine ⟨n, ?_, ?_⟩
    · rw [hc5] at e
      have := congrArg (fun l => l[0]?) e
      simpa [List.getElem?_take, List.getElem?_drop, Value.cells] using this
    · simp [Lit.wf, IntKind.min, IntKind.max, IntKind.signed, IntKind.bits] at wf
      omega
  let bs : List Int := (List.range 64).map fun i => numOf (cs.toList[i]?)
  have hbs : bs.length = 64 := by simp [bs]
  refine ⟨bs, ?_, hbs, ?_⟩
  · unfold arr vals
    congr 1
    apply Array.ext'
    apply List.ext_getElem?
    intro i
    by_cases hi : i < 64
    · obtain ⟨n, e, _⟩ := key i hi
      rw [e]
      simp only [nums, bs, List.map_map, List.getElem?_map, List.getElem?_range hi, Option.map_some, Function.comp, e, numOf]
    · rw [List.getElem?_eq_none (by simp at hl ⊢; omega), List.getElem?_eq_none (by simp [nums, hbs]; omega)]
  · intro c hc
    simp only [bs, List.mem_map, List.mem_range] at hc
    obtain ⟨i, hi, rfl⟩ := hc
    obtain ⟨n, e, h1, h2⟩ := key i hi
    rw [e]
    exact ⟨h1, h2⟩
end Go.Proofs.Ythplbcfaaknepaa
