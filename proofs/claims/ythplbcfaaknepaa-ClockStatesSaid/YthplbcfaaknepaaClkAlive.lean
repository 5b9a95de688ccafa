import Derived.Test.YthplbcfaaknepaaClkRead
namespace Go.Proofs.Ythplbcfaaknepaa
set_option linter.unusedVariables false
set_option linter.unusedSimpArgs false
open Go.RowKit Go.Proofs.YthplbcfaaknepaaW.PrintWords
attribute [local go_sem ↓ high] exec_alloc24

theorem readS_zs : readS zs = (-9223372036854775808, 0, 0) := by simp [readS]
theorem exec_build24 (f : Operand → Value) (d : Option Tmp) (t : TypeId) (p : String) (af : Array _) (g : Option _) (w : World) :
    (execOp f { dst := d, op := .build 24 #[], type := t, pos := p, after := af, guard := g }).run Try.prog w = .ok (.value (arr zs)) w := by
  have h := build24 w
  simp [execOp, h]
attribute [local go_sem ↓ high] exec_build24
set_option maxHeartbeats 1600000 in
set_option maxRecDepth 100000 in
theorem alive_any (w : World) : Calls Try.prog 13 #[] w fun e w' => e = .returned (.bool true) ∧ Below w.heap.size w w' := by
  have e1 : nextS 7 3 = (8, 0) := by decide
  have e2 : nextS 7 9 = (9, 0) := by decide
  have e3 : nextS 9223372036854775806 3 = (0, 44) := by decide
  have e4 : nextS 1 9223372036854775807 = (0, 44) := by decide
  have n1 := fun w => next_any 7 3 (by decide) w
  have n2 := fun w => next_any 7 9 (by decide) w
  have n3 := fun w => next_any 9223372036854775806 3 (by decide) w
  have n4 := fun w => next_any 1 9223372036854775807 (by decide) w
  have r1 := fun w => read_zero w
  rw [e1] at n1
  rw [e2] at n2
  rw [e3] at n3
  rw [e4] at n4
  simp only [readS_zs] at r1
  have N1 := Lib.hid n1
  have N2 := Lib.hid n2
  have N3 := Lib.hid n3
  have N4 := Lib.hid n4
  have R1 := Lib.hid r1
  clear e1 e2 e3 e4 n1 n2 n3 n4 r1
  go_enter Try.func13, Try.ntmps13
  go_wp2_with fail
  refine (N1.out _).mono ?_
  rintro e w1 ⟨rfl, rfl⟩
  go_wp2_with fail
  refine (N2.out _).mono ?_
  rintro e w1 ⟨rfl, rfl⟩
  go_wp2_with fail
  refine (N3.out _).mono ?_
  rintro e w1 ⟨rfl, rfl⟩
  go_wp2_with fail
  refine (N4.out _).mono ?_
  rintro e w1 ⟨rfl, rfl⟩
  go_wp2_with fail
  refine (R1.out _).mono ?_
  rintro e w1 ⟨rfl, hb⟩
  go_wp2_with fail
  refine (new_any _ _).mono ?_
  rintro e w2 ⟨rfl, rfl⟩
  go_wp2_with fail
  refine (keep_no _ 5 5 (by decide) _ (by simp [go_sem])).mono ?_
  rintro e w2 ⟨rfl, rfl⟩
  go_wp2_with fail
  refine (last_any _ 5 _ (by simp [go_sem])).mono ?_
  rintro e w2 ⟨rfl, rfl⟩
  go_wp2_with fail
  go_ret
  exact ⟨rfl, below_alloc (below_alloc hb _) _⟩
end Go.Proofs.Ythplbcfaaknepaa
