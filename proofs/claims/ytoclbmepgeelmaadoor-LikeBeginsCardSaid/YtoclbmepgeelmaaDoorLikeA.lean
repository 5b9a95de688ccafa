import Derived.Test.YtoclbmepgeelmaaDoorLikeW
namespace Go.Proofs.YtoclbmepgeelmaaDoor.Utf
set_option linter.unusedVariables false
set_option linter.unusedSimpArgs false
open Go.RowKit Go.Lib Go.Proofs.YtoclbmepgeelmaaDoorW.PrintWords Go.Proofs.YtoclbmepgeelmaaDoor.PRa

theorem lmatch_at (p s : ByteArray) (x : Bool) (e0 : Int) (h : fullR p.data.toList s.data.toList = x ∧ fullE p.data.toList s.data.toList = e0) (w : World) (hT : Tabs w) :
    Calls Tryd.prog 18 #[.string p, .string s] w fun e w' => e = .returned (.tuple #[.bool x, .int .i64 e0]) ∧ Below w.heap.size w w' := by
  rw [← h.1, ← h.2]; exact lmatch_walk p s w hT
set_option maxHeartbeats 1600000 in
set_option maxRecDepth 100000 in
theorem alive06 (w : World) (hT : Tabs w) : Calls Tryd.prog 17 #[] w fun e w' => e = .returned (.bool true) ∧ Below w.heap.size w w' := by
  have c1 := lmatch_at { data := #[97, 37, 99] } { data := #[97, 98, 99] } true 0 (by decide) w hT
  have c2 := fun w2 h2 => lmatch_at { data := #[97, 95, 99] } { data := #[97, 99] } false 0 (by decide) w2 h2
  have c3 := fun w2 h2 => lmatch_at { data := #[37, 97, 37, 98] } { data := #[120, 97, 98, 97, 98] } true 0 (by decide) w2 h2
  have c4 := fun w2 h2 => lmatch_at { data := #[255] } { data := #[] } false 3 (by decide) w2 h2
  have C1 := Aside0.mk c1
  have C2 := Aside0.mk c2
  have C3 := Aside0.mk c3
  have C4 := Aside0.mk c4
  have HT := Aside0.mk hT
  clear c1 c2 c3 c4 hT
  go_enter Tryd.func17, Tryd.ntmps17
  go_wp2_with fail
  refine C1.out.mono ?_
  rintro e w1 ⟨rfl, hb⟩
  have HB1 := Aside0.mk hb; clear hb
  go_wp2_with fail
  refine (C2.out _ (HT.out.below HB1.out)).mono ?_
  rintro e w2 ⟨rfl, hb⟩
  have HB2 := Aside0.mk (below_step HB1.out hb); clear hb
  go_wp2_with fail
  refine (C3.out _ (HT.out.below HB2.out)).mono ?_
  rintro e w3 ⟨rfl, hb⟩
  have HB3 := Aside0.mk (below_step HB2.out hb); clear hb
  go_wp2_with fail
  refine (C4.out _ (HT.out.below HB3.out)).mono ?_
  rintro e w4 ⟨rfl, hb⟩
  have HB4 := Aside0.mk (below_step HB3.out hb); clear hb
  go_wp2_with fail
  go_ret
  exact ⟨rfl, HB4.out⟩
end Go.Proofs.YtoclbmepgeelmaaDoor.Utf
