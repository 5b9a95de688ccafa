import Derived.Test.YtepjcgcobaaphaaPmS
import Derived.Test.YtepjcgcobaaphaaPl3
import Derived.Test.YtepjcgcobaaphaaPl5
import Derived.Test.YtepjcgcobaaphaaPm1
import Derived.Test.YtepjcgcobaaphaaPm3
import Derived.Test.YtepjcgcobaaphaaPm4
namespace Go.Proofs.Ytepjcgcobaaphaa.Pl
open Go.RowKit Go.Lib Go.Proofs.YtepjcgcobaaphaaW.PrintWords Go.Proofs.Ytepjcgcobaaphaa.PPa
theorem sortC : SortC := fun blk off cap zs w hH hb hs => Try.slices_Sort_int blk off cap zs w hH hb hs
theorem sortN : SortN := fun p cap w => Try.slices_Sort_int_none p cap w
theorem compactC : CompactC := fun blk off cap zs w hH hs hc => Try.slices_Compact_int blk off cap zs w hH hs hc
theorem compactN : CompactN := fun a cap w => Try.slices_Compact_int_empty a cap w
theorem equalC : EqualC := fun L A c slot first w0 w hw0 hx hm hc hC => equal_walk sortC sortN compactC compactN L A c slot first w0 w hw0 hx hm hc hC
theorem usedC : UsedC := fun x A c w hx hc hC => used_walk sortC sortN compactC compactN x A c w hx hc hC
theorem aliveC : ∀ w : World, Calls Try.prog 5 #[] w fun e w' => e = .returned (.bool true) ∧ Below w.heap.size w w' := fun w => alive_walk equalC w
theorem planBelow_at (T : List S29) (AT : Option Addr) (cT : Nat) (C : List S36) (AC : Option Addr) (cC : Nat) (w : World)
    (hT : Kd.C k29 w AT T.length T) (hC : Kd.C k36 w AC C.length C) (lT : T.length ≤ maxLen) (lC : C.length ≤ maxLen) :
    Calls Try.prog 4 #[.slice AT T.length cT, .slice AC C.length cC] w fun e w' => e = .returned (.bool true) ∧ Below w.heap.size w w' := by
  unfold maxLen at lT lC
  exact planBelow_walk aliveC equalC usedC T AT cT C AC cC w hT hC (by omega) (by omega)
end Go.Proofs.Ytepjcgcobaaphaa.Pl
