import Derived.Test.YtoclbmepgeelmaaDoorLaid
import Derived.Test.YtoclbmepgeelmaaDoorTk1
import Derived.Shelf.Vars
namespace Go.Proofs.YtoclbmepgeelmaaDoor.Utf
open Go.ChangeShapes Go.WideShapes Go.ChangeAt Go.RowKit Go.Lib Go.Shelf

/-- What the row's list and the world's shape give. -/
theorem tabsT_of {W : World} (h : laidMetH Tryd.prog [("unicode/utf8.acceptRanges", Rows.laid_unicode_utf8_acceptRanges), ("unicode/utf8.first", Rows.laid_unicode_utf8_first)] W) (hsh : W.ShapedOpen Tryd.prog) : TabsT W :=
  ⟨tabs_of h, trivial, Go.Proofs.cell_of_shapedOpen_int (zero := #[.int .i64 0]) (t := 3) hsh (of_decide_eq_true (by kernel_rfl)) (by kernel_rfl) rfl (by kernel_rfl) (by kernel_rfl) Tryd.underlying3⟩
end Go.Proofs.YtoclbmepgeelmaaDoor.Utf
