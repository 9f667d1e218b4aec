/- What the listed variables give: the table of powers of ten. Each theorem names its conditions. -/
import Derived.Test.YtndblondleclpaaDoorRows
import Derived.Test.YtndblondleclpaaDoorDgI
import Derived.LaidMore
import Derived.LaidOnce
import Derived.Stop.LaidErr
import Derived.Stop.Joined
namespace Go.Proofs.YtndblondleclpaaDoor
open Go.RowKit
set_option linter.unusedVariables false
set_option maxRecDepth 100000

theorem tab_data : (Rows.laid_internal_strconv_uint64pow10 : DataW Unit) = Lib.tabData .u64 Lib.pow10Tab := by kernel_rfl
theorem tab_of_head {W : World} {r : List (String × DataW Unit)} (h : laidMet Tryd.prog (("internal/strconv.uint64pow10", Rows.laid_internal_strconv_uint64pow10) :: r) W) : Tab W := by
  rw [tab_data] at h
  exact Lib.tabIs_of_head (g := 1) (t := 113) (e := 92) (n := 20) (by kernel_rfl) (by kernel_rfl) Tryd.underlying113 Tryd.underlying92 (by kernel_rfl) (by kernel_rfl) h
theorem tab_of_laid {W : World} {a b : String × DataW Unit} {r : List (String × DataW Unit)} (h : laidMet Tryd.prog (a :: b :: ("internal/strconv.uint64pow10", Rows.laid_internal_strconv_uint64pow10) :: r) W) : Tab W := tab_of_head h.tail.tail

end Go.Proofs.YtndblondleclpaaDoor
