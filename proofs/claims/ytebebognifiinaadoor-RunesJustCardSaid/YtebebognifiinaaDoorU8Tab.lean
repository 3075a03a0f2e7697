/-
  The two tables of unicode/utf8, as the rows lay them.
-/
import Derived.Test.YtebebognifiinaaDoorRows
import Derived.Test.YtebebognifiinaaDoorDecode
import Derived.Lib.LaidU8
import Derived.PinnedBridge
import Derived.ProofKit
import Derived.OpenShut
import Derived.LaidMore
namespace Go.Proofs.YtebebognifiinaaDoor
open Go.ChangeShapes Go.WideShapes Go.ChangeAt Go.RowKit
def u8Laid : List (String × DataW Unit) := [("unicode/utf8.acceptRanges", Rows.laid_unicode_utf8_acceptRanges), ("unicode/utf8.first", Rows.laid_unicode_utf8_first)]
theorem u8Extra : U8Extra Tryd.prog Tryd.lays260_ren := { n3 := by kernel_rfl, n4 := by kernel_rfl, y3 := by kernel_rfl, y4 := by kernel_rfl, c5 := by kernel_rfl, c119 := by kernel_rfl, c138 := by kernel_rfl }
theorem accept_eq : (Rows.laid_unicode_utf8_acceptRanges : DataW Unit) = Lib.acceptData := by kernel_rfl
theorem tabs_ok {W : World} (h : laidMetH Tryd.prog u8Laid W) : Tabs W := by
  rw [MakeChecks.laidMetH_plain _ _ _ (by kernel_rfl)] at h
  refine utf8Tabs_of_reads Tryd.lays260 u8Extra ?_ ?_
  · rw [← Pinned.utf8First_eq]
    exact Lib.laidMet.reads h (by simp [u8Laid, Rows.laid_unicode_utf8_first])
  · rw [← accept_eq]
    exact Lib.laidMet.reads h (by simp [u8Laid])
end Go.Proofs.YtebebognifiinaaDoor
