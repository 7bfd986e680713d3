/-
  The rows' opening: the tables of texts.
-/
import Derived.Test.YtkjocmenpccooaaGreatDoorHqO
import Derived.Test.YtkjocmenpccooaaGreatDoorHrG
import Derived.Lib.LaidU8T
namespace Go.Proofs.YtkjocmenpccooaaGreatDoor
open Go.ChangeShapes Go.WideShapes Go.ChangeAt Go.RowKit Go.Joins

set_option maxRecDepth 100000 in
theorem utabs_of_laid {W : World} (h : laidMetH Tryz.prog tabs W) : UTabs W := by
  rw [MakeChecks.laidMetH_plain _ _ _ (by kernel_rfl)] at h
  have hL : laidMet Tryz.prog [("unicode/utf8.acceptRanges", Rows.laid_unicode_utf8_acceptRanges), ("unicode/utf8.first", Rows.laid_unicode_utf8_first)] W := h.tail.tail.tail
  exact utf8Tabs_of_readsT (U8Types.of196 Tryz.lays196) ⟨by kernel_rfl, by kernel_rfl, by kernel_rfl, by kernel_rfl, by kernel_rfl, by kernel_rfl, by kernel_rfl⟩ (Lib.laidMet.reads hL (.tail _ (.head _))) (Lib.laidMet.reads hL (.head _))
end Go.Proofs.YtkjocmenpccooaaGreatDoor
