/-
  What the laws of arithmetic ask of plain integers.
-/
import Derived.Test.YtkjocmenpccooaaGreatDoorHpAk
namespace Go.Proofs.YtkjocmenpccooaaGreatDoor

theorem fold_one {op : Int → Int → Int} {a x : Int} (hf : Fits (op a x)) : foldV op a [x] = some (op a x) := by
  unfold foldV
  rw [if_pos hf]
  rfl
end Go.Proofs.YtkjocmenpccooaaGreatDoor
