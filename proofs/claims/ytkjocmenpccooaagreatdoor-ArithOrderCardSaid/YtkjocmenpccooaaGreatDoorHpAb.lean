/-
  arith.reckon, of a difference.
-/
import Derived.Test.YtkjocmenpccooaaGreatDoorHpAa
namespace Go.Proofs.YtkjocmenpccooaaGreatDoor
open Go.RowKit

end Go.Proofs.YtkjocmenpccooaaGreatDoor
