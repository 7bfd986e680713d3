/-
  Numbers, by program: texts of another seat, turned to this one.
-/
import Derived.Test.YtonnikipeokkaaaGreatDoorN2
import Derived.Laws.BitsAllLaws
import Derived.ProofKit
import Derived.OpenShut
import Derived.LaidMore
import Derived.Lay
import Derived.SevenTiedAt
import Derived.Stop.Joined
import Derived.Stop.LaidErr
import Derived.Lib.SmallJoins
namespace Go.Proofs.YtonnikipeokkaaaGreatDoor
open Go.RowKit
open Go.RowKit
open Go.RowKit
open Go.RowKit
theorem none_limbs (w : World) : LimbsAt w none 0 0 [] := ⟨RowAt.nil _ _ _, (by intro x hx; simp at hx), Nat.le_refl _, by omega⟩
open Go.ChangeShapes Go.WideShapes Go.ChangeAt Go.RowKit Go.Joins
section
variable {H : Type} {enc : TypeId × Value → H} {w : World} {spare : Nat → Bool} {held : Bool}
end
open Go.RowKit
open Go.RowKit
open Go.RowKit
open Go.RowKit
open Go.RowKit
open Go.RowKit
open Go.RowKit
open Go.RowKit
open Go.RowKit
open Go.RowKit
open Go.RowKit
open Go.RowKit
open Go.RowKit
end Go.Proofs.YtonnikipeokkaaaGreatDoor
