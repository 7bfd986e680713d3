/-
  Numbers, by program: texts of another seat, turned to this one.
-/
import Derived.Test.YtonnikipeokkaaaGreatDoorN2
import Derived.Laws.BitsAllLaws
import Derived.ProofKit
import Derived.OpenShut
import Derived.LaidMore
import Derived.Lay
import Derived.SevenTiedAt
import Derived.Stop.Joined
import Derived.Stop.LaidErr
import Derived.Lib.SmallJoins
namespace Go.Proofs.YtonnikipeokkaaaGreatDoor
open Go.RowKit
open Go.RowKit
open Go.RowKit
open Go.RowKit
theorem none_limbs (w : World) : LimbsAt w none 0 0 [] := ⟨RowAt.nil _ _ _, (by intro x hx; simp at hx), Nat.le_refl _, by omega⟩
open Go.ChangeShapes Go.WideShapes Go.ChangeAt Go.RowKit Go.Joins
section
variable {H : Type} {enc : TypeId × Value → H} {w : World} {spare : Nat → Bool} {held : Bool}
end
open Go.RowKit
open Go.RowKit
open Go.RowKit
open Go.RowKit
open Go.RowKit
open Go.RowKit
open Go.RowKit
open Go.RowKit
open Go.RowKit
open Go.RowKit
open Go.RowKit
open Go.RowKit
open Go.RowKit
theorem idx_run (s : ByteArray) (i : Nat) (hi : i < s.size) (d : Nat) (hd : d = (s.data.toList.getD i 0).toNat) (W : World) : (Instr.index 9 (.string s) (.int .i64 (i : Int))).run Tryz.prog W = .ok (.int .u8 (d : Int)) W := by
  have e := run_index_string (P := Tryz.prog) W 9 s .i64 (i : Int) Tryz.underlying9
  rw [dif_pos ⟨by omega, by omega⟩] at e
  rw [e]
  have h2 : s.data.toList.length = s.size := (Lib.size_eq s).symm
  have h3 : s.data.toList.getD i 0 = s[i]'hi := by
    rw [List.getD_eq_getElem?_getD, List.getElem?_eq_getElem (by omega)]
    rfl
  rw [hd, h3]
  rfl
end Go.Proofs.YtonnikipeokkaaaGreatDoor
