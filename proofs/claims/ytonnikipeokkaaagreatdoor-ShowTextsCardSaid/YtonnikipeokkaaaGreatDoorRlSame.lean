/-
  The document's lex: Same.
-/
import Derived.Test.YtonnikipeokkaaaGreatDoorRlWord
namespace Go.Proofs.YtonnikipeokkaaaGreatDoor
open Go.Lib (hid)
open Go.RowKit Go.Lib
theorem aa {w:World} {B:Nat} {x0 x1 x2 x3 x4 x5:Value} (h:w.heap[B]? = some (.cells #[x0,x1,x2,x3,x4,x5] 27 (0,0))) :
 w.cell? ⟨B,0,none⟩=some x0/\w.cell? ⟨B,1,none⟩=some x1/\w.cell? ⟨B,2,none⟩=some x2/\w.cell? ⟨B,3,none⟩=some x3/\w.cell? ⟨B,4,none⟩=some x4/\w.cell? ⟨B,5,none⟩=some x5:=by
 refine ⟨?_,?_,?_,?_,?_,?_⟩
 all_goals (rw [cell_of_row w _ _ _ _ _ h];rfl)
end Go.Proofs.YtonnikipeokkaaaGreatDoor
