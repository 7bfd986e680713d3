/-
  The law ParseEither: where an error stands, and the walk.
-/
import Derived.Test.YtonnikipeokkaaaGreatDoorPaLaw
import Derived.Test.YtonnikipeokkaaaGreatDoorPaDoc
import Derived.Test.YtonnikipeokkaaaGreatDoorN3
import Derived.Test.YtonnikipeokkaaaGreatDoorPaLx
import Derived.Laws.BitsAllLaws
import Derived.Test.YtonnikipeokkaaaGreatDoorLxTok
import Derived.LoopN
import Derived.Test.YtonnikipeokkaaaGreatDoorPaMem
namespace Go.Proofs.YtonnikipeokkaaaGreatDoor
open Go.RowKit Go.Lib

theorem OneR.code0 {l : List UInt8} {i : Int} {p c : Nat} (h : OneR l i (.error (p, c))) : c ≠ 0 := by
  rcases h.code with h | h <;> omega
end Go.Proofs.YtonnikipeokkaaaGreatDoor
