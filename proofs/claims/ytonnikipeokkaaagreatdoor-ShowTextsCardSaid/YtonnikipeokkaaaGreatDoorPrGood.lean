/-
  Data that may be: what a token has, and what reading makes.
-/
import Derived.Test.YtonnikipeokkaaaGreatDoorPaMem
namespace Go.Proofs.YtonnikipeokkaaaGreatDoor
open Go.Lib (hid)
open Go.Lib
mutual
def aO:Raw->Nat
 | .mk k _ _ _ _ l=>max (if k=8 then 1 else 0) (fT k l)
def fT (k:Int):List Raw->Nat
 | []=>0
 | x :: l=>max (if k=7/\l=[]/\x.k=7 then aO x else aO x+1) (fT k l)
end
theorem jp (l:List UInt8):bn (decodeL l).1=true:=by
 rw [decodeL_N]
 unfold decodeN bn
 repeat' split
 all_goals first | decide | (apply dT;simp only;omega)
end Go.Proofs.YtonnikipeokkaaaGreatDoor
