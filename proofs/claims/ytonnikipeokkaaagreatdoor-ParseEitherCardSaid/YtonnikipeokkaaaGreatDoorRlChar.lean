/-
  The document's lex: char.
-/
import Derived.Test.YtonnikipeokkaaaGreatDoorRlText
import Derived.Test.YtonnikipeokkaaaGreatDoorRlRunes
import Derived.Test.YtonnikipeokkaaaGreatDoorLxNum
import Derived.Test.YtonnikipeokkaaaGreatDoorPaRl
import Derived.Test.YtonnikipeokkaaaGreatDoorLxChar
namespace Go.Proofs.YtonnikipeokkaaaGreatDoor
open Go.RowKit Go.Lib

theorem decodeN_four (n b0 b1 b2 b3 : Nat) : (decodeN n b0 b1 b2 b3).2 ≤ 4 := by
  unfold decodeN
  repeat' split
  all_goals simp
theorem decodeL_four (x : List UInt8) : (decodeL x).2 ≤ 4 := by rw [decodeL_N]; exact decodeN_four _ _ _ _ _
section
variable {t : List UInt8} {c z M : Nat} (hne : t ≠ []) (hd : decodeL t = (c, z)) (hg : ¬ (c = 65533 ∧ z = 1)) (hM : M = ((t.drop z).takeWhile (fun b => !delimB b)).length)
include hne hd hg hM
end
end Go.Proofs.YtonnikipeokkaaaGreatDoor
