/-
  Data that may be: what a token has, and what reading makes. Plain Lean, no program in sight.
-/
import Derived.Test.YtonnikipeokkaaaGreatDoorPaMem
namespace Go.Proofs.YtonnikipeokkaaaGreatDoor
open Go.Lib

mutual
/-- Data within data. -/
def depthR : Raw → Nat
  | .mk k _ _ _ _ l => max (if k = 8 then 1 else 0) (depthL k l)
def depthL (k : Int) : List Raw → Nat
  | [] => 0
  | x :: l => max (if k = 7 ∧ l = [] ∧ x.k = 7 then depthR x else depthR x + 1) (depthL k l)
end
/-! ### tokens -/
theorem decode_char (l : List UInt8) : charB (decodeL l).1 = true := by
  rw [decodeL_N]
  unfold decodeN charB
  repeat' split
  all_goals first | decide | (apply decide_eq_true; simp only; omega)
/-! ### what reading makes -/
end Go.Proofs.YtonnikipeokkaaaGreatDoor
