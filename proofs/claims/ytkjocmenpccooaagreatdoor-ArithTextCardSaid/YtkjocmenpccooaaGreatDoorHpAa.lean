/-
  arith.reckon, of one number and of differences.
  arith.reckon, of a difference.
-/
import Derived.Test.YtkjocmenpccooaaGreatDoorHpZ
namespace Go.Proofs.YtkjocmenpccooaaGreatDoor
open Go.RowKit

theorem NumsR.one {w : World} {R : Option Addr} {x : Int} {xs : List Int} (h : NumsR w R (x :: xs)) : ∃ b off A n c, R = some ⟨b, off, none⟩ ∧ b < w.heap.size ∧ w.cell? ⟨b, off, none⟩ = some (.bool (decide (x < 0))) ∧ w.cell? ⟨b, off + 1, none⟩ = some (.slice A n c) ∧ LimbsAt w A n c (limbs x.natAbs) ∧ Fits x := by
  obtain ⟨b, off, A, n, c, hR, hb, h0, h1, hl, hf⟩ := h 0 (by simp)
  exact ⟨b, off, A, n, c, hR, hb, by simpa using h0, by simpa using h1, hl, hf⟩
end Go.Proofs.YtkjocmenpccooaaGreatDoor

namespace Go.Proofs.YtkjocmenpccooaaGreatDoor
open Go.RowKit

end Go.Proofs.YtkjocmenpccooaaGreatDoor
