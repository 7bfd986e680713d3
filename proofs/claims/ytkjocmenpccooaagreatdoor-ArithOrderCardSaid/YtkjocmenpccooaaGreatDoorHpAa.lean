/-
  arith.reckon, of one number and of differences.
-/
import Derived.Test.YtkjocmenpccooaaGreatDoorHpZ
namespace Go.Proofs.YtkjocmenpccooaaGreatDoor
open Go.RowKit

theorem NumsR.one {w : World} {R : Option Addr} {x : Int} {xs : List Int} (h : NumsR w R (x :: xs)) : ∃ b off A n c, R = some ⟨b, off, none⟩ ∧ b < w.heap.size ∧ w.cell? ⟨b, off, none⟩ = some (.bool (decide (x < 0))) ∧ w.cell? ⟨b, off + 1, none⟩ = some (.slice A n c) ∧ LimbsAt w A n c (limbs x.natAbs) ∧ Fits x := by
  obtain ⟨b, off, A, n, c, hR, hb, h0, h1, hl, hf⟩ := h 0 (by simp)
  exact ⟨b, off, A, n, c, hR, hb, by simpa using h0, by simpa using h1, hl, hf⟩
theorem NumsR.tail {w : World} {b off : Nat} {x : Int} {xs : List Int} (h : NumsR w (some ⟨b, off, none⟩) (x :: xs)) : NumsR w (some ⟨b, off + 2, none⟩) xs := fun i hi => by
  obtain ⟨b', off', A, n, c, hR, hb, h0, h1, hl, hf⟩ := h (i + 1) (by simpa using hi)
  injection hR with e
  injection e with e1 e2
  subst e1 e2
  rw [show off + (i + 1) * 2 = off + 2 + i * 2 from by omega] at h0 h1
  exact ⟨b, off + 2, A, n, c, rfl, hb, h0, h1, hl, hf⟩
end Go.Proofs.YtkjocmenpccooaaGreatDoor
