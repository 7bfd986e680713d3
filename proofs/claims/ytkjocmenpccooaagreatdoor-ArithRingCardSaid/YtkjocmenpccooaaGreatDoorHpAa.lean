/-
  arith.reckon, of one number and of differences.
-/
import Derived.Test.YtkjocmenpccooaaGreatDoorHpZ
namespace Go.Proofs.YtkjocmenpccooaaGreatDoor
open Go.RowKit

theorem NumsR.tail {w : World} {b off : Nat} {x : Int} {xs : List Int} (h : NumsR w (some ⟨b, off, none⟩) (x :: xs)) : NumsR w (some ⟨b, off + 2, none⟩) xs := fun i hi => by
  obtain ⟨b', off', A, n, c, hR, hb, h0, h1, hl, hf⟩ := h (i + 1) (by simpa using hi)
  injection hR with e
  injection e with e1 e2
  subst e1 e2
  rw [show off + (i + 1) * 2 = off + 2 + i * 2 from by omega] at h0 h1
  exact ⟨b, off + 2, A, n, c, rfl, hb, h0, h1, hl, hf⟩
end Go.Proofs.YtkjocmenpccooaaGreatDoor
