/-
  The document's lex: texted.
-/
import Derived.Test.YtonnikipeokkaaaGreatDoorRlRunes
import Derived.Test.YtonnikipeokkaaaGreatDoorLxWord
namespace Go.Proofs.YtonnikipeokkaaaGreatDoor
open Go.RowKit Go.Lib

theorem runes_zero {l : List UInt8} {r : List Nat} (h : runesL l = some r) : r.length = 0 ↔ l = [] := by
  constructor
  · intro hr
    by_cases hl : l = []
    · exact hl
    · rw [runesL_step l hl] at h
      split at h
      · cases h
      · cases hx : runesL (l.drop (decodeL l).2) with
        | none => rw [hx] at h; cases h
        | some u => rw [hx] at h; injection h with h; rw [← h] at hr; simp at hr
  · rintro rfl
    rw [runesL_nil] at h; injection h with h; rw [← h]; rfl
end Go.Proofs.YtonnikipeokkaaaGreatDoor
