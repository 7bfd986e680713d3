/-
  num: slices.Reverse and strings.Join at a row of strings of the call's own.
-/
import Derived.Test.YtdfekphahdmffaaDoorNuFmt
namespace Go.Proofs.YtdfekphahdmffaaDoor
open Go.RowKit Go.Sort Go.Lib

/-- A row of strings that the call has made itself. -/
def OwnS (w : World) (base : Nat) (v : Value) (ps : List (List UInt8)) : Prop := w.ownsRow base 9 1 v ps.length (ps.map encStr)
theorem own_holds {w : World} {base g cap : Nat} {ps : List (List UInt8)} (h : OwnS w base (.slice (some ⟨g, 0, none⟩) ps.length cap) ps) : Holds encStr w g 0 ps.toArray := by
  intro j hj
  have hj' : j < ps.length := by simpa using hj
  refine ⟨?_, ?_⟩
  · have := World.ownsRow.cellAt h j (by rw [Nat.mul_one]; exact hj')
    rw [Nat.zero_add]
    rw [this]
    simp [hj']
  · rcases h.2 with ⟨hn, _⟩ | ⟨g2, cap2, cur2, hv, hg, hh, _⟩
    · cases hn
    · injection hv with e _ _
      injection e with e
      injection e with e _ _
      subst e
      simp [World.frozen?, hh]
theorem join_empty : ∀ l : List (List UInt8), Lib.join l [] = l.flatten := by
  intro l
  cases l with
  | nil => rfl
  | cons x r =>
    rw [Lib.join_cons]
    simp [Lib.joinTail]
theorem rev_post {w w' : World} {base g cap n : Nat} {ps : List (List UInt8)} (h : OwnS w base (.slice (some ⟨g, 0, none⟩) ps.length cap) ps) (hw : w' = putRow encStr (Sort.ahead w n) g 0 ps.reverse.toArray) :
    Keep (fun x => x = g) w w' ∧ (∀ (j : Nat) x, (ps.reverse.map fun s : List UInt8 => (⟨s.toArray⟩ : ByteArray))[j]? = some x → w'.cell? ⟨g, 0 + j, none⟩ = some (.string x)) := by
  subst hw
  refine ⟨?_, ?_⟩
  · refine ⟨rfl, rfl, rfl, by simp [putRow, mapBlock, Sort.ahead], fun i _ hs => ?_⟩
    simp only [putRow, mapBlock, Sort.ahead, Array.getElem?_modify]
    rw [if_neg (fun e => hs e.symm)]
  · intro j x hx
    have hH := own_holds h
    have hj : j < ps.length := by
      rcases Nat.lt_or_ge j ps.length with h' | h'
      · exact h'
      · rw [List.getElem?_eq_none (by simp; omega)] at hx; cases hx
    have hH2 : Holds encStr (Sort.ahead w n) g 0 ps.toArray := fun i hi => hH i hi
    rw [cell?_putRow encStr (Sort.ahead w n) g 0 ps.toArray ps.reverse.toArray hH2 (by simp) j (by simpa using hj)]
    rw [List.getElem?_map, List.getElem?_eq_getElem (by simpa using hj)] at hx
    simp only [Option.map_some, Option.some.injEq] at hx
    rw [← hx]
    rw [getElem!_pos _ j (by simpa using hj)]
    simp
end Go.Proofs.YtdfekphahdmffaaDoor
