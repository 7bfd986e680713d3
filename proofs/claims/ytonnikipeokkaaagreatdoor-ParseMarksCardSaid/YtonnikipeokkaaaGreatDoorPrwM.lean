/-
  The law ParseMarks: what a mark ahead of a text makes. Plain Lean, no program in sight.
-/
import Derived.Test.YtonnikipeokkaaaGreatDoorPrwE
namespace Go.Proofs.YtonnikipeokkaaaGreatDoor
open Go.RowKit Go.Lib

theorem mark_next {x : UInt8} {t : List UInt8} {k n : Nat} (hl : (x :: t).length ≤ 4096) (h : tokL (x :: t) = .ok ⟨k, n, false, .no⟩) : nextV (x :: t) 0 = .ok (0, ⟨k, n, false, .no⟩) := by
  have := nextV_eq (l := x :: t) (i := 0) hl (Nat.zero_le _)
  rw [show ((0 : Nat) : Int) = 0 from rfl] at this
  rw [this]
  exact lexAt_of (skipAt_tok h) (by simp) h
/-- The i-th mark's bytes ahead of a text. -/
def markM (i : Nat) (s : List UInt8) : List UInt8 :=
  if i = 0 then [39] else if i = 1 then [96] else if i = 2 then (if s.head? = some 64 then [44, 32] else [44]) else [44, 64]
theorem mark_all (i : Nat) (hi : i < 4) {s : List UInt8} (hs : s.length ≤ 3000) {d : Raw} {e : Nat} (h : OneR s 0 (.ok (d, e))) :
    (∃ e', OneR (markM i s ++ s) 0 (.ok (markR (4 + i) d, e'))) ∨ ∃ q, OneR (markM i s ++ s) 0 (.error (q, 10)) := by
  match i, hi with
  | 0, _ => exact mark_one (m := [39]) (k := 4) (n := 1) (by simp; omega) (by omega) (mark_next (by simp; omega) rfl) rfl h
  | 1, _ => exact mark_one (m := [96]) (k := 5) (n := 1) (by simp; omega) (by omega) (mark_next (by simp; omega) rfl) rfl h
  | 3, _ => exact mark_one (m := [44, 64]) (k := 7) (n := 2) (by simp; omega) (by omega) (mark_next (by simp; omega) rfl) rfl h
  | 2, _ =>
    by_cases hh : s.head? = some 64
    · have e2 : markM 2 s = [44, 32] := by unfold markM; rw [if_neg (by decide), if_neg (by decide), if_pos rfl, if_pos hh]
      rw [e2]
      refine mark_one (m := [44, 32]) (k := 6) (n := 1) (by simp; omega) (by omega) (mark_next (by simp; omega) rfl) ?_ h
      have h1 := nextV_eq (l := [44, 32] ++ s) (i := 1) (by simp; omega) (by simp)
      have h2 := nextV_eq (l := [44, 32] ++ s) (i := 2) (by simp; omega) (by simp)
      rw [show ([44, 32] : List UInt8).length = 2 from rfl, h1, h2]
      unfold lexAt
      rw [skipAt_blank (i := 1) (by simp) rfl]
    · have e2 : markM 2 s = [44] := by unfold markM; rw [if_neg (by decide), if_neg (by decide), if_pos rfl, if_neg hh]
      rw [e2]
      refine mark_one (m := [44]) (k := 6) (n := 1) (by simp; omega) (by omega) (mark_next (by simp; omega) ?_) rfl h
      rw [tokL, if_neg (by decide), if_neg (by decide), if_neg (by decide), if_neg (by decide), if_pos rfl, if_neg]
      exact hh
/-- What is read of the i-th mark and a text, of which d is read. -/
theorem mark_got (i : Nat) (hi : i < 4) {s : List UInt8} (hs : s.length ≤ 3000) {r : Got} (h : OneR s 0 r) : ∃ g : Got, OneR (markM i s ++ s) 0 g ∧ ∀ d e, r = .ok (d, e) → (∃ e', g = .ok (markR (4 + i) d, e')) ∨ ∃ q, g = .error (q, 10) := by
  cases r with
  | error x =>
    obtain ⟨g, hg⟩ := OneR.ex (markM i s ++ s) 0
    exact ⟨g, hg, fun d e h => by cases h⟩
  | ok x =>
    obtain ⟨d, e⟩ := x
    rcases mark_all i hi hs h with ⟨e', hg⟩ | ⟨q, hg⟩
    · exact ⟨_, hg, fun d' e2 h => by injection h with h; injection h with h1 _; subst h1; exact .inl ⟨e', rfl⟩⟩
    · exact ⟨_, hg, fun d' e2 h => .inr ⟨q, rfl⟩⟩
end Go.Proofs.YtonnikipeokkaaaGreatDoor
