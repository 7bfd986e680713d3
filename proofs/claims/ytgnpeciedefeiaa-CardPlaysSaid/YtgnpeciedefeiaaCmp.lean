/-
  cmp.Compare of two ints; the closure by which Taken sorts.
-/
import Derived.Test.YtgnpeciedefeiaaActs
import Derived.Deep.QuietTactic
import Derived.BigQuiet
namespace Go.Proofs.Ytgnpeciedefeiaa
open Go.RowKit

/-- How two numbers stand. -/
def cmpI (x y : Int) : Int := if x < y then -1 else if y < x then 1 else 0

set_option maxHeartbeats 400000 in
theorem isNaN_any (x : Int) (w : World) : Calls Try.prog 90 #[.int .i64 x] w fun e w' => e = .returned (.bool false) ∧ w = w' := by
  go_enter Try.func90, Try.ntmps90
  go_wp2
  go_ret
  exact ⟨by simp, rfl⟩

set_option maxHeartbeats 400000 in
theorem cmp_any (x y : Int) (w : World) : Calls Try.prog 59 #[.int .i64 x, .int .i64 y] w fun e w' => e = .returned (.int .i64 (cmpI x y)) ∧ w = w' := by
  by_cases h : x < y
  · have e : cmpI x y = -1 := if_pos h
    rw [e]
    clear e
    go_enter Try.func59, Try.ntmps59
    go_wp2_with (go_at_call 90; refine (isNaN_any _ _).mono ?_; rintro e w' ⟨rfl, rfl⟩)
    go_ret
    exact ⟨rfl, rfl⟩
  · by_cases h' : y < x
    · have e : cmpI x y = 1 := by unfold cmpI; rw [if_neg h, if_pos h']
      rw [e]
      clear e
      go_enter Try.func59, Try.ntmps59
      go_wp2_with (go_at_call 90; refine (isNaN_any _ _).mono ?_; rintro e w' ⟨rfl, rfl⟩)
      go_ret
      exact ⟨rfl, rfl⟩
    · have e : cmpI x y = 0 := by unfold cmpI; rw [if_neg h, if_neg h']
      rw [e]
      clear e
      go_enter Try.func59, Try.ntmps59
      go_wp2_with (go_at_call 90; refine (isNaN_any _ _).mono ?_; rintro e w' ⟨rfl, rfl⟩)
      go_ret
      exact ⟨rfl, rfl⟩

set_option maxHeartbeats 400000 in
/-- The closure, in a world in which the memory lies. -/
theorem closure58 (p g mb : Nat) (M : MemV) (i j : Nat) (w : World) (h : MemAt w p g M) (hb : w.cell? ⟨mb, 0, none⟩ = some (.pointer (some ⟨p, 0, none⟩))) (hi : i < M.lim) (hj : j < M.lim) :
    Calls Try.prog 58 #[.int .i64 i, .int .i64 j, .pointer (some ⟨mb, 0, none⟩)] w fun e w' => e = .returned (.int .i64 (cmpI (M.sg i).taken (M.sg j).taken)) ∧ ∃ q, w' = w.drewN q := by
  obtain ⟨cap, c0, c1, c2⟩ := h.cells
  have t1 := h.segs.2 i hi 7 (by omega)
  have t2 := h.segs.2 j hj 7 (by omega)
  simp only [Sg.cell] at t1 t2
  go_enter Try.func58, Try.ntmps58
  go_wp2_with fail
  go_quiet ((go_at_call 59; exact Calls.quiet_of_same ((cmp_any _ _ _).mono fun _ _ ⟨he, hw⟩ => ⟨he, hw.symm⟩)))
  go_wp2
  go_ret
  exact ⟨rfl, _, rfl⟩
end Go.Proofs.Ytgnpeciedefeiaa
