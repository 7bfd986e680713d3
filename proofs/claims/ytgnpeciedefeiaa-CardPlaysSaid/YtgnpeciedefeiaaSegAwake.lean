/-
  morainelaw07.awake: the chapter's first examples hold.
-/
import Derived.Test.YtgnpeciedefeiaaSegTake
namespace Go.Proofs.Ytgnpeciedefeiaa
open Go.RowKit

namespace Aw7
def a1 : MemV := MemV.new 8
def a2 : MemV := a1.took 0 0 0
def a3 : MemV := a2.took 1 1 2
def a4 : MemV := a3.bumped 1 63
def a5 : MemV := a4.put 1 ((a4.sg 1).write 1 7)
end Aw7
open Aw7

theorem a5_no : ¬ a5.used 127 := by
  rintro ⟨_, _, h⟩
  revert h
  decide

set_option maxRecDepth 100000 in
set_option maxHeartbeats 1000000 in
theorem awake7 (w : World) : Calls Try.prog 14 #[] w fun e w' => e = .returned (.bool true) ∧ Keep (fun _ => False) w w' := by
  go_enter Try.func14, Try.ntmps14
  go_wp2_with fail
  refine (new_yes 8 _ _ (by rfl) (by omega) (by omega)).mono ?_
  rintro e w1 ⟨rfl, m1, k1⟩
  go_wp2_with fail
  refine (take_yes _ _ a1 0 _ _ _ m1 (by decide) (by decide) (by decide) (by decide) (by decide) (by decide) (by decide) (by decide) (by decide) (by decide) (by decide) (by decide) (by decide)).mono ?_
  rintro e w2 ⟨rfl, m2, k2⟩
  go_wp2_with fail
  refine (take_yes _ _ a2 1 _ _ _ m2 (by decide) (by decide) (by decide) (by decide) (by decide) (by decide) (by decide) (by decide) (by decide) (by decide) (by decide) (by decide) (by decide)).mono ?_
  rintro e w3 ⟨rfl, m3, k3⟩
  go_wp2_with fail
  refine (bump_yes _ _ a3 1 _ _ _ m3 (by decide) (by rfl) (by decide) (by decide) (by decide) (by decide) (by decide)).mono ?_
  rintro e w4 ⟨rfl, m4, k4⟩
  have e1 : ((1 : Nat) : Int) * 64 + (a3.sg 1).n = 64 := by decide
  rw [e1]
  clear e1
  go_wp2_with fail
  refine (bump_full _ _ a4 1 _ _ _ m4 (by decide) (by rfl) (by decide) (by decide) (by decide) (by decide) (by decide) (by decide)).mono ?_
  rintro e w5 ⟨rfl, rfl⟩
  go_wp2_with fail
  refine (write_yes _ _ a4 65 _ _ _ m4 (by decide) (by rfl) (by decide) (by decide) (by decide) (by decide)).mono ?_
  rintro e w6 ⟨rfl, m6, k6⟩
  go_wp2_with fail
  refine (read_yes _ _ a5 65 _ _ m6 (by decide) (by rfl) (by decide) (by decide) (by decide) (by decide)).mono ?_
  rintro e w7 ⟨rfl, rfl⟩
  have e2 : (a5.sg (65 / 64)).words (65 % 64) = 7 := by decide
  rw [e2]
  clear e2
  go_wp2_with fail
  refine (read_no _ _ a5 _ _ m6 (by decide) (by decide) (by decide) a5_no).mono ?_
  rintro e w8 ⟨rfl, rfl⟩
  go_wp2_with fail
  refine (free_any _ _ a5 _ m6).mono ?_
  rintro e w9 ⟨rfl, rfl⟩
  have e3 : a5.free = 6 := by decide
  rw [e3]
  clear e3
  go_wp2_with fail
  go_ret
  have F : ∀ {a b : World}, Keep (Mine (w.heap.size + 1) w.heap.size) a b → Keep (fun k => w.heap.size ≤ k) a b := fun h => h.mono (by intro k _ hk; rcases hk with rfl | rfl <;> omega)
  exact ⟨rfl, ((((k1.mono (by intro k _ hk; cases hk)).trans (F k2)).trans (F k3)).trans ((F k4).trans (F k6))).mono (by intro k hk hk'; omega)⟩
end Go.Proofs.Ytgnpeciedefeiaa
