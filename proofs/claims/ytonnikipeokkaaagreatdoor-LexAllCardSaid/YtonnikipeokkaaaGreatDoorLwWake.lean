/-
  The law's sample of lex.
-/
import Derived.Test.YtonnikipeokkaaaGreatDoorLwAll
namespace Go.Proofs.YtonnikipeokkaaaGreatDoor
open Go.RowKit Go.Lib

theorem wake_0 : nextV [40, 97, 32, 46, 32, 55, 41, 32, 59, 120] ((0 : Nat) : Int) = .ok (0, ⟨1, 1, false, .no⟩) := by kernel_rfl
theorem wake_1 : nextV [40, 97, 32, 46, 32, 55, 41, 32, 59, 120] ((1 : Nat) : Int) = .ok (1, ⟨9, 1, false, .sym [97]⟩) := by kernel_rfl
theorem wake_2 : nextV [40, 97, 32, 46, 32, 55, 41, 32, 59, 120] ((2 : Nat) : Int) = .ok (3, ⟨8, 1, false, .no⟩) := by kernel_rfl
theorem wake_3 : nextV [40, 97, 32, 46, 32, 55, 41, 32, 59, 120] ((4 : Nat) : Int) = .ok (5, ⟨9, 1, false, .int 7⟩) := by kernel_rfl
theorem wake_4 : nextV [40, 97, 32, 46, 32, 55, 41, 32, 59, 120] ((6 : Nat) : Int) = .ok (6, ⟨2, 1, false, .no⟩) := by kernel_rfl
theorem wake_5 : nextV [40, 97, 32, 46, 32, 55, 41, 32, 59, 120] ((7 : Nat) : Int) = .ok (10, ⟨0, 0, false, .no⟩) := by kernel_rfl
theorem wake_toks : Toks [40, 97, 32, 46, 32, 55, 41, 32, 59, 120] 0 [(0, ⟨1, 1, false, .no⟩), (1, ⟨9, 1, false, .sym [97]⟩), (3, ⟨8, 1, false, .no⟩), (5, ⟨9, 1, false, .int 7⟩), (6, ⟨2, 1, false, .no⟩)] 0 0 :=
  .cons wake_0 (by decide) (.cons wake_1 (by decide) (.cons wake_2 (by decide) (.cons wake_3 (by decide) (.cons wake_4 (by decide) (.fin wake_5 rfl)))))
theorem own_cap {w : World} {base n c : Nat} {A : Option Addr} {xs : List Value} (h : w.ownsRow base 29 10 (.slice A n c) n xs) : n ≤ c := by
  rcases h.2 with ⟨hv, h0⟩ | ⟨g, cap, cur, hv, hg, hh, h1, _⟩
  · omega
  · injection hv with _ _ e3
    omega
set_option maxRecDepth 100000 in
set_option maxHeartbeats 2000000 in
theorem awake_any (w : World) (hT : Tabs w) : Calls Tryz.prog 16 #[] w fun e w' => e = .returned (.bool true) ∧ Keep (fun _ => False) w w' := by
  have HAL := Lib.hid (all_any ⟨#[40, 97, 32, 46, 32, 55, 41, 32, 59, 120]⟩ _ 0 0 w hT wake_toks)
  clear hT
  go_enter Tryz.func16, Tryz.ntmps16
  go_wp2_with fail
  refine (HAL.out).mono ?_
  rintro e w1 ⟨vs, A, cap, rfl, hall, hown, K⟩
  have HK := Lib.hid K
  obtain ⟨v0, v1, v2, v3, v4, rfl, i0, i1, i2, i3, i4⟩ : ∃ v0 v1 v2 v3 v4, vs = [v0, v1, v2, v3, v4] ∧ TvIs w1 (0, ⟨1, 1, false, .no⟩) v0 ∧ TvIs w1 (1, ⟨9, 1, false, .sym [97]⟩) v1 ∧ TvIs w1 (3, ⟨8, 1, false, .no⟩) v2 ∧ TvIs w1 (5, ⟨9, 1, false, .int 7⟩) v3 ∧ TvIs w1 (6, ⟨2, 1, false, .no⟩) v4 := by
    match vs, hall with
    | [v0, v1, v2, v3, v4], h => exact ⟨v0, v1, v2, v3, v4, rfl, h.1, h.2.1, h.2.2.1, h.2.2.2.1, h.2.2.2.2.1⟩
  rcases hown.2 with ⟨hv, h0⟩ | ⟨g, cap2, cur, hv, _⟩
  · cases h0
  injection hv with e1 _ e3
  subst e1
  have hcap : 5 ≤ cap := own_cap hown
  have HC := fun (j : Nat) (hj : j < 50) => World.ownsRow.cellAt hown j (show j < 5 * 10 from hj)
  have c0 : w1.cell? ⟨g, 0, none⟩ = some (.int .i64 1) := by have := HC 0 (by omega); rw [this]; simp [TV.cells, i0.1]
  have c1 : w1.cell? ⟨g, 18, none⟩ = some (.string ⟨#[97]⟩) := by have := HC 18 (by omega); rw [this]; simp [TV.cells, i1.2.2.2.2.2.2.2.2.2.2]
  have c2 : w1.cell? ⟨g, 20, none⟩ = some (.int .i64 8) := by have := HC 20 (by omega); rw [this]; simp [TV.cells, i2.1]
  have c3 : w1.cell? ⟨g, 31, none⟩ = some (.int .i64 5) := by have := HC 31 (by omega); rw [this]; simp [TV.cells, i3.2.1]
  have c4 : w1.cell? ⟨g, 42, none⟩ = some (.int .i64 7) := by have := HC 42 (by omega); rw [this]; simp [TV.cells, i4.2.2.1]
  clear HC hown hall K i0 i1 i2 i3 i4
  dsimp only [List.length_cons, List.length_nil]
  go_wp2_with fail
  go_ret
  exact ⟨rfl, HK.out⟩
end Go.Proofs.YtonnikipeokkaaaGreatDoor
