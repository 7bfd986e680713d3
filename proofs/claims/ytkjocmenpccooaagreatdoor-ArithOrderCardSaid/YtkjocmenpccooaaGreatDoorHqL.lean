/-
  What the laws of arithmetic ask of plain integers.
-/
import Derived.Test.YtkjocmenpccooaaGreatDoorHpAm
namespace Go.Proofs.YtkjocmenpccooaaGreatDoor

theorem fold_one {op : Int → Int → Int} {a x : Int} (hf : Fits (op a x)) : foldV op a [x] = some (op a x) := by
  unfold foldV
  rw [if_pos hf]
  rfl
theorem so_two (k x y : Int) : orderB k [x, y] = soB k (cmpI x y) := by unfold orderB; rw [show orderB k [y] = true from rfl, Bool.and_true]
theorem so_three (k x y z : Int) : orderB k [x, y, z] = (orderB k [x, y] && orderB k [y, z]) := by
  rw [so_two]
  rfl
theorem so_8 (x y : Int) : orderB 8 [x, y] = decide (x < y) := by
  rw [so_two]
  unfold soB cmpI
  by_cases h : x < y
  · simp [h]
  · by_cases h2 : y < x <;> simp [h, h2]
theorem so_9 (x y : Int) : orderB 9 [x, y] = decide (y < x) := by
  rw [so_two]
  unfold soB cmpI
  by_cases h : x < y
  · simp [h, show ¬ y < x by omega]
  · by_cases h2 : y < x <;> simp [h, h2]
theorem so_10 (x y : Int) : orderB 10 [x, y] = decide (x ≤ y) := by
  rw [so_two]
  unfold soB cmpI
  by_cases h : x < y
  · simp [h, show x ≤ y by omega]
  · by_cases h2 : y < x
    · simp [h, h2, show ¬ x ≤ y by omega]
    · simp [h, h2, show x ≤ y by omega]
theorem so_11 (x y : Int) : orderB 11 [x, y] = decide (y ≤ x) := by
  rw [so_two]
  unfold soB cmpI
  by_cases h : x < y
  · simp [h, show ¬ y ≤ x by omega]
  · by_cases h2 : y < x
    · simp [h, h2, show y ≤ x by omega]
    · simp [h, h2, show y ≤ x by omega]
theorem bet_12 (x b : Int) : betB 12 x b = decide (b < x) := by
  unfold betB cmpI
  by_cases h : x < b
  · simp [h, show ¬ b < x by omega]
  · by_cases h2 : b < x <;> simp [h, h2]
theorem bet_13 (x b : Int) : betB 13 x b = decide (x < b) := by
  unfold betB cmpI
  by_cases h : x < b
  · simp [h]
  · by_cases h2 : b < x <;> simp [h, h2]
/-- The greatest one of three. -/
theorem best_12 (x y z : Int) : x ≤ bestV 12 x [y, z] ∧ y ≤ bestV 12 x [y, z] ∧ z ≤ bestV 12 x [y, z] := by
  unfold bestV bestV bestV
  simp only [bet_12, decide_eq_true_eq]
  split <;> split <;> omega
theorem best_13 (x y z : Int) : bestV 13 x [y, z] ≤ x ∧ bestV 13 x [y, z] ≤ y ∧ bestV 13 x [y, z] ≤ z := by
  unfold bestV bestV bestV
  simp only [bet_13, decide_eq_true_eq]
  split <;> split <;> omega
theorem best_of (k x y z : Int) : bestV k x [y, z] = x ∨ bestV k x [y, z] = y ∨ bestV k x [y, z] = z := by
  rcases bestV_mem k [y, z] x with h | h
  · exact .inl h
  · simp only [List.mem_cons, List.not_mem_nil, or_false] at h
    exact .inr h
end Go.Proofs.YtkjocmenpccooaaGreatDoor
