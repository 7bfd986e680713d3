/-
  What the laws of arithmetic ask of plain integers.
-/
import Derived.Test.YtkjocmenpccooaaGreatDoorHpAm
namespace Go.Proofs.YtkjocmenpccooaaGreatDoor

theorem tm_emod (a b : Int) : (a.tmod b = a % b ∧ (0 ≤ a ∨ a % b = 0)) ∨ (a.tmod b = a % b - (b.natAbs : Int) ∧ a < 0 ∧ a % b ≠ 0) := by
  rw [Int.tmod_eq_emod]
  by_cases h : 0 ≤ a ∨ b ∣ a
  · rw [if_pos h]
    rw [Int.dvd_iff_emod_eq_zero] at h
    exact .inl ⟨by omega, h⟩
  · rw [if_neg h]
    rw [Int.dvd_iff_emod_eq_zero] at h
    exact .inr ⟨rfl, by omega, by omega⟩
theorem fm_emod (a b : Int) : (a.fmod b = a % b ∧ (0 ≤ b ∨ a % b = 0)) ∨ (a.fmod b = a % b + b ∧ b < 0 ∧ a % b ≠ 0) := by
  rw [Int.fmod_eq_emod]
  by_cases h : 0 ≤ b ∨ b ∣ a
  · rw [if_pos h]
    rw [Int.dvd_iff_emod_eq_zero] at h
    exact .inl ⟨by omega, h⟩
  · rw [if_neg h]
    rw [Int.dvd_iff_emod_eq_zero] at h
    exact .inr ⟨rfl, by omega, by omega⟩
structure DivF (a b : Int) : Prop where
  back : a.tdiv b * b + a.tmod b = a
  qa : (a.tdiv b).natAbs ≤ a.natAbs
  qb : (a.tdiv b * b).natAbs ≤ a.natAbs
  ra : (a.tmod b).natAbs ≤ a.natAbs
  rb : (a.tmod b).natAbs < b.natAbs
  mb : (a.fmod b).natAbs < b.natAbs
  rs : a.tmod b ≠ 0 → signI (a.tmod b) = signI a
  ms : a.fmod b ≠ 0 → signI (a.fmod b) = signI b
  d : a.fmod b - a.tmod b = 0 ∨ a.fmod b - a.tmod b = b
theorem div_facts (a b : Int) (hb : b ≠ 0) : DivF a b := by
  have e0 := Int.emod_nonneg a hb
  have e1 := Int.emod_lt a hb
  have e1 : a % b < (b.natAbs : Int) := by omega
  have hq := Int.natAbs_tdiv a b
  have hr := Int.natAbs_tmod a b
  have hd := Nat.div_mul_le_self a.natAbs b.natAbs
  have hm := Nat.mod_lt a.natAbs (show 0 < b.natAbs by omega)
  have T := tm_emod a b
  have F := fm_emod a b
  refine ⟨by rw [Int.mul_comm]; exact Int.mul_tdiv_add_tmod a b, ?_, ?_, ?_, ?_, ?_, ?_, ?_, ?_⟩
  · rw [hq]; exact Nat.div_le_self _ _
  · rw [Int.natAbs_mul, hq]; exact hd
  · rw [hr]; exact Nat.mod_le _ _
  · rw [hr]; exact hm
  · omega
  · intro h
    unfold signI
    rcases T with ⟨t, u⟩ | ⟨t, u, v⟩
    · rw [t] at h ⊢
      have : 0 < a := by
        rcases u with u | u
        · rcases (by omega : 0 < a ∨ a = 0) with u | u
          · exact u
          · rw [u] at h; simp at h
        · exact absurd u h
      rw [if_neg (by omega), if_pos (by omega), if_neg (by omega), if_pos this]
    · rw [if_pos (by omega), if_pos u]
  · intro h
    unfold signI
    rcases F with ⟨t, u⟩ | ⟨t, u, v⟩
    · rcases u with u | u
      · rw [if_neg (by omega), if_pos (by omega), if_neg (by omega), if_pos (by omega)]
      · omega
    · rw [if_pos (by omega), if_pos u]
  · omega
theorem Fits_le {x y : Int} (h : x.natAbs ≤ y.natAbs) (hy : Fits y) : Fits x := (Fits_iff x).2 (Nat.lt_of_le_of_lt h ((Fits_iff y).1 hy))
theorem fold_one {op : Int → Int → Int} {a x : Int} (hf : Fits (op a x)) : foldV op a [x] = some (op a x) := by
  unfold foldV
  rw [if_pos hf]
  rfl
/-- A sum, or a product, of two. -/
theorem fold_two {op : Int → Int → Int} {a x y v : Int} (h1 : op a x = x) (hx : Fits x) (hv : op x y = v) (hf : Fits v) : foldV op a [x, y] = some v := by
  have h2 : Fits (op a x) := by rw [h1]; exact hx
  unfold foldV
  rw [if_pos h2, h1]
  subst hv
  exact fold_one hf
theorem fold_two_no {op : Int → Int → Int} {a x y : Int} (h1 : op a x = x) (hx : Fits x) (hf : ¬ Fits (op x y)) : foldV op a [x, y] = none := by
  have h2 : Fits (op a x) := by rw [h1]; exact hx
  unfold foldV
  rw [if_pos h2, h1]
  unfold foldV
  rw [if_neg hf]
theorem sum_two (x y : Int) (hx : Fits x) : foldV (· + ·) 0 [x, y] = if Fits (x + y) then some (x + y) else none := by
  by_cases hf : Fits (x + y)
  · rw [if_pos hf]; exact fold_two (Int.zero_add x) hx rfl hf
  · rw [if_neg hf]; exact fold_two_no (Int.zero_add x) hx hf
/-- The modulo. -/
structure ModF (x y : Int) : Prop where
  m : Fits (divV 6 x y)
  z : divV 5 (x - divV 6 x y) y = 0
  s : divV 6 x y = 0 ∨ decide (divV 6 x y < 0) = decide (y < 0)
theorem mod_facts (x y : Int) (hy : Fits y) (h0 : y ≠ 0) : ModF x y := by
  have F := div_facts x y h0
  have e6 : divV 6 x y = x.fmod y := by unfold divV; rw [if_neg (by decide), if_neg (by decide)]
  refine ⟨by rw [e6]; exact Fits_le (Nat.le_of_lt F.mb) hy, ?_, ?_⟩
  · have e5 : divV 5 (x - divV 6 x y) y = (x - divV 6 x y).tmod y := by unfold divV; rw [if_neg (by decide), if_pos rfl]
    rw [e5, e6]
    have hb : x - x.fmod y = y * x.fdiv y := by have := Int.mul_fdiv_add_fmod x y; omega
    rw [hb]
    exact Int.mul_tmod_right _ _
  · by_cases hm : x.fmod y = 0
    · exact .inl (by rw [e6]; exact hm)
    · refine .inr ?_
      have := F.ms hm
      unfold signI at this
      rw [e6]
      by_cases h1 : x.fmod y < 0
      · rw [if_pos h1] at this
        by_cases h2 : y < 0
        · rw [decide_eq_true h1, decide_eq_true h2]
        · rw [if_neg h2] at this
          by_cases h3 : 0 < y
          · rw [if_pos h3] at this; exact absurd this (by decide)
          · rw [if_neg h3] at this; exact absurd this (by decide)
      · rw [if_neg h1, if_pos (by omega)] at this
        by_cases h2 : y < 0
        · rw [if_pos h2] at this; exact absurd this (by decide)
        · rw [decide_eq_false h1, decide_eq_false h2]
end Go.Proofs.YtkjocmenpccooaaGreatDoor
