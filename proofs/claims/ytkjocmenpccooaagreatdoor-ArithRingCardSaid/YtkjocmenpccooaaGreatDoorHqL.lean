/-
  What the laws of arithmetic ask of plain integers.
-/
import Derived.Test.YtkjocmenpccooaaGreatDoorHpAm
namespace Go.Proofs.YtkjocmenpccooaaGreatDoor

theorem tm_emod (a b : Int) : (a.tmod b = a % b ∧ (0 ≤ a ∨ a % b = 0)) ∨ (a.tmod b = a % b - (b.natAbs : Int) ∧ a < 0 ∧ a % b ≠ 0) := by
  rw [Int.tmod_eq_emod]
  by_cases h : 0 ≤ a ∨ b ∣ a
  · rw [if_pos h]
    rw [Int.dvd_iff_emod_eq_zero] at h
    exact .inl ⟨by omega, h⟩
  · rw [if_neg h]
    rw [Int.dvd_iff_emod_eq_zero] at h
    exact .inr ⟨rfl, by omega, by omega⟩
theorem fm_emod (a b : Int) : (a.fmod b = a % b ∧ (0 ≤ b ∨ a % b = 0)) ∨ (a.fmod b = a % b + b ∧ b < 0 ∧ a % b ≠ 0) := by
  rw [Int.fmod_eq_emod]
  by_cases h : 0 ≤ b ∨ b ∣ a
  · rw [if_pos h]
    rw [Int.dvd_iff_emod_eq_zero] at h
    exact .inl ⟨by omega, h⟩
  · rw [if_neg h]
    rw [Int.dvd_iff_emod_eq_zero] at h
    exact .inr ⟨rfl, by omega, by omega⟩
structure DivF (a b : Int) : Prop where
  back : a.tdiv b * b + a.tmod b = a
  qa : (a.tdiv b).natAbs ≤ a.natAbs
  qb : (a.tdiv b * b).natAbs ≤ a.natAbs
  ra : (a.tmod b).natAbs ≤ a.natAbs
  rb : (a.tmod b).natAbs < b.natAbs
  mb : (a.fmod b).natAbs < b.natAbs
  rs : a.tmod b ≠ 0 → signI (a.tmod b) = signI a
  ms : a.fmod b ≠ 0 → signI (a.fmod b) = signI b
  d : a.fmod b - a.tmod b = 0 ∨ a.fmod b - a.tmod b = b
theorem div_facts (a b : Int) (hb : b ≠ 0) : DivF a b := by
  have e0 := Int.emod_nonneg a hb
  have e1 := Int.emod_lt a hb
  have e1 : a % b < (b.natAbs : Int) := by omega
  have hq := Int.natAbs_tdiv a b
  have hr := Int.natAbs_tmod a b
  have hd := Nat.div_mul_le_self a.natAbs b.natAbs
  have hm := Nat.mod_lt a.natAbs (show 0 < b.natAbs by omega)
  have T := tm_emod a b
  have F := fm_emod a b
  refine ⟨by rw [Int.mul_comm]; exact Int.mul_tdiv_add_tmod a b, ?_, ?_, ?_, ?_, ?_, ?_, ?_, ?_⟩
  · rw [hq]; exact Nat.div_le_self _ _
  · rw [Int.natAbs_mul, hq]; exact hd
  · rw [hr]; exact Nat.mod_le _ _
  · rw [hr]; exact hm
  · omega
  · intro h
    unfold signI
    rcases T with ⟨t, u⟩ | ⟨t, u, v⟩
    · rw [t] at h ⊢
      have : 0 < a := by
        rcases u with u | u
        · rcases (by omega : 0 < a ∨ a = 0) with u | u
          · exact u
          · rw [u] at h; simp at h
        · exact absurd u h
      rw [if_neg (by omega), if_pos (by omega), if_neg (by omega), if_pos this]
    · rw [if_pos (by omega), if_pos u]
  · intro h
    unfold signI
    rcases F with ⟨t, u⟩ | ⟨t, u, v⟩
    · rcases u with u | u
      · rw [if_neg (by omega), if_pos (by omega), if_neg (by omega), if_pos (by omega)]
      · omega
    · rw [if_pos (by omega), if_pos u]
  · omega
theorem Fits_le {x y : Int} (h : x.natAbs ≤ y.natAbs) (hy : Fits y) : Fits x := (Fits_iff x).2 (Nat.lt_of_le_of_lt h ((Fits_iff y).1 hy))
theorem fold_one {op : Int → Int → Int} {a x : Int} (hf : Fits (op a x)) : foldV op a [x] = some (op a x) := by
  unfold foldV
  rw [if_pos hf]
  rfl
/-- A sum, or a product, of two. -/
theorem fold_two {op : Int → Int → Int} {a x y v : Int} (h1 : op a x = x) (hx : Fits x) (hv : op x y = v) (hf : Fits v) : foldV op a [x, y] = some v := by
  have h2 : Fits (op a x) := by rw [h1]; exact hx
  unfold foldV
  rw [if_pos h2, h1]
  subst hv
  exact fold_one hf
theorem fold_two_no {op : Int → Int → Int} {a x y : Int} (h1 : op a x = x) (hx : Fits x) (hf : ¬ Fits (op x y)) : foldV op a [x, y] = none := by
  have h2 : Fits (op a x) := by rw [h1]; exact hx
  unfold foldV
  rw [if_pos h2, h1]
  unfold foldV
  rw [if_neg hf]
theorem fold_some {op : Int → Int → Int} (xs : List Int) : ∀ (a : Int), okI (foldV op a xs) = 0 → foldV op a xs = some (xs.foldl op a) := by
  induction xs with
  | nil => intro a _; rfl
  | cons x xs ih =>
    intro a h
    unfold foldV at h ⊢
    by_cases hf : Fits (op a x)
    · rw [if_pos hf] at h ⊢
      exact ih _ h
    · rw [if_neg hf] at h
      exact absurd h (by decide)
theorem okI_cases (r : Option Int) : okI r = 0 ∨ okI r = 6 := by cases r <;> simp [okI]
theorem sum_back (x y z : Int) (h1 : okI (foldV (· + ·) 0 [x, y, z]) = 0) (h2 : okI (foldV (· + ·) 0 [z, y, x]) = 0) : (foldV (· + ·) 0 [x, y, z]).getD 0 = (foldV (· + ·) 0 [z, y, x]).getD 0 := by
  rw [fold_some _ _ h1, fold_some _ _ h2]
  simp only [List.foldl_cons, List.foldl_nil, Option.getD_some]
  omega
theorem mul_back (x y z : Int) (h1 : okI (foldV (· * ·) 1 [x, y, z]) = 0) (h2 : okI (foldV (· * ·) 1 [z, y, x]) = 0) : (foldV (· * ·) 1 [x, y, z]).getD 0 = (foldV (· * ·) 1 [z, y, x]).getD 0 := by
  rw [fold_some _ _ h1, fold_some _ _ h2]
  simp only [List.foldl_cons, List.foldl_nil, Option.getD_some, Int.one_mul]
  rw [Int.mul_comm z y, Int.mul_comm (y * z) x, Int.mul_assoc]
theorem sum_two (x y : Int) (hx : Fits x) : foldV (· + ·) 0 [x, y] = if Fits (x + y) then some (x + y) else none := by
  by_cases hf : Fits (x + y)
  · rw [if_pos hf]; exact fold_two (Int.zero_add x) hx rfl hf
  · rw [if_neg hf]; exact fold_two_no (Int.zero_add x) hx hf
theorem mul_two (x y : Int) (hx : Fits x) : foldV (· * ·) 1 [x, y] = if Fits (x * y) then some (x * y) else none := by
  by_cases hf : Fits (x * y)
  · rw [if_pos hf]; exact fold_two (Int.one_mul x) hx rfl hf
  · rw [if_neg hf]; exact fold_two_no (Int.one_mul x) hx hf
/-- A number is the quotient times the divisor, and the rest. -/
structure RingF (x y : Int) : Prop where
  q : Fits (divV 4 x y)
  r : Fits (divV 5 x y)
  p : Fits (divV 4 x y * y)
  s : divV 4 x y * y + divV 5 x y = x
theorem ring_facts (x y : Int) (hx : Fits x) (hy : y ≠ 0) : RingF x y := by
  have F := div_facts x y hy
  have e4 : divV 4 x y = x.tdiv y := by unfold divV; rw [if_pos rfl]
  have e5 : divV 5 x y = x.tmod y := by unfold divV; rw [if_neg (by decide), if_pos rfl]
  exact ⟨by rw [e4]; exact Fits_le F.qa hx, by rw [e5]; exact Fits_le F.ra hx, by rw [e4]; exact Fits_le F.qb hx, by rw [e4, e5]; exact F.back⟩
theorem so_two (k x y : Int) : orderB k [x, y] = soB k (cmpI x y) := by unfold orderB; rw [show orderB k [y] = true from rfl, Bool.and_true]
theorem so_7 (x y : Int) : orderB 7 [x, y] = decide (x = y) := by
  rw [so_two]
  unfold soB cmpI
  by_cases h : x < y
  · simp [h, show ¬ x = y by omega]
  · by_cases h2 : y < x
    · simp [h, h2, show ¬ x = y by omega]
    · simp [h, h2, show x = y by omega]
theorem so_8 (x y : Int) : orderB 8 [x, y] = decide (x < y) := by
  rw [so_two]
  unfold soB cmpI
  by_cases h : x < y
  · simp [h]
  · by_cases h2 : y < x <;> simp [h, h2]
theorem so_9 (x y : Int) : orderB 9 [x, y] = decide (y < x) := by
  rw [so_two]
  unfold soB cmpI
  by_cases h : x < y
  · simp [h, show ¬ y < x by omega]
  · by_cases h2 : y < x <;> simp [h, h2]
/-- In how many ways two stand. -/
theorem ways_one (x y : Int) : ((if orderB 7 [x, y] then 1 else 0) + (if orderB 8 [x, y] then 1 else 0) + (if orderB 9 [x, y] then 1 else 0) : Int) = 1 := by
  rw [so_7, so_8, so_9]
  simp only [decide_eq_true_eq]
  split <;> split <;> split <;> omega
end Go.Proofs.YtkjocmenpccooaaGreatDoor
