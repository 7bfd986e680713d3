/-
  Quotients and rests of integers: plain Lean.
-/
import Derived.Test.YtdfekphahdmffaaDoorLawAid
namespace Go.Proofs.YtdfekphahdmffaaDoor

theorem tm_emod (a b : Int) : (a.tmod b = a % b ∧ (0 ≤ a ∨ a % b = 0)) ∨ (a.tmod b = a % b - (b.natAbs : Int) ∧ a < 0 ∧ a % b ≠ 0) := by
  rw [Int.tmod_eq_emod]
  by_cases h : 0 ≤ a ∨ b ∣ a
  · rw [if_pos h]
    rw [Int.dvd_iff_emod_eq_zero] at h
    exact .inl ⟨by omega, h⟩
  · rw [if_neg h]
    rw [Int.dvd_iff_emod_eq_zero] at h
    exact .inr ⟨rfl, by omega, by omega⟩
theorem fm_emod (a b : Int) : (a.fmod b = a % b ∧ (0 ≤ b ∨ a % b = 0)) ∨ (a.fmod b = a % b + b ∧ b < 0 ∧ a % b ≠ 0) := by
  rw [Int.fmod_eq_emod]
  by_cases h : 0 ≤ b ∨ b ∣ a
  · rw [if_pos h]
    rw [Int.dvd_iff_emod_eq_zero] at h
    exact .inl ⟨by omega, h⟩
  · rw [if_neg h]
    rw [Int.dvd_iff_emod_eq_zero] at h
    exact .inr ⟨rfl, by omega, by omega⟩
structure DivF (a b : Int) : Prop where
  back : a.tdiv b * b + a.tmod b = a
  qa : (a.tdiv b).natAbs ≤ a.natAbs
  qb : (a.tdiv b * b).natAbs ≤ a.natAbs
  ra : (a.tmod b).natAbs ≤ a.natAbs
  rb : (a.tmod b).natAbs < b.natAbs
  mb : (a.fmod b).natAbs < b.natAbs
  rs : a.tmod b ≠ 0 → signI (a.tmod b) = signI a
  ms : a.fmod b ≠ 0 → signI (a.fmod b) = signI b
  d : a.fmod b - a.tmod b = 0 ∨ a.fmod b - a.tmod b = b
theorem div_facts (a b : Int) (hb : b ≠ 0) : DivF a b := by
  have e0 := Int.emod_nonneg a hb
  have e1 := Int.emod_lt a hb
  have e1 : a % b < (b.natAbs : Int) := by omega
  have hq := Int.natAbs_tdiv a b
  have hr := Int.natAbs_tmod a b
  have hd := Nat.div_mul_le_self a.natAbs b.natAbs
  have hm := Nat.mod_lt a.natAbs (show 0 < b.natAbs by omega)
  have T := tm_emod a b
  have F := fm_emod a b
  refine ⟨by rw [Int.mul_comm]; exact Int.mul_tdiv_add_tmod a b, ?_, ?_, ?_, ?_, ?_, ?_, ?_, ?_⟩
  · rw [hq]; exact Nat.div_le_self _ _
  · rw [Int.natAbs_mul, hq]; exact hd
  · rw [hr]; exact Nat.mod_le _ _
  · rw [hr]; exact hm
  · omega
  · intro h
    unfold signI
    rcases T with ⟨t, u⟩ | ⟨t, u, v⟩
    · rw [t] at h ⊢
      have : 0 < a := by
        rcases u with u | u
        · rcases (by omega : 0 < a ∨ a = 0) with u | u
          · exact u
          · rw [u] at h; simp at h
        · exact absurd u h
      rw [if_neg (by omega), if_pos (by omega), if_neg (by omega), if_pos this]
    · rw [if_pos (by omega), if_pos u]
  · intro h
    unfold signI
    rcases F with ⟨t, u⟩ | ⟨t, u, v⟩
    · rcases u with u | u
      · rw [if_neg (by omega), if_pos (by omega), if_neg (by omega), if_pos (by omega)]
      · omega
    · rw [if_pos (by omega), if_pos u]
  · omega
end Go.Proofs.YtdfekphahdmffaaDoor
