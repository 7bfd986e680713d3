/-
  One decimal digit more: plain Lean.
-/
import Derived.Test.YtdfekphahdmffaaDoorParts
namespace Go.Proofs.YtdfekphahdmffaaDoor

/-- A row times ten, with a digit. -/
def decF (r : List Nat) (dig k c : Nat) : Nat := 10 * r.getD k 0 + if k = 0 then dig else c
theorem dec_inv {B : Nat} (hB : 10 ≤ B) {r : List Nat} (hr : Low B r) {dig : Nat} (hb : dig ≤ 9) : ∀ k, val B (rowL B (decF r dig) (k + 1)) + B ^ (k + 1) * rowC B (decF r dig) (k + 1) = 10 * val B (r.take (k + 1)) + dig ∧ rowC B (decF r dig) (k + 1) ≤ 9
  | 0 => by
    have x := hr.getD (by omega) 0
    refine ⟨?_, ?_⟩
    · rw [val_rowL_succ, val_take_succ]
      simp [rowL, val, decF]
    · show decF r dig 0 0 / B ≤ 9
      unfold decF
      rw [if_pos rfl]
      have := (Nat.div_lt_iff_lt_mul (by omega : 0 < B)).2 (show 10 * r.getD 0 0 + dig < 10 * B by omega)
      omega
  | k + 1 => by
    obtain ⟨h1, h2⟩ := dec_inv hB hr hb k
    have x := hr.getD (by omega) (k + 1)
    have e : decF r dig (k + 1) (rowC B (decF r dig) (k + 1)) = 10 * r.getD (k + 1) 0 + rowC B (decF r dig) (k + 1) := by
      unfold decF
      rw [if_neg (by omega)]
    refine ⟨?_, ?_⟩
    · rw [val_rowL_succ, val_take_succ, e, Nat.mul_add, Nat.mul_add, Nat.mul_left_comm]
      omega
    · show decF r dig (k + 1) (rowC B (decF r dig) (k + 1)) / B ≤ 9
      rw [e]
      have := (Nat.div_lt_iff_lt_mul (by omega : 0 < B)).2 (show 10 * r.getD (k + 1) 0 + rowC B (decF r dig) (k + 1) < 10 * B by omega)
      omega
theorem dec_val {B : Nat} (hB : 10 ≤ B) {r : List Nat} (hr : Low B r) {dig : Nat} (hb : dig ≤ 9) : val B (rowL B (decF r dig) (r.length + 1)) = 10 * val B r + dig := by
  obtain ⟨h1, _⟩ := dec_inv hB hr hb r.length
  rw [List.take_of_length_le (Nat.le_succ _)] at h1
  rcases Nat.eq_zero_or_pos (rowC B (decF r dig) (r.length + 1)) with h0 | h0
  · rw [h0] at h1; omega
  · have h3 := val_lt hr
    have : B ^ (r.length + 1) * 1 ≤ B ^ (r.length + 1) * rowC B (decF r dig) (r.length + 1) := Nat.mul_le_mul_left _ h0
    have h4 : B ^ r.length * 10 ≤ B ^ r.length * B := Nat.mul_le_mul_left _ hB
    rw [Nat.pow_succ] at this
    rw [Nat.pow_succ] at h1
    omega
theorem dec_bound2 {B : Nat} (hB : 10 ≤ B) {r : List Nat} (hr : Low B r) {dig : Nat} (hb : dig ≤ 9) (k : Nat) : decF r dig k (rowC B (decF r dig) k) < 10 * B ∧ rowC B (decF r dig) k ≤ 9 := by
  have x := hr.getD (by omega) k
  have hc : rowC B (decF r dig) k ≤ 9 := by
    cases k with
    | zero => show 0 ≤ 9; omega
    | succ k => exact (dec_inv hB hr hb k).2
  refine ⟨?_, hc⟩
  unfold decF
  unfold decF at hc
  split <;> omega
end Go.Proofs.YtdfekphahdmffaaDoor
