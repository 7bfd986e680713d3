/-
  Rows multiplied: plain Lean, no program in sight.
-/
import Derived.Test.YtdfekphahdmffaaDoorNuBase
namespace Go.Proofs.YtdfekphahdmffaaDoor

theorem val_set (B : Nat) : ∀ (l : List Nat) (i y : Nat), i < l.length → val B (l.set i y) + B ^ i * l.getD i 0 = val B l + B ^ i * y
  | [], i, y, h => by simp at h
  | x :: l, 0, y, _ => by simp [val]; omega
  | x :: l, i + 1, y, h => by
    have ih := val_set B l i y (by simpa using h)
    rw [List.set_cons_succ, val, val, List.getD_cons_succ, Nat.pow_succ, Nat.mul_comm (B ^ i) B, Nat.mul_assoc, Nat.mul_assoc]
    have : B * (val B (l.set i y) + B ^ i * l.getD i 0) = B * (val B l + B ^ i * y) := by rw [ih]
    rw [Nat.mul_add, Nat.mul_add] at this
    omega
theorem Low.set {B : Nat} {l : List Nat} (h : Low B l) (i : Nat) {y : Nat} (hy : y < B) : Low B (l.set i y) := by
  intro x hx
  rcases List.mem_or_eq_of_mem_set hx with h1 | h1
  · exact h x h1
  · rw [h1]; exact hy

/-- What holds of the row of the product within a round: x is the digit i of a, k digits of b have been taken. -/
structure TimesIn (B : Nat) (a b : List Nat) (N i k : Nat) (m : List Nat) (cr : Nat) : Prop where
  len : m.length = N
  low : Low B m
  lo : cr < B
  sum : val B m + B ^ (i + k) * cr = val B (a.take i) * val B b + B ^ i * (a.getD i 0 * val B (b.take k))
theorem TimesIn.step {B : Nat} (hB : 0 < B) {a b : List Nat} {N i k : Nat} {m : List Nat} {cr : Nat} (h : TimesIn B a b N i k m cr) (hik : i + k < N) {y : Nat} (hy : y = a.getD i 0 * b.getD k 0 + m.getD (i + k) 0 + cr) (hyb : y < B * B) :
    TimesIn B a b N i (k + 1) (m.set (i + k) (y % B)) (y / B) := by
  refine ⟨by rw [List.length_set]; exact h.len, h.low.set _ (Nat.mod_lt _ hB), ?_, ?_⟩
  · exact (Nat.div_lt_iff_lt_mul hB).2 hyb
  · have e1 := val_set B m (i + k) (y % B) (by rw [h.len]; exact hik)
    have e2 := Nat.mod_add_div y B
    have e3 : B ^ (i + k) * y = B ^ (i + k) * (y % B) + B ^ (i + k) * (B * (y / B)) := by rw [← Nat.mul_add, e2]
    have e4 : B ^ (i + (k + 1)) * (y / B) = B ^ (i + k) * (B * (y / B)) := by rw [← Nat.add_assoc, Nat.pow_succ, Nat.mul_assoc]
    have e5 : B ^ (i + k) * y = B ^ (i + k) * (a.getD i 0 * b.getD k 0) + B ^ (i + k) * m.getD (i + k) 0 + B ^ (i + k) * cr := by rw [hy, Nat.mul_add, Nat.mul_add]
    have e6 : B ^ i * (a.getD i 0 * val B (b.take (k + 1))) = B ^ i * (a.getD i 0 * val B (b.take k)) + B ^ (i + k) * (a.getD i 0 * b.getD k 0) := by
      rw [val_take_succ, Nat.mul_add, Nat.mul_add, Nat.pow_add]
      congr 1
      simp only [Nat.mul_assoc, Nat.mul_left_comm]
    have hs := h.sum
    rw [e4, e6]
    omega
theorem TimesIn.start {B : Nat} (hB : 0 < B) {a b m : List Nat} {N i : Nat} (hl : m.length = N) (low : Low B m) (hv : val B m = val B (a.take i) * val B b) : TimesIn B a b N i 0 m 0 :=
  ⟨hl, low, hB, by simp [hv, val]⟩
theorem TimesIn.next {B : Nat} (hB : 0 < B) {a b : List Nat} {N i : Nat} {m : List Nat} {cr : Nat} (h : TimesIn B a b N i (b.length + 1) m cr) (ha : Low B a) (hb : Low B b) : val B m = val B (a.take (i + 1)) * val B b := by
  have hs := h.sum
  rw [List.take_of_length_le (l := b) (by omega)] at hs
  have e : val B (a.take (i + 1)) * val B b = val B (a.take i) * val B b + B ^ i * (a.getD i 0 * val B b) := by
    rw [val_take_succ, Nat.add_mul, Nat.mul_assoc]
  rw [← e] at hs
  have h1 := val_take_lt hB ha (i + 1)
  have h2 := val_lt hb
  have h3 : val B (a.take (i + 1)) * val B b < B ^ (i + 1) * B ^ b.length := by
    rcases Nat.eq_zero_or_pos (val B b) with h0 | h0
    · rw [h0, Nat.mul_zero]; exact Nat.mul_pos (Nat.pow_pos hB) (Nat.pow_pos hB)
    · exact Nat.lt_of_lt_of_le (Nat.mul_lt_mul_of_pos_right h1 h0) (Nat.mul_le_mul_left _ (Nat.le_of_lt h2))
  rw [← Nat.pow_add, show i + 1 + b.length = i + (b.length + 1) from by omega] at h3
  rcases Nat.eq_zero_or_pos cr with h0 | h0
  · rw [h0] at hs; omega
  · have : B ^ (i + (b.length + 1)) * 1 ≤ B ^ (i + (b.length + 1)) * cr := Nat.mul_le_mul_left _ h0
    omega
theorem TimesIn.bound {a b : List Nat} {N i k : Nat} {m : List Nat} {cr : Nat} (h : TimesIn BB a b N i k m cr) (ha : Low BB a) (hb : Low BB b) : a.getD i 0 * b.getD k 0 ≤ 18446744065119617025 ∧ a.getD i 0 * b.getD k 0 + m.getD (i + k) 0 + cr ≤ 18446744073709551615 := by
  have x := ha.getD (by have := BB2; omega) i
  have y := hb.getD (by have := BB2; omega) k
  have z := h.low.getD (by have := BB2; omega) (i + k)
  have c := h.lo
  have p : a.getD i 0 * b.getD k 0 ≤ (BB - 1) * (BB - 1) := Nat.mul_le_mul (by omega) (by omega)
  have e : (BB - 1) * (BB - 1) = 18446744065119617025 := by unfold BB; rfl
  rw [e] at p
  unfold BB at z c
  omega
end Go.Proofs.YtdfekphahdmffaaDoor
