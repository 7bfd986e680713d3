/-
  A row taken off another one, digit by digit: plain Lean, no program in sight.
-/
import Derived.Test.YtdfekphahdmffaaDoorNuBase
namespace Go.Proofs.YtdfekphahdmffaaDoor

/-- One digit less another one, and what was borrowed. -/
def lessF (a b : List Nat) (i c : Nat) : Nat := (a.getD i 0 + (BB * BB - b.getD i 0 - c % 2)) % (BB * BB)
theorem BB_sq : BB * BB = 18446744073709551616 := by unfold BB; rfl
theorem less_step {x y bw : Nat} (hx : x < BB) (hy : y < BB) (hb : bw ≤ 1) :
    (y + bw ≤ x ∧ (x + (BB * BB - y - bw)) % (BB * BB) = x - y - bw) ∨ (x < y + bw ∧ (x + (BB * BB - y - bw)) % (BB * BB) = BB * BB - (y + bw - x)) := by
  rw [BB_sq]
  unfold BB at hx hy
  omega
theorem less_inv {a b : List Nat} (ha : Low BB a) (hb : Low BB b) : ∀ i, val BB (rowL BB (lessF a b) i) + val BB (b.take i) = val BB (a.take i) + BB ^ i * (rowC BB (lessF a b) i % 2) ∧ (rowC BB (lessF a b) i = 0 ∨ rowC BB (lessF a b) i = BB - 1)
  | 0 => by simp [rowL, rowC, val]
  | i + 1 => by
    obtain ⟨h1, h2⟩ := less_inv ha hb i
    have x := ha.getD (by have := BB2; omega) i
    have y := hb.getD (by have := BB2; omega) i
    have hbw : rowC BB (lessF a b) i % 2 ≤ 1 := by omega
    have hs := less_step x y hbw
    have hrow : val BB (rowL BB (lessF a b) (i + 1)) = val BB (rowL BB (lessF a b) i) + BB ^ i * (lessF a b i (rowC BB (lessF a b) i) % BB) := by
      rw [rowL_succ, val_append, rowL_len]
      simp [val]
    have hc : rowC BB (lessF a b) (i + 1) = lessF a b i (rowC BB (lessF a b) i) / BB := rfl
    have hF : lessF a b i (rowC BB (lessF a b) i) = (a.getD i 0 + (BB * BB - b.getD i 0 - rowC BB (lessF a b) i % 2)) % (BB * BB) := rfl
    rw [← hF] at hs
    generalize lessF a b i (rowC BB (lessF a b) i) = f at hrow hc hF hs
    generalize rowC BB (lessF a b) i % 2 = bw at h1 hbw hs
    rw [hc, hrow, val_take_succ, val_take_succ, Nat.pow_succ]
    rcases hs with ⟨hle, rfl⟩ | ⟨hlt, rfl⟩
    · have e1 : (a.getD i 0 - b.getD i 0 - bw) % BB = a.getD i 0 - b.getD i 0 - bw := Nat.mod_eq_of_lt (by omega)
      have e2 : (a.getD i 0 - b.getD i 0 - bw) / BB = 0 := Nat.div_eq_of_lt (by omega)
      rw [e1, e2]
      refine ⟨?_, .inl rfl⟩
      have e3 : BB ^ i * a.getD i 0 = BB ^ i * (a.getD i 0 - b.getD i 0 - bw) + BB ^ i * b.getD i 0 + BB ^ i * bw := by
        rw [← Nat.mul_add, ← Nat.mul_add]
        congr 1
        omega
      simp only [Nat.zero_mod, Nat.mul_zero]
      omega
    · obtain ⟨d, hd⟩ : ∃ d, d = b.getD i 0 + bw - a.getD i 0 := ⟨_, rfl⟩
      rw [← hd]
      have hd1 : 1 ≤ d := by omega
      have hdB : d ≤ BB := by omega
      have e2 : (BB * BB - d) / BB = BB - 1 := by
        have := BB2
        rw [BB_sq]
        unfold BB at hdB ⊢
        omega
      have e1 : (BB * BB - d) % BB = BB - d := by
        by_cases h : d = BB
        · rw [h, ← Nat.mul_sub_one, Nat.mul_mod_right, Nat.sub_self]
        · rw [BB_sq]
          unfold BB at hdB h ⊢
          omega
      have e4 : (BB - 1) % 2 = 1 := by unfold BB; rfl
      rw [e1, e2, e4]
      refine ⟨?_, .inr rfl⟩
      have e3 : BB ^ i * (BB - d) + BB ^ i * b.getD i 0 + BB ^ i * bw = BB ^ i * a.getD i 0 + BB ^ i * BB := by
        rw [← Nat.mul_add, ← Nat.mul_add, ← Nat.mul_add]
        congr 1
        omega
      rw [Nat.mul_one]
      omega
theorem less_bound (a b : List Nat) (i c : Nat) : lessF a b i c ≤ 18446744073709551615 := by
  have : lessF a b i c < BB * BB := Nat.mod_lt _ (by unfold BB; omega)
  rw [BB_sq] at this
  omega
theorem val_take_of_le {b : List Nat} (n : Nat) (h : val BB b < BB ^ n) : val BB (b.take n) = val BB b := by
  rcases Nat.le_total b.length n with hl | hl
  · rw [List.take_of_length_le hl]
  · have e := val_take_drop BB b n
    rw [List.length_take, Nat.min_eq_left hl] at e
    rcases Nat.eq_zero_or_pos (val BB (b.drop n)) with h0 | h0
    · rw [h0] at e; omega
    · have : BB ^ n * 1 ≤ BB ^ n * val BB (b.drop n) := Nat.mul_le_mul_left _ h0
      omega
theorem less_val {a b : List Nat} (ha : Low BB a) (hb : Low BB b) (h : val BB b ≤ val BB a) : val BB (rowL BB (lessF a b) a.length) = val BB a - val BB b := by
  obtain ⟨h1, h2⟩ := less_inv ha hb a.length
  have hlt := val_lt ha
  have e := val_take_of_le (b := b) a.length (by omega)
  rw [e, List.take_length] at h1
  have hr := val_lt (rowL_low (B := BB) (by have := BB2; omega) (lessF a b) a.length)
  rw [rowL_len] at hr
  have : rowC BB (lessF a b) a.length % 2 = 0 := by
    rcases Nat.eq_zero_or_pos (rowC BB (lessF a b) a.length % 2) with h0 | h0
    · exact h0
    · have : BB ^ a.length * 1 ≤ BB ^ a.length * (rowC BB (lessF a b) a.length % 2) := Nat.mul_le_mul_left _ h0
      omega
  rw [this] at h1
  omega
end Go.Proofs.YtdfekphahdmffaaDoor
