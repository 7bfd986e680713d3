/-
  Rows of bits: which is less, the difference, the long division. Plain Lean, no function of the program in sight.
-/
import Derived.Test.YtdfekphahdmffaaDoorRfPlus
import Derived.Test.YtdfekphahdmffaaDoorNuOrder
namespace Go.Proofs.YtdfekphahdmffaaDoor

theorem blen_lt {a b : Nat} (h : (bits2 a).length < (bits2 b).length) : a < b := by
  have h1 := (digs_len_le two2 a (bits2 a).length).1 (Nat.le_refl _)
  have h2 := (not_congr (digs_len_le two2 b (bits2 a).length)).1 (by unfold bits2 at *; omega)
  omega
theorem bits_ext {a b : Nat} (hl : (bits2 a).length = (bits2 b).length) (he : ∀ j, j < (bits2 a).length → (bits2 a).getD j 0 = (bits2 b).getD j 0) : a = b := by
  have := val_drop_eq (_B := 2) (k := 0) hl (fun j _ h => he j h)
  simp only [List.drop_zero] at this
  exact digs_inj two2 this
theorem bits_digit {a b k : Nat} (hl : (bits2 a).length = (bits2 b).length) (hk : k < (bits2 a).length) (he : ∀ j, k + 1 ≤ j → j < (bits2 a).length → (bits2 a).getD j 0 = (bits2 b).getD j 0) (h : (bits2 a).getD k 0 ≠ (bits2 b).getD k 0) : decide (a < b) = decide ((bits2 a).getD k 0 < (bits2 b).getD k 0) := by
  rcases Nat.lt_or_ge ((bits2 a).getD k 0) ((bits2 b).getD k 0) with h1 | h1
  · have := val_digit_lt (by omega) hl (digs_low two2 a) hk he h1
    rw [val_digs two2, val_digs two2] at this
    rw [decide_eq_true this, decide_eq_true (by omega)]
  · have h2 : (bits2 b).getD k 0 < (bits2 a).getD k 0 := by omega
    have := val_digit_lt (by omega) hl.symm (digs_low two2 b) (by omega) (fun j hj hl2 => (he j hj (by omega)).symm) h2
    rw [val_digs two2, val_digs two2] at this
    rw [decide_eq_false (by omega), decide_eq_false (by omega)]
theorem blen_mono {a b : Nat} (h : a ≤ b) : (bits2 a).length ≤ (bits2 b).length := by
  rcases Nat.lt_or_ge (bits2 b).length (bits2 a).length with h1 | h1
  · have := blen_lt h1
    omega
  · exact h1
/-- One bit less another one, and what was borrowed. -/
def minF (a b : List Nat) (i c : Nat) : Nat := (a.getD i 0 + (4 - b.getD i 0 - c)) % 4
theorem min_inv {a b : List Nat} (ha : Low 2 a) (hb : Low 2 b) : ∀ i, val 2 (rowL 2 (minF a b) i) + val 2 (b.take i) = val 2 (a.take i) + 2 ^ i * rowC 2 (minF a b) i ∧ rowC 2 (minF a b) i ≤ 1
  | 0 => by simp [rowL, rowC, val]
  | i + 1 => by
    obtain ⟨h1, h2⟩ := min_inv ha hb i
    have x := ha.getD (by omega) i
    have y := hb.getD (by omega) i
    have hrow : val 2 (rowL 2 (minF a b) (i + 1)) = val 2 (rowL 2 (minF a b) i) + 2 ^ i * (minF a b i (rowC 2 (minF a b) i) % 2) := by
      rw [rowL_succ, val_append, rowL_len]; simp [val]
    have hc : rowC 2 (minF a b) (i + 1) = minF a b i (rowC 2 (minF a b) i) / 2 := rfl
    have hF : minF a b i (rowC 2 (minF a b) i) = (a.getD i 0 + (4 - b.getD i 0 - rowC 2 (minF a b) i)) % 4 := rfl
    generalize minF a b i (rowC 2 (minF a b) i) = f at hrow hc hF
    generalize rowC 2 (minF a b) i = bw at h1 h2 hF
    rw [hc, hrow, val_take_succ, val_take_succ, Nat.pow_succ]
    generalize a.getD i 0 = p at *
    generalize b.getD i 0 = q at *
    have e : f % 2 + q + bw = p + 2 * (f / 2) := by omega
    refine ⟨?_, by omega⟩
    have e2 : 2 ^ i * (f % 2) + 2 ^ i * q + 2 ^ i * bw = 2 ^ i * p + 2 ^ i * (2 * (f / 2)) := by rw [← Nat.mul_add, ← Nat.mul_add, ← Nat.mul_add, e]
    rw [Nat.mul_assoc]
    omega
theorem min_val {a b : List Nat} (ha : Low 2 a) (hb : Low 2 b) (hl : b.length ≤ a.length) (h : bval b ≤ bval a) : bval (rowL 2 (minF a b) a.length) = bval a - bval b := by
  obtain ⟨h1, h2⟩ := min_inv ha hb a.length
  rw [List.take_of_length_le hl, List.take_length] at h1
  have hr := val_lt (rowL_low (B := 2) (by omega) (minF a b) a.length)
  rw [rowL_len] at hr
  rcases (by omega : rowC 2 (minF a b) a.length = 0 ∨ rowC 2 (minF a b) a.length = 1) with e | e
  · rw [e] at h1
    show val 2 _ = val 2 a - val 2 b
    omega
  · rw [e] at h1
    have h' : val 2 b ≤ val 2 a := h
    omega
theorem min_digit {p q c f : Nat} (hp : p < 2) (hq : q < 2) (hc : c ≤ 1) (hf : f = (p + (4 - q - c)) % 4) : ((p : Int) - (q : Int) - (c : Int) < 0 ∧ (p : Int) - (q : Int) - (c : Int) + 2 = ((f % 2 : Nat) : Int) ∧ f / 2 = 1) ∨ (¬ (p : Int) - (q : Int) - (c : Int) < 0 ∧ (p : Int) - (q : Int) - (c : Int) = ((f % 2 : Nat) : Int) ∧ f / 2 = 0) := by
  omega
theorem digs_getD (x : Nat) (k : Nat) : (bits2 x).getD k 0 = x / 2 ^ k % 2 := by
  induction k generalizing x with
  | zero =>
    rcases Nat.eq_zero_or_pos x with h | h
    · subst h; unfold bits2; rw [digs_zero]; rfl
    · unfold bits2; rw [digs_pos two2 h]; simp
  | succ k ih =>
    rcases Nat.eq_zero_or_pos x with h | h
    · subst h; unfold bits2; rw [digs_zero]; simp
    · have := ih (x / 2)
      unfold bits2 at this ⊢
      rw [digs_pos two2 h, List.getD_cons_succ, this, Nat.div_div_eq_div_mul, Nat.pow_succ, Nat.mul_comm 2]
theorem shift_step (x k : Nat) : x / 2 ^ k = (bits2 x).getD k 0 + 2 * (x / 2 ^ (k + 1)) := by
  rw [digs_getD, Nat.pow_succ, ← Nat.div_div_eq_div_mul]
  omega
theorem div_two (D y b : Nat) (_hy : 0 < y) (hb : b ≤ 1) : (b + 2 * (D % y) < y → (b + 2 * D) / y = 2 * (D / y) ∧ (b + 2 * D) % y = b + 2 * (D % y)) ∧ (¬ b + 2 * (D % y) < y → (b + 2 * D) / y = 2 * (D / y) + 1 ∧ (b + 2 * D) % y = b + 2 * (D % y) - y) := by
  have h1 := Nat.div_add_mod D y
  have h2 := Nat.mod_lt D _hy
  generalize D % y = r at *
  generalize D / y = q at *
  subst h1
  refine ⟨fun h => ?_, fun h => ?_⟩
  · have e : b + 2 * (y * q + r) = (b + 2 * r) + y * (2 * q) := by rw [Nat.mul_add, Nat.mul_left_comm]; omega
    rw [e, Nat.add_mul_div_left _ _ _hy, Nat.add_mul_mod_self_left, Nat.div_eq_of_lt h, Nat.mod_eq_of_lt h]
    omega
  · obtain ⟨s, hs⟩ : ∃ s, s = b + 2 * r - y := ⟨_, rfl⟩
    have hs1 : s < y := by omega
    have e : b + 2 * (y * q + r) = s + y * (2 * q + 1) := by rw [Nat.mul_add, Nat.mul_add, Nat.mul_left_comm, Nat.mul_one]; omega
    rw [e, Nat.add_mul_div_left _ _ _hy, Nat.add_mul_mod_self_left, Nat.div_eq_of_lt hs1, Nat.mod_eq_of_lt hs1]
    omega
/-- The quotient's bits down to the bit i. -/
structure QuoSt (x y i : Nat) (qs : List Nat) : Prop where
  low : Low 2 qs
  z : ∀ j, j < i → qs.getD j 0 = 0
  v : bval qs = 2 ^ i * (x / 2 ^ i / y)
theorem QuoSt.zero {x y i : Nat} {qs : List Nat} (h : QuoSt x y (i + 1) qs) (e : x / 2 ^ i / y = 2 * (x / 2 ^ (i + 1) / y)) : QuoSt x y i qs :=
  ⟨h.low, fun j hj => h.z j (by omega), by rw [h.v, e, Nat.pow_succ, Nat.mul_assoc]⟩
theorem QuoSt.one {x y i : Nat} {qs : List Nat} (h : QuoSt x y (i + 1) qs) (hi : i < qs.length) (e : x / 2 ^ i / y = 2 * (x / 2 ^ (i + 1) / y) + 1) : QuoSt x y i (qs.set i 1) := by
  refine ⟨fun a ha => ?_, fun j hj => ?_, ?_⟩
  · rcases List.mem_or_eq_of_mem_set ha with h1 | h1
    · exact h.low a h1
    · omega
  · rw [List.getD_eq_getElem?_getD, List.getElem?_set_ne (by omega), ← List.getD_eq_getElem?_getD]
    exact h.z j (by omega)
  · have h1 := val_set 2 qs i 1 hi
    rw [h.z i (by omega), Nat.mul_zero, Nat.add_zero, Nat.mul_one] at h1
    show val 2 _ = _
    have hv : val 2 qs = 2 ^ (i + 1) * (x / 2 ^ (i + 1) / y) := h.v
    rw [h1, hv, e, Nat.mul_add, Nat.mul_one, ← Nat.mul_assoc, ← Nat.pow_succ]
theorem QuoSt.start (x y n : Nat) (hn : x < 2 ^ n) : QuoSt x y n (List.replicate n 0) :=
  ⟨fun a ha => by rw [(List.mem_replicate.1 ha).2]; omega, fun j hj => by simp [List.getD_eq_getElem?_getD, hj], by
    rw [Nat.div_eq_of_lt hn, Nat.zero_div, Nat.mul_zero]
    exact val_zeros 2 (fun a ha => (List.mem_replicate.1 ha).2)⟩
theorem QuoSt.done {x y : Nat} {qs : List Nat} (h : QuoSt x y 0 qs) : bval qs = x / y := by
  rw [h.v, Nat.pow_zero, Nat.div_one, Nat.one_mul]
theorem cons_bits (b m : Nat) : bval (b :: bits2 m) = b + 2 * m := by
  show b + 2 * val 2 (digs 2 m) = _
  rw [val_digs two2]
end Go.Proofs.YtdfekphahdmffaaDoor
