/-
  Division bit by bit: plain Lean, no program in sight.
-/
import Derived.Test.YtdfekphahdmffaaDoorTimes
namespace Go.Proofs.YtdfekphahdmffaaDoor

/-- A row doubled, with a bit. -/
def dblF (r : List Nat) (bit k c : Nat) : Nat := 2 * r.getD k 0 + if k = 0 then bit else c
theorem dbl_inv {B : Nat} (hB : 2 ≤ B) {r : List Nat} (hr : Low B r) {bit : Nat} (hb : bit ≤ 1) : ∀ k, val B (rowL B (dblF r bit) (k + 1)) + B ^ (k + 1) * rowC B (dblF r bit) (k + 1) = 2 * val B (r.take (k + 1)) + bit ∧ rowC B (dblF r bit) (k + 1) ≤ 1
  | 0 => by
    have x := hr.getD (by omega) 0
    refine ⟨?_, ?_⟩
    · rw [val_rowL_succ, val_take_succ]
      simp [rowL, val, dblF]
    · show dblF r bit 0 0 / B ≤ 1
      unfold dblF
      rw [if_pos rfl]
      have := (Nat.div_lt_iff_lt_mul (by omega : 0 < B)).2 (show 2 * r.getD 0 0 + bit < 2 * B by omega)
      omega
  | k + 1 => by
    obtain ⟨h1, h2⟩ := dbl_inv hB hr hb k
    have x := hr.getD (by omega) (k + 1)
    have e : dblF r bit (k + 1) (rowC B (dblF r bit) (k + 1)) = 2 * r.getD (k + 1) 0 + rowC B (dblF r bit) (k + 1) := by
      unfold dblF
      rw [if_neg (by omega)]
    refine ⟨?_, ?_⟩
    · rw [val_rowL_succ, val_take_succ, e, Nat.mul_add, Nat.mul_add, Nat.mul_left_comm]
      omega
    · show dblF r bit (k + 1) (rowC B (dblF r bit) (k + 1)) / B ≤ 1
      rw [e]
      have := (Nat.div_lt_iff_lt_mul (by omega : 0 < B)).2 (show 2 * r.getD (k + 1) 0 + rowC B (dblF r bit) (k + 1) < 2 * B by omega)
      omega
theorem dbl_val {B : Nat} (hB : 2 ≤ B) {r : List Nat} (hr : Low B r) {bit : Nat} (hb : bit ≤ 1) (hn : 0 < r.length) (h : 2 * val B r + bit < B ^ r.length) : val B (rowL B (dblF r bit) r.length) = 2 * val B r + bit := by
  obtain ⟨k, hk⟩ : ∃ k, r.length = k + 1 := ⟨r.length - 1, by omega⟩
  obtain ⟨h1, _⟩ := dbl_inv hB hr hb k
  rw [← hk, List.take_length] at h1
  rcases Nat.eq_zero_or_pos (rowC B (dblF r bit) r.length) with h0 | h0
  · rw [h0] at h1; omega
  · have : B ^ r.length * 1 ≤ B ^ r.length * rowC B (dblF r bit) r.length := Nat.mul_le_mul_left _ h0
    omega
theorem dbl_bound {B : Nat} (hB : 2 ≤ B) {r : List Nat} (hr : Low B r) {bit : Nat} (hb : bit ≤ 1) (k : Nat) : dblF r bit k (rowC B (dblF r bit) k) < 2 * B ∧ rowC B (dblF r bit) k ≤ 1 := by
  have x := hr.getD (by omega) k
  have hc : rowC B (dblF r bit) k ≤ 1 := by
    cases k with
    | zero => show 0 ≤ 1; omega
    | succ k => exact (dbl_inv hB hr hb k).2
  refine ⟨?_, hc⟩
  unfold dblF
  unfold dblF at hc
  split <;> omega

theorem digit_split {B : Nat} (l : List Nat) (j : Nat) (hj : j < l.length) : val B l = val B (l.take j) + B ^ j * (l.getD j 0 + B * val B (l.drop (j + 1))) := by
  have e := val_take_drop B l j
  rw [List.length_take, Nat.min_eq_left (by omega)] at e
  rw [e]
  congr 2
  rw [List.drop_eq_getElem_cons hj, val, List.getD_eq_getElem?_getD, List.getElem?_eq_getElem hj]
  rfl
section
variable {B : Nat} (hB : B = 2 ^ 32)
include hB
theorem pow_two (j : Nat) : B ^ j = 2 ^ (32 * j) := by rw [hB, ← Nat.pow_mul]
theorem pow_two_add (j s : Nat) : B ^ j * 2 ^ s = 2 ^ (32 * j + s) := by rw [pow_two hB, ← Nat.pow_add]
/-- One bit of a number. -/
theorem bit_of {l : List Nat} (low : Low B l) {k : Nat} (hk : k / 32 < l.length) : l.getD (k / 32) 0 / 2 ^ (k % 32) % 2 = val B l / 2 ^ k % 2 := by
  have e := digit_split (B := B) l (k / 32) hk
  have hlt := val_take_lt (B := B) (by rw [hB]; exact Nat.two_pow_pos 32) low (k / 32)
  have hk2 : k = 32 * (k / 32) + k % 32 := by omega
  generalize k / 32 = j at *
  have hs : k % 32 < 32 := Nat.mod_lt _ (by omega)
  generalize k % 32 = s at *
  subst hk2
  generalize l.getD j 0 = x at *
  generalize val B (l.drop (j + 1)) = y at *
  have e1 : val B l / B ^ j = x + B * y := by
    rw [e, Nat.add_mul_div_left _ _ (by omega), Nat.div_eq_of_lt hlt, Nat.zero_add]
  rw [← pow_two_add hB, ← Nat.div_div_eq_div_mul, e1, hB]
  obtain ⟨t, ht⟩ : ∃ t, 32 = s + (t + 1) := ⟨31 - s, by omega⟩
  rw [ht, Nat.pow_add, Nat.mul_assoc, Nat.add_mul_div_left _ _ (Nat.two_pow_pos s), Nat.pow_succ, Nat.mul_assoc, Nat.mul_left_comm, Nat.add_mul_mod_self_left]
/-- A bit that is to be set is not set yet. -/
theorem free_bit {l : List Nat} (low : Low B l) {k : Nat} (hk : k / 32 < l.length) (h : 2 ^ (k + 1) ∣ val B l) : 2 ^ (k % 32 + 1) ∣ l.getD (k / 32) 0 := by
  have e := digit_split (B := B) l (k / 32) hk
  have hlt := val_take_lt (B := B) (by rw [hB]; exact Nat.two_pow_pos 32) low (k / 32)
  have hk2 : k = 32 * (k / 32) + k % 32 := by omega
  generalize k / 32 = j at *
  have hs : k % 32 < 32 := Nat.mod_lt _ (by omega)
  generalize k % 32 = s at *
  subst hk2
  generalize l.getD j 0 = x at *
  generalize val B (l.drop (j + 1)) = y at *
  rw [Nat.add_assoc, ← pow_two_add hB] at h
  obtain ⟨z, hz⟩ := h
  rw [e] at hz
  have h0 : val B (l.take j) = 0 := by
    have : val B (l.take j) % B ^ j = 0 := by
      have h1 : (val B (l.take j) + B ^ j * (x + B * y)) % B ^ j = 0 := by
        rw [hz, Nat.mul_assoc]
        exact Nat.mul_mod_right _ _
      rwa [Nat.add_mul_mod_self_left] at h1
    rwa [Nat.mod_eq_of_lt hlt] at this
  rw [h0, Nat.zero_add, Nat.mul_assoc] at hz
  have hx := Nat.eq_of_mul_eq_mul_left (show 0 < B ^ j by omega) hz
  obtain ⟨t, ht⟩ : ∃ t, 32 = (s + 1) + t := ⟨31 - s, by omega⟩
  have hBt : B = 2 ^ (s + 1) * 2 ^ t := by rw [hB, ← Nat.pow_add, ← ht]
  refine (Nat.dvd_add_left ⟨2 ^ t * y, ?_⟩).1 (⟨z, hx⟩ : 2 ^ (s + 1) ∣ x + B * y)
  rw [hBt, Nat.mul_assoc]
theorem set_bit {l : List Nat} (low : Low B l) {k : Nat} (hk : k / 32 < l.length) (h : 2 ^ (k + 1) ∣ val B l) :
    val B (l.set (k / 32) (l.getD (k / 32) 0 + 2 ^ (k % 32))) = val B l + 2 ^ k ∧ l.getD (k / 32) 0 + 2 ^ (k % 32) < B := by
  have hf := free_bit hB low hk h
  have x := low.getD (by rw [hB]; exact Nat.two_pow_pos 32) (k / 32)
  refine ⟨?_, ?_⟩
  · have e := val_set B l (k / 32) (l.getD (k / 32) 0 + 2 ^ (k % 32)) hk
    rw [Nat.mul_add, pow_two_add hB, show 32 * (k / 32) + k % 32 = k from by omega] at e
    omega
  · obtain ⟨z, hz⟩ := hf
    obtain ⟨t, ht⟩ : ∃ t, 32 = (k % 32 + 1) + t := ⟨31 - k % 32, by omega⟩
    have hBt : B = 2 ^ (k % 32 + 1) * 2 ^ t := by rw [hB, ← Nat.pow_add, ← ht]
    rw [hz] at x ⊢
    rw [hBt] at x ⊢
    have hzt := Nat.lt_of_mul_lt_mul_left x
    have : 2 ^ (k % 32 + 1) * (z + 1) ≤ 2 ^ (k % 32 + 1) * 2 ^ t := Nat.mul_le_mul_left _ hzt
    rw [Nat.mul_add, Nat.mul_one] at this
    have h2 : 2 ^ (k % 32) < 2 ^ (k % 32 + 1) := by rw [Nat.pow_succ]; have := Nat.two_pow_pos (k % 32); omega
    omega
end

/-- What holds when k bits are left: q is the quotient so far, r the rest. -/
structure PartIn (B A D la lb k : Nat) (q r : List Nat) : Prop where
  ql : q.length = la
  qlow : Low B q
  qv : val B q = A / 2 ^ k / D * 2 ^ k
  rl : r.length = lb + 1
  rlow : Low B r
  rv : val B r = A / 2 ^ k % D
theorem part_step (A D k : Nat) (hD : 0 < D) : A / 2 ^ k = 2 * (A / 2 ^ (k + 1)) + A / 2 ^ k % 2 ∧
    (2 * (A / 2 ^ (k + 1) % D) + A / 2 ^ k % 2 < D → A / 2 ^ k / D = 2 * (A / 2 ^ (k + 1) / D) ∧ A / 2 ^ k % D = 2 * (A / 2 ^ (k + 1) % D) + A / 2 ^ k % 2) ∧
    (D ≤ 2 * (A / 2 ^ (k + 1) % D) + A / 2 ^ k % 2 → A / 2 ^ k / D = 2 * (A / 2 ^ (k + 1) / D) + 1 ∧ A / 2 ^ k % D = 2 * (A / 2 ^ (k + 1) % D) + A / 2 ^ k % 2 - D) := by
  have e : A / 2 ^ (k + 1) = A / 2 ^ k / 2 := by rw [Nat.pow_succ, Nat.div_div_eq_div_mul]
  rw [e]
  generalize A / 2 ^ k = Y
  have e1 : Y = 2 * (Y / 2) + Y % 2 := by omega
  have hb : Y % 2 ≤ 1 := by omega
  refine ⟨e1, ?_, ?_⟩
  · intro h
    generalize Y % 2 = b at *
    generalize Y / 2 = X at *
    subst e1
    have hX := Nat.div_add_mod X D
    generalize X / D = u at *
    generalize X % D = v at *
    subst hX
    have e2 : 2 * (D * u + v) + b = (2 * v + b) + D * (2 * u) := by rw [Nat.mul_add, Nat.mul_left_comm]; omega
    rw [e2, Nat.add_mul_div_left _ _ hD, Nat.add_mul_mod_self_left, Nat.div_eq_of_lt h, Nat.mod_eq_of_lt h]
    exact ⟨by omega, rfl⟩
  · intro h
    have hv := Nat.mod_lt (Y / 2) hD
    generalize Y % 2 = b at *
    generalize Y / 2 = X at *
    subst e1
    have hX := Nat.div_add_mod X D
    generalize X / D = u at *
    generalize X % D = v at *
    subst hX
    have e2 : 2 * (D * u + v) + b = (2 * v + b - D) + D * (2 * u + 1) := by rw [Nat.mul_add, Nat.mul_left_comm, Nat.mul_add, Nat.mul_one]; omega
    have h3 : 2 * v + b - D < D := by omega
    rw [e2, Nat.add_mul_div_left _ _ hD, Nat.add_mul_mod_self_left, Nat.div_eq_of_lt h3, Nat.mod_eq_of_lt h3]
    exact ⟨by omega, rfl⟩
theorem PartIn.start {B A D la lb : Nat} (hB : B = 2 ^ 32) (hA : A < B ^ la) {q r : List Nat} (ql : q.length = la) (qz : ∀ x ∈ q, x = 0) (rl : r.length = lb + 1) (rz : ∀ x ∈ r, x = 0) : PartIn B A D la lb (32 * la) q r := by
  have h2 : 0 < B := by rw [hB]; exact Nat.two_pow_pos 32
  have e : A / 2 ^ (32 * la) = 0 := by rw [← pow_two hB]; exact Nat.div_eq_of_lt hA
  refine ⟨ql, fun x hx => by rw [qz x hx]; exact h2, ?_, rl, fun x hx => by rw [rz x hx]; exact h2, ?_⟩
  · rw [val_zeros B qz, e]; simp
  · rw [val_zeros B rz, e]; simp
theorem PartIn.small {B A D la lb k : Nat} {q r r' : List Nat} (hD : 0 < D) (h : PartIn B A D la lb (k + 1) q r) (rl : r'.length = lb + 1) (low : Low B r') (hv : val B r' = 2 * val B r + A / 2 ^ k % 2) (hlt : val B r' < D) : PartIn B A D la lb k q r' := by
  obtain ⟨_, h1, _⟩ := part_step A D k hD
  rw [hv, h.rv] at hlt
  obtain ⟨e1, e2⟩ := h1 hlt
  refine ⟨h.ql, h.qlow, ?_, rl, low, ?_⟩
  · rw [h.qv, e1, Nat.pow_succ]
    rw [Nat.mul_comm 2, Nat.mul_assoc, Nat.mul_comm 2]
  · rw [hv, h.rv, e2]
theorem PartIn.great {B A D la lb k : Nat} (hB : B = 2 ^ 32) {q r r' : List Nat} (hD : 0 < D) (h : PartIn B A D la lb (k + 1) q r) (hk : k / 32 < la) (rl : r'.length = lb + 1) (low : Low B r') (hv : val B r' = 2 * val B r + A / 2 ^ k % 2 - D) (hge : D ≤ 2 * val B r + A / 2 ^ k % 2) :
    PartIn B A D la lb k (q.set (k / 32) (q.getD (k / 32) 0 + 2 ^ (k % 32))) r' ∧ q.getD (k / 32) 0 + 2 ^ (k % 32) < B ∧ 2 ^ (k % 32 + 1) ∣ q.getD (k / 32) 0 := by
  obtain ⟨_, _, h2⟩ := part_step A D k hD
  rw [h.rv] at hge
  obtain ⟨e1, e2⟩ := h2 hge
  have hd : 2 ^ (k + 1) ∣ val B q := ⟨A / 2 ^ (k + 1) / D, by rw [h.qv, Nat.mul_comm]⟩
  have hkq : k / 32 < q.length := by rw [h.ql]; exact hk
  obtain ⟨s1, s2⟩ := set_bit hB h.qlow hkq hd
  refine ⟨⟨by rw [List.length_set]; exact h.ql, h.qlow.set _ s2, ?_, rl, low, ?_⟩, s2, free_bit hB h.qlow hkq hd⟩
  · rw [s1, h.qv, e1, Nat.pow_succ, Nat.add_mul, Nat.one_mul]
    rw [Nat.mul_comm 2, Nat.mul_assoc, Nat.mul_comm 2]
  · rw [hv, h.rv, e2]
end Go.Proofs.YtdfekphahdmffaaDoor
