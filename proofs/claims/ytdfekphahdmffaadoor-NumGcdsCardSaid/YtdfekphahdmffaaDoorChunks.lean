/-
  A number's numeral, nine digits at a time: plain Lean.
-/
import Derived.Test.YtdfekphahdmffaaDoorParts
import Derived.Lib.ItoaNum
namespace Go.Proofs.YtdfekphahdmffaaDoor
open Go.Lib

/-- k digits of r, noughts ahead. -/
def padN : Nat → Nat → List UInt8
  | 0, _ => []
  | k + 1, r => padN k (r / 10) ++ [UInt8.ofNat (48 + r % 10)]
theorem dec_small {u : Nat} (h : u < 10) : decDigits u = [UInt8.ofNat (48 + u)] := by rw [decDigits, dif_pos h]
theorem dec_big {u : Nat} (h : ¬ u < 10) : decDigits u = decDigits (u / 10) ++ [UInt8.ofNat (48 + u % 10)] := by rw [decDigits, dif_neg h]
theorem dec_split : ∀ (k q r : Nat), 0 < q → r < 10 ^ k → decDigits (q * 10 ^ k + r) = decDigits q ++ padN k r
  | 0, q, r, _, hr => by
    obtain rfl : r = 0 := by simpa using hr
    simp [padN]
  | k + 1, q, r, hq, hr => by
    have hp : 0 < 10 ^ k := Nat.pow_pos (by omega)
    rw [Nat.pow_succ] at hr ⊢
    have e1 : q * (10 ^ k * 10) = 10 * (q * 10 ^ k) := by rw [← Nat.mul_assoc, Nat.mul_comm]
    have hge : 1 ≤ q * 10 ^ k := Nat.mul_pos hq hp
    rw [e1, dec_big (by omega)]
    rw [show (10 * (q * 10 ^ k) + r) / 10 = q * 10 ^ k + r / 10 from by omega, show (10 * (q * 10 ^ k) + r) % 10 = r % 10 from by omega, dec_split k q (r / 10) hq (by omega), padN, List.append_assoc]
theorem pad_zero : ∀ k, padN k 0 = List.replicate k 48
  | 0 => rfl
  | k + 1 => by
    rw [padN, Nat.zero_div, pad_zero k, List.replicate_succ']
    rfl
theorem dec_pos (r : Nat) : 1 ≤ (decDigits r).length := by
  by_cases h : r < 10
  · rw [dec_small h]; simp
  · rw [dec_big h]; simp
theorem dec_le : ∀ (k r : Nat), r < 10 ^ (k + 1) → (decDigits r).length ≤ k + 1
  | 0, r, h => by rw [dec_small (by simpa using h)]; simp
  | k + 1, r, h => by
    by_cases h2 : r < 10
    · rw [dec_small h2]; simp
    · rw [dec_big h2, List.length_append]
      rw [Nat.pow_succ] at h
      have := dec_le k (r / 10) (by omega)
      simpa using this
theorem pad_eq : ∀ (k r : Nat), r < 10 ^ (k + 1) → padN (k + 1) r = List.replicate (k + 1 - (decDigits r).length) 48 ++ decDigits r
  | 0, r, h => by
    have h1 : r < 10 := by simpa using h
    rw [dec_small h1]
    simp [padN, Nat.mod_eq_of_lt h1]
  | k + 1, r, h => by
    rw [padN]
    rw [Nat.pow_succ] at h
    by_cases h2 : r < 10
    · rw [show r / 10 = 0 from by omega, pad_zero, dec_small h2, Nat.mod_eq_of_lt h2]
      simp
    · have hl := dec_le k (r / 10) (by omega)
      rw [pad_eq k (r / 10) (by omega), dec_big h2, List.append_assoc, List.length_append]
      simp
/-- One round of the outer loop. -/
theorem chunk_more {v q r : Nat} (hv : v = q * 10 ^ 9 + r) (hq : 0 < q) (hr : r < 10 ^ 9) : decDigits v = decDigits q ++ (List.replicate (9 - (decDigits r).length) 48 ++ decDigits r) := by
  rw [hv, dec_split 9 q r hq hr, pad_eq 8 r hr]
/-- The chunks so far, the last first, behind what is left. -/
def TextSt (V v : Nat) (ps : List (List UInt8)) : Prop := (v = 0 ∧ ps ≠ [] ∧ decDigits V = ps.reverse.flatten) ∨ (0 < v ∧ decDigits V = decDigits v ++ ps.reverse.flatten)
theorem TextSt.more {V v q r : Nat} {ps : List (List UInt8)} (h : TextSt V v ps) (hv0 : 0 < v) (hv : v = q * 10 ^ 9 + r) (hr : r < 10 ^ 9) (hq : 0 < q) : TextSt V q (ps ++ [List.replicate (9 - (decDigits r).length) 48 ++ decDigits r]) := by
  rcases h with ⟨h0, _⟩ | ⟨_, h⟩
  · omega
  · refine .inr ⟨hq, ?_⟩
    rw [h, chunk_more hv hq hr]
    simp
theorem TextSt.last {V v r : Nat} {ps : List (List UInt8)} (h : TextSt V v ps) (hv0 : 0 < v) (hv : v = r) : TextSt V 0 (ps ++ [decDigits r]) := by
  rcases h with ⟨h0, _⟩ | ⟨_, h⟩
  · omega
  · refine .inl ⟨rfl, by simp, ?_⟩
    rw [h, hv]
    simp

/-- Division of limbs by a small number, from above, k limbs are left. -/
structure DivSt (B D k : Nat) (l m : List Nat) (c : Nat) : Prop where
  len : m.length = l.length
  low : Low B m
  same : ∀ j, j < k → m.getD j 0 = l.getD j 0
  lt : c < D
  v : val B (l.drop k) = val B (m.drop k) * D + c
theorem val_drop_succ (B : Nat) (l : List Nat) (k : Nat) (h : k < l.length) : val B (l.drop k) = l.getD k 0 + B * val B (l.drop (k + 1)) := by
  rw [List.drop_eq_getElem_cons h, val, List.getD_eq_getElem?_getD, List.getElem?_eq_getElem h]
  rfl
theorem DivSt.start {B D : Nat} {l : List Nat} (hD : 0 < D) (h : Low B l) : DivSt B D l.length l l 0 :=
  ⟨rfl, h, fun _ _ => rfl, hD, by simp [val]⟩
theorem DivSt.step {B D k : Nat} {l m : List Nat} {c : Nat} (_hB : 0 < B) (hD : 0 < D) (hl : Low B l) (h : DivSt B D (k + 1) l m c) (hk : k < l.length) :
    (c * B + m.getD k 0) / D < B ∧ DivSt B D k l (m.set k ((c * B + m.getD k 0) / D)) ((c * B + m.getD k 0) % D) := by
  have hx := hl.getD _hB k
  rw [h.same k (by omega)]
  generalize hl0 : l.getD k 0 = x at *
  have hc := h.lt
  have hlt : (c * B + x) / D < B := by
    rw [Nat.div_lt_iff_lt_mul hD]
    have : (c + 1) * B ≤ D * B := Nat.mul_le_mul_right _ hc
    rw [Nat.add_mul, Nat.one_mul] at this
    rw [Nat.mul_comm B D]
    omega
  refine ⟨hlt, by rw [List.length_set]; exact h.len, h.low.set _ hlt, ?_, Nat.mod_lt _ hD, ?_⟩
  · intro j hj
    rw [List.getD_eq_getElem?_getD, List.getElem?_set_ne (by omega), ← List.getD_eq_getElem?_getD]
    exact h.same j (by omega)
  · have hkm : k < (m.set k ((c * B + x) / D)).length := by rw [List.length_set, h.len]; exact hk
    rw [val_drop_succ B l k hk, val_drop_succ B (m.set k ((c * B + x) / D)) k hkm, hl0, h.v, List.drop_set_of_lt (by omega)]
    have eg : (m.set k ((c * B + x) / D)).getD k 0 = (c * B + x) / D := by
      rw [List.getD_eq_getElem?_getD, List.getElem?_set_self (by rw [h.len]; exact hk)]; rfl
    rw [eg]
    have e := Nat.div_add_mod (c * B + x) D
    generalize (c * B + x) / D = a at *
    generalize (c * B + x) % D = b at *
    generalize val B (m.drop (k + 1)) = y at *
    rw [Nat.mul_add, Nat.add_mul, ← Nat.mul_assoc, Nat.mul_comm B c, Nat.mul_comm a D]
    have : B * y * D = B * (y * D) := Nat.mul_assoc _ _ _
    rw [this] at *
    omega
theorem DivSt.done {B D : Nat} {l m : List Nat} {c : Nat} (hD : 0 < D) (h : DivSt B D 0 l m c) : val B m = val B l / D ∧ c = val B l % D := by
  have hv := h.v
  have hc := h.lt
  rw [List.drop_zero, List.drop_zero] at hv
  rw [hv, Nat.mul_comm, Nat.mul_add_div hD, Nat.div_eq_of_lt hc, Nat.mul_add_mod, Nat.mod_eq_of_lt hc]
  exact ⟨rfl, rfl⟩
end Go.Proofs.YtdfekphahdmffaaDoor
