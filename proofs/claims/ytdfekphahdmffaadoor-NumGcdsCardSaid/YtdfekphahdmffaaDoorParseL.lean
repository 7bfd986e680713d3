/-
  What Parse reads: plain Lean.
-/
import Derived.Test.YtdfekphahdmffaaDoorNuShelf
namespace Go.Proofs.YtdfekphahdmffaaDoor
open Go.Lib

theorem drop_nil {p : UInt8 → Bool} : ∀ l : List UInt8, l.dropWhile p = [] ↔ ∀ x ∈ l, p x = true
  | [] => by simp
  | x :: l => by
    by_cases h : p x = true
    · simp [h, drop_nil l]
    · simp [h]
theorem drop_head {p : UInt8 → Bool} : ∀ (l : List UInt8) (x : UInt8) (xs : List UInt8), l.dropWhile p = x :: xs → p x = false
  | [], _, _, h => by simp at h
  | y :: l, x, xs, h => by
    by_cases hy : p y = true
    · rw [List.dropWhile_cons, if_pos hy] at h
      exact drop_head l x xs h
    · rw [List.dropWhile_cons, if_neg hy] at h
      injection h with h1 _
      rw [← h1]
      simpa using hy
theorem trim_nil (l cs : List UInt8) : Lib.trimS l cs = [] ↔ ∀ x ∈ l, cs.contains x = true := by
  unfold Lib.trimS Lib.trimLeftS Lib.trimRightS
  rw [drop_nil]
  constructor
  · intro h
    cases hd : l.reverse.dropWhile (cs.contains ·) with
    | nil =>
      have := (drop_nil _).1 hd
      intro x hx
      exact this x (by simpa using hx)
    | cons x xs =>
      have h1 := drop_head _ _ _ hd
      rw [hd] at h
      have := h x (by simp)
      rw [this] at h1
      cases h1
  · intro h x hx
    have hx2 : x ∈ l.reverse.dropWhile (cs.contains ·) := by simpa using hx
    exact h x (by simpa using (List.dropWhile_sublist (cs.contains ·)).mem hx2)
/-- The value of decimal digits, the first the greatest. -/
def decVal (l : List UInt8) : Nat := l.foldl (fun n b => 10 * n + (b.toNat - 48)) 0
theorem decVal_snoc (l : List UInt8) (b : UInt8) : decVal (l ++ [b]) = 10 * decVal l + (b.toNat - 48) := by
  unfold decVal; simp
/-- Is a byte a digit? -/
def digB (b : UInt8) : Bool := [48, 49, 50, 51, 52, 53, 54, 55, 56, 57].contains b
theorem digB_iff (b : UInt8) : digB b = true ↔ 48 ≤ b.toNat ∧ b.toNat ≤ 57 := by
  revert b
  have H : ∀ i : Fin 256, digB (UInt8.ofNat i.val) = true ↔ 48 ≤ i.val ∧ i.val ≤ 57 := by decide +kernel
  intro b
  have := H ⟨b.toNat, b.toNat_lt⟩
  simpa using this
theorem trim_digits (l : List UInt8) : Lib.trimS l [48, 49, 50, 51, 52, 53, 54, 55, 56, 57] = [] ↔ l.all digB = true := by
  rw [trim_nil, List.all_eq_true]
  rfl
theorem decVal_take_succ (l : List UInt8) (k : Nat) (h : k < l.length) : decVal (l.take (k + 1)) = 10 * decVal (l.take k) + (l[k].toNat - 48) := by
  rw [List.take_succ_eq_append_getElem h, decVal_snoc]
theorem decVal_take_le (l : List UInt8) : ∀ k j, decVal (l.take k) ≤ decVal (l.take (k + j))
  | _, 0 => Nat.le_refl _
  | k, j + 1 => by
    have h := decVal_take_le l k j
    by_cases hl : k + j < l.length
    · have := decVal_take_succ l (k + j) hl
      show _ ≤ decVal (l.take (k + j + 1))
      omega
    · rw [List.take_of_length_le (by omega : l.length ≤ k + j)] at h
      show _ ≤ decVal (l.take (k + j + 1))
      rw [List.take_of_length_le (by omega : l.length ≤ k + j + 1)]
      exact h
theorem decVal_pre (l : List UInt8) (k : Nat) : decVal (l.take k) ≤ decVal l := by
  have h := decVal_take_le l k l.length
  rwa [List.take_of_length_le (by omega : l.length ≤ k + l.length)] at h
/-- Has a text a sign? -/
def signB (l : List UInt8) : Bool := Lib.hasPrefix l [45] || Lib.hasPrefix l [43]
/-- What is behind the sign. -/
def body (l : List UInt8) : List UInt8 := if signB l then l.drop 1 else l
/-- The number that a text means. -/
def parseV (l : List UInt8) : Option Int :=
  if body l = [] ∨ (body l).all digB = false then none
  else some (if Lib.hasPrefix l [45] then -(decVal (body l) : Int) else (decVal (body l) : Int))
theorem sval_dec (neg : Bool) (n : Nat) : sval neg (limbs n) = if neg then -(n : Int) else (n : Int) := by
  unfold sval
  rw [show lval (limbs n) = n from val_digs BB2 n]
theorem fits_grow {l : List UInt8} {k : Nat} {neg : Bool} (h : 48 < (limbs (decVal (l.take k))).length) : ¬ Fits (if neg then -(decVal l : Int) else (decVal l : Int)) := by
  intro f
  rw [Fits_iff] at f
  have e : (if neg = true then -(decVal l : Int) else (decVal l : Int)).natAbs = decVal l := by cases neg <;> simp
  rw [e] at f
  have := decVal_pre l k
  exact absurd ((digs_len_le BB2 (decVal (l.take k)) 48).2 (Nat.lt_of_le_of_lt this f)) (Nat.not_le.2 h)
end Go.Proofs.YtdfekphahdmffaaDoor
