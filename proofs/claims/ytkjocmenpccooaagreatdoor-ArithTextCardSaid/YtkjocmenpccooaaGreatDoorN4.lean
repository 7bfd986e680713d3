/-
  Numbers, by program: texts of another seat, turned to this one.
-/
import Derived.Test.YtkjocmenpccooaaGreatDoorN3
namespace Go.Proofs.YtkjocmenpccooaaGreatDoor
open Go.RowKit
open Go.Lib
theorem dig_byte {v : Nat} (h : v < 10) : (UInt8.ofNat (48 + v)).toNat = 48 + v := by
  simp only [UInt8.toNat_ofNat']
  omega
theorem dec_digits (n : Nat) : (decDigits n).all digB = true ∧ decVal (decDigits n) = n := by
  induction n using Nat.strongRecOn with
  | _ n ih =>
    by_cases h : n < 10
    · rw [dec_small h]
      refine ⟨?_, ?_⟩
      · have := (digB_iff (UInt8.ofNat (48 + n))).2 (by rw [dig_byte h]; omega)
        simp only [List.all_cons, List.all_nil, Bool.and_true]
        exact this
      · show 10 * 0 + ((UInt8.ofNat (48 + n)).toNat - 48) = n
        rw [dig_byte h]
        omega
    · obtain ⟨h1, h2⟩ := ih (n / 10) (by omega)
      rw [dec_big h]
      have hb := dig_byte (Nat.mod_lt n (show 0 < 10 by omega))
      refine ⟨?_, ?_⟩
      · rw [List.all_append, h1]
        have := (digB_iff (UInt8.ofNat (48 + n % 10))).2 (by rw [hb]; omega)
        simp only [List.all_cons, List.all_nil, Bool.and_true, Bool.true_and]
        exact this
      · rw [decVal_snoc, h2, hb]
        omega
theorem first_digit {l : List UInt8} (h : l.all digB = true) : Lib.hasPrefix l [45] = false ∧ Lib.hasPrefix l [43] = false := by
  cases l with
  | nil => exact ⟨rfl, rfl⟩
  | cons x t =>
    have hx : digB x = true := by
      rw [List.all_cons, Bool.and_eq_true] at h
      exact h.1
    have hd := (digB_iff x).1 hx
    have e : ∀ b : UInt8, Lib.hasPrefix (x :: t) [b] = (x == b) := by intro b; simp [Lib.hasPrefix, List.isPrefixOf, Bool.beq_comm]
    rw [e, e]
    constructor
    · rw [beq_eq_false_iff_ne]; rintro rfl; revert hd; decide
    · rw [beq_eq_false_iff_ne]; rintro rfl; revert hd; decide
theorem parse_plain {l : List UInt8} (h : l.all digB = true) (hn : l ≠ []) : parseV l = some (decVal l : Int) := by
  obtain ⟨h1, h2⟩ := first_digit h
  unfold parseV body signB
  rw [h1, h2]
  rw [show (if (false || false) = true then l.drop 1 else l) = l from rfl, if_neg]
  · rfl
  · rintro (e | e)
    · exact hn e
    · rw [h] at e; cases e
theorem parse_minus {l : List UInt8} (h : l.all digB = true) (hn : l ≠ []) : parseV (45 :: l) = some (-(decVal l : Int)) := by
  have h1 : Lib.hasPrefix (45 :: l) [45] = true := by simp [Lib.hasPrefix, List.isPrefixOf]
  unfold parseV body signB
  rw [h1, Bool.true_or, show (if true = true then (45 :: l).drop 1 else 45 :: l) = l from rfl, if_neg]
  · rfl
  · rintro (e | e)
    · exact hn e
    · rw [h] at e; cases e
theorem dec_ne (n : Nat) : decDigits n ≠ [] := by
  intro e
  have := dec_pos n
  rw [e] at this
  simp at this
theorem itoa_neg {x : Int} (h : x < 0) : itoa x = 45 :: decDigits x.natAbs := by unfold itoa; rw [if_pos h]
theorem itoa_pos {x : Int} (h : ¬ x < 0) : itoa x = decDigits x.natAbs := by
  unfold itoa
  rw [if_neg h]
  congr 1
  omega
theorem parse_itoa (x : Int) : parseV (itoa x) = some x := by
  obtain ⟨h1, h2⟩ := dec_digits x.natAbs
  by_cases h : x < 0
  · rw [itoa_neg h, parse_minus h1 (dec_ne _), h2]
    congr 1
    omega
  · rw [itoa_pos h, parse_plain h1 (dec_ne _), h2]
    congr 1
    omega
end Go.Proofs.YtkjocmenpccooaaGreatDoor
