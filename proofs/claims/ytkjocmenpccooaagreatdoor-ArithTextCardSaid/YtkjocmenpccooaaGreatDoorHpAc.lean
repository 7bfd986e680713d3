/-
  arith.half.
-/
import Derived.Test.YtkjocmenpccooaaGreatDoorHpAa
namespace Go.Proofs.YtkjocmenpccooaaGreatDoor
open Go.RowKit

theorem limbs_even (m : Nat) : (limbs m).getD 0 0 % 2 = m % 2 := by
  unfold limbs
  have hB : BB = 2 * 2147483648 := rfl
  by_cases h : m = 0
  · rw [h, digs_zero]
    rfl
  · rw [digs_pos BB2 (by omega)]
    show m % 4294967296 % 2 = m % 2
    omega
set_option maxRecDepth 100000 in
set_option maxHeartbeats 2000000 in
theorem half_any (q : Bool) (A : Option Addr) (n c : Nat) (x : Int) (w : World) (h : LimbsAt w A n c (limbs x.natAbs)) (t : Bool) (ht : t = decide (x % 2 = 0)) :
    Calls Tryz.prog 39 #[numArg q A n c] w (fun e w' => e = .returned (.bool t) ∧ Keep (fun _ => False) w w') := by
  have K : Keep (fun _ => False) w (w.alloc (.cells #[.bool q, .slice A n c] 24)) := (Keep.refl _ _).alloc _
  have h1 := h.keep0 K
  have hb := heap_alloc_new w (.cells #[.bool q, .slice A n c] 24)
  obtain ⟨c0, c1, f0, f1⟩ := two_at hb
  have HK := Lib.hid K
  by_cases hn : n = 0
  · subst hn
    have HTT := Lib.hid (show t = true from by
      have hl := h.len
      have hx : x.natAbs = 0 := by
        have hv : lval (limbs x.natAbs) = x.natAbs := val_digs BB2 _
        rw [List.length_eq_zero_iff.1 hl] at hv
        exact hv.symm
      rw [ht]
      exact decide_eq_true (by omega))
    clear ht h h1 hb K
    go_enter Tryz.func39, Tryz.ntmps39
    go_wp2_with fail
    go_ret
    exact ⟨by rw [HTT.out]; rfl, HK.out⟩
  · obtain ⟨b, off, rfl, hbl, hc⟩ := h1.row.2 0 (by omega)
    obtain ⟨d, hd⟩ : ∃ d, d = (limbs x.natAbs).getD 0 0 := ⟨_, rfl⟩
    rw [← hd, Nat.add_zero] at hc
    have HTT := Lib.hid (show t = decide (d % 2 = 0) from by
      rw [ht, hd, limbs_even]
      by_cases hx : x % 2 = 0
      · rw [decide_eq_true hx, decide_eq_true (by omega)]
      · rw [decide_eq_false hx, decide_eq_false (by omega)])
    have l1 : ((n : Int) == 0) = false := by simpa using hn
    have l2 : decide (n = 0) = false := decide_eq_false hn
    have l3 : decide (0 < n) = true := decide_eq_true (by omega)
    have l4 : 0 < n := by omega
    clear ht h h1 hb K hd
    go_enter Tryz.func39, Tryz.ntmps39
    go_wp2_with fail
    go_ret
    refine ⟨?_, HK.out⟩
    rw [HTT.out]
    show Ending.returned (.bool (((d : Nat) : Int) % 2 == 0)) = _
    congr 2
    rw [Bool.eq_iff_iff]
    simp
    omega
end Go.Proofs.YtkjocmenpccooaaGreatDoor
