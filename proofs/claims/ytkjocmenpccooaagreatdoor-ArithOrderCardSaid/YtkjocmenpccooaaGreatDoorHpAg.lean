/-
  arith.Apply, of numbers: comparisons and questions.
-/
import Derived.Test.YtkjocmenpccooaaGreatDoorHpAf
namespace Go.Proofs.YtkjocmenpccooaaGreatDoor
open Go.RowKit

theorem truth_of (t : Bool) : ∃ tw : Int, tw = (if t then 12 else 4) ∧ ∀ w : World, Calls Tryz.prog 34 #[.bool t] w (fun e w' => e = .returned (.int .u64 tw) ∧ w = w') := ⟨_, rfl, fun w => truth_any t w⟩
/-- A truth's word. -/
def TruPost (t : Bool) (w : World) (e : Ending) (w' : World) : Prop :=
  e = .returned (.tuple #[.int .u64 (if t then 12 else 4), .int .i64 0]) ∧ Keep (fun _ => False) w w'
set_option maxRecDepth 100000 in
set_option maxHeartbeats 8000000 in
theorem apply_cmp {w : World} {h c s p g : Nat} {S : SpV} (H : HpAt w h c s p g S) (k : Int) (hk : k = 7 ∨ k = 8 ∨ k = 9 ∨ k = 10 ∨ k = 11) (n : Nat) (hn1 : 1 ≤ n) (hn : n ≤ 1000)
    (A : Option Addr) (cp : Nat) (us : List Nat) (hr : RowAt .u64 w A n us) (xs : List Int) (hxl : xs.length = n) (hd : ∀ i, i < n → DenH S.M (us.getD i 0) (xs.getD i 0) ∧ Fits (xs.getD i 0)) (t : Bool) (ht : t = orderB k xs) :
    Calls Tryz.prog 18 #[.pointer (some ⟨h, 0, none⟩), .int .i64 k, .slice A n cp] w (TruPost t w) := by
  have HT := Lib.hid (table_any w)
  have HN := Lib.hid (fun (w1 : World) (K : Keep (fun _ => False) w w1) => numbers_any (H.keep0 K) A n cp us (hr.keep0 K) xs hxl hd hn)
  have HRC := Lib.hid (fun (w1 : World) (A' : Option Addr) (c' : Nat) (nr : NumsR w1 A' xs) => ordered_any k hk w1 A' n c' xs hxl nr hn hn1 t ht)
  have l1 : decide ((n : Int) < 1) = false := decide_eq_false (by omega)
  have l2 : decide (n < 1) = false := decide_eq_false (by omega)
  have l3 : (n == 0) = false := by simp; omega
  have l4 : decide (n = 0) = false := decide_eq_false (by omega)
  have l5 : decide ((n : Int) = 0) = false := decide_eq_false (by omega)
  have l6 : decide ((n : Int) ≤ 0) = false := decide_eq_false (by omega)
  obtain ⟨tw, htw, htr⟩ := truth_of t
  have HTW := Lib.hid htw
  have HTR := Lib.hid htr
  clear H hr hxl hd hn hn1 ht htw htr
  rcases hk with rfl | rfl | rfl | rfl | rfl
  all_goals
    go_enter Tryz.func18, Tryz.ntmps18
    go_wp2_with fail
    refine HT.out.mono ?_
    rintro e w1 ⟨rfl, k1⟩
    have HK1 := Lib.hid k1
    have ix7 := tab_ix7
    have ix8 := tab_ix8
    have ix9 := tab_ix9
    have ix10 := tab_ix10
    have ix11 := tab_ix11
    generalize tabC = T at ix7 ix8 ix9 ix10 ix11 ⊢
    clear k1
    go_wp2_with fail
    refine (HN.out _ (HK1.out.alloc _)).mono ?_
    rintro e w2 ⟨A2, c2, rfl, nr, hle, k2⟩
    have HK2 := Lib.hid ((HK1.out.alloc _).trans k2)
    have HY := Lib.hid (HRC.out w2 A2 c2 nr)
    clear nr hle k2
    go_wp2_with fail
    refine HY.out.mono ?_
    rintro e w3 ⟨rfl, k3⟩
    have HK3 := Lib.hid (HK2.out.trans k3)
    clear k3
    go_wp2_with fail
    refine (HTR.out w3).mono ?_
    rintro e w4 ⟨rfl, rfl⟩
    go_wp2_with fail
    go_ret2
    exact ⟨by rw [HTW.out]; rfl, HK3.out⟩
end Go.Proofs.YtkjocmenpccooaaGreatDoor
