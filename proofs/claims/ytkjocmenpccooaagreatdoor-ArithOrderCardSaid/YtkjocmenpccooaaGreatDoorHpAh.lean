/-
  arith.Apply: odd, even; an argument that is no number.
-/
import Derived.Test.YtkjocmenpccooaaGreatDoorHpAg
namespace Go.Proofs.YtkjocmenpccooaaGreatDoor
open Go.RowKit

/-- One and the empty list, divided: no numbers. -/
theorem apply_bad {w : World} {h c s p g : Nat} {S : SpV} (H : HpAt w h c s p g S) (A : Option Addr) (cp : Nat) (us : List Nat) (hr : RowAt .u64 w A 2 us) (x : Int) (hd : DenH S.M (us.getD 0 0) x) (hf : Fits x) (hbad : ∀ w2, Keep (fun _ => False) w w2 → Calls Tryz.prog 33 #[.pointer (some ⟨h, 0, none⟩), .int .u64 ((us.getD 1 0 : Nat) : Int)] w2 (fun e w' => e = .returned (.tuple #[numArg false none 0 0, .int .i64 3]) ∧ Keep (fun _ => False) w2 w')) :
    Calls Tryz.prog 18 #[.pointer (some ⟨h, 0, none⟩), .int .i64 4, .slice A 2 cp] w (fun e w' => e = .returned (.tuple #[.int .u64 0, .int .i64 3]) ∧ Keep (fun _ => False) w w') := by
  have HT := Lib.hid (table_any w)
  have HN := Lib.hid (fun (w1 : World) (K : Keep (fun _ => False) w w1) => numbers_bad (H.keep0 K) A 2 cp us (hr.keep0 K) [x] 1 rfl (by decide) (fun i hi => by
    obtain rfl : i = 0 := by omega
    exact ⟨hd, hf⟩) (by decide) (fun w2 k2 => hbad w2 (K.trans k2)))
  clear H hr hd hf hbad
  go_enter Tryz.func18, Tryz.ntmps18
  go_wp2_with fail
  refine HT.out.mono ?_
  rintro e w1 ⟨rfl, k1⟩
  have HK1 := Lib.hid k1
  have ix4 := tab_ix4
  generalize tabC = T at ix4 ⊢
  clear k1
  go_wp2_with fail
  refine (HN.out _ (HK1.out.alloc _)).mono ?_
  rintro e w2 ⟨rfl, k2⟩
  have HK2 := Lib.hid ((HK1.out.alloc _).trans k2)
  clear k2
  go_wp2_with fail
  go_ret2
  exact ⟨rfl, HK2.out⟩
end Go.Proofs.YtkjocmenpccooaaGreatDoor
