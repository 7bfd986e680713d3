/-
  The laws' yes, num, fix.
-/
import Derived.Test.YtkjocmenpccooaaGreatDoorHpAj
namespace Go.Proofs.YtkjocmenpccooaaGreatDoor
open Go.RowKit

set_option maxRecDepth 100000 in
set_option maxHeartbeats 4000000 in
theorem yes_any (w : World) (k : Int) (A : Option Addr) (n cp : Nat) (t : Bool) (HR : Calls Tryz.prog 9 #[.int .i64 k, .slice A n cp] w (RunEnd (if t then 1 else 2) 0 0 w)) :
    Calls Tryz.prog 12 #[.int .i64 k, .slice A n cp] w (fun e w' => e = .returned (.bool t) ∧ Keep (fun _ => False) w w') := by
  have HRR := Lib.hid HR
  obtain ⟨kd, hkd⟩ : ∃ kd : Int, kd = if t then 1 else 2 := ⟨_, rfl⟩
  rw [← hkd] at HRR
  have hk : (kd == 1) = t := by rw [hkd]; cases t <;> rfl
  clear HR hkd
  go_enter Tryz.func12, Tryz.ntmps12
  go_wp2_with fail
  refine HRR.out.mono ?_
  rintro e w2 hre
  unfold RunEnd at hre
  rw [if_pos rfl] at hre
  obtain ⟨k2, q, A2, n2, c2, rfl, _⟩ := hre
  have hbn := heap_alloc_new w2 (datC kd q A2 n2 c2 ⟨#[]⟩)
  obtain ⟨⟨d0, d1, d2, d3, d4, d5⟩, _⟩ := six_cells hbn
  have HK := Lib.hid (k2.alloc (datC kd q A2 n2 c2 ⟨#[]⟩))
  have HKD := Lib.hid hk
  clear k2 hbn hk
  go_wp2_with fail
  go_ret
  exact ⟨by rw [← HKD.out]; rfl, HK.out⟩
end Go.Proofs.YtkjocmenpccooaaGreatDoor
