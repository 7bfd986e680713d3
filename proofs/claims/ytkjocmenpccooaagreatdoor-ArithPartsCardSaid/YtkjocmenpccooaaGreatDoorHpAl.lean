/-
  The laws' num.
-/
import Derived.Test.YtkjocmenpccooaaGreatDoorHpAk
namespace Go.Proofs.YtkjocmenpccooaaGreatDoor
open Go.RowKit

set_option maxRecDepth 100000 in
set_option maxHeartbeats 1000000 in
theorem num_any11 (w : World) (q : Bool) (A : Option Addr) (n c : Nat) :
    Calls Tryz.prog 11 #[numArg q A n c] w (fun e w' => e = .returned (datV 4 q A n c ⟨#[]⟩) ∧ Keep (fun _ => False) w w') := by
  have hb := heap_alloc_new (w.alloc (.cells #[.bool q, .slice A n c] 24)) (datC 4 q A n c ⟨#[]⟩)
  rw [World.size_alloc] at hb
  have HCC := Lib.hid (six_cells hb).1
  have HK := Lib.hid (show Keep (fun _ => False) w ((w.alloc (.cells #[.bool q, .slice A n c] 24)).alloc (datC 4 q A n c ⟨#[]⟩)) from ((Keep.refl _ _).alloc _).alloc _)
  clear hb
  go_enter Tryz.func11, Tryz.ntmps11
  go_wp2_with fail
  refine bodyPost_ret (v := datV 4 q A n c ⟨#[]⟩) ?_ rfl ⟨rfl, HK.out⟩
  obtain ⟨e0, e1, e2, e3, e4, e5⟩ := HCC.out
  generalize (w.alloc (.cells #[.bool q, .slice A n c] 24)).alloc (datC 4 q A n c ⟨#[]⟩) = W at *
  simp [results, Tryz.results11, go_sem, e0, e1, e2, e3, e4, e5]
end Go.Proofs.YtkjocmenpccooaaGreatDoor
