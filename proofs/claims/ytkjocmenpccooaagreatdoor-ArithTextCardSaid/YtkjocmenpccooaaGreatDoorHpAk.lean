/-
  The laws' yes, num, fix.
  The laws' num.
  The laws' fix.
-/
import Derived.Test.YtkjocmenpccooaaGreatDoorHpAj
namespace Go.Proofs.YtkjocmenpccooaaGreatDoor
open Go.RowKit

set_option maxRecDepth 100000 in
set_option maxHeartbeats 4000000 in
theorem yes_any (w : World) (k : Int) (A : Option Addr) (n cp : Nat) (t : Bool) (HR : Calls Tryz.prog 9 #[.int .i64 k, .slice A n cp] w (RunEnd (if t then 1 else 2) 0 0 w)) :
    Calls Tryz.prog 12 #[.int .i64 k, .slice A n cp] w (fun e w' => e = .returned (.bool t) ∧ Keep (fun _ => False) w w') := by
  have HRR := Lib.hid HR
  obtain ⟨kd, hkd⟩ : ∃ kd : Int, kd = if t then 1 else 2 := ⟨_, rfl⟩
  rw [← hkd] at HRR
  have hk : (kd == 1) = t := by rw [hkd]; cases t <;> rfl
  clear HR hkd
  go_enter Tryz.func12, Tryz.ntmps12
  go_wp2_with fail
  refine HRR.out.mono ?_
  rintro e w2 hre
  unfold RunEnd at hre
  rw [if_pos rfl] at hre
  obtain ⟨k2, q, A2, n2, c2, rfl, _⟩ := hre
  have hbn := heap_alloc_new w2 (datC kd q A2 n2 c2 ⟨#[]⟩)
  obtain ⟨⟨d0, d1, d2, d3, d4, d5⟩, _⟩ := six_cells hbn
  have HK := Lib.hid (k2.alloc (datC kd q A2 n2 c2 ⟨#[]⟩))
  have HKD := Lib.hid hk
  clear k2 hbn hk
  go_wp2_with fail
  go_ret
  exact ⟨by rw [← HKD.out]; rfl, HK.out⟩
end Go.Proofs.YtkjocmenpccooaaGreatDoor

namespace Go.Proofs.YtkjocmenpccooaaGreatDoor
open Go.RowKit

set_option maxRecDepth 100000 in
set_option maxHeartbeats 1000000 in
theorem num_any11 (w : World) (q : Bool) (A : Option Addr) (n c : Nat) :
    Calls Tryz.prog 11 #[numArg q A n c] w (fun e w' => e = .returned (datV 4 q A n c ⟨#[]⟩) ∧ Keep (fun _ => False) w w') := by
  have hb := heap_alloc_new (w.alloc (.cells #[.bool q, .slice A n c] 24)) (datC 4 q A n c ⟨#[]⟩)
  rw [World.size_alloc] at hb
  have HCC := Lib.hid (six_cells hb).1
  have HK := Lib.hid (show Keep (fun _ => False) w ((w.alloc (.cells #[.bool q, .slice A n c] 24)).alloc (datC 4 q A n c ⟨#[]⟩)) from ((Keep.refl _ _).alloc _).alloc _)
  clear hb
  go_enter Tryz.func11, Tryz.ntmps11
  go_wp2_with fail
  refine bodyPost_ret (v := datV 4 q A n c ⟨#[]⟩) ?_ rfl ⟨rfl, HK.out⟩
  obtain ⟨e0, e1, e2, e3, e4, e5⟩ := HCC.out
  generalize (w.alloc (.cells #[.bool q, .slice A n c] 24)).alloc (datC 4 q A n c ⟨#[]⟩) = W at *
  simp [results, Tryz.results11, go_sem, e0, e1, e2, e3, e4, e5]
end Go.Proofs.YtkjocmenpccooaaGreatDoor

namespace Go.Proofs.YtkjocmenpccooaaGreatDoor
open Go.RowKit

set_option maxRecDepth 100000 in
set_option maxHeartbeats 1000000 in
theorem fix_any13 (w : World) (neg : Bool) (u : Nat) (hu : 0 < u) (hu2 : u < 4294967296) :
    Calls Tryz.prog 13 #[.int .u32 (u : Int), .bool neg] w (fun e w' => ∃ A, e = .returned (datV 4 neg A 1 1 ⟨#[]⟩) ∧ LimbsAt w' A 1 1 [u] ∧ Keep (fun _ => False) w w') := by
  have l1 : decide ((0 : Int) < (u : Int)) = true := decide_eq_true (by omega)
  have l2 : decide (0 < u) = true := decide_eq_true hu
  obtain ⟨X, hX⟩ : ∃ X, X = datC 4 neg (some ⟨w.heap.size + 1 + 1, 0, none⟩) 1 1 ⟨#[]⟩ := ⟨_, rfl⟩
  have hb : (((w.alloc X).alloc X).alloc (.cells #[.int .u32 (u : Int)] 39)).heap[w.heap.size]? = some (.cells #[.int .i64 4, .int .i32 0, .bool neg, .slice (some ⟨w.heap.size + 1 + 1, 0, none⟩) 1 1, .string ⟨#[]⟩, .slice none 0 0] 27 (0, 0)) := by
    rw [hX]
    exact bx_old (bx_old (heap_alloc_new w _) _) _
  have hc : (((w.alloc X).alloc X).alloc (.cells #[.int .u32 (u : Int)] 39)).heap[w.heap.size + 1 + 1]? = some (.cells #[.int .u32 (u : Int)] 39 (0, 0)) := by
    have := heap_alloc_new ((w.alloc X).alloc X) (.cells #[.int .u32 (u : Int)] 39)
    rwa [World.size_alloc, World.size_alloc] at this
  have HL := Lib.hid (show LimbsAt (((w.alloc X).alloc X).alloc (.cells #[.int .u32 (u : Int)] 39)) (some ⟨w.heap.size + 1 + 1, 0, none⟩) 1 1 [u] from by
    refine ⟨⟨rfl, fun j hj => ⟨w.heap.size + 1 + 1, 0, rfl, by simp, ?_⟩⟩, ?_, Nat.le_refl _, by omega⟩
    · obtain rfl : j = 0 := by omega
      rw [cell_of_row _ _ _ _ _ _ hc]
      rfl
    · intro d hd
      simp only [List.mem_cons, List.not_mem_nil, or_false] at hd
      rw [hd]
      exact hu2)
  have HCC := Lib.hid (six_cells hb).1
  have HK := Lib.hid (show Keep (fun _ => False) w (((w.alloc X).alloc X).alloc (.cells #[.int .u32 (u : Int)] 39)) from (((Keep.refl _ _).alloc _).alloc _).alloc _)
  have HX := Lib.hid hX
  clear hb hc hX
  go_enter Tryz.func13, Tryz.ntmps13
  go_wp2_with fail
  have hx := HX.out
  unfold datC at hx
  rw [← hx]
  refine bodyPost_ret (v := datV 4 neg (some ⟨w.heap.size + 1 + 1, 0, none⟩) 1 1 ⟨#[]⟩) ?_ rfl ⟨_, rfl, HL.out, HK.out⟩
  obtain ⟨e0, e1, e2, e3, e4, e5⟩ := HCC.out
  generalize ((w.alloc X).alloc X).alloc (.cells #[.int .u32 (u : Int)] 39) = W at *
  simp [results, Tryz.results13, go_sem, e0, e1, e2, e3, e4, e5]
end Go.Proofs.YtkjocmenpccooaaGreatDoor
