/-
  arith.table.
-/
import Derived.Test.YtkjocmenpccooaaGreatDoorHpH
namespace Go.Proofs.YtkjocmenpccooaaGreatDoor
open Go.RowKit

abbrev tabC : Array Value := #[.string ⟨#[43]⟩, .int .i64 0, .int .i64 (-1), .string ⟨#[42]⟩, .int .i64 0, .int .i64 (-1), .string ⟨#[103, 99, 100]⟩, .int .i64 0, .int .i64 (-1), .string ⟨#[45]⟩, .int .i64 1, .int .i64 (-1), .string ⟨#[113, 117, 111, 116, 105, 101, 110, 116]⟩, .int .i64 2, .int .i64 2, .string ⟨#[114, 101, 109, 97, 105, 110, 100, 101, 114]⟩, .int .i64 2, .int .i64 2, .string ⟨#[109, 111, 100, 117, 108, 111]⟩, .int .i64 2, .int .i64 2, .string ⟨#[61]⟩, .int .i64 1, .int .i64 (-1), .string ⟨#[60]⟩, .int .i64 1, .int .i64 (-1), .string ⟨#[62]⟩, .int .i64 1, .int .i64 (-1), .string ⟨#[60, 61]⟩, .int .i64 1, .int .i64 (-1), .string ⟨#[62, 61]⟩, .int .i64 1, .int .i64 (-1), .string ⟨#[109, 97, 120]⟩, .int .i64 1, .int .i64 (-1), .string ⟨#[109, 105, 110]⟩, .int .i64 1, .int .i64 (-1), .string ⟨#[97, 98, 115]⟩, .int .i64 1, .int .i64 1, .string ⟨#[122, 101, 114, 111, 63]⟩, .int .i64 1, .int .i64 1, .string ⟨#[112, 111, 115, 105, 116, 105, 118, 101, 63]⟩, .int .i64 1, .int .i64 1, .string ⟨#[110, 101, 103, 97, 116, 105, 118, 101, 63]⟩, .int .i64 1, .int .i64 1, .string ⟨#[111, 100, 100, 63]⟩, .int .i64 1, .int .i64 1, .string ⟨#[101, 118, 101, 110, 63]⟩, .int .i64 1, .int .i64 1, .string ⟨#[110, 117, 109, 98, 101, 114, 63]⟩, .int .i64 1, .int .i64 1, .string ⟨#[105, 110, 116, 101, 103, 101, 114, 63]⟩, .int .i64 1, .int .i64 1, .string ⟨#[110, 117, 109, 98, 101, 114, 45, 62, 115, 116, 114, 105, 110, 103]⟩, .int .i64 1, .int .i64 1, .string ⟨#[115, 116, 114, 105, 110, 103, 45, 62, 110, 117, 109, 98, 101, 114]⟩, .int .i64 1, .int .i64 1]
theorem there_new (w : World) (C : Array Value) (t : TypeId) (n : Nat) (h : C.size = n) : (w.alloc (.cells C t)).there w.heap.size 0 n := by
  intro j hj
  have hb := heap_alloc_new w (.cells C t)
  refine ⟨?_, by generalize w.alloc (.cells C t) = W at hb ⊢; simp [World.frozen?, hb]⟩
  rw [cell_of_row _ _ _ _ _ _ hb, Nat.zero_add, Array.getElem?_eq_getElem (by omega)]
  rfl
theorem tab_info : (Tryz.prog.info? 68).map (·.size) = some tabC.size := by kernel_rfl
theorem tab_one : tabC.all (·.oneCell') = true := by kernel_rfl
/-- The table has been laid. -/
def TabW (w W : World) : Prop := (loadVar 68 ⟨w.heap.size, 0, none⟩).run Tryz.prog W = .ok (.agg tabC) W ∧ Keep (fun _ => False) w W
theorem tab_pass (w : World) (C : Array Value) (hC : C.size = 72) (R : World → Prop) (h : ∀ W, TabW w W → R W) : R ((w.alloc (.cells C 68)).setCells w.heap.size 0 tabC.toList) := by
  refine h _ ⟨?_, ((Keep.refl _ _).alloc _).setCells (.inr (Nat.le_refl _)) _ _⟩
  exact run_loadVar_mid _ w.heap.size 0 68 tabC.toList _ (World.rangeAt_setCells_same _ _ _ _ (there_new _ _ _ _ hC)) Tryz.underlying68 rfl tab_info
set_option maxRecDepth 100000 in
set_option maxHeartbeats 8000000 in
theorem table_any (w : World) : Calls Tryz.prog 32 #[] w (fun e w' => e = .returned (.agg tabC) ∧ Keep (fun _ => False) w w') := by
  have HI := Lib.hid tab_info
  have HO := Lib.hid tab_one
  go_enter Tryz.func32, Tryz.ntmps32
  go_wp2_with (refine wpList_store_mid rfl 68 (.tmp 0) (.tmp 25) rfl w.heap.size 0 tabC rfl rfl (there_new _ _ _ _ rfl) HI.out HO.out ?_; refine tab_pass w _ rfl _ ?_)
  intro W hW
  have HW := Lib.hid hW
  clear hW
  go_wp2_with fail
  refine bodyPost_ret (v := .agg tabC) ?_ rfl ⟨rfl, HW.out.2⟩
  have := HW.out.1
  simp [results, Tryz.results32, asAddr, this]
end Go.Proofs.YtkjocmenpccooaaGreatDoor
