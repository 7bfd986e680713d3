/-
  The rows of arith's table.
-/
import Derived.Test.YtkjocmenpccooaaGreatDoorHpT
namespace Go.Proofs.YtkjocmenpccooaaGreatDoor
open Go.RowKit

theorem tab_ix0 (W : World) : (Instr.index 68 (.agg tabC) (.int .i64 0)).run Tryz.prog W = .ok (.agg #[.string ⟨#[43]⟩, .int .i64 0, .int .i64 (-1)]) W := by kernel_rfl
theorem tab_ix1 (W : World) : (Instr.index 68 (.agg tabC) (.int .i64 1)).run Tryz.prog W = .ok (.agg #[.string ⟨#[42]⟩, .int .i64 0, .int .i64 (-1)]) W := by kernel_rfl
theorem tab_ix3 (W : World) : (Instr.index 68 (.agg tabC) (.int .i64 3)).run Tryz.prog W = .ok (.agg #[.string ⟨#[45]⟩, .int .i64 1, .int .i64 (-1)]) W := by kernel_rfl
theorem tab_ix4 (W : World) : (Instr.index 68 (.agg tabC) (.int .i64 4)).run Tryz.prog W = .ok (.agg #[.string ⟨#[113, 117, 111, 116, 105, 101, 110, 116]⟩, .int .i64 2, .int .i64 2]) W := by kernel_rfl
theorem tab_ix5 (W : World) : (Instr.index 68 (.agg tabC) (.int .i64 5)).run Tryz.prog W = .ok (.agg #[.string ⟨#[114, 101, 109, 97, 105, 110, 100, 101, 114]⟩, .int .i64 2, .int .i64 2]) W := by kernel_rfl
theorem tab_ix6 (W : World) : (Instr.index 68 (.agg tabC) (.int .i64 6)).run Tryz.prog W = .ok (.agg #[.string ⟨#[109, 111, 100, 117, 108, 111]⟩, .int .i64 2, .int .i64 2]) W := by kernel_rfl
theorem tab_ix12 (W : World) : (Instr.index 68 (.agg tabC) (.int .i64 12)).run Tryz.prog W = .ok (.agg #[.string ⟨#[109, 97, 120]⟩, .int .i64 1, .int .i64 (-1)]) W := by kernel_rfl
theorem tab_ix13 (W : World) : (Instr.index 68 (.agg tabC) (.int .i64 13)).run Tryz.prog W = .ok (.agg #[.string ⟨#[109, 105, 110]⟩, .int .i64 1, .int .i64 (-1)]) W := by kernel_rfl
theorem tab_ix14 (W : World) : (Instr.index 68 (.agg tabC) (.int .i64 14)).run Tryz.prog W = .ok (.agg #[.string ⟨#[97, 98, 115]⟩, .int .i64 1, .int .i64 1]) W := by kernel_rfl
theorem tab_ix15 (W : World) : (Instr.index 68 (.agg tabC) (.int .i64 15)).run Tryz.prog W = .ok (.agg #[.string ⟨#[122, 101, 114, 111, 63]⟩, .int .i64 1, .int .i64 1]) W := by kernel_rfl
theorem tab_ix16 (W : World) : (Instr.index 68 (.agg tabC) (.int .i64 16)).run Tryz.prog W = .ok (.agg #[.string ⟨#[112, 111, 115, 105, 116, 105, 118, 101, 63]⟩, .int .i64 1, .int .i64 1]) W := by kernel_rfl
theorem tab_ix17 (W : World) : (Instr.index 68 (.agg tabC) (.int .i64 17)).run Tryz.prog W = .ok (.agg #[.string ⟨#[110, 101, 103, 97, 116, 105, 118, 101, 63]⟩, .int .i64 1, .int .i64 1]) W := by kernel_rfl
theorem tab_ix18 (W : World) : (Instr.index 68 (.agg tabC) (.int .i64 18)).run Tryz.prog W = .ok (.agg #[.string ⟨#[111, 100, 100, 63]⟩, .int .i64 1, .int .i64 1]) W := by kernel_rfl
theorem tab_ix19 (W : World) : (Instr.index 68 (.agg tabC) (.int .i64 19)).run Tryz.prog W = .ok (.agg #[.string ⟨#[101, 118, 101, 110, 63]⟩, .int .i64 1, .int .i64 1]) W := by kernel_rfl
theorem tab_ix22 (W : World) : (Instr.index 68 (.agg tabC) (.int .i64 22)).run Tryz.prog W = .ok (.agg #[.string ⟨#[110, 117, 109, 98, 101, 114, 45, 62, 115, 116, 114, 105, 110, 103]⟩, .int .i64 1, .int .i64 1]) W := by kernel_rfl
theorem tab_ix23 (W : World) : (Instr.index 68 (.agg tabC) (.int .i64 23)).run Tryz.prog W = .ok (.agg #[.string ⟨#[115, 116, 114, 105, 110, 103, 45, 62, 110, 117, 109, 98, 101, 114]⟩, .int .i64 1, .int .i64 1]) W := by kernel_rfl
end Go.Proofs.YtkjocmenpccooaaGreatDoor
