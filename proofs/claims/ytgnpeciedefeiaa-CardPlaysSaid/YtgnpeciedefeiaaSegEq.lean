/-
  Two segments that are told alike are equal: the array and the struct of api.Segment.
-/
import Derived.Test.YtgnpeciedefeiaaRefTaken
import Derived.Laws.StructEq
namespace Go.Proofs.Ytgnpeciedefeiaa
open Go.RowKit
theorem eq35 (d e f g : Int) (w : World) : (Op.equalIn 9999 35 (.agg #[.int .i64 d, .int .i64 e, .int .i64 f, .int .i64 g]) (.agg #[.int .i64 d, .int .i64 e, .int .i64 f, .int .i64 g])).run Try.prog w = .ok true w := by
  have hs2 : Try.prog.stoodInHeld 35 = false := by kernel_rfl
  have hc : Try.prog.cellsOf 3 = 1 := by kernel_rfl
  have hag : ∀ w, (isAgg 3).run Try.prog w = .ok false w := fun w => by kernel_rfl
  have he : ∀ (x : Int) (w : World), (Op.equalIn 9998 3 (.int .i64 x) (.int .i64 x)).run Try.prog w = .ok true w := fun x w => by
    have := run_equalIn_int (P := Try.prog) w 9997 3 .i64 .i64 x x Try.underlying3
    simpa using this
  unfold Op.equalIn
  simp [go_sem, List.range', hag, he, List.forIn_cons, Sem.run_bind]
theorem neq37 (a b c d e f g : Int) (w : World) : (binOp .neq 37 (.agg #[.int .i64 a, .int .i64 b, .int .i64 c, .int .i64 d, .int .i64 e, .int .i64 f, .int .i64 g]) (.agg #[.int .i64 a, .int .i64 b, .int .i64 c, .int .i64 d, .int .i64 e, .int .i64 f, .int .i64 g])).run Try.prog w = .ok (.bool false) w := by
  have hs : Try.prog.stoodInHeld 37 = false := by kernel_rfl
  have hf : Try.prog.underlying 37 = some (.struct (Try.prog.fieldsOf 37)) := by kernel_rfl
  rw [run_neq_struct, run_equalIn_agg w 9999 37 _ _ hf hs]
  simp [Program.fieldsOf, Try.underlying37, go_sem, eq35]
end Go.Proofs.Ytgnpeciedefeiaa
