/-
  What a law holds on its road: blocks of numbers, and the limbs.
-/
import Derived.Test.YtdfekphahdmffaaDoorNuOpen
import Derived.Test.YtdfekphahdmffaaDoorNuAdd
namespace Go.Proofs.YtdfekphahdmffaaDoor
open Go.RowKit

/-- A number's block. -/
def BoxAt (w : World) (B : Nat) (u v : Value) : Prop := w.heap[B]? = some (.cells #[u, v] 25 (0, 0))
theorem BoxAt.keep {w w' : World} {B : Nat} {u v : Value} (h : BoxAt w B u v) (k : Keep (fun _ => False) w w') : BoxAt w' B u v := k.heap h (by simp)
theorem BoxAt.new (w : World) (u v : Value) : BoxAt (w.alloc (.cells #[u, v] 25)) w.heap.size u v := heap_alloc_new w _
/-- Blocks of numbers; numbers. -/
structure Env (w : World) (bs : List (Nat × Value × Value)) (ms : List (Option Addr × Nat × Nat × List Nat)) (w' : World) : Prop where
  k : Keep (fun _ => False) w w'
  b : ∀ x ∈ bs, BoxAt w' x.1 x.2.1 x.2.2
  m : ∀ x ∈ ms, LimbsAt w' x.1 x.2.1 x.2.2.1 x.2.2.2
namespace Env
variable {w w' w'' : World} {bs : List (Nat × Value × Value)} {ms : List (Option Addr × Nat × Nat × List Nat)}
theorem start (w : World) : Env w [] [] w := ⟨Keep.refl _ _, (fun _ h => by cases h), (fun _ h => by cases h)⟩
theorem keep (h : Env w bs ms w') (k : Keep (fun _ => False) w' w'') : Env w bs ms w'' := ⟨h.k.trans k, fun x hx => (h.b x hx).keep k, fun x hx => (h.m x hx).keep0 k⟩
theorem num (h : Env w bs ms w') {A : Option Addr} {n c : Nat} {l : List Nat} (hl : LimbsAt w' A n c l) : Env w bs ((A, n, c, l) :: ms) w' :=
  ⟨h.k, h.b, fun x hx => by
    rcases List.mem_cons.1 hx with rfl | hx
    · exact hl
    · exact h.m x hx⟩
theorem box (h : Env w bs ms w') (u v : Value) : Env w ((w'.heap.size, u, v) :: bs) ms (w'.alloc (.cells #[u, v] 25)) := by
  have k : Keep (fun _ => False) w' (w'.alloc (.cells #[u, v] 25)) := (Keep.refl _ _).alloc _
  refine ⟨h.k.trans k, fun x hx => ?_, fun x hx => (h.m x hx).keep0 k⟩
  rcases List.mem_cons.1 hx with rfl | hx
  · exact BoxAt.new w' u v
  · exact (h.b x hx).keep k
theorem cells (h : Env w bs ms w') {B : Nat} {u v : Value} (hm : (B, u, v) ∈ bs) : w'.cell? ⟨B, 0, none⟩ = some u ∧ w'.cell? ⟨B, 1, none⟩ = some v ∧ B < w'.heap.size := by
  have g := h.b _ hm
  exact ⟨by rw [cell_of_row w' _ _ _ _ _ g]; rfl, by rw [cell_of_row w' _ _ _ _ _ g]; rfl, heap_lt g⟩
end Env
theorem env1 (w : World) (u v : Value) : Env w [(w.heap.size, u, v)] [] (w.alloc (.cells #[u, v] 25)) := (Env.start w).box u v
theorem env2 (w : World) (u v u2 v2 : Value) : Env w [(w.heap.size + 1, u2, v2), (w.heap.size, u, v)] [] ((w.alloc (.cells #[u, v] 25)).alloc (.cells #[u2, v2] 25)) := by
  have := ((Env.start w).box u v).box u2 v2
  simpa only [World.size_alloc] using this
theorem env3 (w : World) (u v u2 v2 u3 v3 : Value) : Env w [(w.heap.size + 1 + 1, u3, v3), (w.heap.size + 1, u2, v2), (w.heap.size, u, v)] [] (((w.alloc (.cells #[u, v] 25)).alloc (.cells #[u2, v2] 25)).alloc (.cells #[u3, v3] 25)) := by
  have := (((Env.start w).box u v).box u2 v2).box u3 v3
  simpa only [World.size_alloc] using this
theorem cmp3 (a b : Int) : cmpI a b = -1 ∨ cmpI a b = 0 ∨ cmpI a b = 1 := by
  unfold cmpI; repeat' split
  all_goals simp
theorem cmp_anti (a b : Int) : cmpI b a = - cmpI a b := by
  unfold cmpI; repeat' split
  all_goals omega
theorem cmp_self (a : Int) : cmpI a a = 0 := by unfold cmpI; simp
theorem cmp_tr {a b c : Int} (h1 : cmpI a b ≤ 0) (h2 : cmpI b c ≤ 0) : cmpI a c = if cmpI a b + cmpI b c = 0 then 0 else -1 := by
  unfold cmpI at *; repeat' split
  all_goals (repeat' split at h1) <;> (repeat' split at h2) <;> omega
theorem sign_cmp (a b : Int) : signI (a - b) = cmpI a b := by
  unfold signI cmpI; repeat' split
  all_goals omega
/-- An answer: too big, or the number. -/
theorem ResPost.two {x : Int} {w w' : World} {e : Ending} (h : ResPost x w e w') : Keep (fun _ => False) w w' ∧ ((¬ Fits x ∧ e = .returned (.tuple #[numArg false none 0 0, .int .i64 6])) ∨ (Fits x ∧ ∃ (q : Bool) (A : Option Addr) (n c : Nat), Hid (q = decide (x < 0)) ∧ e = .returned (.tuple #[numArg q A n c, .int .i64 0]) ∧ LimbsAt w' A n c (limbs x.natAbs) ∧ n ≤ 48 ∧ sval q (limbs x.natAbs) = x)) := by
  obtain ⟨k, h | ⟨A, n, c, f, he, own⟩⟩ := h
  · exact ⟨k, .inl h⟩
  · exact ⟨k, .inr ⟨f, _, A, n, c, rfl, he, own.num f, by have := own.len; unfold Fits at f; omega, sval_limbs x⟩⟩
end Go.Proofs.YtdfekphahdmffaaDoor
