/-
  The operations of the laws' regions, one by one.
-/
import Derived.Test.YtkjocmenpccooaaGreatDoorHqV
import Derived.Test.YtkjocmenpccooaaGreatDoorHqW
namespace Go.Proofs.YtkjocmenpccooaaGreatDoor
open Go.RowKit

section
variable {ρ : Operand → Value} {o : Oper} {w : World}
theorem exec_move {x : Operand} (ho : o.op = .move x) : (execOp ρ o).run Tryz.prog w = .ok (.value (ρ x)) w := by
  unfold execOp
  rw [ho]
  rfl
theorem exec_assign {x : Operand} (ho : o.op = .assign x) : (execOp ρ o).run Tryz.prog w = .ok (.value (ρ x)) w := by
  unfold execOp
  rw [ho]
  rfl
theorem exec_pick {c x y : Operand} {t : Bool} (ho : o.op = .pick c x y) (hc : ρ c = .bool t) : (execOp ρ o).run Tryz.prog w = .ok (.value (bif t then ρ x else ρ y)) w := by
  unfold execOp
  rw [ho]
  simp only [hc]
  cases t <;> rfl
theorem exec_not {x : Operand} {t : Bool} (ho : o.op = .unOp .not 4 x) (hx : ρ x = .bool t) : (execOp ρ o).run Tryz.prog w = .ok (.value (.bool !t)) w := by
  unfold execOp
  rw [ho]
  simp only [hx]
  cases t <;> rfl
theorem exec_eql {x y : Operand} {s t : Bool} (ho : o.op = .binOp .eql 4 x y 4) (hx : ρ x = .bool s) (hy : ρ y = .bool t) : (execOp ρ o).run Tryz.prog w = .ok (.value (.bool (s == t))) w := by
  unfold execOp
  rw [ho]
  simp only [hx, hy]
  cases s <;> cases t <;> go_simp
theorem exec_eqi {x y : Operand} {s t : Int} (ho : o.op = .binOp .eql 30 x y 30) (hx : ρ x = .int .i64 s) (hy : ρ y = .int .i64 t) : (execOp ρ o).run Tryz.prog w = .ok (.value (.bool (s == t))) w := by
  unfold execOp
  rw [ho]
  simp only [hx, hy]
  go_simp
/-- A load of a box. -/
theorem exec_load {x : Operand} {b : Bx} {w0 : World} {L : List Bx} (ho : o.op = .load 27 x) (hx : ρ x = .pointer (some ⟨b.B, 0, none⟩)) (hr : Road w0 w L) (hb : b ∈ L) : (execOp ρ o).run Tryz.prog w = .ok (.value (datV 4 b.q b.A b.n b.c ⟨#[]⟩)) w := by
  obtain ⟨h0, h1, h2, h3, h4, h5⟩ := hr.cells b hb
  unfold execOp
  rw [ho]
  simp only [hx]
  go_simp
theorem exec_row1 {x : Operand} {q : Bool} {A : Option Addr} {n c : Nat} (ho : o.op = .buildSlice 25 1 #[(0, x)]) (hx : ρ x = datV 4 q A n c ⟨#[]⟩) :
    (execOp ρ o).run Tryz.prog w = .ok (.value (.slice (some ⟨w.heap.size, 0, none⟩) 1 1)) (w.alloc (.cells #[.int .i64 4, .int .i32 0, .bool q, .slice A n c, .string ⟨#[]⟩, .slice none 0 0] 27)) := by
  unfold execOp
  rw [ho]
  simp only [List.map_toArray, List.map_cons, List.map_nil, hx]
  go_simp
theorem exec_alloc (ho : o.op = .alloc 27) : (execOp ρ o).run Tryz.prog w = .ok (.value (.pointer (some ⟨w.heap.size, 0, none⟩))) (w.alloc (datC 0 false none 0 0 ⟨#[]⟩)) := by
  unfold execOp
  rw [ho]
  go_simp
theorem exec_load24 {x : Operand} {B : Nat} {q : Bool} {A : Option Addr} {n c : Nat} (ho : o.op = .load 24 x) (hx : ρ x = .pointer (some ⟨B, 0, none⟩)) (h0 : w.cell? ⟨B, 0, none⟩ = some (.bool q)) (h1 : w.cell? ⟨B, 1, none⟩ = some (.slice A n c)) : (execOp ρ o).run Tryz.prog w = .ok (.value (numArg q A n c)) w := by
  unfold execOp
  rw [ho]
  simp only [hx]
  go_simp
theorem exec_store {x y : Operand} {B : Nat} {q : Bool} {A : Option Addr} {n c : Nat} (ho : o.op = .store 27 x y) (hx : ρ x = .pointer (some ⟨B, 0, none⟩)) (hy : ρ y = datV 4 q A n c ⟨#[]⟩) (hr : w.heap[B]? = some (datC 0 false none 0 0 ⟨#[]⟩)) :
    (execOp ρ o).run Tryz.prog w = .ok .skip (sixSet w B (.int .i64 4) (.int .i32 0) (.bool q) (.slice A n c) (.string ⟨#[]⟩) (.slice none 0 0)) := by
  obtain ⟨⟨h0, h1, h2, h3, h4, h5⟩, f0, f1, f2, f3, f4, f5⟩ := six_cells hr
  unfold execOp
  rw [ho]
  simp only [hx, hy]
  go_simp
theorem call12 (args : Array Value) (W : World) : (callFunc 12 args).run Tryz.prog W = .ok (.enter 12 args) W := by go_simp
theorem call8 (args : Array Value) (W : World) : (callFunc 8 args).run Tryz.prog W = .ok (.enter 8 args) W := by go_simp
theorem call11 (args : Array Value) (W : World) : (callFunc 11 args).run Tryz.prog W = .ok (.enter 11 args) W := by go_simp
theorem call13 (args : Array Value) (W : World) : (callFunc 13 args).run Tryz.prog W = .ok (.enter 13 args) W := by go_simp
theorem exec_call2 {a : Act} {f : FuncId} {c : Call} {x y : Operand} {vx vy : Value} (hcf : ∀ (args : Array Value) (W : World), (callFunc f args).run Tryz.prog W = .ok (.enter f args) W) (ho : o.op = .call c) (hc : c.callee = .value (.func f)) (ha : c.args = #[x, y]) (hx : a.eval x = vx) (hy : a.eval y = vy) : (execOp a.eval o).run Tryz.prog w = .ok (.enter f #[vx, vy]) w := by
  obtain ⟨cal, args, tys⟩ := c
  simp only at hc ha
  subst hc ha hx hy
  unfold execOp
  rw [ho]
  have e : a.eval (.func f) = .func (.func f) #[] #[] := rfl
  simp only [e]
  go_simp
theorem exec_call0 {a : Act} {f : FuncId} {c : Call} (hcf : ∀ (args : Array Value) (W : World), (callFunc f args).run Tryz.prog W = .ok (.enter f args) W) (ho : o.op = .call c) (hc : c.callee = .value (.func f)) (ha : c.args = #[]) : (execOp a.eval o).run Tryz.prog w = .ok (.enter f #[]) w := by
  obtain ⟨cal, args, tys⟩ := c
  simp only at hc ha
  subst hc ha
  unfold execOp
  rw [ho]
  have e : a.eval (.func f) = .func (.func f) #[] #[] := rfl
  simp only [e]
  go_simp
theorem exec_call1 {a : Act} {f : FuncId} {c : Call} {x : Operand} {vx : Value} (hcf : ∀ (args : Array Value) (W : World), (callFunc f args).run Tryz.prog W = .ok (.enter f args) W) (ho : o.op = .call c) (hc : c.callee = .value (.func f)) (ha : c.args = #[x]) (hx : a.eval x = vx) : (execOp a.eval o).run Tryz.prog w = .ok (.enter f #[vx]) w := by
  obtain ⟨cal, args, tys⟩ := c
  simp only at hc ha
  subst hc ha hx
  unfold execOp
  rw [ho]
  have e : a.eval (.func f) = .func (.func f) #[] #[] := rfl
  simp only [e]
  go_simp
end
/-- Is a guarded operation wanted? -/
theorem want_on {ops : Array Oper} {o : Oper} {a : Act} {k s : Nat} {b : Bool} (hg : o.guard = some (k, b)) (hd : (ops[k]?).bind (·.dst) = some s) (h : a.tmps.getD s undef = .bool b) : Region.wanted o (yielded ops a.tmps) = true := by
  unfold Region.wanted
  rw [hg]
  simp only [yield_bool hd h]
  cases b <;> rfl
theorem want_off {ops : Array Oper} {o : Oper} {a : Act} {k s : Nat} {b : Bool} (hg : o.guard = some (k, b)) (hd : (ops[k]?).bind (·.dst) = some s) (h : a.tmps.getD s undef = .bool (!b)) : Region.wanted o (yielded ops a.tmps) = false := by
  unfold Region.wanted
  rw [hg]
  simp only [yield_bool hd h]
  cases b <;> rfl
theorem want_none {ops : Array Oper} {o : Oper} {a : Act} {k s : Nat} {b : Bool} (hg : o.guard = some (k, b)) (hd : (ops[k]?).bind (·.dst) = some s) (h : a.tmps.getD s undef = undef) : Region.wanted o (yielded ops a.tmps) = false := by
  unfold Region.wanted
  rw [hg]
  simp only [yield_undef hd h]
  rfl
/-- What an operation leaves: a value, or a row of arguments; or nothing, where it is not wanted. -/
inductive Sp
  | val (g : Bool) (v : Value)
  | row (g : Bool) (n : Nat) (xs : List Int)
  | box (s : Nat)
  | small
def Sp.T : Sp → Value → World → Prop
  | .val g v0, v, _ => v = bif g then v0 else undef
  | .row g n xs, v, w => bif g then ∃ R, v = .slice (some ⟨R, 0, none⟩) n n ∧ ArgsR w (some ⟨R, 0, none⟩) xs else v = undef
  | .box s, v, w => ∃ B, v = .pointer (some ⟨B, 0, none⟩) ∧ s ≤ B ∧ w.heap[B]? = some (datC 0 false none 0 0 ⟨#[]⟩)
  | .small, v, w => ∃ A, v = datV 4 false A 1 1 ⟨#[]⟩ ∧ Bx.Is w ⟨0, 1, false, A, 1, 1⟩
theorem Sp.mono (s : Sp) (v : Value) (w w' : World) (k : Keep (fun _ => False) w w') (h : s.T v w) : s.T v w' := by
  cases s with
  | val g v0 => exact h
  | row g n xs =>
    cases g with
    | true =>
      obtain ⟨R, e, ha⟩ := h
      exact ⟨R, e, ha.keep0 k⟩
    | false => exact h
  | box s =>
    obtain ⟨B, e, hs, hr⟩ := h
    exact ⟨B, e, hs, k.heap hr id⟩
  | small =>
    obtain ⟨A, e, hi⟩ := h
    exact ⟨A, e, hi.keep k⟩
theorem box_fresh {s : Nat} {u : Value} {w : World} (h : (Sp.box s).T u w) : u ≠ .pointer (some ⟨w.heap.size, 0, none⟩) := by
  obtain ⟨B, rfl, _, hr⟩ := h
  intro e
  injection e with e
  injection e with e
  injection e with e
  have := heap_lt hr
  omega
theorem six_far {w : World} {B B' : Nat} {o : Obj} (h : w.heap[B]? = some o) (hne : B' ≠ B) (y0 y1 y2 y3 y4 y5 : Value) : (sixSet w B' y0 y1 y2 y3 y4 y5).heap[B]? = some o := by
  simp [sixSet, World.setCell, Array.getElem?_modify, h, hne]
/-- Its answer, by the law's yes. -/
def YesC (k : Int) (n : Nat) (xs : List Int) (t : Bool) : Prop := ∀ (W : World) (A : Option Addr) (cp : Nat), ArgsR W A xs → Calls Tryz.prog 12 #[.int .i64 k, .slice A n cp] W (BoolPost t W)
theorem yes_ask (k : Int) (hk : k = 15 ∨ k = 16 ∨ k = 17 ∨ k = 18 ∨ k = 19) (x : Int) (t : Bool) (ht : t = askB k x) : YesC k 1 [x] t := fun W A cp h => by
  subst ht
  exact yes_any W k A 1 cp _ (run_ask k hk W A cp x h)
/-- Two boxes of two cells. -/
theorem boxes_two (w : World) (a0 a1 b0 b1 : Value) : ((w.alloc (.cells #[a0, a1] 24)).alloc (.cells #[b0, b1] 24)).heap[w.heap.size]? = some (.cells #[a0, a1] 24 (0, 0)) ∧ ((w.alloc (.cells #[a0, a1] 24)).alloc (.cells #[b0, b1] 24)).heap[w.heap.size + 1]? = some (.cells #[b0, b1] 24 (0, 0)) := by
  refine ⟨bx_old (heap_alloc_new w _) _, ?_⟩
  have := heap_alloc_new (w.alloc (.cells #[a0, a1] 24)) (.cells #[b0, b1] 24)
  rwa [World.size_alloc] at this
/-- Two numbers as they came, and a number in a box. -/
def Raw2 (w0 W : World) (d1 d2 : ND) (B1 B2 : Nat) (b : Bx) : Prop := Keep (fun _ => False) w0 W ∧ d1.Box W B1 ∧ d2.Box W B2 ∧ b.At W
end Go.Proofs.YtkjocmenpccooaaGreatDoor
