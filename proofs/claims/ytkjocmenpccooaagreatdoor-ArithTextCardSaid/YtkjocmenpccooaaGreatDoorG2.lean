/-
  Numbers, by program: texts of another seat, turned to this one.
-/
import Derived.Test.YtkjocmenpccooaaGreatDoorG1
namespace Go.Proofs.YtkjocmenpccooaaGreatDoor
open Go.RowKit Go.Lib
/-- Has a datum no char, no number, no text, no items, but for what is named? -/
def bareB (c1 c2 c4 c8 : Bool) (r : Raw) : Bool := (c1 || decide (r.c = 0)) && ((c2 || (!r.neg && decide (r.mag = []))) && ((c4 || decide (r.t = ⟨#[]⟩)) && (c8 || decide (r.l = []))))
theorem text_nil0 {t : ByteArray} : t.toList = [] ↔ t = ⟨#[]⟩ := ⟨fun h => bytes_eq (h.trans (by rw [Lib.toList_data])), fun h => by rw [h, Lib.toList_data]⟩
set_option maxRecDepth 100000 in
set_option maxHeartbeats 2000000 in
theorem bare2c (r : Raw) (p : PV) (W : World) (q0 : (r.c == 0) = false) : Calls Tryz.prog 42 #[rawV r p, .int .i64 2] W (BoolPost false W) := by
  have hb1 : (W.alloc (.cells #[.int .i64 r.k, .int .i32 r.c, .bool r.neg, .slice p.A p.n p.cp, .string r.t, .slice p.B p.m p.cap] 27)).heap[W.heap.size]? = some (.cells #[.int .i64 r.k, .int .i32 r.c, .bool r.neg, .slice p.A p.n p.cp, .string r.t, .slice p.B p.m p.cap] 27 (0, 0)) := heap_alloc_new W _
  obtain ⟨a0, a1, a2, a3, a4, a5⟩ := dat_cells hb1
  clear hb1
  go_enter Tryz.func42, Tryz.ntmps42
  go_wp2_with fail
  go_ret
  exact ⟨rfl, (Keep.refl _ _).alloc _⟩
set_option maxRecDepth 100000 in
set_option maxHeartbeats 2000000 in
theorem bare2t (r : Raw) (p : PV) (W : World) (q0 : (r.c == 0) = true) (q3 : ¬ r.t.toList = []) : Calls Tryz.prog 42 #[rawV r p, .int .i64 2] W (BoolPost false W) := by
  have hb1 : (W.alloc (.cells #[.int .i64 r.k, .int .i32 r.c, .bool r.neg, .slice p.A p.n p.cp, .string r.t, .slice p.B p.m p.cap] 27)).heap[W.heap.size]? = some (.cells #[.int .i64 r.k, .int .i32 r.c, .bool r.neg, .slice p.A p.n p.cp, .string r.t, .slice p.B p.m p.cap] 27 (0, 0)) := heap_alloc_new W _
  obtain ⟨a0, a1, a2, a3, a4, a5⟩ := dat_cells hb1
  clear hb1
  go_enter Tryz.func42, Tryz.ntmps42
  go_wp2_with fail
  go_ret
  exact ⟨rfl, (Keep.refl _ _).alloc _⟩
set_option maxRecDepth 100000 in
set_option maxHeartbeats 2000000 in
theorem bare2l (r : Raw) (p : PV) (W : World) (q0 : (r.c == 0) = true) (q3 : r.t.toList = []) (q4 : ((p.m : Int) == 0) = false) : Calls Tryz.prog 42 #[rawV r p, .int .i64 2] W (BoolPost false W) := by
  have hb1 : (W.alloc (.cells #[.int .i64 r.k, .int .i32 r.c, .bool r.neg, .slice p.A p.n p.cp, .string r.t, .slice p.B p.m p.cap] 27)).heap[W.heap.size]? = some (.cells #[.int .i64 r.k, .int .i32 r.c, .bool r.neg, .slice p.A p.n p.cp, .string r.t, .slice p.B p.m p.cap] 27 (0, 0)) := heap_alloc_new W _
  obtain ⟨a0, a1, a2, a3, a4, a5⟩ := dat_cells hb1
  clear hb1
  go_enter Tryz.func42, Tryz.ntmps42
  go_wp2_with fail
  go_ret
  exact ⟨rfl, (Keep.refl _ _).alloc _⟩
set_option maxRecDepth 100000 in
set_option maxHeartbeats 2000000 in
theorem bare2y (r : Raw) (p : PV) (W : World) (q0 : (r.c == 0) = true) (q3 : r.t.toList = []) (q4 : ((p.m : Int) == 0) = true) : Calls Tryz.prog 42 #[rawV r p, .int .i64 2] W (BoolPost true W) := by
  have hb1 : (W.alloc (.cells #[.int .i64 r.k, .int .i32 r.c, .bool r.neg, .slice p.A p.n p.cp, .string r.t, .slice p.B p.m p.cap] 27)).heap[W.heap.size]? = some (.cells #[.int .i64 r.k, .int .i32 r.c, .bool r.neg, .slice p.A p.n p.cp, .string r.t, .slice p.B p.m p.cap] 27 (0, 0)) := heap_alloc_new W _
  obtain ⟨a0, a1, a2, a3, a4, a5⟩ := dat_cells hb1
  clear hb1
  go_enter Tryz.func42, Tryz.ntmps42
  go_wp2_with fail
  go_ret
  exact ⟨rfl, (Keep.refl _ _).alloc _⟩
theorem bare2_any (r : Raw) (p : PV) (W : World) (hn : r.mag.length = p.n) (hm : r.l.length = p.m) : Calls Tryz.prog 42 #[rawV r p, .int .i64 2] W (BoolPost (bareB false true false false r) W) := by
  have en : (r.mag = []) ↔ p.n = 0 := by rw [← List.length_eq_zero_iff, hn]
  have em : (r.l = []) ↔ p.m = 0 := by rw [← List.length_eq_zero_iff, hm]
  have sn : ∀ n : Nat, ¬ n = 0 → ((n : Int) == 0) = false := fun n h => beq_eq_false_iff_ne.2 (by omega)
  have yn : ∀ n : Nat, n = 0 → ((n : Int) == 0) = true := fun n h => beq_iff_eq.2 (by omega)
  by_cases hc : r.c = 0
  case neg =>
    have e : bareB false true false false r = false := by unfold bareB; rw [decide_eq_false hc]; simp
    rw [e]; exact bare2c r p W (beq_eq_false_iff_ne.2 hc)
  by_cases ht : r.t = ⟨#[]⟩
  case neg =>
    have e : bareB false true false false r = false := by unfold bareB; rw [decide_eq_false ht]; simp
    rw [e]; exact bare2t r p W (beq_iff_eq.2 hc) (fun h => ht (text_nil0.1 h))
  by_cases hl : p.m = 0
  case neg =>
    have e : bareB false true false false r = false := by unfold bareB; rw [decide_eq_false (mt em.1 hl)]; simp
    rw [e]; exact bare2l r p W (beq_iff_eq.2 hc) (text_nil0.2 ht) (sn _ hl)
  have e : bareB false true false false r = true := by unfold bareB; rw [decide_eq_true hc, decide_eq_true ht, decide_eq_true (em.2 hl)]; rfl
  rw [e]; exact bare2y r p W (beq_iff_eq.2 hc) (text_nil0.2 ht) (yn _ hl)
open Go.RowKit Go.Lib
set_option maxRecDepth 100000 in
set_option maxHeartbeats 4000000 in
theorem plain_Ct (r : Raw) (p : PV) (W : World) (s0 : (r.k == 0) = false) (s1 : (r.k == 1) = false) (s2 : (r.k == 2) = false) (s9 : (r.k == 9) = false) (s10 : (r.k == 10) = false) (s3 : (r.k == 3) = false) (s4 : (r.k == 4) = true) (b : Bool) (HB : Hid (∀ w1 : World, Calls Tryz.prog 42 #[rawV r p, .int .i64 2] w1 (BoolPost true w1))) (HC : Hid (∀ w1 : World, Keep (fun _ => False) W w1 → Calls Tryz.prog 44 #[numArg r.neg p.A p.n p.cp] w1 (BoolPost b w1))) : Calls Tryz.prog 21 #[rawV r p] W (BoolPost b W) := by
  have hb1 : (W.alloc (.cells #[.int .i64 r.k, .int .i32 r.c, .bool r.neg, .slice p.A p.n p.cp, .string r.t, .slice p.B p.m p.cap] 27)).heap[W.heap.size]? = some (.cells #[.int .i64 r.k, .int .i32 r.c, .bool r.neg, .slice p.A p.n p.cp, .string r.t, .slice p.B p.m p.cap] 27 (0, 0)) := heap_alloc_new W _
  have HB1 := Lib.hid hb1
  have HK1 := Lib.hid (show Keep (fun _ => False) W (W.alloc (.cells #[.int .i64 r.k, .int .i32 r.c, .bool r.neg, .slice p.A p.n p.cp, .string r.t, .slice p.B p.m p.cap] 27)) from (Keep.refl _ _).alloc _)
  obtain ⟨a0, a1, a2, a3, a4, a5⟩ := dat_cells hb1
  clear hb1
  go_enter Tryz.func21, Tryz.ntmps21
  go_wp2_with fail
  generalize W.alloc (.cells #[.int .i64 r.k, .int .i32 r.c, .bool r.neg, .slice p.A p.n p.cp, .string r.t, .slice p.B p.m p.cap] 27) = w1 at *
  refine (HB.out _).mono ?_
  rintro e w2 ⟨rfl, k2⟩
  have HB2 := Lib.hid (k2.heap HB1.out (by simp))
  have HK2 := Lib.hid (HK1.out.trans k2)
  clear a0 a1 a2 a3 a4 a5 k2
  obtain ⟨a0, a1, a2, a3, a4, a5⟩ := dat_cells HB2.out
  go_wp2_with fail
  refine (HC.out _ HK2.out).mono ?_
  rintro e w3 ⟨rfl, k2⟩
  have HB3 := Lib.hid (k2.heap HB2.out (by simp))
  have HK3 := Lib.hid (HK2.out.trans k2)
  clear a0 a1 a2 a3 a4 a5 k2
  obtain ⟨a0, a1, a2, a3, a4, a5⟩ := dat_cells HB3.out
  go_wp2_with fail
  go_ret
  exact ⟨rfl, HK3.out⟩
open Go.RowKit Go.Lib
open Go.RowKit Go.Lib
end Go.Proofs.YtkjocmenpccooaaGreatDoor
