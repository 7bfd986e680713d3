/-
  The document's bare: has a datum nothing but what is named?  (Printed by gen_pbare.py.)
-/
import Derived.Test.YtonnikipeokkaaaGreatDoorPaDoc
import Derived.Test.YtonnikipeokkaaaGreatDoorPnNum
namespace Go.Proofs.YtonnikipeokkaaaGreatDoor
open Go.RowKit Go.Lib

/-- Has a datum no char, no number, no text, no items, but for what is named? -/
def bareB (c1 c2 c4 c8 : Bool) (r : Raw) : Bool := (c1 || decide (r.c = 0)) && ((c2 || (!r.neg && decide (r.mag = []))) && ((c4 || decide (r.t = ⟨#[]⟩)) && (c8 || decide (r.l = []))))
theorem text_nil0 {t : ByteArray} : t.toList = [] ↔ t = ⟨#[]⟩ := ⟨fun h => bytes_eq (h.trans (by rw [Lib.toList_data])), fun h => by rw [h, Lib.toList_data]⟩
set_option maxRecDepth 100000 in
set_option maxHeartbeats 2000000 in
theorem bare0c (r : Raw) (p : PV) (W : World) (q0 : (r.c == 0) = false) : Calls Tryz.prog 74 #[rawV r p, .int .i64 0] W (BoolPost false W) := by
  have hb1 : (W.alloc (.cells #[.int .i64 r.k, .int .i32 r.c, .bool r.neg, .slice p.A p.n p.cp, .string r.t, .slice p.B p.m p.cap] 27)).heap[W.heap.size]? = some (.cells #[.int .i64 r.k, .int .i32 r.c, .bool r.neg, .slice p.A p.n p.cp, .string r.t, .slice p.B p.m p.cap] 27 (0, 0)) := heap_alloc_new W _
  obtain ⟨a0, a1, a2, a3, a4, a5⟩ := dat_cells hb1
  clear hb1
  go_enter Tryz.func74, Tryz.ntmps74
  go_wp2_with fail
  go_ret
  exact ⟨rfl, (Keep.refl _ _).alloc _⟩
set_option maxRecDepth 100000 in
set_option maxHeartbeats 2000000 in
theorem bare0g (r : Raw) (p : PV) (W : World) (q0 : (r.c == 0) = true) (q1 : r.neg = true) : Calls Tryz.prog 74 #[rawV r p, .int .i64 0] W (BoolPost false W) := by
  have hb1 : (W.alloc (.cells #[.int .i64 r.k, .int .i32 r.c, .bool r.neg, .slice p.A p.n p.cp, .string r.t, .slice p.B p.m p.cap] 27)).heap[W.heap.size]? = some (.cells #[.int .i64 r.k, .int .i32 r.c, .bool r.neg, .slice p.A p.n p.cp, .string r.t, .slice p.B p.m p.cap] 27 (0, 0)) := heap_alloc_new W _
  obtain ⟨a0, a1, a2, a3, a4, a5⟩ := dat_cells hb1
  clear hb1
  rw [q1] at a2
  go_enter Tryz.func74, Tryz.ntmps74
  go_wp2_with fail
  go_ret
  exact ⟨rfl, (Keep.refl _ _).alloc _⟩
set_option maxRecDepth 100000 in
set_option maxHeartbeats 2000000 in
theorem bare0n (r : Raw) (p : PV) (W : World) (q0 : (r.c == 0) = true) (q1 : r.neg = false) (q2 : ((p.n : Int) == 0) = false) : Calls Tryz.prog 74 #[rawV r p, .int .i64 0] W (BoolPost false W) := by
  have hb1 : (W.alloc (.cells #[.int .i64 r.k, .int .i32 r.c, .bool r.neg, .slice p.A p.n p.cp, .string r.t, .slice p.B p.m p.cap] 27)).heap[W.heap.size]? = some (.cells #[.int .i64 r.k, .int .i32 r.c, .bool r.neg, .slice p.A p.n p.cp, .string r.t, .slice p.B p.m p.cap] 27 (0, 0)) := heap_alloc_new W _
  obtain ⟨a0, a1, a2, a3, a4, a5⟩ := dat_cells hb1
  clear hb1
  rw [q1] at a2
  go_enter Tryz.func74, Tryz.ntmps74
  go_wp2_with fail
  go_ret
  exact ⟨rfl, (Keep.refl _ _).alloc _⟩
set_option maxRecDepth 100000 in
set_option maxHeartbeats 2000000 in
theorem bare0t (r : Raw) (p : PV) (W : World) (q0 : (r.c == 0) = true) (q1 : r.neg = false) (q2 : ((p.n : Int) == 0) = true) (q3 : ¬ r.t.toList = []) : Calls Tryz.prog 74 #[rawV r p, .int .i64 0] W (BoolPost false W) := by
  have hb1 : (W.alloc (.cells #[.int .i64 r.k, .int .i32 r.c, .bool r.neg, .slice p.A p.n p.cp, .string r.t, .slice p.B p.m p.cap] 27)).heap[W.heap.size]? = some (.cells #[.int .i64 r.k, .int .i32 r.c, .bool r.neg, .slice p.A p.n p.cp, .string r.t, .slice p.B p.m p.cap] 27 (0, 0)) := heap_alloc_new W _
  obtain ⟨a0, a1, a2, a3, a4, a5⟩ := dat_cells hb1
  clear hb1
  rw [q1] at a2
  go_enter Tryz.func74, Tryz.ntmps74
  go_wp2_with fail
  go_ret
  exact ⟨rfl, (Keep.refl _ _).alloc _⟩
set_option maxRecDepth 100000 in
set_option maxHeartbeats 2000000 in
theorem bare0l (r : Raw) (p : PV) (W : World) (q0 : (r.c == 0) = true) (q1 : r.neg = false) (q2 : ((p.n : Int) == 0) = true) (q3 : r.t.toList = []) (q4 : ((p.m : Int) == 0) = false) : Calls Tryz.prog 74 #[rawV r p, .int .i64 0] W (BoolPost false W) := by
  have hb1 : (W.alloc (.cells #[.int .i64 r.k, .int .i32 r.c, .bool r.neg, .slice p.A p.n p.cp, .string r.t, .slice p.B p.m p.cap] 27)).heap[W.heap.size]? = some (.cells #[.int .i64 r.k, .int .i32 r.c, .bool r.neg, .slice p.A p.n p.cp, .string r.t, .slice p.B p.m p.cap] 27 (0, 0)) := heap_alloc_new W _
  obtain ⟨a0, a1, a2, a3, a4, a5⟩ := dat_cells hb1
  clear hb1
  rw [q1] at a2
  go_enter Tryz.func74, Tryz.ntmps74
  go_wp2_with fail
  go_ret
  exact ⟨rfl, (Keep.refl _ _).alloc _⟩
set_option maxRecDepth 100000 in
set_option maxHeartbeats 2000000 in
theorem bare0y (r : Raw) (p : PV) (W : World) (q0 : (r.c == 0) = true) (q1 : r.neg = false) (q2 : ((p.n : Int) == 0) = true) (q3 : r.t.toList = []) (q4 : ((p.m : Int) == 0) = true) : Calls Tryz.prog 74 #[rawV r p, .int .i64 0] W (BoolPost true W) := by
  have hb1 : (W.alloc (.cells #[.int .i64 r.k, .int .i32 r.c, .bool r.neg, .slice p.A p.n p.cp, .string r.t, .slice p.B p.m p.cap] 27)).heap[W.heap.size]? = some (.cells #[.int .i64 r.k, .int .i32 r.c, .bool r.neg, .slice p.A p.n p.cp, .string r.t, .slice p.B p.m p.cap] 27 (0, 0)) := heap_alloc_new W _
  obtain ⟨a0, a1, a2, a3, a4, a5⟩ := dat_cells hb1
  clear hb1
  rw [q1] at a2
  go_enter Tryz.func74, Tryz.ntmps74
  go_wp2_with fail
  go_ret
  exact ⟨rfl, (Keep.refl _ _).alloc _⟩
theorem bare0_any (r : Raw) (p : PV) (W : World) (hn : r.mag.length = p.n) (hm : r.l.length = p.m) : Calls Tryz.prog 74 #[rawV r p, .int .i64 0] W (BoolPost (bareB false false false false r) W) := by
  have en : (r.mag = []) ↔ p.n = 0 := by rw [← List.length_eq_zero_iff, hn]
  have em : (r.l = []) ↔ p.m = 0 := by rw [← List.length_eq_zero_iff, hm]
  have sn : ∀ n : Nat, ¬ n = 0 → ((n : Int) == 0) = false := fun n h => beq_eq_false_iff_ne.2 (by omega)
  have yn : ∀ n : Nat, n = 0 → ((n : Int) == 0) = true := fun n h => beq_iff_eq.2 (by omega)
  by_cases hc : r.c = 0
  case neg =>
    have e : bareB false false false false r = false := by unfold bareB; rw [decide_eq_false hc]; simp
    rw [e]; exact bare0c r p W (beq_eq_false_iff_ne.2 hc)
  by_cases hg : r.neg = false
  case neg =>
    have e : bareB false false false false r = false := by unfold bareB; rw [show r.neg = true from by simpa using hg]; simp
    rw [e]; exact bare0g r p W (beq_iff_eq.2 hc) (by simpa using hg)
  by_cases hn9 : p.n = 0
  case neg =>
    have e : bareB false false false false r = false := by unfold bareB; rw [decide_eq_false (mt en.1 hn9)]; simp
    rw [e]; exact bare0n r p W (beq_iff_eq.2 hc) hg (sn _ hn9)
  by_cases ht : r.t = ⟨#[]⟩
  case neg =>
    have e : bareB false false false false r = false := by unfold bareB; rw [decide_eq_false ht]; simp
    rw [e]; exact bare0t r p W (beq_iff_eq.2 hc) hg (yn _ hn9) (fun h => ht (text_nil0.1 h))
  by_cases hl : p.m = 0
  case neg =>
    have e : bareB false false false false r = false := by unfold bareB; rw [decide_eq_false (mt em.1 hl)]; simp
    rw [e]; exact bare0l r p W (beq_iff_eq.2 hc) hg (yn _ hn9) (text_nil0.2 ht) (sn _ hl)
  have e : bareB false false false false r = true := by unfold bareB; rw [decide_eq_true hc, hg, decide_eq_true (en.2 hn9), decide_eq_true ht, decide_eq_true (em.2 hl)]; rfl
  rw [e]; exact bare0y r p W (beq_iff_eq.2 hc) hg (yn _ hn9) (text_nil0.2 ht) (yn _ hl)
set_option maxRecDepth 100000 in
set_option maxHeartbeats 2000000 in
theorem bare1g (r : Raw) (p : PV) (W : World) (q1 : r.neg = true) : Calls Tryz.prog 74 #[rawV r p, .int .i64 1] W (BoolPost false W) := by
  have hb1 : (W.alloc (.cells #[.int .i64 r.k, .int .i32 r.c, .bool r.neg, .slice p.A p.n p.cp, .string r.t, .slice p.B p.m p.cap] 27)).heap[W.heap.size]? = some (.cells #[.int .i64 r.k, .int .i32 r.c, .bool r.neg, .slice p.A p.n p.cp, .string r.t, .slice p.B p.m p.cap] 27 (0, 0)) := heap_alloc_new W _
  obtain ⟨a0, a1, a2, a3, a4, a5⟩ := dat_cells hb1
  clear hb1
  rw [q1] at a2
  go_enter Tryz.func74, Tryz.ntmps74
  go_wp2_with fail
  go_ret
  exact ⟨rfl, (Keep.refl _ _).alloc _⟩
set_option maxRecDepth 100000 in
set_option maxHeartbeats 2000000 in
theorem bare1n (r : Raw) (p : PV) (W : World) (q1 : r.neg = false) (q2 : ((p.n : Int) == 0) = false) : Calls Tryz.prog 74 #[rawV r p, .int .i64 1] W (BoolPost false W) := by
  have hb1 : (W.alloc (.cells #[.int .i64 r.k, .int .i32 r.c, .bool r.neg, .slice p.A p.n p.cp, .string r.t, .slice p.B p.m p.cap] 27)).heap[W.heap.size]? = some (.cells #[.int .i64 r.k, .int .i32 r.c, .bool r.neg, .slice p.A p.n p.cp, .string r.t, .slice p.B p.m p.cap] 27 (0, 0)) := heap_alloc_new W _
  obtain ⟨a0, a1, a2, a3, a4, a5⟩ := dat_cells hb1
  clear hb1
  rw [q1] at a2
  go_enter Tryz.func74, Tryz.ntmps74
  go_wp2_with fail
  go_ret
  exact ⟨rfl, (Keep.refl _ _).alloc _⟩
set_option maxRecDepth 100000 in
set_option maxHeartbeats 2000000 in
theorem bare1t (r : Raw) (p : PV) (W : World) (q1 : r.neg = false) (q2 : ((p.n : Int) == 0) = true) (q3 : ¬ r.t.toList = []) : Calls Tryz.prog 74 #[rawV r p, .int .i64 1] W (BoolPost false W) := by
  have hb1 : (W.alloc (.cells #[.int .i64 r.k, .int .i32 r.c, .bool r.neg, .slice p.A p.n p.cp, .string r.t, .slice p.B p.m p.cap] 27)).heap[W.heap.size]? = some (.cells #[.int .i64 r.k, .int .i32 r.c, .bool r.neg, .slice p.A p.n p.cp, .string r.t, .slice p.B p.m p.cap] 27 (0, 0)) := heap_alloc_new W _
  obtain ⟨a0, a1, a2, a3, a4, a5⟩ := dat_cells hb1
  clear hb1
  rw [q1] at a2
  go_enter Tryz.func74, Tryz.ntmps74
  go_wp2_with fail
  go_ret
  exact ⟨rfl, (Keep.refl _ _).alloc _⟩
set_option maxRecDepth 100000 in
set_option maxHeartbeats 2000000 in
theorem bare1l (r : Raw) (p : PV) (W : World) (q1 : r.neg = false) (q2 : ((p.n : Int) == 0) = true) (q3 : r.t.toList = []) (q4 : ((p.m : Int) == 0) = false) : Calls Tryz.prog 74 #[rawV r p, .int .i64 1] W (BoolPost false W) := by
  have hb1 : (W.alloc (.cells #[.int .i64 r.k, .int .i32 r.c, .bool r.neg, .slice p.A p.n p.cp, .string r.t, .slice p.B p.m p.cap] 27)).heap[W.heap.size]? = some (.cells #[.int .i64 r.k, .int .i32 r.c, .bool r.neg, .slice p.A p.n p.cp, .string r.t, .slice p.B p.m p.cap] 27 (0, 0)) := heap_alloc_new W _
  obtain ⟨a0, a1, a2, a3, a4, a5⟩ := dat_cells hb1
  clear hb1
  rw [q1] at a2
  go_enter Tryz.func74, Tryz.ntmps74
  go_wp2_with fail
  go_ret
  exact ⟨rfl, (Keep.refl _ _).alloc _⟩
set_option maxRecDepth 100000 in
set_option maxHeartbeats 2000000 in
theorem bare1y (r : Raw) (p : PV) (W : World) (q1 : r.neg = false) (q2 : ((p.n : Int) == 0) = true) (q3 : r.t.toList = []) (q4 : ((p.m : Int) == 0) = true) : Calls Tryz.prog 74 #[rawV r p, .int .i64 1] W (BoolPost true W) := by
  have hb1 : (W.alloc (.cells #[.int .i64 r.k, .int .i32 r.c, .bool r.neg, .slice p.A p.n p.cp, .string r.t, .slice p.B p.m p.cap] 27)).heap[W.heap.size]? = some (.cells #[.int .i64 r.k, .int .i32 r.c, .bool r.neg, .slice p.A p.n p.cp, .string r.t, .slice p.B p.m p.cap] 27 (0, 0)) := heap_alloc_new W _
  obtain ⟨a0, a1, a2, a3, a4, a5⟩ := dat_cells hb1
  clear hb1
  rw [q1] at a2
  go_enter Tryz.func74, Tryz.ntmps74
  go_wp2_with fail
  go_ret
  exact ⟨rfl, (Keep.refl _ _).alloc _⟩
theorem bare1_any (r : Raw) (p : PV) (W : World) (hn : r.mag.length = p.n) (hm : r.l.length = p.m) : Calls Tryz.prog 74 #[rawV r p, .int .i64 1] W (BoolPost (bareB true false false false r) W) := by
  have en : (r.mag = []) ↔ p.n = 0 := by rw [← List.length_eq_zero_iff, hn]
  have em : (r.l = []) ↔ p.m = 0 := by rw [← List.length_eq_zero_iff, hm]
  have sn : ∀ n : Nat, ¬ n = 0 → ((n : Int) == 0) = false := fun n h => beq_eq_false_iff_ne.2 (by omega)
  have yn : ∀ n : Nat, n = 0 → ((n : Int) == 0) = true := fun n h => beq_iff_eq.2 (by omega)
  by_cases hg : r.neg = false
  case neg =>
    have e : bareB true false false false r = false := by unfold bareB; rw [show r.neg = true from by simpa using hg]; simp
    rw [e]; exact bare1g r p W (by simpa using hg)
  by_cases hn9 : p.n = 0
  case neg =>
    have e : bareB true false false false r = false := by unfold bareB; rw [decide_eq_false (mt en.1 hn9)]; simp
    rw [e]; exact bare1n r p W hg (sn _ hn9)
  by_cases ht : r.t = ⟨#[]⟩
  case neg =>
    have e : bareB true false false false r = false := by unfold bareB; rw [decide_eq_false ht]; simp
    rw [e]; exact bare1t r p W hg (yn _ hn9) (fun h => ht (text_nil0.1 h))
  by_cases hl : p.m = 0
  case neg =>
    have e : bareB true false false false r = false := by unfold bareB; rw [decide_eq_false (mt em.1 hl)]; simp
    rw [e]; exact bare1l r p W hg (yn _ hn9) (text_nil0.2 ht) (sn _ hl)
  have e : bareB true false false false r = true := by unfold bareB; rw [hg, decide_eq_true (en.2 hn9), decide_eq_true ht, decide_eq_true (em.2 hl)]; rfl
  rw [e]; exact bare1y r p W hg (yn _ hn9) (text_nil0.2 ht) (yn _ hl)
set_option maxRecDepth 100000 in
set_option maxHeartbeats 2000000 in
theorem bare2c (r : Raw) (p : PV) (W : World) (q0 : (r.c == 0) = false) : Calls Tryz.prog 74 #[rawV r p, .int .i64 2] W (BoolPost false W) := by
  have hb1 : (W.alloc (.cells #[.int .i64 r.k, .int .i32 r.c, .bool r.neg, .slice p.A p.n p.cp, .string r.t, .slice p.B p.m p.cap] 27)).heap[W.heap.size]? = some (.cells #[.int .i64 r.k, .int .i32 r.c, .bool r.neg, .slice p.A p.n p.cp, .string r.t, .slice p.B p.m p.cap] 27 (0, 0)) := heap_alloc_new W _
  obtain ⟨a0, a1, a2, a3, a4, a5⟩ := dat_cells hb1
  clear hb1
  go_enter Tryz.func74, Tryz.ntmps74
  go_wp2_with fail
  go_ret
  exact ⟨rfl, (Keep.refl _ _).alloc _⟩
set_option maxRecDepth 100000 in
set_option maxHeartbeats 2000000 in
theorem bare2t (r : Raw) (p : PV) (W : World) (q0 : (r.c == 0) = true) (q3 : ¬ r.t.toList = []) : Calls Tryz.prog 74 #[rawV r p, .int .i64 2] W (BoolPost false W) := by
  have hb1 : (W.alloc (.cells #[.int .i64 r.k, .int .i32 r.c, .bool r.neg, .slice p.A p.n p.cp, .string r.t, .slice p.B p.m p.cap] 27)).heap[W.heap.size]? = some (.cells #[.int .i64 r.k, .int .i32 r.c, .bool r.neg, .slice p.A p.n p.cp, .string r.t, .slice p.B p.m p.cap] 27 (0, 0)) := heap_alloc_new W _
  obtain ⟨a0, a1, a2, a3, a4, a5⟩ := dat_cells hb1
  clear hb1
  go_enter Tryz.func74, Tryz.ntmps74
  go_wp2_with fail
  go_ret
  exact ⟨rfl, (Keep.refl _ _).alloc _⟩
set_option maxRecDepth 100000 in
set_option maxHeartbeats 2000000 in
theorem bare2l (r : Raw) (p : PV) (W : World) (q0 : (r.c == 0) = true) (q3 : r.t.toList = []) (q4 : ((p.m : Int) == 0) = false) : Calls Tryz.prog 74 #[rawV r p, .int .i64 2] W (BoolPost false W) := by
  have hb1 : (W.alloc (.cells #[.int .i64 r.k, .int .i32 r.c, .bool r.neg, .slice p.A p.n p.cp, .string r.t, .slice p.B p.m p.cap] 27)).heap[W.heap.size]? = some (.cells #[.int .i64 r.k, .int .i32 r.c, .bool r.neg, .slice p.A p.n p.cp, .string r.t, .slice p.B p.m p.cap] 27 (0, 0)) := heap_alloc_new W _
  obtain ⟨a0, a1, a2, a3, a4, a5⟩ := dat_cells hb1
  clear hb1
  go_enter Tryz.func74, Tryz.ntmps74
  go_wp2_with fail
  go_ret
  exact ⟨rfl, (Keep.refl _ _).alloc _⟩
set_option maxRecDepth 100000 in
set_option maxHeartbeats 2000000 in
theorem bare2y (r : Raw) (p : PV) (W : World) (q0 : (r.c == 0) = true) (q3 : r.t.toList = []) (q4 : ((p.m : Int) == 0) = true) : Calls Tryz.prog 74 #[rawV r p, .int .i64 2] W (BoolPost true W) := by
  have hb1 : (W.alloc (.cells #[.int .i64 r.k, .int .i32 r.c, .bool r.neg, .slice p.A p.n p.cp, .string r.t, .slice p.B p.m p.cap] 27)).heap[W.heap.size]? = some (.cells #[.int .i64 r.k, .int .i32 r.c, .bool r.neg, .slice p.A p.n p.cp, .string r.t, .slice p.B p.m p.cap] 27 (0, 0)) := heap_alloc_new W _
  obtain ⟨a0, a1, a2, a3, a4, a5⟩ := dat_cells hb1
  clear hb1
  go_enter Tryz.func74, Tryz.ntmps74
  go_wp2_with fail
  go_ret
  exact ⟨rfl, (Keep.refl _ _).alloc _⟩
theorem bare2_any (r : Raw) (p : PV) (W : World) (hn : r.mag.length = p.n) (hm : r.l.length = p.m) : Calls Tryz.prog 74 #[rawV r p, .int .i64 2] W (BoolPost (bareB false true false false r) W) := by
  have en : (r.mag = []) ↔ p.n = 0 := by rw [← List.length_eq_zero_iff, hn]
  have em : (r.l = []) ↔ p.m = 0 := by rw [← List.length_eq_zero_iff, hm]
  have sn : ∀ n : Nat, ¬ n = 0 → ((n : Int) == 0) = false := fun n h => beq_eq_false_iff_ne.2 (by omega)
  have yn : ∀ n : Nat, n = 0 → ((n : Int) == 0) = true := fun n h => beq_iff_eq.2 (by omega)
  by_cases hc : r.c = 0
  case neg =>
    have e : bareB false true false false r = false := by unfold bareB; rw [decide_eq_false hc]; simp
    rw [e]; exact bare2c r p W (beq_eq_false_iff_ne.2 hc)
  by_cases ht : r.t = ⟨#[]⟩
  case neg =>
    have e : bareB false true false false r = false := by unfold bareB; rw [decide_eq_false ht]; simp
    rw [e]; exact bare2t r p W (beq_iff_eq.2 hc) (fun h => ht (text_nil0.1 h))
  by_cases hl : p.m = 0
  case neg =>
    have e : bareB false true false false r = false := by unfold bareB; rw [decide_eq_false (mt em.1 hl)]; simp
    rw [e]; exact bare2l r p W (beq_iff_eq.2 hc) (text_nil0.2 ht) (sn _ hl)
  have e : bareB false true false false r = true := by unfold bareB; rw [decide_eq_true hc, decide_eq_true ht, decide_eq_true (em.2 hl)]; rfl
  rw [e]; exact bare2y r p W (beq_iff_eq.2 hc) (text_nil0.2 ht) (yn _ hl)
set_option maxRecDepth 100000 in
set_option maxHeartbeats 2000000 in
theorem bare4c (r : Raw) (p : PV) (W : World) (q0 : (r.c == 0) = false) : Calls Tryz.prog 74 #[rawV r p, .int .i64 4] W (BoolPost false W) := by
  have hb1 : (W.alloc (.cells #[.int .i64 r.k, .int .i32 r.c, .bool r.neg, .slice p.A p.n p.cp, .string r.t, .slice p.B p.m p.cap] 27)).heap[W.heap.size]? = some (.cells #[.int .i64 r.k, .int .i32 r.c, .bool r.neg, .slice p.A p.n p.cp, .string r.t, .slice p.B p.m p.cap] 27 (0, 0)) := heap_alloc_new W _
  obtain ⟨a0, a1, a2, a3, a4, a5⟩ := dat_cells hb1
  clear hb1
  go_enter Tryz.func74, Tryz.ntmps74
  go_wp2_with fail
  go_ret
  exact ⟨rfl, (Keep.refl _ _).alloc _⟩
set_option maxRecDepth 100000 in
set_option maxHeartbeats 2000000 in
theorem bare4g (r : Raw) (p : PV) (W : World) (q0 : (r.c == 0) = true) (q1 : r.neg = true) : Calls Tryz.prog 74 #[rawV r p, .int .i64 4] W (BoolPost false W) := by
  have hb1 : (W.alloc (.cells #[.int .i64 r.k, .int .i32 r.c, .bool r.neg, .slice p.A p.n p.cp, .string r.t, .slice p.B p.m p.cap] 27)).heap[W.heap.size]? = some (.cells #[.int .i64 r.k, .int .i32 r.c, .bool r.neg, .slice p.A p.n p.cp, .string r.t, .slice p.B p.m p.cap] 27 (0, 0)) := heap_alloc_new W _
  obtain ⟨a0, a1, a2, a3, a4, a5⟩ := dat_cells hb1
  clear hb1
  rw [q1] at a2
  go_enter Tryz.func74, Tryz.ntmps74
  go_wp2_with fail
  go_ret
  exact ⟨rfl, (Keep.refl _ _).alloc _⟩
set_option maxRecDepth 100000 in
set_option maxHeartbeats 2000000 in
theorem bare4n (r : Raw) (p : PV) (W : World) (q0 : (r.c == 0) = true) (q1 : r.neg = false) (q2 : ((p.n : Int) == 0) = false) : Calls Tryz.prog 74 #[rawV r p, .int .i64 4] W (BoolPost false W) := by
  have hb1 : (W.alloc (.cells #[.int .i64 r.k, .int .i32 r.c, .bool r.neg, .slice p.A p.n p.cp, .string r.t, .slice p.B p.m p.cap] 27)).heap[W.heap.size]? = some (.cells #[.int .i64 r.k, .int .i32 r.c, .bool r.neg, .slice p.A p.n p.cp, .string r.t, .slice p.B p.m p.cap] 27 (0, 0)) := heap_alloc_new W _
  obtain ⟨a0, a1, a2, a3, a4, a5⟩ := dat_cells hb1
  clear hb1
  rw [q1] at a2
  go_enter Tryz.func74, Tryz.ntmps74
  go_wp2_with fail
  go_ret
  exact ⟨rfl, (Keep.refl _ _).alloc _⟩
set_option maxRecDepth 100000 in
set_option maxHeartbeats 2000000 in
theorem bare4l (r : Raw) (p : PV) (W : World) (q0 : (r.c == 0) = true) (q1 : r.neg = false) (q2 : ((p.n : Int) == 0) = true) (q4 : ((p.m : Int) == 0) = false) : Calls Tryz.prog 74 #[rawV r p, .int .i64 4] W (BoolPost false W) := by
  have hb1 : (W.alloc (.cells #[.int .i64 r.k, .int .i32 r.c, .bool r.neg, .slice p.A p.n p.cp, .string r.t, .slice p.B p.m p.cap] 27)).heap[W.heap.size]? = some (.cells #[.int .i64 r.k, .int .i32 r.c, .bool r.neg, .slice p.A p.n p.cp, .string r.t, .slice p.B p.m p.cap] 27 (0, 0)) := heap_alloc_new W _
  obtain ⟨a0, a1, a2, a3, a4, a5⟩ := dat_cells hb1
  clear hb1
  rw [q1] at a2
  go_enter Tryz.func74, Tryz.ntmps74
  go_wp2_with fail
  go_ret
  exact ⟨rfl, (Keep.refl _ _).alloc _⟩
set_option maxRecDepth 100000 in
set_option maxHeartbeats 2000000 in
theorem bare4y (r : Raw) (p : PV) (W : World) (q0 : (r.c == 0) = true) (q1 : r.neg = false) (q2 : ((p.n : Int) == 0) = true) (q4 : ((p.m : Int) == 0) = true) : Calls Tryz.prog 74 #[rawV r p, .int .i64 4] W (BoolPost true W) := by
  have hb1 : (W.alloc (.cells #[.int .i64 r.k, .int .i32 r.c, .bool r.neg, .slice p.A p.n p.cp, .string r.t, .slice p.B p.m p.cap] 27)).heap[W.heap.size]? = some (.cells #[.int .i64 r.k, .int .i32 r.c, .bool r.neg, .slice p.A p.n p.cp, .string r.t, .slice p.B p.m p.cap] 27 (0, 0)) := heap_alloc_new W _
  obtain ⟨a0, a1, a2, a3, a4, a5⟩ := dat_cells hb1
  clear hb1
  rw [q1] at a2
  go_enter Tryz.func74, Tryz.ntmps74
  go_wp2_with fail
  go_ret
  exact ⟨rfl, (Keep.refl _ _).alloc _⟩
theorem bare4_any (r : Raw) (p : PV) (W : World) (hn : r.mag.length = p.n) (hm : r.l.length = p.m) : Calls Tryz.prog 74 #[rawV r p, .int .i64 4] W (BoolPost (bareB false false true false r) W) := by
  have en : (r.mag = []) ↔ p.n = 0 := by rw [← List.length_eq_zero_iff, hn]
  have em : (r.l = []) ↔ p.m = 0 := by rw [← List.length_eq_zero_iff, hm]
  have sn : ∀ n : Nat, ¬ n = 0 → ((n : Int) == 0) = false := fun n h => beq_eq_false_iff_ne.2 (by omega)
  have yn : ∀ n : Nat, n = 0 → ((n : Int) == 0) = true := fun n h => beq_iff_eq.2 (by omega)
  by_cases hc : r.c = 0
  case neg =>
    have e : bareB false false true false r = false := by unfold bareB; rw [decide_eq_false hc]; simp
    rw [e]; exact bare4c r p W (beq_eq_false_iff_ne.2 hc)
  by_cases hg : r.neg = false
  case neg =>
    have e : bareB false false true false r = false := by unfold bareB; rw [show r.neg = true from by simpa using hg]; simp
    rw [e]; exact bare4g r p W (beq_iff_eq.2 hc) (by simpa using hg)
  by_cases hn9 : p.n = 0
  case neg =>
    have e : bareB false false true false r = false := by unfold bareB; rw [decide_eq_false (mt en.1 hn9)]; simp
    rw [e]; exact bare4n r p W (beq_iff_eq.2 hc) hg (sn _ hn9)
  by_cases hl : p.m = 0
  case neg =>
    have e : bareB false false true false r = false := by unfold bareB; rw [decide_eq_false (mt em.1 hl)]; simp
    rw [e]; exact bare4l r p W (beq_iff_eq.2 hc) hg (yn _ hn9) (sn _ hl)
  have e : bareB false false true false r = true := by unfold bareB; rw [decide_eq_true hc, hg, decide_eq_true (en.2 hn9), decide_eq_true (em.2 hl)]; rfl
  rw [e]; exact bare4y r p W (beq_iff_eq.2 hc) hg (yn _ hn9) (yn _ hl)
set_option maxRecDepth 100000 in
set_option maxHeartbeats 2000000 in
theorem bare8c (r : Raw) (p : PV) (W : World) (q0 : (r.c == 0) = false) : Calls Tryz.prog 74 #[rawV r p, .int .i64 8] W (BoolPost false W) := by
  have hb1 : (W.alloc (.cells #[.int .i64 r.k, .int .i32 r.c, .bool r.neg, .slice p.A p.n p.cp, .string r.t, .slice p.B p.m p.cap] 27)).heap[W.heap.size]? = some (.cells #[.int .i64 r.k, .int .i32 r.c, .bool r.neg, .slice p.A p.n p.cp, .string r.t, .slice p.B p.m p.cap] 27 (0, 0)) := heap_alloc_new W _
  obtain ⟨a0, a1, a2, a3, a4, a5⟩ := dat_cells hb1
  clear hb1
  go_enter Tryz.func74, Tryz.ntmps74
  go_wp2_with fail
  go_ret
  exact ⟨rfl, (Keep.refl _ _).alloc _⟩
set_option maxRecDepth 100000 in
set_option maxHeartbeats 2000000 in
theorem bare8g (r : Raw) (p : PV) (W : World) (q0 : (r.c == 0) = true) (q1 : r.neg = true) : Calls Tryz.prog 74 #[rawV r p, .int .i64 8] W (BoolPost false W) := by
  have hb1 : (W.alloc (.cells #[.int .i64 r.k, .int .i32 r.c, .bool r.neg, .slice p.A p.n p.cp, .string r.t, .slice p.B p.m p.cap] 27)).heap[W.heap.size]? = some (.cells #[.int .i64 r.k, .int .i32 r.c, .bool r.neg, .slice p.A p.n p.cp, .string r.t, .slice p.B p.m p.cap] 27 (0, 0)) := heap_alloc_new W _
  obtain ⟨a0, a1, a2, a3, a4, a5⟩ := dat_cells hb1
  clear hb1
  rw [q1] at a2
  go_enter Tryz.func74, Tryz.ntmps74
  go_wp2_with fail
  go_ret
  exact ⟨rfl, (Keep.refl _ _).alloc _⟩
set_option maxRecDepth 100000 in
set_option maxHeartbeats 2000000 in
theorem bare8n (r : Raw) (p : PV) (W : World) (q0 : (r.c == 0) = true) (q1 : r.neg = false) (q2 : ((p.n : Int) == 0) = false) : Calls Tryz.prog 74 #[rawV r p, .int .i64 8] W (BoolPost false W) := by
  have hb1 : (W.alloc (.cells #[.int .i64 r.k, .int .i32 r.c, .bool r.neg, .slice p.A p.n p.cp, .string r.t, .slice p.B p.m p.cap] 27)).heap[W.heap.size]? = some (.cells #[.int .i64 r.k, .int .i32 r.c, .bool r.neg, .slice p.A p.n p.cp, .string r.t, .slice p.B p.m p.cap] 27 (0, 0)) := heap_alloc_new W _
  obtain ⟨a0, a1, a2, a3, a4, a5⟩ := dat_cells hb1
  clear hb1
  rw [q1] at a2
  go_enter Tryz.func74, Tryz.ntmps74
  go_wp2_with fail
  go_ret
  exact ⟨rfl, (Keep.refl _ _).alloc _⟩
set_option maxRecDepth 100000 in
set_option maxHeartbeats 2000000 in
theorem bare8t (r : Raw) (p : PV) (W : World) (q0 : (r.c == 0) = true) (q1 : r.neg = false) (q2 : ((p.n : Int) == 0) = true) (q3 : ¬ r.t.toList = []) : Calls Tryz.prog 74 #[rawV r p, .int .i64 8] W (BoolPost false W) := by
  have hb1 : (W.alloc (.cells #[.int .i64 r.k, .int .i32 r.c, .bool r.neg, .slice p.A p.n p.cp, .string r.t, .slice p.B p.m p.cap] 27)).heap[W.heap.size]? = some (.cells #[.int .i64 r.k, .int .i32 r.c, .bool r.neg, .slice p.A p.n p.cp, .string r.t, .slice p.B p.m p.cap] 27 (0, 0)) := heap_alloc_new W _
  obtain ⟨a0, a1, a2, a3, a4, a5⟩ := dat_cells hb1
  clear hb1
  rw [q1] at a2
  go_enter Tryz.func74, Tryz.ntmps74
  go_wp2_with fail
  go_ret
  exact ⟨rfl, (Keep.refl _ _).alloc _⟩
set_option maxRecDepth 100000 in
set_option maxHeartbeats 2000000 in
theorem bare8y (r : Raw) (p : PV) (W : World) (q0 : (r.c == 0) = true) (q1 : r.neg = false) (q2 : ((p.n : Int) == 0) = true) (q3 : r.t.toList = []) : Calls Tryz.prog 74 #[rawV r p, .int .i64 8] W (BoolPost true W) := by
  have hb1 : (W.alloc (.cells #[.int .i64 r.k, .int .i32 r.c, .bool r.neg, .slice p.A p.n p.cp, .string r.t, .slice p.B p.m p.cap] 27)).heap[W.heap.size]? = some (.cells #[.int .i64 r.k, .int .i32 r.c, .bool r.neg, .slice p.A p.n p.cp, .string r.t, .slice p.B p.m p.cap] 27 (0, 0)) := heap_alloc_new W _
  obtain ⟨a0, a1, a2, a3, a4, a5⟩ := dat_cells hb1
  clear hb1
  rw [q1] at a2
  go_enter Tryz.func74, Tryz.ntmps74
  go_wp2_with fail
  go_ret
  exact ⟨rfl, (Keep.refl _ _).alloc _⟩
theorem bare8_any (r : Raw) (p : PV) (W : World) (hn : r.mag.length = p.n) (hm : r.l.length = p.m) : Calls Tryz.prog 74 #[rawV r p, .int .i64 8] W (BoolPost (bareB false false false true r) W) := by
  have en : (r.mag = []) ↔ p.n = 0 := by rw [← List.length_eq_zero_iff, hn]
  have em : (r.l = []) ↔ p.m = 0 := by rw [← List.length_eq_zero_iff, hm]
  have sn : ∀ n : Nat, ¬ n = 0 → ((n : Int) == 0) = false := fun n h => beq_eq_false_iff_ne.2 (by omega)
  have yn : ∀ n : Nat, n = 0 → ((n : Int) == 0) = true := fun n h => beq_iff_eq.2 (by omega)
  by_cases hc : r.c = 0
  case neg =>
    have e : bareB false false false true r = false := by unfold bareB; rw [decide_eq_false hc]; simp
    rw [e]; exact bare8c r p W (beq_eq_false_iff_ne.2 hc)
  by_cases hg : r.neg = false
  case neg =>
    have e : bareB false false false true r = false := by unfold bareB; rw [show r.neg = true from by simpa using hg]; simp
    rw [e]; exact bare8g r p W (beq_iff_eq.2 hc) (by simpa using hg)
  by_cases hn9 : p.n = 0
  case neg =>
    have e : bareB false false false true r = false := by unfold bareB; rw [decide_eq_false (mt en.1 hn9)]; simp
    rw [e]; exact bare8n r p W (beq_iff_eq.2 hc) hg (sn _ hn9)
  by_cases ht : r.t = ⟨#[]⟩
  case neg =>
    have e : bareB false false false true r = false := by unfold bareB; rw [decide_eq_false ht]; simp
    rw [e]; exact bare8t r p W (beq_iff_eq.2 hc) hg (yn _ hn9) (fun h => ht (text_nil0.1 h))
  have e : bareB false false false true r = true := by unfold bareB; rw [decide_eq_true hc, hg, decide_eq_true (en.2 hn9), decide_eq_true ht]; rfl
  rw [e]; exact bare8y r p W (beq_iff_eq.2 hc) hg (yn _ hn9) (text_nil0.2 ht)
end Go.Proofs.YtonnikipeokkaaaGreatDoor
