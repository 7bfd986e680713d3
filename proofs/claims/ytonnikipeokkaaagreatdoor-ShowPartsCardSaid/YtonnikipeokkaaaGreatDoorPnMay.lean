/-
  The document's bare: has a datum nothing but what is named?  (Printed by gen_pbare.py.)
  The document's plain: may a datum be, but for its depth?  (Printed by gen_pplain.py.)
  The document's Depth.
  The document's May: may a datum be?  And: what is read may be.
-/
import Derived.Test.YtonnikipeokkaaaGreatDoorPaDoc
import Derived.Test.YtonnikipeokkaaaGreatDoorPnNum
import Derived.Test.YtonnikipeokkaaaGreatDoorRlRunes
import Derived.Test.YtonnikipeokkaaaGreatDoorPrGood
namespace Go.Proofs.YtonnikipeokkaaaGreatDoor
open Go.RowKit Go.Lib

/-- Has a datum no char, no number, no text, no items, but for what is named? -/
def bareB (c1 c2 c4 c8 : Bool) (r : Raw) : Bool := (c1 || decide (r.c = 0)) && ((c2 || (!r.neg && decide (r.mag = []))) && ((c4 || decide (r.t = ⟨#[]⟩)) && (c8 || decide (r.l = []))))
theorem text_nil {t : ByteArray} : t.toList = ByteArray.toList ⟨#[]⟩ ↔ t = ⟨#[]⟩ := ⟨bytes_eq, fun h => by rw [h]⟩
theorem text_nil0 {t : ByteArray} : t.toList = [] ↔ t = ⟨#[]⟩ := ⟨fun h => bytes_eq (h.trans (by rw [Lib.toList_data])), fun h => by rw [h, Lib.toList_data]⟩
set_option maxRecDepth 100000 in
set_option maxHeartbeats 2000000 in
theorem bare0c (r : Raw) (p : PV) (W : World) (q0 : (r.c == 0) = false) : Calls Tryz.prog 74 #[rawV r p, .int .i64 0] W (BoolPost false W) := by
  have hb1 : (W.alloc (.cells #[.int .i64 r.k, .int .i32 r.c, .bool r.neg, .slice p.A p.n p.cp, .string r.t, .slice p.B p.m p.cap] 27)).heap[W.heap.size]? = some (.cells #[.int .i64 r.k, .int .i32 r.c, .bool r.neg, .slice p.A p.n p.cp, .string r.t, .slice p.B p.m p.cap] 27 (0, 0)) := heap_alloc_new W _
  obtain ⟨a0, a1, a2, a3, a4, a5⟩ := dat_cells hb1
  clear hb1
  go_enter Tryz.func74, Tryz.ntmps74
  go_wp2_with fail
  go_ret
  exact ⟨rfl, (Keep.refl _ _).alloc _⟩
set_option maxRecDepth 100000 in
set_option maxHeartbeats 2000000 in
theorem bare0g (r : Raw) (p : PV) (W : World) (q0 : (r.c == 0) = true) (q1 : r.neg = true) : Calls Tryz.prog 74 #[rawV r p, .int .i64 0] W (BoolPost false W) := by
  have hb1 : (W.alloc (.cells #[.int .i64 r.k, .int .i32 r.c, .bool r.neg, .slice p.A p.n p.cp, .string r.t, .slice p.B p.m p.cap] 27)).heap[W.heap.size]? = some (.cells #[.int .i64 r.k, .int .i32 r.c, .bool r.neg, .slice p.A p.n p.cp, .string r.t, .slice p.B p.m p.cap] 27 (0, 0)) := heap_alloc_new W _
  obtain ⟨a0, a1, a2, a3, a4, a5⟩ := dat_cells hb1
  clear hb1
  rw [q1] at a2
  go_enter Tryz.func74, Tryz.ntmps74
  go_wp2_with fail
  go_ret
  exact ⟨rfl, (Keep.refl _ _).alloc _⟩
set_option maxRecDepth 100000 in
set_option maxHeartbeats 2000000 in
theorem bare0n (r : Raw) (p : PV) (W : World) (q0 : (r.c == 0) = true) (q1 : r.neg = false) (q2 : ((p.n : Int) == 0) = false) : Calls Tryz.prog 74 #[rawV r p, .int .i64 0] W (BoolPost false W) := by
  have hb1 : (W.alloc (.cells #[.int .i64 r.k, .int .i32 r.c, .bool r.neg, .slice p.A p.n p.cp, .string r.t, .slice p.B p.m p.cap] 27)).heap[W.heap.size]? = some (.cells #[.int .i64 r.k, .int .i32 r.c, .bool r.neg, .slice p.A p.n p.cp, .string r.t, .slice p.B p.m p.cap] 27 (0, 0)) := heap_alloc_new W _
  obtain ⟨a0, a1, a2, a3, a4, a5⟩ := dat_cells hb1
  clear hb1
  rw [q1] at a2
  go_enter Tryz.func74, Tryz.ntmps74
  go_wp2_with fail
  go_ret
  exact ⟨rfl, (Keep.refl _ _).alloc _⟩
set_option maxRecDepth 100000 in
set_option maxHeartbeats 2000000 in
theorem bare0t (r : Raw) (p : PV) (W : World) (q0 : (r.c == 0) = true) (q1 : r.neg = false) (q2 : ((p.n : Int) == 0) = true) (q3 : ¬ r.t.toList = []) : Calls Tryz.prog 74 #[rawV r p, .int .i64 0] W (BoolPost false W) := by
  have hb1 : (W.alloc (.cells #[.int .i64 r.k, .int .i32 r.c, .bool r.neg, .slice p.A p.n p.cp, .string r.t, .slice p.B p.m p.cap] 27)).heap[W.heap.size]? = some (.cells #[.int .i64 r.k, .int .i32 r.c, .bool r.neg, .slice p.A p.n p.cp, .string r.t, .slice p.B p.m p.cap] 27 (0, 0)) := heap_alloc_new W _
  obtain ⟨a0, a1, a2, a3, a4, a5⟩ := dat_cells hb1
  clear hb1
  rw [q1] at a2
  go_enter Tryz.func74, Tryz.ntmps74
  go_wp2_with fail
  go_ret
  exact ⟨rfl, (Keep.refl _ _).alloc _⟩
set_option maxRecDepth 100000 in
set_option maxHeartbeats 2000000 in
theorem bare0l (r : Raw) (p : PV) (W : World) (q0 : (r.c == 0) = true) (q1 : r.neg = false) (q2 : ((p.n : Int) == 0) = true) (q3 : r.t.toList = []) (q4 : ((p.m : Int) == 0) = false) : Calls Tryz.prog 74 #[rawV r p, .int .i64 0] W (BoolPost false W) := by
  have hb1 : (W.alloc (.cells #[.int .i64 r.k, .int .i32 r.c, .bool r.neg, .slice p.A p.n p.cp, .string r.t, .slice p.B p.m p.cap] 27)).heap[W.heap.size]? = some (.cells #[.int .i64 r.k, .int .i32 r.c, .bool r.neg, .slice p.A p.n p.cp, .string r.t, .slice p.B p.m p.cap] 27 (0, 0)) := heap_alloc_new W _
  obtain ⟨a0, a1, a2, a3, a4, a5⟩ := dat_cells hb1
  clear hb1
  rw [q1] at a2
  go_enter Tryz.func74, Tryz.ntmps74
  go_wp2_with fail
  go_ret
  exact ⟨rfl, (Keep.refl _ _).alloc _⟩
set_option maxRecDepth 100000 in
set_option maxHeartbeats 2000000 in
theorem bare0y (r : Raw) (p : PV) (W : World) (q0 : (r.c == 0) = true) (q1 : r.neg = false) (q2 : ((p.n : Int) == 0) = true) (q3 : r.t.toList = []) (q4 : ((p.m : Int) == 0) = true) : Calls Tryz.prog 74 #[rawV r p, .int .i64 0] W (BoolPost true W) := by
  have hb1 : (W.alloc (.cells #[.int .i64 r.k, .int .i32 r.c, .bool r.neg, .slice p.A p.n p.cp, .string r.t, .slice p.B p.m p.cap] 27)).heap[W.heap.size]? = some (.cells #[.int .i64 r.k, .int .i32 r.c, .bool r.neg, .slice p.A p.n p.cp, .string r.t, .slice p.B p.m p.cap] 27 (0, 0)) := heap_alloc_new W _
  obtain ⟨a0, a1, a2, a3, a4, a5⟩ := dat_cells hb1
  clear hb1
  rw [q1] at a2
  go_enter Tryz.func74, Tryz.ntmps74
  go_wp2_with fail
  go_ret
  exact ⟨rfl, (Keep.refl _ _).alloc _⟩
theorem bare0_any (r : Raw) (p : PV) (W : World) (hn : r.mag.length = p.n) (hm : r.l.length = p.m) : Calls Tryz.prog 74 #[rawV r p, .int .i64 0] W (BoolPost (bareB false false false false r) W) := by
  have en : (r.mag = []) ↔ p.n = 0 := by rw [← List.length_eq_zero_iff, hn]
  have em : (r.l = []) ↔ p.m = 0 := by rw [← List.length_eq_zero_iff, hm]
  have sn : ∀ n : Nat, ¬ n = 0 → ((n : Int) == 0) = false := fun n h => beq_eq_false_iff_ne.2 (by omega)
  have yn : ∀ n : Nat, n = 0 → ((n : Int) == 0) = true := fun n h => beq_iff_eq.2 (by omega)
  by_cases hc : r.c = 0
  case neg =>
    have e : bareB false false false false r = false := by unfold bareB; rw [decide_eq_false hc]; simp
    rw [e]; exact bare0c r p W (beq_eq_false_iff_ne.2 hc)
  by_cases hg : r.neg = false
  case neg =>
    have e : bareB false false false false r = false := by unfold bareB; rw [show r.neg = true from by simpa using hg]; simp
    rw [e]; exact bare0g r p W (beq_iff_eq.2 hc) (by simpa using hg)
  by_cases hn9 : p.n = 0
  case neg =>
    have e : bareB false false false false r = false := by unfold bareB; rw [decide_eq_false (mt en.1 hn9)]; simp
    rw [e]; exact bare0n r p W (beq_iff_eq.2 hc) hg (sn _ hn9)
  by_cases ht : r.t = ⟨#[]⟩
  case neg =>
    have e : bareB false false false false r = false := by unfold bareB; rw [decide_eq_false ht]; simp
    rw [e]; exact bare0t r p W (beq_iff_eq.2 hc) hg (yn _ hn9) (fun h => ht (text_nil0.1 h))
  by_cases hl : p.m = 0
  case neg =>
    have e : bareB false false false false r = false := by unfold bareB; rw [decide_eq_false (mt em.1 hl)]; simp
    rw [e]; exact bare0l r p W (beq_iff_eq.2 hc) hg (yn _ hn9) (text_nil0.2 ht) (sn _ hl)
  have e : bareB false false false false r = true := by unfold bareB; rw [decide_eq_true hc, hg, decide_eq_true (en.2 hn9), decide_eq_true ht, decide_eq_true (em.2 hl)]; rfl
  rw [e]; exact bare0y r p W (beq_iff_eq.2 hc) hg (yn _ hn9) (text_nil0.2 ht) (yn _ hl)
set_option maxRecDepth 100000 in
set_option maxHeartbeats 2000000 in
theorem bare1g (r : Raw) (p : PV) (W : World) (q1 : r.neg = true) : Calls Tryz.prog 74 #[rawV r p, .int .i64 1] W (BoolPost false W) := by
  have hb1 : (W.alloc (.cells #[.int .i64 r.k, .int .i32 r.c, .bool r.neg, .slice p.A p.n p.cp, .string r.t, .slice p.B p.m p.cap] 27)).heap[W.heap.size]? = some (.cells #[.int .i64 r.k, .int .i32 r.c, .bool r.neg, .slice p.A p.n p.cp, .string r.t, .slice p.B p.m p.cap] 27 (0, 0)) := heap_alloc_new W _
  obtain ⟨a0, a1, a2, a3, a4, a5⟩ := dat_cells hb1
  clear hb1
  rw [q1] at a2
  go_enter Tryz.func74, Tryz.ntmps74
  go_wp2_with fail
  go_ret
  exact ⟨rfl, (Keep.refl _ _).alloc _⟩
set_option maxRecDepth 100000 in
set_option maxHeartbeats 2000000 in
theorem bare1n (r : Raw) (p : PV) (W : World) (q1 : r.neg = false) (q2 : ((p.n : Int) == 0) = false) : Calls Tryz.prog 74 #[rawV r p, .int .i64 1] W (BoolPost false W) := by
  have hb1 : (W.alloc (.cells #[.int .i64 r.k, .int .i32 r.c, .bool r.neg, .slice p.A p.n p.cp, .string r.t, .slice p.B p.m p.cap] 27)).heap[W.heap.size]? = some (.cells #[.int .i64 r.k, .int .i32 r.c, .bool r.neg, .slice p.A p.n p.cp, .string r.t, .slice p.B p.m p.cap] 27 (0, 0)) := heap_alloc_new W _
  obtain ⟨a0, a1, a2, a3, a4, a5⟩ := dat_cells hb1
  clear hb1
  rw [q1] at a2
  go_enter Tryz.func74, Tryz.ntmps74
  go_wp2_with fail
  go_ret
  exact ⟨rfl, (Keep.refl _ _).alloc _⟩
set_option maxRecDepth 100000 in
set_option maxHeartbeats 2000000 in
theorem bare1t (r : Raw) (p : PV) (W : World) (q1 : r.neg = false) (q2 : ((p.n : Int) == 0) = true) (q3 : ¬ r.t.toList = []) : Calls Tryz.prog 74 #[rawV r p, .int .i64 1] W (BoolPost false W) := by
  have hb1 : (W.alloc (.cells #[.int .i64 r.k, .int .i32 r.c, .bool r.neg, .slice p.A p.n p.cp, .string r.t, .slice p.B p.m p.cap] 27)).heap[W.heap.size]? = some (.cells #[.int .i64 r.k, .int .i32 r.c, .bool r.neg, .slice p.A p.n p.cp, .string r.t, .slice p.B p.m p.cap] 27 (0, 0)) := heap_alloc_new W _
  obtain ⟨a0, a1, a2, a3, a4, a5⟩ := dat_cells hb1
  clear hb1
  rw [q1] at a2
  go_enter Tryz.func74, Tryz.ntmps74
  go_wp2_with fail
  go_ret
  exact ⟨rfl, (Keep.refl _ _).alloc _⟩
set_option maxRecDepth 100000 in
set_option maxHeartbeats 2000000 in
theorem bare1l (r : Raw) (p : PV) (W : World) (q1 : r.neg = false) (q2 : ((p.n : Int) == 0) = true) (q3 : r.t.toList = []) (q4 : ((p.m : Int) == 0) = false) : Calls Tryz.prog 74 #[rawV r p, .int .i64 1] W (BoolPost false W) := by
  have hb1 : (W.alloc (.cells #[.int .i64 r.k, .int .i32 r.c, .bool r.neg, .slice p.A p.n p.cp, .string r.t, .slice p.B p.m p.cap] 27)).heap[W.heap.size]? = some (.cells #[.int .i64 r.k, .int .i32 r.c, .bool r.neg, .slice p.A p.n p.cp, .string r.t, .slice p.B p.m p.cap] 27 (0, 0)) := heap_alloc_new W _
  obtain ⟨a0, a1, a2, a3, a4, a5⟩ := dat_cells hb1
  clear hb1
  rw [q1] at a2
  go_enter Tryz.func74, Tryz.ntmps74
  go_wp2_with fail
  go_ret
  exact ⟨rfl, (Keep.refl _ _).alloc _⟩
set_option maxRecDepth 100000 in
set_option maxHeartbeats 2000000 in
theorem bare1y (r : Raw) (p : PV) (W : World) (q1 : r.neg = false) (q2 : ((p.n : Int) == 0) = true) (q3 : r.t.toList = []) (q4 : ((p.m : Int) == 0) = true) : Calls Tryz.prog 74 #[rawV r p, .int .i64 1] W (BoolPost true W) := by
  have hb1 : (W.alloc (.cells #[.int .i64 r.k, .int .i32 r.c, .bool r.neg, .slice p.A p.n p.cp, .string r.t, .slice p.B p.m p.cap] 27)).heap[W.heap.size]? = some (.cells #[.int .i64 r.k, .int .i32 r.c, .bool r.neg, .slice p.A p.n p.cp, .string r.t, .slice p.B p.m p.cap] 27 (0, 0)) := heap_alloc_new W _
  obtain ⟨a0, a1, a2, a3, a4, a5⟩ := dat_cells hb1
  clear hb1
  rw [q1] at a2
  go_enter Tryz.func74, Tryz.ntmps74
  go_wp2_with fail
  go_ret
  exact ⟨rfl, (Keep.refl _ _).alloc _⟩
theorem bare1_any (r : Raw) (p : PV) (W : World) (hn : r.mag.length = p.n) (hm : r.l.length = p.m) : Calls Tryz.prog 74 #[rawV r p, .int .i64 1] W (BoolPost (bareB true false false false r) W) := by
  have en : (r.mag = []) ↔ p.n = 0 := by rw [← List.length_eq_zero_iff, hn]
  have em : (r.l = []) ↔ p.m = 0 := by rw [← List.length_eq_zero_iff, hm]
  have sn : ∀ n : Nat, ¬ n = 0 → ((n : Int) == 0) = false := fun n h => beq_eq_false_iff_ne.2 (by omega)
  have yn : ∀ n : Nat, n = 0 → ((n : Int) == 0) = true := fun n h => beq_iff_eq.2 (by omega)
  by_cases hg : r.neg = false
  case neg =>
    have e : bareB true false false false r = false := by unfold bareB; rw [show r.neg = true from by simpa using hg]; simp
    rw [e]; exact bare1g r p W (by simpa using hg)
  by_cases hn9 : p.n = 0
  case neg =>
    have e : bareB true false false false r = false := by unfold bareB; rw [decide_eq_false (mt en.1 hn9)]; simp
    rw [e]; exact bare1n r p W hg (sn _ hn9)
  by_cases ht : r.t = ⟨#[]⟩
  case neg =>
    have e : bareB true false false false r = false := by unfold bareB; rw [decide_eq_false ht]; simp
    rw [e]; exact bare1t r p W hg (yn _ hn9) (fun h => ht (text_nil0.1 h))
  by_cases hl : p.m = 0
  case neg =>
    have e : bareB true false false false r = false := by unfold bareB; rw [decide_eq_false (mt em.1 hl)]; simp
    rw [e]; exact bare1l r p W hg (yn _ hn9) (text_nil0.2 ht) (sn _ hl)
  have e : bareB true false false false r = true := by unfold bareB; rw [hg, decide_eq_true (en.2 hn9), decide_eq_true ht, decide_eq_true (em.2 hl)]; rfl
  rw [e]; exact bare1y r p W hg (yn _ hn9) (text_nil0.2 ht) (yn _ hl)
set_option maxRecDepth 100000 in
set_option maxHeartbeats 2000000 in
theorem bare2c (r : Raw) (p : PV) (W : World) (q0 : (r.c == 0) = false) : Calls Tryz.prog 74 #[rawV r p, .int .i64 2] W (BoolPost false W) := by
  have hb1 : (W.alloc (.cells #[.int .i64 r.k, .int .i32 r.c, .bool r.neg, .slice p.A p.n p.cp, .string r.t, .slice p.B p.m p.cap] 27)).heap[W.heap.size]? = some (.cells #[.int .i64 r.k, .int .i32 r.c, .bool r.neg, .slice p.A p.n p.cp, .string r.t, .slice p.B p.m p.cap] 27 (0, 0)) := heap_alloc_new W _
  obtain ⟨a0, a1, a2, a3, a4, a5⟩ := dat_cells hb1
  clear hb1
  go_enter Tryz.func74, Tryz.ntmps74
  go_wp2_with fail
  go_ret
  exact ⟨rfl, (Keep.refl _ _).alloc _⟩
set_option maxRecDepth 100000 in
set_option maxHeartbeats 2000000 in
theorem bare2t (r : Raw) (p : PV) (W : World) (q0 : (r.c == 0) = true) (q3 : ¬ r.t.toList = []) : Calls Tryz.prog 74 #[rawV r p, .int .i64 2] W (BoolPost false W) := by
  have hb1 : (W.alloc (.cells #[.int .i64 r.k, .int .i32 r.c, .bool r.neg, .slice p.A p.n p.cp, .string r.t, .slice p.B p.m p.cap] 27)).heap[W.heap.size]? = some (.cells #[.int .i64 r.k, .int .i32 r.c, .bool r.neg, .slice p.A p.n p.cp, .string r.t, .slice p.B p.m p.cap] 27 (0, 0)) := heap_alloc_new W _
  obtain ⟨a0, a1, a2, a3, a4, a5⟩ := dat_cells hb1
  clear hb1
  go_enter Tryz.func74, Tryz.ntmps74
  go_wp2_with fail
  go_ret
  exact ⟨rfl, (Keep.refl _ _).alloc _⟩
set_option maxRecDepth 100000 in
set_option maxHeartbeats 2000000 in
theorem bare2l (r : Raw) (p : PV) (W : World) (q0 : (r.c == 0) = true) (q3 : r.t.toList = []) (q4 : ((p.m : Int) == 0) = false) : Calls Tryz.prog 74 #[rawV r p, .int .i64 2] W (BoolPost false W) := by
  have hb1 : (W.alloc (.cells #[.int .i64 r.k, .int .i32 r.c, .bool r.neg, .slice p.A p.n p.cp, .string r.t, .slice p.B p.m p.cap] 27)).heap[W.heap.size]? = some (.cells #[.int .i64 r.k, .int .i32 r.c, .bool r.neg, .slice p.A p.n p.cp, .string r.t, .slice p.B p.m p.cap] 27 (0, 0)) := heap_alloc_new W _
  obtain ⟨a0, a1, a2, a3, a4, a5⟩ := dat_cells hb1
  clear hb1
  go_enter Tryz.func74, Tryz.ntmps74
  go_wp2_with fail
  go_ret
  exact ⟨rfl, (Keep.refl _ _).alloc _⟩
set_option maxRecDepth 100000 in
set_option maxHeartbeats 2000000 in
theorem bare2y (r : Raw) (p : PV) (W : World) (q0 : (r.c == 0) = true) (q3 : r.t.toList = []) (q4 : ((p.m : Int) == 0) = true) : Calls Tryz.prog 74 #[rawV r p, .int .i64 2] W (BoolPost true W) := by
  have hb1 : (W.alloc (.cells #[.int .i64 r.k, .int .i32 r.c, .bool r.neg, .slice p.A p.n p.cp, .string r.t, .slice p.B p.m p.cap] 27)).heap[W.heap.size]? = some (.cells #[.int .i64 r.k, .int .i32 r.c, .bool r.neg, .slice p.A p.n p.cp, .string r.t, .slice p.B p.m p.cap] 27 (0, 0)) := heap_alloc_new W _
  obtain ⟨a0, a1, a2, a3, a4, a5⟩ := dat_cells hb1
  clear hb1
  go_enter Tryz.func74, Tryz.ntmps74
  go_wp2_with fail
  go_ret
  exact ⟨rfl, (Keep.refl _ _).alloc _⟩
theorem bare2_any (r : Raw) (p : PV) (W : World) (hn : r.mag.length = p.n) (hm : r.l.length = p.m) : Calls Tryz.prog 74 #[rawV r p, .int .i64 2] W (BoolPost (bareB false true false false r) W) := by
  have en : (r.mag = []) ↔ p.n = 0 := by rw [← List.length_eq_zero_iff, hn]
  have em : (r.l = []) ↔ p.m = 0 := by rw [← List.length_eq_zero_iff, hm]
  have sn : ∀ n : Nat, ¬ n = 0 → ((n : Int) == 0) = false := fun n h => beq_eq_false_iff_ne.2 (by omega)
  have yn : ∀ n : Nat, n = 0 → ((n : Int) == 0) = true := fun n h => beq_iff_eq.2 (by omega)
  by_cases hc : r.c = 0
  case neg =>
    have e : bareB false true false false r = false := by unfold bareB; rw [decide_eq_false hc]; simp
    rw [e]; exact bare2c r p W (beq_eq_false_iff_ne.2 hc)
  by_cases ht : r.t = ⟨#[]⟩
  case neg =>
    have e : bareB false true false false r = false := by unfold bareB; rw [decide_eq_false ht]; simp
    rw [e]; exact bare2t r p W (beq_iff_eq.2 hc) (fun h => ht (text_nil0.1 h))
  by_cases hl : p.m = 0
  case neg =>
    have e : bareB false true false false r = false := by unfold bareB; rw [decide_eq_false (mt em.1 hl)]; simp
    rw [e]; exact bare2l r p W (beq_iff_eq.2 hc) (text_nil0.2 ht) (sn _ hl)
  have e : bareB false true false false r = true := by unfold bareB; rw [decide_eq_true hc, decide_eq_true ht, decide_eq_true (em.2 hl)]; rfl
  rw [e]; exact bare2y r p W (beq_iff_eq.2 hc) (text_nil0.2 ht) (yn _ hl)
set_option maxRecDepth 100000 in
set_option maxHeartbeats 2000000 in
theorem bare4c (r : Raw) (p : PV) (W : World) (q0 : (r.c == 0) = false) : Calls Tryz.prog 74 #[rawV r p, .int .i64 4] W (BoolPost false W) := by
  have hb1 : (W.alloc (.cells #[.int .i64 r.k, .int .i32 r.c, .bool r.neg, .slice p.A p.n p.cp, .string r.t, .slice p.B p.m p.cap] 27)).heap[W.heap.size]? = some (.cells #[.int .i64 r.k, .int .i32 r.c, .bool r.neg, .slice p.A p.n p.cp, .string r.t, .slice p.B p.m p.cap] 27 (0, 0)) := heap_alloc_new W _
  obtain ⟨a0, a1, a2, a3, a4, a5⟩ := dat_cells hb1
  clear hb1
  go_enter Tryz.func74, Tryz.ntmps74
  go_wp2_with fail
  go_ret
  exact ⟨rfl, (Keep.refl _ _).alloc _⟩
set_option maxRecDepth 100000 in
set_option maxHeartbeats 2000000 in
theorem bare4g (r : Raw) (p : PV) (W : World) (q0 : (r.c == 0) = true) (q1 : r.neg = true) : Calls Tryz.prog 74 #[rawV r p, .int .i64 4] W (BoolPost false W) := by
  have hb1 : (W.alloc (.cells #[.int .i64 r.k, .int .i32 r.c, .bool r.neg, .slice p.A p.n p.cp, .string r.t, .slice p.B p.m p.cap] 27)).heap[W.heap.size]? = some (.cells #[.int .i64 r.k, .int .i32 r.c, .bool r.neg, .slice p.A p.n p.cp, .string r.t, .slice p.B p.m p.cap] 27 (0, 0)) := heap_alloc_new W _
  obtain ⟨a0, a1, a2, a3, a4, a5⟩ := dat_cells hb1
  clear hb1
  rw [q1] at a2
  go_enter Tryz.func74, Tryz.ntmps74
  go_wp2_with fail
  go_ret
  exact ⟨rfl, (Keep.refl _ _).alloc _⟩
set_option maxRecDepth 100000 in
set_option maxHeartbeats 2000000 in
theorem bare4n (r : Raw) (p : PV) (W : World) (q0 : (r.c == 0) = true) (q1 : r.neg = false) (q2 : ((p.n : Int) == 0) = false) : Calls Tryz.prog 74 #[rawV r p, .int .i64 4] W (BoolPost false W) := by
  have hb1 : (W.alloc (.cells #[.int .i64 r.k, .int .i32 r.c, .bool r.neg, .slice p.A p.n p.cp, .string r.t, .slice p.B p.m p.cap] 27)).heap[W.heap.size]? = some (.cells #[.int .i64 r.k, .int .i32 r.c, .bool r.neg, .slice p.A p.n p.cp, .string r.t, .slice p.B p.m p.cap] 27 (0, 0)) := heap_alloc_new W _
  obtain ⟨a0, a1, a2, a3, a4, a5⟩ := dat_cells hb1
  clear hb1
  rw [q1] at a2
  go_enter Tryz.func74, Tryz.ntmps74
  go_wp2_with fail
  go_ret
  exact ⟨rfl, (Keep.refl _ _).alloc _⟩
set_option maxRecDepth 100000 in
set_option maxHeartbeats 2000000 in
theorem bare4l (r : Raw) (p : PV) (W : World) (q0 : (r.c == 0) = true) (q1 : r.neg = false) (q2 : ((p.n : Int) == 0) = true) (q4 : ((p.m : Int) == 0) = false) : Calls Tryz.prog 74 #[rawV r p, .int .i64 4] W (BoolPost false W) := by
  have hb1 : (W.alloc (.cells #[.int .i64 r.k, .int .i32 r.c, .bool r.neg, .slice p.A p.n p.cp, .string r.t, .slice p.B p.m p.cap] 27)).heap[W.heap.size]? = some (.cells #[.int .i64 r.k, .int .i32 r.c, .bool r.neg, .slice p.A p.n p.cp, .string r.t, .slice p.B p.m p.cap] 27 (0, 0)) := heap_alloc_new W _
  obtain ⟨a0, a1, a2, a3, a4, a5⟩ := dat_cells hb1
  clear hb1
  rw [q1] at a2
  go_enter Tryz.func74, Tryz.ntmps74
  go_wp2_with fail
  go_ret
  exact ⟨rfl, (Keep.refl _ _).alloc _⟩
set_option maxRecDepth 100000 in
set_option maxHeartbeats 2000000 in
theorem bare4y (r : Raw) (p : PV) (W : World) (q0 : (r.c == 0) = true) (q1 : r.neg = false) (q2 : ((p.n : Int) == 0) = true) (q4 : ((p.m : Int) == 0) = true) : Calls Tryz.prog 74 #[rawV r p, .int .i64 4] W (BoolPost true W) := by
  have hb1 : (W.alloc (.cells #[.int .i64 r.k, .int .i32 r.c, .bool r.neg, .slice p.A p.n p.cp, .string r.t, .slice p.B p.m p.cap] 27)).heap[W.heap.size]? = some (.cells #[.int .i64 r.k, .int .i32 r.c, .bool r.neg, .slice p.A p.n p.cp, .string r.t, .slice p.B p.m p.cap] 27 (0, 0)) := heap_alloc_new W _
  obtain ⟨a0, a1, a2, a3, a4, a5⟩ := dat_cells hb1
  clear hb1
  rw [q1] at a2
  go_enter Tryz.func74, Tryz.ntmps74
  go_wp2_with fail
  go_ret
  exact ⟨rfl, (Keep.refl _ _).alloc _⟩
theorem bare4_any (r : Raw) (p : PV) (W : World) (hn : r.mag.length = p.n) (hm : r.l.length = p.m) : Calls Tryz.prog 74 #[rawV r p, .int .i64 4] W (BoolPost (bareB false false true false r) W) := by
  have en : (r.mag = []) ↔ p.n = 0 := by rw [← List.length_eq_zero_iff, hn]
  have em : (r.l = []) ↔ p.m = 0 := by rw [← List.length_eq_zero_iff, hm]
  have sn : ∀ n : Nat, ¬ n = 0 → ((n : Int) == 0) = false := fun n h => beq_eq_false_iff_ne.2 (by omega)
  have yn : ∀ n : Nat, n = 0 → ((n : Int) == 0) = true := fun n h => beq_iff_eq.2 (by omega)
  by_cases hc : r.c = 0
  case neg =>
    have e : bareB false false true false r = false := by unfold bareB; rw [decide_eq_false hc]; simp
    rw [e]; exact bare4c r p W (beq_eq_false_iff_ne.2 hc)
  by_cases hg : r.neg = false
  case neg =>
    have e : bareB false false true false r = false := by unfold bareB; rw [show r.neg = true from by simpa using hg]; simp
    rw [e]; exact bare4g r p W (beq_iff_eq.2 hc) (by simpa using hg)
  by_cases hn9 : p.n = 0
  case neg =>
    have e : bareB false false true false r = false := by unfold bareB; rw [decide_eq_false (mt en.1 hn9)]; simp
    rw [e]; exact bare4n r p W (beq_iff_eq.2 hc) hg (sn _ hn9)
  by_cases hl : p.m = 0
  case neg =>
    have e : bareB false false true false r = false := by unfold bareB; rw [decide_eq_false (mt em.1 hl)]; simp
    rw [e]; exact bare4l r p W (beq_iff_eq.2 hc) hg (yn _ hn9) (sn _ hl)
  have e : bareB false false true false r = true := by unfold bareB; rw [decide_eq_true hc, hg, decide_eq_true (en.2 hn9), decide_eq_true (em.2 hl)]; rfl
  rw [e]; exact bare4y r p W (beq_iff_eq.2 hc) hg (yn _ hn9) (yn _ hl)
set_option maxRecDepth 100000 in
set_option maxHeartbeats 2000000 in
theorem bare8c (r : Raw) (p : PV) (W : World) (q0 : (r.c == 0) = false) : Calls Tryz.prog 74 #[rawV r p, .int .i64 8] W (BoolPost false W) := by
  have hb1 : (W.alloc (.cells #[.int .i64 r.k, .int .i32 r.c, .bool r.neg, .slice p.A p.n p.cp, .string r.t, .slice p.B p.m p.cap] 27)).heap[W.heap.size]? = some (.cells #[.int .i64 r.k, .int .i32 r.c, .bool r.neg, .slice p.A p.n p.cp, .string r.t, .slice p.B p.m p.cap] 27 (0, 0)) := heap_alloc_new W _
  obtain ⟨a0, a1, a2, a3, a4, a5⟩ := dat_cells hb1
  clear hb1
  go_enter Tryz.func74, Tryz.ntmps74
  go_wp2_with fail
  go_ret
  exact ⟨rfl, (Keep.refl _ _).alloc _⟩
set_option maxRecDepth 100000 in
set_option maxHeartbeats 2000000 in
theorem bare8g (r : Raw) (p : PV) (W : World) (q0 : (r.c == 0) = true) (q1 : r.neg = true) : Calls Tryz.prog 74 #[rawV r p, .int .i64 8] W (BoolPost false W) := by
  have hb1 : (W.alloc (.cells #[.int .i64 r.k, .int .i32 r.c, .bool r.neg, .slice p.A p.n p.cp, .string r.t, .slice p.B p.m p.cap] 27)).heap[W.heap.size]? = some (.cells #[.int .i64 r.k, .int .i32 r.c, .bool r.neg, .slice p.A p.n p.cp, .string r.t, .slice p.B p.m p.cap] 27 (0, 0)) := heap_alloc_new W _
  obtain ⟨a0, a1, a2, a3, a4, a5⟩ := dat_cells hb1
  clear hb1
  rw [q1] at a2
  go_enter Tryz.func74, Tryz.ntmps74
  go_wp2_with fail
  go_ret
  exact ⟨rfl, (Keep.refl _ _).alloc _⟩
set_option maxRecDepth 100000 in
set_option maxHeartbeats 2000000 in
theorem bare8n (r : Raw) (p : PV) (W : World) (q0 : (r.c == 0) = true) (q1 : r.neg = false) (q2 : ((p.n : Int) == 0) = false) : Calls Tryz.prog 74 #[rawV r p, .int .i64 8] W (BoolPost false W) := by
  have hb1 : (W.alloc (.cells #[.int .i64 r.k, .int .i32 r.c, .bool r.neg, .slice p.A p.n p.cp, .string r.t, .slice p.B p.m p.cap] 27)).heap[W.heap.size]? = some (.cells #[.int .i64 r.k, .int .i32 r.c, .bool r.neg, .slice p.A p.n p.cp, .string r.t, .slice p.B p.m p.cap] 27 (0, 0)) := heap_alloc_new W _
  obtain ⟨a0, a1, a2, a3, a4, a5⟩ := dat_cells hb1
  clear hb1
  rw [q1] at a2
  go_enter Tryz.func74, Tryz.ntmps74
  go_wp2_with fail
  go_ret
  exact ⟨rfl, (Keep.refl _ _).alloc _⟩
set_option maxRecDepth 100000 in
set_option maxHeartbeats 2000000 in
theorem bare8t (r : Raw) (p : PV) (W : World) (q0 : (r.c == 0) = true) (q1 : r.neg = false) (q2 : ((p.n : Int) == 0) = true) (q3 : ¬ r.t.toList = []) : Calls Tryz.prog 74 #[rawV r p, .int .i64 8] W (BoolPost false W) := by
  have hb1 : (W.alloc (.cells #[.int .i64 r.k, .int .i32 r.c, .bool r.neg, .slice p.A p.n p.cp, .string r.t, .slice p.B p.m p.cap] 27)).heap[W.heap.size]? = some (.cells #[.int .i64 r.k, .int .i32 r.c, .bool r.neg, .slice p.A p.n p.cp, .string r.t, .slice p.B p.m p.cap] 27 (0, 0)) := heap_alloc_new W _
  obtain ⟨a0, a1, a2, a3, a4, a5⟩ := dat_cells hb1
  clear hb1
  rw [q1] at a2
  go_enter Tryz.func74, Tryz.ntmps74
  go_wp2_with fail
  go_ret
  exact ⟨rfl, (Keep.refl _ _).alloc _⟩
set_option maxRecDepth 100000 in
set_option maxHeartbeats 2000000 in
theorem bare8y (r : Raw) (p : PV) (W : World) (q0 : (r.c == 0) = true) (q1 : r.neg = false) (q2 : ((p.n : Int) == 0) = true) (q3 : r.t.toList = []) : Calls Tryz.prog 74 #[rawV r p, .int .i64 8] W (BoolPost true W) := by
  have hb1 : (W.alloc (.cells #[.int .i64 r.k, .int .i32 r.c, .bool r.neg, .slice p.A p.n p.cp, .string r.t, .slice p.B p.m p.cap] 27)).heap[W.heap.size]? = some (.cells #[.int .i64 r.k, .int .i32 r.c, .bool r.neg, .slice p.A p.n p.cp, .string r.t, .slice p.B p.m p.cap] 27 (0, 0)) := heap_alloc_new W _
  obtain ⟨a0, a1, a2, a3, a4, a5⟩ := dat_cells hb1
  clear hb1
  rw [q1] at a2
  go_enter Tryz.func74, Tryz.ntmps74
  go_wp2_with fail
  go_ret
  exact ⟨rfl, (Keep.refl _ _).alloc _⟩
theorem bare8_any (r : Raw) (p : PV) (W : World) (hn : r.mag.length = p.n) (hm : r.l.length = p.m) : Calls Tryz.prog 74 #[rawV r p, .int .i64 8] W (BoolPost (bareB false false false true r) W) := by
  have en : (r.mag = []) ↔ p.n = 0 := by rw [← List.length_eq_zero_iff, hn]
  have em : (r.l = []) ↔ p.m = 0 := by rw [← List.length_eq_zero_iff, hm]
  have sn : ∀ n : Nat, ¬ n = 0 → ((n : Int) == 0) = false := fun n h => beq_eq_false_iff_ne.2 (by omega)
  have yn : ∀ n : Nat, n = 0 → ((n : Int) == 0) = true := fun n h => beq_iff_eq.2 (by omega)
  by_cases hc : r.c = 0
  case neg =>
    have e : bareB false false false true r = false := by unfold bareB; rw [decide_eq_false hc]; simp
    rw [e]; exact bare8c r p W (beq_eq_false_iff_ne.2 hc)
  by_cases hg : r.neg = false
  case neg =>
    have e : bareB false false false true r = false := by unfold bareB; rw [show r.neg = true from by simpa using hg]; simp
    rw [e]; exact bare8g r p W (beq_iff_eq.2 hc) (by simpa using hg)
  by_cases hn9 : p.n = 0
  case neg =>
    have e : bareB false false false true r = false := by unfold bareB; rw [decide_eq_false (mt en.1 hn9)]; simp
    rw [e]; exact bare8n r p W (beq_iff_eq.2 hc) hg (sn _ hn9)
  by_cases ht : r.t = ⟨#[]⟩
  case neg =>
    have e : bareB false false false true r = false := by unfold bareB; rw [decide_eq_false ht]; simp
    rw [e]; exact bare8t r p W (beq_iff_eq.2 hc) hg (yn _ hn9) (fun h => ht (text_nil0.1 h))
  have e : bareB false false false true r = true := by unfold bareB; rw [decide_eq_true hc, hg, decide_eq_true (en.2 hn9), decide_eq_true ht]; rfl
  rw [e]; exact bare8y r p W (beq_iff_eq.2 hc) hg (yn _ hn9) (text_nil0.2 ht)
end Go.Proofs.YtonnikipeokkaaaGreatDoor

namespace Go.Proofs.YtonnikipeokkaaaGreatDoor
open Go.RowKit Go.Lib

/-- May a number be a char's? -/
def charI (c : Int) : Bool := decide (0 ≤ c) && charB c.toNat
/-- May a text be that of a string (of a symbol, if it must not be empty)? -/
def textB (o : Option (List Nat)) (sym : Bool) : Bool :=
  match o with
  | some r => decide (r.length ≤ 62) && (!sym || decide (0 < r.length))
  | none => false
mutual
/-- May a datum be, but for its depth? -/
def plainB : Raw → Bool
  | .mk k c neg mag t l =>
    if k = 0 ∨ k = 1 ∨ k = 2 ∨ k = 9 ∨ k = 10 then bareB false false false false (.mk k c neg mag t l)
    else if k = 3 then bareB true false false false (.mk k c neg mag t l) && charI c
    else if k = 4 then bareB false true false false (.mk k c neg mag t l) && mayB neg mag
    else if k = 5 then bareB false false true false (.mk k c neg mag t l) && textB (runesL t.data.toList) false
    else if k = 6 then bareB false false true false (.mk k c neg mag t l) && textB (runesL t.data.toList) true
    else if k = 7 then (bareB false false false true (.mk k c neg mag t l) && decide (l.length = 2)) && plainL l
    else if k = 8 then (bareB false false false true (.mk k c neg mag t l) && decide (l.length ≤ 62)) && plainL l
    else false
def plainL : List Raw → Bool
  | [] => true
  | x :: l => plainB x && plainL l
end
theorem plain_eq (r : Raw) : plainB r =
    if r.k = 0 ∨ r.k = 1 ∨ r.k = 2 ∨ r.k = 9 ∨ r.k = 10 then bareB false false false false r
    else if r.k = 3 then bareB true false false false r && charI r.c
    else if r.k = 4 then bareB false true false false r && mayB r.neg r.mag
    else if r.k = 5 then bareB false false true false r && textB (runesL r.t.data.toList) false
    else if r.k = 6 then bareB false false true false r && textB (runesL r.t.data.toList) true
    else if r.k = 7 then (bareB false false false true r && decide (r.l.length = 2)) && plainL r.l
    else if r.k = 8 then (bareB false false false true r && decide (r.l.length ≤ 62)) && plainL r.l
    else false := by
  cases r with
  | mk k c neg mag t l => rw [plainB]; rfl
theorem plainL_true {l : List Raw} : plainL l = true ↔ ∀ i (hi : i < l.length), plainB l[i] = true := by
  induction l with
  | nil => rw [plainL]; simp
  | cons x l ih =>
    rw [plainL, Bool.and_eq_true, ih]
    constructor
    · rintro ⟨h0, h⟩ i hi
      cases i with
      | zero => exact h0
      | succ i => exact h i (by simpa using hi)
    · intro h
      exact ⟨h 0 (by simp), fun i hi => h (i + 1) (by simpa using hi)⟩
theorem plainL_false {l : List Raw} {i : Nat} (hi : i < l.length) (h : plainB l[i] = false) : plainL l = false := by
  rw [Bool.eq_false_iff]
  intro hp
  rw [plainL_true.1 hp i hi] at h
  cases h
/-- A datum whose texts and numbers are not too long for the walk. -/
inductive SmallR : Raw → Prop
  | mk {r : Raw} (ht : r.t.size ≤ 1000000) (hm : r.mag.length ≤ 9000) (h : ∀ i (hi : i < r.l.length), SmallR r.l[i]) : SmallR r
set_option maxRecDepth 100000 in
set_option maxHeartbeats 2000000 in
theorem rcharI_any (c : Int) (w : World) : Calls Tryz.prog 75 #[.int .i32 c] w fun e w' => e = .returned (.bool (charI c)) ∧ w = w' := by
  by_cases h : 0 ≤ c
  · have e : charI c = charB c.toNat := by unfold charI; rw [decide_eq_true h, Bool.true_and]
    rw [e]
    exact rchar_any c.toNat c (by omega) w
  · have e : charI c = false := by unfold charI; rw [decide_eq_false h, Bool.false_and]
    have h0 : decide (0 ≤ c) = false := decide_eq_false h
    rw [e]
    clear e h
    go_enter Tryz.func75, Tryz.ntmps75
    go_wp2_with fail
    go_ret
    exact ⟨rfl, rfl⟩
set_option maxRecDepth 100000 in
set_option maxHeartbeats 4000000 in
theorem plain_A0 (r : Raw) (p : PV) (W : World) (s0 : (r.k == 0) = true) (b : Bool) (HB : Hid (∀ w1 : World, Calls Tryz.prog 74 #[rawV r p, .int .i64 0] w1 (BoolPost b w1))) : Calls Tryz.prog 46 #[rawV r p] W (BoolPost b W) := by
  have hb1 : (W.alloc (.cells #[.int .i64 r.k, .int .i32 r.c, .bool r.neg, .slice p.A p.n p.cp, .string r.t, .slice p.B p.m p.cap] 27)).heap[W.heap.size]? = some (.cells #[.int .i64 r.k, .int .i32 r.c, .bool r.neg, .slice p.A p.n p.cp, .string r.t, .slice p.B p.m p.cap] 27 (0, 0)) := heap_alloc_new W _
  have HB1 := Lib.hid hb1
  have HK1 := Lib.hid (show Keep (fun _ => False) W (W.alloc (.cells #[.int .i64 r.k, .int .i32 r.c, .bool r.neg, .slice p.A p.n p.cp, .string r.t, .slice p.B p.m p.cap] 27)) from (Keep.refl _ _).alloc _)
  obtain ⟨a0, a1, a2, a3, a4, a5⟩ := dat_cells hb1
  clear hb1
  go_enter Tryz.func46, Tryz.ntmps46
  go_wp2_with fail
  generalize W.alloc (.cells #[.int .i64 r.k, .int .i32 r.c, .bool r.neg, .slice p.A p.n p.cp, .string r.t, .slice p.B p.m p.cap] 27) = w1 at *
  refine (HB.out _).mono ?_
  rintro e w2 ⟨rfl, k2⟩
  have HB2 := Lib.hid (k2.heap HB1.out (by simp))
  have HK2 := Lib.hid (HK1.out.trans k2)
  clear a0 a1 a2 a3 a4 a5 k2
  obtain ⟨a0, a1, a2, a3, a4, a5⟩ := dat_cells HB2.out
  go_wp2_with fail
  go_ret
  exact ⟨rfl, HK2.out⟩
set_option maxRecDepth 100000 in
set_option maxHeartbeats 4000000 in
theorem plain_A1 (r : Raw) (p : PV) (W : World) (s0 : (r.k == 0) = false) (s1 : (r.k == 1) = true) (b : Bool) (HB : Hid (∀ w1 : World, Calls Tryz.prog 74 #[rawV r p, .int .i64 0] w1 (BoolPost b w1))) : Calls Tryz.prog 46 #[rawV r p] W (BoolPost b W) := by
  have hb1 : (W.alloc (.cells #[.int .i64 r.k, .int .i32 r.c, .bool r.neg, .slice p.A p.n p.cp, .string r.t, .slice p.B p.m p.cap] 27)).heap[W.heap.size]? = some (.cells #[.int .i64 r.k, .int .i32 r.c, .bool r.neg, .slice p.A p.n p.cp, .string r.t, .slice p.B p.m p.cap] 27 (0, 0)) := heap_alloc_new W _
  have HB1 := Lib.hid hb1
  have HK1 := Lib.hid (show Keep (fun _ => False) W (W.alloc (.cells #[.int .i64 r.k, .int .i32 r.c, .bool r.neg, .slice p.A p.n p.cp, .string r.t, .slice p.B p.m p.cap] 27)) from (Keep.refl _ _).alloc _)
  obtain ⟨a0, a1, a2, a3, a4, a5⟩ := dat_cells hb1
  clear hb1
  go_enter Tryz.func46, Tryz.ntmps46
  go_wp2_with fail
  generalize W.alloc (.cells #[.int .i64 r.k, .int .i32 r.c, .bool r.neg, .slice p.A p.n p.cp, .string r.t, .slice p.B p.m p.cap] 27) = w1 at *
  refine (HB.out _).mono ?_
  rintro e w2 ⟨rfl, k2⟩
  have HB2 := Lib.hid (k2.heap HB1.out (by simp))
  have HK2 := Lib.hid (HK1.out.trans k2)
  clear a0 a1 a2 a3 a4 a5 k2
  obtain ⟨a0, a1, a2, a3, a4, a5⟩ := dat_cells HB2.out
  go_wp2_with fail
  go_ret
  exact ⟨rfl, HK2.out⟩
set_option maxRecDepth 100000 in
set_option maxHeartbeats 4000000 in
theorem plain_A2 (r : Raw) (p : PV) (W : World) (s0 : (r.k == 0) = false) (s1 : (r.k == 1) = false) (s2 : (r.k == 2) = true) (b : Bool) (HB : Hid (∀ w1 : World, Calls Tryz.prog 74 #[rawV r p, .int .i64 0] w1 (BoolPost b w1))) : Calls Tryz.prog 46 #[rawV r p] W (BoolPost b W) := by
  have hb1 : (W.alloc (.cells #[.int .i64 r.k, .int .i32 r.c, .bool r.neg, .slice p.A p.n p.cp, .string r.t, .slice p.B p.m p.cap] 27)).heap[W.heap.size]? = some (.cells #[.int .i64 r.k, .int .i32 r.c, .bool r.neg, .slice p.A p.n p.cp, .string r.t, .slice p.B p.m p.cap] 27 (0, 0)) := heap_alloc_new W _
  have HB1 := Lib.hid hb1
  have HK1 := Lib.hid (show Keep (fun _ => False) W (W.alloc (.cells #[.int .i64 r.k, .int .i32 r.c, .bool r.neg, .slice p.A p.n p.cp, .string r.t, .slice p.B p.m p.cap] 27)) from (Keep.refl _ _).alloc _)
  obtain ⟨a0, a1, a2, a3, a4, a5⟩ := dat_cells hb1
  clear hb1
  go_enter Tryz.func46, Tryz.ntmps46
  go_wp2_with fail
  generalize W.alloc (.cells #[.int .i64 r.k, .int .i32 r.c, .bool r.neg, .slice p.A p.n p.cp, .string r.t, .slice p.B p.m p.cap] 27) = w1 at *
  refine (HB.out _).mono ?_
  rintro e w2 ⟨rfl, k2⟩
  have HB2 := Lib.hid (k2.heap HB1.out (by simp))
  have HK2 := Lib.hid (HK1.out.trans k2)
  clear a0 a1 a2 a3 a4 a5 k2
  obtain ⟨a0, a1, a2, a3, a4, a5⟩ := dat_cells HB2.out
  go_wp2_with fail
  go_ret
  exact ⟨rfl, HK2.out⟩
set_option maxRecDepth 100000 in
set_option maxHeartbeats 4000000 in
theorem plain_A9 (r : Raw) (p : PV) (W : World) (s0 : (r.k == 0) = false) (s1 : (r.k == 1) = false) (s2 : (r.k == 2) = false) (s9 : (r.k == 9) = true) (b : Bool) (HB : Hid (∀ w1 : World, Calls Tryz.prog 74 #[rawV r p, .int .i64 0] w1 (BoolPost b w1))) : Calls Tryz.prog 46 #[rawV r p] W (BoolPost b W) := by
  have hb1 : (W.alloc (.cells #[.int .i64 r.k, .int .i32 r.c, .bool r.neg, .slice p.A p.n p.cp, .string r.t, .slice p.B p.m p.cap] 27)).heap[W.heap.size]? = some (.cells #[.int .i64 r.k, .int .i32 r.c, .bool r.neg, .slice p.A p.n p.cp, .string r.t, .slice p.B p.m p.cap] 27 (0, 0)) := heap_alloc_new W _
  have HB1 := Lib.hid hb1
  have HK1 := Lib.hid (show Keep (fun _ => False) W (W.alloc (.cells #[.int .i64 r.k, .int .i32 r.c, .bool r.neg, .slice p.A p.n p.cp, .string r.t, .slice p.B p.m p.cap] 27)) from (Keep.refl _ _).alloc _)
  obtain ⟨a0, a1, a2, a3, a4, a5⟩ := dat_cells hb1
  clear hb1
  go_enter Tryz.func46, Tryz.ntmps46
  go_wp2_with fail
  generalize W.alloc (.cells #[.int .i64 r.k, .int .i32 r.c, .bool r.neg, .slice p.A p.n p.cp, .string r.t, .slice p.B p.m p.cap] 27) = w1 at *
  refine (HB.out _).mono ?_
  rintro e w2 ⟨rfl, k2⟩
  have HB2 := Lib.hid (k2.heap HB1.out (by simp))
  have HK2 := Lib.hid (HK1.out.trans k2)
  clear a0 a1 a2 a3 a4 a5 k2
  obtain ⟨a0, a1, a2, a3, a4, a5⟩ := dat_cells HB2.out
  go_wp2_with fail
  go_ret
  exact ⟨rfl, HK2.out⟩
set_option maxRecDepth 100000 in
set_option maxHeartbeats 4000000 in
theorem plain_A10 (r : Raw) (p : PV) (W : World) (s0 : (r.k == 0) = false) (s1 : (r.k == 1) = false) (s2 : (r.k == 2) = false) (s9 : (r.k == 9) = false) (s10 : (r.k == 10) = true) (b : Bool) (HB : Hid (∀ w1 : World, Calls Tryz.prog 74 #[rawV r p, .int .i64 0] w1 (BoolPost b w1))) : Calls Tryz.prog 46 #[rawV r p] W (BoolPost b W) := by
  have hb1 : (W.alloc (.cells #[.int .i64 r.k, .int .i32 r.c, .bool r.neg, .slice p.A p.n p.cp, .string r.t, .slice p.B p.m p.cap] 27)).heap[W.heap.size]? = some (.cells #[.int .i64 r.k, .int .i32 r.c, .bool r.neg, .slice p.A p.n p.cp, .string r.t, .slice p.B p.m p.cap] 27 (0, 0)) := heap_alloc_new W _
  have HB1 := Lib.hid hb1
  have HK1 := Lib.hid (show Keep (fun _ => False) W (W.alloc (.cells #[.int .i64 r.k, .int .i32 r.c, .bool r.neg, .slice p.A p.n p.cp, .string r.t, .slice p.B p.m p.cap] 27)) from (Keep.refl _ _).alloc _)
  obtain ⟨a0, a1, a2, a3, a4, a5⟩ := dat_cells hb1
  clear hb1
  go_enter Tryz.func46, Tryz.ntmps46
  go_wp2_with fail
  generalize W.alloc (.cells #[.int .i64 r.k, .int .i32 r.c, .bool r.neg, .slice p.A p.n p.cp, .string r.t, .slice p.B p.m p.cap] 27) = w1 at *
  refine (HB.out _).mono ?_
  rintro e w2 ⟨rfl, k2⟩
  have HB2 := Lib.hid (k2.heap HB1.out (by simp))
  have HK2 := Lib.hid (HK1.out.trans k2)
  clear a0 a1 a2 a3 a4 a5 k2
  obtain ⟨a0, a1, a2, a3, a4, a5⟩ := dat_cells HB2.out
  go_wp2_with fail
  go_ret
  exact ⟨rfl, HK2.out⟩
set_option maxRecDepth 100000 in
set_option maxHeartbeats 4000000 in
theorem plain_Bf (r : Raw) (p : PV) (W : World) (s0 : (r.k == 0) = false) (s1 : (r.k == 1) = false) (s2 : (r.k == 2) = false) (s9 : (r.k == 9) = false) (s10 : (r.k == 10) = false) (s3 : (r.k == 3) = true) (HB : Hid (∀ w1 : World, Calls Tryz.prog 74 #[rawV r p, .int .i64 1] w1 (BoolPost false w1))) : Calls Tryz.prog 46 #[rawV r p] W (BoolPost false W) := by
  have hb1 : (W.alloc (.cells #[.int .i64 r.k, .int .i32 r.c, .bool r.neg, .slice p.A p.n p.cp, .string r.t, .slice p.B p.m p.cap] 27)).heap[W.heap.size]? = some (.cells #[.int .i64 r.k, .int .i32 r.c, .bool r.neg, .slice p.A p.n p.cp, .string r.t, .slice p.B p.m p.cap] 27 (0, 0)) := heap_alloc_new W _
  have HB1 := Lib.hid hb1
  have HK1 := Lib.hid (show Keep (fun _ => False) W (W.alloc (.cells #[.int .i64 r.k, .int .i32 r.c, .bool r.neg, .slice p.A p.n p.cp, .string r.t, .slice p.B p.m p.cap] 27)) from (Keep.refl _ _).alloc _)
  obtain ⟨a0, a1, a2, a3, a4, a5⟩ := dat_cells hb1
  clear hb1
  go_enter Tryz.func46, Tryz.ntmps46
  go_wp2_with fail
  generalize W.alloc (.cells #[.int .i64 r.k, .int .i32 r.c, .bool r.neg, .slice p.A p.n p.cp, .string r.t, .slice p.B p.m p.cap] 27) = w1 at *
  refine (HB.out _).mono ?_
  rintro e w2 ⟨rfl, k2⟩
  have HB2 := Lib.hid (k2.heap HB1.out (by simp))
  have HK2 := Lib.hid (HK1.out.trans k2)
  clear a0 a1 a2 a3 a4 a5 k2
  obtain ⟨a0, a1, a2, a3, a4, a5⟩ := dat_cells HB2.out
  go_wp2_with fail
  go_ret
  exact ⟨rfl, HK2.out⟩
set_option maxRecDepth 100000 in
set_option maxHeartbeats 4000000 in
theorem plain_Bt (r : Raw) (p : PV) (W : World) (s0 : (r.k == 0) = false) (s1 : (r.k == 1) = false) (s2 : (r.k == 2) = false) (s9 : (r.k == 9) = false) (s10 : (r.k == 10) = false) (s3 : (r.k == 3) = true) (b : Bool) (HB : Hid (∀ w1 : World, Calls Tryz.prog 74 #[rawV r p, .int .i64 1] w1 (BoolPost true w1))) (HC : Hid (∀ w1 : World, Calls Tryz.prog 75 #[.int .i32 r.c] w1 (fun e w9 => e = .returned (.bool b) ∧ w1 = w9))) : Calls Tryz.prog 46 #[rawV r p] W (BoolPost b W) := by
  have hb1 : (W.alloc (.cells #[.int .i64 r.k, .int .i32 r.c, .bool r.neg, .slice p.A p.n p.cp, .string r.t, .slice p.B p.m p.cap] 27)).heap[W.heap.size]? = some (.cells #[.int .i64 r.k, .int .i32 r.c, .bool r.neg, .slice p.A p.n p.cp, .string r.t, .slice p.B p.m p.cap] 27 (0, 0)) := heap_alloc_new W _
  have HB1 := Lib.hid hb1
  have HK1 := Lib.hid (show Keep (fun _ => False) W (W.alloc (.cells #[.int .i64 r.k, .int .i32 r.c, .bool r.neg, .slice p.A p.n p.cp, .string r.t, .slice p.B p.m p.cap] 27)) from (Keep.refl _ _).alloc _)
  obtain ⟨a0, a1, a2, a3, a4, a5⟩ := dat_cells hb1
  clear hb1
  go_enter Tryz.func46, Tryz.ntmps46
  go_wp2_with fail
  generalize W.alloc (.cells #[.int .i64 r.k, .int .i32 r.c, .bool r.neg, .slice p.A p.n p.cp, .string r.t, .slice p.B p.m p.cap] 27) = w1 at *
  refine (HB.out _).mono ?_
  rintro e w2 ⟨rfl, k2⟩
  have HB2 := Lib.hid (k2.heap HB1.out (by simp))
  have HK2 := Lib.hid (HK1.out.trans k2)
  clear a0 a1 a2 a3 a4 a5 k2
  obtain ⟨a0, a1, a2, a3, a4, a5⟩ := dat_cells HB2.out
  go_wp2_with fail
  refine (HC.out _).mono ?_
  rintro e w3 ⟨rfl, rfl⟩
  go_wp2_with fail
  go_ret
  exact ⟨rfl, HK2.out⟩
set_option maxRecDepth 100000 in
set_option maxHeartbeats 4000000 in
theorem plain_Cf (r : Raw) (p : PV) (W : World) (s0 : (r.k == 0) = false) (s1 : (r.k == 1) = false) (s2 : (r.k == 2) = false) (s9 : (r.k == 9) = false) (s10 : (r.k == 10) = false) (s3 : (r.k == 3) = false) (s4 : (r.k == 4) = true) (HB : Hid (∀ w1 : World, Calls Tryz.prog 74 #[rawV r p, .int .i64 2] w1 (BoolPost false w1))) : Calls Tryz.prog 46 #[rawV r p] W (BoolPost false W) := by
  have hb1 : (W.alloc (.cells #[.int .i64 r.k, .int .i32 r.c, .bool r.neg, .slice p.A p.n p.cp, .string r.t, .slice p.B p.m p.cap] 27)).heap[W.heap.size]? = some (.cells #[.int .i64 r.k, .int .i32 r.c, .bool r.neg, .slice p.A p.n p.cp, .string r.t, .slice p.B p.m p.cap] 27 (0, 0)) := heap_alloc_new W _
  have HB1 := Lib.hid hb1
  have HK1 := Lib.hid (show Keep (fun _ => False) W (W.alloc (.cells #[.int .i64 r.k, .int .i32 r.c, .bool r.neg, .slice p.A p.n p.cp, .string r.t, .slice p.B p.m p.cap] 27)) from (Keep.refl _ _).alloc _)
  obtain ⟨a0, a1, a2, a3, a4, a5⟩ := dat_cells hb1
  clear hb1
  go_enter Tryz.func46, Tryz.ntmps46
  go_wp2_with fail
  generalize W.alloc (.cells #[.int .i64 r.k, .int .i32 r.c, .bool r.neg, .slice p.A p.n p.cp, .string r.t, .slice p.B p.m p.cap] 27) = w1 at *
  refine (HB.out _).mono ?_
  rintro e w2 ⟨rfl, k2⟩
  have HB2 := Lib.hid (k2.heap HB1.out (by simp))
  have HK2 := Lib.hid (HK1.out.trans k2)
  clear a0 a1 a2 a3 a4 a5 k2
  obtain ⟨a0, a1, a2, a3, a4, a5⟩ := dat_cells HB2.out
  go_wp2_with fail
  go_ret
  exact ⟨rfl, HK2.out⟩
set_option maxRecDepth 100000 in
set_option maxHeartbeats 4000000 in
theorem plain_Ct (r : Raw) (p : PV) (W : World) (s0 : (r.k == 0) = false) (s1 : (r.k == 1) = false) (s2 : (r.k == 2) = false) (s9 : (r.k == 9) = false) (s10 : (r.k == 10) = false) (s3 : (r.k == 3) = false) (s4 : (r.k == 4) = true) (b : Bool) (HB : Hid (∀ w1 : World, Calls Tryz.prog 74 #[rawV r p, .int .i64 2] w1 (BoolPost true w1))) (HC : Hid (∀ w1 : World, Keep (fun _ => False) W w1 → Calls Tryz.prog 76 #[numArg r.neg p.A p.n p.cp] w1 (BoolPost b w1))) : Calls Tryz.prog 46 #[rawV r p] W (BoolPost b W) := by
  have hb1 : (W.alloc (.cells #[.int .i64 r.k, .int .i32 r.c, .bool r.neg, .slice p.A p.n p.cp, .string r.t, .slice p.B p.m p.cap] 27)).heap[W.heap.size]? = some (.cells #[.int .i64 r.k, .int .i32 r.c, .bool r.neg, .slice p.A p.n p.cp, .string r.t, .slice p.B p.m p.cap] 27 (0, 0)) := heap_alloc_new W _
  have HB1 := Lib.hid hb1
  have HK1 := Lib.hid (show Keep (fun _ => False) W (W.alloc (.cells #[.int .i64 r.k, .int .i32 r.c, .bool r.neg, .slice p.A p.n p.cp, .string r.t, .slice p.B p.m p.cap] 27)) from (Keep.refl _ _).alloc _)
  obtain ⟨a0, a1, a2, a3, a4, a5⟩ := dat_cells hb1
  clear hb1
  go_enter Tryz.func46, Tryz.ntmps46
  go_wp2_with fail
  generalize W.alloc (.cells #[.int .i64 r.k, .int .i32 r.c, .bool r.neg, .slice p.A p.n p.cp, .string r.t, .slice p.B p.m p.cap] 27) = w1 at *
  refine (HB.out _).mono ?_
  rintro e w2 ⟨rfl, k2⟩
  have HB2 := Lib.hid (k2.heap HB1.out (by simp))
  have HK2 := Lib.hid (HK1.out.trans k2)
  clear a0 a1 a2 a3 a4 a5 k2
  obtain ⟨a0, a1, a2, a3, a4, a5⟩ := dat_cells HB2.out
  go_wp2_with fail
  refine (HC.out _ HK2.out).mono ?_
  rintro e w3 ⟨rfl, k2⟩
  have HB3 := Lib.hid (k2.heap HB2.out (by simp))
  have HK3 := Lib.hid (HK2.out.trans k2)
  clear a0 a1 a2 a3 a4 a5 k2
  obtain ⟨a0, a1, a2, a3, a4, a5⟩ := dat_cells HB3.out
  go_wp2_with fail
  go_ret
  exact ⟨rfl, HK3.out⟩
set_option maxRecDepth 100000 in
set_option maxHeartbeats 4000000 in
theorem plain_D5nf (r : Raw) (p : PV) (W : World) (s0 : (r.k == 0) = false) (s1 : (r.k == 1) = false) (s2 : (r.k == 2) = false) (s9 : (r.k == 9) = false) (s10 : (r.k == 10) = false) (s3 : (r.k == 3) = false) (s4 : (r.k == 4) = false) (s5 : (r.k == 5) = true) (HR : Hid (∀ w1 : World, Calls Tryz.prog 63 #[.string r.t] w1 (fun e w9 => e = .returned (.tuple #[.slice none 0 0, .bool false]) ∧ Keep (fun _ => False) w1 w9))) (HB : Hid (∀ w1 : World, Calls Tryz.prog 74 #[rawV r p, .int .i64 4] w1 (BoolPost false w1)))  : Calls Tryz.prog 46 #[rawV r p] W (BoolPost false W) := by
  have hb1 : (W.alloc (.cells #[.int .i64 r.k, .int .i32 r.c, .bool r.neg, .slice p.A p.n p.cp, .string r.t, .slice p.B p.m p.cap] 27)).heap[W.heap.size]? = some (.cells #[.int .i64 r.k, .int .i32 r.c, .bool r.neg, .slice p.A p.n p.cp, .string r.t, .slice p.B p.m p.cap] 27 (0, 0)) := heap_alloc_new W _
  have HB1 := Lib.hid hb1
  have HK1 := Lib.hid (show Keep (fun _ => False) W (W.alloc (.cells #[.int .i64 r.k, .int .i32 r.c, .bool r.neg, .slice p.A p.n p.cp, .string r.t, .slice p.B p.m p.cap] 27)) from (Keep.refl _ _).alloc _)
  obtain ⟨a0, a1, a2, a3, a4, a5⟩ := dat_cells hb1
  clear hb1
  go_enter Tryz.func46, Tryz.ntmps46
  go_wp2_with fail
  generalize W.alloc (.cells #[.int .i64 r.k, .int .i32 r.c, .bool r.neg, .slice p.A p.n p.cp, .string r.t, .slice p.B p.m p.cap] 27) = w1 at *
  refine (HR.out _).mono ?_
  rintro e w2 ⟨rfl, k2⟩
  have HB2 := Lib.hid (k2.heap HB1.out (by simp))
  have HK2 := Lib.hid (HK1.out.trans k2)
  clear a0 a1 a2 a3 a4 a5 k2
  obtain ⟨a0, a1, a2, a3, a4, a5⟩ := dat_cells HB2.out
  go_wp2_with fail
  refine (HB.out _).mono ?_
  rintro e w3 ⟨rfl, k2⟩
  have HB3 := Lib.hid (k2.heap HB2.out (by simp))
  have HK3 := Lib.hid (HK2.out.trans k2)
  clear a0 a1 a2 a3 a4 a5 k2
  obtain ⟨a0, a1, a2, a3, a4, a5⟩ := dat_cells HB3.out
  go_wp2_with fail
  go_ret
  exact ⟨rfl, HK3.out⟩
set_option maxRecDepth 100000 in
set_option maxHeartbeats 4000000 in
theorem plain_D5nt (r : Raw) (p : PV) (W : World) (s0 : (r.k == 0) = false) (s1 : (r.k == 1) = false) (s2 : (r.k == 2) = false) (s9 : (r.k == 9) = false) (s10 : (r.k == 10) = false) (s3 : (r.k == 3) = false) (s4 : (r.k == 4) = false) (s5 : (r.k == 5) = true) (HR : Hid (∀ w1 : World, Calls Tryz.prog 63 #[.string r.t] w1 (fun e w9 => e = .returned (.tuple #[.slice none 0 0, .bool false]) ∧ Keep (fun _ => False) w1 w9))) (HB : Hid (∀ w1 : World, Calls Tryz.prog 74 #[rawV r p, .int .i64 4] w1 (BoolPost true w1)))  : Calls Tryz.prog 46 #[rawV r p] W (BoolPost false W) := by
  have hb1 : (W.alloc (.cells #[.int .i64 r.k, .int .i32 r.c, .bool r.neg, .slice p.A p.n p.cp, .string r.t, .slice p.B p.m p.cap] 27)).heap[W.heap.size]? = some (.cells #[.int .i64 r.k, .int .i32 r.c, .bool r.neg, .slice p.A p.n p.cp, .string r.t, .slice p.B p.m p.cap] 27 (0, 0)) := heap_alloc_new W _
  have HB1 := Lib.hid hb1
  have HK1 := Lib.hid (show Keep (fun _ => False) W (W.alloc (.cells #[.int .i64 r.k, .int .i32 r.c, .bool r.neg, .slice p.A p.n p.cp, .string r.t, .slice p.B p.m p.cap] 27)) from (Keep.refl _ _).alloc _)
  obtain ⟨a0, a1, a2, a3, a4, a5⟩ := dat_cells hb1
  clear hb1
  go_enter Tryz.func46, Tryz.ntmps46
  go_wp2_with fail
  generalize W.alloc (.cells #[.int .i64 r.k, .int .i32 r.c, .bool r.neg, .slice p.A p.n p.cp, .string r.t, .slice p.B p.m p.cap] 27) = w1 at *
  refine (HR.out _).mono ?_
  rintro e w2 ⟨rfl, k2⟩
  have HB2 := Lib.hid (k2.heap HB1.out (by simp))
  have HK2 := Lib.hid (HK1.out.trans k2)
  clear a0 a1 a2 a3 a4 a5 k2
  obtain ⟨a0, a1, a2, a3, a4, a5⟩ := dat_cells HB2.out
  go_wp2_with fail
  refine (HB.out _).mono ?_
  rintro e w3 ⟨rfl, k2⟩
  have HB3 := Lib.hid (k2.heap HB2.out (by simp))
  have HK3 := Lib.hid (HK2.out.trans k2)
  clear a0 a1 a2 a3 a4 a5 k2
  obtain ⟨a0, a1, a2, a3, a4, a5⟩ := dat_cells HB3.out
  go_wp2_with fail
  go_ret
  exact ⟨rfl, HK3.out⟩
set_option maxRecDepth 100000 in
set_option maxHeartbeats 4000000 in
theorem plain_D5sf (r : Raw) (p : PV) (W : World) (s0 : (r.k == 0) = false) (s1 : (r.k == 1) = false) (s2 : (r.k == 2) = false) (s9 : (r.k == 9) = false) (s10 : (r.k == 10) = false) (s3 : (r.k == 3) = false) (s4 : (r.k == 4) = false) (s5 : (r.k == 5) = true) (n : Nat) (HR : Hid (∀ w1 : World, Calls Tryz.prog 63 #[.string r.t] w1 (fun e w9 => (∃ A c, e = .returned (.tuple #[.slice A n c, .bool true])) ∧ Keep (fun _ => False) w1 w9))) (HB : Hid (∀ w1 : World, Calls Tryz.prog 74 #[rawV r p, .int .i64 4] w1 (BoolPost false w1)))  : Calls Tryz.prog 46 #[rawV r p] W (BoolPost false W) := by
  have hb1 : (W.alloc (.cells #[.int .i64 r.k, .int .i32 r.c, .bool r.neg, .slice p.A p.n p.cp, .string r.t, .slice p.B p.m p.cap] 27)).heap[W.heap.size]? = some (.cells #[.int .i64 r.k, .int .i32 r.c, .bool r.neg, .slice p.A p.n p.cp, .string r.t, .slice p.B p.m p.cap] 27 (0, 0)) := heap_alloc_new W _
  have HB1 := Lib.hid hb1
  have HK1 := Lib.hid (show Keep (fun _ => False) W (W.alloc (.cells #[.int .i64 r.k, .int .i32 r.c, .bool r.neg, .slice p.A p.n p.cp, .string r.t, .slice p.B p.m p.cap] 27)) from (Keep.refl _ _).alloc _)
  obtain ⟨a0, a1, a2, a3, a4, a5⟩ := dat_cells hb1
  clear hb1
  go_enter Tryz.func46, Tryz.ntmps46
  go_wp2_with fail
  generalize W.alloc (.cells #[.int .i64 r.k, .int .i32 r.c, .bool r.neg, .slice p.A p.n p.cp, .string r.t, .slice p.B p.m p.cap] 27) = w1 at *
  refine (HR.out _).mono ?_
  rintro e w2 ⟨⟨A, c, rfl⟩, k2⟩
  have HB2 := Lib.hid (k2.heap HB1.out (by simp))
  have HK2 := Lib.hid (HK1.out.trans k2)
  clear a0 a1 a2 a3 a4 a5 k2
  obtain ⟨a0, a1, a2, a3, a4, a5⟩ := dat_cells HB2.out
  go_wp2_with fail
  refine (HB.out _).mono ?_
  rintro e w3 ⟨rfl, k2⟩
  have HB3 := Lib.hid (k2.heap HB2.out (by simp))
  have HK3 := Lib.hid (HK2.out.trans k2)
  clear a0 a1 a2 a3 a4 a5 k2
  obtain ⟨a0, a1, a2, a3, a4, a5⟩ := dat_cells HB3.out
  go_wp2_with fail
  go_ret
  exact ⟨rfl, HK3.out⟩
set_option maxRecDepth 100000 in
set_option maxHeartbeats 4000000 in
theorem plain_D5stL (r : Raw) (p : PV) (W : World) (s0 : (r.k == 0) = false) (s1 : (r.k == 1) = false) (s2 : (r.k == 2) = false) (s9 : (r.k == 9) = false) (s10 : (r.k == 10) = false) (s3 : (r.k == 3) = false) (s4 : (r.k == 4) = false) (s5 : (r.k == 5) = true) (n : Nat) (HR : Hid (∀ w1 : World, Calls Tryz.prog 63 #[.string r.t] w1 (fun e w9 => (∃ A c, e = .returned (.tuple #[.slice A n c, .bool true])) ∧ Keep (fun _ => False) w1 w9))) (HB : Hid (∀ w1 : World, Calls Tryz.prog 74 #[rawV r p, .int .i64 4] w1 (BoolPost true w1))) (hL : decide ((n : Int) ≤ 62) = false) : Calls Tryz.prog 46 #[rawV r p] W (BoolPost false W) := by
  have hb1 : (W.alloc (.cells #[.int .i64 r.k, .int .i32 r.c, .bool r.neg, .slice p.A p.n p.cp, .string r.t, .slice p.B p.m p.cap] 27)).heap[W.heap.size]? = some (.cells #[.int .i64 r.k, .int .i32 r.c, .bool r.neg, .slice p.A p.n p.cp, .string r.t, .slice p.B p.m p.cap] 27 (0, 0)) := heap_alloc_new W _
  have HB1 := Lib.hid hb1
  have HK1 := Lib.hid (show Keep (fun _ => False) W (W.alloc (.cells #[.int .i64 r.k, .int .i32 r.c, .bool r.neg, .slice p.A p.n p.cp, .string r.t, .slice p.B p.m p.cap] 27)) from (Keep.refl _ _).alloc _)
  obtain ⟨a0, a1, a2, a3, a4, a5⟩ := dat_cells hb1
  clear hb1
  go_enter Tryz.func46, Tryz.ntmps46
  go_wp2_with fail
  generalize W.alloc (.cells #[.int .i64 r.k, .int .i32 r.c, .bool r.neg, .slice p.A p.n p.cp, .string r.t, .slice p.B p.m p.cap] 27) = w1 at *
  refine (HR.out _).mono ?_
  rintro e w2 ⟨⟨A, c, rfl⟩, k2⟩
  have HB2 := Lib.hid (k2.heap HB1.out (by simp))
  have HK2 := Lib.hid (HK1.out.trans k2)
  clear a0 a1 a2 a3 a4 a5 k2
  obtain ⟨a0, a1, a2, a3, a4, a5⟩ := dat_cells HB2.out
  go_wp2_with fail
  refine (HB.out _).mono ?_
  rintro e w3 ⟨rfl, k2⟩
  have HB3 := Lib.hid (k2.heap HB2.out (by simp))
  have HK3 := Lib.hid (HK2.out.trans k2)
  clear a0 a1 a2 a3 a4 a5 k2
  obtain ⟨a0, a1, a2, a3, a4, a5⟩ := dat_cells HB3.out
  go_wp2_with fail
  go_ret
  exact ⟨rfl, HK3.out⟩
set_option maxRecDepth 100000 in
set_option maxHeartbeats 4000000 in
theorem plain_D5stY (r : Raw) (p : PV) (W : World) (s0 : (r.k == 0) = false) (s1 : (r.k == 1) = false) (s2 : (r.k == 2) = false) (s9 : (r.k == 9) = false) (s10 : (r.k == 10) = false) (s3 : (r.k == 3) = false) (s4 : (r.k == 4) = false) (s5 : (r.k == 5) = true) (n : Nat) (HR : Hid (∀ w1 : World, Calls Tryz.prog 63 #[.string r.t] w1 (fun e w9 => (∃ A c, e = .returned (.tuple #[.slice A n c, .bool true])) ∧ Keep (fun _ => False) w1 w9))) (HB : Hid (∀ w1 : World, Calls Tryz.prog 74 #[rawV r p, .int .i64 4] w1 (BoolPost true w1))) (hL : (n : Int) ≤ 62) : Calls Tryz.prog 46 #[rawV r p] W (BoolPost true W) := by
  have hb1 : (W.alloc (.cells #[.int .i64 r.k, .int .i32 r.c, .bool r.neg, .slice p.A p.n p.cp, .string r.t, .slice p.B p.m p.cap] 27)).heap[W.heap.size]? = some (.cells #[.int .i64 r.k, .int .i32 r.c, .bool r.neg, .slice p.A p.n p.cp, .string r.t, .slice p.B p.m p.cap] 27 (0, 0)) := heap_alloc_new W _
  have HB1 := Lib.hid hb1
  have HK1 := Lib.hid (show Keep (fun _ => False) W (W.alloc (.cells #[.int .i64 r.k, .int .i32 r.c, .bool r.neg, .slice p.A p.n p.cp, .string r.t, .slice p.B p.m p.cap] 27)) from (Keep.refl _ _).alloc _)
  obtain ⟨a0, a1, a2, a3, a4, a5⟩ := dat_cells hb1
  clear hb1
  go_enter Tryz.func46, Tryz.ntmps46
  go_wp2_with fail
  generalize W.alloc (.cells #[.int .i64 r.k, .int .i32 r.c, .bool r.neg, .slice p.A p.n p.cp, .string r.t, .slice p.B p.m p.cap] 27) = w1 at *
  refine (HR.out _).mono ?_
  rintro e w2 ⟨⟨A, c, rfl⟩, k2⟩
  have HB2 := Lib.hid (k2.heap HB1.out (by simp))
  have HK2 := Lib.hid (HK1.out.trans k2)
  clear a0 a1 a2 a3 a4 a5 k2
  obtain ⟨a0, a1, a2, a3, a4, a5⟩ := dat_cells HB2.out
  go_wp2_with fail
  refine (HB.out _).mono ?_
  rintro e w3 ⟨rfl, k2⟩
  have HB3 := Lib.hid (k2.heap HB2.out (by simp))
  have HK3 := Lib.hid (HK2.out.trans k2)
  clear a0 a1 a2 a3 a4 a5 k2
  obtain ⟨a0, a1, a2, a3, a4, a5⟩ := dat_cells HB3.out
  go_wp2_with fail
  go_ret
  exact ⟨rfl, HK3.out⟩
set_option maxRecDepth 100000 in
set_option maxHeartbeats 4000000 in
theorem plain_D6nf (r : Raw) (p : PV) (W : World) (s0 : (r.k == 0) = false) (s1 : (r.k == 1) = false) (s2 : (r.k == 2) = false) (s9 : (r.k == 9) = false) (s10 : (r.k == 10) = false) (s3 : (r.k == 3) = false) (s4 : (r.k == 4) = false) (s5 : (r.k == 5) = false) (s6 : (r.k == 6) = true) (HR : Hid (∀ w1 : World, Calls Tryz.prog 63 #[.string r.t] w1 (fun e w9 => e = .returned (.tuple #[.slice none 0 0, .bool false]) ∧ Keep (fun _ => False) w1 w9))) (HB : Hid (∀ w1 : World, Calls Tryz.prog 74 #[rawV r p, .int .i64 4] w1 (BoolPost false w1)))  : Calls Tryz.prog 46 #[rawV r p] W (BoolPost false W) := by
  have hb1 : (W.alloc (.cells #[.int .i64 r.k, .int .i32 r.c, .bool r.neg, .slice p.A p.n p.cp, .string r.t, .slice p.B p.m p.cap] 27)).heap[W.heap.size]? = some (.cells #[.int .i64 r.k, .int .i32 r.c, .bool r.neg, .slice p.A p.n p.cp, .string r.t, .slice p.B p.m p.cap] 27 (0, 0)) := heap_alloc_new W _
  have HB1 := Lib.hid hb1
  have HK1 := Lib.hid (show Keep (fun _ => False) W (W.alloc (.cells #[.int .i64 r.k, .int .i32 r.c, .bool r.neg, .slice p.A p.n p.cp, .string r.t, .slice p.B p.m p.cap] 27)) from (Keep.refl _ _).alloc _)
  obtain ⟨a0, a1, a2, a3, a4, a5⟩ := dat_cells hb1
  clear hb1
  go_enter Tryz.func46, Tryz.ntmps46
  go_wp2_with fail
  generalize W.alloc (.cells #[.int .i64 r.k, .int .i32 r.c, .bool r.neg, .slice p.A p.n p.cp, .string r.t, .slice p.B p.m p.cap] 27) = w1 at *
  refine (HR.out _).mono ?_
  rintro e w2 ⟨rfl, k2⟩
  have HB2 := Lib.hid (k2.heap HB1.out (by simp))
  have HK2 := Lib.hid (HK1.out.trans k2)
  clear a0 a1 a2 a3 a4 a5 k2
  obtain ⟨a0, a1, a2, a3, a4, a5⟩ := dat_cells HB2.out
  go_wp2_with fail
  refine (HB.out _).mono ?_
  rintro e w3 ⟨rfl, k2⟩
  have HB3 := Lib.hid (k2.heap HB2.out (by simp))
  have HK3 := Lib.hid (HK2.out.trans k2)
  clear a0 a1 a2 a3 a4 a5 k2
  obtain ⟨a0, a1, a2, a3, a4, a5⟩ := dat_cells HB3.out
  go_wp2_with fail
  go_ret
  exact ⟨rfl, HK3.out⟩
set_option maxRecDepth 100000 in
set_option maxHeartbeats 4000000 in
theorem plain_D6nt (r : Raw) (p : PV) (W : World) (s0 : (r.k == 0) = false) (s1 : (r.k == 1) = false) (s2 : (r.k == 2) = false) (s9 : (r.k == 9) = false) (s10 : (r.k == 10) = false) (s3 : (r.k == 3) = false) (s4 : (r.k == 4) = false) (s5 : (r.k == 5) = false) (s6 : (r.k == 6) = true) (HR : Hid (∀ w1 : World, Calls Tryz.prog 63 #[.string r.t] w1 (fun e w9 => e = .returned (.tuple #[.slice none 0 0, .bool false]) ∧ Keep (fun _ => False) w1 w9))) (HB : Hid (∀ w1 : World, Calls Tryz.prog 74 #[rawV r p, .int .i64 4] w1 (BoolPost true w1)))  : Calls Tryz.prog 46 #[rawV r p] W (BoolPost false W) := by
  have hb1 : (W.alloc (.cells #[.int .i64 r.k, .int .i32 r.c, .bool r.neg, .slice p.A p.n p.cp, .string r.t, .slice p.B p.m p.cap] 27)).heap[W.heap.size]? = some (.cells #[.int .i64 r.k, .int .i32 r.c, .bool r.neg, .slice p.A p.n p.cp, .string r.t, .slice p.B p.m p.cap] 27 (0, 0)) := heap_alloc_new W _
  have HB1 := Lib.hid hb1
  have HK1 := Lib.hid (show Keep (fun _ => False) W (W.alloc (.cells #[.int .i64 r.k, .int .i32 r.c, .bool r.neg, .slice p.A p.n p.cp, .string r.t, .slice p.B p.m p.cap] 27)) from (Keep.refl _ _).alloc _)
  obtain ⟨a0, a1, a2, a3, a4, a5⟩ := dat_cells hb1
  clear hb1
  go_enter Tryz.func46, Tryz.ntmps46
  go_wp2_with fail
  generalize W.alloc (.cells #[.int .i64 r.k, .int .i32 r.c, .bool r.neg, .slice p.A p.n p.cp, .string r.t, .slice p.B p.m p.cap] 27) = w1 at *
  refine (HR.out _).mono ?_
  rintro e w2 ⟨rfl, k2⟩
  have HB2 := Lib.hid (k2.heap HB1.out (by simp))
  have HK2 := Lib.hid (HK1.out.trans k2)
  clear a0 a1 a2 a3 a4 a5 k2
  obtain ⟨a0, a1, a2, a3, a4, a5⟩ := dat_cells HB2.out
  go_wp2_with fail
  refine (HB.out _).mono ?_
  rintro e w3 ⟨rfl, k2⟩
  have HB3 := Lib.hid (k2.heap HB2.out (by simp))
  have HK3 := Lib.hid (HK2.out.trans k2)
  clear a0 a1 a2 a3 a4 a5 k2
  obtain ⟨a0, a1, a2, a3, a4, a5⟩ := dat_cells HB3.out
  go_wp2_with fail
  go_ret
  exact ⟨rfl, HK3.out⟩
set_option maxRecDepth 100000 in
set_option maxHeartbeats 4000000 in
theorem plain_D6sf (r : Raw) (p : PV) (W : World) (s0 : (r.k == 0) = false) (s1 : (r.k == 1) = false) (s2 : (r.k == 2) = false) (s9 : (r.k == 9) = false) (s10 : (r.k == 10) = false) (s3 : (r.k == 3) = false) (s4 : (r.k == 4) = false) (s5 : (r.k == 5) = false) (s6 : (r.k == 6) = true) (n : Nat) (HR : Hid (∀ w1 : World, Calls Tryz.prog 63 #[.string r.t] w1 (fun e w9 => (∃ A c, e = .returned (.tuple #[.slice A n c, .bool true])) ∧ Keep (fun _ => False) w1 w9))) (HB : Hid (∀ w1 : World, Calls Tryz.prog 74 #[rawV r p, .int .i64 4] w1 (BoolPost false w1)))  : Calls Tryz.prog 46 #[rawV r p] W (BoolPost false W) := by
  have hb1 : (W.alloc (.cells #[.int .i64 r.k, .int .i32 r.c, .bool r.neg, .slice p.A p.n p.cp, .string r.t, .slice p.B p.m p.cap] 27)).heap[W.heap.size]? = some (.cells #[.int .i64 r.k, .int .i32 r.c, .bool r.neg, .slice p.A p.n p.cp, .string r.t, .slice p.B p.m p.cap] 27 (0, 0)) := heap_alloc_new W _
  have HB1 := Lib.hid hb1
  have HK1 := Lib.hid (show Keep (fun _ => False) W (W.alloc (.cells #[.int .i64 r.k, .int .i32 r.c, .bool r.neg, .slice p.A p.n p.cp, .string r.t, .slice p.B p.m p.cap] 27)) from (Keep.refl _ _).alloc _)
  obtain ⟨a0, a1, a2, a3, a4, a5⟩ := dat_cells hb1
  clear hb1
  go_enter Tryz.func46, Tryz.ntmps46
  go_wp2_with fail
  generalize W.alloc (.cells #[.int .i64 r.k, .int .i32 r.c, .bool r.neg, .slice p.A p.n p.cp, .string r.t, .slice p.B p.m p.cap] 27) = w1 at *
  refine (HR.out _).mono ?_
  rintro e w2 ⟨⟨A, c, rfl⟩, k2⟩
  have HB2 := Lib.hid (k2.heap HB1.out (by simp))
  have HK2 := Lib.hid (HK1.out.trans k2)
  clear a0 a1 a2 a3 a4 a5 k2
  obtain ⟨a0, a1, a2, a3, a4, a5⟩ := dat_cells HB2.out
  go_wp2_with fail
  refine (HB.out _).mono ?_
  rintro e w3 ⟨rfl, k2⟩
  have HB3 := Lib.hid (k2.heap HB2.out (by simp))
  have HK3 := Lib.hid (HK2.out.trans k2)
  clear a0 a1 a2 a3 a4 a5 k2
  obtain ⟨a0, a1, a2, a3, a4, a5⟩ := dat_cells HB3.out
  go_wp2_with fail
  go_ret
  exact ⟨rfl, HK3.out⟩
set_option maxRecDepth 100000 in
set_option maxHeartbeats 4000000 in
theorem plain_D6stL (r : Raw) (p : PV) (W : World) (s0 : (r.k == 0) = false) (s1 : (r.k == 1) = false) (s2 : (r.k == 2) = false) (s9 : (r.k == 9) = false) (s10 : (r.k == 10) = false) (s3 : (r.k == 3) = false) (s4 : (r.k == 4) = false) (s5 : (r.k == 5) = false) (s6 : (r.k == 6) = true) (n : Nat) (HR : Hid (∀ w1 : World, Calls Tryz.prog 63 #[.string r.t] w1 (fun e w9 => (∃ A c, e = .returned (.tuple #[.slice A n c, .bool true])) ∧ Keep (fun _ => False) w1 w9))) (HB : Hid (∀ w1 : World, Calls Tryz.prog 74 #[rawV r p, .int .i64 4] w1 (BoolPost true w1))) (hL : decide ((n : Int) ≤ 62) = false) : Calls Tryz.prog 46 #[rawV r p] W (BoolPost false W) := by
  have hb1 : (W.alloc (.cells #[.int .i64 r.k, .int .i32 r.c, .bool r.neg, .slice p.A p.n p.cp, .string r.t, .slice p.B p.m p.cap] 27)).heap[W.heap.size]? = some (.cells #[.int .i64 r.k, .int .i32 r.c, .bool r.neg, .slice p.A p.n p.cp, .string r.t, .slice p.B p.m p.cap] 27 (0, 0)) := heap_alloc_new W _
  have HB1 := Lib.hid hb1
  have HK1 := Lib.hid (show Keep (fun _ => False) W (W.alloc (.cells #[.int .i64 r.k, .int .i32 r.c, .bool r.neg, .slice p.A p.n p.cp, .string r.t, .slice p.B p.m p.cap] 27)) from (Keep.refl _ _).alloc _)
  obtain ⟨a0, a1, a2, a3, a4, a5⟩ := dat_cells hb1
  clear hb1
  go_enter Tryz.func46, Tryz.ntmps46
  go_wp2_with fail
  generalize W.alloc (.cells #[.int .i64 r.k, .int .i32 r.c, .bool r.neg, .slice p.A p.n p.cp, .string r.t, .slice p.B p.m p.cap] 27) = w1 at *
  refine (HR.out _).mono ?_
  rintro e w2 ⟨⟨A, c, rfl⟩, k2⟩
  have HB2 := Lib.hid (k2.heap HB1.out (by simp))
  have HK2 := Lib.hid (HK1.out.trans k2)
  clear a0 a1 a2 a3 a4 a5 k2
  obtain ⟨a0, a1, a2, a3, a4, a5⟩ := dat_cells HB2.out
  go_wp2_with fail
  refine (HB.out _).mono ?_
  rintro e w3 ⟨rfl, k2⟩
  have HB3 := Lib.hid (k2.heap HB2.out (by simp))
  have HK3 := Lib.hid (HK2.out.trans k2)
  clear a0 a1 a2 a3 a4 a5 k2
  obtain ⟨a0, a1, a2, a3, a4, a5⟩ := dat_cells HB3.out
  go_wp2_with fail
  go_ret
  exact ⟨rfl, HK3.out⟩
set_option maxRecDepth 100000 in
set_option maxHeartbeats 4000000 in
theorem plain_D6stZ (r : Raw) (p : PV) (W : World) (s0 : (r.k == 0) = false) (s1 : (r.k == 1) = false) (s2 : (r.k == 2) = false) (s9 : (r.k == 9) = false) (s10 : (r.k == 10) = false) (s3 : (r.k == 3) = false) (s4 : (r.k == 4) = false) (s5 : (r.k == 5) = false) (s6 : (r.k == 6) = true) (n : Nat) (HR : Hid (∀ w1 : World, Calls Tryz.prog 63 #[.string r.t] w1 (fun e w9 => (∃ A c, e = .returned (.tuple #[.slice A n c, .bool true])) ∧ Keep (fun _ => False) w1 w9))) (HB : Hid (∀ w1 : World, Calls Tryz.prog 74 #[rawV r p, .int .i64 4] w1 (BoolPost true w1))) (hL : (n : Int) ≤ 62) (h0 : decide (0 < n) = false) : Calls Tryz.prog 46 #[rawV r p] W (BoolPost false W) := by
  have hb1 : (W.alloc (.cells #[.int .i64 r.k, .int .i32 r.c, .bool r.neg, .slice p.A p.n p.cp, .string r.t, .slice p.B p.m p.cap] 27)).heap[W.heap.size]? = some (.cells #[.int .i64 r.k, .int .i32 r.c, .bool r.neg, .slice p.A p.n p.cp, .string r.t, .slice p.B p.m p.cap] 27 (0, 0)) := heap_alloc_new W _
  have HB1 := Lib.hid hb1
  have HK1 := Lib.hid (show Keep (fun _ => False) W (W.alloc (.cells #[.int .i64 r.k, .int .i32 r.c, .bool r.neg, .slice p.A p.n p.cp, .string r.t, .slice p.B p.m p.cap] 27)) from (Keep.refl _ _).alloc _)
  obtain ⟨a0, a1, a2, a3, a4, a5⟩ := dat_cells hb1
  clear hb1
  go_enter Tryz.func46, Tryz.ntmps46
  go_wp2_with fail
  generalize W.alloc (.cells #[.int .i64 r.k, .int .i32 r.c, .bool r.neg, .slice p.A p.n p.cp, .string r.t, .slice p.B p.m p.cap] 27) = w1 at *
  refine (HR.out _).mono ?_
  rintro e w2 ⟨⟨A, c, rfl⟩, k2⟩
  have HB2 := Lib.hid (k2.heap HB1.out (by simp))
  have HK2 := Lib.hid (HK1.out.trans k2)
  clear a0 a1 a2 a3 a4 a5 k2
  obtain ⟨a0, a1, a2, a3, a4, a5⟩ := dat_cells HB2.out
  go_wp2_with fail
  refine (HB.out _).mono ?_
  rintro e w3 ⟨rfl, k2⟩
  have HB3 := Lib.hid (k2.heap HB2.out (by simp))
  have HK3 := Lib.hid (HK2.out.trans k2)
  clear a0 a1 a2 a3 a4 a5 k2
  obtain ⟨a0, a1, a2, a3, a4, a5⟩ := dat_cells HB3.out
  go_wp2_with fail
  go_ret
  exact ⟨rfl, HK3.out⟩
set_option maxRecDepth 100000 in
set_option maxHeartbeats 4000000 in
theorem plain_D6stY (r : Raw) (p : PV) (W : World) (s0 : (r.k == 0) = false) (s1 : (r.k == 1) = false) (s2 : (r.k == 2) = false) (s9 : (r.k == 9) = false) (s10 : (r.k == 10) = false) (s3 : (r.k == 3) = false) (s4 : (r.k == 4) = false) (s5 : (r.k == 5) = false) (s6 : (r.k == 6) = true) (n : Nat) (HR : Hid (∀ w1 : World, Calls Tryz.prog 63 #[.string r.t] w1 (fun e w9 => (∃ A c, e = .returned (.tuple #[.slice A n c, .bool true])) ∧ Keep (fun _ => False) w1 w9))) (HB : Hid (∀ w1 : World, Calls Tryz.prog 74 #[rawV r p, .int .i64 4] w1 (BoolPost true w1))) (hL : (n : Int) ≤ 62) (h0 : decide (0 < n) = true) : Calls Tryz.prog 46 #[rawV r p] W (BoolPost true W) := by
  have hb1 : (W.alloc (.cells #[.int .i64 r.k, .int .i32 r.c, .bool r.neg, .slice p.A p.n p.cp, .string r.t, .slice p.B p.m p.cap] 27)).heap[W.heap.size]? = some (.cells #[.int .i64 r.k, .int .i32 r.c, .bool r.neg, .slice p.A p.n p.cp, .string r.t, .slice p.B p.m p.cap] 27 (0, 0)) := heap_alloc_new W _
  have HB1 := Lib.hid hb1
  have HK1 := Lib.hid (show Keep (fun _ => False) W (W.alloc (.cells #[.int .i64 r.k, .int .i32 r.c, .bool r.neg, .slice p.A p.n p.cp, .string r.t, .slice p.B p.m p.cap] 27)) from (Keep.refl _ _).alloc _)
  obtain ⟨a0, a1, a2, a3, a4, a5⟩ := dat_cells hb1
  clear hb1
  go_enter Tryz.func46, Tryz.ntmps46
  go_wp2_with fail
  generalize W.alloc (.cells #[.int .i64 r.k, .int .i32 r.c, .bool r.neg, .slice p.A p.n p.cp, .string r.t, .slice p.B p.m p.cap] 27) = w1 at *
  refine (HR.out _).mono ?_
  rintro e w2 ⟨⟨A, c, rfl⟩, k2⟩
  have HB2 := Lib.hid (k2.heap HB1.out (by simp))
  have HK2 := Lib.hid (HK1.out.trans k2)
  clear a0 a1 a2 a3 a4 a5 k2
  obtain ⟨a0, a1, a2, a3, a4, a5⟩ := dat_cells HB2.out
  go_wp2_with fail
  refine (HB.out _).mono ?_
  rintro e w3 ⟨rfl, k2⟩
  have HB3 := Lib.hid (k2.heap HB2.out (by simp))
  have HK3 := Lib.hid (HK2.out.trans k2)
  clear a0 a1 a2 a3 a4 a5 k2
  obtain ⟨a0, a1, a2, a3, a4, a5⟩ := dat_cells HB3.out
  go_wp2_with fail
  go_ret
  exact ⟨rfl, HK3.out⟩
set_option maxRecDepth 100000 in
set_option maxHeartbeats 4000000 in
theorem plain_E7f (r : Raw) (p : PV) (W : World) (s0 : (r.k == 0) = false) (s1 : (r.k == 1) = false) (s2 : (r.k == 2) = false) (s9 : (r.k == 9) = false) (s10 : (r.k == 10) = false) (s3 : (r.k == 3) = false) (s4 : (r.k == 4) = false) (s5 : (r.k == 5) = false) (s6 : (r.k == 6) = false) (s7 : (r.k == 7) = true) (HB : Hid (∀ w1 : World, Calls Tryz.prog 74 #[rawV r p, .int .i64 8] w1 (BoolPost false w1))) : Calls Tryz.prog 46 #[rawV r p] W (BoolPost false W) := by
  have hb1 : (W.alloc (.cells #[.int .i64 r.k, .int .i32 r.c, .bool r.neg, .slice p.A p.n p.cp, .string r.t, .slice p.B p.m p.cap] 27)).heap[W.heap.size]? = some (.cells #[.int .i64 r.k, .int .i32 r.c, .bool r.neg, .slice p.A p.n p.cp, .string r.t, .slice p.B p.m p.cap] 27 (0, 0)) := heap_alloc_new W _
  have HB1 := Lib.hid hb1
  have HK1 := Lib.hid (show Keep (fun _ => False) W (W.alloc (.cells #[.int .i64 r.k, .int .i32 r.c, .bool r.neg, .slice p.A p.n p.cp, .string r.t, .slice p.B p.m p.cap] 27)) from (Keep.refl _ _).alloc _)
  obtain ⟨a0, a1, a2, a3, a4, a5⟩ := dat_cells hb1
  clear hb1
  go_enter Tryz.func46, Tryz.ntmps46
  go_wp2_with fail
  generalize W.alloc (.cells #[.int .i64 r.k, .int .i32 r.c, .bool r.neg, .slice p.A p.n p.cp, .string r.t, .slice p.B p.m p.cap] 27) = w1 at *
  refine (HB.out _).mono ?_
  rintro e w2 ⟨rfl, k2⟩
  have HB2 := Lib.hid (k2.heap HB1.out (by simp))
  have HK2 := Lib.hid (HK1.out.trans k2)
  clear a0 a1 a2 a3 a4 a5 k2
  obtain ⟨a0, a1, a2, a3, a4, a5⟩ := dat_cells HB2.out
  go_wp2_with fail
  go_ret
  exact ⟨rfl, HK2.out⟩
set_option maxRecDepth 100000 in
set_option maxHeartbeats 4000000 in
theorem plain_E8f (r : Raw) (p : PV) (W : World) (s0 : (r.k == 0) = false) (s1 : (r.k == 1) = false) (s2 : (r.k == 2) = false) (s9 : (r.k == 9) = false) (s10 : (r.k == 10) = false) (s3 : (r.k == 3) = false) (s4 : (r.k == 4) = false) (s5 : (r.k == 5) = false) (s6 : (r.k == 6) = false) (s7 : (r.k == 7) = false) (s8 : (r.k == 8) = true) (HB : Hid (∀ w1 : World, Calls Tryz.prog 74 #[rawV r p, .int .i64 8] w1 (BoolPost false w1))) : Calls Tryz.prog 46 #[rawV r p] W (BoolPost false W) := by
  have hb1 : (W.alloc (.cells #[.int .i64 r.k, .int .i32 r.c, .bool r.neg, .slice p.A p.n p.cp, .string r.t, .slice p.B p.m p.cap] 27)).heap[W.heap.size]? = some (.cells #[.int .i64 r.k, .int .i32 r.c, .bool r.neg, .slice p.A p.n p.cp, .string r.t, .slice p.B p.m p.cap] 27 (0, 0)) := heap_alloc_new W _
  have HB1 := Lib.hid hb1
  have HK1 := Lib.hid (show Keep (fun _ => False) W (W.alloc (.cells #[.int .i64 r.k, .int .i32 r.c, .bool r.neg, .slice p.A p.n p.cp, .string r.t, .slice p.B p.m p.cap] 27)) from (Keep.refl _ _).alloc _)
  obtain ⟨a0, a1, a2, a3, a4, a5⟩ := dat_cells hb1
  clear hb1
  go_enter Tryz.func46, Tryz.ntmps46
  go_wp2_with fail
  generalize W.alloc (.cells #[.int .i64 r.k, .int .i32 r.c, .bool r.neg, .slice p.A p.n p.cp, .string r.t, .slice p.B p.m p.cap] 27) = w1 at *
  refine (HB.out _).mono ?_
  rintro e w2 ⟨rfl, k2⟩
  have HB2 := Lib.hid (k2.heap HB1.out (by simp))
  have HK2 := Lib.hid (HK1.out.trans k2)
  clear a0 a1 a2 a3 a4 a5 k2
  obtain ⟨a0, a1, a2, a3, a4, a5⟩ := dat_cells HB2.out
  go_wp2_with fail
  go_ret
  exact ⟨rfl, HK2.out⟩
set_option maxRecDepth 100000 in
set_option maxHeartbeats 4000000 in
theorem plain_E7m (r : Raw) (p : PV) (W : World) (s0 : (r.k == 0) = false) (s1 : (r.k == 1) = false) (s2 : (r.k == 2) = false) (s9 : (r.k == 9) = false) (s10 : (r.k == 10) = false) (s3 : (r.k == 3) = false) (s4 : (r.k == 4) = false) (s5 : (r.k == 5) = false) (s6 : (r.k == 6) = false) (s7 : (r.k == 7) = true) (HB : Hid (∀ w1 : World, Calls Tryz.prog 74 #[rawV r p, .int .i64 8] w1 (BoolPost true w1))) (h2 : ((p.m : Int) != 2) = true) : Calls Tryz.prog 46 #[rawV r p] W (BoolPost false W) := by
  have hb1 : (W.alloc (.cells #[.int .i64 r.k, .int .i32 r.c, .bool r.neg, .slice p.A p.n p.cp, .string r.t, .slice p.B p.m p.cap] 27)).heap[W.heap.size]? = some (.cells #[.int .i64 r.k, .int .i32 r.c, .bool r.neg, .slice p.A p.n p.cp, .string r.t, .slice p.B p.m p.cap] 27 (0, 0)) := heap_alloc_new W _
  have HB1 := Lib.hid hb1
  have HK1 := Lib.hid (show Keep (fun _ => False) W (W.alloc (.cells #[.int .i64 r.k, .int .i32 r.c, .bool r.neg, .slice p.A p.n p.cp, .string r.t, .slice p.B p.m p.cap] 27)) from (Keep.refl _ _).alloc _)
  obtain ⟨a0, a1, a2, a3, a4, a5⟩ := dat_cells hb1
  clear hb1
  go_enter Tryz.func46, Tryz.ntmps46
  go_wp2_with fail
  generalize W.alloc (.cells #[.int .i64 r.k, .int .i32 r.c, .bool r.neg, .slice p.A p.n p.cp, .string r.t, .slice p.B p.m p.cap] 27) = w1 at *
  refine (HB.out _).mono ?_
  rintro e w2 ⟨rfl, k2⟩
  have HB2 := Lib.hid (k2.heap HB1.out (by simp))
  have HK2 := Lib.hid (HK1.out.trans k2)
  clear a0 a1 a2 a3 a4 a5 k2
  obtain ⟨a0, a1, a2, a3, a4, a5⟩ := dat_cells HB2.out
  go_wp2_with fail
  go_ret
  exact ⟨rfl, HK2.out⟩
set_option maxRecDepth 100000 in
set_option maxHeartbeats 4000000 in
theorem plain_E8m (r : Raw) (p : PV) (W : World) (s0 : (r.k == 0) = false) (s1 : (r.k == 1) = false) (s2 : (r.k == 2) = false) (s9 : (r.k == 9) = false) (s10 : (r.k == 10) = false) (s3 : (r.k == 3) = false) (s4 : (r.k == 4) = false) (s5 : (r.k == 5) = false) (s6 : (r.k == 6) = false) (s7 : (r.k == 7) = false) (s8 : (r.k == 8) = true) (HB : Hid (∀ w1 : World, Calls Tryz.prog 74 #[rawV r p, .int .i64 8] w1 (BoolPost true w1))) (h2 : (62 : Int) < (p.m : Int)) : Calls Tryz.prog 46 #[rawV r p] W (BoolPost false W) := by
  have hb1 : (W.alloc (.cells #[.int .i64 r.k, .int .i32 r.c, .bool r.neg, .slice p.A p.n p.cp, .string r.t, .slice p.B p.m p.cap] 27)).heap[W.heap.size]? = some (.cells #[.int .i64 r.k, .int .i32 r.c, .bool r.neg, .slice p.A p.n p.cp, .string r.t, .slice p.B p.m p.cap] 27 (0, 0)) := heap_alloc_new W _
  have HB1 := Lib.hid hb1
  have HK1 := Lib.hid (show Keep (fun _ => False) W (W.alloc (.cells #[.int .i64 r.k, .int .i32 r.c, .bool r.neg, .slice p.A p.n p.cp, .string r.t, .slice p.B p.m p.cap] 27)) from (Keep.refl _ _).alloc _)
  obtain ⟨a0, a1, a2, a3, a4, a5⟩ := dat_cells hb1
  clear hb1
  go_enter Tryz.func46, Tryz.ntmps46
  go_wp2_with fail
  generalize W.alloc (.cells #[.int .i64 r.k, .int .i32 r.c, .bool r.neg, .slice p.A p.n p.cp, .string r.t, .slice p.B p.m p.cap] 27) = w1 at *
  refine (HB.out _).mono ?_
  rintro e w2 ⟨rfl, k2⟩
  have HB2 := Lib.hid (k2.heap HB1.out (by simp))
  have HK2 := Lib.hid (HK1.out.trans k2)
  clear a0 a1 a2 a3 a4 a5 k2
  obtain ⟨a0, a1, a2, a3, a4, a5⟩ := dat_cells HB2.out
  go_wp2_with fail
  go_ret
  exact ⟨rfl, HK2.out⟩
set_option maxRecDepth 100000 in
set_option maxHeartbeats 4000000 in
theorem plain_F (r : Raw) (p : PV) (W : World) (s0 : (r.k == 0) = false) (s1 : (r.k == 1) = false) (s2 : (r.k == 2) = false) (s9 : (r.k == 9) = false) (s10 : (r.k == 10) = false) (s3 : (r.k == 3) = false) (s4 : (r.k == 4) = false) (s5 : (r.k == 5) = false) (s6 : (r.k == 6) = false) (s7 : (r.k == 7) = false) (s8 : (r.k == 8) = false)  : Calls Tryz.prog 46 #[rawV r p] W (BoolPost false W) := by
  have hb1 : (W.alloc (.cells #[.int .i64 r.k, .int .i32 r.c, .bool r.neg, .slice p.A p.n p.cp, .string r.t, .slice p.B p.m p.cap] 27)).heap[W.heap.size]? = some (.cells #[.int .i64 r.k, .int .i32 r.c, .bool r.neg, .slice p.A p.n p.cp, .string r.t, .slice p.B p.m p.cap] 27 (0, 0)) := heap_alloc_new W _
  have HB1 := Lib.hid hb1
  have HK1 := Lib.hid (show Keep (fun _ => False) W (W.alloc (.cells #[.int .i64 r.k, .int .i32 r.c, .bool r.neg, .slice p.A p.n p.cp, .string r.t, .slice p.B p.m p.cap] 27)) from (Keep.refl _ _).alloc _)
  obtain ⟨a0, a1, a2, a3, a4, a5⟩ := dat_cells hb1
  clear hb1
  go_enter Tryz.func46, Tryz.ntmps46
  go_wp2_with fail
  generalize W.alloc (.cells #[.int .i64 r.k, .int .i32 r.c, .bool r.neg, .slice p.A p.n p.cp, .string r.t, .slice p.B p.m p.cap] 27) = w1 at *
  go_ret
  exact ⟨rfl, HK1.out⟩
/-- What the loop stands on. -/
structure PlaS (W : World) (r : Raw) (p : PV) (i B1 : Nat) (wr : World) : Prop where
  K : Keep (fun _ => False) W wr
  h1 : wr.heap[B1]? = some (.cells #[.int .i64 r.k, .int .i32 r.c, .bool r.neg, .slice p.A p.n p.cp, .string r.t, .slice p.B p.m p.cap] 27 (0, 0))
  le : i ≤ r.l.length
  upto : ∀ j (h : j < r.l.length), j < i → plainB r.l[j] = true
set_option maxRecDepth 100000 in
set_option maxHeartbeats 4000000 in
theorem plain_E7l {Q : Nat → Prop} (r : Raw) (p : PV) (W : World) (s0 : (r.k == 0) = false) (s1 : (r.k == 1) = false) (s2 : (r.k == 2) = false) (s9 : (r.k == 9) = false) (s10 : (r.k == 10) = false) (s3 : (r.k == 3) = false) (s4 : (r.k == 4) = false) (s5 : (r.k == 5) = false) (s6 : (r.k == 6) = false) (s7 : (r.k == 7) = true) (HB : Hid (∀ w1 : World, Calls Tryz.prog 74 #[rawV r p, .int .i64 8] w1 (BoolPost true w1))) (h2 : ((p.m : Int) != 2) = false) (hL62 : p.m ≤ 62) (w : World) (hW : Keep (fun _ => False) w W) (vs : Nat → PV) (HROW : Hid (0 < p.m → ∃ b off, p.B = some ⟨b, off, .none⟩ ∧ Q b ∧ ∀ i (h : i < r.l.length), ItemC w b off i r.l[i] (vs i))) (HL : Hid (r.l.length = p.m))
    (IH : Hid (∀ i (h : i < r.l.length) (w' : World), Keep (fun _ => False) w w' → Calls Tryz.prog 46 #[rawV r.l[i] (vs i)] w' (BoolPost (plainB r.l[i]) w'))) : Calls Tryz.prog 46 #[rawV r p] W (BoolPost (plainL r.l) W) := by
  have hb1 : (W.alloc (.cells #[.int .i64 r.k, .int .i32 r.c, .bool r.neg, .slice p.A p.n p.cp, .string r.t, .slice p.B p.m p.cap] 27)).heap[W.heap.size]? = some (.cells #[.int .i64 r.k, .int .i32 r.c, .bool r.neg, .slice p.A p.n p.cp, .string r.t, .slice p.B p.m p.cap] 27 (0, 0)) := heap_alloc_new W _
  have HB1 := Lib.hid hb1
  have HK1 := Lib.hid (show Keep (fun _ => False) W (W.alloc (.cells #[.int .i64 r.k, .int .i32 r.c, .bool r.neg, .slice p.A p.n p.cp, .string r.t, .slice p.B p.m p.cap] 27)) from (Keep.refl _ _).alloc _)
  obtain ⟨a0, a1, a2, a3, a4, a5⟩ := dat_cells hb1
  clear hb1
  go_enter Tryz.func46, Tryz.ntmps46
  go_wp2_with fail
  generalize W.alloc (.cells #[.int .i64 r.k, .int .i32 r.c, .bool r.neg, .slice p.A p.n p.cp, .string r.t, .slice p.B p.m p.cap] 27) = w1 at *
  have h3 : decide ((62 : Int) < (p.m : Int)) = false := decide_eq_false (by omega)
  refine (HB.out _).mono ?_
  rintro e w2 ⟨rfl, k2⟩
  have HB2 := Lib.hid (k2.heap HB1.out (by simp))
  have HK2 := Lib.hid (HK1.out.trans k2)
  clear a0 a1 a2 a3 a4 a5 k2
  obtain ⟨a0, a1, a2, a3, a4, a5⟩ := dat_cells HB2.out
  go_wp2_with fail
  have HW := Lib.hid hW
  have HST := Lib.hid (show PlaS W r p 0 W.heap.size w2 from ⟨HK2.out, HB2.out, Nat.zero_le _, fun j _ h => absurd h (Nat.not_lt_zero _)⟩)
  clear hW a0 a1 a2 a3 a4 a5
  generalize hB1 : W.heap.size = B1 at *
  go_loopw [5] (fun iv wr => ∃ i : Nat, iv = .int .i64 (i : Int) ∧ PlaS W r p i B1 wr) (fun iv _ => p.m - (intOf iv).toNat)
  case atStart => exact ⟨0, rfl, HST.out⟩
  case round =>
    obtain ⟨i, rfl, hst⟩ := hrel
    have hx1 := hst.h1
    have HS2 := Lib.hid hst
    clear hst
    obtain ⟨a0, a1, a2, a3, a4, a5⟩ := dat_cells hx1
    clear hx1 a0 a1 a2 a3 a4
    by_cases hlt : i < p.m
    · have hi1 : i < r.l.length := by rw [HL.out]; exact hlt
      obtain ⟨g, o, eB, _, hrw⟩ := HROW.out (by omega)
      have hic := (hrw i hi1).keep (HW.out.trans HS2.out.K) id
      have HC1 := Lib.hid (fun (w' : World) (K : Keep (fun _ => False) wr w') => IH.out i hi1 w' ((HW.out.trans HS2.out.K).trans K))
      have HNO := Lib.hid (fun (h : plainB r.l[i] = false) => plainL_false hi1 h)
      have HNX := Lib.hid (fun (h : plainB r.l[i] = true) (w' : World) (K : Keep (fun _ => False) wr w') => (show PlaS W r p (i + 1) B1 w' from ⟨HS2.out.K.trans K, K.heap HS2.out.h1 id, hi1, fun j h1 h3 => by
        by_cases e : j = i
        · subst e; exact h
        · exact HS2.out.upto j h1 (by omega)⟩))
      obtain ⟨x, hx⟩ : ∃ x, x = r.l[i] := ⟨_, rfl⟩
      rw [← hx] at HC1 HNO HNX
      obtain ⟨r0, r1, r2, r3, r4, r5⟩ := hic.cells
      rw [← hx] at r0 r1 r2 r4
      obtain ⟨v, hv⟩ : ∃ v, v = vs i := ⟨_, rfl⟩
      rw [← hv] at HC1 r3 r5
      rw [eB] at a5
      clear eB hv hic hx hrw
      have l1 : decide ((i : Int) < (p.m : Int)) = true := decide_eq_true (by omega)
      have l2 : decide (i < p.m) = true := decide_eq_true hlt
      have hi0 : (0 : Int) ≤ (i : Int) := Int.natCast_nonneg _
      have j1 : (i : Int) < (p.m : Int) := by omega
      go_wp2_with fail
      obtain ⟨b, hb⟩ : ∃ b, b = plainB x := ⟨_, rfl⟩
      rw [← hb] at HC1 HNO HNX
      clear hb
      refine (HC1.out _ (Keep.refl _ _)).mono ?_
      rintro e w5 ⟨rfl, k5⟩
      clear r0 r1 r2 r3 r4 r5 a5
      cases b with
      | true =>
        have HN3 := Lib.hid (HNX.out rfl _ k5)
        clear k5
        go_wp2_with fail
        go_roundw
        case rel => exact ⟨i + 1, by go_num, HN3.out⟩
        case measure => simp only [intOf]; omega
      | false =>
        have HK5 := Lib.hid (HS2.out.K.trans k5)
        have HF := Lib.hid (HNO.out rfl)
        clear k5
        go_wp2_with fail
        go_ret
        exact ⟨(show Ending.returned (.bool false) = Ending.returned (.bool (plainL r.l)) by rw [HF.out]), HK5.out⟩
    · have l1 : decide ((i : Int) < (p.m : Int)) = false := decide_eq_false (by omega)
      have l2 : decide (i < p.m) = false := decide_eq_false hlt
      have HT := Lib.hid (show plainL r.l = true from plainL_true.2 (fun j hj => HS2.out.upto j hj (by rw [HL.out] at hj; omega)))
      go_wp2_with fail
      go_ret
      exact ⟨(show Ending.returned (.bool true) = Ending.returned (.bool (plainL r.l)) by rw [HT.out]), HS2.out.K⟩
set_option maxRecDepth 100000 in
set_option maxHeartbeats 4000000 in
theorem plain_E8l {Q : Nat → Prop} (r : Raw) (p : PV) (W : World) (s0 : (r.k == 0) = false) (s1 : (r.k == 1) = false) (s2 : (r.k == 2) = false) (s9 : (r.k == 9) = false) (s10 : (r.k == 10) = false) (s3 : (r.k == 3) = false) (s4 : (r.k == 4) = false) (s5 : (r.k == 5) = false) (s6 : (r.k == 6) = false) (s7 : (r.k == 7) = false) (s8 : (r.k == 8) = true) (HB : Hid (∀ w1 : World, Calls Tryz.prog 74 #[rawV r p, .int .i64 8] w1 (BoolPost true w1))) (h2 : decide ((62 : Int) < (p.m : Int)) = false) (hL62 : p.m ≤ 62) (w : World) (hW : Keep (fun _ => False) w W) (vs : Nat → PV) (HROW : Hid (0 < p.m → ∃ b off, p.B = some ⟨b, off, .none⟩ ∧ Q b ∧ ∀ i (h : i < r.l.length), ItemC w b off i r.l[i] (vs i))) (HL : Hid (r.l.length = p.m))
    (IH : Hid (∀ i (h : i < r.l.length) (w' : World), Keep (fun _ => False) w w' → Calls Tryz.prog 46 #[rawV r.l[i] (vs i)] w' (BoolPost (plainB r.l[i]) w'))) : Calls Tryz.prog 46 #[rawV r p] W (BoolPost (plainL r.l) W) := by
  have hb1 : (W.alloc (.cells #[.int .i64 r.k, .int .i32 r.c, .bool r.neg, .slice p.A p.n p.cp, .string r.t, .slice p.B p.m p.cap] 27)).heap[W.heap.size]? = some (.cells #[.int .i64 r.k, .int .i32 r.c, .bool r.neg, .slice p.A p.n p.cp, .string r.t, .slice p.B p.m p.cap] 27 (0, 0)) := heap_alloc_new W _
  have HB1 := Lib.hid hb1
  have HK1 := Lib.hid (show Keep (fun _ => False) W (W.alloc (.cells #[.int .i64 r.k, .int .i32 r.c, .bool r.neg, .slice p.A p.n p.cp, .string r.t, .slice p.B p.m p.cap] 27)) from (Keep.refl _ _).alloc _)
  obtain ⟨a0, a1, a2, a3, a4, a5⟩ := dat_cells hb1
  clear hb1
  go_enter Tryz.func46, Tryz.ntmps46
  go_wp2_with fail
  generalize W.alloc (.cells #[.int .i64 r.k, .int .i32 r.c, .bool r.neg, .slice p.A p.n p.cp, .string r.t, .slice p.B p.m p.cap] 27) = w1 at *
  refine (HB.out _).mono ?_
  rintro e w2 ⟨rfl, k2⟩
  have HB2 := Lib.hid (k2.heap HB1.out (by simp))
  have HK2 := Lib.hid (HK1.out.trans k2)
  clear a0 a1 a2 a3 a4 a5 k2
  obtain ⟨a0, a1, a2, a3, a4, a5⟩ := dat_cells HB2.out
  go_wp2_with fail
  have HW := Lib.hid hW
  have HST := Lib.hid (show PlaS W r p 0 W.heap.size w2 from ⟨HK2.out, HB2.out, Nat.zero_le _, fun j _ h => absurd h (Nat.not_lt_zero _)⟩)
  clear hW a0 a1 a2 a3 a4 a5
  generalize hB1 : W.heap.size = B1 at *
  go_loopw [5] (fun iv wr => ∃ i : Nat, iv = .int .i64 (i : Int) ∧ PlaS W r p i B1 wr) (fun iv _ => p.m - (intOf iv).toNat)
  case atStart => exact ⟨0, rfl, HST.out⟩
  case round =>
    obtain ⟨i, rfl, hst⟩ := hrel
    have hx1 := hst.h1
    have HS2 := Lib.hid hst
    clear hst
    obtain ⟨a0, a1, a2, a3, a4, a5⟩ := dat_cells hx1
    clear hx1 a0 a1 a2 a3 a4
    by_cases hlt : i < p.m
    · have hi1 : i < r.l.length := by rw [HL.out]; exact hlt
      obtain ⟨g, o, eB, _, hrw⟩ := HROW.out (by omega)
      have hic := (hrw i hi1).keep (HW.out.trans HS2.out.K) id
      have HC1 := Lib.hid (fun (w' : World) (K : Keep (fun _ => False) wr w') => IH.out i hi1 w' ((HW.out.trans HS2.out.K).trans K))
      have HNO := Lib.hid (fun (h : plainB r.l[i] = false) => plainL_false hi1 h)
      have HNX := Lib.hid (fun (h : plainB r.l[i] = true) (w' : World) (K : Keep (fun _ => False) wr w') => (show PlaS W r p (i + 1) B1 w' from ⟨HS2.out.K.trans K, K.heap HS2.out.h1 id, hi1, fun j h1 h3 => by
        by_cases e : j = i
        · subst e; exact h
        · exact HS2.out.upto j h1 (by omega)⟩))
      obtain ⟨x, hx⟩ : ∃ x, x = r.l[i] := ⟨_, rfl⟩
      rw [← hx] at HC1 HNO HNX
      obtain ⟨r0, r1, r2, r3, r4, r5⟩ := hic.cells
      rw [← hx] at r0 r1 r2 r4
      obtain ⟨v, hv⟩ : ∃ v, v = vs i := ⟨_, rfl⟩
      rw [← hv] at HC1 r3 r5
      rw [eB] at a5
      clear eB hv hic hx hrw
      have l1 : decide ((i : Int) < (p.m : Int)) = true := decide_eq_true (by omega)
      have l2 : decide (i < p.m) = true := decide_eq_true hlt
      have hi0 : (0 : Int) ≤ (i : Int) := Int.natCast_nonneg _
      have j1 : (i : Int) < (p.m : Int) := by omega
      go_wp2_with fail
      obtain ⟨b, hb⟩ : ∃ b, b = plainB x := ⟨_, rfl⟩
      rw [← hb] at HC1 HNO HNX
      clear hb
      refine (HC1.out _ (Keep.refl _ _)).mono ?_
      rintro e w5 ⟨rfl, k5⟩
      clear r0 r1 r2 r3 r4 r5 a5
      cases b with
      | true =>
        have HN3 := Lib.hid (HNX.out rfl _ k5)
        clear k5
        go_wp2_with fail
        go_roundw
        case rel => exact ⟨i + 1, by go_num, HN3.out⟩
        case measure => simp only [intOf]; omega
      | false =>
        have HK5 := Lib.hid (HS2.out.K.trans k5)
        have HF := Lib.hid (HNO.out rfl)
        clear k5
        go_wp2_with fail
        go_ret
        exact ⟨(show Ending.returned (.bool false) = Ending.returned (.bool (plainL r.l)) by rw [HF.out]), HK5.out⟩
    · have l1 : decide ((i : Int) < (p.m : Int)) = false := decide_eq_false (by omega)
      have l2 : decide (i < p.m) = false := decide_eq_false hlt
      have HT := Lib.hid (show plainL r.l = true from plainL_true.2 (fun j hj => HS2.out.upto j hj (by rw [HL.out] at hj; omega)))
      go_wp2_with fail
      go_ret
      exact ⟨(show Ending.returned (.bool true) = Ending.returned (.bool (plainL r.l)) by rw [HT.out]), HS2.out.K⟩
set_option maxRecDepth 100000 in
theorem plain_any {N P : Nat → Prop} {w : World} {r : Raw} {p : PV} (h : RawAt N P w r p) : SmallR r → ∀ (W : World), Keep (fun _ => False) w W → Calls Tryz.prog 46 #[rawV r p] W (BoolPost (plainB r) W) := by
  induction h with
  | @mk r p num nP len mcap big vs row ch ih =>
    intro hS W hW
    obtain ⟨ht, hmag, hit⟩ := hS
    have hn := num.len
    have nk : ∀ {j : Int}, ¬ r.k = j → (r.k == j) = false := fun h => beq_eq_false_iff_ne.2 h
    have yk : ∀ {j : Int}, r.k = j → (r.k == j) = true := fun h => beq_iff_eq.2 h
    rw [plain_eq]
    by_cases n0 : r.k = 0
    · rw [if_pos (by simp [n0])]
      exact plain_A0 r p W (yk n0) _ (Lib.hid (fun w1 => bare0_any r p w1 hn len))
    by_cases n1 : r.k = 1
    · rw [if_pos (by simp [n1])]
      exact plain_A1 r p W (nk n0) (yk n1) _ (Lib.hid (fun w1 => bare0_any r p w1 hn len))
    by_cases n2 : r.k = 2
    · rw [if_pos (by simp [n2])]
      exact plain_A2 r p W (nk n0) (nk n1) (yk n2) _ (Lib.hid (fun w1 => bare0_any r p w1 hn len))
    by_cases n9 : r.k = 9
    · rw [if_pos (by simp [n9])]
      exact plain_A9 r p W (nk n0) (nk n1) (nk n2) (yk n9) _ (Lib.hid (fun w1 => bare0_any r p w1 hn len))
    by_cases n10 : r.k = 10
    · rw [if_pos (by simp [n10])]
      exact plain_A10 r p W (nk n0) (nk n1) (nk n2) (nk n9) (yk n10) _ (Lib.hid (fun w1 => bare0_any r p w1 hn len))
    rw [if_neg (by simp [n0, n1, n2, n9, n10])]
    by_cases n3 : r.k = 3
    · rw [if_pos n3]
      have HB := Lib.hid (fun w1 => bare1_any r p w1 hn len)
      cases hb : bareB true false false false r with
      | false =>
        rw [hb] at HB
        exact plain_Bf r p W (nk n0) (nk n1) (nk n2) (nk n9) (nk n10) (yk n3) HB
      | true =>
        rw [hb] at HB
        rw [Bool.true_and]
        exact plain_Bt r p W (nk n0) (nk n1) (nk n2) (nk n9) (nk n10) (yk n3) _ HB (Lib.hid (fun w1 => rcharI_any r.c w1))
    rw [if_neg n3]
    by_cases n4 : r.k = 4
    · rw [if_pos n4]
      have HB := Lib.hid (fun w1 => bare2_any r p w1 hn len)
      cases hb : bareB false true false false r with
      | false =>
        rw [hb] at HB
        exact plain_Cf r p W (nk n0) (nk n1) (nk n2) (nk n9) (nk n10) (nk n3) (yk n4) HB
      | true =>
        rw [hb] at HB
        rw [Bool.true_and]
        exact plain_Ct r p W (nk n0) (nk n1) (nk n2) (nk n9) (nk n10) (nk n3) (yk n4) _ HB (Lib.hid (fun w1 K => rmay_any r.neg p.A p.n p.cp r.mag w1 ((num.keep0 hW).keep0 K) (by omega)))
    rw [if_neg n4]
    by_cases n5 : r.k = 5
    · rw [if_pos n5]
      have HB := Lib.hid (fun w1 => bare4_any r p w1 hn len)
      cases hb : bareB false false true false r with
      | false =>
        rw [hb] at HB
        have HR := Lib.hid (fun w1 => runes_any r.t w1 ht)
        unfold RunesPost at HR
        cases hr : runesL r.t.data.toList with
        | none =>
          rw [hr] at HR
          exact plain_D5nf r p W (nk n0) (nk n1) (nk n2) (nk n9) (nk n10) (nk n3) (nk n4) (yk n5) HR HB
        | some rr =>
          rw [hr] at HR
          have HS := Lib.hid (fun w1 => (HR.out w1).mono (fun e w9 h => (show (∃ A c, e = .returned (.tuple #[.slice A rr.length c, .bool true])) ∧ Keep (fun _ => False) w1 w9 from by obtain ⟨A, c, he, _, hk⟩ := h; exact ⟨⟨A, c, he⟩, hk⟩)))
          exact plain_D5sf r p W (nk n0) (nk n1) (nk n2) (nk n9) (nk n10) (nk n3) (nk n4) (yk n5) rr.length HS HB
      | true =>
        rw [hb] at HB
        have HR := Lib.hid (fun w1 => runes_any r.t w1 ht)
        unfold RunesPost at HR
        cases hr : runesL r.t.data.toList with
        | none =>
          rw [hr] at HR
          exact plain_D5nt r p W (nk n0) (nk n1) (nk n2) (nk n9) (nk n10) (nk n3) (nk n4) (yk n5) HR HB
        | some rr =>
          rw [hr] at HR
          have HS := Lib.hid (fun w1 => (HR.out w1).mono (fun e w9 h => (show (∃ A c, e = .returned (.tuple #[.slice A rr.length c, .bool true])) ∧ Keep (fun _ => False) w1 w9 from by obtain ⟨A, c, he, _, hk⟩ := h; exact ⟨⟨A, c, he⟩, hk⟩)))
          unfold textB
          rw [Bool.true_and]
          simp only
          by_cases h62 : rr.length ≤ 62
          · rw [decide_eq_true h62, Bool.true_and]
            exact plain_D5stY r p W (nk n0) (nk n1) (nk n2) (nk n9) (nk n10) (nk n3) (nk n4) (yk n5) rr.length HS HB (by omega)
          · rw [decide_eq_false h62, Bool.false_and]
            exact plain_D5stL r p W (nk n0) (nk n1) (nk n2) (nk n9) (nk n10) (nk n3) (nk n4) (yk n5) rr.length HS HB (decide_eq_false (by omega))
    rw [if_neg n5]
    by_cases n6 : r.k = 6
    · rw [if_pos n6]
      have HB := Lib.hid (fun w1 => bare4_any r p w1 hn len)
      cases hb : bareB false false true false r with
      | false =>
        rw [hb] at HB
        have HR := Lib.hid (fun w1 => runes_any r.t w1 ht)
        unfold RunesPost at HR
        cases hr : runesL r.t.data.toList with
        | none =>
          rw [hr] at HR
          exact plain_D6nf r p W (nk n0) (nk n1) (nk n2) (nk n9) (nk n10) (nk n3) (nk n4) (nk n5) (yk n6) HR HB
        | some rr =>
          rw [hr] at HR
          have HS := Lib.hid (fun w1 => (HR.out w1).mono (fun e w9 h => (show (∃ A c, e = .returned (.tuple #[.slice A rr.length c, .bool true])) ∧ Keep (fun _ => False) w1 w9 from by obtain ⟨A, c, he, _, hk⟩ := h; exact ⟨⟨A, c, he⟩, hk⟩)))
          exact plain_D6sf r p W (nk n0) (nk n1) (nk n2) (nk n9) (nk n10) (nk n3) (nk n4) (nk n5) (yk n6) rr.length HS HB
      | true =>
        rw [hb] at HB
        have HR := Lib.hid (fun w1 => runes_any r.t w1 ht)
        unfold RunesPost at HR
        cases hr : runesL r.t.data.toList with
        | none =>
          rw [hr] at HR
          exact plain_D6nt r p W (nk n0) (nk n1) (nk n2) (nk n9) (nk n10) (nk n3) (nk n4) (nk n5) (yk n6) HR HB
        | some rr =>
          rw [hr] at HR
          have HS := Lib.hid (fun w1 => (HR.out w1).mono (fun e w9 h => (show (∃ A c, e = .returned (.tuple #[.slice A rr.length c, .bool true])) ∧ Keep (fun _ => False) w1 w9 from by obtain ⟨A, c, he, _, hk⟩ := h; exact ⟨⟨A, c, he⟩, hk⟩)))
          unfold textB
          rw [Bool.true_and]
          simp only
          by_cases h62 : rr.length ≤ 62
          · rw [decide_eq_true h62, Bool.true_and]
            by_cases h0 : 0 < rr.length
            · rw [decide_eq_true h0]
              exact plain_D6stY r p W (nk n0) (nk n1) (nk n2) (nk n9) (nk n10) (nk n3) (nk n4) (nk n5) (yk n6) rr.length HS HB (by omega) (decide_eq_true h0)
            · rw [decide_eq_false h0]
              exact plain_D6stZ r p W (nk n0) (nk n1) (nk n2) (nk n9) (nk n10) (nk n3) (nk n4) (nk n5) (yk n6) rr.length HS HB (by omega) (decide_eq_false h0)
          · rw [decide_eq_false h62, Bool.false_and]
            exact plain_D6stL r p W (nk n0) (nk n1) (nk n2) (nk n9) (nk n10) (nk n3) (nk n4) (nk n5) (yk n6) rr.length HS HB (decide_eq_false (by omega))
    rw [if_neg n6]
    by_cases n7 : r.k = 7
    · rw [if_pos n7]
      have HB := Lib.hid (fun w1 => bare8_any r p w1 hn len)
      cases hb : bareB false false false true r with
      | false =>
        rw [hb] at HB
        exact plain_E7f r p W (nk n0) (nk n1) (nk n2) (nk n9) (nk n10) (nk n3) (nk n4) (nk n5) (nk n6) (yk n7) HB
      | true =>
        rw [hb] at HB
        rw [Bool.true_and]
        by_cases h2 : r.l.length = 2
        · rw [decide_eq_true h2, Bool.true_and]
          exact plain_E7l (Q := P) r p W (nk n0) (nk n1) (nk n2) (nk n9) (nk n10) (nk n3) (nk n4) (nk n5) (nk n6) (yk n7) HB (by simp; omega) (by omega) _ hW vs (Lib.hid row) (Lib.hid len) (Lib.hid (fun i hi w9 K => ih i hi (hit i hi) w9 K))
        · rw [decide_eq_false h2, Bool.false_and]
          exact plain_E7m r p W (nk n0) (nk n1) (nk n2) (nk n9) (nk n10) (nk n3) (nk n4) (nk n5) (nk n6) (yk n7) HB (by simp; omega)
    rw [if_neg n7]
    by_cases n8 : r.k = 8
    · rw [if_pos n8]
      have HB := Lib.hid (fun w1 => bare8_any r p w1 hn len)
      cases hb : bareB false false false true r with
      | false =>
        rw [hb] at HB
        exact plain_E8f r p W (nk n0) (nk n1) (nk n2) (nk n9) (nk n10) (nk n3) (nk n4) (nk n5) (nk n6) (nk n7) (yk n8) HB
      | true =>
        rw [hb] at HB
        rw [Bool.true_and]
        by_cases h2 : r.l.length ≤ 62
        · rw [decide_eq_true h2, Bool.true_and]
          exact plain_E8l (Q := P) r p W (nk n0) (nk n1) (nk n2) (nk n9) (nk n10) (nk n3) (nk n4) (nk n5) (nk n6) (nk n7) (yk n8) HB (decide_eq_false (by omega)) (by omega) _ hW vs (Lib.hid row) (Lib.hid len) (Lib.hid (fun i hi w9 K => ih i hi (hit i hi) w9 K))
        · rw [decide_eq_false h2, Bool.false_and]
          exact plain_E8m r p W (nk n0) (nk n1) (nk n2) (nk n9) (nk n10) (nk n3) (nk n4) (nk n5) (nk n6) (nk n7) (yk n8) HB (by omega)
    rw [if_neg n8]
    exact plain_F r p W (nk n0) (nk n1) (nk n2) (nk n9) (nk n10) (nk n3) (nk n4) (nk n5) (nk n6) (nk n7) (nk n8)
end Go.Proofs.YtonnikipeokkaaaGreatDoor

namespace Go.Proofs.YtonnikipeokkaaaGreatDoor
open Go.RowKit Go.Lib

/-- The greatest of the first n. -/
def preD (f : Nat → Nat) : Nat → Nat
  | 0 => 0
  | n + 1 => max (preD f n) (f n)
theorem preD_shift (f : Nat → Nat) : ∀ n, preD f (n + 1) = max (f 0) (preD (fun i => f (i + 1)) n)
  | 0 => by simp [preD]
  | n + 1 => by
    rw [preD, preD_shift f n, preD]
    omega
theorem preD_mono (f : Nat → Nat) {i : Nat} : ∀ {n}, i ≤ n → preD f i ≤ preD f n
  | 0, h => by obtain rfl : i = 0 := by omega
               exact Nat.le_refl _
  | n + 1, h => by
    rcases Nat.lt_or_ge i (n + 1) with h1 | h1
    · exact Nat.le_trans (preD_mono f (by omega : i ≤ n)) (by rw [preD]; omega)
    · obtain rfl : i = n + 1 := by omega
      exact Nat.le_refl _
theorem preD_ext {f g : Nat → Nat} : ∀ n, (∀ i, i < n → f i = g i) → preD f n = preD g n
  | 0, _ => rfl
  | n + 1, h => by rw [preD, preD, preD_ext n (fun i hi => h i (by omega)), h n (by omega)]
/-- How deep the i-th item makes it. -/
def stepD (k : Int) (l : List Raw) (i : Nat) : Nat :=
  match l[i]? with
  | some x => if k = 7 ∧ i + 1 = l.length ∧ x.k = 7 then depthR x else depthR x + 1
  | none => 0
theorem depthL_pre (k : Int) : ∀ l : List Raw, depthL k l = preD (stepD k l) l.length
  | [] => by rw [depthL]; rfl
  | x :: l => by
    rw [depthL, depthL_pre k l, List.length_cons, preD_shift, preD_ext (f := fun i => stepD k (x :: l) (i + 1)) (g := stepD k l)]
    · congr 1
      unfold stepD
      simp only [List.getElem?_cons_zero, List.length_cons]
      have e : (l = []) ↔ 0 + 1 = l.length + 1 := ⟨fun h => by rw [h]; rfl, fun h => List.eq_nil_of_length_eq_zero (by omega)⟩
      simp only [e]
    · intro i _
      unfold stepD
      simp only [List.getElem?_cons_succ, List.length_cons, Nat.add_right_cancel_iff]
theorem depth_eq (r : Raw) : depthR r = max (if r.k = 8 then 1 else 0) (preD (stepD r.k r.l) r.l.length) := by
  cases r with
  | mk k c neg mag t l => rw [depthR, depthL_pre]; rfl
theorem stepD_le {r : Raw} {i : Nat} (hi : i < r.l.length) : preD (stepD r.k r.l) i ≤ depthR r ∧ stepD r.k r.l i ≤ depthR r := by
  have h := preD_mono (stepD r.k r.l) (i := i + 1) (n := r.l.length) hi
  rw [preD] at h
  rw [depth_eq]
  omega
theorem stepD_at {r : Raw} {i : Nat} (hi : i < r.l.length) : stepD r.k r.l i = if r.k = 7 ∧ i + 1 = r.l.length ∧ r.l[i].k = 7 then depthR r.l[i] else depthR r.l[i] + 1 := by
  unfold stepD
  rw [List.getElem?_eq_getElem hi]
theorem depth_item {r : Raw} {i : Nat} (hi : i < r.l.length) : depthR r.l[i] ≤ depthR r := by
  have h := (stepD_le hi).2
  rw [stepD_at hi] at h
  split at h <;> omega
/-- What the loop stands on. -/
structure DepS (W : World) (r : Raw) (p : PV) (i d B1 : Nat) (wr : World) : Prop where
  K : Keep (fun _ => False) W wr
  h1 : wr.heap[B1]? = some (.cells #[.int .i64 r.k, .int .i32 r.c, .bool r.neg, .slice p.A p.n p.cp, .string r.t, .slice p.B p.m p.cap] 27 (0, 0))
  le : i ≤ r.l.length
  d : d = preD (stepD r.k r.l) i
set_option maxRecDepth 100000 in
set_option maxHeartbeats 4000000 in
theorem depth_w {P : Nat → Prop} (r : Raw) (p : PV) (W : World) (w : World) (hW : Keep (fun _ => False) w W)
    (hm : p.m ≤ 9223372036854775807) (hD : depthR r ≤ 4000000000000000000) (vs : Nat → PV) (HROW : Hid (0 < p.m → ∃ b off, p.B = some ⟨b, off, .none⟩ ∧ P b ∧ ∀ i (h : i < r.l.length), ItemC w b off i r.l[i] (vs i))) (HL : Hid (r.l.length = p.m))
    (IH : Hid (∀ i (h : i < r.l.length) (w' : World), Keep (fun _ => False) w w' → Calls Tryz.prog 33 #[rawV r.l[i] (vs i)] w' (fun e w9 => e = .returned (.int .i64 (depthR r.l[i] : Int)) ∧ Keep (fun _ => False) w' w9))) : Calls Tryz.prog 33 #[rawV r p] W (fun e w9 => e = .returned (.int .i64 (depthR r : Int)) ∧ Keep (fun _ => False) W w9) := by
  have hb1 : (W.alloc (.cells #[.int .i64 r.k, .int .i32 r.c, .bool r.neg, .slice p.A p.n p.cp, .string r.t, .slice p.B p.m p.cap] 27)).heap[W.heap.size]? = some (.cells #[.int .i64 r.k, .int .i32 r.c, .bool r.neg, .slice p.A p.n p.cp, .string r.t, .slice p.B p.m p.cap] 27 (0, 0)) := heap_alloc_new W _
  have HST := Lib.hid (show DepS W r p 0 0 W.heap.size (W.alloc (.cells #[.int .i64 r.k, .int .i32 r.c, .bool r.neg, .slice p.A p.n p.cp, .string r.t, .slice p.B p.m p.cap] 27)) from ⟨(Keep.refl _ _).alloc _, hb1, Nat.zero_le _, rfl⟩)
  have HW := Lib.hid hW
  have HDD := Lib.hid hD
  clear hW hb1 hD
  go_enter Tryz.func33, Tryz.ntmps33
  go_wp2_with fail
  generalize W.alloc (.cells #[.int .i64 r.k, .int .i32 r.c, .bool r.neg, .slice p.A p.n p.cp, .string r.t, .slice p.B p.m p.cap] 27) = w1 at *
  generalize hB1 : W.heap.size = B1 at *
  go_loopw [3, 4, 5] (fun nv iv _ wr => ∃ (d i : Nat), nv = .int .i64 (d : Int) ∧ iv = .int .i64 (i : Int) ∧ DepS W r p i d B1 wr) (fun _ iv _ _ => p.m - (intOf iv).toNat)
  case atStart => exact ⟨0, 0, rfl, rfl, HST.out⟩
  case round =>
    obtain ⟨d, i, rfl, rfl, hst⟩ := hrel
    have hx1 := hst.h1
    have HS2 := Lib.hid hst
    have hbig := hm
    clear hst
    obtain ⟨a0, a1, a2, a3, a4, a5⟩ := dat_cells hx1
    clear hx1 a1 a2 a3 a4
    by_cases hlt : i < p.m
    · have hi1 : i < r.l.length := by rw [HL.out]; exact hlt
      obtain ⟨g, o, eB, _, hrw⟩ := HROW.out (by omega)
      have hic := (hrw i hi1).keep (HW.out.trans HS2.out.K) id
      have HC1 := Lib.hid (fun (w' : World) (K : Keep (fun _ => False) wr w') => IH.out i hi1 w' ((HW.out.trans HS2.out.K).trans K))
      have HNX := Lib.hid (fun (w' : World) (K : Keep (fun _ => False) wr w') => (show DepS W r p (i + 1) (max d (stepD r.k r.l i)) B1 w' from ⟨HS2.out.K.trans K, K.heap HS2.out.h1 id, hi1, by rw [preD, ← HS2.out.d]⟩))
      have hde := (stepD_le hi1).1
      rw [← HS2.out.d] at hde
      have hst := stepD_at hi1
      have hsl := (stepD_le hi1).2
      have hD := HDD.out
      obtain ⟨y, hy⟩ : ∃ y, y = stepD r.k r.l i := ⟨_, rfl⟩
      obtain ⟨x, hx⟩ : ∃ x, x = r.l[i] := ⟨_, rfl⟩
      rw [← hy] at HNX hst hsl
      rw [← hx] at HC1 hst
      rw [HL.out] at hst
      obtain ⟨r0, r1, r2, r3, r4, r5⟩ := hic.cells
      rw [← hx] at r0 r1 r2 r4
      obtain ⟨v, hv⟩ : ∃ v, v = vs i := ⟨_, rfl⟩
      rw [← hv] at HC1 r3 r5
      obtain ⟨z, hz⟩ : ∃ z, z = depthR x := ⟨_, rfl⟩
      rw [← hz] at HC1 hst
      have a5k := a5
      rw [eB] at a5
      have HQ := Lib.hid (fun (w' : World) (K : Keep (fun _ => False) wr w') => (show w'.cell? ⟨B1, 0, none⟩ = some (.int .i64 r.k) ∧ w'.cell? ⟨B1, 5, none⟩ = some (.slice (some ⟨g, o, none⟩) p.m p.cap) ∧ w'.cell? ⟨g, o + i * 6, none⟩ = some (.int .i64 x.k) from ⟨(K.cell (World.block_lt_of_cell? wr _ a0) id).trans a0, (K.cell (World.block_lt_of_cell? wr _ a5) id).trans a5, (K.cell (World.block_lt_of_cell? wr _ r0) id).trans r0⟩))
      clear eB a5k hv hic hx hrw hy hz
      have l1 : decide ((i : Int) < (p.m : Int)) = true := decide_eq_true (by omega)
      have l2 : decide (i < p.m) = true := decide_eq_true hlt
      have hi0 : (0 : Int) ≤ (i : Int) := Int.natCast_nonneg _
      have j1 : (i : Int) < (p.m : Int) := by omega
      go_wp2_with fail
      refine (HC1.out _ (Keep.refl _ _)).mono ?_
      rintro e w5 ⟨rfl, k5⟩
      clear r0 r1 r2 r3 r4 r5 a0 a5
      obtain ⟨a0, a5, r0⟩ := HQ.out _ k5
      have HN3 := Lib.hid (HNX.out _ k5)
      clear k5
      by_cases h7 : r.k = 7
      · have s1 : (r.k == 7) = true := beq_iff_eq.2 h7
        by_cases hla : i + 1 = p.m
        · have s2 : ((i : Int) == (p.m : Int) - 1) = true := beq_iff_eq.2 (by omega)
          by_cases hx7 : x.k = 7
          · have s3 : (x.k == 7) = true := beq_iff_eq.2 hx7
            rw [if_pos ⟨h7, hla, hx7⟩] at hst
            subst hst
            clear h7 hx7 hla
            go_wp2_with fail
            go_roundw
            case rel => exact ⟨_, i + 1, by go_num, by go_num, HN3.out⟩
            case measure => simp only [intOf]; omega
          · have s3 : (x.k == 7) = false := beq_eq_false_iff_ne.2 hx7
            rw [if_neg (fun h => hx7 h.2.2)] at hst
            subst hst
            clear h7 hx7 hla
            go_wp2_with fail
            go_roundw
            case rel => exact ⟨_, i + 1, by go_num, by go_num, HN3.out⟩
            case measure => simp only [intOf]; omega
        · have s2 : ((i : Int) == (p.m : Int) - 1) = false := beq_eq_false_iff_ne.2 (by omega)
          rw [if_neg (fun h => hla h.2.1)] at hst
          subst hst
          clear h7 hla
          go_wp2_with fail
          go_roundw
          case rel => exact ⟨_, i + 1, by go_num, by go_num, HN3.out⟩
          case measure => simp only [intOf]; omega
      · have s1 : (r.k == 7) = false := beq_eq_false_iff_ne.2 h7
        rw [if_neg (fun h => h7 h.1)] at hst
        subst hst
        go_wp2_with fail
        go_roundw
        case rel => exact ⟨_, i + 1, by go_num, by go_num, HN3.out⟩
        case measure => simp only [intOf]; omega
    · have l1 : decide ((i : Int) < (p.m : Int)) = false := decide_eq_false (by omega)
      have l2 : decide (i < p.m) = false := decide_eq_false hlt
      have hd := HS2.out.d
      have hle := HS2.out.le
      rw [HL.out] at hle
      have hi : i = r.l.length := by rw [HL.out]; omega
      rw [hi] at hd
      have hdep := depth_eq r
      rw [← hd] at hdep
      clear hi
      by_cases h8 : r.k = 8
      · have s1 : (r.k == 8) = true := beq_iff_eq.2 h8
        rw [if_pos h8] at hdep
        have HDP := Lib.hid hdep
        clear hdep hd h8
        go_wp2_with fail
        go_ret
        exact ⟨by rw [HDP.out, Nat.max_comm]; go_num, HS2.out.K⟩
      · have s1 : (r.k == 8) = false := beq_eq_false_iff_ne.2 h8
        rw [if_neg h8, Nat.max_eq_right (Nat.zero_le _)] at hdep
        have HDP := Lib.hid hdep
        clear hdep hd
        go_wp2_with fail
        go_ret
        exact ⟨by rw [HDP.out]; rfl, HS2.out.K⟩
set_option maxRecDepth 100000 in
theorem depth_any {N P : Nat → Prop} {w : World} {r : Raw} {p : PV} (h : RawAt N P w r p) : depthR r ≤ 4000000000000000000 → ∀ (W : World), Keep (fun _ => False) w W → Calls Tryz.prog 33 #[rawV r p] W (fun e w9 => e = .returned (.int .i64 (depthR r : Int)) ∧ Keep (fun _ => False) W w9) := by
  induction h with
  | @mk r p num nP len mcap big vs row ch ih =>
    intro hD W hW
    exact depth_w (P := P) r p W _ hW (by omega) hD vs (Lib.hid row) (Lib.hid len) (Lib.hid (fun i hi w' K => ih i hi (Nat.le_trans (depth_item hi) hD) w' K))
end Go.Proofs.YtonnikipeokkaaaGreatDoor

namespace Go.Proofs.YtonnikipeokkaaaGreatDoor
open Go.RowKit Go.Lib

/-- May a datum be? -/
def mayR (r : Raw) : Bool := plainB r && decide (depthR r ≤ 64)
set_option maxRecDepth 100000 in
set_option maxHeartbeats 4000000 in
theorem rmayD_any {N P : Nat → Prop} {w : World} {r : Raw} {p : PV} (h : RawAt N P w r p) (hS : SmallR r) (hD : depthR r ≤ 4000000000000000000) : Calls Tryz.prog 22 #[rawV r p] w (BoolPost (mayR r) w) := by
  have HP := Lib.hid (fun (W : World) (K : Keep (fun _ => False) w W) => plain_any h hS W K)
  have HD := Lib.hid (fun (W : World) (K : Keep (fun _ => False) w W) => depth_any h hD W K)
  have hmay : mayR r = (plainB r && decide (depthR r ≤ 64)) := rfl
  obtain ⟨m, hm⟩ : ∃ m, m = mayR r := ⟨_, rfl⟩
  rw [← hm] at hmay ⊢
  clear hm
  generalize plainB r = b at HP hmay
  generalize depthR r = d at HD hmay
  have HM := Lib.hid hmay
  have hb1 : (w.alloc (.cells #[.int .i64 r.k, .int .i32 r.c, .bool r.neg, .slice p.A p.n p.cp, .string r.t, .slice p.B p.m p.cap] 27)).heap[w.heap.size]? = some (.cells #[.int .i64 r.k, .int .i32 r.c, .bool r.neg, .slice p.A p.n p.cp, .string r.t, .slice p.B p.m p.cap] 27 (0, 0)) := heap_alloc_new w _
  have HB1 := Lib.hid hb1
  have HK1 := Lib.hid (show Keep (fun _ => False) w (w.alloc (.cells #[.int .i64 r.k, .int .i32 r.c, .bool r.neg, .slice p.A p.n p.cp, .string r.t, .slice p.B p.m p.cap] 27)) from (Keep.refl _ _).alloc _)
  obtain ⟨a0, a1, a2, a3, a4, a5⟩ := dat_cells hb1
  clear hb1 h hS hD hmay
  go_enter Tryz.func22, Tryz.ntmps22
  go_wp2_with fail
  generalize w.alloc (.cells #[.int .i64 r.k, .int .i32 r.c, .bool r.neg, .slice p.A p.n p.cp, .string r.t, .slice p.B p.m p.cap] 27) = w1 at *
  refine (HP.out _ HK1.out).mono ?_
  rintro e w2 ⟨rfl, k2⟩
  have HB2 := Lib.hid (k2.heap HB1.out (by simp))
  have HK2 := Lib.hid (HK1.out.trans k2)
  clear a0 a1 a2 a3 a4 a5 k2
  obtain ⟨a0, a1, a2, a3, a4, a5⟩ := dat_cells HB2.out
  cases b with
  | false =>
    go_wp2_with fail
    go_ret
    exact ⟨by rw [HM.out]; rfl, HK2.out⟩
  | true =>
    go_wp2_with fail
    refine (HD.out _ HK2.out).mono ?_
    rintro e w3 ⟨rfl, k3⟩
    have HK3 := Lib.hid (HK2.out.trans k3)
    clear a0 a1 a2 a3 a4 a5 k3
    go_wp2_with fail
    go_ret
    exact ⟨by rw [HM.out, Bool.true_and]; go_num, HK3.out⟩
/-! ### what is read may be -/
end Go.Proofs.YtonnikipeokkaaaGreatDoor
