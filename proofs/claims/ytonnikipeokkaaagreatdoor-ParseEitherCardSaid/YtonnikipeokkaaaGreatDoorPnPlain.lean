/-
  The document's plain: may a datum be, but for its depth?  (Printed by gen_pplain.py.)
-/
import Derived.Test.YtonnikipeokkaaaGreatDoorPnBare
import Derived.Test.YtonnikipeokkaaaGreatDoorRlRunes
namespace Go.Proofs.YtonnikipeokkaaaGreatDoor
open Go.RowKit Go.Lib

/-- May a number be a char's? -/
def charI (c : Int) : Bool := decide (0 ≤ c) && charB c.toNat
/-- May a text be that of a string (of a symbol, if it must not be empty)? -/
def textB (o : Option (List Nat)) (sym : Bool) : Bool :=
  match o with
  | some r => decide (r.length ≤ 62) && (!sym || decide (0 < r.length))
  | none => false
mutual
/-- May a datum be, but for its depth? -/
def plainB : Raw → Bool
  | .mk k c neg mag t l =>
    if k = 0 ∨ k = 1 ∨ k = 2 ∨ k = 9 ∨ k = 10 then bareB false false false false (.mk k c neg mag t l)
    else if k = 3 then bareB true false false false (.mk k c neg mag t l) && charI c
    else if k = 4 then bareB false true false false (.mk k c neg mag t l) && mayB neg mag
    else if k = 5 then bareB false false true false (.mk k c neg mag t l) && textB (runesL t.data.toList) false
    else if k = 6 then bareB false false true false (.mk k c neg mag t l) && textB (runesL t.data.toList) true
    else if k = 7 then (bareB false false false true (.mk k c neg mag t l) && decide (l.length = 2)) && plainL l
    else if k = 8 then (bareB false false false true (.mk k c neg mag t l) && decide (l.length ≤ 62)) && plainL l
    else false
def plainL : List Raw → Bool
  | [] => true
  | x :: l => plainB x && plainL l
end
theorem plain_eq (r : Raw) : plainB r =
    if r.k = 0 ∨ r.k = 1 ∨ r.k = 2 ∨ r.k = 9 ∨ r.k = 10 then bareB false false false false r
    else if r.k = 3 then bareB true false false false r && charI r.c
    else if r.k = 4 then bareB false true false false r && mayB r.neg r.mag
    else if r.k = 5 then bareB false false true false r && textB (runesL r.t.data.toList) false
    else if r.k = 6 then bareB false false true false r && textB (runesL r.t.data.toList) true
    else if r.k = 7 then (bareB false false false true r && decide (r.l.length = 2)) && plainL r.l
    else if r.k = 8 then (bareB false false false true r && decide (r.l.length ≤ 62)) && plainL r.l
    else false := by
  cases r with
  | mk k c neg mag t l => rw [plainB]; rfl
theorem plainL_true {l : List Raw} : plainL l = true ↔ ∀ i (hi : i < l.length), plainB l[i] = true := by
  induction l with
  | nil => rw [plainL]; simp
  | cons x l ih =>
    rw [plainL, Bool.and_eq_true, ih]
    constructor
    · rintro ⟨h0, h⟩ i hi
      cases i with
      | zero => exact h0
      | succ i => exact h i (by simpa using hi)
    · intro h
      exact ⟨h 0 (by simp), fun i hi => h (i + 1) (by simpa using hi)⟩
theorem plainL_false {l : List Raw} {i : Nat} (hi : i < l.length) (h : plainB l[i] = false) : plainL l = false := by
  rw [Bool.eq_false_iff]
  intro hp
  rw [plainL_true.1 hp i hi] at h
  cases h
/-- A datum whose texts and numbers are not too long for the walk. -/
inductive SmallR : Raw → Prop
  | mk {r : Raw} (ht : r.t.size ≤ 1000000) (hm : r.mag.length ≤ 9000) (h : ∀ i (hi : i < r.l.length), SmallR r.l[i]) : SmallR r
set_option maxRecDepth 100000 in
set_option maxHeartbeats 2000000 in
theorem rcharI_any (c : Int) (w : World) : Calls Tryz.prog 75 #[.int .i32 c] w fun e w' => e = .returned (.bool (charI c)) ∧ w = w' := by
  by_cases h : 0 ≤ c
  · have e : charI c = charB c.toNat := by unfold charI; rw [decide_eq_true h, Bool.true_and]
    rw [e]
    exact rchar_any c.toNat c (by omega) w
  · have e : charI c = false := by unfold charI; rw [decide_eq_false h, Bool.false_and]
    have h0 : decide (0 ≤ c) = false := decide_eq_false h
    rw [e]
    clear e h
    go_enter Tryz.func75, Tryz.ntmps75
    go_wp2_with fail
    go_ret
    exact ⟨rfl, rfl⟩
set_option maxRecDepth 100000 in
set_option maxHeartbeats 4000000 in
theorem plain_A0 (r : Raw) (p : PV) (W : World) (s0 : (r.k == 0) = true) (b : Bool) (HB : Hid (∀ w1 : World, Calls Tryz.prog 74 #[rawV r p, .int .i64 0] w1 (BoolPost b w1))) : Calls Tryz.prog 46 #[rawV r p] W (BoolPost b W) := by
  have hb1 : (W.alloc (.cells #[.int .i64 r.k, .int .i32 r.c, .bool r.neg, .slice p.A p.n p.cp, .string r.t, .slice p.B p.m p.cap] 27)).heap[W.heap.size]? = some (.cells #[.int .i64 r.k, .int .i32 r.c, .bool r.neg, .slice p.A p.n p.cp, .string r.t, .slice p.B p.m p.cap] 27 (0, 0)) := heap_alloc_new W _
  have HB1 := Lib.hid hb1
  have HK1 := Lib.hid (show Keep (fun _ => False) W (W.alloc (.cells #[.int .i64 r.k, .int .i32 r.c, .bool r.neg, .slice p.A p.n p.cp, .string r.t, .slice p.B p.m p.cap] 27)) from (Keep.refl _ _).alloc _)
  obtain ⟨a0, a1, a2, a3, a4, a5⟩ := dat_cells hb1
  clear hb1
  go_enter Tryz.func46, Tryz.ntmps46
  go_wp2_with fail
  generalize W.alloc (.cells #[.int .i64 r.k, .int .i32 r.c, .bool r.neg, .slice p.A p.n p.cp, .string r.t, .slice p.B p.m p.cap] 27) = w1 at *
  refine (HB.out _).mono ?_
  rintro e w2 ⟨rfl, k2⟩
  have HB2 := Lib.hid (k2.heap HB1.out (by simp))
  have HK2 := Lib.hid (HK1.out.trans k2)
  clear a0 a1 a2 a3 a4 a5 k2
  obtain ⟨a0, a1, a2, a3, a4, a5⟩ := dat_cells HB2.out
  go_wp2_with fail
  go_ret
  exact ⟨rfl, HK2.out⟩
set_option maxRecDepth 100000 in
set_option maxHeartbeats 4000000 in
theorem plain_A1 (r : Raw) (p : PV) (W : World) (s0 : (r.k == 0) = false) (s1 : (r.k == 1) = true) (b : Bool) (HB : Hid (∀ w1 : World, Calls Tryz.prog 74 #[rawV r p, .int .i64 0] w1 (BoolPost b w1))) : Calls Tryz.prog 46 #[rawV r p] W (BoolPost b W) := by
  have hb1 : (W.alloc (.cells #[.int .i64 r.k, .int .i32 r.c, .bool r.neg, .slice p.A p.n p.cp, .string r.t, .slice p.B p.m p.cap] 27)).heap[W.heap.size]? = some (.cells #[.int .i64 r.k, .int .i32 r.c, .bool r.neg, .slice p.A p.n p.cp, .string r.t, .slice p.B p.m p.cap] 27 (0, 0)) := heap_alloc_new W _
  have HB1 := Lib.hid hb1
  have HK1 := Lib.hid (show Keep (fun _ => False) W (W.alloc (.cells #[.int .i64 r.k, .int .i32 r.c, .bool r.neg, .slice p.A p.n p.cp, .string r.t, .slice p.B p.m p.cap] 27)) from (Keep.refl _ _).alloc _)
  obtain ⟨a0, a1, a2, a3, a4, a5⟩ := dat_cells hb1
  clear hb1
  go_enter Tryz.func46, Tryz.ntmps46
  go_wp2_with fail
  generalize W.alloc (.cells #[.int .i64 r.k, .int .i32 r.c, .bool r.neg, .slice p.A p.n p.cp, .string r.t, .slice p.B p.m p.cap] 27) = w1 at *
  refine (HB.out _).mono ?_
  rintro e w2 ⟨rfl, k2⟩
  have HB2 := Lib.hid (k2.heap HB1.out (by simp))
  have HK2 := Lib.hid (HK1.out.trans k2)
  clear a0 a1 a2 a3 a4 a5 k2
  obtain ⟨a0, a1, a2, a3, a4, a5⟩ := dat_cells HB2.out
  go_wp2_with fail
  go_ret
  exact ⟨rfl, HK2.out⟩
set_option maxRecDepth 100000 in
set_option maxHeartbeats 4000000 in
theorem plain_A2 (r : Raw) (p : PV) (W : World) (s0 : (r.k == 0) = false) (s1 : (r.k == 1) = false) (s2 : (r.k == 2) = true) (b : Bool) (HB : Hid (∀ w1 : World, Calls Tryz.prog 74 #[rawV r p, .int .i64 0] w1 (BoolPost b w1))) : Calls Tryz.prog 46 #[rawV r p] W (BoolPost b W) := by
  have hb1 : (W.alloc (.cells #[.int .i64 r.k, .int .i32 r.c, .bool r.neg, .slice p.A p.n p.cp, .string r.t, .slice p.B p.m p.cap] 27)).heap[W.heap.size]? = some (.cells #[.int .i64 r.k, .int .i32 r.c, .bool r.neg, .slice p.A p.n p.cp, .string r.t, .slice p.B p.m p.cap] 27 (0, 0)) := heap_alloc_new W _
  have HB1 := Lib.hid hb1
  have HK1 := Lib.hid (show Keep (fun _ => False) W (W.alloc (.cells #[.int .i64 r.k, .int .i32 r.c, .bool r.neg, .slice p.A p.n p.cp, .string r.t, .slice p.B p.m p.cap] 27)) from (Keep.refl _ _).alloc _)
  obtain ⟨a0, a1, a2, a3, a4, a5⟩ := dat_cells hb1
  clear hb1
  go_enter Tryz.func46, Tryz.ntmps46
  go_wp2_with fail
  generalize W.alloc (.cells #[.int .i64 r.k, .int .i32 r.c, .bool r.neg, .slice p.A p.n p.cp, .string r.t, .slice p.B p.m p.cap] 27) = w1 at *
  refine (HB.out _).mono ?_
  rintro e w2 ⟨rfl, k2⟩
  have HB2 := Lib.hid (k2.heap HB1.out (by simp))
  have HK2 := Lib.hid (HK1.out.trans k2)
  clear a0 a1 a2 a3 a4 a5 k2
  obtain ⟨a0, a1, a2, a3, a4, a5⟩ := dat_cells HB2.out
  go_wp2_with fail
  go_ret
  exact ⟨rfl, HK2.out⟩
set_option maxRecDepth 100000 in
set_option maxHeartbeats 4000000 in
theorem plain_A9 (r : Raw) (p : PV) (W : World) (s0 : (r.k == 0) = false) (s1 : (r.k == 1) = false) (s2 : (r.k == 2) = false) (s9 : (r.k == 9) = true) (b : Bool) (HB : Hid (∀ w1 : World, Calls Tryz.prog 74 #[rawV r p, .int .i64 0] w1 (BoolPost b w1))) : Calls Tryz.prog 46 #[rawV r p] W (BoolPost b W) := by
  have hb1 : (W.alloc (.cells #[.int .i64 r.k, .int .i32 r.c, .bool r.neg, .slice p.A p.n p.cp, .string r.t, .slice p.B p.m p.cap] 27)).heap[W.heap.size]? = some (.cells #[.int .i64 r.k, .int .i32 r.c, .bool r.neg, .slice p.A p.n p.cp, .string r.t, .slice p.B p.m p.cap] 27 (0, 0)) := heap_alloc_new W _
  have HB1 := Lib.hid hb1
  have HK1 := Lib.hid (show Keep (fun _ => False) W (W.alloc (.cells #[.int .i64 r.k, .int .i32 r.c, .bool r.neg, .slice p.A p.n p.cp, .string r.t, .slice p.B p.m p.cap] 27)) from (Keep.refl _ _).alloc _)
  obtain ⟨a0, a1, a2, a3, a4, a5⟩ := dat_cells hb1
  clear hb1
  go_enter Tryz.func46, Tryz.ntmps46
  go_wp2_with fail
  generalize W.alloc (.cells #[.int .i64 r.k, .int .i32 r.c, .bool r.neg, .slice p.A p.n p.cp, .string r.t, .slice p.B p.m p.cap] 27) = w1 at *
  refine (HB.out _).mono ?_
  rintro e w2 ⟨rfl, k2⟩
  have HB2 := Lib.hid (k2.heap HB1.out (by simp))
  have HK2 := Lib.hid (HK1.out.trans k2)
  clear a0 a1 a2 a3 a4 a5 k2
  obtain ⟨a0, a1, a2, a3, a4, a5⟩ := dat_cells HB2.out
  go_wp2_with fail
  go_ret
  exact ⟨rfl, HK2.out⟩
set_option maxRecDepth 100000 in
set_option maxHeartbeats 4000000 in
theorem plain_A10 (r : Raw) (p : PV) (W : World) (s0 : (r.k == 0) = false) (s1 : (r.k == 1) = false) (s2 : (r.k == 2) = false) (s9 : (r.k == 9) = false) (s10 : (r.k == 10) = true) (b : Bool) (HB : Hid (∀ w1 : World, Calls Tryz.prog 74 #[rawV r p, .int .i64 0] w1 (BoolPost b w1))) : Calls Tryz.prog 46 #[rawV r p] W (BoolPost b W) := by
  have hb1 : (W.alloc (.cells #[.int .i64 r.k, .int .i32 r.c, .bool r.neg, .slice p.A p.n p.cp, .string r.t, .slice p.B p.m p.cap] 27)).heap[W.heap.size]? = some (.cells #[.int .i64 r.k, .int .i32 r.c, .bool r.neg, .slice p.A p.n p.cp, .string r.t, .slice p.B p.m p.cap] 27 (0, 0)) := heap_alloc_new W _
  have HB1 := Lib.hid hb1
  have HK1 := Lib.hid (show Keep (fun _ => False) W (W.alloc (.cells #[.int .i64 r.k, .int .i32 r.c, .bool r.neg, .slice p.A p.n p.cp, .string r.t, .slice p.B p.m p.cap] 27)) from (Keep.refl _ _).alloc _)
  obtain ⟨a0, a1, a2, a3, a4, a5⟩ := dat_cells hb1
  clear hb1
  go_enter Tryz.func46, Tryz.ntmps46
  go_wp2_with fail
  generalize W.alloc (.cells #[.int .i64 r.k, .int .i32 r.c, .bool r.neg, .slice p.A p.n p.cp, .string r.t, .slice p.B p.m p.cap] 27) = w1 at *
  refine (HB.out _).mono ?_
  rintro e w2 ⟨rfl, k2⟩
  have HB2 := Lib.hid (k2.heap HB1.out (by simp))
  have HK2 := Lib.hid (HK1.out.trans k2)
  clear a0 a1 a2 a3 a4 a5 k2
  obtain ⟨a0, a1, a2, a3, a4, a5⟩ := dat_cells HB2.out
  go_wp2_with fail
  go_ret
  exact ⟨rfl, HK2.out⟩
set_option maxRecDepth 100000 in
set_option maxHeartbeats 4000000 in
theorem plain_Bf (r : Raw) (p : PV) (W : World) (s0 : (r.k == 0) = false) (s1 : (r.k == 1) = false) (s2 : (r.k == 2) = false) (s9 : (r.k == 9) = false) (s10 : (r.k == 10) = false) (s3 : (r.k == 3) = true) (HB : Hid (∀ w1 : World, Calls Tryz.prog 74 #[rawV r p, .int .i64 1] w1 (BoolPost false w1))) : Calls Tryz.prog 46 #[rawV r p] W (BoolPost false W) := by
  have hb1 : (W.alloc (.cells #[.int .i64 r.k, .int .i32 r.c, .bool r.neg, .slice p.A p.n p.cp, .string r.t, .slice p.B p.m p.cap] 27)).heap[W.heap.size]? = some (.cells #[.int .i64 r.k, .int .i32 r.c, .bool r.neg, .slice p.A p.n p.cp, .string r.t, .slice p.B p.m p.cap] 27 (0, 0)) := heap_alloc_new W _
  have HB1 := Lib.hid hb1
  have HK1 := Lib.hid (show Keep (fun _ => False) W (W.alloc (.cells #[.int .i64 r.k, .int .i32 r.c, .bool r.neg, .slice p.A p.n p.cp, .string r.t, .slice p.B p.m p.cap] 27)) from (Keep.refl _ _).alloc _)
  obtain ⟨a0, a1, a2, a3, a4, a5⟩ := dat_cells hb1
  clear hb1
  go_enter Tryz.func46, Tryz.ntmps46
  go_wp2_with fail
  generalize W.alloc (.cells #[.int .i64 r.k, .int .i32 r.c, .bool r.neg, .slice p.A p.n p.cp, .string r.t, .slice p.B p.m p.cap] 27) = w1 at *
  refine (HB.out _).mono ?_
  rintro e w2 ⟨rfl, k2⟩
  have HB2 := Lib.hid (k2.heap HB1.out (by simp))
  have HK2 := Lib.hid (HK1.out.trans k2)
  clear a0 a1 a2 a3 a4 a5 k2
  obtain ⟨a0, a1, a2, a3, a4, a5⟩ := dat_cells HB2.out
  go_wp2_with fail
  go_ret
  exact ⟨rfl, HK2.out⟩
set_option maxRecDepth 100000 in
set_option maxHeartbeats 4000000 in
theorem plain_Bt (r : Raw) (p : PV) (W : World) (s0 : (r.k == 0) = false) (s1 : (r.k == 1) = false) (s2 : (r.k == 2) = false) (s9 : (r.k == 9) = false) (s10 : (r.k == 10) = false) (s3 : (r.k == 3) = true) (b : Bool) (HB : Hid (∀ w1 : World, Calls Tryz.prog 74 #[rawV r p, .int .i64 1] w1 (BoolPost true w1))) (HC : Hid (∀ w1 : World, Calls Tryz.prog 75 #[.int .i32 r.c] w1 (fun e w9 => e = .returned (.bool b) ∧ w1 = w9))) : Calls Tryz.prog 46 #[rawV r p] W (BoolPost b W) := by
  have hb1 : (W.alloc (.cells #[.int .i64 r.k, .int .i32 r.c, .bool r.neg, .slice p.A p.n p.cp, .string r.t, .slice p.B p.m p.cap] 27)).heap[W.heap.size]? = some (.cells #[.int .i64 r.k, .int .i32 r.c, .bool r.neg, .slice p.A p.n p.cp, .string r.t, .slice p.B p.m p.cap] 27 (0, 0)) := heap_alloc_new W _
  have HB1 := Lib.hid hb1
  have HK1 := Lib.hid (show Keep (fun _ => False) W (W.alloc (.cells #[.int .i64 r.k, .int .i32 r.c, .bool r.neg, .slice p.A p.n p.cp, .string r.t, .slice p.B p.m p.cap] 27)) from (Keep.refl _ _).alloc _)
  obtain ⟨a0, a1, a2, a3, a4, a5⟩ := dat_cells hb1
  clear hb1
  go_enter Tryz.func46, Tryz.ntmps46
  go_wp2_with fail
  generalize W.alloc (.cells #[.int .i64 r.k, .int .i32 r.c, .bool r.neg, .slice p.A p.n p.cp, .string r.t, .slice p.B p.m p.cap] 27) = w1 at *
  refine (HB.out _).mono ?_
  rintro e w2 ⟨rfl, k2⟩
  have HB2 := Lib.hid (k2.heap HB1.out (by simp))
  have HK2 := Lib.hid (HK1.out.trans k2)
  clear a0 a1 a2 a3 a4 a5 k2
  obtain ⟨a0, a1, a2, a3, a4, a5⟩ := dat_cells HB2.out
  go_wp2_with fail
  refine (HC.out _).mono ?_
  rintro e w3 ⟨rfl, rfl⟩
  go_wp2_with fail
  go_ret
  exact ⟨rfl, HK2.out⟩
set_option maxRecDepth 100000 in
set_option maxHeartbeats 4000000 in
theorem plain_Cf (r : Raw) (p : PV) (W : World) (s0 : (r.k == 0) = false) (s1 : (r.k == 1) = false) (s2 : (r.k == 2) = false) (s9 : (r.k == 9) = false) (s10 : (r.k == 10) = false) (s3 : (r.k == 3) = false) (s4 : (r.k == 4) = true) (HB : Hid (∀ w1 : World, Calls Tryz.prog 74 #[rawV r p, .int .i64 2] w1 (BoolPost false w1))) : Calls Tryz.prog 46 #[rawV r p] W (BoolPost false W) := by
  have hb1 : (W.alloc (.cells #[.int .i64 r.k, .int .i32 r.c, .bool r.neg, .slice p.A p.n p.cp, .string r.t, .slice p.B p.m p.cap] 27)).heap[W.heap.size]? = some (.cells #[.int .i64 r.k, .int .i32 r.c, .bool r.neg, .slice p.A p.n p.cp, .string r.t, .slice p.B p.m p.cap] 27 (0, 0)) := heap_alloc_new W _
  have HB1 := Lib.hid hb1
  have HK1 := Lib.hid (show Keep (fun _ => False) W (W.alloc (.cells #[.int .i64 r.k, .int .i32 r.c, .bool r.neg, .slice p.A p.n p.cp, .string r.t, .slice p.B p.m p.cap] 27)) from (Keep.refl _ _).alloc _)
  obtain ⟨a0, a1, a2, a3, a4, a5⟩ := dat_cells hb1
  clear hb1
  go_enter Tryz.func46, Tryz.ntmps46
  go_wp2_with fail
  generalize W.alloc (.cells #[.int .i64 r.k, .int .i32 r.c, .bool r.neg, .slice p.A p.n p.cp, .string r.t, .slice p.B p.m p.cap] 27) = w1 at *
  refine (HB.out _).mono ?_
  rintro e w2 ⟨rfl, k2⟩
  have HB2 := Lib.hid (k2.heap HB1.out (by simp))
  have HK2 := Lib.hid (HK1.out.trans k2)
  clear a0 a1 a2 a3 a4 a5 k2
  obtain ⟨a0, a1, a2, a3, a4, a5⟩ := dat_cells HB2.out
  go_wp2_with fail
  go_ret
  exact ⟨rfl, HK2.out⟩
set_option maxRecDepth 100000 in
set_option maxHeartbeats 4000000 in
theorem plain_Ct (r : Raw) (p : PV) (W : World) (s0 : (r.k == 0) = false) (s1 : (r.k == 1) = false) (s2 : (r.k == 2) = false) (s9 : (r.k == 9) = false) (s10 : (r.k == 10) = false) (s3 : (r.k == 3) = false) (s4 : (r.k == 4) = true) (b : Bool) (HB : Hid (∀ w1 : World, Calls Tryz.prog 74 #[rawV r p, .int .i64 2] w1 (BoolPost true w1))) (HC : Hid (∀ w1 : World, Keep (fun _ => False) W w1 → Calls Tryz.prog 76 #[numArg r.neg p.A p.n p.cp] w1 (BoolPost b w1))) : Calls Tryz.prog 46 #[rawV r p] W (BoolPost b W) := by
  have hb1 : (W.alloc (.cells #[.int .i64 r.k, .int .i32 r.c, .bool r.neg, .slice p.A p.n p.cp, .string r.t, .slice p.B p.m p.cap] 27)).heap[W.heap.size]? = some (.cells #[.int .i64 r.k, .int .i32 r.c, .bool r.neg, .slice p.A p.n p.cp, .string r.t, .slice p.B p.m p.cap] 27 (0, 0)) := heap_alloc_new W _
  have HB1 := Lib.hid hb1
  have HK1 := Lib.hid (show Keep (fun _ => False) W (W.alloc (.cells #[.int .i64 r.k, .int .i32 r.c, .bool r.neg, .slice p.A p.n p.cp, .string r.t, .slice p.B p.m p.cap] 27)) from (Keep.refl _ _).alloc _)
  obtain ⟨a0, a1, a2, a3, a4, a5⟩ := dat_cells hb1
  clear hb1
  go_enter Tryz.func46, Tryz.ntmps46
  go_wp2_with fail
  generalize W.alloc (.cells #[.int .i64 r.k, .int .i32 r.c, .bool r.neg, .slice p.A p.n p.cp, .string r.t, .slice p.B p.m p.cap] 27) = w1 at *
  refine (HB.out _).mono ?_
  rintro e w2 ⟨rfl, k2⟩
  have HB2 := Lib.hid (k2.heap HB1.out (by simp))
  have HK2 := Lib.hid (HK1.out.trans k2)
  clear a0 a1 a2 a3 a4 a5 k2
  obtain ⟨a0, a1, a2, a3, a4, a5⟩ := dat_cells HB2.out
  go_wp2_with fail
  refine (HC.out _ HK2.out).mono ?_
  rintro e w3 ⟨rfl, k2⟩
  have HB3 := Lib.hid (k2.heap HB2.out (by simp))
  have HK3 := Lib.hid (HK2.out.trans k2)
  clear a0 a1 a2 a3 a4 a5 k2
  obtain ⟨a0, a1, a2, a3, a4, a5⟩ := dat_cells HB3.out
  go_wp2_with fail
  go_ret
  exact ⟨rfl, HK3.out⟩
set_option maxRecDepth 100000 in
set_option maxHeartbeats 4000000 in
theorem plain_D5nf (r : Raw) (p : PV) (W : World) (s0 : (r.k == 0) = false) (s1 : (r.k == 1) = false) (s2 : (r.k == 2) = false) (s9 : (r.k == 9) = false) (s10 : (r.k == 10) = false) (s3 : (r.k == 3) = false) (s4 : (r.k == 4) = false) (s5 : (r.k == 5) = true) (HR : Hid (∀ w1 : World, Calls Tryz.prog 63 #[.string r.t] w1 (fun e w9 => e = .returned (.tuple #[.slice none 0 0, .bool false]) ∧ Keep (fun _ => False) w1 w9))) (HB : Hid (∀ w1 : World, Calls Tryz.prog 74 #[rawV r p, .int .i64 4] w1 (BoolPost false w1)))  : Calls Tryz.prog 46 #[rawV r p] W (BoolPost false W) := by
  have hb1 : (W.alloc (.cells #[.int .i64 r.k, .int .i32 r.c, .bool r.neg, .slice p.A p.n p.cp, .string r.t, .slice p.B p.m p.cap] 27)).heap[W.heap.size]? = some (.cells #[.int .i64 r.k, .int .i32 r.c, .bool r.neg, .slice p.A p.n p.cp, .string r.t, .slice p.B p.m p.cap] 27 (0, 0)) := heap_alloc_new W _
  have HB1 := Lib.hid hb1
  have HK1 := Lib.hid (show Keep (fun _ => False) W (W.alloc (.cells #[.int .i64 r.k, .int .i32 r.c, .bool r.neg, .slice p.A p.n p.cp, .string r.t, .slice p.B p.m p.cap] 27)) from (Keep.refl _ _).alloc _)
  obtain ⟨a0, a1, a2, a3, a4, a5⟩ := dat_cells hb1
  clear hb1
  go_enter Tryz.func46, Tryz.ntmps46
  go_wp2_with fail
  generalize W.alloc (.cells #[.int .i64 r.k, .int .i32 r.c, .bool r.neg, .slice p.A p.n p.cp, .string r.t, .slice p.B p.m p.cap] 27) = w1 at *
  refine (HR.out _).mono ?_
  rintro e w2 ⟨rfl, k2⟩
  have HB2 := Lib.hid (k2.heap HB1.out (by simp))
  have HK2 := Lib.hid (HK1.out.trans k2)
  clear a0 a1 a2 a3 a4 a5 k2
  obtain ⟨a0, a1, a2, a3, a4, a5⟩ := dat_cells HB2.out
  go_wp2_with fail
  refine (HB.out _).mono ?_
  rintro e w3 ⟨rfl, k2⟩
  have HB3 := Lib.hid (k2.heap HB2.out (by simp))
  have HK3 := Lib.hid (HK2.out.trans k2)
  clear a0 a1 a2 a3 a4 a5 k2
  obtain ⟨a0, a1, a2, a3, a4, a5⟩ := dat_cells HB3.out
  go_wp2_with fail
  go_ret
  exact ⟨rfl, HK3.out⟩
set_option maxRecDepth 100000 in
set_option maxHeartbeats 4000000 in
theorem plain_D5nt (r : Raw) (p : PV) (W : World) (s0 : (r.k == 0) = false) (s1 : (r.k == 1) = false) (s2 : (r.k == 2) = false) (s9 : (r.k == 9) = false) (s10 : (r.k == 10) = false) (s3 : (r.k == 3) = false) (s4 : (r.k == 4) = false) (s5 : (r.k == 5) = true) (HR : Hid (∀ w1 : World, Calls Tryz.prog 63 #[.string r.t] w1 (fun e w9 => e = .returned (.tuple #[.slice none 0 0, .bool false]) ∧ Keep (fun _ => False) w1 w9))) (HB : Hid (∀ w1 : World, Calls Tryz.prog 74 #[rawV r p, .int .i64 4] w1 (BoolPost true w1)))  : Calls Tryz.prog 46 #[rawV r p] W (BoolPost false W) := by
  have hb1 : (W.alloc (.cells #[.int .i64 r.k, .int .i32 r.c, .bool r.neg, .slice p.A p.n p.cp, .string r.t, .slice p.B p.m p.cap] 27)).heap[W.heap.size]? = some (.cells #[.int .i64 r.k, .int .i32 r.c, .bool r.neg, .slice p.A p.n p.cp, .string r.t, .slice p.B p.m p.cap] 27 (0, 0)) := heap_alloc_new W _
  have HB1 := Lib.hid hb1
  have HK1 := Lib.hid (show Keep (fun _ => False) W (W.alloc (.cells #[.int .i64 r.k, .int .i32 r.c, .bool r.neg, .slice p.A p.n p.cp, .string r.t, .slice p.B p.m p.cap] 27)) from (Keep.refl _ _).alloc _)
  obtain ⟨a0, a1, a2, a3, a4, a5⟩ := dat_cells hb1
  clear hb1
  go_enter Tryz.func46, Tryz.ntmps46
  go_wp2_with fail
  generalize W.alloc (.cells #[.int .i64 r.k, .int .i32 r.c, .bool r.neg, .slice p.A p.n p.cp, .string r.t, .slice p.B p.m p.cap] 27) = w1 at *
  refine (HR.out _).mono ?_
  rintro e w2 ⟨rfl, k2⟩
  have HB2 := Lib.hid (k2.heap HB1.out (by simp))
  have HK2 := Lib.hid (HK1.out.trans k2)
  clear a0 a1 a2 a3 a4 a5 k2
  obtain ⟨a0, a1, a2, a3, a4, a5⟩ := dat_cells HB2.out
  go_wp2_with fail
  refine (HB.out _).mono ?_
  rintro e w3 ⟨rfl, k2⟩
  have HB3 := Lib.hid (k2.heap HB2.out (by simp))
  have HK3 := Lib.hid (HK2.out.trans k2)
  clear a0 a1 a2 a3 a4 a5 k2
  obtain ⟨a0, a1, a2, a3, a4, a5⟩ := dat_cells HB3.out
  go_wp2_with fail
  go_ret
  exact ⟨rfl, HK3.out⟩
set_option maxRecDepth 100000 in
set_option maxHeartbeats 4000000 in
theorem plain_D5sf (r : Raw) (p : PV) (W : World) (s0 : (r.k == 0) = false) (s1 : (r.k == 1) = false) (s2 : (r.k == 2) = false) (s9 : (r.k == 9) = false) (s10 : (r.k == 10) = false) (s3 : (r.k == 3) = false) (s4 : (r.k == 4) = false) (s5 : (r.k == 5) = true) (n : Nat) (HR : Hid (∀ w1 : World, Calls Tryz.prog 63 #[.string r.t] w1 (fun e w9 => (∃ A c, e = .returned (.tuple #[.slice A n c, .bool true])) ∧ Keep (fun _ => False) w1 w9))) (HB : Hid (∀ w1 : World, Calls Tryz.prog 74 #[rawV r p, .int .i64 4] w1 (BoolPost false w1)))  : Calls Tryz.prog 46 #[rawV r p] W (BoolPost false W) := by
  have hb1 : (W.alloc (.cells #[.int .i64 r.k, .int .i32 r.c, .bool r.neg, .slice p.A p.n p.cp, .string r.t, .slice p.B p.m p.cap] 27)).heap[W.heap.size]? = some (.cells #[.int .i64 r.k, .int .i32 r.c, .bool r.neg, .slice p.A p.n p.cp, .string r.t, .slice p.B p.m p.cap] 27 (0, 0)) := heap_alloc_new W _
  have HB1 := Lib.hid hb1
  have HK1 := Lib.hid (show Keep (fun _ => False) W (W.alloc (.cells #[.int .i64 r.k, .int .i32 r.c, .bool r.neg, .slice p.A p.n p.cp, .string r.t, .slice p.B p.m p.cap] 27)) from (Keep.refl _ _).alloc _)
  obtain ⟨a0, a1, a2, a3, a4, a5⟩ := dat_cells hb1
  clear hb1
  go_enter Tryz.func46, Tryz.ntmps46
  go_wp2_with fail
  generalize W.alloc (.cells #[.int .i64 r.k, .int .i32 r.c, .bool r.neg, .slice p.A p.n p.cp, .string r.t, .slice p.B p.m p.cap] 27) = w1 at *
  refine (HR.out _).mono ?_
  rintro e w2 ⟨⟨A, c, rfl⟩, k2⟩
  have HB2 := Lib.hid (k2.heap HB1.out (by simp))
  have HK2 := Lib.hid (HK1.out.trans k2)
  clear a0 a1 a2 a3 a4 a5 k2
  obtain ⟨a0, a1, a2, a3, a4, a5⟩ := dat_cells HB2.out
  go_wp2_with fail
  refine (HB.out _).mono ?_
  rintro e w3 ⟨rfl, k2⟩
  have HB3 := Lib.hid (k2.heap HB2.out (by simp))
  have HK3 := Lib.hid (HK2.out.trans k2)
  clear a0 a1 a2 a3 a4 a5 k2
  obtain ⟨a0, a1, a2, a3, a4, a5⟩ := dat_cells HB3.out
  go_wp2_with fail
  go_ret
  exact ⟨rfl, HK3.out⟩
set_option maxRecDepth 100000 in
set_option maxHeartbeats 4000000 in
theorem plain_D5stL (r : Raw) (p : PV) (W : World) (s0 : (r.k == 0) = false) (s1 : (r.k == 1) = false) (s2 : (r.k == 2) = false) (s9 : (r.k == 9) = false) (s10 : (r.k == 10) = false) (s3 : (r.k == 3) = false) (s4 : (r.k == 4) = false) (s5 : (r.k == 5) = true) (n : Nat) (HR : Hid (∀ w1 : World, Calls Tryz.prog 63 #[.string r.t] w1 (fun e w9 => (∃ A c, e = .returned (.tuple #[.slice A n c, .bool true])) ∧ Keep (fun _ => False) w1 w9))) (HB : Hid (∀ w1 : World, Calls Tryz.prog 74 #[rawV r p, .int .i64 4] w1 (BoolPost true w1))) (hL : decide ((n : Int) ≤ 62) = false) : Calls Tryz.prog 46 #[rawV r p] W (BoolPost false W) := by
  have hb1 : (W.alloc (.cells #[.int .i64 r.k, .int .i32 r.c, .bool r.neg, .slice p.A p.n p.cp, .string r.t, .slice p.B p.m p.cap] 27)).heap[W.heap.size]? = some (.cells #[.int .i64 r.k, .int .i32 r.c, .bool r.neg, .slice p.A p.n p.cp, .string r.t, .slice p.B p.m p.cap] 27 (0, 0)) := heap_alloc_new W _
  have HB1 := Lib.hid hb1
  have HK1 := Lib.hid (show Keep (fun _ => False) W (W.alloc (.cells #[.int .i64 r.k, .int .i32 r.c, .bool r.neg, .slice p.A p.n p.cp, .string r.t, .slice p.B p.m p.cap] 27)) from (Keep.refl _ _).alloc _)
  obtain ⟨a0, a1, a2, a3, a4, a5⟩ := dat_cells hb1
  clear hb1
  go_enter Tryz.func46, Tryz.ntmps46
  go_wp2_with fail
  generalize W.alloc (.cells #[.int .i64 r.k, .int .i32 r.c, .bool r.neg, .slice p.A p.n p.cp, .string r.t, .slice p.B p.m p.cap] 27) = w1 at *
  refine (HR.out _).mono ?_
  rintro e w2 ⟨⟨A, c, rfl⟩, k2⟩
  have HB2 := Lib.hid (k2.heap HB1.out (by simp))
  have HK2 := Lib.hid (HK1.out.trans k2)
  clear a0 a1 a2 a3 a4 a5 k2
  obtain ⟨a0, a1, a2, a3, a4, a5⟩ := dat_cells HB2.out
  go_wp2_with fail
  refine (HB.out _).mono ?_
  rintro e w3 ⟨rfl, k2⟩
  have HB3 := Lib.hid (k2.heap HB2.out (by simp))
  have HK3 := Lib.hid (HK2.out.trans k2)
  clear a0 a1 a2 a3 a4 a5 k2
  obtain ⟨a0, a1, a2, a3, a4, a5⟩ := dat_cells HB3.out
  go_wp2_with fail
  go_ret
  exact ⟨rfl, HK3.out⟩
set_option maxRecDepth 100000 in
set_option maxHeartbeats 4000000 in
theorem plain_D5stY (r : Raw) (p : PV) (W : World) (s0 : (r.k == 0) = false) (s1 : (r.k == 1) = false) (s2 : (r.k == 2) = false) (s9 : (r.k == 9) = false) (s10 : (r.k == 10) = false) (s3 : (r.k == 3) = false) (s4 : (r.k == 4) = false) (s5 : (r.k == 5) = true) (n : Nat) (HR : Hid (∀ w1 : World, Calls Tryz.prog 63 #[.string r.t] w1 (fun e w9 => (∃ A c, e = .returned (.tuple #[.slice A n c, .bool true])) ∧ Keep (fun _ => False) w1 w9))) (HB : Hid (∀ w1 : World, Calls Tryz.prog 74 #[rawV r p, .int .i64 4] w1 (BoolPost true w1))) (hL : (n : Int) ≤ 62) : Calls Tryz.prog 46 #[rawV r p] W (BoolPost true W) := by
  have hb1 : (W.alloc (.cells #[.int .i64 r.k, .int .i32 r.c, .bool r.neg, .slice p.A p.n p.cp, .string r.t, .slice p.B p.m p.cap] 27)).heap[W.heap.size]? = some (.cells #[.int .i64 r.k, .int .i32 r.c, .bool r.neg, .slice p.A p.n p.cp, .string r.t, .slice p.B p.m p.cap] 27 (0, 0)) := heap_alloc_new W _
  have HB1 := Lib.hid hb1
  have HK1 := Lib.hid (show Keep (fun _ => False) W (W.alloc (.cells #[.int .i64 r.k, .int .i32 r.c, .bool r.neg, .slice p.A p.n p.cp, .string r.t, .slice p.B p.m p.cap] 27)) from (Keep.refl _ _).alloc _)
  obtain ⟨a0, a1, a2, a3, a4, a5⟩ := dat_cells hb1
  clear hb1
  go_enter Tryz.func46, Tryz.ntmps46
  go_wp2_with fail
  generalize W.alloc (.cells #[.int .i64 r.k, .int .i32 r.c, .bool r.neg, .slice p.A p.n p.cp, .string r.t, .slice p.B p.m p.cap] 27) = w1 at *
  refine (HR.out _).mono ?_
  rintro e w2 ⟨⟨A, c, rfl⟩, k2⟩
  have HB2 := Lib.hid (k2.heap HB1.out (by simp))
  have HK2 := Lib.hid (HK1.out.trans k2)
  clear a0 a1 a2 a3 a4 a5 k2
  obtain ⟨a0, a1, a2, a3, a4, a5⟩ := dat_cells HB2.out
  go_wp2_with fail
  refine (HB.out _).mono ?_
  rintro e w3 ⟨rfl, k2⟩
  have HB3 := Lib.hid (k2.heap HB2.out (by simp))
  have HK3 := Lib.hid (HK2.out.trans k2)
  clear a0 a1 a2 a3 a4 a5 k2
  obtain ⟨a0, a1, a2, a3, a4, a5⟩ := dat_cells HB3.out
  go_wp2_with fail
  go_ret
  exact ⟨rfl, HK3.out⟩
set_option maxRecDepth 100000 in
set_option maxHeartbeats 4000000 in
theorem plain_D6nf (r : Raw) (p : PV) (W : World) (s0 : (r.k == 0) = false) (s1 : (r.k == 1) = false) (s2 : (r.k == 2) = false) (s9 : (r.k == 9) = false) (s10 : (r.k == 10) = false) (s3 : (r.k == 3) = false) (s4 : (r.k == 4) = false) (s5 : (r.k == 5) = false) (s6 : (r.k == 6) = true) (HR : Hid (∀ w1 : World, Calls Tryz.prog 63 #[.string r.t] w1 (fun e w9 => e = .returned (.tuple #[.slice none 0 0, .bool false]) ∧ Keep (fun _ => False) w1 w9))) (HB : Hid (∀ w1 : World, Calls Tryz.prog 74 #[rawV r p, .int .i64 4] w1 (BoolPost false w1)))  : Calls Tryz.prog 46 #[rawV r p] W (BoolPost false W) := by
  have hb1 : (W.alloc (.cells #[.int .i64 r.k, .int .i32 r.c, .bool r.neg, .slice p.A p.n p.cp, .string r.t, .slice p.B p.m p.cap] 27)).heap[W.heap.size]? = some (.cells #[.int .i64 r.k, .int .i32 r.c, .bool r.neg, .slice p.A p.n p.cp, .string r.t, .slice p.B p.m p.cap] 27 (0, 0)) := heap_alloc_new W _
  have HB1 := Lib.hid hb1
  have HK1 := Lib.hid (show Keep (fun _ => False) W (W.alloc (.cells #[.int .i64 r.k, .int .i32 r.c, .bool r.neg, .slice p.A p.n p.cp, .string r.t, .slice p.B p.m p.cap] 27)) from (Keep.refl _ _).alloc _)
  obtain ⟨a0, a1, a2, a3, a4, a5⟩ := dat_cells hb1
  clear hb1
  go_enter Tryz.func46, Tryz.ntmps46
  go_wp2_with fail
  generalize W.alloc (.cells #[.int .i64 r.k, .int .i32 r.c, .bool r.neg, .slice p.A p.n p.cp, .string r.t, .slice p.B p.m p.cap] 27) = w1 at *
  refine (HR.out _).mono ?_
  rintro e w2 ⟨rfl, k2⟩
  have HB2 := Lib.hid (k2.heap HB1.out (by simp))
  have HK2 := Lib.hid (HK1.out.trans k2)
  clear a0 a1 a2 a3 a4 a5 k2
  obtain ⟨a0, a1, a2, a3, a4, a5⟩ := dat_cells HB2.out
  go_wp2_with fail
  refine (HB.out _).mono ?_
  rintro e w3 ⟨rfl, k2⟩
  have HB3 := Lib.hid (k2.heap HB2.out (by simp))
  have HK3 := Lib.hid (HK2.out.trans k2)
  clear a0 a1 a2 a3 a4 a5 k2
  obtain ⟨a0, a1, a2, a3, a4, a5⟩ := dat_cells HB3.out
  go_wp2_with fail
  go_ret
  exact ⟨rfl, HK3.out⟩
set_option maxRecDepth 100000 in
set_option maxHeartbeats 4000000 in
theorem plain_D6nt (r : Raw) (p : PV) (W : World) (s0 : (r.k == 0) = false) (s1 : (r.k == 1) = false) (s2 : (r.k == 2) = false) (s9 : (r.k == 9) = false) (s10 : (r.k == 10) = false) (s3 : (r.k == 3) = false) (s4 : (r.k == 4) = false) (s5 : (r.k == 5) = false) (s6 : (r.k == 6) = true) (HR : Hid (∀ w1 : World, Calls Tryz.prog 63 #[.string r.t] w1 (fun e w9 => e = .returned (.tuple #[.slice none 0 0, .bool false]) ∧ Keep (fun _ => False) w1 w9))) (HB : Hid (∀ w1 : World, Calls Tryz.prog 74 #[rawV r p, .int .i64 4] w1 (BoolPost true w1)))  : Calls Tryz.prog 46 #[rawV r p] W (BoolPost false W) := by
  have hb1 : (W.alloc (.cells #[.int .i64 r.k, .int .i32 r.c, .bool r.neg, .slice p.A p.n p.cp, .string r.t, .slice p.B p.m p.cap] 27)).heap[W.heap.size]? = some (.cells #[.int .i64 r.k, .int .i32 r.c, .bool r.neg, .slice p.A p.n p.cp, .string r.t, .slice p.B p.m p.cap] 27 (0, 0)) := heap_alloc_new W _
  have HB1 := Lib.hid hb1
  have HK1 := Lib.hid (show Keep (fun _ => False) W (W.alloc (.cells #[.int .i64 r.k, .int .i32 r.c, .bool r.neg, .slice p.A p.n p.cp, .string r.t, .slice p.B p.m p.cap] 27)) from (Keep.refl _ _).alloc _)
  obtain ⟨a0, a1, a2, a3, a4, a5⟩ := dat_cells hb1
  clear hb1
  go_enter Tryz.func46, Tryz.ntmps46
  go_wp2_with fail
  generalize W.alloc (.cells #[.int .i64 r.k, .int .i32 r.c, .bool r.neg, .slice p.A p.n p.cp, .string r.t, .slice p.B p.m p.cap] 27) = w1 at *
  refine (HR.out _).mono ?_
  rintro e w2 ⟨rfl, k2⟩
  have HB2 := Lib.hid (k2.heap HB1.out (by simp))
  have HK2 := Lib.hid (HK1.out.trans k2)
  clear a0 a1 a2 a3 a4 a5 k2
  obtain ⟨a0, a1, a2, a3, a4, a5⟩ := dat_cells HB2.out
  go_wp2_with fail
  refine (HB.out _).mono ?_
  rintro e w3 ⟨rfl, k2⟩
  have HB3 := Lib.hid (k2.heap HB2.out (by simp))
  have HK3 := Lib.hid (HK2.out.trans k2)
  clear a0 a1 a2 a3 a4 a5 k2
  obtain ⟨a0, a1, a2, a3, a4, a5⟩ := dat_cells HB3.out
  go_wp2_with fail
  go_ret
  exact ⟨rfl, HK3.out⟩
set_option maxRecDepth 100000 in
set_option maxHeartbeats 4000000 in
theorem plain_D6sf (r : Raw) (p : PV) (W : World) (s0 : (r.k == 0) = false) (s1 : (r.k == 1) = false) (s2 : (r.k == 2) = false) (s9 : (r.k == 9) = false) (s10 : (r.k == 10) = false) (s3 : (r.k == 3) = false) (s4 : (r.k == 4) = false) (s5 : (r.k == 5) = false) (s6 : (r.k == 6) = true) (n : Nat) (HR : Hid (∀ w1 : World, Calls Tryz.prog 63 #[.string r.t] w1 (fun e w9 => (∃ A c, e = .returned (.tuple #[.slice A n c, .bool true])) ∧ Keep (fun _ => False) w1 w9))) (HB : Hid (∀ w1 : World, Calls Tryz.prog 74 #[rawV r p, .int .i64 4] w1 (BoolPost false w1)))  : Calls Tryz.prog 46 #[rawV r p] W (BoolPost false W) := by
  have hb1 : (W.alloc (.cells #[.int .i64 r.k, .int .i32 r.c, .bool r.neg, .slice p.A p.n p.cp, .string r.t, .slice p.B p.m p.cap] 27)).heap[W.heap.size]? = some (.cells #[.int .i64 r.k, .int .i32 r.c, .bool r.neg, .slice p.A p.n p.cp, .string r.t, .slice p.B p.m p.cap] 27 (0, 0)) := heap_alloc_new W _
  have HB1 := Lib.hid hb1
  have HK1 := Lib.hid (show Keep (fun _ => False) W (W.alloc (.cells #[.int .i64 r.k, .int .i32 r.c, .bool r.neg, .slice p.A p.n p.cp, .string r.t, .slice p.B p.m p.cap] 27)) from (Keep.refl _ _).alloc _)
  obtain ⟨a0, a1, a2, a3, a4, a5⟩ := dat_cells hb1
  clear hb1
  go_enter Tryz.func46, Tryz.ntmps46
  go_wp2_with fail
  generalize W.alloc (.cells #[.int .i64 r.k, .int .i32 r.c, .bool r.neg, .slice p.A p.n p.cp, .string r.t, .slice p.B p.m p.cap] 27) = w1 at *
  refine (HR.out _).mono ?_
  rintro e w2 ⟨⟨A, c, rfl⟩, k2⟩
  have HB2 := Lib.hid (k2.heap HB1.out (by simp))
  have HK2 := Lib.hid (HK1.out.trans k2)
  clear a0 a1 a2 a3 a4 a5 k2
  obtain ⟨a0, a1, a2, a3, a4, a5⟩ := dat_cells HB2.out
  go_wp2_with fail
  refine (HB.out _).mono ?_
  rintro e w3 ⟨rfl, k2⟩
  have HB3 := Lib.hid (k2.heap HB2.out (by simp))
  have HK3 := Lib.hid (HK2.out.trans k2)
  clear a0 a1 a2 a3 a4 a5 k2
  obtain ⟨a0, a1, a2, a3, a4, a5⟩ := dat_cells HB3.out
  go_wp2_with fail
  go_ret
  exact ⟨rfl, HK3.out⟩
set_option maxRecDepth 100000 in
set_option maxHeartbeats 4000000 in
theorem plain_D6stL (r : Raw) (p : PV) (W : World) (s0 : (r.k == 0) = false) (s1 : (r.k == 1) = false) (s2 : (r.k == 2) = false) (s9 : (r.k == 9) = false) (s10 : (r.k == 10) = false) (s3 : (r.k == 3) = false) (s4 : (r.k == 4) = false) (s5 : (r.k == 5) = false) (s6 : (r.k == 6) = true) (n : Nat) (HR : Hid (∀ w1 : World, Calls Tryz.prog 63 #[.string r.t] w1 (fun e w9 => (∃ A c, e = .returned (.tuple #[.slice A n c, .bool true])) ∧ Keep (fun _ => False) w1 w9))) (HB : Hid (∀ w1 : World, Calls Tryz.prog 74 #[rawV r p, .int .i64 4] w1 (BoolPost true w1))) (hL : decide ((n : Int) ≤ 62) = false) : Calls Tryz.prog 46 #[rawV r p] W (BoolPost false W) := by
  have hb1 : (W.alloc (.cells #[.int .i64 r.k, .int .i32 r.c, .bool r.neg, .slice p.A p.n p.cp, .string r.t, .slice p.B p.m p.cap] 27)).heap[W.heap.size]? = some (.cells #[.int .i64 r.k, .int .i32 r.c, .bool r.neg, .slice p.A p.n p.cp, .string r.t, .slice p.B p.m p.cap] 27 (0, 0)) := heap_alloc_new W _
  have HB1 := Lib.hid hb1
  have HK1 := Lib.hid (show Keep (fun _ => False) W (W.alloc (.cells #[.int .i64 r.k, .int .i32 r.c, .bool r.neg, .slice p.A p.n p.cp, .string r.t, .slice p.B p.m p.cap] 27)) from (Keep.refl _ _).alloc _)
  obtain ⟨a0, a1, a2, a3, a4, a5⟩ := dat_cells hb1
  clear hb1
  go_enter Tryz.func46, Tryz.ntmps46
  go_wp2_with fail
  generalize W.alloc (.cells #[.int .i64 r.k, .int .i32 r.c, .bool r.neg, .slice p.A p.n p.cp, .string r.t, .slice p.B p.m p.cap] 27) = w1 at *
  refine (HR.out _).mono ?_
  rintro e w2 ⟨⟨A, c, rfl⟩, k2⟩
  have HB2 := Lib.hid (k2.heap HB1.out (by simp))
  have HK2 := Lib.hid (HK1.out.trans k2)
  clear a0 a1 a2 a3 a4 a5 k2
  obtain ⟨a0, a1, a2, a3, a4, a5⟩ := dat_cells HB2.out
  go_wp2_with fail
  refine (HB.out _).mono ?_
  rintro e w3 ⟨rfl, k2⟩
  have HB3 := Lib.hid (k2.heap HB2.out (by simp))
  have HK3 := Lib.hid (HK2.out.trans k2)
  clear a0 a1 a2 a3 a4 a5 k2
  obtain ⟨a0, a1, a2, a3, a4, a5⟩ := dat_cells HB3.out
  go_wp2_with fail
  go_ret
  exact ⟨rfl, HK3.out⟩
set_option maxRecDepth 100000 in
set_option maxHeartbeats 4000000 in
theorem plain_D6stZ (r : Raw) (p : PV) (W : World) (s0 : (r.k == 0) = false) (s1 : (r.k == 1) = false) (s2 : (r.k == 2) = false) (s9 : (r.k == 9) = false) (s10 : (r.k == 10) = false) (s3 : (r.k == 3) = false) (s4 : (r.k == 4) = false) (s5 : (r.k == 5) = false) (s6 : (r.k == 6) = true) (n : Nat) (HR : Hid (∀ w1 : World, Calls Tryz.prog 63 #[.string r.t] w1 (fun e w9 => (∃ A c, e = .returned (.tuple #[.slice A n c, .bool true])) ∧ Keep (fun _ => False) w1 w9))) (HB : Hid (∀ w1 : World, Calls Tryz.prog 74 #[rawV r p, .int .i64 4] w1 (BoolPost true w1))) (hL : (n : Int) ≤ 62) (h0 : decide (0 < n) = false) : Calls Tryz.prog 46 #[rawV r p] W (BoolPost false W) := by
  have hb1 : (W.alloc (.cells #[.int .i64 r.k, .int .i32 r.c, .bool r.neg, .slice p.A p.n p.cp, .string r.t, .slice p.B p.m p.cap] 27)).heap[W.heap.size]? = some (.cells #[.int .i64 r.k, .int .i32 r.c, .bool r.neg, .slice p.A p.n p.cp, .string r.t, .slice p.B p.m p.cap] 27 (0, 0)) := heap_alloc_new W _
  have HB1 := Lib.hid hb1
  have HK1 := Lib.hid (show Keep (fun _ => False) W (W.alloc (.cells #[.int .i64 r.k, .int .i32 r.c, .bool r.neg, .slice p.A p.n p.cp, .string r.t, .slice p.B p.m p.cap] 27)) from (Keep.refl _ _).alloc _)
  obtain ⟨a0, a1, a2, a3, a4, a5⟩ := dat_cells hb1
  clear hb1
  go_enter Tryz.func46, Tryz.ntmps46
  go_wp2_with fail
  generalize W.alloc (.cells #[.int .i64 r.k, .int .i32 r.c, .bool r.neg, .slice p.A p.n p.cp, .string r.t, .slice p.B p.m p.cap] 27) = w1 at *
  refine (HR.out _).mono ?_
  rintro e w2 ⟨⟨A, c, rfl⟩, k2⟩
  have HB2 := Lib.hid (k2.heap HB1.out (by simp))
  have HK2 := Lib.hid (HK1.out.trans k2)
  clear a0 a1 a2 a3 a4 a5 k2
  obtain ⟨a0, a1, a2, a3, a4, a5⟩ := dat_cells HB2.out
  go_wp2_with fail
  refine (HB.out _).mono ?_
  rintro e w3 ⟨rfl, k2⟩
  have HB3 := Lib.hid (k2.heap HB2.out (by simp))
  have HK3 := Lib.hid (HK2.out.trans k2)
  clear a0 a1 a2 a3 a4 a5 k2
  obtain ⟨a0, a1, a2, a3, a4, a5⟩ := dat_cells HB3.out
  go_wp2_with fail
  go_ret
  exact ⟨rfl, HK3.out⟩
set_option maxRecDepth 100000 in
set_option maxHeartbeats 4000000 in
theorem plain_D6stY (r : Raw) (p : PV) (W : World) (s0 : (r.k == 0) = false) (s1 : (r.k == 1) = false) (s2 : (r.k == 2) = false) (s9 : (r.k == 9) = false) (s10 : (r.k == 10) = false) (s3 : (r.k == 3) = false) (s4 : (r.k == 4) = false) (s5 : (r.k == 5) = false) (s6 : (r.k == 6) = true) (n : Nat) (HR : Hid (∀ w1 : World, Calls Tryz.prog 63 #[.string r.t] w1 (fun e w9 => (∃ A c, e = .returned (.tuple #[.slice A n c, .bool true])) ∧ Keep (fun _ => False) w1 w9))) (HB : Hid (∀ w1 : World, Calls Tryz.prog 74 #[rawV r p, .int .i64 4] w1 (BoolPost true w1))) (hL : (n : Int) ≤ 62) (h0 : decide (0 < n) = true) : Calls Tryz.prog 46 #[rawV r p] W (BoolPost true W) := by
  have hb1 : (W.alloc (.cells #[.int .i64 r.k, .int .i32 r.c, .bool r.neg, .slice p.A p.n p.cp, .string r.t, .slice p.B p.m p.cap] 27)).heap[W.heap.size]? = some (.cells #[.int .i64 r.k, .int .i32 r.c, .bool r.neg, .slice p.A p.n p.cp, .string r.t, .slice p.B p.m p.cap] 27 (0, 0)) := heap_alloc_new W _
  have HB1 := Lib.hid hb1
  have HK1 := Lib.hid (show Keep (fun _ => False) W (W.alloc (.cells #[.int .i64 r.k, .int .i32 r.c, .bool r.neg, .slice p.A p.n p.cp, .string r.t, .slice p.B p.m p.cap] 27)) from (Keep.refl _ _).alloc _)
  obtain ⟨a0, a1, a2, a3, a4, a5⟩ := dat_cells hb1
  clear hb1
  go_enter Tryz.func46, Tryz.ntmps46
  go_wp2_with fail
  generalize W.alloc (.cells #[.int .i64 r.k, .int .i32 r.c, .bool r.neg, .slice p.A p.n p.cp, .string r.t, .slice p.B p.m p.cap] 27) = w1 at *
  refine (HR.out _).mono ?_
  rintro e w2 ⟨⟨A, c, rfl⟩, k2⟩
  have HB2 := Lib.hid (k2.heap HB1.out (by simp))
  have HK2 := Lib.hid (HK1.out.trans k2)
  clear a0 a1 a2 a3 a4 a5 k2
  obtain ⟨a0, a1, a2, a3, a4, a5⟩ := dat_cells HB2.out
  go_wp2_with fail
  refine (HB.out _).mono ?_
  rintro e w3 ⟨rfl, k2⟩
  have HB3 := Lib.hid (k2.heap HB2.out (by simp))
  have HK3 := Lib.hid (HK2.out.trans k2)
  clear a0 a1 a2 a3 a4 a5 k2
  obtain ⟨a0, a1, a2, a3, a4, a5⟩ := dat_cells HB3.out
  go_wp2_with fail
  go_ret
  exact ⟨rfl, HK3.out⟩
set_option maxRecDepth 100000 in
set_option maxHeartbeats 4000000 in
theorem plain_E7f (r : Raw) (p : PV) (W : World) (s0 : (r.k == 0) = false) (s1 : (r.k == 1) = false) (s2 : (r.k == 2) = false) (s9 : (r.k == 9) = false) (s10 : (r.k == 10) = false) (s3 : (r.k == 3) = false) (s4 : (r.k == 4) = false) (s5 : (r.k == 5) = false) (s6 : (r.k == 6) = false) (s7 : (r.k == 7) = true) (HB : Hid (∀ w1 : World, Calls Tryz.prog 74 #[rawV r p, .int .i64 8] w1 (BoolPost false w1))) : Calls Tryz.prog 46 #[rawV r p] W (BoolPost false W) := by
  have hb1 : (W.alloc (.cells #[.int .i64 r.k, .int .i32 r.c, .bool r.neg, .slice p.A p.n p.cp, .string r.t, .slice p.B p.m p.cap] 27)).heap[W.heap.size]? = some (.cells #[.int .i64 r.k, .int .i32 r.c, .bool r.neg, .slice p.A p.n p.cp, .string r.t, .slice p.B p.m p.cap] 27 (0, 0)) := heap_alloc_new W _
  have HB1 := Lib.hid hb1
  have HK1 := Lib.hid (show Keep (fun _ => False) W (W.alloc (.cells #[.int .i64 r.k, .int .i32 r.c, .bool r.neg, .slice p.A p.n p.cp, .string r.t, .slice p.B p.m p.cap] 27)) from (Keep.refl _ _).alloc _)
  obtain ⟨a0, a1, a2, a3, a4, a5⟩ := dat_cells hb1
  clear hb1
  go_enter Tryz.func46, Tryz.ntmps46
  go_wp2_with fail
  generalize W.alloc (.cells #[.int .i64 r.k, .int .i32 r.c, .bool r.neg, .slice p.A p.n p.cp, .string r.t, .slice p.B p.m p.cap] 27) = w1 at *
  refine (HB.out _).mono ?_
  rintro e w2 ⟨rfl, k2⟩
  have HB2 := Lib.hid (k2.heap HB1.out (by simp))
  have HK2 := Lib.hid (HK1.out.trans k2)
  clear a0 a1 a2 a3 a4 a5 k2
  obtain ⟨a0, a1, a2, a3, a4, a5⟩ := dat_cells HB2.out
  go_wp2_with fail
  go_ret
  exact ⟨rfl, HK2.out⟩
set_option maxRecDepth 100000 in
set_option maxHeartbeats 4000000 in
theorem plain_E8f (r : Raw) (p : PV) (W : World) (s0 : (r.k == 0) = false) (s1 : (r.k == 1) = false) (s2 : (r.k == 2) = false) (s9 : (r.k == 9) = false) (s10 : (r.k == 10) = false) (s3 : (r.k == 3) = false) (s4 : (r.k == 4) = false) (s5 : (r.k == 5) = false) (s6 : (r.k == 6) = false) (s7 : (r.k == 7) = false) (s8 : (r.k == 8) = true) (HB : Hid (∀ w1 : World, Calls Tryz.prog 74 #[rawV r p, .int .i64 8] w1 (BoolPost false w1))) : Calls Tryz.prog 46 #[rawV r p] W (BoolPost false W) := by
  have hb1 : (W.alloc (.cells #[.int .i64 r.k, .int .i32 r.c, .bool r.neg, .slice p.A p.n p.cp, .string r.t, .slice p.B p.m p.cap] 27)).heap[W.heap.size]? = some (.cells #[.int .i64 r.k, .int .i32 r.c, .bool r.neg, .slice p.A p.n p.cp, .string r.t, .slice p.B p.m p.cap] 27 (0, 0)) := heap_alloc_new W _
  have HB1 := Lib.hid hb1
  have HK1 := Lib.hid (show Keep (fun _ => False) W (W.alloc (.cells #[.int .i64 r.k, .int .i32 r.c, .bool r.neg, .slice p.A p.n p.cp, .string r.t, .slice p.B p.m p.cap] 27)) from (Keep.refl _ _).alloc _)
  obtain ⟨a0, a1, a2, a3, a4, a5⟩ := dat_cells hb1
  clear hb1
  go_enter Tryz.func46, Tryz.ntmps46
  go_wp2_with fail
  generalize W.alloc (.cells #[.int .i64 r.k, .int .i32 r.c, .bool r.neg, .slice p.A p.n p.cp, .string r.t, .slice p.B p.m p.cap] 27) = w1 at *
  refine (HB.out _).mono ?_
  rintro e w2 ⟨rfl, k2⟩
  have HB2 := Lib.hid (k2.heap HB1.out (by simp))
  have HK2 := Lib.hid (HK1.out.trans k2)
  clear a0 a1 a2 a3 a4 a5 k2
  obtain ⟨a0, a1, a2, a3, a4, a5⟩ := dat_cells HB2.out
  go_wp2_with fail
  go_ret
  exact ⟨rfl, HK2.out⟩
set_option maxRecDepth 100000 in
set_option maxHeartbeats 4000000 in
theorem plain_E7m (r : Raw) (p : PV) (W : World) (s0 : (r.k == 0) = false) (s1 : (r.k == 1) = false) (s2 : (r.k == 2) = false) (s9 : (r.k == 9) = false) (s10 : (r.k == 10) = false) (s3 : (r.k == 3) = false) (s4 : (r.k == 4) = false) (s5 : (r.k == 5) = false) (s6 : (r.k == 6) = false) (s7 : (r.k == 7) = true) (HB : Hid (∀ w1 : World, Calls Tryz.prog 74 #[rawV r p, .int .i64 8] w1 (BoolPost true w1))) (h2 : ((p.m : Int) != 2) = true) : Calls Tryz.prog 46 #[rawV r p] W (BoolPost false W) := by
  have hb1 : (W.alloc (.cells #[.int .i64 r.k, .int .i32 r.c, .bool r.neg, .slice p.A p.n p.cp, .string r.t, .slice p.B p.m p.cap] 27)).heap[W.heap.size]? = some (.cells #[.int .i64 r.k, .int .i32 r.c, .bool r.neg, .slice p.A p.n p.cp, .string r.t, .slice p.B p.m p.cap] 27 (0, 0)) := heap_alloc_new W _
  have HB1 := Lib.hid hb1
  have HK1 := Lib.hid (show Keep (fun _ => False) W (W.alloc (.cells #[.int .i64 r.k, .int .i32 r.c, .bool r.neg, .slice p.A p.n p.cp, .string r.t, .slice p.B p.m p.cap] 27)) from (Keep.refl _ _).alloc _)
  obtain ⟨a0, a1, a2, a3, a4, a5⟩ := dat_cells hb1
  clear hb1
  go_enter Tryz.func46, Tryz.ntmps46
  go_wp2_with fail
  generalize W.alloc (.cells #[.int .i64 r.k, .int .i32 r.c, .bool r.neg, .slice p.A p.n p.cp, .string r.t, .slice p.B p.m p.cap] 27) = w1 at *
  refine (HB.out _).mono ?_
  rintro e w2 ⟨rfl, k2⟩
  have HB2 := Lib.hid (k2.heap HB1.out (by simp))
  have HK2 := Lib.hid (HK1.out.trans k2)
  clear a0 a1 a2 a3 a4 a5 k2
  obtain ⟨a0, a1, a2, a3, a4, a5⟩ := dat_cells HB2.out
  go_wp2_with fail
  go_ret
  exact ⟨rfl, HK2.out⟩
set_option maxRecDepth 100000 in
set_option maxHeartbeats 4000000 in
theorem plain_E8m (r : Raw) (p : PV) (W : World) (s0 : (r.k == 0) = false) (s1 : (r.k == 1) = false) (s2 : (r.k == 2) = false) (s9 : (r.k == 9) = false) (s10 : (r.k == 10) = false) (s3 : (r.k == 3) = false) (s4 : (r.k == 4) = false) (s5 : (r.k == 5) = false) (s6 : (r.k == 6) = false) (s7 : (r.k == 7) = false) (s8 : (r.k == 8) = true) (HB : Hid (∀ w1 : World, Calls Tryz.prog 74 #[rawV r p, .int .i64 8] w1 (BoolPost true w1))) (h2 : (62 : Int) < (p.m : Int)) : Calls Tryz.prog 46 #[rawV r p] W (BoolPost false W) := by
  have hb1 : (W.alloc (.cells #[.int .i64 r.k, .int .i32 r.c, .bool r.neg, .slice p.A p.n p.cp, .string r.t, .slice p.B p.m p.cap] 27)).heap[W.heap.size]? = some (.cells #[.int .i64 r.k, .int .i32 r.c, .bool r.neg, .slice p.A p.n p.cp, .string r.t, .slice p.B p.m p.cap] 27 (0, 0)) := heap_alloc_new W _
  have HB1 := Lib.hid hb1
  have HK1 := Lib.hid (show Keep (fun _ => False) W (W.alloc (.cells #[.int .i64 r.k, .int .i32 r.c, .bool r.neg, .slice p.A p.n p.cp, .string r.t, .slice p.B p.m p.cap] 27)) from (Keep.refl _ _).alloc _)
  obtain ⟨a0, a1, a2, a3, a4, a5⟩ := dat_cells hb1
  clear hb1
  go_enter Tryz.func46, Tryz.ntmps46
  go_wp2_with fail
  generalize W.alloc (.cells #[.int .i64 r.k, .int .i32 r.c, .bool r.neg, .slice p.A p.n p.cp, .string r.t, .slice p.B p.m p.cap] 27) = w1 at *
  refine (HB.out _).mono ?_
  rintro e w2 ⟨rfl, k2⟩
  have HB2 := Lib.hid (k2.heap HB1.out (by simp))
  have HK2 := Lib.hid (HK1.out.trans k2)
  clear a0 a1 a2 a3 a4 a5 k2
  obtain ⟨a0, a1, a2, a3, a4, a5⟩ := dat_cells HB2.out
  go_wp2_with fail
  go_ret
  exact ⟨rfl, HK2.out⟩
set_option maxRecDepth 100000 in
set_option maxHeartbeats 4000000 in
theorem plain_F (r : Raw) (p : PV) (W : World) (s0 : (r.k == 0) = false) (s1 : (r.k == 1) = false) (s2 : (r.k == 2) = false) (s9 : (r.k == 9) = false) (s10 : (r.k == 10) = false) (s3 : (r.k == 3) = false) (s4 : (r.k == 4) = false) (s5 : (r.k == 5) = false) (s6 : (r.k == 6) = false) (s7 : (r.k == 7) = false) (s8 : (r.k == 8) = false)  : Calls Tryz.prog 46 #[rawV r p] W (BoolPost false W) := by
  have hb1 : (W.alloc (.cells #[.int .i64 r.k, .int .i32 r.c, .bool r.neg, .slice p.A p.n p.cp, .string r.t, .slice p.B p.m p.cap] 27)).heap[W.heap.size]? = some (.cells #[.int .i64 r.k, .int .i32 r.c, .bool r.neg, .slice p.A p.n p.cp, .string r.t, .slice p.B p.m p.cap] 27 (0, 0)) := heap_alloc_new W _
  have HB1 := Lib.hid hb1
  have HK1 := Lib.hid (show Keep (fun _ => False) W (W.alloc (.cells #[.int .i64 r.k, .int .i32 r.c, .bool r.neg, .slice p.A p.n p.cp, .string r.t, .slice p.B p.m p.cap] 27)) from (Keep.refl _ _).alloc _)
  obtain ⟨a0, a1, a2, a3, a4, a5⟩ := dat_cells hb1
  clear hb1
  go_enter Tryz.func46, Tryz.ntmps46
  go_wp2_with fail
  generalize W.alloc (.cells #[.int .i64 r.k, .int .i32 r.c, .bool r.neg, .slice p.A p.n p.cp, .string r.t, .slice p.B p.m p.cap] 27) = w1 at *
  go_ret
  exact ⟨rfl, HK1.out⟩
/-- What the loop stands on. -/
structure PlaS (W : World) (r : Raw) (p : PV) (i B1 : Nat) (wr : World) : Prop where
  K : Keep (fun _ => False) W wr
  h1 : wr.heap[B1]? = some (.cells #[.int .i64 r.k, .int .i32 r.c, .bool r.neg, .slice p.A p.n p.cp, .string r.t, .slice p.B p.m p.cap] 27 (0, 0))
  le : i ≤ r.l.length
  upto : ∀ j (h : j < r.l.length), j < i → plainB r.l[j] = true
set_option maxRecDepth 100000 in
set_option maxHeartbeats 4000000 in
theorem plain_E7l {Q : Nat → Prop} (r : Raw) (p : PV) (W : World) (s0 : (r.k == 0) = false) (s1 : (r.k == 1) = false) (s2 : (r.k == 2) = false) (s9 : (r.k == 9) = false) (s10 : (r.k == 10) = false) (s3 : (r.k == 3) = false) (s4 : (r.k == 4) = false) (s5 : (r.k == 5) = false) (s6 : (r.k == 6) = false) (s7 : (r.k == 7) = true) (HB : Hid (∀ w1 : World, Calls Tryz.prog 74 #[rawV r p, .int .i64 8] w1 (BoolPost true w1))) (h2 : ((p.m : Int) != 2) = false) (hL62 : p.m ≤ 62) (w : World) (hW : Keep (fun _ => False) w W) (vs : Nat → PV) (HROW : Hid (0 < p.m → ∃ b off, p.B = some ⟨b, off, .none⟩ ∧ Q b ∧ ∀ i (h : i < r.l.length), ItemC w b off i r.l[i] (vs i))) (HL : Hid (r.l.length = p.m))
    (IH : Hid (∀ i (h : i < r.l.length) (w' : World), Keep (fun _ => False) w w' → Calls Tryz.prog 46 #[rawV r.l[i] (vs i)] w' (BoolPost (plainB r.l[i]) w'))) : Calls Tryz.prog 46 #[rawV r p] W (BoolPost (plainL r.l) W) := by
  have hb1 : (W.alloc (.cells #[.int .i64 r.k, .int .i32 r.c, .bool r.neg, .slice p.A p.n p.cp, .string r.t, .slice p.B p.m p.cap] 27)).heap[W.heap.size]? = some (.cells #[.int .i64 r.k, .int .i32 r.c, .bool r.neg, .slice p.A p.n p.cp, .string r.t, .slice p.B p.m p.cap] 27 (0, 0)) := heap_alloc_new W _
  have HB1 := Lib.hid hb1
  have HK1 := Lib.hid (show Keep (fun _ => False) W (W.alloc (.cells #[.int .i64 r.k, .int .i32 r.c, .bool r.neg, .slice p.A p.n p.cp, .string r.t, .slice p.B p.m p.cap] 27)) from (Keep.refl _ _).alloc _)
  obtain ⟨a0, a1, a2, a3, a4, a5⟩ := dat_cells hb1
  clear hb1
  go_enter Tryz.func46, Tryz.ntmps46
  go_wp2_with fail
  generalize W.alloc (.cells #[.int .i64 r.k, .int .i32 r.c, .bool r.neg, .slice p.A p.n p.cp, .string r.t, .slice p.B p.m p.cap] 27) = w1 at *
  have h3 : decide ((62 : Int) < (p.m : Int)) = false := decide_eq_false (by omega)
  refine (HB.out _).mono ?_
  rintro e w2 ⟨rfl, k2⟩
  have HB2 := Lib.hid (k2.heap HB1.out (by simp))
  have HK2 := Lib.hid (HK1.out.trans k2)
  clear a0 a1 a2 a3 a4 a5 k2
  obtain ⟨a0, a1, a2, a3, a4, a5⟩ := dat_cells HB2.out
  go_wp2_with fail
  have HW := Lib.hid hW
  have HST := Lib.hid (show PlaS W r p 0 W.heap.size w2 from ⟨HK2.out, HB2.out, Nat.zero_le _, fun j _ h => absurd h (Nat.not_lt_zero _)⟩)
  clear hW a0 a1 a2 a3 a4 a5
  generalize hB1 : W.heap.size = B1 at *
  go_loopw [5] (fun iv wr => ∃ i : Nat, iv = .int .i64 (i : Int) ∧ PlaS W r p i B1 wr) (fun iv _ => p.m - (intOf iv).toNat)
  case atStart => exact ⟨0, rfl, HST.out⟩
  case round =>
    obtain ⟨i, rfl, hst⟩ := hrel
    have hx1 := hst.h1
    have HS2 := Lib.hid hst
    clear hst
    obtain ⟨a0, a1, a2, a3, a4, a5⟩ := dat_cells hx1
    clear hx1 a0 a1 a2 a3 a4
    by_cases hlt : i < p.m
    · have hi1 : i < r.l.length := by rw [HL.out]; exact hlt
      obtain ⟨g, o, eB, _, hrw⟩ := HROW.out (by omega)
      have hic := (hrw i hi1).keep (HW.out.trans HS2.out.K) id
      have HC1 := Lib.hid (fun (w' : World) (K : Keep (fun _ => False) wr w') => IH.out i hi1 w' ((HW.out.trans HS2.out.K).trans K))
      have HNO := Lib.hid (fun (h : plainB r.l[i] = false) => plainL_false hi1 h)
      have HNX := Lib.hid (fun (h : plainB r.l[i] = true) (w' : World) (K : Keep (fun _ => False) wr w') => (show PlaS W r p (i + 1) B1 w' from ⟨HS2.out.K.trans K, K.heap HS2.out.h1 id, hi1, fun j h1 h3 => by
        by_cases e : j = i
        · subst e; exact h
        · exact HS2.out.upto j h1 (by omega)⟩))
      obtain ⟨x, hx⟩ : ∃ x, x = r.l[i] := ⟨_, rfl⟩
      rw [← hx] at HC1 HNO HNX
      obtain ⟨r0, r1, r2, r3, r4, r5⟩ := hic.cells
      rw [← hx] at r0 r1 r2 r4
      obtain ⟨v, hv⟩ : ∃ v, v = vs i := ⟨_, rfl⟩
      rw [← hv] at HC1 r3 r5
      rw [eB] at a5
      clear eB hv hic hx hrw
      have l1 : decide ((i : Int) < (p.m : Int)) = true := decide_eq_true (by omega)
      have l2 : decide (i < p.m) = true := decide_eq_true hlt
      have hi0 : (0 : Int) ≤ (i : Int) := Int.natCast_nonneg _
      have j1 : (i : Int) < (p.m : Int) := by omega
      go_wp2_with fail
      obtain ⟨b, hb⟩ : ∃ b, b = plainB x := ⟨_, rfl⟩
      rw [← hb] at HC1 HNO HNX
      clear hb
      refine (HC1.out _ (Keep.refl _ _)).mono ?_
      rintro e w5 ⟨rfl, k5⟩
      clear r0 r1 r2 r3 r4 r5 a5
      cases b with
      | true =>
        have HN3 := Lib.hid (HNX.out rfl _ k5)
        clear k5
        go_wp2_with fail
        go_roundw
        case rel => exact ⟨i + 1, by go_num, HN3.out⟩
        case measure => simp only [intOf]; omega
      | false =>
        have HK5 := Lib.hid (HS2.out.K.trans k5)
        have HF := Lib.hid (HNO.out rfl)
        clear k5
        go_wp2_with fail
        go_ret
        exact ⟨(show Ending.returned (.bool false) = Ending.returned (.bool (plainL r.l)) by rw [HF.out]), HK5.out⟩
    · have l1 : decide ((i : Int) < (p.m : Int)) = false := decide_eq_false (by omega)
      have l2 : decide (i < p.m) = false := decide_eq_false hlt
      have HT := Lib.hid (show plainL r.l = true from plainL_true.2 (fun j hj => HS2.out.upto j hj (by rw [HL.out] at hj; omega)))
      go_wp2_with fail
      go_ret
      exact ⟨(show Ending.returned (.bool true) = Ending.returned (.bool (plainL r.l)) by rw [HT.out]), HS2.out.K⟩
set_option maxRecDepth 100000 in
set_option maxHeartbeats 4000000 in
theorem plain_E8l {Q : Nat → Prop} (r : Raw) (p : PV) (W : World) (s0 : (r.k == 0) = false) (s1 : (r.k == 1) = false) (s2 : (r.k == 2) = false) (s9 : (r.k == 9) = false) (s10 : (r.k == 10) = false) (s3 : (r.k == 3) = false) (s4 : (r.k == 4) = false) (s5 : (r.k == 5) = false) (s6 : (r.k == 6) = false) (s7 : (r.k == 7) = false) (s8 : (r.k == 8) = true) (HB : Hid (∀ w1 : World, Calls Tryz.prog 74 #[rawV r p, .int .i64 8] w1 (BoolPost true w1))) (h2 : decide ((62 : Int) < (p.m : Int)) = false) (hL62 : p.m ≤ 62) (w : World) (hW : Keep (fun _ => False) w W) (vs : Nat → PV) (HROW : Hid (0 < p.m → ∃ b off, p.B = some ⟨b, off, .none⟩ ∧ Q b ∧ ∀ i (h : i < r.l.length), ItemC w b off i r.l[i] (vs i))) (HL : Hid (r.l.length = p.m))
    (IH : Hid (∀ i (h : i < r.l.length) (w' : World), Keep (fun _ => False) w w' → Calls Tryz.prog 46 #[rawV r.l[i] (vs i)] w' (BoolPost (plainB r.l[i]) w'))) : Calls Tryz.prog 46 #[rawV r p] W (BoolPost (plainL r.l) W) := by
  have hb1 : (W.alloc (.cells #[.int .i64 r.k, .int .i32 r.c, .bool r.neg, .slice p.A p.n p.cp, .string r.t, .slice p.B p.m p.cap] 27)).heap[W.heap.size]? = some (.cells #[.int .i64 r.k, .int .i32 r.c, .bool r.neg, .slice p.A p.n p.cp, .string r.t, .slice p.B p.m p.cap] 27 (0, 0)) := heap_alloc_new W _
  have HB1 := Lib.hid hb1
  have HK1 := Lib.hid (show Keep (fun _ => False) W (W.alloc (.cells #[.int .i64 r.k, .int .i32 r.c, .bool r.neg, .slice p.A p.n p.cp, .string r.t, .slice p.B p.m p.cap] 27)) from (Keep.refl _ _).alloc _)
  obtain ⟨a0, a1, a2, a3, a4, a5⟩ := dat_cells hb1
  clear hb1
  go_enter Tryz.func46, Tryz.ntmps46
  go_wp2_with fail
  generalize W.alloc (.cells #[.int .i64 r.k, .int .i32 r.c, .bool r.neg, .slice p.A p.n p.cp, .string r.t, .slice p.B p.m p.cap] 27) = w1 at *
  refine (HB.out _).mono ?_
  rintro e w2 ⟨rfl, k2⟩
  have HB2 := Lib.hid (k2.heap HB1.out (by simp))
  have HK2 := Lib.hid (HK1.out.trans k2)
  clear a0 a1 a2 a3 a4 a5 k2
  obtain ⟨a0, a1, a2, a3, a4, a5⟩ := dat_cells HB2.out
  go_wp2_with fail
  have HW := Lib.hid hW
  have HST := Lib.hid (show PlaS W r p 0 W.heap.size w2 from ⟨HK2.out, HB2.out, Nat.zero_le _, fun j _ h => absurd h (Nat.not_lt_zero _)⟩)
  clear hW a0 a1 a2 a3 a4 a5
  generalize hB1 : W.heap.size = B1 at *
  go_loopw [5] (fun iv wr => ∃ i : Nat, iv = .int .i64 (i : Int) ∧ PlaS W r p i B1 wr) (fun iv _ => p.m - (intOf iv).toNat)
  case atStart => exact ⟨0, rfl, HST.out⟩
  case round =>
    obtain ⟨i, rfl, hst⟩ := hrel
    have hx1 := hst.h1
    have HS2 := Lib.hid hst
    clear hst
    obtain ⟨a0, a1, a2, a3, a4, a5⟩ := dat_cells hx1
    clear hx1 a0 a1 a2 a3 a4
    by_cases hlt : i < p.m
    · have hi1 : i < r.l.length := by rw [HL.out]; exact hlt
      obtain ⟨g, o, eB, _, hrw⟩ := HROW.out (by omega)
      have hic := (hrw i hi1).keep (HW.out.trans HS2.out.K) id
      have HC1 := Lib.hid (fun (w' : World) (K : Keep (fun _ => False) wr w') => IH.out i hi1 w' ((HW.out.trans HS2.out.K).trans K))
      have HNO := Lib.hid (fun (h : plainB r.l[i] = false) => plainL_false hi1 h)
      have HNX := Lib.hid (fun (h : plainB r.l[i] = true) (w' : World) (K : Keep (fun _ => False) wr w') => (show PlaS W r p (i + 1) B1 w' from ⟨HS2.out.K.trans K, K.heap HS2.out.h1 id, hi1, fun j h1 h3 => by
        by_cases e : j = i
        · subst e; exact h
        · exact HS2.out.upto j h1 (by omega)⟩))
      obtain ⟨x, hx⟩ : ∃ x, x = r.l[i] := ⟨_, rfl⟩
      rw [← hx] at HC1 HNO HNX
      obtain ⟨r0, r1, r2, r3, r4, r5⟩ := hic.cells
      rw [← hx] at r0 r1 r2 r4
      obtain ⟨v, hv⟩ : ∃ v, v = vs i := ⟨_, rfl⟩
      rw [← hv] at HC1 r3 r5
      rw [eB] at a5
      clear eB hv hic hx hrw
      have l1 : decide ((i : Int) < (p.m : Int)) = true := decide_eq_true (by omega)
      have l2 : decide (i < p.m) = true := decide_eq_true hlt
      have hi0 : (0 : Int) ≤ (i : Int) := Int.natCast_nonneg _
      have j1 : (i : Int) < (p.m : Int) := by omega
      go_wp2_with fail
      obtain ⟨b, hb⟩ : ∃ b, b = plainB x := ⟨_, rfl⟩
      rw [← hb] at HC1 HNO HNX
      clear hb
      refine (HC1.out _ (Keep.refl _ _)).mono ?_
      rintro e w5 ⟨rfl, k5⟩
      clear r0 r1 r2 r3 r4 r5 a5
      cases b with
      | true =>
        have HN3 := Lib.hid (HNX.out rfl _ k5)
        clear k5
        go_wp2_with fail
        go_roundw
        case rel => exact ⟨i + 1, by go_num, HN3.out⟩
        case measure => simp only [intOf]; omega
      | false =>
        have HK5 := Lib.hid (HS2.out.K.trans k5)
        have HF := Lib.hid (HNO.out rfl)
        clear k5
        go_wp2_with fail
        go_ret
        exact ⟨(show Ending.returned (.bool false) = Ending.returned (.bool (plainL r.l)) by rw [HF.out]), HK5.out⟩
    · have l1 : decide ((i : Int) < (p.m : Int)) = false := decide_eq_false (by omega)
      have l2 : decide (i < p.m) = false := decide_eq_false hlt
      have HT := Lib.hid (show plainL r.l = true from plainL_true.2 (fun j hj => HS2.out.upto j hj (by rw [HL.out] at hj; omega)))
      go_wp2_with fail
      go_ret
      exact ⟨(show Ending.returned (.bool true) = Ending.returned (.bool (plainL r.l)) by rw [HT.out]), HS2.out.K⟩
set_option maxRecDepth 100000 in
theorem plain_any {N P : Nat → Prop} {w : World} {r : Raw} {p : PV} (h : RawAt N P w r p) : SmallR r → ∀ (W : World), Keep (fun _ => False) w W → Calls Tryz.prog 46 #[rawV r p] W (BoolPost (plainB r) W) := by
  induction h with
  | @mk r p num nP len mcap big vs row ch ih =>
    intro hS W hW
    obtain ⟨ht, hmag, hit⟩ := hS
    have hn := num.len
    have nk : ∀ {j : Int}, ¬ r.k = j → (r.k == j) = false := fun h => beq_eq_false_iff_ne.2 h
    have yk : ∀ {j : Int}, r.k = j → (r.k == j) = true := fun h => beq_iff_eq.2 h
    rw [plain_eq]
    by_cases n0 : r.k = 0
    · rw [if_pos (by simp [n0])]
      exact plain_A0 r p W (yk n0) _ (Lib.hid (fun w1 => bare0_any r p w1 hn len))
    by_cases n1 : r.k = 1
    · rw [if_pos (by simp [n1])]
      exact plain_A1 r p W (nk n0) (yk n1) _ (Lib.hid (fun w1 => bare0_any r p w1 hn len))
    by_cases n2 : r.k = 2
    · rw [if_pos (by simp [n2])]
      exact plain_A2 r p W (nk n0) (nk n1) (yk n2) _ (Lib.hid (fun w1 => bare0_any r p w1 hn len))
    by_cases n9 : r.k = 9
    · rw [if_pos (by simp [n9])]
      exact plain_A9 r p W (nk n0) (nk n1) (nk n2) (yk n9) _ (Lib.hid (fun w1 => bare0_any r p w1 hn len))
    by_cases n10 : r.k = 10
    · rw [if_pos (by simp [n10])]
      exact plain_A10 r p W (nk n0) (nk n1) (nk n2) (nk n9) (yk n10) _ (Lib.hid (fun w1 => bare0_any r p w1 hn len))
    rw [if_neg (by simp [n0, n1, n2, n9, n10])]
    by_cases n3 : r.k = 3
    · rw [if_pos n3]
      have HB := Lib.hid (fun w1 => bare1_any r p w1 hn len)
      cases hb : bareB true false false false r with
      | false =>
        rw [hb] at HB
        exact plain_Bf r p W (nk n0) (nk n1) (nk n2) (nk n9) (nk n10) (yk n3) HB
      | true =>
        rw [hb] at HB
        rw [Bool.true_and]
        exact plain_Bt r p W (nk n0) (nk n1) (nk n2) (nk n9) (nk n10) (yk n3) _ HB (Lib.hid (fun w1 => rcharI_any r.c w1))
    rw [if_neg n3]
    by_cases n4 : r.k = 4
    · rw [if_pos n4]
      have HB := Lib.hid (fun w1 => bare2_any r p w1 hn len)
      cases hb : bareB false true false false r with
      | false =>
        rw [hb] at HB
        exact plain_Cf r p W (nk n0) (nk n1) (nk n2) (nk n9) (nk n10) (nk n3) (yk n4) HB
      | true =>
        rw [hb] at HB
        rw [Bool.true_and]
        exact plain_Ct r p W (nk n0) (nk n1) (nk n2) (nk n9) (nk n10) (nk n3) (yk n4) _ HB (Lib.hid (fun w1 K => rmay_any r.neg p.A p.n p.cp r.mag w1 ((num.keep0 hW).keep0 K) (by omega)))
    rw [if_neg n4]
    by_cases n5 : r.k = 5
    · rw [if_pos n5]
      have HB := Lib.hid (fun w1 => bare4_any r p w1 hn len)
      cases hb : bareB false false true false r with
      | false =>
        rw [hb] at HB
        have HR := Lib.hid (fun w1 => runes_any r.t w1 ht)
        unfold RunesPost at HR
        cases hr : runesL r.t.data.toList with
        | none =>
          rw [hr] at HR
          exact plain_D5nf r p W (nk n0) (nk n1) (nk n2) (nk n9) (nk n10) (nk n3) (nk n4) (yk n5) HR HB
        | some rr =>
          rw [hr] at HR
          have HS := Lib.hid (fun w1 => (HR.out w1).mono (fun e w9 h => (show (∃ A c, e = .returned (.tuple #[.slice A rr.length c, .bool true])) ∧ Keep (fun _ => False) w1 w9 from by obtain ⟨A, c, he, _, hk⟩ := h; exact ⟨⟨A, c, he⟩, hk⟩)))
          exact plain_D5sf r p W (nk n0) (nk n1) (nk n2) (nk n9) (nk n10) (nk n3) (nk n4) (yk n5) rr.length HS HB
      | true =>
        rw [hb] at HB
        have HR := Lib.hid (fun w1 => runes_any r.t w1 ht)
        unfold RunesPost at HR
        cases hr : runesL r.t.data.toList with
        | none =>
          rw [hr] at HR
          exact plain_D5nt r p W (nk n0) (nk n1) (nk n2) (nk n9) (nk n10) (nk n3) (nk n4) (yk n5) HR HB
        | some rr =>
          rw [hr] at HR
          have HS := Lib.hid (fun w1 => (HR.out w1).mono (fun e w9 h => (show (∃ A c, e = .returned (.tuple #[.slice A rr.length c, .bool true])) ∧ Keep (fun _ => False) w1 w9 from by obtain ⟨A, c, he, _, hk⟩ := h; exact ⟨⟨A, c, he⟩, hk⟩)))
          unfold textB
          rw [Bool.true_and]
          simp only
          by_cases h62 : rr.length ≤ 62
          · rw [decide_eq_true h62, Bool.true_and]
            exact plain_D5stY r p W (nk n0) (nk n1) (nk n2) (nk n9) (nk n10) (nk n3) (nk n4) (yk n5) rr.length HS HB (by omega)
          · rw [decide_eq_false h62, Bool.false_and]
            exact plain_D5stL r p W (nk n0) (nk n1) (nk n2) (nk n9) (nk n10) (nk n3) (nk n4) (yk n5) rr.length HS HB (decide_eq_false (by omega))
    rw [if_neg n5]
    by_cases n6 : r.k = 6
    · rw [if_pos n6]
      have HB := Lib.hid (fun w1 => bare4_any r p w1 hn len)
      cases hb : bareB false false true false r with
      | false =>
        rw [hb] at HB
        have HR := Lib.hid (fun w1 => runes_any r.t w1 ht)
        unfold RunesPost at HR
        cases hr : runesL r.t.data.toList with
        | none =>
          rw [hr] at HR
          exact plain_D6nf r p W (nk n0) (nk n1) (nk n2) (nk n9) (nk n10) (nk n3) (nk n4) (nk n5) (yk n6) HR HB
        | some rr =>
          rw [hr] at HR
          have HS := Lib.hid (fun w1 => (HR.out w1).mono (fun e w9 h => (show (∃ A c, e = .returned (.tuple #[.slice A rr.length c, .bool true])) ∧ Keep (fun _ => False) w1 w9 from by obtain ⟨A, c, he, _, hk⟩ := h; exact ⟨⟨A, c, he⟩, hk⟩)))
          exact plain_D6sf r p W (nk n0) (nk n1) (nk n2) (nk n9) (nk n10) (nk n3) (nk n4) (nk n5) (yk n6) rr.length HS HB
      | true =>
        rw [hb] at HB
        have HR := Lib.hid (fun w1 => runes_any r.t w1 ht)
        unfold RunesPost at HR
        cases hr : runesL r.t.data.toList with
        | none =>
          rw [hr] at HR
          exact plain_D6nt r p W (nk n0) (nk n1) (nk n2) (nk n9) (nk n10) (nk n3) (nk n4) (nk n5) (yk n6) HR HB
        | some rr =>
          rw [hr] at HR
          have HS := Lib.hid (fun w1 => (HR.out w1).mono (fun e w9 h => (show (∃ A c, e = .returned (.tuple #[.slice A rr.length c, .bool true])) ∧ Keep (fun _ => False) w1 w9 from by obtain ⟨A, c, he, _, hk⟩ := h; exact ⟨⟨A, c, he⟩, hk⟩)))
          unfold textB
          rw [Bool.true_and]
          simp only
          by_cases h62 : rr.length ≤ 62
          · rw [decide_eq_true h62, Bool.true_and]
            by_cases h0 : 0 < rr.length
            · rw [decide_eq_true h0]
              exact plain_D6stY r p W (nk n0) (nk n1) (nk n2) (nk n9) (nk n10) (nk n3) (nk n4) (nk n5) (yk n6) rr.length HS HB (by omega) (decide_eq_true h0)
            · rw [decide_eq_false h0]
              exact plain_D6stZ r p W (nk n0) (nk n1) (nk n2) (nk n9) (nk n10) (nk n3) (nk n4) (nk n5) (yk n6) rr.length HS HB (by omega) (decide_eq_false h0)
          · rw [decide_eq_false h62, Bool.false_and]
            exact plain_D6stL r p W (nk n0) (nk n1) (nk n2) (nk n9) (nk n10) (nk n3) (nk n4) (nk n5) (yk n6) rr.length HS HB (decide_eq_false (by omega))
    rw [if_neg n6]
    by_cases n7 : r.k = 7
    · rw [if_pos n7]
      have HB := Lib.hid (fun w1 => bare8_any r p w1 hn len)
      cases hb : bareB false false false true r with
      | false =>
        rw [hb] at HB
        exact plain_E7f r p W (nk n0) (nk n1) (nk n2) (nk n9) (nk n10) (nk n3) (nk n4) (nk n5) (nk n6) (yk n7) HB
      | true =>
        rw [hb] at HB
        rw [Bool.true_and]
        by_cases h2 : r.l.length = 2
        · rw [decide_eq_true h2, Bool.true_and]
          exact plain_E7l (Q := P) r p W (nk n0) (nk n1) (nk n2) (nk n9) (nk n10) (nk n3) (nk n4) (nk n5) (nk n6) (yk n7) HB (by simp; omega) (by omega) _ hW vs (Lib.hid row) (Lib.hid len) (Lib.hid (fun i hi w9 K => ih i hi (hit i hi) w9 K))
        · rw [decide_eq_false h2, Bool.false_and]
          exact plain_E7m r p W (nk n0) (nk n1) (nk n2) (nk n9) (nk n10) (nk n3) (nk n4) (nk n5) (nk n6) (yk n7) HB (by simp; omega)
    rw [if_neg n7]
    by_cases n8 : r.k = 8
    · rw [if_pos n8]
      have HB := Lib.hid (fun w1 => bare8_any r p w1 hn len)
      cases hb : bareB false false false true r with
      | false =>
        rw [hb] at HB
        exact plain_E8f r p W (nk n0) (nk n1) (nk n2) (nk n9) (nk n10) (nk n3) (nk n4) (nk n5) (nk n6) (nk n7) (yk n8) HB
      | true =>
        rw [hb] at HB
        rw [Bool.true_and]
        by_cases h2 : r.l.length ≤ 62
        · rw [decide_eq_true h2, Bool.true_and]
          exact plain_E8l (Q := P) r p W (nk n0) (nk n1) (nk n2) (nk n9) (nk n10) (nk n3) (nk n4) (nk n5) (nk n6) (nk n7) (yk n8) HB (decide_eq_false (by omega)) (by omega) _ hW vs (Lib.hid row) (Lib.hid len) (Lib.hid (fun i hi w9 K => ih i hi (hit i hi) w9 K))
        · rw [decide_eq_false h2, Bool.false_and]
          exact plain_E8m r p W (nk n0) (nk n1) (nk n2) (nk n9) (nk n10) (nk n3) (nk n4) (nk n5) (nk n6) (nk n7) (yk n8) HB (by omega)
    rw [if_neg n8]
    exact plain_F r p W (nk n0) (nk n1) (nk n2) (nk n9) (nk n10) (nk n3) (nk n4) (nk n5) (nk n6) (nk n7) (nk n8)
end Go.Proofs.YtonnikipeokkaaaGreatDoor
