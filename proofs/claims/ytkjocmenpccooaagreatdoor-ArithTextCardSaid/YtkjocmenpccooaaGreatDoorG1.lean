/-
  Numbers, by program: texts of another seat, turned to this one.
-/
import Derived.Test.YtkjocmenpccooaaGreatDoorN4
import Derived.Test.YtkjocmenpccooaaGreatDoorA3
import Derived.Lib.ValidLaws
import Derived.Maps.AppendAt
import Derived.LoopN
import Derived.Deep.RegionHeld3
import Derived.BigRegion
import Derived.RegionTactic
namespace Go.Proofs.YtkjocmenpccooaaGreatDoor
open Go.Lib
open Go.Lib
open Go.Lib
open Go.Lib
/-- A datum, field by field. -/
inductive Raw where
  | mk (k c : Int) (neg : Bool) (mag : List Nat) (t : ByteArray) (l : List Raw)
open Go.Lib
open Go.RowKit Go.Lib
open Go.RowKit Go.Lib
open Go.RowKit Go.Lib
open Go.RowKit Go.Lib
open Go.RowKit Go.Lib
def Raw.k : Raw → Int
  | .mk k _ _ _ _ _ => k
def Raw.c : Raw → Int
  | .mk _ c _ _ _ _ => c
def Raw.neg : Raw → Bool
  | .mk _ _ neg _ _ _ => neg
def Raw.mag : Raw → List Nat
  | .mk _ _ _ mag _ _ => mag
def Raw.t : Raw → ByteArray
  | .mk _ _ _ _ t _ => t
def Raw.l : Raw → List Raw
  | .mk _ _ _ _ _ l => l
/-- Where a datum's number and items lie. -/
structure PV where
  A : Option Addr
  n : Nat
  cp : Nat
  B : Option Addr
  m : Nat
  cap : Nat
def PV.none : PV := ⟨.none, 0, 0, .none, 0, 0⟩
/-- A datum's cells. -/
abbrev rawC (r : Raw) (p : PV) : Array Value := #[.int .i64 r.k, .int .i32 r.c, .bool r.neg, .slice p.A p.n p.cp, .string r.t, .slice p.B p.m p.cap]
abbrev rawV (r : Raw) (p : PV) : Value := .agg #[.int .i64 r.k, .int .i32 r.c, .bool r.neg, .slice p.A p.n p.cp, .string r.t, .slice p.B p.m p.cap]
/-- The cells of the i-th of a row of data. -/
def ItemC (w : World) (b off i : Nat) (r : Raw) (p : PV) : Prop := ∀ f u, (rawC r p)[f]? = some u → w.cell? ⟨b, off + i * 6 + f, .none⟩ = some u
/-- A datum in memory: its number lies in a block for which N holds, its items in blocks for which P holds. -/
inductive RawAt (N P : Nat → Prop) (w : World) : Raw → PV → Prop
  | mk {r : Raw} {p : PV} (num : LimbsAt w p.A p.n p.cp r.mag) (nP : 0 < p.n → ∀ b off, p.A = some ⟨b, off, .none⟩ → N b)
    (len : r.l.length = p.m) (mcap : p.m ≤ p.cap) (big : p.m * 88 ≤ 140737488351232) (vs : Nat → PV) (row : 0 < p.m → ∃ b off, p.B = some ⟨b, off, .none⟩ ∧ P b ∧ ∀ i (h : i < r.l.length), ItemC w b off i r.l[i] (vs i))
    (ch : ∀ i (h : i < r.l.length), RawAt N P w r.l[i] (vs i)) : RawAt N P w r p
theorem ItemC.keep {S : Nat → Prop} {w w' : World} {b off i : Nat} {r : Raw} {p : PV} (h : ItemC w b off i r p) (K : Keep S w w') (hs : ¬ S b) : ItemC w' b off i r p := fun f u hu => by
  have := h f u hu
  rw [K.cell (p := ⟨b, off + i * 6 + f, .none⟩) (World.block_lt_of_cell? w _ this) hs]; exact this
theorem RawAt.keep {S N P : Nat → Prop} {w w' : World} {r : Raw} {p : PV} (h : RawAt N P w r p) (K : Keep S w w') (hs : ∀ b, S b → ¬ P b ∧ ¬ N b) : RawAt N P w' r p := by
  induction h with
  | mk num nP len mcap big vs row ch ih =>
    refine .mk (num.keep K (fun hn b off e hS => (hs b hS).2 (nP hn b off e))) nP len mcap big vs (fun hm => ?_) ih
    obtain ⟨b, off, e, hP, hc⟩ := row hm
    exact ⟨b, off, e, hP, fun i h => (hc i h).keep K (fun hS => (hs b hS).1 hP)⟩
theorem RawAt.keep0 {N P : Nat → Prop} {w w' : World} {r : Raw} {p : PV} (h : RawAt N P w r p) (K : Keep (fun _ => False) w w') : RawAt N P w' r p := h.keep K (fun _ h => h.elim)
theorem ItemC.cells {w : World} {b off i : Nat} {r : Raw} {p : PV} (h : ItemC w b off i r p) : w.cell? ⟨b, off + i * 6, .none⟩ = some (.int .i64 r.k) ∧ w.cell? ⟨b, off + i * 6 + 1, .none⟩ = some (.int .i32 r.c) ∧ w.cell? ⟨b, off + i * 6 + 2, .none⟩ = some (.bool r.neg) ∧ w.cell? ⟨b, off + i * 6 + 3, .none⟩ = some (.slice p.A p.n p.cp) ∧ w.cell? ⟨b, off + i * 6 + 4, .none⟩ = some (.string r.t) ∧ w.cell? ⟨b, off + i * 6 + 5, .none⟩ = some (.slice p.B p.m p.cap) :=
  ⟨h 0 _ rfl, h 1 _ rfl, h 2 _ rfl, h 3 _ rfl, h 4 _ rfl, h 5 _ rfl⟩
theorem Raw.ext {r r' : Raw} (h0 : r.k = r'.k) (h1 : r.c = r'.c) (h2 : r.neg = r'.neg) (h3 : r.mag = r'.mag) (h4 : r.t = r'.t) (h5 : r.l = r'.l) : r = r' := by
  cases r; cases r'
  simp only [Raw.k, Raw.c, Raw.neg, Raw.mag, Raw.t, Raw.l] at h0 h1 h2 h3 h4 h5
  rw [h0, h1, h2, h3, h4, h5]
/-- Are two data the same? -/
noncomputable def eqR (r r' : Raw) : Bool := @decide (r = r') (Classical.propDecidable _)
theorem eqR_true {r r' : Raw} : eqR r r' = true ↔ r = r' := by unfold eqR; simp
theorem eqR_false {r r' : Raw} : eqR r r' = false ↔ r ≠ r' := by unfold eqR; simp
theorem RawAt.items {N P : Nat → Prop} {w : World} {r : Raw} {p : PV} (h : RawAt N P w r p) (i : Nat) (hi : i < r.l.length) : ∃ b off v, p.B = some ⟨b, off, .none⟩ ∧ P b ∧ ItemC w b off i r.l[i] v ∧ RawAt N P w r.l[i] v := by
  cases h with
  | mk num nP len mcap big vs row ch =>
    obtain ⟨b, off, e, hP, hc⟩ := row (by omega)
    exact ⟨b, off, vs i, e, hP, hc i hi, ch i hi⟩
theorem RawAt.num {N P : Nat → Prop} {w : World} {r : Raw} {p : PV} (h : RawAt N P w r p) : LimbsAt w p.A p.n p.cp r.mag := by cases h with | mk num => exact num
theorem RawAt.len {N P : Nat → Prop} {w : World} {r : Raw} {p : PV} (h : RawAt N P w r p) : r.l.length = p.m := by cases h with | mk _ _ len => exact len
open Go.Lib
open Go.RowKit Go.Lib
theorem dat_cells {w : World} {B : Nat} {x0 x1 x2 x3 x4 x5 : Value} (h : w.heap[B]? = some (.cells #[x0, x1, x2, x3, x4, x5] 27 (0, 0))) :
    w.cell? ⟨B, 0, none⟩ = some x0 ∧ w.cell? ⟨B, 1, none⟩ = some x1 ∧ w.cell? ⟨B, 2, none⟩ = some x2 ∧ w.cell? ⟨B, 3, none⟩ = some x3 ∧ w.cell? ⟨B, 4, none⟩ = some x4 ∧ w.cell? ⟨B, 5, none⟩ = some x5 := by
  refine ⟨?_, ?_, ?_, ?_, ?_, ?_⟩
  all_goals (rw [cell_of_row w _ _ _ _ _ h]; rfl)
open Go.RowKit Go.Lib
set_option maxRecDepth 100000 in
set_option maxHeartbeats 2000000 in
theorem rsame_k (r r' : Raw) (p p' : PV) (W : World) (q0 : (r.k != r'.k) = true) : Calls Tryz.prog 10 #[rawV r p, rawV r' p'] W (BoolPost false W) := by
  have hb1 : ((W.alloc (.cells #[.int .i64 r.k, .int .i32 r.c, .bool r.neg, .slice p.A p.n p.cp, .string r.t, .slice p.B p.m p.cap] 27)).alloc (.cells #[.int .i64 r'.k, .int .i32 r'.c, .bool r'.neg, .slice p'.A p'.n p'.cp, .string r'.t, .slice p'.B p'.m p'.cap] 27)).heap[W.heap.size]? = some (.cells #[.int .i64 r.k, .int .i32 r.c, .bool r.neg, .slice p.A p.n p.cp, .string r.t, .slice p.B p.m p.cap] 27 (0, 0)) := by
    rw [Below.heap_alloc _ _ _ (by simp)]; exact heap_alloc_new W _
  have hb2 : ((W.alloc (.cells #[.int .i64 r.k, .int .i32 r.c, .bool r.neg, .slice p.A p.n p.cp, .string r.t, .slice p.B p.m p.cap] 27)).alloc (.cells #[.int .i64 r'.k, .int .i32 r'.c, .bool r'.neg, .slice p'.A p'.n p'.cp, .string r'.t, .slice p'.B p'.m p'.cap] 27)).heap[W.heap.size + 1]? = some (.cells #[.int .i64 r'.k, .int .i32 r'.c, .bool r'.neg, .slice p'.A p'.n p'.cp, .string r'.t, .slice p'.B p'.m p'.cap] 27 (0, 0)) := by
    have := heap_alloc_new (W.alloc (.cells #[.int .i64 r.k, .int .i32 r.c, .bool r.neg, .slice p.A p.n p.cp, .string r.t, .slice p.B p.m p.cap] 27)) (.cells #[.int .i64 r'.k, .int .i32 r'.c, .bool r'.neg, .slice p'.A p'.n p'.cp, .string r'.t, .slice p'.B p'.m p'.cap] 27)
    rwa [World.size_alloc] at this
  have HB1 := Lib.hid hb1
  have HB2 := Lib.hid hb2
  have HK := Lib.hid (show Keep (fun _ => False) W ((W.alloc (.cells #[.int .i64 r.k, .int .i32 r.c, .bool r.neg, .slice p.A p.n p.cp, .string r.t, .slice p.B p.m p.cap] 27)).alloc (.cells #[.int .i64 r'.k, .int .i32 r'.c, .bool r'.neg, .slice p'.A p'.n p'.cp, .string r'.t, .slice p'.B p'.m p'.cap] 27)) from ((Keep.refl _ _).alloc _).alloc _)
  obtain ⟨a0, a1, a2, a3, a4, a5⟩ := dat_cells hb1
  obtain ⟨b0, b1, b2, b3, b4, b5⟩ := dat_cells hb2
  clear hb1 hb2
  go_enter Tryz.func10, Tryz.ntmps10
  go_wp2_with fail
  go_ret
  exact ⟨rfl, HK.out⟩
set_option maxRecDepth 100000 in
set_option maxHeartbeats 2000000 in
theorem rsame_c (r r' : Raw) (p p' : PV) (W : World) (q0 : (r.k != r'.k) = false) (q1 : (r.c != r'.c) = true) : Calls Tryz.prog 10 #[rawV r p, rawV r' p'] W (BoolPost false W) := by
  have hb1 : ((W.alloc (.cells #[.int .i64 r.k, .int .i32 r.c, .bool r.neg, .slice p.A p.n p.cp, .string r.t, .slice p.B p.m p.cap] 27)).alloc (.cells #[.int .i64 r'.k, .int .i32 r'.c, .bool r'.neg, .slice p'.A p'.n p'.cp, .string r'.t, .slice p'.B p'.m p'.cap] 27)).heap[W.heap.size]? = some (.cells #[.int .i64 r.k, .int .i32 r.c, .bool r.neg, .slice p.A p.n p.cp, .string r.t, .slice p.B p.m p.cap] 27 (0, 0)) := by
    rw [Below.heap_alloc _ _ _ (by simp)]; exact heap_alloc_new W _
  have hb2 : ((W.alloc (.cells #[.int .i64 r.k, .int .i32 r.c, .bool r.neg, .slice p.A p.n p.cp, .string r.t, .slice p.B p.m p.cap] 27)).alloc (.cells #[.int .i64 r'.k, .int .i32 r'.c, .bool r'.neg, .slice p'.A p'.n p'.cp, .string r'.t, .slice p'.B p'.m p'.cap] 27)).heap[W.heap.size + 1]? = some (.cells #[.int .i64 r'.k, .int .i32 r'.c, .bool r'.neg, .slice p'.A p'.n p'.cp, .string r'.t, .slice p'.B p'.m p'.cap] 27 (0, 0)) := by
    have := heap_alloc_new (W.alloc (.cells #[.int .i64 r.k, .int .i32 r.c, .bool r.neg, .slice p.A p.n p.cp, .string r.t, .slice p.B p.m p.cap] 27)) (.cells #[.int .i64 r'.k, .int .i32 r'.c, .bool r'.neg, .slice p'.A p'.n p'.cp, .string r'.t, .slice p'.B p'.m p'.cap] 27)
    rwa [World.size_alloc] at this
  have HB1 := Lib.hid hb1
  have HB2 := Lib.hid hb2
  have HK := Lib.hid (show Keep (fun _ => False) W ((W.alloc (.cells #[.int .i64 r.k, .int .i32 r.c, .bool r.neg, .slice p.A p.n p.cp, .string r.t, .slice p.B p.m p.cap] 27)).alloc (.cells #[.int .i64 r'.k, .int .i32 r'.c, .bool r'.neg, .slice p'.A p'.n p'.cp, .string r'.t, .slice p'.B p'.m p'.cap] 27)) from ((Keep.refl _ _).alloc _).alloc _)
  obtain ⟨a0, a1, a2, a3, a4, a5⟩ := dat_cells hb1
  obtain ⟨b0, b1, b2, b3, b4, b5⟩ := dat_cells hb2
  clear hb1 hb2
  go_enter Tryz.func10, Tryz.ntmps10
  go_wp2_with fail
  go_ret
  exact ⟨rfl, HK.out⟩
set_option maxRecDepth 100000 in
set_option maxHeartbeats 2000000 in
theorem rsame_n (r r' : Raw) (p p' : PV) (W : World) (q0 : (r.k != r'.k) = false) (q1 : (r.c != r'.c) = false) (HS : Hid (∀ (w1 : World), Keep (fun _ => False) W w1 → Calls Tryz.prog 20 #[numArg r.neg p.A p.n p.cp, numArg r'.neg p'.A p'.n p'.cp] w1 (BoolPost (sameB r.neg r.mag r'.neg r'.mag) w1))) (HSB : Hid (sameB r.neg r.mag r'.neg r'.mag = false)) : Calls Tryz.prog 10 #[rawV r p, rawV r' p'] W (BoolPost false W) := by
  have hb1 : ((W.alloc (.cells #[.int .i64 r.k, .int .i32 r.c, .bool r.neg, .slice p.A p.n p.cp, .string r.t, .slice p.B p.m p.cap] 27)).alloc (.cells #[.int .i64 r'.k, .int .i32 r'.c, .bool r'.neg, .slice p'.A p'.n p'.cp, .string r'.t, .slice p'.B p'.m p'.cap] 27)).heap[W.heap.size]? = some (.cells #[.int .i64 r.k, .int .i32 r.c, .bool r.neg, .slice p.A p.n p.cp, .string r.t, .slice p.B p.m p.cap] 27 (0, 0)) := by
    rw [Below.heap_alloc _ _ _ (by simp)]; exact heap_alloc_new W _
  have hb2 : ((W.alloc (.cells #[.int .i64 r.k, .int .i32 r.c, .bool r.neg, .slice p.A p.n p.cp, .string r.t, .slice p.B p.m p.cap] 27)).alloc (.cells #[.int .i64 r'.k, .int .i32 r'.c, .bool r'.neg, .slice p'.A p'.n p'.cp, .string r'.t, .slice p'.B p'.m p'.cap] 27)).heap[W.heap.size + 1]? = some (.cells #[.int .i64 r'.k, .int .i32 r'.c, .bool r'.neg, .slice p'.A p'.n p'.cp, .string r'.t, .slice p'.B p'.m p'.cap] 27 (0, 0)) := by
    have := heap_alloc_new (W.alloc (.cells #[.int .i64 r.k, .int .i32 r.c, .bool r.neg, .slice p.A p.n p.cp, .string r.t, .slice p.B p.m p.cap] 27)) (.cells #[.int .i64 r'.k, .int .i32 r'.c, .bool r'.neg, .slice p'.A p'.n p'.cp, .string r'.t, .slice p'.B p'.m p'.cap] 27)
    rwa [World.size_alloc] at this
  have HB1 := Lib.hid hb1
  have HB2 := Lib.hid hb2
  have HK := Lib.hid (show Keep (fun _ => False) W ((W.alloc (.cells #[.int .i64 r.k, .int .i32 r.c, .bool r.neg, .slice p.A p.n p.cp, .string r.t, .slice p.B p.m p.cap] 27)).alloc (.cells #[.int .i64 r'.k, .int .i32 r'.c, .bool r'.neg, .slice p'.A p'.n p'.cp, .string r'.t, .slice p'.B p'.m p'.cap] 27)) from ((Keep.refl _ _).alloc _).alloc _)
  obtain ⟨a0, a1, a2, a3, a4, a5⟩ := dat_cells hb1
  obtain ⟨b0, b1, b2, b3, b4, b5⟩ := dat_cells hb2
  clear hb1 hb2
  go_enter Tryz.func10, Tryz.ntmps10
  go_wp2_with fail
  generalize ((W.alloc (.cells #[.int .i64 r.k, .int .i32 r.c, .bool r.neg, .slice p.A p.n p.cp, .string r.t, .slice p.B p.m p.cap] 27)).alloc (.cells #[.int .i64 r'.k, .int .i32 r'.c, .bool r'.neg, .slice p'.A p'.n p'.cp, .string r'.t, .slice p'.B p'.m p'.cap] 27)) = w1 at *
  refine (HS.out _ HK.out).mono ?_
  rintro e w2 ⟨rfl, k2⟩
  rw [HSB.out]
  have hb1 := k2.heap HB1.out (by simp)
  have hb2 := k2.heap HB2.out (by simp)
  have HK2 := Lib.hid (HK.out.trans k2)
  clear a0 a1 a2 a3 a4 a5 b0 b1 b2 b3 b4 b5 k2
  obtain ⟨a0, a1, a2, a3, a4, a5⟩ := dat_cells hb1
  obtain ⟨b0, b1, b2, b3, b4, b5⟩ := dat_cells hb2
  go_wp2_with fail
  go_ret
  exact ⟨rfl, HK2.out⟩
set_option maxRecDepth 100000 in
set_option maxHeartbeats 2000000 in
theorem rsame_t (r r' : Raw) (p p' : PV) (W : World) (q0 : (r.k != r'.k) = false) (q1 : (r.c != r'.c) = false) (HS : Hid (∀ (w1 : World), Keep (fun _ => False) W w1 → Calls Tryz.prog 20 #[numArg r.neg p.A p.n p.cp, numArg r'.neg p'.A p'.n p'.cp] w1 (BoolPost (sameB r.neg r.mag r'.neg r'.mag) w1))) (HSB : Hid (sameB r.neg r.mag r'.neg r'.mag = true)) (q3 : ¬ r.t.toList = r'.t.toList) : Calls Tryz.prog 10 #[rawV r p, rawV r' p'] W (BoolPost false W) := by
  have hb1 : ((W.alloc (.cells #[.int .i64 r.k, .int .i32 r.c, .bool r.neg, .slice p.A p.n p.cp, .string r.t, .slice p.B p.m p.cap] 27)).alloc (.cells #[.int .i64 r'.k, .int .i32 r'.c, .bool r'.neg, .slice p'.A p'.n p'.cp, .string r'.t, .slice p'.B p'.m p'.cap] 27)).heap[W.heap.size]? = some (.cells #[.int .i64 r.k, .int .i32 r.c, .bool r.neg, .slice p.A p.n p.cp, .string r.t, .slice p.B p.m p.cap] 27 (0, 0)) := by
    rw [Below.heap_alloc _ _ _ (by simp)]; exact heap_alloc_new W _
  have hb2 : ((W.alloc (.cells #[.int .i64 r.k, .int .i32 r.c, .bool r.neg, .slice p.A p.n p.cp, .string r.t, .slice p.B p.m p.cap] 27)).alloc (.cells #[.int .i64 r'.k, .int .i32 r'.c, .bool r'.neg, .slice p'.A p'.n p'.cp, .string r'.t, .slice p'.B p'.m p'.cap] 27)).heap[W.heap.size + 1]? = some (.cells #[.int .i64 r'.k, .int .i32 r'.c, .bool r'.neg, .slice p'.A p'.n p'.cp, .string r'.t, .slice p'.B p'.m p'.cap] 27 (0, 0)) := by
    have := heap_alloc_new (W.alloc (.cells #[.int .i64 r.k, .int .i32 r.c, .bool r.neg, .slice p.A p.n p.cp, .string r.t, .slice p.B p.m p.cap] 27)) (.cells #[.int .i64 r'.k, .int .i32 r'.c, .bool r'.neg, .slice p'.A p'.n p'.cp, .string r'.t, .slice p'.B p'.m p'.cap] 27)
    rwa [World.size_alloc] at this
  have HB1 := Lib.hid hb1
  have HB2 := Lib.hid hb2
  have HK := Lib.hid (show Keep (fun _ => False) W ((W.alloc (.cells #[.int .i64 r.k, .int .i32 r.c, .bool r.neg, .slice p.A p.n p.cp, .string r.t, .slice p.B p.m p.cap] 27)).alloc (.cells #[.int .i64 r'.k, .int .i32 r'.c, .bool r'.neg, .slice p'.A p'.n p'.cp, .string r'.t, .slice p'.B p'.m p'.cap] 27)) from ((Keep.refl _ _).alloc _).alloc _)
  obtain ⟨a0, a1, a2, a3, a4, a5⟩ := dat_cells hb1
  obtain ⟨b0, b1, b2, b3, b4, b5⟩ := dat_cells hb2
  clear hb1 hb2
  go_enter Tryz.func10, Tryz.ntmps10
  go_wp2_with fail
  generalize ((W.alloc (.cells #[.int .i64 r.k, .int .i32 r.c, .bool r.neg, .slice p.A p.n p.cp, .string r.t, .slice p.B p.m p.cap] 27)).alloc (.cells #[.int .i64 r'.k, .int .i32 r'.c, .bool r'.neg, .slice p'.A p'.n p'.cp, .string r'.t, .slice p'.B p'.m p'.cap] 27)) = w1 at *
  refine (HS.out _ HK.out).mono ?_
  rintro e w2 ⟨rfl, k2⟩
  rw [HSB.out]
  have hb1 := k2.heap HB1.out (by simp)
  have hb2 := k2.heap HB2.out (by simp)
  have HK2 := Lib.hid (HK.out.trans k2)
  clear a0 a1 a2 a3 a4 a5 b0 b1 b2 b3 b4 b5 k2
  obtain ⟨a0, a1, a2, a3, a4, a5⟩ := dat_cells hb1
  obtain ⟨b0, b1, b2, b3, b4, b5⟩ := dat_cells hb2
  go_wp2_with fail
  go_ret
  exact ⟨rfl, HK2.out⟩
set_option maxRecDepth 100000 in
set_option maxHeartbeats 2000000 in
theorem rsame_m (r r' : Raw) (p p' : PV) (W : World) (q0 : (r.k != r'.k) = false) (q1 : (r.c != r'.c) = false) (HS : Hid (∀ (w1 : World), Keep (fun _ => False) W w1 → Calls Tryz.prog 20 #[numArg r.neg p.A p.n p.cp, numArg r'.neg p'.A p'.n p'.cp] w1 (BoolPost (sameB r.neg r.mag r'.neg r'.mag) w1))) (HSB : Hid (sameB r.neg r.mag r'.neg r'.mag = true)) (q3 : r.t.toList = r'.t.toList) (q4 : ((p.m : Int) != (p'.m : Int)) = true) : Calls Tryz.prog 10 #[rawV r p, rawV r' p'] W (BoolPost false W) := by
  have hb1 : ((W.alloc (.cells #[.int .i64 r.k, .int .i32 r.c, .bool r.neg, .slice p.A p.n p.cp, .string r.t, .slice p.B p.m p.cap] 27)).alloc (.cells #[.int .i64 r'.k, .int .i32 r'.c, .bool r'.neg, .slice p'.A p'.n p'.cp, .string r'.t, .slice p'.B p'.m p'.cap] 27)).heap[W.heap.size]? = some (.cells #[.int .i64 r.k, .int .i32 r.c, .bool r.neg, .slice p.A p.n p.cp, .string r.t, .slice p.B p.m p.cap] 27 (0, 0)) := by
    rw [Below.heap_alloc _ _ _ (by simp)]; exact heap_alloc_new W _
  have hb2 : ((W.alloc (.cells #[.int .i64 r.k, .int .i32 r.c, .bool r.neg, .slice p.A p.n p.cp, .string r.t, .slice p.B p.m p.cap] 27)).alloc (.cells #[.int .i64 r'.k, .int .i32 r'.c, .bool r'.neg, .slice p'.A p'.n p'.cp, .string r'.t, .slice p'.B p'.m p'.cap] 27)).heap[W.heap.size + 1]? = some (.cells #[.int .i64 r'.k, .int .i32 r'.c, .bool r'.neg, .slice p'.A p'.n p'.cp, .string r'.t, .slice p'.B p'.m p'.cap] 27 (0, 0)) := by
    have := heap_alloc_new (W.alloc (.cells #[.int .i64 r.k, .int .i32 r.c, .bool r.neg, .slice p.A p.n p.cp, .string r.t, .slice p.B p.m p.cap] 27)) (.cells #[.int .i64 r'.k, .int .i32 r'.c, .bool r'.neg, .slice p'.A p'.n p'.cp, .string r'.t, .slice p'.B p'.m p'.cap] 27)
    rwa [World.size_alloc] at this
  have HB1 := Lib.hid hb1
  have HB2 := Lib.hid hb2
  have HK := Lib.hid (show Keep (fun _ => False) W ((W.alloc (.cells #[.int .i64 r.k, .int .i32 r.c, .bool r.neg, .slice p.A p.n p.cp, .string r.t, .slice p.B p.m p.cap] 27)).alloc (.cells #[.int .i64 r'.k, .int .i32 r'.c, .bool r'.neg, .slice p'.A p'.n p'.cp, .string r'.t, .slice p'.B p'.m p'.cap] 27)) from ((Keep.refl _ _).alloc _).alloc _)
  obtain ⟨a0, a1, a2, a3, a4, a5⟩ := dat_cells hb1
  obtain ⟨b0, b1, b2, b3, b4, b5⟩ := dat_cells hb2
  clear hb1 hb2
  go_enter Tryz.func10, Tryz.ntmps10
  go_wp2_with fail
  generalize ((W.alloc (.cells #[.int .i64 r.k, .int .i32 r.c, .bool r.neg, .slice p.A p.n p.cp, .string r.t, .slice p.B p.m p.cap] 27)).alloc (.cells #[.int .i64 r'.k, .int .i32 r'.c, .bool r'.neg, .slice p'.A p'.n p'.cp, .string r'.t, .slice p'.B p'.m p'.cap] 27)) = w1 at *
  refine (HS.out _ HK.out).mono ?_
  rintro e w2 ⟨rfl, k2⟩
  rw [HSB.out]
  have hb1 := k2.heap HB1.out (by simp)
  have hb2 := k2.heap HB2.out (by simp)
  have HK2 := Lib.hid (HK.out.trans k2)
  clear a0 a1 a2 a3 a4 a5 b0 b1 b2 b3 b4 b5 k2
  obtain ⟨a0, a1, a2, a3, a4, a5⟩ := dat_cells hb1
  obtain ⟨b0, b1, b2, b3, b4, b5⟩ := dat_cells hb2
  go_wp2_with fail
  go_ret
  exact ⟨rfl, HK2.out⟩
theorem bytes_eq {x y : ByteArray} (h : x.toList = y.toList) : x = y := by
  rw [Lib.toList_data, Lib.toList_data] at h
  exact ByteArray.ext (Array.toList_inj.mp h)
/-- Are the first i items the same? -/
def Upto (r r' : Raw) (i : Nat) : Prop := ∀ j (h : j < r.l.length) (h' : j < r'.l.length), j < i → r.l[j] = r'.l[j]
theorem Upto.all {r r' : Raw} (hl : r.l.length = r'.l.length) (h : Upto r r' r.l.length) : r.l = r'.l := List.ext_getElem hl (fun j h1 h2 => h j h1 h2 h1)
/-- What the loop stands on. -/
structure SamS (W : World) (r r' : Raw) (p p' : PV) (i B1 : Nat) (wr : World) : Prop where
  K : Keep (fun _ => False) W wr
  h1 : wr.heap[B1]? = some (.cells #[.int .i64 r.k, .int .i32 r.c, .bool r.neg, .slice p.A p.n p.cp, .string r.t, .slice p.B p.m p.cap] 27 (0, 0))
  h2 : wr.heap[B1 + 1]? = some (.cells #[.int .i64 r'.k, .int .i32 r'.c, .bool r'.neg, .slice p'.A p'.n p'.cp, .string r'.t, .slice p'.B p'.m p'.cap] 27 (0, 0))
  le : i ≤ r.l.length
  upto : Upto r r' i
set_option maxRecDepth 100000 in
set_option maxHeartbeats 4000000 in
theorem rsame_l {P N' P' : Nat → Prop} (r r' : Raw) (p p' : PV) (W : World) (w : World) (hW : Keep (fun _ => False) w W) (q0 : (r.k != r'.k) = false) (q1 : (r.c != r'.c) = false) (HS : Hid (∀ (w1 : World), Keep (fun _ => False) W w1 → Calls Tryz.prog 20 #[numArg r.neg p.A p.n p.cp, numArg r'.neg p'.A p'.n p'.cp] w1 (BoolPost (sameB r.neg r.mag r'.neg r'.mag) w1))) (HSB : Hid (sameB r.neg r.mag r'.neg r'.mag = true)) (q3 : r.t.toList = r'.t.toList) (q4 : ((p.m : Int) != (p'.m : Int)) = false)
    (hm : p.m ≤ 9223372036854775807) (vs : Nat → PV) (HROW : Hid (0 < p.m → ∃ b off, p.B = some ⟨b, off, .none⟩ ∧ P b ∧ ∀ i (h : i < r.l.length), ItemC w b off i r.l[i] (vs i))) (HH' : Hid (RawAt N' P' W r' p')) (HL : Hid (r.l.length = p.m)) (HL' : Hid (r'.l.length = p'.m)) (HX : Hid (r.l = r'.l → r = r'))
    (IH : Hid (∀ i (h : i < r.l.length) (x' : Raw) (v' : PV) (w' : World), Keep (fun _ => False) w w' → RawAt N' P' w' x' v' → Calls Tryz.prog 10 #[rawV r.l[i] (vs i), rawV x' v'] w' (BoolPost (eqR r.l[i] x') w'))) : Calls Tryz.prog 10 #[rawV r p, rawV r' p'] W (BoolPost (eqR r r') W) := by
  have hb1 : ((W.alloc (.cells #[.int .i64 r.k, .int .i32 r.c, .bool r.neg, .slice p.A p.n p.cp, .string r.t, .slice p.B p.m p.cap] 27)).alloc (.cells #[.int .i64 r'.k, .int .i32 r'.c, .bool r'.neg, .slice p'.A p'.n p'.cp, .string r'.t, .slice p'.B p'.m p'.cap] 27)).heap[W.heap.size]? = some (.cells #[.int .i64 r.k, .int .i32 r.c, .bool r.neg, .slice p.A p.n p.cp, .string r.t, .slice p.B p.m p.cap] 27 (0, 0)) := by
    rw [Below.heap_alloc _ _ _ (by simp)]; exact heap_alloc_new W _
  have hb2 : ((W.alloc (.cells #[.int .i64 r.k, .int .i32 r.c, .bool r.neg, .slice p.A p.n p.cp, .string r.t, .slice p.B p.m p.cap] 27)).alloc (.cells #[.int .i64 r'.k, .int .i32 r'.c, .bool r'.neg, .slice p'.A p'.n p'.cp, .string r'.t, .slice p'.B p'.m p'.cap] 27)).heap[W.heap.size + 1]? = some (.cells #[.int .i64 r'.k, .int .i32 r'.c, .bool r'.neg, .slice p'.A p'.n p'.cp, .string r'.t, .slice p'.B p'.m p'.cap] 27 (0, 0)) := by
    have := heap_alloc_new (W.alloc (.cells #[.int .i64 r.k, .int .i32 r.c, .bool r.neg, .slice p.A p.n p.cp, .string r.t, .slice p.B p.m p.cap] 27)) (.cells #[.int .i64 r'.k, .int .i32 r'.c, .bool r'.neg, .slice p'.A p'.n p'.cp, .string r'.t, .slice p'.B p'.m p'.cap] 27)
    rwa [World.size_alloc] at this
  have HB1 := Lib.hid hb1
  have HB2 := Lib.hid hb2
  have HK := Lib.hid (show Keep (fun _ => False) W ((W.alloc (.cells #[.int .i64 r.k, .int .i32 r.c, .bool r.neg, .slice p.A p.n p.cp, .string r.t, .slice p.B p.m p.cap] 27)).alloc (.cells #[.int .i64 r'.k, .int .i32 r'.c, .bool r'.neg, .slice p'.A p'.n p'.cp, .string r'.t, .slice p'.B p'.m p'.cap] 27)) from ((Keep.refl _ _).alloc _).alloc _)
  obtain ⟨a0, a1, a2, a3, a4, a5⟩ := dat_cells hb1
  obtain ⟨b0, b1, b2, b3, b4, b5⟩ := dat_cells hb2
  clear hb1 hb2
  have HW := Lib.hid hW
  clear hW
  go_enter Tryz.func10, Tryz.ntmps10
  go_wp2_with fail
  generalize ((W.alloc (.cells #[.int .i64 r.k, .int .i32 r.c, .bool r.neg, .slice p.A p.n p.cp, .string r.t, .slice p.B p.m p.cap] 27)).alloc (.cells #[.int .i64 r'.k, .int .i32 r'.c, .bool r'.neg, .slice p'.A p'.n p'.cp, .string r'.t, .slice p'.B p'.m p'.cap] 27)) = w1 at *
  refine (HS.out _ HK.out).mono ?_
  rintro e w2 ⟨rfl, k2⟩
  rw [HSB.out]
  have hb1 := k2.heap HB1.out (by simp)
  have hb2 := k2.heap HB2.out (by simp)
  have HK2 := Lib.hid (HK.out.trans k2)
  clear a0 a1 a2 a3 a4 a5 b0 b1 b2 b3 b4 b5 k2
  obtain ⟨a0, a1, a2, a3, a4, a5⟩ := dat_cells hb1
  obtain ⟨b0, b1, b2, b3, b4, b5⟩ := dat_cells hb2
  have HST := Lib.hid (show SamS W r r' p p' 0 W.heap.size w2 from ⟨HK2.out, hb1, hb2, Nat.zero_le _, fun j _ _ h => absurd h (Nat.not_lt_zero _)⟩)
  clear hb1 hb2
  go_wp2_with fail
  generalize hB1 : W.heap.size = B1 at *
  clear a0 a1 a2 a3 a4 a5 b0 b1 b2 b3 b4 b5
  go_loopw [5] (fun iv wr => ∃ i : Nat, iv = .int .i64 (i : Int) ∧ SamS W r r' p p' i B1 wr) (fun iv _ => p.m - (RowKit.intOf iv).toNat)
  case atStart => exact ⟨0, rfl, HST.out⟩
  case round =>
    obtain ⟨i, rfl, hst⟩ := hrel
    have hx1 := hst.h1
    have hx2 := hst.h2
    have HS2 := Lib.hid hst
    have HMM := Lib.hid (show p.m = p'.m by have h := q4; simp at h; omega)
    have hbig := hm
    clear hst
    obtain ⟨a0, a1, a2, a3, a4, a5⟩ := dat_cells hx1
    obtain ⟨b0, b1, b2, b3, b4, b5⟩ := dat_cells hx2
    clear hx1 hx2 a0 a1 a2 a3 a4 b0 b1 b2 b3 b4
    by_cases hlt : i < p.m
    · have hi1 : i < r.l.length := by rw [HL.out]; exact hlt
      have hi2 : i < r'.l.length := by rw [HL'.out, ← HMM.out]; exact hlt
      obtain ⟨g, o, eB, _, hrw⟩ := HROW.out (by omega)
      have hic := hrw i hi1
      obtain ⟨g', o', v', eB', _, hic', hv'⟩ := HH'.out.items i hi2
      have hic := hic.keep (HW.out.trans HS2.out.K) id
      have hic' := hic'.keep HS2.out.K id
      have HC1 := Lib.hid (fun (w' : World) (K : Keep (fun _ => False) wr w') => IH.out i hi1 r'.l[i] v' w' ((HW.out.trans HS2.out.K).trans K) (RawAt.keep0 hv' (HS2.out.K.trans K)))
      have HNE := Lib.hid (fun (h : r.l[i] ≠ r'.l[i]) => (show eqR r r' = false from eqR_false.2 (fun e => h (by subst e; rfl))))
      have HNX := Lib.hid (fun (h : r.l[i] = r'.l[i]) (w' : World) (K : Keep (fun _ => False) wr w') => (show SamS W r r' p p' (i + 1) B1 w' from ⟨HS2.out.K.trans K, K.heap HS2.out.h1 id, K.heap HS2.out.h2 id, hi1, fun j h1 h2 h3 => by
        by_cases e : j = i
        · subst e; exact h
        · exact HS2.out.upto j h1 h2 (by omega)⟩))
      obtain ⟨r0, r1, r2, r3, r4, r5⟩ := hic.cells
      obtain ⟨s0, s1, s2, s3, s4, s5⟩ := hic'.cells
      rw [eB] at a5
      rw [eB'] at b5
      clear eB eB'
      obtain ⟨x, hx⟩ : ∃ x, x = r.l[i] := ⟨_, rfl⟩
      obtain ⟨x', hx'⟩ : ∃ x', x' = r'.l[i] := ⟨_, rfl⟩
      rw [← hx] at HC1 HNE HNX r0 r1 r2 r4
      rw [← hx'] at HC1 HNE HNX s0 s1 s2 s4
      obtain ⟨v, hv⟩ : ∃ v, v = vs i := ⟨_, rfl⟩
      rw [← hv] at HC1 r3 r5
      clear hv hv' hic hic' hx hx' hrw
      have HCL := Lib.hid (fun (w' : World) (K : Keep (fun _ => False) wr w') => (show w'.cell? ⟨B1, 5, none⟩ = some (.slice (some ⟨g, o, none⟩) p.m p.cap) ∧ w'.cell? ⟨B1 + 1, 5, none⟩ = some (.slice (some ⟨g', o', none⟩) p'.m p'.cap) ∧ w'.cell? ⟨g, o + i * 6, none⟩ = some (.int .i64 x.k) ∧ w'.cell? ⟨g, o + i * 6 + 1, none⟩ = some (.int .i32 x.c) ∧ w'.cell? ⟨g, o + i * 6 + 2, none⟩ = some (.bool x.neg) ∧ w'.cell? ⟨g, o + i * 6 + 3, none⟩ = some (.slice v.A v.n v.cp) ∧ w'.cell? ⟨g, o + i * 6 + 4, none⟩ = some (.string x.t) ∧ w'.cell? ⟨g, o + i * 6 + 5, none⟩ = some (.slice v.B v.m v.cap) ∧ w'.cell? ⟨g', o' + i * 6, none⟩ = some (.int .i64 x'.k) ∧ w'.cell? ⟨g', o' + i * 6 + 1, none⟩ = some (.int .i32 x'.c) ∧ w'.cell? ⟨g', o' + i * 6 + 2, none⟩ = some (.bool x'.neg) ∧ w'.cell? ⟨g', o' + i * 6 + 3, none⟩ = some (.slice v'.A v'.n v'.cp) ∧ w'.cell? ⟨g', o' + i * 6 + 4, none⟩ = some (.string x'.t) ∧ w'.cell? ⟨g', o' + i * 6 + 5, none⟩ = some (.slice v'.B v'.m v'.cap) ∧ Keep (fun _ => False) wr w' from ⟨(K.cell (World.block_lt_of_cell? wr _ a5) id).trans a5, (K.cell (World.block_lt_of_cell? wr _ b5) id).trans b5, (K.cell (World.block_lt_of_cell? wr _ r0) id).trans r0, (K.cell (World.block_lt_of_cell? wr _ r1) id).trans r1, (K.cell (World.block_lt_of_cell? wr _ r2) id).trans r2, (K.cell (World.block_lt_of_cell? wr _ r3) id).trans r3, (K.cell (World.block_lt_of_cell? wr _ r4) id).trans r4, (K.cell (World.block_lt_of_cell? wr _ r5) id).trans r5, (K.cell (World.block_lt_of_cell? wr _ s0) id).trans s0, (K.cell (World.block_lt_of_cell? wr _ s1) id).trans s1, (K.cell (World.block_lt_of_cell? wr _ s2) id).trans s2, (K.cell (World.block_lt_of_cell? wr _ s3) id).trans s3, (K.cell (World.block_lt_of_cell? wr _ s4) id).trans s4, (K.cell (World.block_lt_of_cell? wr _ s5) id).trans s5, K⟩))
      have Kd : Keep (fun _ => False) wr wr.drew := (Keep.refl _ _).drew
      have l1 : decide ((i : Int) < (p.m : Int)) = true := decide_eq_true (by omega)
      have l2 : decide (i < p.m) = true := decide_eq_true hlt
      have hi0 : (0 : Int) ≤ (i : Int) := Int.natCast_nonneg _
      have j1 : (i : Int) < (p.m : Int) := by omega
      have j2 : (i : Int) < (p'.m : Int) := by have := HMM.out; omega
      go_wp2_with fail
      clear r0 r1 r2 r3 r4 r5 s0 s1 s2 s3 s4 s5 a5 b5
      by_cases hq : x = x'
      · have HC2 := Lib.hid (fun (w' : World) (K : Keep (fun _ => False) wr w') => (show Calls Tryz.prog 10 #[rawV x v, rawV x' v'] w' (BoolPost true w') from by have := HC1.out w' K; rwa [eqR_true.2 hq] at this))
        have HQ := Lib.hid hq
        clear hq
        go_region_held3 (fun w' => w'.cell? ⟨B1, 5, none⟩ = some (.slice (some ⟨g, o, none⟩) p.m p.cap) ∧ w'.cell? ⟨B1 + 1, 5, none⟩ = some (.slice (some ⟨g', o', none⟩) p'.m p'.cap) ∧ w'.cell? ⟨g, o + i * 6, none⟩ = some (.int .i64 x.k) ∧ w'.cell? ⟨g, o + i * 6 + 1, none⟩ = some (.int .i32 x.c) ∧ w'.cell? ⟨g, o + i * 6 + 2, none⟩ = some (.bool x.neg) ∧ w'.cell? ⟨g, o + i * 6 + 3, none⟩ = some (.slice v.A v.n v.cp) ∧ w'.cell? ⟨g, o + i * 6 + 4, none⟩ = some (.string x.t) ∧ w'.cell? ⟨g, o + i * 6 + 5, none⟩ = some (.slice v.B v.m v.cap) ∧ w'.cell? ⟨g', o' + i * 6, none⟩ = some (.int .i64 x'.k) ∧ w'.cell? ⟨g', o' + i * 6 + 1, none⟩ = some (.int .i32 x'.c) ∧ w'.cell? ⟨g', o' + i * 6 + 2, none⟩ = some (.bool x'.neg) ∧ w'.cell? ⟨g', o' + i * 6 + 3, none⟩ = some (.slice v'.A v'.n v'.cp) ∧ w'.cell? ⟨g', o' + i * 6 + 4, none⟩ = some (.string x'.t) ∧ w'.cell? ⟨g', o' + i * 6 + 5, none⟩ = some (.slice v'.B v'.m v'.cap) ∧ Keep (fun _ => False) wr w')
          (first | exact HCL.out _ Kd | exact HCL.out _ (by assumption))
          ((go_at_call 10; go_split_ands; (with_reducible refine (HC2.out _ (by assumption)).mono ?_); rintro e w5 ⟨rfl, k5⟩; have K5 := Keep.trans (by assumption) k5))
        have HN3 := Lib.hid (HNX.out HQ.out _ K5)
        clear k5 K5 Kd
        try dsimp only
        go_wp2_with fail
        go_roundw
        case rel => exact ⟨i + 1, by go_num, HN3.out⟩
        case measure => simp only [RowKit.intOf]; omega
      · have HC2 := Lib.hid (fun (w' : World) (K : Keep (fun _ => False) wr w') => (show Calls Tryz.prog 10 #[rawV x v, rawV x' v'] w' (BoolPost false w') from by have := HC1.out w' K; rwa [eqR_false.2 hq] at this))
        have HF := Lib.hid (HNE.out hq)
        clear hq
        go_region_held3 (fun w' => w'.cell? ⟨B1, 5, none⟩ = some (.slice (some ⟨g, o, none⟩) p.m p.cap) ∧ w'.cell? ⟨B1 + 1, 5, none⟩ = some (.slice (some ⟨g', o', none⟩) p'.m p'.cap) ∧ w'.cell? ⟨g, o + i * 6, none⟩ = some (.int .i64 x.k) ∧ w'.cell? ⟨g, o + i * 6 + 1, none⟩ = some (.int .i32 x.c) ∧ w'.cell? ⟨g, o + i * 6 + 2, none⟩ = some (.bool x.neg) ∧ w'.cell? ⟨g, o + i * 6 + 3, none⟩ = some (.slice v.A v.n v.cp) ∧ w'.cell? ⟨g, o + i * 6 + 4, none⟩ = some (.string x.t) ∧ w'.cell? ⟨g, o + i * 6 + 5, none⟩ = some (.slice v.B v.m v.cap) ∧ w'.cell? ⟨g', o' + i * 6, none⟩ = some (.int .i64 x'.k) ∧ w'.cell? ⟨g', o' + i * 6 + 1, none⟩ = some (.int .i32 x'.c) ∧ w'.cell? ⟨g', o' + i * 6 + 2, none⟩ = some (.bool x'.neg) ∧ w'.cell? ⟨g', o' + i * 6 + 3, none⟩ = some (.slice v'.A v'.n v'.cp) ∧ w'.cell? ⟨g', o' + i * 6 + 4, none⟩ = some (.string x'.t) ∧ w'.cell? ⟨g', o' + i * 6 + 5, none⟩ = some (.slice v'.B v'.m v'.cap) ∧ Keep (fun _ => False) wr w')
          (first | exact HCL.out _ Kd | exact HCL.out _ (by assumption))
          ((go_at_call 10; go_split_ands; (with_reducible refine (HC2.out _ (by assumption)).mono ?_); rintro e w5 ⟨rfl, k5⟩; have K5 := Keep.trans (by assumption) k5))
        have HK5 := Lib.hid (HS2.out.K.trans K5)
        clear k5 K5 Kd
        try dsimp only
        go_wp2_with fail
        go_ret
        exact ⟨(show Ending.returned (.bool false) = Ending.returned (.bool (eqR r r')) by rw [HF.out]), HK5.out⟩
    · have l1 : decide ((i : Int) < (p.m : Int)) = false := decide_eq_false (by omega)
      have l2 : decide (i < p.m) = false := decide_eq_false hlt
      have HT := Lib.hid (show eqR r r' = true from eqR_true.2 (HX.out (Upto.all (by rw [HL.out, HL'.out, HMM.out]) (by have := HS2.out.upto; have h2 := HS2.out.le; rw [HL.out] at h2; rw [HL.out, show p.m = i by omega]; exact this))))
      go_wp2_with fail
      go_ret
      exact ⟨(show Ending.returned (.bool true) = Ending.returned (.bool (eqR r r')) by rw [HT.out]), HS2.out.K⟩
set_option maxRecDepth 100000 in
theorem rsame_any {N P N' P' : Nat → Prop} {w : World} {r : Raw} {p : PV} (h : RawAt N P w r p) : ∀ (r' : Raw) (p' : PV) (W : World), Keep (fun _ => False) w W → RawAt N' P' W r' p' → Calls Tryz.prog 10 #[rawV r p, rawV r' p'] W (BoolPost (eqR r r') W) := by
  induction h with
  | @mk r p num nP len mcap big vs row ch ih =>
    intro r' p' W hW hr'
    have HS : Hid (∀ (w1 : World), Keep (fun _ => False) W w1 → Calls Tryz.prog 20 #[numArg r.neg p.A p.n p.cp, numArg r'.neg p'.A p'.n p'.cp] w1 (BoolPost (sameB r.neg r.mag r'.neg r'.mag) w1)) := Lib.hid (fun w1 K => same_any r.neg p.A p.n p.cp r.mag r'.neg p'.A p'.n p'.cp r'.mag w1 ((num.keep0 hW).keep0 K) (hr'.num.keep0 K))
    by_cases q0 : r.k = r'.k
    case neg => rw [eqR_false.2 (fun e => q0 (by rw [e]))]; exact rsame_k r r' p p' W (by simpa using q0)
    have q0' : (r.k != r'.k) = false := by simpa using q0
    by_cases q1 : r.c = r'.c
    case neg => rw [eqR_false.2 (fun e => q1 (by rw [e]))]; exact rsame_c r r' p p' W q0' (by simpa using q1)
    have q1' : (r.c != r'.c) = false := by simpa using q1
    by_cases q2 : r.neg = r'.neg ∧ r.mag = r'.mag
    case neg => rw [eqR_false.2 (fun e => q2 (by rw [e]; exact ⟨rfl, rfl⟩))]; exact rsame_n r r' p p' W q0' q1' HS (Lib.hid (decide_eq_false q2))
    have q2' := Lib.hid (show sameB r.neg r.mag r'.neg r'.mag = true from decide_eq_true q2)
    by_cases q3 : r.t.toList = r'.t.toList
    case neg => rw [eqR_false.2 (fun e => q3 (by rw [e]))]; exact rsame_t r r' p p' W q0' q1' HS q2' q3
    by_cases q4 : p.m = p'.m
    case neg => rw [eqR_false.2 (fun e => q4 (by rw [← len, ← hr'.len, e]))]; exact rsame_m r r' p p' W q0' q1' HS q2' q3 (by simp; omega)
    have hx : r.l = r'.l → r = r' := fun e => Raw.ext q0 q1 q2.1 q2.2 (bytes_eq q3) e
    exact rsame_l (P := P) (N' := N') (P' := P') r r' p p' W _ hW q0' q1' HS q2' q3 (by simp; omega) (by omega) vs (Lib.hid row) (Lib.hid hr') (Lib.hid len) (Lib.hid hr'.len) (Lib.hid hx)
      (Lib.hid (fun i hi x' v' w' K hx' => ih i hi x' v' w' K hx'))
open Go.RowKit Go.Lib
theorem bx_old {w : World} {b : Nat} {o : Obj} (h : w.heap[b]? = some o) (x : Obj) : (w.alloc x).heap[b]? = some o := by
  rw [Below.heap_alloc _ _ _ (heap_lt h)]; exact h
/-- A block of 6 cells, and that they may be written. -/
theorem six_cells {w : World} {B : Nat} {x0 x1 x2 x3 x4 x5 : Value} (h : w.heap[B]? = some (.cells #[x0, x1, x2, x3, x4, x5] 27 (0, 0))) : (w.cell? ⟨B, 0, none⟩ = some x0 ∧ w.cell? ⟨B, 1, none⟩ = some x1 ∧ w.cell? ⟨B, 2, none⟩ = some x2 ∧ w.cell? ⟨B, 3, none⟩ = some x3 ∧ w.cell? ⟨B, 4, none⟩ = some x4 ∧ w.cell? ⟨B, 5, none⟩ = some x5) ∧ (w.frozen? ⟨B, 0, none⟩ = false ∧ w.frozen? ⟨B, 1, none⟩ = false ∧ w.frozen? ⟨B, 2, none⟩ = false ∧ w.frozen? ⟨B, 3, none⟩ = false ∧ w.frozen? ⟨B, 4, none⟩ = false ∧ w.frozen? ⟨B, 5, none⟩ = false) := by
  refine ⟨⟨?_, ?_, ?_, ?_, ?_, ?_⟩, ?_, ?_, ?_, ?_, ?_, ?_⟩
  all_goals first
    | (rw [cell_of_row w _ _ _ _ _ h]; rfl)
    | simp [World.frozen?, h]
open Go.RowKit Go.Lib
open Go.RowKit Go.Lib
end Go.Proofs.YtkjocmenpccooaaGreatDoor
