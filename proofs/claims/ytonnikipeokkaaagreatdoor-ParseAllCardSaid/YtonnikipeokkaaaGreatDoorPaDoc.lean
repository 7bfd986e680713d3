/- The document's datum: Same, of any two. Structs in memory; a -/
import Derived.Test.YtonnikipeokkaaaGreatDoorPaMem
namespace Go.Proofs.YtonnikipeokkaaaGreatDoor
set_option maxRecDepth 100000
set_option maxHeartbeats 4000000
open Go.Lib (hid)
open Go.RowKit Go.Lib
theorem qC (r r' : Raw) (p p' : PV) (W : World) (q0 : (r.k != r'.k) = true) : Calls Tryz.prog 20 #[bT r p, bT r' p'] W (BoolPost false W) := by
 have hb1 : ((W.alloc (.cells (rwC r.k r.c r.neg p.A p.n p.cp r.t p.B p.m p.cap) 27)).alloc (.cells (rwC r'.k r'.c r'.neg p'.A p'.n p'.cp r'.t p'.B p'.m p'.cap) 27)).heap[W.heap.size]? = some (.cells (rwC r.k r.c r.neg p.A p.n p.cp r.t p.B p.m p.cap) 27 (0, 0)) := by
  rw [Below.heap_alloc _ _ _ (by simp)]; exact hN W _
 have hb2 : ((W.alloc (.cells (rwC r.k r.c r.neg p.A p.n p.cp r.t p.B p.m p.cap) 27)).alloc (.cells (rwC r'.k r'.c r'.neg p'.A p'.n p'.cp r'.t p'.B p'.m p'.cap) 27)).heap[W.heap.size + 1]? = some (.cells (rwC r'.k r'.c r'.neg p'.A p'.n p'.cp r'.t p'.B p'.m p'.cap) 27 (0, 0)) := by
  have := hN (W.alloc (.cells (rwC r.k r.c r.neg p.A p.n p.cp r.t p.B p.m p.cap) 27)) (.cells (rwC r'.k r'.c r'.neg p'.A p'.n p'.cp r'.t p'.B p'.m p'.cap) 27)
  rwa [World.size_alloc] at this
 have HB1 := hid hb1
 have HB2 := hid hb2
 have HK := hid (show K0 W ((W.alloc (.cells (rwC r.k r.c r.neg p.A p.n p.cp r.t p.B p.m p.cap) 27)).alloc (.cells (rwC r'.k r'.c r'.neg p'.A p'.n p'.cp r'.t p'.B p'.m p'.cap) 27)) from (kR.alloc _).alloc _)
 obtain ⟨a0, a1, a2, a3, a4, a5⟩ := aU hb1
 obtain ⟨b0, b1, b2, b3, b4, b5⟩ := aU hb2
 clear hb1 hb2
 go_enter Tryz.func20, Tryz.ntmps20
 go_wp2_with fail
 go_ret
 exact ⟨rfl, HK.out⟩
theorem qD (r r' : Raw) (p p' : PV) (W : World) (q0 : (r.k != r'.k) = false) (q1 : (r.c != r'.c) = true) : Calls Tryz.prog 20 #[bT r p, bT r' p'] W (BoolPost false W) := by
 have hb1 : ((W.alloc (.cells (rwC r.k r.c r.neg p.A p.n p.cp r.t p.B p.m p.cap) 27)).alloc (.cells (rwC r'.k r'.c r'.neg p'.A p'.n p'.cp r'.t p'.B p'.m p'.cap) 27)).heap[W.heap.size]? = some (.cells (rwC r.k r.c r.neg p.A p.n p.cp r.t p.B p.m p.cap) 27 (0, 0)) := by
  rw [Below.heap_alloc _ _ _ (by simp)]; exact hN W _
 have hb2 : ((W.alloc (.cells (rwC r.k r.c r.neg p.A p.n p.cp r.t p.B p.m p.cap) 27)).alloc (.cells (rwC r'.k r'.c r'.neg p'.A p'.n p'.cp r'.t p'.B p'.m p'.cap) 27)).heap[W.heap.size + 1]? = some (.cells (rwC r'.k r'.c r'.neg p'.A p'.n p'.cp r'.t p'.B p'.m p'.cap) 27 (0, 0)) := by
  have := hN (W.alloc (.cells (rwC r.k r.c r.neg p.A p.n p.cp r.t p.B p.m p.cap) 27)) (.cells (rwC r'.k r'.c r'.neg p'.A p'.n p'.cp r'.t p'.B p'.m p'.cap) 27)
  rwa [World.size_alloc] at this
 have HB1 := hid hb1
 have HB2 := hid hb2
 have HK := hid (show K0 W ((W.alloc (.cells (rwC r.k r.c r.neg p.A p.n p.cp r.t p.B p.m p.cap) 27)).alloc (.cells (rwC r'.k r'.c r'.neg p'.A p'.n p'.cp r'.t p'.B p'.m p'.cap) 27)) from (kR.alloc _).alloc _)
 obtain ⟨a0, a1, a2, a3, a4, a5⟩ := aU hb1
 obtain ⟨b0, b1, b2, b3, b4, b5⟩ := aU hb2
 clear hb1 hb2
 go_enter Tryz.func20, Tryz.ntmps20
 go_wp2_with fail
 go_ret
 exact ⟨rfl, HK.out⟩
theorem qz (r r' : Raw) (p p' : PV) (W : World) (q0 : (r.k != r'.k) = false) (q1 : (r.c != r'.c) = false) (HS : Hid (∀ (w1 : World), K0 W w1 -> Calls Tryz.prog 45 #[aw r.neg p.A p.n p.cp, aw r'.neg p'.A p'.n p'.cp] w1 (BoolPost (eb r.neg r.mag r'.neg r'.mag) w1))) (HSB : Hid (eb r.neg r.mag r'.neg r'.mag = false)) : Calls Tryz.prog 20 #[bT r p, bT r' p'] W (BoolPost false W) := by
 have hb1 : ((W.alloc (.cells (rwC r.k r.c r.neg p.A p.n p.cp r.t p.B p.m p.cap) 27)).alloc (.cells (rwC r'.k r'.c r'.neg p'.A p'.n p'.cp r'.t p'.B p'.m p'.cap) 27)).heap[W.heap.size]? = some (.cells (rwC r.k r.c r.neg p.A p.n p.cp r.t p.B p.m p.cap) 27 (0, 0)) := by
  rw [Below.heap_alloc _ _ _ (by simp)]; exact hN W _
 have hb2 : ((W.alloc (.cells (rwC r.k r.c r.neg p.A p.n p.cp r.t p.B p.m p.cap) 27)).alloc (.cells (rwC r'.k r'.c r'.neg p'.A p'.n p'.cp r'.t p'.B p'.m p'.cap) 27)).heap[W.heap.size + 1]? = some (.cells (rwC r'.k r'.c r'.neg p'.A p'.n p'.cp r'.t p'.B p'.m p'.cap) 27 (0, 0)) := by
  have := hN (W.alloc (.cells (rwC r.k r.c r.neg p.A p.n p.cp r.t p.B p.m p.cap) 27)) (.cells (rwC r'.k r'.c r'.neg p'.A p'.n p'.cp r'.t p'.B p'.m p'.cap) 27)
  rwa [World.size_alloc] at this
 have HB1 := hid hb1
 have HB2 := hid hb2
 have HK := hid (show K0 W ((W.alloc (.cells (rwC r.k r.c r.neg p.A p.n p.cp r.t p.B p.m p.cap) 27)).alloc (.cells (rwC r'.k r'.c r'.neg p'.A p'.n p'.cp r'.t p'.B p'.m p'.cap) 27)) from (kR.alloc _).alloc _)
 obtain ⟨a0, a1, a2, a3, a4, a5⟩ := aU hb1
 obtain ⟨b0, b1, b2, b3, b4, b5⟩ := aU hb2
 clear hb1 hb2
 go_enter Tryz.func20, Tryz.ntmps20
 go_wp2_with fail
 generalize ((W.alloc (.cells (rwC r.k r.c r.neg p.A p.n p.cp r.t p.B p.m p.cap) 27)).alloc (.cells (rwC r'.k r'.c r'.neg p'.A p'.n p'.cp r'.t p'.B p'.m p'.cap) 27)) = w1 at *
 refine (HS.out _ HK.out).mono ?_
 rintro e w2 ⟨rfl, k2⟩
 rw [HSB.out]
 have hb1 := k2.heap HB1.out (by simp)
 have hb2 := k2.heap HB2.out (by simp)
 have HK2 := hid (HK.out.trans k2)
 clear a0 a1 a2 a3 a4 a5 b0 b1 b2 b3 b4 b5 k2
 obtain ⟨a0, a1, a2, a3, a4, a5⟩ := aU hb1
 obtain ⟨b0, b1, b2, b3, b4, b5⟩ := aU hb2
 go_wp2_with fail
 go_ret
 exact ⟨rfl, HK2.out⟩
theorem qy (r r' : Raw) (p p' : PV) (W : World) (q0 : (r.k != r'.k) = false) (q1 : (r.c != r'.c) = false) (HS : Hid (∀ (w1 : World), K0 W w1 -> Calls Tryz.prog 45 #[aw r.neg p.A p.n p.cp, aw r'.neg p'.A p'.n p'.cp] w1 (BoolPost (eb r.neg r.mag r'.neg r'.mag) w1))) (HSB : Hid (eb r.neg r.mag r'.neg r'.mag = true)) (q3 : ¬ r.t.toList = r'.t.toList) : Calls Tryz.prog 20 #[bT r p, bT r' p'] W (BoolPost false W) := by
 have hb1 : ((W.alloc (.cells (rwC r.k r.c r.neg p.A p.n p.cp r.t p.B p.m p.cap) 27)).alloc (.cells (rwC r'.k r'.c r'.neg p'.A p'.n p'.cp r'.t p'.B p'.m p'.cap) 27)).heap[W.heap.size]? = some (.cells (rwC r.k r.c r.neg p.A p.n p.cp r.t p.B p.m p.cap) 27 (0, 0)) := by
  rw [Below.heap_alloc _ _ _ (by simp)]; exact hN W _
 have hb2 : ((W.alloc (.cells (rwC r.k r.c r.neg p.A p.n p.cp r.t p.B p.m p.cap) 27)).alloc (.cells (rwC r'.k r'.c r'.neg p'.A p'.n p'.cp r'.t p'.B p'.m p'.cap) 27)).heap[W.heap.size + 1]? = some (.cells (rwC r'.k r'.c r'.neg p'.A p'.n p'.cp r'.t p'.B p'.m p'.cap) 27 (0, 0)) := by
  have := hN (W.alloc (.cells (rwC r.k r.c r.neg p.A p.n p.cp r.t p.B p.m p.cap) 27)) (.cells (rwC r'.k r'.c r'.neg p'.A p'.n p'.cp r'.t p'.B p'.m p'.cap) 27)
  rwa [World.size_alloc] at this
 have HB1 := hid hb1
 have HB2 := hid hb2
 have HK := hid (show K0 W ((W.alloc (.cells (rwC r.k r.c r.neg p.A p.n p.cp r.t p.B p.m p.cap) 27)).alloc (.cells (rwC r'.k r'.c r'.neg p'.A p'.n p'.cp r'.t p'.B p'.m p'.cap) 27)) from (kR.alloc _).alloc _)
 obtain ⟨a0, a1, a2, a3, a4, a5⟩ := aU hb1
 obtain ⟨b0, b1, b2, b3, b4, b5⟩ := aU hb2
 clear hb1 hb2
 go_enter Tryz.func20, Tryz.ntmps20
 go_wp2_with fail
 generalize ((W.alloc (.cells (rwC r.k r.c r.neg p.A p.n p.cp r.t p.B p.m p.cap) 27)).alloc (.cells (rwC r'.k r'.c r'.neg p'.A p'.n p'.cp r'.t p'.B p'.m p'.cap) 27)) = w1 at *
 refine (HS.out _ HK.out).mono ?_
 rintro e w2 ⟨rfl, k2⟩
 rw [HSB.out]
 have hb1 := k2.heap HB1.out (by simp)
 have hb2 := k2.heap HB2.out (by simp)
 have HK2 := hid (HK.out.trans k2)
 clear a0 a1 a2 a3 a4 a5 b0 b1 b2 b3 b4 b5 k2
 obtain ⟨a0, a1, a2, a3, a4, a5⟩ := aU hb1
 obtain ⟨b0, b1, b2, b3, b4, b5⟩ := aU hb2
 go_wp2_with fail
 go_ret
 exact ⟨rfl, HK2.out⟩
theorem qA (r r' : Raw) (p p' : PV) (W : World) (q0 : (r.k != r'.k) = false) (q1 : (r.c != r'.c) = false) (HS : Hid (∀ (w1 : World), K0 W w1 -> Calls Tryz.prog 45 #[aw r.neg p.A p.n p.cp, aw r'.neg p'.A p'.n p'.cp] w1 (BoolPost (eb r.neg r.mag r'.neg r'.mag) w1))) (HSB : Hid (eb r.neg r.mag r'.neg r'.mag = true)) (q3 : r.t.toList = r'.t.toList) (q4 : ((p.m : Int) != (p'.m : Int)) = true) : Calls Tryz.prog 20 #[bT r p, bT r' p'] W (BoolPost false W) := by
 have hb1 : ((W.alloc (.cells (rwC r.k r.c r.neg p.A p.n p.cp r.t p.B p.m p.cap) 27)).alloc (.cells (rwC r'.k r'.c r'.neg p'.A p'.n p'.cp r'.t p'.B p'.m p'.cap) 27)).heap[W.heap.size]? = some (.cells (rwC r.k r.c r.neg p.A p.n p.cp r.t p.B p.m p.cap) 27 (0, 0)) := by
  rw [Below.heap_alloc _ _ _ (by simp)]; exact hN W _
 have hb2 : ((W.alloc (.cells (rwC r.k r.c r.neg p.A p.n p.cp r.t p.B p.m p.cap) 27)).alloc (.cells (rwC r'.k r'.c r'.neg p'.A p'.n p'.cp r'.t p'.B p'.m p'.cap) 27)).heap[W.heap.size + 1]? = some (.cells (rwC r'.k r'.c r'.neg p'.A p'.n p'.cp r'.t p'.B p'.m p'.cap) 27 (0, 0)) := by
  have := hN (W.alloc (.cells (rwC r.k r.c r.neg p.A p.n p.cp r.t p.B p.m p.cap) 27)) (.cells (rwC r'.k r'.c r'.neg p'.A p'.n p'.cp r'.t p'.B p'.m p'.cap) 27)
  rwa [World.size_alloc] at this
 have HB1 := hid hb1
 have HB2 := hid hb2
 have HK := hid (show K0 W ((W.alloc (.cells (rwC r.k r.c r.neg p.A p.n p.cp r.t p.B p.m p.cap) 27)).alloc (.cells (rwC r'.k r'.c r'.neg p'.A p'.n p'.cp r'.t p'.B p'.m p'.cap) 27)) from (kR.alloc _).alloc _)
 obtain ⟨a0, a1, a2, a3, a4, a5⟩ := aU hb1
 obtain ⟨b0, b1, b2, b3, b4, b5⟩ := aU hb2
 clear hb1 hb2
 go_enter Tryz.func20, Tryz.ntmps20
 go_wp2_with fail
 generalize ((W.alloc (.cells (rwC r.k r.c r.neg p.A p.n p.cp r.t p.B p.m p.cap) 27)).alloc (.cells (rwC r'.k r'.c r'.neg p'.A p'.n p'.cp r'.t p'.B p'.m p'.cap) 27)) = w1 at *
 refine (HS.out _ HK.out).mono ?_
 rintro e w2 ⟨rfl, k2⟩
 rw [HSB.out]
 have hb1 := k2.heap HB1.out (by simp)
 have hb2 := k2.heap HB2.out (by simp)
 have HK2 := hid (HK.out.trans k2)
 clear a0 a1 a2 a3 a4 a5 b0 b1 b2 b3 b4 b5 k2
 obtain ⟨a0, a1, a2, a3, a4, a5⟩ := aU hb1
 obtain ⟨b0, b1, b2, b3, b4, b5⟩ := aU hb2
 go_wp2_with fail
 go_ret
 exact ⟨rfl, HK2.out⟩
theorem pQ {x y : ByteArray} (h : x.toList = y.toList) : x = y := by
 rw [Lib.toList_data, Lib.toList_data] at h
 exact ByteArray.ext (Array.toList_inj.mp h)
def ri (r r' : Raw) (i : Nat) : Prop := ∀ j (h : j < r.l.length) (h' : j < r'.l.length), j < i -> r.l[j] = r'.l[j]
theorem ri.all {r r' : Raw} (hl : r.l.length = r'.l.length) (h : ri r r' r.l.length) : r.l = r'.l := List.ext_getElem hl (fun j h1 h2 => h j h1 h2 h1)
structure sa (W : World) (r r' : Raw) (p p' : PV) (i B1 : Nat) (wr : World) : Prop where
 K : K0 W wr
 h1 : wr.heap[B1]? = some (.cells (rwC r.k r.c r.neg p.A p.n p.cp r.t p.B p.m p.cap) 27 (0, 0))
 h2 : wr.heap[B1 + 1]? = some (.cells (rwC r'.k r'.c r'.neg p'.A p'.n p'.cp r'.t p'.B p'.m p'.cap) 27 (0, 0))
 le : i <= r.l.length
 upto : ri r r' i
theorem qB {P N' P' : Nat -> Prop} (r r' : Raw) (p p' : PV) (W : World) (w : World) (hW : K0 w W) (q0 : (r.k != r'.k) = false) (q1 : (r.c != r'.c) = false) (HS : Hid (∀ (w1 : World), K0 W w1 -> Calls Tryz.prog 45 #[aw r.neg p.A p.n p.cp, aw r'.neg p'.A p'.n p'.cp] w1 (BoolPost (eb r.neg r.mag r'.neg r'.mag) w1))) (HSB : Hid (eb r.neg r.mag r'.neg r'.mag = true)) (q3 : r.t.toList = r'.t.toList) (q4 : ((p.m : Int) != (p'.m : Int)) = false)
 (hm : p.m <= 9223372036854775807) (vs : Nat -> PV) (HROW : Hid (0 < p.m -> ∃ b off, p.B = some ⟨b, off, .none⟩ /\ P b /\ ∀ i (h : i < r.l.length), dL w b off i r.l[i] (vs i))) (HH' : Hid (bo N' P' W r' p')) (HL : Hid (r.l.length = p.m)) (HL' : Hid (r'.l.length = p'.m)) (HX : Hid (r.l = r'.l -> r = r'))
 (IH : Hid (∀ i (h : i < r.l.length) (x' : Raw) (v' : PV) (w' : World), K0 w w' -> bo N' P' w' x' v' -> Calls Tryz.prog 20 #[bT r.l[i] (vs i), bT x' v'] w' (BoolPost (eqR r.l[i] x') w'))) : Calls Tryz.prog 20 #[bT r p, bT r' p'] W (BoolPost (eqR r r') W) := by
 have hb1 : ((W.alloc (.cells (rwC r.k r.c r.neg p.A p.n p.cp r.t p.B p.m p.cap) 27)).alloc (.cells (rwC r'.k r'.c r'.neg p'.A p'.n p'.cp r'.t p'.B p'.m p'.cap) 27)).heap[W.heap.size]? = some (.cells (rwC r.k r.c r.neg p.A p.n p.cp r.t p.B p.m p.cap) 27 (0, 0)) := by
  rw [Below.heap_alloc _ _ _ (by simp)]; exact hN W _
 have hb2 : ((W.alloc (.cells (rwC r.k r.c r.neg p.A p.n p.cp r.t p.B p.m p.cap) 27)).alloc (.cells (rwC r'.k r'.c r'.neg p'.A p'.n p'.cp r'.t p'.B p'.m p'.cap) 27)).heap[W.heap.size + 1]? = some (.cells (rwC r'.k r'.c r'.neg p'.A p'.n p'.cp r'.t p'.B p'.m p'.cap) 27 (0, 0)) := by
  have := hN (W.alloc (.cells (rwC r.k r.c r.neg p.A p.n p.cp r.t p.B p.m p.cap) 27)) (.cells (rwC r'.k r'.c r'.neg p'.A p'.n p'.cp r'.t p'.B p'.m p'.cap) 27)
  rwa [World.size_alloc] at this
 have HB1 := hid hb1
 have HB2 := hid hb2
 have HK := hid (show K0 W ((W.alloc (.cells (rwC r.k r.c r.neg p.A p.n p.cp r.t p.B p.m p.cap) 27)).alloc (.cells (rwC r'.k r'.c r'.neg p'.A p'.n p'.cp r'.t p'.B p'.m p'.cap) 27)) from (kR.alloc _).alloc _)
 obtain ⟨a0, a1, a2, a3, a4, a5⟩ := aU hb1
 obtain ⟨b0, b1, b2, b3, b4, b5⟩ := aU hb2
 clear hb1 hb2
 have HW := hid hW
 clear hW
 go_enter Tryz.func20, Tryz.ntmps20
 go_wp2_with fail
 generalize ((W.alloc (.cells (rwC r.k r.c r.neg p.A p.n p.cp r.t p.B p.m p.cap) 27)).alloc (.cells (rwC r'.k r'.c r'.neg p'.A p'.n p'.cp r'.t p'.B p'.m p'.cap) 27)) = w1 at *
 refine (HS.out _ HK.out).mono ?_
 rintro e w2 ⟨rfl, k2⟩
 rw [HSB.out]
 have hb1 := k2.heap HB1.out (by simp)
 have hb2 := k2.heap HB2.out (by simp)
 have HK2 := hid (HK.out.trans k2)
 clear a0 a1 a2 a3 a4 a5 b0 b1 b2 b3 b4 b5 k2
 obtain ⟨a0, a1, a2, a3, a4, a5⟩ := aU hb1
 obtain ⟨b0, b1, b2, b3, b4, b5⟩ := aU hb2
 have HST := hid (show sa W r r' p p' 0 W.heap.size w2 from ⟨HK2.out, hb1, hb2, Nat.zero_le _, fun j _ _ h => absurd h (Nat.not_lt_zero _)⟩)
 clear hb1 hb2
 go_wp2_with fail
 generalize hB1 : W.heap.size = B1 at *
 clear a0 a1 a2 a3 a4 a5 b0 b1 b2 b3 b4 b5
 go_loopw [5] (fun iv wr => ∃ i : Nat, iv = .int .i64 (i : Int) /\ sa W r r' p p' i B1 wr) (fun iv _ => p.m - (intOf iv).toNat)
 case atStart => exact ⟨0, rfl, HST.out⟩
 case round =>
  obtain ⟨i, rfl, hst⟩ := hrel
  have hx1 := hst.h1
  have hx2 := hst.h2
  have HS2 := hid hst
  have HMM := hid (show p.m = p'.m by have h := q4; simp at h; omega)
  have hbig := hm
  clear hst
  obtain ⟨a0, a1, a2, a3, a4, a5⟩ := aU hx1
  obtain ⟨b0, b1, b2, b3, b4, b5⟩ := aU hx2
  clear hx1 hx2 a0 a1 a2 a3 a4 b0 b1 b2 b3 b4
  by_cases hlt : i < p.m
  · have hi1 : i < r.l.length := by rw [HL.out]; exact hlt
    have hi2 : i < r'.l.length := by rw [HL'.out, <- HMM.out]; exact hlt
    obtain ⟨g, o, eB, _, hrw⟩ := HROW.out (by omega)
    have hic := hrw i hi1
    obtain ⟨g', o', v', eB', _, hic', hv'⟩ := HH'.out.items i hi2
    have hic := hic.keep (HW.out.trans HS2.out.K) id
    have hic' := hic'.keep HS2.out.K id
    have HC1 := hid (fun (w' : World) (K : K0 wr w') => IH.out i hi1 r'.l[i] v' w' ((HW.out.trans HS2.out.K).trans K) (bo.keep0 hv' (HS2.out.K.trans K)))
    have HNE := hid (fun (h : r.l[i] ≠ r'.l[i]) => (show eqR r r' = false from dt.2 (fun e => h (by subst e; rfl))))
    have HNX := hid (fun (h : r.l[i] = r'.l[i]) (w' : World) (K : K0 wr w') => (show sa W r r' p p' (i + 1) B1 w' from ⟨HS2.out.K.trans K, K.heap HS2.out.h1 id, K.heap HS2.out.h2 id, hi1, fun j h1 h2 h3 => by
     by_cases e : j = i
     · subst e; exact h
     · exact HS2.out.upto j h1 h2 (by omega)⟩))
    obtain ⟨r0, r1, r2, r3, r4, r5⟩ := hic.cells
    obtain ⟨s0, s1, s2, s3, s4, s5⟩ := hic'.cells
    rw [eB] at a5
    rw [eB'] at b5
    clear eB eB'
    obtain ⟨x, hx⟩ : ∃ x, x = r.l[i] := ⟨_, rfl⟩
    obtain ⟨x', hx'⟩ : ∃ x', x' = r'.l[i] := ⟨_, rfl⟩
    rw [<- hx] at HC1 HNE HNX r0 r1 r2 r4
    rw [<- hx'] at HC1 HNE HNX s0 s1 s2 s4
    obtain ⟨v, hv⟩ : ∃ v, v = vs i := ⟨_, rfl⟩
    rw [<- hv] at HC1 r3 r5
    clear hv hv' hic hic' hx hx' hrw
    have HCL := hid (fun (w' : World) (K : K0 wr w') => (show w'.cell? ⟨B1, 5, none⟩ = some (.slice (some ⟨g, o, none⟩) p.m p.cap) /\ w'.cell? ⟨B1 + 1, 5, none⟩ = some (.slice (some ⟨g', o', none⟩) p'.m p'.cap) /\ w'.cell? ⟨g, o + i * 6, none⟩ = some (.int .i64 x.k) /\ w'.cell? ⟨g, o + i * 6 + 1, none⟩ = some (.int .i32 x.c) /\ w'.cell? ⟨g, o + i * 6 + 2, none⟩ = some (.bool x.neg) /\ w'.cell? ⟨g, o + i * 6 + 3, none⟩ = some (.slice v.A v.n v.cp) /\ w'.cell? ⟨g, o + i * 6 + 4, none⟩ = some (.string x.t) /\ w'.cell? ⟨g, o + i * 6 + 5, none⟩ = some (.slice v.B v.m v.cap) /\ w'.cell? ⟨g', o' + i * 6, none⟩ = some (.int .i64 x'.k) /\ w'.cell? ⟨g', o' + i * 6 + 1, none⟩ = some (.int .i32 x'.c) /\ w'.cell? ⟨g', o' + i * 6 + 2, none⟩ = some (.bool x'.neg) /\ w'.cell? ⟨g', o' + i * 6 + 3, none⟩ = some (.slice v'.A v'.n v'.cp) /\ w'.cell? ⟨g', o' + i * 6 + 4, none⟩ = some (.string x'.t) /\ w'.cell? ⟨g', o' + i * 6 + 5, none⟩ = some (.slice v'.B v'.m v'.cap) /\ K0 wr w' from ⟨(K.cell (bL wr _ a5) id).trans a5, (K.cell (bL wr _ b5) id).trans b5, (K.cell (bL wr _ r0) id).trans r0, (K.cell (bL wr _ r1) id).trans r1, (K.cell (bL wr _ r2) id).trans r2, (K.cell (bL wr _ r3) id).trans r3, (K.cell (bL wr _ r4) id).trans r4, (K.cell (bL wr _ r5) id).trans r5, (K.cell (bL wr _ s0) id).trans s0, (K.cell (bL wr _ s1) id).trans s1, (K.cell (bL wr _ s2) id).trans s2, (K.cell (bL wr _ s3) id).trans s3, (K.cell (bL wr _ s4) id).trans s4, (K.cell (bL wr _ s5) id).trans s5, K⟩))
    have Kd : K0 wr wr.drew := kR.drew
    have l1 : decide ((i : Int) < (p.m : Int)) = true := dT (by omega)
    have l2 : decide (i < p.m) = true := dT hlt
    have hi0 : (0 : Int) <= (i : Int) := Int.natCast_nonneg _
    have j1 : (i : Int) < (p.m : Int) := by omega
    have j2 : (i : Int) < (p'.m : Int) := by have := HMM.out; omega
    go_wp2_with fail
    clear r0 r1 r2 r3 r4 r5 s0 s1 s2 s3 s4 s5 a5 b5
    by_cases hq : x = x'
    · have HC2 := hid (fun (w' : World) (K : K0 wr w') => (show Calls Tryz.prog 20 #[bT x v, bT x' v'] w' (BoolPost true w') from by have := HC1.out w' K; rwa [i2.2 hq] at this))
      have HQ := hid hq
      clear hq
      go_region_held3 (fun w' => w'.cell? ⟨B1, 5, none⟩ = some (.slice (some ⟨g, o, none⟩) p.m p.cap) /\ w'.cell? ⟨B1 + 1, 5, none⟩ = some (.slice (some ⟨g', o', none⟩) p'.m p'.cap) /\ w'.cell? ⟨g, o + i * 6, none⟩ = some (.int .i64 x.k) /\ w'.cell? ⟨g, o + i * 6 + 1, none⟩ = some (.int .i32 x.c) /\ w'.cell? ⟨g, o + i * 6 + 2, none⟩ = some (.bool x.neg) /\ w'.cell? ⟨g, o + i * 6 + 3, none⟩ = some (.slice v.A v.n v.cp) /\ w'.cell? ⟨g, o + i * 6 + 4, none⟩ = some (.string x.t) /\ w'.cell? ⟨g, o + i * 6 + 5, none⟩ = some (.slice v.B v.m v.cap) /\ w'.cell? ⟨g', o' + i * 6, none⟩ = some (.int .i64 x'.k) /\ w'.cell? ⟨g', o' + i * 6 + 1, none⟩ = some (.int .i32 x'.c) /\ w'.cell? ⟨g', o' + i * 6 + 2, none⟩ = some (.bool x'.neg) /\ w'.cell? ⟨g', o' + i * 6 + 3, none⟩ = some (.slice v'.A v'.n v'.cp) /\ w'.cell? ⟨g', o' + i * 6 + 4, none⟩ = some (.string x'.t) /\ w'.cell? ⟨g', o' + i * 6 + 5, none⟩ = some (.slice v'.B v'.m v'.cap) /\ K0 wr w')
       (first | exact HCL.out _ Kd | exact HCL.out _ (by assumption))
       ((go_at_call 20; go_split_ands; (with_reducible refine (HC2.out _ (by assumption)).mono ?_); rintro e w5 ⟨rfl, k5⟩; have K5 := ah.trans (by assumption) k5))
      have HN3 := hid (HNX.out HQ.out _ K5)
      clear k5 K5 Kd
      try dsimp only
      go_wp2_with fail
      go_roundw
      case rel => exact ⟨i + 1, by go_num, HN3.out⟩
      case measure => simp only [intOf]; omega
    · have HC2 := hid (fun (w' : World) (K : K0 wr w') => (show Calls Tryz.prog 20 #[bT x v, bT x' v'] w' (BoolPost false w') from by have := HC1.out w' K; rwa [dt.2 hq] at this))
      have HF := hid (HNE.out hq)
      clear hq
      go_region_held3 (fun w' => w'.cell? ⟨B1, 5, none⟩ = some (.slice (some ⟨g, o, none⟩) p.m p.cap) /\ w'.cell? ⟨B1 + 1, 5, none⟩ = some (.slice (some ⟨g', o', none⟩) p'.m p'.cap) /\ w'.cell? ⟨g, o + i * 6, none⟩ = some (.int .i64 x.k) /\ w'.cell? ⟨g, o + i * 6 + 1, none⟩ = some (.int .i32 x.c) /\ w'.cell? ⟨g, o + i * 6 + 2, none⟩ = some (.bool x.neg) /\ w'.cell? ⟨g, o + i * 6 + 3, none⟩ = some (.slice v.A v.n v.cp) /\ w'.cell? ⟨g, o + i * 6 + 4, none⟩ = some (.string x.t) /\ w'.cell? ⟨g, o + i * 6 + 5, none⟩ = some (.slice v.B v.m v.cap) /\ w'.cell? ⟨g', o' + i * 6, none⟩ = some (.int .i64 x'.k) /\ w'.cell? ⟨g', o' + i * 6 + 1, none⟩ = some (.int .i32 x'.c) /\ w'.cell? ⟨g', o' + i * 6 + 2, none⟩ = some (.bool x'.neg) /\ w'.cell? ⟨g', o' + i * 6 + 3, none⟩ = some (.slice v'.A v'.n v'.cp) /\ w'.cell? ⟨g', o' + i * 6 + 4, none⟩ = some (.string x'.t) /\ w'.cell? ⟨g', o' + i * 6 + 5, none⟩ = some (.slice v'.B v'.m v'.cap) /\ K0 wr w')
       (first | exact HCL.out _ Kd | exact HCL.out _ (by assumption))
       ((go_at_call 20; go_split_ands; (with_reducible refine (HC2.out _ (by assumption)).mono ?_); rintro e w5 ⟨rfl, k5⟩; have K5 := ah.trans (by assumption) k5))
      have HK5 := hid (HS2.out.K.trans K5)
      clear k5 K5 Kd
      try dsimp only
      go_wp2_with fail
      go_ret
      exact ⟨(show Ending.returned (.bool false) = Ending.returned (.bool (eqR r r')) by rw [HF.out]), HK5.out⟩
  · have l1 : decide ((i : Int) < (p.m : Int)) = false := dF (by omega)
    have l2 : decide (i < p.m) = false := dF hlt
    have HT := hid (show eqR r r' = true from i2.2 (HX.out (ri.all (by rw [HL.out, HL'.out, HMM.out]) (by have := HS2.out.upto; have h2 := HS2.out.le; rw [HL.out] at h2; rw [HL.out, show p.m = i by omega]; exact this))))
    go_wp2_with fail
    go_ret
    exact ⟨(show Ending.returned (.bool true) = Ending.returned (.bool (eqR r r')) by rw [HT.out]), HS2.out.K⟩
theorem nr {N P N' P' : Nat -> Prop} {w : World} {r : Raw} {p : PV} (h : bo N P w r p) : ∀ (r' : Raw) (p' : PV) (W : World), K0 w W -> bo N' P' W r' p' -> Calls Tryz.prog 20 #[bT r p, bT r' p'] W (BoolPost (eqR r r') W) := by
 induction h with
 | @mk r p num nP len mcap big vs row ch ih =>
  intro r' p' W hW hr'
  have HS : Hid (∀ (w1 : World), K0 W w1 -> Calls Tryz.prog 45 #[aw r.neg p.A p.n p.cp, aw r'.neg p'.A p'.n p'.cp] w1 (BoolPost (eb r.neg r.mag r'.neg r'.mag) w1)) := hid (fun w1 K => oE r.neg p.A p.n p.cp r.mag r'.neg p'.A p'.n p'.cp r'.mag w1 ((num.keep0 hW).keep0 K) (hr'.num.keep0 K))
  by_cases q0 : r.k = r'.k
  case neg => rw [dt.2 (fun e => q0 (by rw [e]))]; exact qC r r' p p' W (by simpa using q0)
  have q0' : (r.k != r'.k) = false := by simpa using q0
  by_cases q1 : r.c = r'.c
  case neg => rw [dt.2 (fun e => q1 (by rw [e]))]; exact qD r r' p p' W q0' (by simpa using q1)
  have q1' : (r.c != r'.c) = false := by simpa using q1
  by_cases q2 : r.neg = r'.neg /\ r.mag = r'.mag
  case neg => rw [dt.2 (fun e => q2 (by rw [e]; exact ⟨rfl, rfl⟩))]; exact qz r r' p p' W q0' q1' HS (hid (dF q2))
  have q2' := hid (show eb r.neg r.mag r'.neg r'.mag = true from dT q2)
  by_cases q3 : r.t.toList = r'.t.toList
  case neg => rw [dt.2 (fun e => q3 (by rw [e]))]; exact qy r r' p p' W q0' q1' HS q2' q3
  by_cases q4 : p.m = p'.m
  case neg => rw [dt.2 (fun e => q4 (by rw [<- len, <- hr'.len, e]))]; exact qA r r' p p' W q0' q1' HS q2' q3 (by simp; omega)
  have hx : r.l = r'.l -> r = r' := fun e => Raw.ext q0 q1 q2.1 q2.2 (pQ q3) e
  exact qB (P := P) (N' := N') (P' := P') r r' p p' W _ hW q0' q1' HS q2' q3 (by simp; omega) (by omega) vs (hid row) (hid hr') (hid len) (hid hr'.len) (hid hx)
   (hid (fun i hi x' v' w' K hx' => ih i hi x' v' w' K hx'))
theorem ac {w : World} {b : Nat} {o : Obj} (h : w.heap[b]? = some o) (x : Obj) : (w.alloc x).heap[b]? = some o := by
 rw [Below.heap_alloc _ _ _ (ao h)]; exact h
theorem ab {w : World} {B : Nat} {x0 x1 x2 x3 x4 x5 : Value} (h : w.heap[B]? = some (.cells #[x0, x1, x2, x3, x4, x5] 27 (0, 0))) : (w.cell? ⟨B, 0, none⟩ = some x0 /\ w.cell? ⟨B, 1, none⟩ = some x1 /\ w.cell? ⟨B, 2, none⟩ = some x2 /\ w.cell? ⟨B, 3, none⟩ = some x3 /\ w.cell? ⟨B, 4, none⟩ = some x4 /\ w.cell? ⟨B, 5, none⟩ = some x5) /\ (w.frozen? ⟨B, 0, none⟩ = false /\ w.frozen? ⟨B, 1, none⟩ = false /\ w.frozen? ⟨B, 2, none⟩ = false /\ w.frozen? ⟨B, 3, none⟩ = false /\ w.frozen? ⟨B, 4, none⟩ = false /\ w.frozen? ⟨B, 5, none⟩ = false) := by
 refine ⟨⟨?_, ?_, ?_, ?_, ?_, ?_⟩, ?_, ?_, ?_, ?_, ?_, ?_⟩
 all_goals first
  | (rw [cell_of_row w _ _ _ _ _ h]; rfl)
  | simp [World.frozen?, h]
abbrev aE (w : World) (B : Nat) (y0 y1 y2 y3 y4 y5 : Value) : World := (((((((((((w.setCell ⟨B, 0, none⟩ y0)).setCell ⟨B, 1, none⟩ y1)).setCell ⟨B, 2, none⟩ y2)).setCell ⟨B, 3, none⟩ y3)).setCell ⟨B, 4, none⟩ y4)).setCell ⟨B, 5, none⟩ y5)
theorem aQ {w : World} {B : Nat} {x0 x1 x2 x3 x4 x5 : Value} (h : w.heap[B]? = some (.cells #[x0, x1, x2, x3, x4, x5] 27 (0, 0))) (y0 y1 y2 y3 y4 y5 : Value) : (aE w B y0 y1 y2 y3 y4 y5).heap[B]? = some (.cells #[y0, y1, y2, y3, y4, y5] 27 (0, 0)) := by
 simp [aE, World.setCell, Array.getElem?_modify, h]
theorem dQ {w : World} {B C : Nat} {o : Obj} (h : w.heap[C]? = some o) (hne : C ≠ B) (y0 y1 y2 y3 y4 y5 : Value) : (aE w B y0 y1 y2 y3 y4 y5).heap[C]? = some o := by
 have : ¬ B = C := fun e => hne e.symm
 simp [aE, World.setCell, Array.getElem?_modify, h, this]
theorem aq (w : World) (B : Nat) (y0 y1 y2 y3 y4 y5 : Value) : ah (fun b => b = B) w (aE w B y0 y1 y2 y3 y4 y5) := by
 refine ah.setCell (S := fun b => b = B) (p := ⟨B, 5, none⟩) ?_ (.inl rfl) _
 refine ah.setCell (S := fun b => b = B) (p := ⟨B, 4, none⟩) ?_ (.inl rfl) _
 refine ah.setCell (S := fun b => b = B) (p := ⟨B, 3, none⟩) ?_ (.inl rfl) _
 refine ah.setCell (S := fun b => b = B) (p := ⟨B, 2, none⟩) ?_ (.inl rfl) _
 refine ah.setCell (S := fun b => b = B) (p := ⟨B, 1, none⟩) ?_ (.inl rfl) _
 refine ah.setCell (S := fun b => b = B) (p := ⟨B, 0, none⟩) ?_ (.inl rfl) _
 exact kR
theorem bN {w w1 : World} {B : Nat} (k : K0 w w1) (hB : w.heap.size <= B) (y0 y1 y2 y3 y4 y5 : Value) : K0 w (aE w1 B y0 y1 y2 y3 y4 y5) :=
 k.into (aq w1 B y0 y1 y2 y3 y4 y5) (by rintro i rfl; exact hB)
theorem fw (w : World) (B : Nat) (y0 y1 y2 y3 y4 y5 : Value) : (aE w B y0 y1 y2 y3 y4 y5).heap.size = w.heap.size := by simp [aE, World.setCell]
theorem aj {w : World} {B : Nat} {x0 x1 x2 x3 x4 x5 x6 x7 x8 : Value} (h : w.heap[B]? = some (.cells #[x0, x1, x2, x3, x4, x5, x6, x7, x8] 43 (0, 0))) : (w.cell? ⟨B, 0, none⟩ = some x0 /\ w.cell? ⟨B, 1, none⟩ = some x1 /\ w.cell? ⟨B, 2, none⟩ = some x2 /\ w.cell? ⟨B, 3, none⟩ = some x3 /\ w.cell? ⟨B, 4, none⟩ = some x4 /\ w.cell? ⟨B, 5, none⟩ = some x5 /\ w.cell? ⟨B, 6, none⟩ = some x6 /\ w.cell? ⟨B, 7, none⟩ = some x7 /\ w.cell? ⟨B, 8, none⟩ = some x8) /\ (w.frozen? ⟨B, 0, none⟩ = false /\ w.frozen? ⟨B, 1, none⟩ = false /\ w.frozen? ⟨B, 2, none⟩ = false /\ w.frozen? ⟨B, 3, none⟩ = false /\ w.frozen? ⟨B, 4, none⟩ = false /\ w.frozen? ⟨B, 5, none⟩ = false /\ w.frozen? ⟨B, 6, none⟩ = false /\ w.frozen? ⟨B, 7, none⟩ = false /\ w.frozen? ⟨B, 8, none⟩ = false) := by
 refine ⟨⟨?_, ?_, ?_, ?_, ?_, ?_, ?_, ?_, ?_⟩, ?_, ?_, ?_, ?_, ?_, ?_, ?_, ?_, ?_⟩
 all_goals first
  | (rw [cell_of_row w _ _ _ _ _ h]; rfl)
  | simp [World.frozen?, h]
abbrev iw (w : World) (B : Nat) (y0 y1 y2 y3 y4 y5 y6 y7 y8 : Value) : World := (((((((((((((((((w.setCell ⟨B, 0, none⟩ y0)).setCell ⟨B, 1, none⟩ y1)).setCell ⟨B, 2, none⟩ y2)).setCell ⟨B, 3, none⟩ y3)).setCell ⟨B, 4, none⟩ y4)).setCell ⟨B, 5, none⟩ y5)).setCell ⟨B, 6, none⟩ y6)).setCell ⟨B, 7, none⟩ y7)).setCell ⟨B, 8, none⟩ y8)
theorem aM {w : World} {B : Nat} {x0 x1 x2 x3 x4 x5 x6 x7 x8 : Value} (h : w.heap[B]? = some (.cells #[x0, x1, x2, x3, x4, x5, x6, x7, x8] 43 (0, 0))) (y0 y1 y2 y3 y4 y5 y6 y7 y8 : Value) : (iw w B y0 y1 y2 y3 y4 y5 y6 y7 y8).heap[B]? = some (.cells #[y0, y1, y2, y3, y4, y5, y6, y7, y8] 43 (0, 0)) := by
 simp [iw, World.setCell, Array.getElem?_modify, h]
theorem ck (w : World) (B : Nat) (y0 y1 y2 y3 y4 y5 y6 y7 y8 : Value) : ah (fun b => b = B) w (iw w B y0 y1 y2 y3 y4 y5 y6 y7 y8) := by
 refine ah.setCell (S := fun b => b = B) (p := ⟨B, 8, none⟩) ?_ (.inl rfl) _
 refine ah.setCell (S := fun b => b = B) (p := ⟨B, 7, none⟩) ?_ (.inl rfl) _
 refine ah.setCell (S := fun b => b = B) (p := ⟨B, 6, none⟩) ?_ (.inl rfl) _
 refine ah.setCell (S := fun b => b = B) (p := ⟨B, 5, none⟩) ?_ (.inl rfl) _
 refine ah.setCell (S := fun b => b = B) (p := ⟨B, 4, none⟩) ?_ (.inl rfl) _
 refine ah.setCell (S := fun b => b = B) (p := ⟨B, 3, none⟩) ?_ (.inl rfl) _
 refine ah.setCell (S := fun b => b = B) (p := ⟨B, 2, none⟩) ?_ (.inl rfl) _
 refine ah.setCell (S := fun b => b = B) (p := ⟨B, 1, none⟩) ?_ (.inl rfl) _
 refine ah.setCell (S := fun b => b = B) (p := ⟨B, 0, none⟩) ?_ (.inl rfl) _
 exact kR
theorem aB {w w1 : World} {B : Nat} (k : K0 w w1) (hB : w.heap.size <= B) (y0 y1 y2 y3 y4 y5 y6 y7 y8 : Value) : K0 w (iw w1 B y0 y1 y2 y3 y4 y5 y6 y7 y8) :=
 k.into (ck w1 B y0 y1 y2 y3 y4 y5 y6 y7 y8) (by rintro i rfl; exact hB)
abbrev rX (r : Raw) (p : PV) (n q c : Int) : Value := .agg (gtC r.k r.c r.neg p.A p.n p.cp r.t p.B p.m p.cap n q c)
abbrev re (q c : Int) : Value := .agg (gtC 0 0 false none 0 0 ⟨#[]⟩ none 0 0 0 q c)
def bd (g : Got) (w : World) (e : Ending) (w' : World) : Prop :=
 match g with
 | .ok (d, n) => ∃ p : PV, e = .returned (rX d p (n : Int) 0 0) /\ au (fun b => w.heap.size <= b) w' d p /\ K0 w w'
 | .error (q, c) => e = .returned (re (q : Int) (c : Int)) /\ K0 w w'
theorem bD (q c : Int) (w : World) : Calls Tryz.prog 43 #[.int .i64 q, .int .i64 c] w fun e w' => e = .returned (re q c) /\ K0 w w' := by
 go_enter Tryz.func43, Tryz.ntmps43
 go_wp2_with fail
 exact bodyPost_ret (v := re q c) (by simp [results, Tryz.results43, go_sem]) rfl ⟨rfl, kR.alloc _⟩
theorem gv {w : World} {a d : Raw} {pa pd : PV} {b : Nat} (hb : w.heap[b]? = some (.cells #[.int .i64 a.k, .int .i32 a.c, .bool a.neg, .slice pa.A pa.n pa.cp, .string a.t, .slice pa.B pa.m pa.cap, .int .i64 d.k, .int .i32 d.c, .bool d.neg, .slice pd.A pd.n pd.cp, .string d.t, .slice pd.B pd.m pd.cap] 27 (0, 0))) :
 ∀ i (h : i < [a, d].length), dL w b 0 i [a, d][i] (if i = 0 then pa else pd) := by
 intro i hi f u hu
 rw [cell_of_row w _ _ _ _ _ hb]
 match i, hi with
 | 0, _ =>
  match f, hu with
  | 0, hu | 1, hu | 2, hu | 3, hu | 4, hu | 5, hu => rw [<- hu]; rfl
  | f + 6, hu => simp [il] at hu
 | 1, _ =>
  match f, hu with
  | 0, hu | 1, hu | 2, hu | 3, hu | 4, hu | 5, hu => rw [<- hu]; rfl
  | f + 6, hu => simp [il] at hu
theorem j5 {N P : Nat -> Prop} {w : World} {a d : Raw} {pa pd : PV} (ha : bo N P w a pa) (hd : bo N P w d pd) : ∀ i (h : i < [a, d].length), bo N P w [a, d][i] (if i = 0 then pa else pd) := by
 intro i hi
 match i, hi with
 | 0, _ => exact ha
 | 1, _ => exact hd
theorem au.pair {Q : Nat -> Prop} {w : World} {a d : Raw} {pa pd : PV} {b : Nat} (ha : au Q w a pa) (hd : au Q w d pd) (hb : w.heap[b]? = some (.cells #[.int .i64 a.k, .int .i32 a.c, .bool a.neg, .slice pa.A pa.n pa.cp, .string a.t, .slice pa.B pa.m pa.cap, .int .i64 d.k, .int .i32 d.c, .bool d.neg, .slice pd.A pd.n pd.cp, .string d.t, .slice pd.B pd.m pd.cap] 27 (0, 0))) (hQ : Q b) :
 au Q w (dr a d) ⟨none, 0, 0, some ⟨b, 0, none⟩, 2, 2⟩ := by
 exact .mk (ei w) (fun h => absurd h (Nat.lt_irrefl _)) rfl (Nat.le_refl _) (by show 2 * 88 <= _; omega) (fun i => if i = 0 then pa else pd) (fun _ => ⟨b, 0, rfl, hQ, gv hb⟩) (j5 ha hd)
def jN (P : Nat -> Prop) (B : Nat) (b : Nat) : Prop := (P b /\ b < B) \/ B + 2 <= b
structure LiS (Q : Nat -> Prop) (w : World) (rs : List Raw) (i B : Nat) (d : Raw) (pd : PV) (wr : World) : Prop where
 le : i <= rs.length
 eqd : d = cC (rs.drop i) .nil
 at_ : au Q wr d pd
 h2 : wr.heap[B]? = some (.cells (rwC 0 0 false none 0 0 ⟨#[]⟩ none 0 0) 27 (0, 0))
 h3 : wr.heap[B + 1]? = some (.cells (rwC d.k d.c d.neg pd.A pd.n pd.cp d.t pd.B pd.m pd.cap) 27 (0, 0))
 K : K0 w wr
theorem LiS.drew {Q : Nat -> Prop} {w : World} {rs : List Raw} {i B : Nat} {d : Raw} {pd : PV} {wr : World} (h : LiS Q w rs i B d pd wr) : LiS Q w rs i B d pd wr.drew := ⟨h.le, h.eqd, h.at_.keep0 (kR.drew), h.h2, h.h3, h.K.drew⟩
def p4 (P : Nat -> Prop) (d : Raw) (w : World) (e : Ending) (w' : World) : Prop := ∃ p : PV, e = .returned (bT d p) /\ au (jN P w.heap.size) w' d p /\ K0 w w'
theorem jC {rs : List Raw} {i : Nat} (h : i < rs.length) : cC (rs.drop i) .nil = dr rs[i] (cC (rs.drop (i + 1)) .nil) := by
 rw [List.drop_eq_getElem_cons h]; rfl
theorem ns (P : Nat -> Prop) (rs : List Raw) (vs : Nat -> PV) (A : Option Addr) (n cap : Nat) (w : World) (hn : rs.length = n) (_hcap : n <= cap) (hbig : n <= 9223372036854775807)
 (hrow : 0 < n -> ∃ b off, A = some ⟨b, off, none⟩ /\ ∀ i (h : i < rs.length), dL w b off i rs[i] (vs i)) (hch : ∀ i (h : i < rs.length), au P w rs[i] (vs i)) :
 Calls Tryz.prog 26 #[.slice A n cap] w (p4 P (cC rs .nil) w) := by
 have HN := hid hn
 have HROW := hid hrow
 have HCH := hid (fun i (h : i < rs.length) => (hch i h).mono (Q := jN P w.heap.size) (fun b lt hP => .inl ⟨hP, lt⟩))
 have HST := hid (show LiS (jN P w.heap.size) w rs n w.heap.size .nil PV.none ((w.alloc (.cells (rwC 0 0 false none 0 0 ⟨#[]⟩ none 0 0) 27)).alloc (.cells (rwC 0 0 false none 0 0 ⟨#[]⟩ none 0 0) 27)) from ⟨by omega, by rw [List.drop_of_length_le (by omega)]; rfl, bo.nil _ _ _, ac (hN w _) _, by have := hN (w.alloc (.cells (rwC 0 0 false none 0 0 ⟨#[]⟩ none 0 0) 27)) (.cells (rwC 0 0 false none 0 0 ⟨#[]⟩ none 0 0) 27); rwa [World.size_alloc] at this, (kR.alloc _).alloc _⟩)
 clear hn hrow hch
 go_enter Tryz.func26, Tryz.ntmps26
 go_wp2_with fail
 generalize ((w.alloc (.cells (rwC 0 0 false none 0 0 ⟨#[]⟩ none 0 0) 27)).alloc (.cells (rwC 0 0 false none 0 0 ⟨#[]⟩ none 0 0) 27)) = w1 at *
 go_loopw [4] (fun iv wr => ∃ (i : Nat) (d : Raw) (pd : PV), iv = .int .i64 ((i : Int) - 1) /\ LiS (jN P w.heap.size) w rs i w.heap.size d pd wr) (fun iv _ => (intOf iv + 1).toNat)
 case atStart => exact ⟨n, .nil, PV.none, by first | rfl | go_num, HST.out⟩
 case round =>
  obtain ⟨i, d, pd, rfl, hst⟩ := hrel
  have HS := hid hst
  have hle := hst.le
  have HB := hid (show w.heap.size + 1 < wr.heap.size from ao hst.h3)
  clear hst
  generalize hB0 : w.heap.size = B at *
  obtain ⟨⟨c0, c1, c2, c3, c4, c5⟩, f0, f1, f2, f3, f4, f5⟩ := ab HS.out.h3
  cases i with
  | zero =>
   have l1 : decide ((0 : Int) <= ((0 : Nat) : Int) - 1) = false := by decide
   obtain ⟨⟨a0, a1, a2, a3, a4, a5⟩, g0, g1, g2, g3, g4, g5⟩ := ab HS.out.h2
   have HE := hid (bN HS.out.K (Nat.le_of_eq hB0) (.int .i64 d.k) (.int .i32 d.c) (.bool d.neg) (.slice pd.A pd.n pd.cp) (.string d.t) (.slice pd.B pd.m pd.cap))
   have HR := hid (ab (aQ HS.out.h2 (.int .i64 d.k) (.int .i32 d.c) (.bool d.neg) (.slice pd.A pd.n pd.cp) (.string d.t) (.slice pd.B pd.m pd.cap))).1
   go_wp2_with fail
   refine bodyPost_ret (v := bT d pd) ?_ rfl ?_
   · obtain ⟨e0, e1, e2, e3, e4, e5⟩ := HR.out
     simp [results, Tryz.results26, go_sem, e0, e1, e2, e3, e4, e5]
   · refine ⟨pd, ?_, ?_, HE.out⟩
     · have := HS.out.eqd
       rw [List.drop_zero] at this
       rw [this]
     · have := HS.out.eqd
       rw [List.drop_zero] at this
       rw [<- this, hB0]
       refine HS.out.at_.keep (aq _ _ _ _ _ _ _ _) ?_
       rintro b rfl
       refine ⟨?_, ax HS.out.h2 (by decide)⟩
       rintro (⟨_, h⟩ | h) <;> omega
  | succ i =>
   have hi : i < rs.length := by omega
   have e1 : (((i + 1 : Nat) : Int) - 1) = (i : Int) := by omega
   rw [e1]
   have l1 : decide ((0 : Int) <= (i : Int)) = true := dT (by omega)
   obtain ⟨g, o, eA, hrw⟩ := HROW.out (by rw [<- HN.out]; omega)
   subst eA
   have hic := (hrw i hi).keep HS.out.K id
   obtain ⟨x, hx⟩ : ∃ x, x = rs[i] := ⟨_, rfl⟩
   obtain ⟨v, hv⟩ : ∃ v, v = vs i := ⟨_, rfl⟩
   have HX := hid (show au (jN P B) wr x v from by rw [hx, hv]; exact (HCH.out i hi).keep0 HS.out.K)
   have HD := hid (show dr x d = cC (rs.drop i) .nil from by rw [hx, HS.out.eqd, jC hi])
   rw [<- hx, <- hv] at hic
   obtain ⟨r0, r1, r2, r3, r4, r5⟩ := hic.cells
   have hi0 : (0 : Int) <= (i : Int) := Int.natCast_nonneg _
   have hi1 : (i : Int) < (n : Int) := by have := HN.out; omega
   obtain ⟨⟨a0, a1, a2, a3, a4, a5⟩, g0, g1, g2, g3, g4, g5⟩ := ab (ac HS.out.h3 (.cells #[.int .i64 x.k, .int .i32 x.c, .bool x.neg, .slice v.A v.n v.cp, .string x.t, .slice v.B v.m v.cap, .int .i64 d.k, .int .i32 d.c, .bool d.neg, .slice pd.A pd.n pd.cp, .string d.t, .slice pd.B pd.m pd.cap] 27))
   have HNEW := hid (show LiS (jN P B) w rs i B (dr x d) ⟨none, 0, 0, some ⟨wr.heap.size, 0, none⟩, 2, 2⟩ (aE (wr.alloc (.cells #[.int .i64 x.k, .int .i32 x.c, .bool x.neg, .slice v.A v.n v.cp, .string x.t, .slice v.B v.m v.cap, .int .i64 d.k, .int .i32 d.c, .bool d.neg, .slice pd.A pd.n pd.cp, .string d.t, .slice pd.B pd.m pd.cap] 27)) (B + 1) (.int .i64 7) (.int .i32 0) (.bool false) (.slice none 0 0) (.string ⟨#[]⟩) (.slice (some ⟨wr.heap.size, 0, none⟩) 2 2)).drew from LiS.drew (by
    have k2 : K0 wr (wr.alloc (.cells #[.int .i64 x.k, .int .i32 x.c, .bool x.neg, .slice v.A v.n v.cp, .string x.t, .slice v.B v.m v.cap, .int .i64 d.k, .int .i32 d.c, .bool d.neg, .slice pd.A pd.n pd.cp, .string d.t, .slice pd.B pd.m pd.cap] 27)) := kR.alloc _
    have h3 : ((wr.alloc (.cells #[.int .i64 x.k, .int .i32 x.c, .bool x.neg, .slice v.A v.n v.cp, .string x.t, .slice v.B v.m v.cap, .int .i64 d.k, .int .i32 d.c, .bool d.neg, .slice pd.A pd.n pd.cp, .string d.t, .slice pd.B pd.m pd.cap] 27))).heap[B + 1]? = _ := k2.heap HS.out.h3 id
    have hp := au.pair (HX.out.keep0 k2) (HS.out.at_.keep0 k2) (show ((wr.alloc (.cells #[.int .i64 x.k, .int .i32 x.c, .bool x.neg, .slice v.A v.n v.cp, .string x.t, .slice v.B v.m v.cap, .int .i64 d.k, .int .i32 d.c, .bool d.neg, .slice pd.A pd.n pd.cp, .string d.t, .slice pd.B pd.m pd.cap] 27))).heap[wr.heap.size]? = _ from hN wr _) (.inr (by have := HB.out; omega))
    refine ⟨by omega, HD.out, hp.keep (aq _ _ _ _ _ _ _ _) ?_, dQ (k2.heap HS.out.h2 id) (by omega) _ _ _ _ _ _, aQ h3 _ _ _ _ _ _, bN (HS.out.K.trans k2) (by omega) _ _ _ _ _ _⟩
    rintro b rfl
    refine ⟨?_, ax h3 (by decide)⟩
    rintro (⟨_, h⟩ | h) <;> omega))
   clear hic hrw hx hv e1
   go_wp2_with fail
   go_big_region
   go_wp2_with fail
   go_roundw
   case rel => exact ⟨i, _, _, by go_num, HNEW.out⟩
   case measure => simp only [intOf]; omega
def GF (g : Got) (B : Nat) (w' : World) (d : Raw) (p : PV) (n q c : Int) : Prop :=
 match g with
 | .ok (d', n') => d = d' /\ n = (n' : Int) /\ q = 0 /\ c = 0 /\ au (fun b => B <= b) w' d p
 | .error (q', c') => d = .nil /\ p = PV.none /\ n = 0 /\ q = (q' : Int) /\ c = (c' : Int)
theorem bd.form {g : Got} {w : World} {e : Ending} {w' : World} (h : bd g w e w') : ∃ (d : Raw) (p : PV) (n q c : Int), e = .returned (rX d p n q c) /\ GF g w.heap.size w' d p n q c /\ K0 w w' := by
 cases g with
 | ok g =>
  obtain ⟨d, n⟩ := g
  obtain ⟨p, rfl, h, K⟩ := h
  exact ⟨d, p, n, 0, 0, rfl, ⟨rfl, rfl, rfl, rfl, h⟩, K⟩
 | error g =>
  obtain ⟨q, c⟩ := g
  obtain ⟨rfl, K⟩ := h
  exact ⟨.nil, PV.none, 0, q, c, rfl, ⟨rfl, rfl, rfl, rfl, rfl⟩, K⟩
theorem GF.post {g : Got} {B : Nat} {w w' : World} {d : Raw} {p : PV} {n q c : Int} (h : GF g B w' d p n q c) (hB : w.heap.size <= B) (K : K0 w w') : bd g w (.returned (rX d p n q c)) w' := by
 cases g with
 | ok g =>
  obtain ⟨d', n'⟩ := g
  obtain ⟨rfl, rfl, rfl, rfl, h⟩ := h
  exact ⟨p, rfl, h.mono (fun b _ hb => by omega), K⟩
 | error g =>
  obtain ⟨q', c'⟩ := g
  obtain ⟨rfl, rfl, rfl, rfl, rfl⟩ := h
  exact ⟨rfl, K⟩
theorem GF.keep {g : Got} {B b0 : Nat} {w w' : World} {d : Raw} {p : PV} {n q c : Int} {X : Array Value} {T : TypeId} (h : GF g B w d p n q c) (K : ah (fun b => b = b0) w w') (hb : b0 < B) (hx : w.heap[b0]? = some (.cells X T (0, 0))) (hT : T ≠ 126) : GF g B w' d p n q c := by
 cases g with
 | ok g =>
  obtain ⟨d', n'⟩ := g
  obtain ⟨h1, h2, h3, h4, h⟩ := h
  exact ⟨h1, h2, h3, h4, h.keep K (by rintro b rfl; exact ⟨by omega, ax hx hT⟩)⟩
 | error g => exact h
theorem GF.keep0 {g : Got} {B : Nat} {w w' : World} {d : Raw} {p : PV} {n q c : Int} (h : GF g B w d p n q c) (K : K0 w w') : GF g B w' d p n q c := by
 cases g with
 | ok g => exact ⟨h.1, h.2.1, h.2.2.1, h.2.2.2.1, h.2.2.2.2.keep0 K⟩
 | error g => exact h
theorem ml (s : ByteArray) (kind at_ en : Int) (sq : Bool) (k c : Int) (neg : Bool) (A : Option Addr) (n cp : Nat) (x : ByteArray) (deep : Int) (w : World) (q0 : (kind == 9) = true) : Calls Tryz.prog 44 #[.string s, ar kind at_ en sq k c neg A n cp x, .int .i64 deep] w (fun e w' => e = .returned (.agg (gtC k c neg A n cp x none 0 0 en 0 0)) /\ K0 w w') := by
 have HB4 := hid (show ((w.alloc (.cells (tkC kind at_ en sq k c neg A n cp x none 0 0) 29)).alloc (.cells (gtC 0 0 false none 0 0 ⟨#[]⟩ none 0 0 0 0 0) 43)).heap[w.heap.size]? = some (.cells (tkC kind at_ en sq k c neg A n cp x none 0 0) 29 (0, 0)) from ac (hN w _) _)
 have HB6 := hid (show ((w.alloc (.cells (tkC kind at_ en sq k c neg A n cp x none 0 0) 29)).alloc (.cells (gtC 0 0 false none 0 0 ⟨#[]⟩ none 0 0 0 0 0) 43)).heap[w.heap.size + 1]? = some (.cells (gtC 0 0 false none 0 0 ⟨#[]⟩ none 0 0 0 0 0) 43 (0, 0)) from by have := hN (w.alloc (.cells (tkC kind at_ en sq k c neg A n cp x none 0 0) 29)) (.cells (gtC 0 0 false none 0 0 ⟨#[]⟩ none 0 0 0 0 0) 43); rwa [World.size_alloc] at this)
 have HK1 := hid (show K0 w ((w.alloc (.cells (tkC kind at_ en sq k c neg A n cp x none 0 0) 29)).alloc (.cells (gtC 0 0 false none 0 0 ⟨#[]⟩ none 0 0 0 0 0) 43)) from (kR.alloc _).alloc _)
 obtain ⟨⟨a0, a1, a2, a3, a4, a5, a6, a7, a8, a9⟩, _⟩ := aa HB4.out
 go_enter Tryz.func44, Tryz.ntmps44
 go_wp2_with fail
 exact bodyPost_ret (v := .agg (gtC k c neg A n cp x none 0 0 en 0 0)) (by simp [results, Tryz.results44, go_sem]) rfl ⟨rfl, (kR.alloc _).alloc _⟩
theorem nQ (s : ByteArray) (kind at_ en : Int) (sq : Bool) (k c : Int) (neg : Bool) (A : Option Addr) (n cp : Nat) (x : ByteArray) (deep : Int) (w : World) (q0 : (kind == 9) = false) (q1 : (deep == 64) = true) : Calls Tryz.prog 44 #[.string s, ar kind at_ en sq k c neg A n cp x, .int .i64 deep] w (fun e w' => e = .returned (re at_ 10) /\ K0 w w') := by
 have HB4 := hid (show ((w.alloc (.cells (tkC kind at_ en sq k c neg A n cp x none 0 0) 29)).alloc (.cells (gtC 0 0 false none 0 0 ⟨#[]⟩ none 0 0 0 0 0) 43)).heap[w.heap.size]? = some (.cells (tkC kind at_ en sq k c neg A n cp x none 0 0) 29 (0, 0)) from ac (hN w _) _)
 have HB6 := hid (show ((w.alloc (.cells (tkC kind at_ en sq k c neg A n cp x none 0 0) 29)).alloc (.cells (gtC 0 0 false none 0 0 ⟨#[]⟩ none 0 0 0 0 0) 43)).heap[w.heap.size + 1]? = some (.cells (gtC 0 0 false none 0 0 ⟨#[]⟩ none 0 0 0 0 0) 43 (0, 0)) from by have := hN (w.alloc (.cells (tkC kind at_ en sq k c neg A n cp x none 0 0) 29)) (.cells (gtC 0 0 false none 0 0 ⟨#[]⟩ none 0 0 0 0 0) 43); rwa [World.size_alloc] at this)
 have HK1 := hid (show K0 w ((w.alloc (.cells (tkC kind at_ en sq k c neg A n cp x none 0 0) 29)).alloc (.cells (gtC 0 0 false none 0 0 ⟨#[]⟩ none 0 0 0 0 0) 43)) from (kR.alloc _).alloc _)
 obtain ⟨⟨a0, a1, a2, a3, a4, a5, a6, a7, a8, a9⟩, _⟩ := aa HB4.out
 go_enter Tryz.func44, Tryz.ntmps44
 go_wp2_with fail
 refine (bD at_ 10 _).mono ?_
 rintro e w5 ⟨rfl, k5⟩
 have HB65 := hid (k5.heap HB6.out (by simp))
 have HK5 := hid (HK1.out.trans k5)
 clear k5
 clear a0 a1 a2 a3 a4 a5 a6 a7 a8 a9
 obtain ⟨⟨z0, z1, z2, z3, z4, z5, z6, z7, z8⟩, y0, y1, y2, y3, y4, y5, y6, y7, y8⟩ := aj HB65.out
 have HE := hid (aB HK5.out (show w.heap.size <= w.heap.size + 1 by omega) (.int .i64 0) (.int .i32 0) (.bool false) (.slice none 0 0) (.string ⟨#[]⟩) (.slice none 0 0) (.int .i64 0) (.int .i64 at_) (.int .i64 10))
 have HR := hid (aj (aM HB65.out (.int .i64 0) (.int .i32 0) (.bool false) (.slice none 0 0) (.string ⟨#[]⟩) (.slice none 0 0) (.int .i64 0) (.int .i64 at_) (.int .i64 10))).1
 try dsimp only
 go_wp2_with fail
 refine bodyPost_ret (v := .agg (gtC 0 0 false none 0 0 ⟨#[]⟩ none 0 0 0 at_ 10)) ?_ rfl ?_
 · obtain ⟨e0, e1, e2, e3, e4, e5, e6, e7, e8⟩ := HR.out
   simp [results, Tryz.results44, go_sem, e0, e1, e2, e3, e4, e5, e6, e7, e8]
 · exact ⟨rfl, HE.out⟩
theorem nO (s : ByteArray) (kind at_ en : Int) (sq : Bool) (k c : Int) (neg : Bool) (A : Option Addr) (n cp : Nat) (x : ByteArray) (deep : Int) (w : World) (q0 : (kind == 9) = false) (q1 : (deep == 64) = false) (q2 : (kind == 1) = true) (hd0 : 0 <= deep) (hd1 : deep <= 64) (g : Got)
 (HL : Hid (∀ W : World, K0 w W -> Calls Tryz.prog 72 #[.string s, ar kind at_ en sq k c neg A n cp x, .int .i64 (deep + 1)] W (bd g W))) : Calls Tryz.prog 44 #[.string s, ar kind at_ en sq k c neg A n cp x, .int .i64 deep] w (bd g w) := by
 have HB4 := hid (show ((w.alloc (.cells (tkC kind at_ en sq k c neg A n cp x none 0 0) 29)).alloc (.cells (gtC 0 0 false none 0 0 ⟨#[]⟩ none 0 0 0 0 0) 43)).heap[w.heap.size]? = some (.cells (tkC kind at_ en sq k c neg A n cp x none 0 0) 29 (0, 0)) from ac (hN w _) _)
 have HB6 := hid (show ((w.alloc (.cells (tkC kind at_ en sq k c neg A n cp x none 0 0) 29)).alloc (.cells (gtC 0 0 false none 0 0 ⟨#[]⟩ none 0 0 0 0 0) 43)).heap[w.heap.size + 1]? = some (.cells (gtC 0 0 false none 0 0 ⟨#[]⟩ none 0 0 0 0 0) 43 (0, 0)) from by have := hN (w.alloc (.cells (tkC kind at_ en sq k c neg A n cp x none 0 0) 29)) (.cells (gtC 0 0 false none 0 0 ⟨#[]⟩ none 0 0 0 0 0) 43); rwa [World.size_alloc] at this)
 have HK1 := hid (show K0 w ((w.alloc (.cells (tkC kind at_ en sq k c neg A n cp x none 0 0) 29)).alloc (.cells (gtC 0 0 false none 0 0 ⟨#[]⟩ none 0 0 0 0 0) 43)) from (kR.alloc _).alloc _)
 obtain ⟨⟨a0, a1, a2, a3, a4, a5, a6, a7, a8, a9⟩, _⟩ := aa HB4.out
 go_enter Tryz.func44, Tryz.ntmps44
 go_wp2_with fail
 refine (HL.out _ HK1.out).mono ?_
 intro e w5 hres
 obtain ⟨d, p, n2, q2, c2, rfl, hg, k5⟩ := hres.form
 have HB65 := hid (k5.heap HB6.out (by simp))
 have HK5 := hid (HK1.out.trans k5)
 have HG := hid hg
 have HSZ := hid (show w.heap.size + 1 < ((w.alloc (.cells (tkC kind at_ en sq k c neg A n cp x none 0 0) 29)).alloc (.cells (gtC 0 0 false none 0 0 ⟨#[]⟩ none 0 0 0 0 0) 43)).heap.size from ao HB6.out)
 clear k5 hres hg a0 a1 a2 a3 a4 a5 a6 a7 a8 a9
 obtain ⟨⟨z0, z1, z2, z3, z4, z5, z6, z7, z8⟩, y0, y1, y2, y3, y4, y5, y6, y7, y8⟩ := aj HB65.out
 have HE := hid (aB HK5.out (show w.heap.size <= w.heap.size + 1 by omega) (.int .i64 d.k) (.int .i32 d.c) (.bool d.neg) (.slice p.A p.n p.cp) (.string d.t) (.slice p.B p.m p.cap) (.int .i64 n2) (.int .i64 q2) (.int .i64 c2))
 have HR := hid (aj (aM HB65.out (.int .i64 d.k) (.int .i32 d.c) (.bool d.neg) (.slice p.A p.n p.cp) (.string d.t) (.slice p.B p.m p.cap) (.int .i64 n2) (.int .i64 q2) (.int .i64 c2))).1
 try dsimp only
 go_wp2_with fail
 refine bodyPost_ret (v := .agg (gtC d.k d.c d.neg p.A p.n p.cp d.t p.B p.m p.cap n2 q2 c2)) ?_ rfl ?_
 · obtain ⟨e0, e1, e2, e3, e4, e5, e6, e7, e8⟩ := HR.out
   simp [results, Tryz.results44, go_sem, e0, e1, e2, e3, e4, e5, e6, e7, e8]
 · exact (HG.out.keep (ck _ _ (.int .i64 d.k) (.int .i32 d.c) (.bool d.neg) (.slice p.A p.n p.cp) (.string d.t) (.slice p.B p.m p.cap) (.int .i64 n2) (.int .i64 q2) (.int .i64 c2)) HSZ.out HB65.out (by decide)).post (by have := HSZ.out; omega) HE.out
theorem pC (s : ByteArray) (kind at_ en : Int) (sq : Bool) (k c : Int) (neg : Bool) (A : Option Addr) (n cp : Nat) (x : ByteArray) (deep : Int) (w : World) (q0 : (kind == 9) = false) (q1 : (deep == 64) = false) (q2 : (kind == 1) = false) (q3 : (kind == 3) = true) (hd0 : 0 <= deep) (hd1 : deep <= 64) (g : Got)
 (HL : Hid (∀ W : World, K0 w W -> Calls Tryz.prog 73 #[.string s, ar kind at_ en sq k c neg A n cp x, .int .i64 (deep + 1)] W (bd g W))) : Calls Tryz.prog 44 #[.string s, ar kind at_ en sq k c neg A n cp x, .int .i64 deep] w (bd g w) := by
 have HB4 := hid (show ((w.alloc (.cells (tkC kind at_ en sq k c neg A n cp x none 0 0) 29)).alloc (.cells (gtC 0 0 false none 0 0 ⟨#[]⟩ none 0 0 0 0 0) 43)).heap[w.heap.size]? = some (.cells (tkC kind at_ en sq k c neg A n cp x none 0 0) 29 (0, 0)) from ac (hN w _) _)
 have HB6 := hid (show ((w.alloc (.cells (tkC kind at_ en sq k c neg A n cp x none 0 0) 29)).alloc (.cells (gtC 0 0 false none 0 0 ⟨#[]⟩ none 0 0 0 0 0) 43)).heap[w.heap.size + 1]? = some (.cells (gtC 0 0 false none 0 0 ⟨#[]⟩ none 0 0 0 0 0) 43 (0, 0)) from by have := hN (w.alloc (.cells (tkC kind at_ en sq k c neg A n cp x none 0 0) 29)) (.cells (gtC 0 0 false none 0 0 ⟨#[]⟩ none 0 0 0 0 0) 43); rwa [World.size_alloc] at this)
 have HK1 := hid (show K0 w ((w.alloc (.cells (tkC kind at_ en sq k c neg A n cp x none 0 0) 29)).alloc (.cells (gtC 0 0 false none 0 0 ⟨#[]⟩ none 0 0 0 0 0) 43)) from (kR.alloc _).alloc _)
 obtain ⟨⟨a0, a1, a2, a3, a4, a5, a6, a7, a8, a9⟩, _⟩ := aa HB4.out
 go_enter Tryz.func44, Tryz.ntmps44
 go_wp2_with fail
 refine (HL.out _ HK1.out).mono ?_
 intro e w5 hres
 obtain ⟨d, p, n2, q2, c2, rfl, hg, k5⟩ := hres.form
 have HB65 := hid (k5.heap HB6.out (by simp))
 have HK5 := hid (HK1.out.trans k5)
 have HG := hid hg
 have HSZ := hid (show w.heap.size + 1 < ((w.alloc (.cells (tkC kind at_ en sq k c neg A n cp x none 0 0) 29)).alloc (.cells (gtC 0 0 false none 0 0 ⟨#[]⟩ none 0 0 0 0 0) 43)).heap.size from ao HB6.out)
 clear k5 hres hg a0 a1 a2 a3 a4 a5 a6 a7 a8 a9
 obtain ⟨⟨z0, z1, z2, z3, z4, z5, z6, z7, z8⟩, y0, y1, y2, y3, y4, y5, y6, y7, y8⟩ := aj HB65.out
 have HE := hid (aB HK5.out (show w.heap.size <= w.heap.size + 1 by omega) (.int .i64 d.k) (.int .i32 d.c) (.bool d.neg) (.slice p.A p.n p.cp) (.string d.t) (.slice p.B p.m p.cap) (.int .i64 n2) (.int .i64 q2) (.int .i64 c2))
 have HR := hid (aj (aM HB65.out (.int .i64 d.k) (.int .i32 d.c) (.bool d.neg) (.slice p.A p.n p.cp) (.string d.t) (.slice p.B p.m p.cap) (.int .i64 n2) (.int .i64 q2) (.int .i64 c2))).1
 try dsimp only
 go_wp2_with fail
 refine bodyPost_ret (v := .agg (gtC d.k d.c d.neg p.A p.n p.cp d.t p.B p.m p.cap n2 q2 c2)) ?_ rfl ?_
 · obtain ⟨e0, e1, e2, e3, e4, e5, e6, e7, e8⟩ := HR.out
   simp [results, Tryz.results44, go_sem, e0, e1, e2, e3, e4, e5, e6, e7, e8]
 · exact (HG.out.keep (ck _ _ (.int .i64 d.k) (.int .i32 d.c) (.bool d.neg) (.slice p.A p.n p.cp) (.string d.t) (.slice p.B p.m p.cap) (.int .i64 n2) (.int .i64 q2) (.int .i64 c2)) HSZ.out HB65.out (by decide)).post (by have := HSZ.out; omega) HE.out
end Go.Proofs.YtonnikipeokkaaaGreatDoor
