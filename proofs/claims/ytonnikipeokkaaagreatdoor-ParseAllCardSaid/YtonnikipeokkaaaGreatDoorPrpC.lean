import Derived.Test.YtonnikipeokkaaaGreatDoorPaOpen
namespace Go.Proofs.YtonnikipeokkaaaGreatDoor
set_option maxRecDepth 100000
set_option maxHeartbeats 8000000
open Go.Lib (hid)
open Go.RowKit Go.Lib
def fH (p : Int) (w : World) (e : Ending) (w' : World) : Prop := ∃ v, e = .returned (.tuple #[.agg (rwC 0 0 false none 0 0 ⟨#[]⟩ none 0 0), v]) /\ eO w' v p 9 /\ K0 w w'
theorem nY (kind at_ en : Int) (sq : Bool) (dk dc : Int) (dneg : Bool) (A : Option Addr) (n cp : Nat) (x : ByteArray) (pb : Nat) (w : World) (HTOP : Hid (∀ W : World, K0 w W -> Calls Tryz.prog 101 #[.pointer (some ⟨pb, 0, none⟩)] W fun e w' => e = .returned (.pointer none) /\ K0 W w')) : Calls Tryz.prog 99 #[.pointer (some ⟨pb, 0, none⟩), ar kind at_ en sq dk dc dneg A n cp x] w (fH at_ w) := by
 have HB := hid (show ((w.alloc (.cells (tkC kind at_ en sq dk dc dneg A n cp x none 0 0) 29)).alloc (.cells (rwC 0 0 false none 0 0 ⟨#[]⟩ none 0 0) 27)).heap[w.heap.size]? = some (.cells (tkC kind at_ en sq dk dc dneg A n cp x none 0 0) 29 (0, 0)) from ac (hN w _) _)
 have HC := hid (show ((w.alloc (.cells (tkC kind at_ en sq dk dc dneg A n cp x none 0 0) 29)).alloc (.cells (rwC 0 0 false none 0 0 ⟨#[]⟩ none 0 0) 27)).heap[w.heap.size + 1]? = some (.cells (rwC 0 0 false none 0 0 ⟨#[]⟩ none 0 0) 27 (0, 0)) from by have := hN (w.alloc (.cells (tkC kind at_ en sq dk dc dneg A n cp x none 0 0) 29)) (.cells (rwC 0 0 false none 0 0 ⟨#[]⟩ none 0 0) 27); rwa [World.size_alloc] at this)
 have HK1 := hid (show K0 w ((w.alloc (.cells (tkC kind at_ en sq dk dc dneg A n cp x none 0 0) 29)).alloc (.cells (rwC 0 0 false none 0 0 ⟨#[]⟩ none 0 0) 27)) from (kR.alloc _).alloc _)
 go_enter Tryz.func99, Tryz.ntmps99
 go_wp2_with fail
 refine (HTOP.out _ HK1.out).mono ?_
 rintro e w2 ⟨rfl, k2⟩
 have HB2 := hid (k2.heap HB.out id)
 have HC2 := hid (k2.heap HC.out id)
 have HK2 := hid (HK1.out.trans k2)
 obtain ⟨⟨a0, a1, a2, a3, a4, a5, a6, a7, a8, a9⟩, _⟩ := aa HB2.out
 clear k2
 try dsimp only
 go_wp2_with fail
 go_quiet (fail)
 have Kq : K0 w2 (w2.drewN nq) := kR.drewN nq
 have HB3 := hid (Kq.heap HB2.out id)
 have HC3 := hid (Kq.heap HC2.out id)
 have HK3 := hid (HK2.out.trans Kq)
 generalize w2.drewN nq = w3 at *
 clear a0 a1 a2 a3 a4 a5 a6 a7 a8 a9
 obtain ⟨⟨a0, a1, a2, a3, a4, a5, a6, a7, a8, a9⟩, _⟩ := aa HB3.out
 obtain ⟨⟨b0, b1, b2, b3, b4, b5⟩, f0, f1, f2, f3, f4, f5⟩ := ab HC3.out
 go_wp2_with fail
 refine (bj _ at_ 9 _).mono ?_
 rintro e w4 ⟨v, rfl, he, k4⟩
 have HC4 := hid (k4.heap HC3.out id)
 have HK4 := hid (HK3.out.trans k4)
 clear b0 b1 b2 b3 b4 b5 f0 f1 f2 f3 f4 f5
 obtain ⟨⟨b0, b1, b2, b3, b4, b5⟩, f0, f1, f2, f3, f4, f5⟩ := ab HC4.out
 have HE := hid (show eO (aE w4 (w.heap.size + 1) (.int .i64 0) (.int .i32 0) (.bool false) (.slice none 0 0) (.string ⟨#[]⟩) (.slice none 0 0)) v at_ 9 from he.keep (aq _ _ (.int .i64 0) (.int .i32 0) (.bool false) (.slice none 0 0) (.string ⟨#[]⟩) (.slice none 0 0)) (by rintro b X rfl; rw [HC4.out]; exact ⟨by simp, by simp⟩))
 have HKE := hid (bN HK4.out (show w.heap.size <= w.heap.size + 1 by omega) (.int .i64 0) (.int .i32 0) (.bool false) (.slice none 0 0) (.string ⟨#[]⟩) (.slice none 0 0))
 have HR := hid (ab (aQ HC4.out (.int .i64 0) (.int .i32 0) (.bool false) (.slice none 0 0) (.string ⟨#[]⟩) (.slice none 0 0))).1
 clear he k4
 try dsimp only
 go_wp2_with fail
 refine bodyPost_ret (v := .tuple #[.agg (rwC 0 0 false none 0 0 ⟨#[]⟩ none 0 0), v]) ?_ rfl ?_
 · obtain ⟨e0, e1, e2, e3, e4, e5⟩ := HR.out
   simp [results, Tryz.results99, go_sem, e0, e1, e2, e3, e4, e5]
 · exact ⟨v, rfl, HE.out, HKE.out⟩
theorem mt (kind at_ en : Int) (sq : Bool) (dk dc : Int) (dneg : Bool) (A : Option Addr) (n cp : Nat) (x : ByteArray) (pb b : Nat) (w : World) (HTOP : Hid (∀ W : World, K0 w W -> Calls Tryz.prog 101 #[.pointer (some ⟨pb, 0, none⟩)] W fun e w' => e = .returned (.pointer (some ⟨b, 0, none⟩)) /\ K0 W w')) (kf df : Int) (sf : Bool) (c0 : w.cell? ⟨b, 0, none⟩ = some (.int .i64 kf)) (c3 : w.cell? ⟨b, 3, none⟩ = some (.bool sf)) (c10 : w.cell? ⟨b, 10, none⟩ = some (.int .i64 df)) (ws : ByteArray) (HQ : Hid (∀ W : World, Calls Tryz.prog 102 #[.int .i64 kf] W fun e w' => e = .returned (.string ws) /\ w' = W)) (qw : ws.toList.isEmpty = false) : Calls Tryz.prog 99 #[.pointer (some ⟨pb, 0, none⟩), ar kind at_ en sq dk dc dneg A n cp x] w (fH at_ w) := by
 have HB := hid (show ((w.alloc (.cells (tkC kind at_ en sq dk dc dneg A n cp x none 0 0) 29)).alloc (.cells (rwC 0 0 false none 0 0 ⟨#[]⟩ none 0 0) 27)).heap[w.heap.size]? = some (.cells (tkC kind at_ en sq dk dc dneg A n cp x none 0 0) 29 (0, 0)) from ac (hN w _) _)
 have HC := hid (show ((w.alloc (.cells (tkC kind at_ en sq dk dc dneg A n cp x none 0 0) 29)).alloc (.cells (rwC 0 0 false none 0 0 ⟨#[]⟩ none 0 0) 27)).heap[w.heap.size + 1]? = some (.cells (rwC 0 0 false none 0 0 ⟨#[]⟩ none 0 0) 27 (0, 0)) from by have := hN (w.alloc (.cells (tkC kind at_ en sq dk dc dneg A n cp x none 0 0) 29)) (.cells (rwC 0 0 false none 0 0 ⟨#[]⟩ none 0 0) 27); rwa [World.size_alloc] at this)
 have HK1 := hid (show K0 w ((w.alloc (.cells (tkC kind at_ en sq dk dc dneg A n cp x none 0 0) 29)).alloc (.cells (rwC 0 0 false none 0 0 ⟨#[]⟩ none 0 0) 27)) from (kR.alloc _).alloc _)
 have l_c0 := bL w _ c0
 have l_c3 := bL w _ c3
 have l_c10 := bL w _ c10
 have H_c0 := hid (fun (W : World) (K : K0 w W) => (K.cell (p := ⟨b, 0, none⟩) l_c0 id).trans c0)
 have H_c3 := hid (fun (W : World) (K : K0 w W) => (K.cell (p := ⟨b, 3, none⟩) l_c3 id).trans c3)
 have H_c10 := hid (fun (W : World) (K : K0 w W) => (K.cell (p := ⟨b, 10, none⟩) l_c10 id).trans c10)
 clear l_c0 l_c3 l_c10 c0 c3 c10
 go_enter Tryz.func99, Tryz.ntmps99
 go_wp2_with fail
 refine (HTOP.out _ HK1.out).mono ?_
 rintro e w2 ⟨rfl, k2⟩
 have HB2 := hid (k2.heap HB.out id)
 have HC2 := hid (k2.heap HC.out id)
 have HK2 := hid (HK1.out.trans k2)
 obtain ⟨⟨a0, a1, a2, a3, a4, a5, a6, a7, a8, a9⟩, _⟩ := aa HB2.out
 have c0 := H_c0.out w2 HK2.out
 have c3 := H_c3.out w2 HK2.out
 have c10 := H_c10.out w2 HK2.out
 clear k2
 try dsimp only
 go_wp2_with fail
 go_quiet ((go_at_call 102; exact Calls.quiet_of_same (HQ.out _)))
 have Kq : K0 w2 (w2.drewN nq) := kR.drewN nq
 have HB3 := hid (Kq.heap HB2.out id)
 have HC3 := hid (Kq.heap HC2.out id)
 have HK3 := hid (HK2.out.trans Kq)
 generalize w2.drewN nq = w3 at *
 clear a0 a1 a2 a3 a4 a5 a6 a7 a8 a9
 obtain ⟨⟨a0, a1, a2, a3, a4, a5, a6, a7, a8, a9⟩, _⟩ := aa HB3.out
 obtain ⟨⟨b0, b1, b2, b3, b4, b5⟩, f0, f1, f2, f3, f4, f5⟩ := ab HC3.out
 clear c0
 have c0 := H_c0.out w3 HK3.out
 clear c3
 have c3 := H_c3.out w3 HK3.out
 clear c10
 have c10 := H_c10.out w3 HK3.out
 go_wp2_with fail
 refine (bj _ at_ 9 _).mono ?_
 rintro e w4 ⟨v, rfl, he, k4⟩
 have HC4 := hid (k4.heap HC3.out id)
 have HK4 := hid (HK3.out.trans k4)
 clear b0 b1 b2 b3 b4 b5 f0 f1 f2 f3 f4 f5
 obtain ⟨⟨b0, b1, b2, b3, b4, b5⟩, f0, f1, f2, f3, f4, f5⟩ := ab HC4.out
 have HE := hid (show eO (aE w4 (w.heap.size + 1) (.int .i64 0) (.int .i32 0) (.bool false) (.slice none 0 0) (.string ⟨#[]⟩) (.slice none 0 0)) v at_ 9 from he.keep (aq _ _ (.int .i64 0) (.int .i32 0) (.bool false) (.slice none 0 0) (.string ⟨#[]⟩) (.slice none 0 0)) (by rintro b X rfl; rw [HC4.out]; exact ⟨by simp, by simp⟩))
 have HKE := hid (bN HK4.out (show w.heap.size <= w.heap.size + 1 by omega) (.int .i64 0) (.int .i32 0) (.bool false) (.slice none 0 0) (.string ⟨#[]⟩) (.slice none 0 0))
 have HR := hid (ab (aQ HC4.out (.int .i64 0) (.int .i32 0) (.bool false) (.slice none 0 0) (.string ⟨#[]⟩) (.slice none 0 0))).1
 clear he k4
 try dsimp only
 go_wp2_with fail
 refine bodyPost_ret (v := .tuple #[.agg (rwC 0 0 false none 0 0 ⟨#[]⟩ none 0 0), v]) ?_ rfl ?_
 · obtain ⟨e0, e1, e2, e3, e4, e5⟩ := HR.out
   simp [results, Tryz.results99, go_sem, e0, e1, e2, e3, e4, e5]
 · exact ⟨v, rfl, HE.out, HKE.out⟩
theorem pJ (kind at_ en : Int) (sq : Bool) (dk dc : Int) (dneg : Bool) (A : Option Addr) (n cp : Nat) (x : ByteArray) (pb b : Nat) (w : World) (HTOP : Hid (∀ W : World, K0 w W -> Calls Tryz.prog 101 #[.pointer (some ⟨pb, 0, none⟩)] W fun e w' => e = .returned (.pointer (some ⟨b, 0, none⟩)) /\ K0 W w')) (kf df : Int) (sf : Bool) (c0 : w.cell? ⟨b, 0, none⟩ = some (.int .i64 kf)) (c3 : w.cell? ⟨b, 3, none⟩ = some (.bool sf)) (c10 : w.cell? ⟨b, 10, none⟩ = some (.int .i64 df)) (HQ : Hid (∀ W : World, Calls Tryz.prog 102 #[.int .i64 kf] W fun e w' => e = .returned (.string ⟨#[]⟩) /\ w' = W)) (qs : (sf == sq) = false) : Calls Tryz.prog 99 #[.pointer (some ⟨pb, 0, none⟩), ar kind at_ en sq dk dc dneg A n cp x] w (fH at_ w) := by
 have HB := hid (show ((w.alloc (.cells (tkC kind at_ en sq dk dc dneg A n cp x none 0 0) 29)).alloc (.cells (rwC 0 0 false none 0 0 ⟨#[]⟩ none 0 0) 27)).heap[w.heap.size]? = some (.cells (tkC kind at_ en sq dk dc dneg A n cp x none 0 0) 29 (0, 0)) from ac (hN w _) _)
 have HC := hid (show ((w.alloc (.cells (tkC kind at_ en sq dk dc dneg A n cp x none 0 0) 29)).alloc (.cells (rwC 0 0 false none 0 0 ⟨#[]⟩ none 0 0) 27)).heap[w.heap.size + 1]? = some (.cells (rwC 0 0 false none 0 0 ⟨#[]⟩ none 0 0) 27 (0, 0)) from by have := hN (w.alloc (.cells (tkC kind at_ en sq dk dc dneg A n cp x none 0 0) 29)) (.cells (rwC 0 0 false none 0 0 ⟨#[]⟩ none 0 0) 27); rwa [World.size_alloc] at this)
 have HK1 := hid (show K0 w ((w.alloc (.cells (tkC kind at_ en sq dk dc dneg A n cp x none 0 0) 29)).alloc (.cells (rwC 0 0 false none 0 0 ⟨#[]⟩ none 0 0) 27)) from (kR.alloc _).alloc _)
 have l_c0 := bL w _ c0
 have l_c3 := bL w _ c3
 have l_c10 := bL w _ c10
 have H_c0 := hid (fun (W : World) (K : K0 w W) => (K.cell (p := ⟨b, 0, none⟩) l_c0 id).trans c0)
 have H_c3 := hid (fun (W : World) (K : K0 w W) => (K.cell (p := ⟨b, 3, none⟩) l_c3 id).trans c3)
 have H_c10 := hid (fun (W : World) (K : K0 w W) => (K.cell (p := ⟨b, 10, none⟩) l_c10 id).trans c10)
 clear l_c0 l_c3 l_c10 c0 c3 c10
 go_enter Tryz.func99, Tryz.ntmps99
 go_wp2_with fail
 refine (HTOP.out _ HK1.out).mono ?_
 rintro e w2 ⟨rfl, k2⟩
 have HB2 := hid (k2.heap HB.out id)
 have HC2 := hid (k2.heap HC.out id)
 have HK2 := hid (HK1.out.trans k2)
 obtain ⟨⟨a0, a1, a2, a3, a4, a5, a6, a7, a8, a9⟩, _⟩ := aa HB2.out
 have c0 := H_c0.out w2 HK2.out
 have c3 := H_c3.out w2 HK2.out
 have c10 := H_c10.out w2 HK2.out
 clear k2
 try dsimp only
 go_wp2_with fail
 go_quiet ((go_at_call 102; exact Calls.quiet_of_same (HQ.out _)))
 have Kq : K0 w2 (w2.drewN nq) := kR.drewN nq
 have HB3 := hid (Kq.heap HB2.out id)
 have HC3 := hid (Kq.heap HC2.out id)
 have HK3 := hid (HK2.out.trans Kq)
 generalize w2.drewN nq = w3 at *
 clear a0 a1 a2 a3 a4 a5 a6 a7 a8 a9
 obtain ⟨⟨a0, a1, a2, a3, a4, a5, a6, a7, a8, a9⟩, _⟩ := aa HB3.out
 obtain ⟨⟨b0, b1, b2, b3, b4, b5⟩, f0, f1, f2, f3, f4, f5⟩ := ab HC3.out
 clear c0
 have c0 := H_c0.out w3 HK3.out
 clear c3
 have c3 := H_c3.out w3 HK3.out
 clear c10
 have c10 := H_c10.out w3 HK3.out
 go_wp2_with fail
 refine (bj _ at_ 9 _).mono ?_
 rintro e w4 ⟨v, rfl, he, k4⟩
 have HC4 := hid (k4.heap HC3.out id)
 have HK4 := hid (HK3.out.trans k4)
 clear b0 b1 b2 b3 b4 b5 f0 f1 f2 f3 f4 f5
 obtain ⟨⟨b0, b1, b2, b3, b4, b5⟩, f0, f1, f2, f3, f4, f5⟩ := ab HC4.out
 have HE := hid (show eO (aE w4 (w.heap.size + 1) (.int .i64 0) (.int .i32 0) (.bool false) (.slice none 0 0) (.string ⟨#[]⟩) (.slice none 0 0)) v at_ 9 from he.keep (aq _ _ (.int .i64 0) (.int .i32 0) (.bool false) (.slice none 0 0) (.string ⟨#[]⟩) (.slice none 0 0)) (by rintro b X rfl; rw [HC4.out]; exact ⟨by simp, by simp⟩))
 have HKE := hid (bN HK4.out (show w.heap.size <= w.heap.size + 1 by omega) (.int .i64 0) (.int .i32 0) (.bool false) (.slice none 0 0) (.string ⟨#[]⟩) (.slice none 0 0))
 have HR := hid (ab (aQ HC4.out (.int .i64 0) (.int .i32 0) (.bool false) (.slice none 0 0) (.string ⟨#[]⟩) (.slice none 0 0))).1
 clear he k4
 try dsimp only
 go_wp2_with fail
 refine bodyPost_ret (v := .tuple #[.agg (rwC 0 0 false none 0 0 ⟨#[]⟩ none 0 0), v]) ?_ rfl ?_
 · obtain ⟨e0, e1, e2, e3, e4, e5⟩ := HR.out
   simp [results, Tryz.results99, go_sem, e0, e1, e2, e3, e4, e5]
 · exact ⟨v, rfl, HE.out, HKE.out⟩
theorem nZ (kind at_ en : Int) (sq : Bool) (dk dc : Int) (dneg : Bool) (A : Option Addr) (n cp : Nat) (x : ByteArray) (pb b : Nat) (w : World) (HTOP : Hid (∀ W : World, K0 w W -> Calls Tryz.prog 101 #[.pointer (some ⟨pb, 0, none⟩)] W fun e w' => e = .returned (.pointer (some ⟨b, 0, none⟩)) /\ K0 W w')) (kf df : Int) (sf : Bool) (c0 : w.cell? ⟨b, 0, none⟩ = some (.int .i64 kf)) (c3 : w.cell? ⟨b, 3, none⟩ = some (.bool sf)) (c10 : w.cell? ⟨b, 10, none⟩ = some (.int .i64 df)) (HQ : Hid (∀ W : World, Calls Tryz.prog 102 #[.int .i64 kf] W fun e w' => e = .returned (.string ⟨#[]⟩) /\ w' = W)) (qs : (sf == sq) = true) (qd : (df == 1) = true) : Calls Tryz.prog 99 #[.pointer (some ⟨pb, 0, none⟩), ar kind at_ en sq dk dc dneg A n cp x] w (fH at_ w) := by
 have HB := hid (show ((w.alloc (.cells (tkC kind at_ en sq dk dc dneg A n cp x none 0 0) 29)).alloc (.cells (rwC 0 0 false none 0 0 ⟨#[]⟩ none 0 0) 27)).heap[w.heap.size]? = some (.cells (tkC kind at_ en sq dk dc dneg A n cp x none 0 0) 29 (0, 0)) from ac (hN w _) _)
 have HC := hid (show ((w.alloc (.cells (tkC kind at_ en sq dk dc dneg A n cp x none 0 0) 29)).alloc (.cells (rwC 0 0 false none 0 0 ⟨#[]⟩ none 0 0) 27)).heap[w.heap.size + 1]? = some (.cells (rwC 0 0 false none 0 0 ⟨#[]⟩ none 0 0) 27 (0, 0)) from by have := hN (w.alloc (.cells (tkC kind at_ en sq dk dc dneg A n cp x none 0 0) 29)) (.cells (rwC 0 0 false none 0 0 ⟨#[]⟩ none 0 0) 27); rwa [World.size_alloc] at this)
 have HK1 := hid (show K0 w ((w.alloc (.cells (tkC kind at_ en sq dk dc dneg A n cp x none 0 0) 29)).alloc (.cells (rwC 0 0 false none 0 0 ⟨#[]⟩ none 0 0) 27)) from (kR.alloc _).alloc _)
 have l_c0 := bL w _ c0
 have l_c3 := bL w _ c3
 have l_c10 := bL w _ c10
 have H_c0 := hid (fun (W : World) (K : K0 w W) => (K.cell (p := ⟨b, 0, none⟩) l_c0 id).trans c0)
 have H_c3 := hid (fun (W : World) (K : K0 w W) => (K.cell (p := ⟨b, 3, none⟩) l_c3 id).trans c3)
 have H_c10 := hid (fun (W : World) (K : K0 w W) => (K.cell (p := ⟨b, 10, none⟩) l_c10 id).trans c10)
 clear l_c0 l_c3 l_c10 c0 c3 c10
 go_enter Tryz.func99, Tryz.ntmps99
 go_wp2_with fail
 refine (HTOP.out _ HK1.out).mono ?_
 rintro e w2 ⟨rfl, k2⟩
 have HB2 := hid (k2.heap HB.out id)
 have HC2 := hid (k2.heap HC.out id)
 have HK2 := hid (HK1.out.trans k2)
 obtain ⟨⟨a0, a1, a2, a3, a4, a5, a6, a7, a8, a9⟩, _⟩ := aa HB2.out
 have c0 := H_c0.out w2 HK2.out
 have c3 := H_c3.out w2 HK2.out
 have c10 := H_c10.out w2 HK2.out
 clear k2
 try dsimp only
 go_wp2_with fail
 go_quiet ((go_at_call 102; exact Calls.quiet_of_same (HQ.out _)))
 have Kq : K0 w2 (w2.drewN nq) := kR.drewN nq
 have HB3 := hid (Kq.heap HB2.out id)
 have HC3 := hid (Kq.heap HC2.out id)
 have HK3 := hid (HK2.out.trans Kq)
 generalize w2.drewN nq = w3 at *
 clear a0 a1 a2 a3 a4 a5 a6 a7 a8 a9
 obtain ⟨⟨a0, a1, a2, a3, a4, a5, a6, a7, a8, a9⟩, _⟩ := aa HB3.out
 obtain ⟨⟨b0, b1, b2, b3, b4, b5⟩, f0, f1, f2, f3, f4, f5⟩ := ab HC3.out
 clear c0
 have c0 := H_c0.out w3 HK3.out
 clear c3
 have c3 := H_c3.out w3 HK3.out
 clear c10
 have c10 := H_c10.out w3 HK3.out
 go_wp2_with fail
 refine (bj _ at_ 9 _).mono ?_
 rintro e w4 ⟨v, rfl, he, k4⟩
 have HC4 := hid (k4.heap HC3.out id)
 have HK4 := hid (HK3.out.trans k4)
 clear b0 b1 b2 b3 b4 b5 f0 f1 f2 f3 f4 f5
 obtain ⟨⟨b0, b1, b2, b3, b4, b5⟩, f0, f1, f2, f3, f4, f5⟩ := ab HC4.out
 have HE := hid (show eO (aE w4 (w.heap.size + 1) (.int .i64 0) (.int .i32 0) (.bool false) (.slice none 0 0) (.string ⟨#[]⟩) (.slice none 0 0)) v at_ 9 from he.keep (aq _ _ (.int .i64 0) (.int .i32 0) (.bool false) (.slice none 0 0) (.string ⟨#[]⟩) (.slice none 0 0)) (by rintro b X rfl; rw [HC4.out]; exact ⟨by simp, by simp⟩))
 have HKE := hid (bN HK4.out (show w.heap.size <= w.heap.size + 1 by omega) (.int .i64 0) (.int .i32 0) (.bool false) (.slice none 0 0) (.string ⟨#[]⟩) (.slice none 0 0))
 have HR := hid (ab (aQ HC4.out (.int .i64 0) (.int .i32 0) (.bool false) (.slice none 0 0) (.string ⟨#[]⟩) (.slice none 0 0))).1
 clear he k4
 try dsimp only
 go_wp2_with fail
 refine bodyPost_ret (v := .tuple #[.agg (rwC 0 0 false none 0 0 ⟨#[]⟩ none 0 0), v]) ?_ rfl ?_
 · obtain ⟨e0, e1, e2, e3, e4, e5⟩ := HR.out
   simp [results, Tryz.results99, go_sem, e0, e1, e2, e3, e4, e5]
 · exact ⟨v, rfl, HE.out, HKE.out⟩
theorem nX (kind at_ en : Int) (sq : Bool) (dk dc : Int) (dneg : Bool) (A : Option Addr) (n cp : Nat) (x : ByteArray) (pb b : Nat) (w : World) (HTOP : Hid (∀ W : World, K0 w W -> Calls Tryz.prog 101 #[.pointer (some ⟨pb, 0, none⟩)] W fun e w' => e = .returned (.pointer (some ⟨b, 0, none⟩)) /\ K0 W w')) (kf df : Int) (sf : Bool) (L : Option Addr) (nl lc : Nat) (c0 : w.cell? ⟨b, 0, none⟩ = some (.int .i64 kf)) (c3 : w.cell? ⟨b, 3, none⟩ = some (.bool sf)) (c10 : w.cell? ⟨b, 10, none⟩ = some (.int .i64 df)) (c17 : w.cell? ⟨b, 17, none⟩ = some (.slice L nl lc)) (HQ : Hid (∀ W : World, Calls Tryz.prog 102 #[.int .i64 kf] W fun e w' => e = .returned (.string ⟨#[]⟩) /\ w' = W)) (qs : (sf == sq) = true) (qd : (df == 1) = false) (qv : (kf == 3) = true) (g k m rc : Nat) (hp : w.heap[pb]? = some (.cells #[.slice (some ⟨g, 0, none⟩) m rc] 120 (0, 0))) (hm : m = k + 1) (hrc : m <= rc) (hk : k <= 64) (hbp : ¬ b = pb) : Calls Tryz.prog 99 #[.pointer (some ⟨pb, 0, none⟩), ar kind at_ en sq dk dc dneg A n cp x] w (fun e w' => e = .returned (.tuple #[.agg (rwC 8 0 false none 0 0 ⟨#[]⟩ L nl lc), .nilIface]) /\ w'.heap[pb]? = some (.cells #[.slice (some ⟨g, 0, none⟩) k rc] 120 (0, 0)) /\ ah (fun x => x = pb) w w') := by
 have HP := hid hp
 have l1 : IntKind.i64.wrap ((m : Int) - 1) = (k : Int) := by rw [IntWalk.i64_in _ (by omega)]; omega
 have hk0 : (0 : Int) <= (k : Int) := by omega
 have hk1 : (k : Int) <= (rc : Int) := by omega
 have hpl := ao hp
 have HPL := hid hpl
 clear hp hm hrc hk hpl
 have HB := hid (show ((w.alloc (.cells (tkC kind at_ en sq dk dc dneg A n cp x none 0 0) 29)).alloc (.cells (rwC 0 0 false none 0 0 ⟨#[]⟩ none 0 0) 27)).heap[w.heap.size]? = some (.cells (tkC kind at_ en sq dk dc dneg A n cp x none 0 0) 29 (0, 0)) from ac (hN w _) _)
 have HC := hid (show ((w.alloc (.cells (tkC kind at_ en sq dk dc dneg A n cp x none 0 0) 29)).alloc (.cells (rwC 0 0 false none 0 0 ⟨#[]⟩ none 0 0) 27)).heap[w.heap.size + 1]? = some (.cells (rwC 0 0 false none 0 0 ⟨#[]⟩ none 0 0) 27 (0, 0)) from by have := hN (w.alloc (.cells (tkC kind at_ en sq dk dc dneg A n cp x none 0 0) 29)) (.cells (rwC 0 0 false none 0 0 ⟨#[]⟩ none 0 0) 27); rwa [World.size_alloc] at this)
 have HK1 := hid (show K0 w ((w.alloc (.cells (tkC kind at_ en sq dk dc dneg A n cp x none 0 0) 29)).alloc (.cells (rwC 0 0 false none 0 0 ⟨#[]⟩ none 0 0) 27)) from (kR.alloc _).alloc _)
 have l_c0 := bL w _ c0
 have l_c3 := bL w _ c3
 have l_c10 := bL w _ c10
 have l_c17 := bL w _ c17
 have H_c0 := hid (fun (W : World) (K : ah (fun x => x = pb) w W) => (K.cell (p := ⟨b, 0, none⟩) l_c0 hbp).trans c0)
 have H_c3 := hid (fun (W : World) (K : ah (fun x => x = pb) w W) => (K.cell (p := ⟨b, 3, none⟩) l_c3 hbp).trans c3)
 have H_c10 := hid (fun (W : World) (K : ah (fun x => x = pb) w W) => (K.cell (p := ⟨b, 10, none⟩) l_c10 hbp).trans c10)
 have H_c17 := hid (fun (W : World) (K : ah (fun x => x = pb) w W) => (K.cell (p := ⟨b, 17, none⟩) l_c17 hbp).trans c17)
 clear l_c0 l_c3 l_c10 l_c17 c0 c3 c10 c17
 go_enter Tryz.func99, Tryz.ntmps99
 go_wp2_with fail
 refine (HTOP.out _ HK1.out).mono ?_
 rintro e w2 ⟨rfl, k2⟩
 have HB2 := hid (k2.heap HB.out id)
 have HC2 := hid (k2.heap HC.out id)
 have HK2 := hid (HK1.out.trans k2)
 obtain ⟨⟨a0, a1, a2, a3, a4, a5, a6, a7, a8, a9⟩, _⟩ := aa HB2.out
 have c0 := H_c0.out w2 (HK2.out.mono (fun _ _ h => h.elim))
 have c3 := H_c3.out w2 (HK2.out.mono (fun _ _ h => h.elim))
 have c10 := H_c10.out w2 (HK2.out.mono (fun _ _ h => h.elim))
 have c17 := H_c17.out w2 (HK2.out.mono (fun _ _ h => h.elim))
 clear k2
 try dsimp only
 go_wp2_with fail
 go_quiet ((go_at_call 102; exact Calls.quiet_of_same (HQ.out _)))
 have Kq : K0 w2 (w2.drewN nq) := kR.drewN nq
 have HB3 := hid (Kq.heap HB2.out id)
 have HC3 := hid (Kq.heap HC2.out id)
 have HK3 := hid (HK2.out.trans Kq)
 generalize w2.drewN nq = w3 at *
 clear a0 a1 a2 a3 a4 a5 a6 a7 a8 a9
 obtain ⟨⟨a0, a1, a2, a3, a4, a5, a6, a7, a8, a9⟩, _⟩ := aa HB3.out
 obtain ⟨⟨b0, b1, b2, b3, b4, b5⟩, f0, f1, f2, f3, f4, f5⟩ := ab HC3.out
 clear c0
 have c0 := H_c0.out w3 (HK3.out.mono (fun _ _ h => h.elim))
 clear c3
 have c3 := H_c3.out w3 (HK3.out.mono (fun _ _ h => h.elim))
 clear c10
 have c10 := H_c10.out w3 (HK3.out.mono (fun _ _ h => h.elim))
 clear c17
 have c17 := H_c17.out w3 (HK3.out.mono (fun _ _ h => h.elim))
 have HP3 := hid (HK3.out.heap HP.out id)
 have p0 : w3.cell? ⟨pb, 0, none⟩ = some (.slice (some ⟨g, 0, none⟩) m rc) := by rw [cell_of_row w3 _ _ _ _ _ HP3.out]; rfl
 have pf : w3.frozen? ⟨pb, 0, none⟩ = false := by simp [World.frozen?, HP3.out]
 clear a0 a1 a2 a3 a4 a5 a6 a7 a8 a9 b0 b1 b2 b3 b4 b5 f0 f1 f2 f3 f4 f5 c0 c3 c10 c17
 go_wp2_with fail
 go_big_region
 have Kp : ah (fun x => x = pb) w3 (w3.setCell ⟨pb, 0, none⟩ (.slice (some ⟨g, 0, none⟩) k rc)).drew := (ah.setCell (S := fun x => x = pb) (p := ⟨pb, 0, none⟩) kR (.inl rfl) _).drew
 have HPP := hid (show (w3.setCell ⟨pb, 0, none⟩ (.slice (some ⟨g, 0, none⟩) k rc)).drew.heap[pb]? = some (.cells #[.slice (some ⟨g, 0, none⟩) k rc] 120 (0, 0)) from by show (w3.setCell ⟨pb, 0, none⟩ (.slice (some ⟨g, 0, none⟩) k rc)).heap[pb]? = _; simp [World.setCell, Array.getElem?_modify, HP3.out])
 have HC4 := hid (Kp.heap HC3.out (by have := HPL.out; omega))
 have HK4 := hid ((HK3.out.mono (S' := fun x => x = pb) (fun _ _ h => h.elim)).trans Kp)
 generalize (w3.setCell ⟨pb, 0, none⟩ (.slice (some ⟨g, 0, none⟩) k rc)).drew = w4 at *
 clear p0 pf Kp l1 hk0 hk1
 have c0 := H_c0.out w4 HK4.out
 have c3 := H_c3.out w4 HK4.out
 have c10 := H_c10.out w4 HK4.out
 have c17 := H_c17.out w4 HK4.out
 obtain ⟨⟨b0, b1, b2, b3, b4, b5⟩, f0, f1, f2, f3, f4, f5⟩ := ab HC4.out
 have HKE := hid (HK4.out.join (aq w4 (w.heap.size + 1) (.int .i64 8) (.int .i32 0) (.bool false) (.slice none 0 0) (.string ⟨#[]⟩) (.slice L nl lc)) (fun i hi e => by omega))
 have HPE := hid (dQ HPP.out (show pb ≠ w.heap.size + 1 by have := HPL.out; omega) (.int .i64 8) (.int .i32 0) (.bool false) (.slice none 0 0) (.string ⟨#[]⟩) (.slice L nl lc))
 have HR := hid (ab (aQ HC4.out (.int .i64 8) (.int .i32 0) (.bool false) (.slice none 0 0) (.string ⟨#[]⟩) (.slice L nl lc))).1
 go_wp2_with fail
 refine bodyPost_ret (v := .tuple #[.agg (rwC 8 0 false none 0 0 ⟨#[]⟩ L nl lc), .nilIface]) ?_ rfl ?_
 · obtain ⟨e0, e1, e2, e3, e4, e5⟩ := HR.out
   simp [results, Tryz.results99, go_sem, e0, e1, e2, e3, e4, e5]
 · exact ⟨rfl, HPE.out, HKE.out⟩
def rq (Q : Nat -> Prop) (pb g k rc : Nat) (r : Raw) (w : World) (e : Ending) (w' : World) : Prop := ∃ pd : PV, e = .returned (.tuple #[bT r pd, .nilIface]) /\ au (fun x => Q x \/ w.heap.size <= x) w' r pd /\ w'.heap[pb]? = some (.cells #[.slice (some ⟨g, 0, none⟩) k rc] 120 (0, 0)) /\ ah (fun x => x = pb) w w'
theorem mu (kind at_ en : Int) (sq : Bool) (dk dc : Int) (dneg : Bool) (A : Option Addr) (n cp : Nat) (x : ByteArray) (pb b : Nat) (w : World) (HTOP : Hid (∀ W : World, K0 w W -> Calls Tryz.prog 101 #[.pointer (some ⟨pb, 0, none⟩)] W fun e w' => e = .returned (.pointer (some ⟨b, 0, none⟩)) /\ K0 W w')) (kf df : Int) (sf : Bool) (td : Raw) (tp : PV) (L : Option Addr) (nl lc : Nat) (c0 : w.cell? ⟨b, 0, none⟩ = some (.int .i64 kf)) (c3 : w.cell? ⟨b, 3, none⟩ = some (.bool sf)) (c10 : w.cell? ⟨b, 10, none⟩ = some (.int .i64 df)) (c11 : w.cell? ⟨b, 11, none⟩ = some (.int .i64 td.k)) (c12 : w.cell? ⟨b, 12, none⟩ = some (.int .i32 td.c)) (c13 : w.cell? ⟨b, 13, none⟩ = some (.bool td.neg)) (c14 : w.cell? ⟨b, 14, none⟩ = some (.slice tp.A tp.n tp.cp)) (c15 : w.cell? ⟨b, 15, none⟩ = some (.string td.t)) (c16 : w.cell? ⟨b, 16, none⟩ = some (.slice tp.B tp.m tp.cap)) (c17 : w.cell? ⟨b, 17, none⟩ = some (.slice L nl lc)) (HQ : Hid (∀ W : World, Calls Tryz.prog 102 #[.int .i64 kf] W fun e w' => e = .returned (.string ⟨#[]⟩) /\ w' = W)) (qs : (sf == sq) = true) (qd : (df == 1) = false) (qv : (kf == 3) = false) (g k m rc : Nat) (hp : w.heap[pb]? = some (.cells #[.slice (some ⟨g, 0, none⟩) m rc] 120 (0, 0))) (hm : m = k + 1) (hrc : m <= rc) (hk : k <= 64) (hbp : ¬ b = pb) (items : List Raw) (vs : Nat -> PV) (Q : Nat -> Prop) (HROW : Hid (items.length = nl /\ (0 < nl -> ∃ gl, L = some ⟨gl, 0, none⟩ /\ gl ≠ pb /\ ∀ i (h : i < items.length), dL w gl 0 i items[i] (vs i)))) (HQP : Hid (∀ b, Q b -> b < w.heap.size /\ b ≠ pb)) (HIT : Hid (∀ i (h : i < items.length), au Q w items[i] (vs i))) (HTL : Hid (au Q w td tp)) (hnl : nl <= 100000) : Calls Tryz.prog 99 #[.pointer (some ⟨pb, 0, none⟩), ar kind at_ en sq dk dc dneg A n cp x] w (rq Q pb g k rc (cC items td) w) := by
 have HP := hid hp
 have l1 : IntKind.i64.wrap ((m : Int) - 1) = (k : Int) := by rw [IntWalk.i64_in _ (by omega)]; omega
 have hk0 : (0 : Int) <= (k : Int) := by omega
 have hk1 : (k : Int) <= (rc : Int) := by omega
 have hpl := ao hp
 have HPL := hid hpl
 clear hp hm hrc hk hpl
 have HB := hid (show ((w.alloc (.cells (tkC kind at_ en sq dk dc dneg A n cp x none 0 0) 29)).alloc (.cells (rwC 0 0 false none 0 0 ⟨#[]⟩ none 0 0) 27)).heap[w.heap.size]? = some (.cells (tkC kind at_ en sq dk dc dneg A n cp x none 0 0) 29 (0, 0)) from ac (hN w _) _)
 have HC := hid (show ((w.alloc (.cells (tkC kind at_ en sq dk dc dneg A n cp x none 0 0) 29)).alloc (.cells (rwC 0 0 false none 0 0 ⟨#[]⟩ none 0 0) 27)).heap[w.heap.size + 1]? = some (.cells (rwC 0 0 false none 0 0 ⟨#[]⟩ none 0 0) 27 (0, 0)) from by have := hN (w.alloc (.cells (tkC kind at_ en sq dk dc dneg A n cp x none 0 0) 29)) (.cells (rwC 0 0 false none 0 0 ⟨#[]⟩ none 0 0) 27); rwa [World.size_alloc] at this)
 have HK1 := hid (show K0 w ((w.alloc (.cells (tkC kind at_ en sq dk dc dneg A n cp x none 0 0) 29)).alloc (.cells (rwC 0 0 false none 0 0 ⟨#[]⟩ none 0 0) 27)) from (kR.alloc _).alloc _)
 have l_c0 := bL w _ c0
 have l_c3 := bL w _ c3
 have l_c10 := bL w _ c10
 have l_c11 := bL w _ c11
 have l_c12 := bL w _ c12
 have l_c13 := bL w _ c13
 have l_c14 := bL w _ c14
 have l_c15 := bL w _ c15
 have l_c16 := bL w _ c16
 have l_c17 := bL w _ c17
 have H_c0 := hid (fun (W : World) (K : ah (fun x => x = pb) w W) => (K.cell (p := ⟨b, 0, none⟩) l_c0 hbp).trans c0)
 have H_c3 := hid (fun (W : World) (K : ah (fun x => x = pb) w W) => (K.cell (p := ⟨b, 3, none⟩) l_c3 hbp).trans c3)
 have H_c10 := hid (fun (W : World) (K : ah (fun x => x = pb) w W) => (K.cell (p := ⟨b, 10, none⟩) l_c10 hbp).trans c10)
 have H_c11 := hid (fun (W : World) (K : ah (fun x => x = pb) w W) => (K.cell (p := ⟨b, 11, none⟩) l_c11 hbp).trans c11)
 have H_c12 := hid (fun (W : World) (K : ah (fun x => x = pb) w W) => (K.cell (p := ⟨b, 12, none⟩) l_c12 hbp).trans c12)
 have H_c13 := hid (fun (W : World) (K : ah (fun x => x = pb) w W) => (K.cell (p := ⟨b, 13, none⟩) l_c13 hbp).trans c13)
 have H_c14 := hid (fun (W : World) (K : ah (fun x => x = pb) w W) => (K.cell (p := ⟨b, 14, none⟩) l_c14 hbp).trans c14)
 have H_c15 := hid (fun (W : World) (K : ah (fun x => x = pb) w W) => (K.cell (p := ⟨b, 15, none⟩) l_c15 hbp).trans c15)
 have H_c16 := hid (fun (W : World) (K : ah (fun x => x = pb) w W) => (K.cell (p := ⟨b, 16, none⟩) l_c16 hbp).trans c16)
 have H_c17 := hid (fun (W : World) (K : ah (fun x => x = pb) w W) => (K.cell (p := ⟨b, 17, none⟩) l_c17 hbp).trans c17)
 clear l_c0 l_c3 l_c10 l_c11 l_c12 l_c13 l_c14 l_c15 l_c16 l_c17 c0 c3 c10 c11 c12 c13 c14 c15 c16 c17
 go_enter Tryz.func99, Tryz.ntmps99
 go_wp2_with fail
 refine (HTOP.out _ HK1.out).mono ?_
 rintro e w2 ⟨rfl, k2⟩
 have HB2 := hid (k2.heap HB.out id)
 have HC2 := hid (k2.heap HC.out id)
 have HK2 := hid (HK1.out.trans k2)
 obtain ⟨⟨a0, a1, a2, a3, a4, a5, a6, a7, a8, a9⟩, _⟩ := aa HB2.out
 have c0 := H_c0.out w2 (HK2.out.mono (fun _ _ h => h.elim))
 have c3 := H_c3.out w2 (HK2.out.mono (fun _ _ h => h.elim))
 have c10 := H_c10.out w2 (HK2.out.mono (fun _ _ h => h.elim))
 have c11 := H_c11.out w2 (HK2.out.mono (fun _ _ h => h.elim))
 have c12 := H_c12.out w2 (HK2.out.mono (fun _ _ h => h.elim))
 have c13 := H_c13.out w2 (HK2.out.mono (fun _ _ h => h.elim))
 have c14 := H_c14.out w2 (HK2.out.mono (fun _ _ h => h.elim))
 have c15 := H_c15.out w2 (HK2.out.mono (fun _ _ h => h.elim))
 have c16 := H_c16.out w2 (HK2.out.mono (fun _ _ h => h.elim))
 have c17 := H_c17.out w2 (HK2.out.mono (fun _ _ h => h.elim))
 clear k2
 try dsimp only
 go_wp2_with fail
 go_quiet ((go_at_call 102; exact Calls.quiet_of_same (HQ.out _)))
 have Kq : K0 w2 (w2.drewN nq) := kR.drewN nq
 have HB3 := hid (Kq.heap HB2.out id)
 have HC3 := hid (Kq.heap HC2.out id)
 have HK3 := hid (HK2.out.trans Kq)
 generalize w2.drewN nq = w3 at *
 clear a0 a1 a2 a3 a4 a5 a6 a7 a8 a9
 obtain ⟨⟨a0, a1, a2, a3, a4, a5, a6, a7, a8, a9⟩, _⟩ := aa HB3.out
 obtain ⟨⟨b0, b1, b2, b3, b4, b5⟩, f0, f1, f2, f3, f4, f5⟩ := ab HC3.out
 clear c0
 have c0 := H_c0.out w3 (HK3.out.mono (fun _ _ h => h.elim))
 clear c3
 have c3 := H_c3.out w3 (HK3.out.mono (fun _ _ h => h.elim))
 clear c10
 have c10 := H_c10.out w3 (HK3.out.mono (fun _ _ h => h.elim))
 clear c11
 have c11 := H_c11.out w3 (HK3.out.mono (fun _ _ h => h.elim))
 clear c12
 have c12 := H_c12.out w3 (HK3.out.mono (fun _ _ h => h.elim))
 clear c13
 have c13 := H_c13.out w3 (HK3.out.mono (fun _ _ h => h.elim))
 clear c14
 have c14 := H_c14.out w3 (HK3.out.mono (fun _ _ h => h.elim))
 clear c15
 have c15 := H_c15.out w3 (HK3.out.mono (fun _ _ h => h.elim))
 clear c16
 have c16 := H_c16.out w3 (HK3.out.mono (fun _ _ h => h.elim))
 clear c17
 have c17 := H_c17.out w3 (HK3.out.mono (fun _ _ h => h.elim))
 have HP3 := hid (HK3.out.heap HP.out id)
 have p0 : w3.cell? ⟨pb, 0, none⟩ = some (.slice (some ⟨g, 0, none⟩) m rc) := by rw [cell_of_row w3 _ _ _ _ _ HP3.out]; rfl
 have pf : w3.frozen? ⟨pb, 0, none⟩ = false := by simp [World.frozen?, HP3.out]
 clear a0 a1 a2 a3 a4 a5 a6 a7 a8 a9 b0 b1 b2 b3 b4 b5 f0 f1 f2 f3 f4 f5 c0 c3 c10 c11 c12 c13 c14 c15 c16 c17
 go_wp2_with fail
 go_big_region
 have Kp : ah (fun x => x = pb) w3 (w3.setCell ⟨pb, 0, none⟩ (.slice (some ⟨g, 0, none⟩) k rc)).drew := (ah.setCell (S := fun x => x = pb) (p := ⟨pb, 0, none⟩) kR (.inl rfl) _).drew
 have HPP := hid (show (w3.setCell ⟨pb, 0, none⟩ (.slice (some ⟨g, 0, none⟩) k rc)).drew.heap[pb]? = some (.cells #[.slice (some ⟨g, 0, none⟩) k rc] 120 (0, 0)) from by show (w3.setCell ⟨pb, 0, none⟩ (.slice (some ⟨g, 0, none⟩) k rc)).heap[pb]? = _; simp [World.setCell, Array.getElem?_modify, HP3.out])
 have HC4 := hid (Kp.heap HC3.out (by have := HPL.out; omega))
 have HK4 := hid ((HK3.out.mono (S' := fun x => x = pb) (fun _ _ h => h.elim)).trans Kp)
 generalize (w3.setCell ⟨pb, 0, none⟩ (.slice (some ⟨g, 0, none⟩) k rc)).drew = w4 at *
 clear p0 pf Kp l1 hk0 hk1
 have c0 := H_c0.out w4 HK4.out
 have c3 := H_c3.out w4 HK4.out
 have c10 := H_c10.out w4 HK4.out
 have c11 := H_c11.out w4 HK4.out
 have c12 := H_c12.out w4 HK4.out
 have c13 := H_c13.out w4 HK4.out
 have c14 := H_c14.out w4 HK4.out
 have c15 := H_c15.out w4 HK4.out
 have c16 := H_c16.out w4 HK4.out
 have c17 := H_c17.out w4 HK4.out
 have hnl0 : (0 : Int) <= (nl : Int) := by omega
 have hnl1 : (nl : Int) <= 100000 := by omega
 have HNL := hid hnl
 have l2 : IntKind.i64.wrap ((nl : Int) - 1) = (nl : Int) - 1 := IntWalk.i64_in _ (by omega)
 have HB7 := hid (hN w4 (.cells (rwC td.k td.c td.neg tp.A tp.n tp.cp td.t tp.B tp.m tp.cap) 27))
 have HSZ := hid (ao HC4.out)
 have HC5 := hid (ac HC4.out (.cells (rwC td.k td.c td.neg tp.A tp.n tp.cp td.t tp.B tp.m tp.cap) 27))
 have HPP5 := hid (ac HPP.out (.cells (rwC td.k td.c td.neg tp.A tp.n tp.cp td.t tp.B tp.m tp.cap) 27))
 have HK5 := hid (HK4.out.alloc (.cells (rwC td.k td.c td.neg tp.A tp.n tp.cp td.t tp.B tp.m tp.cap) 27))
 have HCC := hid (show ∀ (r : Raw) (p : PV), au Q w r p -> au (fun x => Q x \/ w4.heap.size < x) (w4.alloc (.cells (rwC td.k td.c td.neg tp.A tp.n tp.cp td.t tp.B tp.m tp.cap) 27)) r p from fun r p h => (h.keep HK5.out (by
  rintro x rfl
  exact ⟨fun hq => (HQP.out _ hq).2 rfl, ax HP.out (by decide)⟩)).mono (fun _ _ => .inl))
 clear hnl
 have c17b := H_c17.out _ HK5.out
 go_wp2_with fail
 generalize hw5 : w4.alloc (.cells (rwC td.k td.c td.neg tp.A tp.n tp.cp td.t tp.B tp.m tp.cap) 27) = w5 at *
 have HW5 := hid hw5
 have HS5 := hid (show w5.heap.size = w4.heap.size + 1 from by rw [<- hw5]; simp)
 clear hw5 c0 c3 c10 c11 c12 c13 c14 c15 c16 c17 l2 c17b
 obtain ⟨B7, hB7⟩ : ∃ B7, B7 = w4.heap.size := ⟨_, rfl⟩
 have HE7 := hid hB7
 rw [<- hB7] at HB7 HSZ HCC HS5 ⊢
 clear hB7
 have HMK := hid (show MkS (fun x => Q x \/ B7 < x) w5 items td items.length B7 td tp w5 from ⟨Nat.le_refl _, by rw [List.drop_of_length_le (Nat.le_refl _)]; rfl, HCC.out _ _ HTL.out, HB7.out, kR⟩)
 go_loopw [8] (fun jv wr => ∃ (j : Nat) (d : Raw) (pd : PV), jv = .int .i64 ((j : Int) - 1) /\ MkS (fun x => Q x \/ B7 < x) w5 items td j B7 d pd wr) (fun jv _ => (intOf jv + 1).toNat)
 case atStart => exact ⟨items.length, td, tp, by rw [HROW.out.1], HMK.out⟩
 case round =>
  obtain ⟨j, d, pd, rfl, hst⟩ := hrel
  have HM := hid hst
  have hle := hst.le
  clear hst HMK
  have HBQ := hid (show B7 < wr.heap.size from ao HM.out.hB)
  have HCq := hid (HM.out.K.heap HC5.out (by have := HSZ.out; omega))
  have HPq := hid (HM.out.K.heap HPP5.out (by have := HSZ.out; have := HPL.out; omega))
  have HKq := hid (HK5.out.join HM.out.K (fun i hi e => by have := HSZ.out; omega))
  cases j with
  | zero =>
   have l3 : decide ((0 : Int) <= ((0 : Nat) : Int) - 1) = false := by decide
   obtain ⟨⟨q0, q1, q2, q3, q4, q5⟩, _⟩ := ab HM.out.hB
   have HDT := hid (show au (fun x => Q x \/ B7 < x) wr (cC items td) pd from by have h1 := HM.out.at_; have h2 := HM.out.eqd; rw [List.drop_zero] at h2; rw [<- h2]; exact h1)
   have HDE := hid (show d = cC items td from by have h2 := HM.out.eqd; rwa [List.drop_zero] at h2)
   obtain ⟨⟨b0, b1, b2, b3, b4, b5⟩, f0, f1, f2, f3, f4, f5⟩ := ab HCq.out
   have HKE := hid (HKq.out.join (aq wr (w.heap.size + 1) (.int .i64 d.k) (.int .i32 d.c) (.bool d.neg) (.slice pd.A pd.n pd.cp) (.string d.t) (.slice pd.B pd.m pd.cap)) (fun i hi e => by omega))
   have HPE := hid (dQ HPq.out (show pb ≠ w.heap.size + 1 by have := HPL.out; omega) (.int .i64 d.k) (.int .i32 d.c) (.bool d.neg) (.slice pd.A pd.n pd.cp) (.string d.t) (.slice pd.B pd.m pd.cap))
   have HR := hid (ab (aQ HCq.out (.int .i64 d.k) (.int .i32 d.c) (.bool d.neg) (.slice pd.A pd.n pd.cp) (.string d.t) (.slice pd.B pd.m pd.cap))).1
   go_wp2_with fail
   refine bodyPost_ret (v := .tuple #[.agg (rwC d.k d.c d.neg pd.A pd.n pd.cp d.t pd.B pd.m pd.cap), .nilIface]) ?_ rfl ?_
   · obtain ⟨e0, e1, e2, e3, e4, e5⟩ := HR.out
     simp [results, Tryz.results99, go_sem, e0, e1, e2, e3, e4, e5]
   · refine ⟨pd, by rw [HDE.out], ?_, HPE.out, HKE.out⟩
     have hs := HSZ.out
     refine (HDT.out.keep (aq wr (w.heap.size + 1) (.int .i64 d.k) (.int .i32 d.c) (.bool d.neg) (.slice pd.A pd.n pd.cp) (.string d.t) (.slice pd.B pd.m pd.cap)) ?_).mono (fun x _ hx => hx.elim .inl (fun h => .inr (by omega)))
     rintro x rfl
     refine ⟨fun hx => ?_, ax HCq.out (by decide)⟩
     rcases hx with hx | hx
     · have := (HQP.out _ hx).1; omega
     · omega
  | succ j =>
   have hj : j < items.length := by omega
   have e1 : (((j + 1 : Nat) : Int) - 1) = (j : Int) := by omega
   rw [e1]
   have l3 : decide ((0 : Int) <= (j : Int)) = true := dT (by omega)
   obtain ⟨gl, eL, hgp, hrow⟩ := HROW.out.2 (by rw [<- HROW.out.1]; omega)
   subst eL
   have c17 : wr.cell? ⟨b, 17, none⟩ = some (.slice (some ⟨gl, 0, none⟩) nl lc) := H_c17.out wr HKq.out
   have hic := ((hrow j hj).keep HK5.out hgp).keep HM.out.K (fun e => by
    have h1 := (hrow j hj).cells.1
    have h2 : gl < w.heap.size := bL w _ h1
    have h3 := HSZ.out
    have e : gl = B7 := e
    omega)
   obtain ⟨y, hy⟩ : ∃ y, y = items[j] := ⟨_, rfl⟩
   obtain ⟨v, hv⟩ : ∃ v, v = vs j := ⟨_, rfl⟩
   have HY := hid (show au (fun x => Q x \/ B7 < x) wr y v from by
    rw [hy, hv]
    exact (HCC.out _ _ (HIT.out j hj)).keep HM.out.K (by rintro x rfl; exact ⟨fun hq => by rcases hq with hq | hq; have := (HQP.out _ hq).1; have := HSZ.out; omega; omega, ax HB7.out (by decide)⟩))
   have HX := hid (show y = items[j] from hy)
   rw [<- hy, <- hv] at hic
   obtain ⟨r0, r1, r2, r3, r4, r5⟩ := hic.cells
   simp only [Nat.zero_add] at r0 r1 r2 r3 r4 r5
   have hj0 : (0 : Int) <= (j : Int) := Int.natCast_nonneg _
   have hj1 : (j : Int) < (nl : Int) := by have := HROW.out.1; omega
   obtain ⟨⟨q0, q1, q2, q3, q4, q5⟩, f0, f1, f2, f3, f4, f5⟩ := ab HM.out.hB
   obtain ⟨⟨z0, z1, z2, z3, z4, z5⟩, y0, y1, y2, y3, y4, y5⟩ := ab (ac HM.out.hB (.cells #[.int .i64 y.k, .int .i32 y.c, .bool y.neg, .slice v.A v.n v.cp, .string y.t, .slice v.B v.m v.cap, .int .i64 d.k, .int .i32 d.c, .bool d.neg, .slice pd.A pd.n pd.cp, .string d.t, .slice pd.B pd.m pd.cap] 27))
   have HNEW := hid (HM.out.step hj HX.out HY.out (fun x hx => .inr (by have := HS5.out; omega)) (fun hq => by rcases hq with hq | hq; have := (HQP.out _ hq).1; have := HSZ.out; omega; omega) (by have := HS5.out; omega))
   clear hic hy hv e1 hrow hgp
   go_wp2_with fail
   go_big_region
   go_wp2_with fail
   go_roundw
   case rel => exact ⟨j, _, _, by go_num, HNEW.out⟩
   case measure => simp only [intOf]; omega
end Go.Proofs.YtonnikipeokkaaaGreatDoor
