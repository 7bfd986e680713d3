import Derived.Test.YtonnikipeokkaaaGreatDoorPrpP
namespace Go.Proofs.YtonnikipeokkaaaGreatDoor
set_option maxRecDepth 100000
set_option maxHeartbeats 8000000
open Go.Lib (hid)
open Go.RowKit Go.Lib
def dW (X : Nat -> Prop) (base pb : Nat) (r : lE) (w : World) (e : Ending) (w' : World) : Prop :=
 match r with
 | .err p c => ∃ v, e = .returned (.tuple #[.agg (rwC 0 0 false none 0 0 ⟨#[]⟩ none 0 0), .bool false, v]) /\ eO w' v p c /\ ah (fun b => base <= b) w w'
 | .cont S => ∃ (fs : List FB) (R : Option Addr) (rc : Nat), fs.map FB.fr = S /\ e = .returned (.tuple #[.agg (rwC 0 0 false none 0 0 ⟨#[]⟩ none 0 0), .bool false, .nilIface]) /\ PS X base pb fs R rc w' /\ ah (fun b => base <= b) w w'
 | .ended S d => ∃ (fs : List FB) (R : Option Addr) (rc : Nat) (pd : PV), fs.map FB.fr = S /\ e = .returned (.tuple #[bT d pd, .bool true, .nilIface]) /\ PS X base pb fs R rc w' /\ cn (dj pb (.slice R fs.length rc) fs X) base w' d pd /\ ah (fun b => base <= b) w w'
section
variable {X : Nat -> Prop} {base pb rc : Nat} {fs : List FB} {R : Option Addr} {w : World}
theorem PS.boxes (h : PS X base pb fs R rc w) {w1 : World} (K : K0 w w1) (hs : w.heap.size + 3 <= w1.heap.size) : PS (fun b => X b \/ (w.heap.size <= b /\ b < w.heap.size + 3)) base pb fs R rc w1 :=
 h.turn K (fun _ e => e.elim) (fun b e => by rcases e with e | e; exact .inl e; exact .inr e.1) (fun b e => by rcases e with e | e; have := h.xlt b e; omega; omega)
theorem PS.unbox {w0 w' : World} (h : PS (fun b => X b \/ (w0.heap.size <= b /\ b < w0.heap.size + 3)) base pb fs R rc w) (K : ah (fun b => b = w0.heap.size + 1) w w') (ht : ¬ eC w (w0.heap.size + 1)) : PS X base pb fs R rc w' :=
 h.turn K (by rintro b rfl; exact ⟨.inr (by omega), ht⟩) (fun b e => .inl (.inl e)) (fun b e => Nat.lt_of_lt_of_le (h.xlt b (.inl e)) K.size)
theorem cn.unbox {w0 w' : World} {d : Raw} {p : PV} {v : Value} (h : cn (dj pb v fs (fun b => X b \/ (w0.heap.size <= b /\ b < w0.heap.size + 3))) base w d p) (K : ah (fun b => b = w0.heap.size + 1) w w') (ht : ¬ eC w (w0.heap.size + 1)) : cn (dj pb v fs X) base w' d p :=
 cn.carry h K (by rintro b rfl; exact ⟨.inr (.inr (.inr (.inr (by omega)))), ht⟩) (fun b _ e => jB .inl e)
end
theorem mb {w : World} {base k s : Nat} {e : TypeId} {v : Value} {xs : List Value} (h : w.ownsRow base e s v (k + 1) xs) : ∃ A c, v = .slice A (k + 1) c := by
 rcases h.2 with ⟨hv, h0⟩ | ⟨g, cap, cur, hv, _⟩
 · omega
 · exact ⟨_, _, hv⟩
theorem qj {X : Nat -> Prop} {base pb rc : Nat} {fs : List FB} {R : Option Addr} {w : World} (h : PS X base pb fs R rc w) (hl : fs.length <= 64) (kind : Int) (j : Nat) (en : Int) (sq : Bool) (dk dc : Int) (dneg : Bool) (A : Option Addr) (n cp : Nat) (x : ByteArray) (q0 : (kind == 0) = true) : Calls Tryz.prog 70 #[.pointer (some ⟨pb, 0, none⟩), ar kind (j : Int) en sq dk dc dneg A n cp x] w (dW X base pb (.err (lo (fs.map FB.fr) j).1 (lo (fs.map FB.fr) j).2) w) := by
 have HB0 := hid (show (((w.alloc (.cells (tkC kind (j : Int) en sq dk dc dneg A n cp x none 0 0) 29)).alloc (.cells (rwC 0 0 false none 0 0 ⟨#[]⟩ none 0 0) 27)).alloc (.cells (rwC 0 0 false none 0 0 ⟨#[]⟩ none 0 0) 27)).heap[w.heap.size]? = some (.cells (tkC kind (j : Int) en sq dk dc dneg A n cp x none 0 0) 29 (0, 0)) from ac (ac (hN w _) _) _)
 have HB1 := hid (show (((w.alloc (.cells (tkC kind (j : Int) en sq dk dc dneg A n cp x none 0 0) 29)).alloc (.cells (rwC 0 0 false none 0 0 ⟨#[]⟩ none 0 0) 27)).alloc (.cells (rwC 0 0 false none 0 0 ⟨#[]⟩ none 0 0) 27)).heap[w.heap.size + 1]? = some (.cells (rwC 0 0 false none 0 0 ⟨#[]⟩ none 0 0) 27 (0, 0)) from ac (by have := hN (w.alloc (.cells (tkC kind (j : Int) en sq dk dc dneg A n cp x none 0 0) 29)) (.cells (rwC 0 0 false none 0 0 ⟨#[]⟩ none 0 0) 27); rwa [World.size_alloc] at this) _)
 have HB2 := hid (show (((w.alloc (.cells (tkC kind (j : Int) en sq dk dc dneg A n cp x none 0 0) 29)).alloc (.cells (rwC 0 0 false none 0 0 ⟨#[]⟩ none 0 0) 27)).alloc (.cells (rwC 0 0 false none 0 0 ⟨#[]⟩ none 0 0) 27)).heap[w.heap.size + 2]? = some (.cells (rwC 0 0 false none 0 0 ⟨#[]⟩ none 0 0) 27 (0, 0)) from by have := hN ((w.alloc (.cells (tkC kind (j : Int) en sq dk dc dneg A n cp x none 0 0) 29)).alloc (.cells (rwC 0 0 false none 0 0 ⟨#[]⟩ none 0 0) 27)) (.cells (rwC 0 0 false none 0 0 ⟨#[]⟩ none 0 0) 27); rwa [World.size_alloc, World.size_alloc] at this)
 have HK1 := hid (show K0 w (((w.alloc (.cells (tkC kind (j : Int) en sq dk dc dneg A n cp x none 0 0) 29)).alloc (.cells (rwC 0 0 false none 0 0 ⟨#[]⟩ none 0 0) 27)).alloc (.cells (rwC 0 0 false none 0 0 ⟨#[]⟩ none 0 0) 27)) from ((kR.alloc _).alloc _).alloc _)
 have HPS := hid (h.boxes HK1.out (by simp))
 have HBW := hid (show base <= w.heap.size from by have := h.lt; omega)
 have HL := hid hl
 clear h hl
 go_enter Tryz.func70, Tryz.ntmps70
 obtain ⟨⟨a0, a1, a2, a3, a4, a5, a6, a7, a8, a9⟩, _⟩ := aa HB0.out
 obtain ⟨⟨z0, z1, z2, z3, z4, z5⟩, _⟩ := ab HB2.out
 go_wp2_with fail
 generalize (((w.alloc (.cells (tkC kind (j : Int) en sq dk dc dneg A n cp x none 0 0) 29)).alloc (.cells (rwC 0 0 false none 0 0 ⟨#[]⟩ none 0 0) 27)).alloc (.cells (rwC 0 0 false none 0 0 ⟨#[]⟩ none 0 0) 27)) = w1 at *
 have HNS1 : ¬ (fun _ : Nat => False) (w.heap.size + 1) := id
 have HNS2 : ¬ (fun _ : Nat => False) (w.heap.size + 2) := id
 have Kd : K0 w1 w1.drew := kR.drew
 go_region_with (go_at_call 97; (with_reducible refine (qO (HPS.out.keep0 Kd) HL.out _ _ _ _ _ _ _ _ _ _ _).mono ?_); rintro e w4 ⟨v, rfl, he, k4⟩; have HB14 := hid (k4.heap (show w1.drew.heap[w.heap.size + 1]? = _ from HB1.out) HNS1); have HB24 := hid (k4.heap (show w1.drew.heap[w.heap.size + 2]? = _ from HB2.out) HNS2); obtain ⟨⟨y0, y1, y2, y3, y4, y5⟩, _⟩ := ab HB24.out; obtain ⟨⟨b0, b1, b2, b3, b4, b5⟩, f0, f1, f2, f3, f4, f5⟩ := ab HB14.out)
 all_goals
  have HB1x := HB14
  have HKE := hid (show ah (fun b => base <= b) w w4 from ((HK1.out.trans Kd).trans k4).mono (fun _ _ e => e.elim))
  have HER := hid (show eO (aE w4 (w.heap.size + 1) (.int .i64 0) (.int .i32 0) (.bool false) (.slice none 0 0) (.string ⟨#[]⟩) (.slice none 0 0)) v _ _ from he.keep (aq _ _ (.int .i64 0) (.int .i32 0) (.bool false) (.slice none 0 0) (.string ⟨#[]⟩) (.slice none 0 0)) (by rintro b Y rfl; rw [HB1x.out]; exact ⟨by simp, by simp⟩))
  clear he k4 Kd
  have HE := hid (HKE.out.trans ((aq w4 (w.heap.size + 1) (.int .i64 0) (.int .i32 0) (.bool false) (.slice none 0 0) (.string ⟨#[]⟩) (.slice none 0 0)).mono (fun b _ e => (show base <= b by rw [show b = w.heap.size + 1 from e]; have := HBW.out; omega))))
  have HS6 := hid (aq w4 (w.heap.size + 1) (.int .i64 0) (.int .i32 0) (.bool false) (.slice none 0 0) (.string ⟨#[]⟩) (.slice none 0 0))
  have HR := hid (ab (aQ HB1x.out (.int .i64 0) (.int .i32 0) (.bool false) (.slice none 0 0) (.string ⟨#[]⟩) (.slice none 0 0))).1
  go_wp2_with fail
  refine bodyPost_ret (v := .tuple #[.agg (rwC 0 0 false none 0 0 ⟨#[]⟩ none 0 0), .bool false, v]) ?_ rfl ?_
  · obtain ⟨e0, e1, e2, e3, e4, e5⟩ := HR.out
    simp [results, Tryz.results70, go_sem, e0, e1, e2, e3, e4, e5]
  · exact ⟨v, rfl, HER.out, HE.out⟩
theorem kA {X : Nat -> Prop} {base pb rc : Nat} {fs : List FB} {R : Option Addr} {w : World} (h : PS X base pb fs R rc w) (hl : fs.length <= 64) (kind : Int) (j : Nat) (en : Int) (sq : Bool) (dk dc : Int) (dneg : Bool) (A : Option Addr) (n cp : Nat) (x : ByteArray) (q0 : (kind == 0) = false) (q8 : (kind == 8) = true) (p c : Nat) (hr : jl (fs.map FB.fr) j = .err p c) : Calls Tryz.prog 70 #[.pointer (some ⟨pb, 0, none⟩), ar kind (j : Int) en sq dk dc dneg A n cp x] w (dW X base pb (.err p c) w) := by
 have HB0 := hid (show (((w.alloc (.cells (tkC kind (j : Int) en sq dk dc dneg A n cp x none 0 0) 29)).alloc (.cells (rwC 0 0 false none 0 0 ⟨#[]⟩ none 0 0) 27)).alloc (.cells (rwC 0 0 false none 0 0 ⟨#[]⟩ none 0 0) 27)).heap[w.heap.size]? = some (.cells (tkC kind (j : Int) en sq dk dc dneg A n cp x none 0 0) 29 (0, 0)) from ac (ac (hN w _) _) _)
 have HB1 := hid (show (((w.alloc (.cells (tkC kind (j : Int) en sq dk dc dneg A n cp x none 0 0) 29)).alloc (.cells (rwC 0 0 false none 0 0 ⟨#[]⟩ none 0 0) 27)).alloc (.cells (rwC 0 0 false none 0 0 ⟨#[]⟩ none 0 0) 27)).heap[w.heap.size + 1]? = some (.cells (rwC 0 0 false none 0 0 ⟨#[]⟩ none 0 0) 27 (0, 0)) from ac (by have := hN (w.alloc (.cells (tkC kind (j : Int) en sq dk dc dneg A n cp x none 0 0) 29)) (.cells (rwC 0 0 false none 0 0 ⟨#[]⟩ none 0 0) 27); rwa [World.size_alloc] at this) _)
 have HB2 := hid (show (((w.alloc (.cells (tkC kind (j : Int) en sq dk dc dneg A n cp x none 0 0) 29)).alloc (.cells (rwC 0 0 false none 0 0 ⟨#[]⟩ none 0 0) 27)).alloc (.cells (rwC 0 0 false none 0 0 ⟨#[]⟩ none 0 0) 27)).heap[w.heap.size + 2]? = some (.cells (rwC 0 0 false none 0 0 ⟨#[]⟩ none 0 0) 27 (0, 0)) from by have := hN ((w.alloc (.cells (tkC kind (j : Int) en sq dk dc dneg A n cp x none 0 0) 29)).alloc (.cells (rwC 0 0 false none 0 0 ⟨#[]⟩ none 0 0) 27)) (.cells (rwC 0 0 false none 0 0 ⟨#[]⟩ none 0 0) 27); rwa [World.size_alloc, World.size_alloc] at this)
 have HK1 := hid (show K0 w (((w.alloc (.cells (tkC kind (j : Int) en sq dk dc dneg A n cp x none 0 0) 29)).alloc (.cells (rwC 0 0 false none 0 0 ⟨#[]⟩ none 0 0) 27)).alloc (.cells (rwC 0 0 false none 0 0 ⟨#[]⟩ none 0 0) 27)) from ((kR.alloc _).alloc _).alloc _)
 have HPS := hid (h.boxes HK1.out (by simp))
 have HBW := hid (show base <= w.heap.size from by have := h.lt; omega)
 have HL := hid hl
 have HC := hid (fun (W : World) (K : K0 (((w.alloc (.cells (tkC kind (j : Int) en sq dk dc dneg A n cp x none 0 0) 29)).alloc (.cells (rwC 0 0 false none 0 0 ⟨#[]⟩ none 0 0) 27)).alloc (.cells (rwC 0 0 false none 0 0 ⟨#[]⟩ none 0 0) 27)) W) => (show Calls Tryz.prog 98 #[.pointer (some ⟨pb, 0, none⟩), ar kind (j : Int) en sq dk dc dneg A n cp x] W (kq (fun b => X b \/ (w.heap.size <= b /\ b < w.heap.size + 3)) base pb R rc fs (.err p c) W) from by have := mV (HPS.out.keep0 K) HL.out kind j en sq dk dc dneg A n cp x; rw [hr] at this; exact this))
 clear hr
 clear h hl
 go_enter Tryz.func70, Tryz.ntmps70
 obtain ⟨⟨a0, a1, a2, a3, a4, a5, a6, a7, a8, a9⟩, _⟩ := aa HB0.out
 obtain ⟨⟨z0, z1, z2, z3, z4, z5⟩, _⟩ := ab HB2.out
 go_wp2_with fail
 generalize (((w.alloc (.cells (tkC kind (j : Int) en sq dk dc dneg A n cp x none 0 0) 29)).alloc (.cells (rwC 0 0 false none 0 0 ⟨#[]⟩ none 0 0) 27)).alloc (.cells (rwC 0 0 false none 0 0 ⟨#[]⟩ none 0 0) 27)) = w1 at *
 have HNS1 : ¬ (fun _ : Nat => False) (w.heap.size + 1) := id
 have HNS2 : ¬ (fun _ : Nat => False) (w.heap.size + 2) := id
 have Kd : K0 w1 w1.drew := kR.drew
 go_region_with (go_at_call 98; (with_reducible refine (HC.out _ Kd).mono ?_); rintro e w4 ⟨v, rfl, he, k4⟩; have HB14 := hid (k4.heap (show w1.drew.heap[w.heap.size + 1]? = _ from HB1.out) HNS1); have HB24 := hid (k4.heap (show w1.drew.heap[w.heap.size + 2]? = _ from HB2.out) HNS2); obtain ⟨⟨y0, y1, y2, y3, y4, y5⟩, _⟩ := ab HB24.out; obtain ⟨⟨b0, b1, b2, b3, b4, b5⟩, f0, f1, f2, f3, f4, f5⟩ := ab HB14.out)
 all_goals
  have HB1x := HB14
  have HKE := hid (show ah (fun b => base <= b) w w4 from ((HK1.out.trans Kd).trans k4).mono (fun _ _ e => e.elim))
  have HER := hid (show eO (aE w4 (w.heap.size + 1) (.int .i64 0) (.int .i32 0) (.bool false) (.slice none 0 0) (.string ⟨#[]⟩) (.slice none 0 0)) v _ _ from he.keep (aq _ _ (.int .i64 0) (.int .i32 0) (.bool false) (.slice none 0 0) (.string ⟨#[]⟩) (.slice none 0 0)) (by rintro b Y rfl; rw [HB1x.out]; exact ⟨by simp, by simp⟩))
  clear he k4 Kd
  have HE := hid (HKE.out.trans ((aq w4 (w.heap.size + 1) (.int .i64 0) (.int .i32 0) (.bool false) (.slice none 0 0) (.string ⟨#[]⟩) (.slice none 0 0)).mono (fun b _ e => (show base <= b by rw [show b = w.heap.size + 1 from e]; have := HBW.out; omega))))
  have HS6 := hid (aq w4 (w.heap.size + 1) (.int .i64 0) (.int .i32 0) (.bool false) (.slice none 0 0) (.string ⟨#[]⟩) (.slice none 0 0))
  have HR := hid (ab (aQ HB1x.out (.int .i64 0) (.int .i32 0) (.bool false) (.slice none 0 0) (.string ⟨#[]⟩) (.slice none 0 0))).1
  go_wp2_with fail
  refine bodyPost_ret (v := .tuple #[.agg (rwC 0 0 false none 0 0 ⟨#[]⟩ none 0 0), .bool false, v]) ?_ rfl ?_
  · obtain ⟨e0, e1, e2, e3, e4, e5⟩ := HR.out
    simp [results, Tryz.results70, go_sem, e0, e1, e2, e3, e4, e5]
  · exact ⟨v, rfl, HER.out, HE.out⟩
theorem lL {X : Nat -> Prop} {base pb rc : Nat} {fs : List FB} {R : Option Addr} {w : World} (h : PS X base pb fs R rc w) (hl : fs.length <= 64) (kind : Int) (j : Nat) (en : Int) (sq : Bool) (dk dc : Int) (dneg : Bool) (A : Option Addr) (n cp : Nat) (x : ByteArray) (q0 : (kind == 0) = false) (q8 : (kind == 8) = true) (S : List Fr) (hr : jl (fs.map FB.fr) j = .cont S) : Calls Tryz.prog 70 #[.pointer (some ⟨pb, 0, none⟩), ar kind (j : Int) en sq dk dc dneg A n cp x] w (dW X base pb (.cont S) w) := by
 have HB0 := hid (show (((w.alloc (.cells (tkC kind (j : Int) en sq dk dc dneg A n cp x none 0 0) 29)).alloc (.cells (rwC 0 0 false none 0 0 ⟨#[]⟩ none 0 0) 27)).alloc (.cells (rwC 0 0 false none 0 0 ⟨#[]⟩ none 0 0) 27)).heap[w.heap.size]? = some (.cells (tkC kind (j : Int) en sq dk dc dneg A n cp x none 0 0) 29 (0, 0)) from ac (ac (hN w _) _) _)
 have HB1 := hid (show (((w.alloc (.cells (tkC kind (j : Int) en sq dk dc dneg A n cp x none 0 0) 29)).alloc (.cells (rwC 0 0 false none 0 0 ⟨#[]⟩ none 0 0) 27)).alloc (.cells (rwC 0 0 false none 0 0 ⟨#[]⟩ none 0 0) 27)).heap[w.heap.size + 1]? = some (.cells (rwC 0 0 false none 0 0 ⟨#[]⟩ none 0 0) 27 (0, 0)) from ac (by have := hN (w.alloc (.cells (tkC kind (j : Int) en sq dk dc dneg A n cp x none 0 0) 29)) (.cells (rwC 0 0 false none 0 0 ⟨#[]⟩ none 0 0) 27); rwa [World.size_alloc] at this) _)
 have HB2 := hid (show (((w.alloc (.cells (tkC kind (j : Int) en sq dk dc dneg A n cp x none 0 0) 29)).alloc (.cells (rwC 0 0 false none 0 0 ⟨#[]⟩ none 0 0) 27)).alloc (.cells (rwC 0 0 false none 0 0 ⟨#[]⟩ none 0 0) 27)).heap[w.heap.size + 2]? = some (.cells (rwC 0 0 false none 0 0 ⟨#[]⟩ none 0 0) 27 (0, 0)) from by have := hN ((w.alloc (.cells (tkC kind (j : Int) en sq dk dc dneg A n cp x none 0 0) 29)).alloc (.cells (rwC 0 0 false none 0 0 ⟨#[]⟩ none 0 0) 27)) (.cells (rwC 0 0 false none 0 0 ⟨#[]⟩ none 0 0) 27); rwa [World.size_alloc, World.size_alloc] at this)
 have HK1 := hid (show K0 w (((w.alloc (.cells (tkC kind (j : Int) en sq dk dc dneg A n cp x none 0 0) 29)).alloc (.cells (rwC 0 0 false none 0 0 ⟨#[]⟩ none 0 0) 27)).alloc (.cells (rwC 0 0 false none 0 0 ⟨#[]⟩ none 0 0) 27)) from ((kR.alloc _).alloc _).alloc _)
 have HPS := hid (h.boxes HK1.out (by simp))
 have HBW := hid (show base <= w.heap.size from by have := h.lt; omega)
 have HL := hid hl
 have HC := hid (fun (W : World) (K : K0 (((w.alloc (.cells (tkC kind (j : Int) en sq dk dc dneg A n cp x none 0 0) 29)).alloc (.cells (rwC 0 0 false none 0 0 ⟨#[]⟩ none 0 0) 27)).alloc (.cells (rwC 0 0 false none 0 0 ⟨#[]⟩ none 0 0) 27)) W) => (show Calls Tryz.prog 98 #[.pointer (some ⟨pb, 0, none⟩), ar kind (j : Int) en sq dk dc dneg A n cp x] W (kq (fun b => X b \/ (w.heap.size <= b /\ b < w.heap.size + 3)) base pb R rc fs (.cont S) W) from by have := mV (HPS.out.keep0 K) HL.out kind j en sq dk dc dneg A n cp x; rw [hr] at this; exact this))
 clear hr
 clear h hl
 go_enter Tryz.func70, Tryz.ntmps70
 obtain ⟨⟨a0, a1, a2, a3, a4, a5, a6, a7, a8, a9⟩, _⟩ := aa HB0.out
 obtain ⟨⟨z0, z1, z2, z3, z4, z5⟩, _⟩ := ab HB2.out
 go_wp2_with fail
 generalize (((w.alloc (.cells (tkC kind (j : Int) en sq dk dc dneg A n cp x none 0 0) 29)).alloc (.cells (rwC 0 0 false none 0 0 ⟨#[]⟩ none 0 0) 27)).alloc (.cells (rwC 0 0 false none 0 0 ⟨#[]⟩ none 0 0) 27)) = w1 at *
 have HNS1 : ¬ ∃ f ∈ fs, f.blks (w.heap.size + 1) := fun ⟨f, hf, e⟩ => (HPS.out.sep _ (.inr (by omega))).2.2 f hf e
 have HNS2 : ¬ ∃ f ∈ fs, f.blks (w.heap.size + 2) := fun ⟨f, hf, e⟩ => (HPS.out.sep _ (.inr (by omega))).2.2 f hf e
 have Kd : K0 w1 w1.drew := kR.drew
 go_region_with (go_at_call 98; (with_reducible refine (HC.out _ Kd).mono ?_); rintro e w4 ⟨rfl, fs2, hfs, hp2, k4⟩; have HB14 := hid (k4.heap (show w1.drew.heap[w.heap.size + 1]? = _ from HB1.out) HNS1); have HB24 := hid (k4.heap (show w1.drew.heap[w.heap.size + 2]? = _ from HB2.out) HNS2); obtain ⟨⟨y0, y1, y2, y3, y4, y5⟩, _⟩ := ab HB24.out; obtain ⟨⟨b0, b1, b2, b3, b4, b5⟩, f0, f1, f2, f3, f4, f5⟩ := ab HB14.out)
 all_goals
  have HB1x := HB14
  have HKE := hid (show ah (fun b => base <= b) w w4 from ((HK1.out.trans Kd).mono (fun _ _ e => e.elim)).trans (k4.mono (fun b _ e => by obtain ⟨f, hf, e⟩ := e; exact (HPS.out.typ hf b e).1)))
  have HP2 := hid hp2
  have HFS := hid hfs
  clear hp2 k4 Kd hfs HNS1 HNS2
  have HE := hid (HKE.out.trans ((aq w4 (w.heap.size + 1) (.int .i64 0) (.int .i32 0) (.bool false) (.slice none 0 0) (.string ⟨#[]⟩) (.slice none 0 0)).mono (fun b _ e => (show base <= b by rw [show b = w.heap.size + 1 from e]; have := HBW.out; omega))))
  have HS6 := hid (aq w4 (w.heap.size + 1) (.int .i64 0) (.int .i32 0) (.bool false) (.slice none 0 0) (.string ⟨#[]⟩) (.slice none 0 0))
  have HR := hid (ab (aQ HB1x.out (.int .i64 0) (.int .i32 0) (.bool false) (.slice none 0 0) (.string ⟨#[]⟩) (.slice none 0 0))).1
  go_wp2_with fail
  refine bodyPost_ret (v := .tuple #[.agg (rwC 0 0 false none 0 0 ⟨#[]⟩ none 0 0), .bool false, .nilIface]) ?_ rfl ?_
  · obtain ⟨e0, e1, e2, e3, e4, e5⟩ := HR.out
    simp [results, Tryz.results70, go_sem, e0, e1, e2, e3, e4, e5]
  · exact ⟨fs2, R, rc, HFS.out, rfl, HP2.out.unbox HS6.out (ax HB1x.out (by decide)), HE.out⟩
theorem jk {X : Nat -> Prop} {base pb rc : Nat} {fs : List FB} {R : Option Addr} {w : World} (h : PS X base pb fs R rc w) (hl : fs.length <= 64) (kind : Int) (j : Nat) (en : Int) (sq : Bool) (dk dc : Int) (dneg : Bool) (A : Option Addr) (n cp : Nat) (x : ByteArray) {a : Int} (hok : okF (fs.map FB.fr) a) (ha : a <= 100000) (q0 : (kind == 0) = false) (q8 : (kind == 8) = false) (q2 : (kind == 2) = true) (p c : Nat) (hr : eN (fs.map FB.fr) j sq = .err p c) : Calls Tryz.prog 70 #[.pointer (some ⟨pb, 0, none⟩), ar kind (j : Int) en sq dk dc dneg A n cp x] w (dW X base pb (.err p c) w) := by
 have HB0 := hid (show (((w.alloc (.cells (tkC kind (j : Int) en sq dk dc dneg A n cp x none 0 0) 29)).alloc (.cells (rwC 0 0 false none 0 0 ⟨#[]⟩ none 0 0) 27)).alloc (.cells (rwC 0 0 false none 0 0 ⟨#[]⟩ none 0 0) 27)).heap[w.heap.size]? = some (.cells (tkC kind (j : Int) en sq dk dc dneg A n cp x none 0 0) 29 (0, 0)) from ac (ac (hN w _) _) _)
 have HB1 := hid (show (((w.alloc (.cells (tkC kind (j : Int) en sq dk dc dneg A n cp x none 0 0) 29)).alloc (.cells (rwC 0 0 false none 0 0 ⟨#[]⟩ none 0 0) 27)).alloc (.cells (rwC 0 0 false none 0 0 ⟨#[]⟩ none 0 0) 27)).heap[w.heap.size + 1]? = some (.cells (rwC 0 0 false none 0 0 ⟨#[]⟩ none 0 0) 27 (0, 0)) from ac (by have := hN (w.alloc (.cells (tkC kind (j : Int) en sq dk dc dneg A n cp x none 0 0) 29)) (.cells (rwC 0 0 false none 0 0 ⟨#[]⟩ none 0 0) 27); rwa [World.size_alloc] at this) _)
 have HB2 := hid (show (((w.alloc (.cells (tkC kind (j : Int) en sq dk dc dneg A n cp x none 0 0) 29)).alloc (.cells (rwC 0 0 false none 0 0 ⟨#[]⟩ none 0 0) 27)).alloc (.cells (rwC 0 0 false none 0 0 ⟨#[]⟩ none 0 0) 27)).heap[w.heap.size + 2]? = some (.cells (rwC 0 0 false none 0 0 ⟨#[]⟩ none 0 0) 27 (0, 0)) from by have := hN ((w.alloc (.cells (tkC kind (j : Int) en sq dk dc dneg A n cp x none 0 0) 29)).alloc (.cells (rwC 0 0 false none 0 0 ⟨#[]⟩ none 0 0) 27)) (.cells (rwC 0 0 false none 0 0 ⟨#[]⟩ none 0 0) 27); rwa [World.size_alloc, World.size_alloc] at this)
 have HK1 := hid (show K0 w (((w.alloc (.cells (tkC kind (j : Int) en sq dk dc dneg A n cp x none 0 0) 29)).alloc (.cells (rwC 0 0 false none 0 0 ⟨#[]⟩ none 0 0) 27)).alloc (.cells (rwC 0 0 false none 0 0 ⟨#[]⟩ none 0 0) 27)) from ((kR.alloc _).alloc _).alloc _)
 have HPS := hid (h.boxes HK1.out (by simp))
 have HBW := hid (show base <= w.heap.size from by have := h.lt; omega)
 have HL := hid hl
 have HC := hid (fun (W : World) (K : K0 (((w.alloc (.cells (tkC kind (j : Int) en sq dk dc dneg A n cp x none 0 0) 29)).alloc (.cells (rwC 0 0 false none 0 0 ⟨#[]⟩ none 0 0) 27)).alloc (.cells (rwC 0 0 false none 0 0 ⟨#[]⟩ none 0 0) 27)) W) => (show Calls Tryz.prog 99 #[.pointer (some ⟨pb, 0, none⟩), ar kind (j : Int) en sq dk dc dneg A n cp x] W (gZ (fun b => X b \/ (w.heap.size <= b /\ b < w.heap.size + 3)) base pb R rc (.err p c) W) from by have := jJ (HPS.out.keep0 K) HL.out hok ha kind j en sq dk dc dneg A n cp x; rw [hr] at this; exact this))
 clear hr hok ha
 clear h hl
 go_enter Tryz.func70, Tryz.ntmps70
 obtain ⟨⟨a0, a1, a2, a3, a4, a5, a6, a7, a8, a9⟩, _⟩ := aa HB0.out
 obtain ⟨⟨z0, z1, z2, z3, z4, z5⟩, _⟩ := ab HB2.out
 go_wp2_with fail
 generalize (((w.alloc (.cells (tkC kind (j : Int) en sq dk dc dneg A n cp x none 0 0) 29)).alloc (.cells (rwC 0 0 false none 0 0 ⟨#[]⟩ none 0 0) 27)).alloc (.cells (rwC 0 0 false none 0 0 ⟨#[]⟩ none 0 0) 27)) = w1 at *
 refine (HC.out _ kR).mono ?_
 rintro e w4 ⟨hc, v, rfl, he, k4⟩
 have HCC := hid hc
 have HB14 := hid (ac (k4.heap HB1.out id) (.cells (rwC 0 0 false none 0 0 ⟨#[]⟩ none 0 0) 27))
 have HKE := hid (show ah (fun b => base <= b) w (w4.alloc (.cells (rwC 0 0 false none 0 0 ⟨#[]⟩ none 0 0) 27)) from ((HK1.out.trans k4).alloc _).mono (fun _ _ e => e.elim))
 have HEN := hid (show eO (w4.alloc (.cells (rwC 0 0 false none 0 0 ⟨#[]⟩ none 0 0) 27)) v p c from by rw [hc]; exact he.keep0 (kR.alloc _))
 obtain ⟨A', B', what, hv, _, _⟩ := he
 subst hv
 obtain ⟨⟨y0, y1, y2, y3, y4, y5⟩, _⟩ := ab (hN w4 (.cells (rwC 0 0 false none 0 0 ⟨#[]⟩ none 0 0) 27))
 have HER := hid (show eO (aE (w4.alloc (.cells (rwC 0 0 false none 0 0 ⟨#[]⟩ none 0 0) 27)) (w.heap.size + 1) (.int .i64 0) (.int .i32 0) (.bool false) (.slice none 0 0) (.string ⟨#[]⟩) (.slice none 0 0)).drew _ _ _ from (HEN.out.keep (aq _ _ (.int .i64 0) (.int .i32 0) (.bool false) (.slice none 0 0) (.string ⟨#[]⟩) (.slice none 0 0)) (by rintro b Y rfl; rw [HB14.out]; exact ⟨by simp, by simp⟩)).keep0 (kR.drew))
 clear k4 hc
 try dsimp only
 go_wp2_with fail
 generalize w4.alloc (.cells (rwC 0 0 false none 0 0 ⟨#[]⟩ none 0 0) 27) = w5 at *
 have HB1x := HB14
 obtain ⟨⟨b0, b1, b2, b3, b4, b5⟩, f0, f1, f2, f3, f4, f5⟩ := ab HB14.out
 go_big_region
 have HE := hid (HKE.out.trans ((aq w5 (w.heap.size + 1) (.int .i64 0) (.int .i32 0) (.bool false) (.slice none 0 0) (.string ⟨#[]⟩) (.slice none 0 0)).mono (fun b _ e => (show base <= b by rw [show b = w.heap.size + 1 from e]; have := HBW.out; omega))))
 have HS6 := hid (aq w5 (w.heap.size + 1) (.int .i64 0) (.int .i32 0) (.bool false) (.slice none 0 0) (.string ⟨#[]⟩) (.slice none 0 0))
 have HR := hid (ab (aQ HB1x.out (.int .i64 0) (.int .i32 0) (.bool false) (.slice none 0 0) (.string ⟨#[]⟩) (.slice none 0 0))).1
 go_wp2_with fail
 refine bodyPost_ret (v := .tuple #[.agg (rwC 0 0 false none 0 0 ⟨#[]⟩ none 0 0), .bool false, .iface 164 (.pointer (some ⟨B', 0, none⟩))]) ?_ rfl ?_
 · obtain ⟨e0, e1, e2, e3, e4, e5⟩ := HR.out
   simp [results, Tryz.results70, go_sem, e0, e1, e2, e3, e4, e5]
 · exact ⟨_, rfl, HER.out, HE.out.drew⟩
theorem jQ {X : Nat -> Prop} {base pb rc : Nat} {fs : List FB} {R : Option Addr} {w : World} (h : PS X base pb fs R rc w) (hl : fs.length <= 64) (kind : Int) (j : Nat) (en : Int) (sq : Bool) (dk dc : Int) (dneg : Bool) (A : Option Addr) (n cp : Nat) (x : ByteArray) {a : Int} (hok : okF (fs.map FB.fr) a) (ha : a <= 100000) (q0 : (kind == 0) = false) (q8 : (kind == 8) = false) (q2 : (kind == 2) = true) (S : List Fr) (d : Raw) (hr : eN (fs.map FB.fr) j sq = .ended S d) : Calls Tryz.prog 70 #[.pointer (some ⟨pb, 0, none⟩), ar kind (j : Int) en sq dk dc dneg A n cp x] w (dW X base pb (.ended S d) w) := by
 have HB0 := hid (show (((w.alloc (.cells (tkC kind (j : Int) en sq dk dc dneg A n cp x none 0 0) 29)).alloc (.cells (rwC 0 0 false none 0 0 ⟨#[]⟩ none 0 0) 27)).alloc (.cells (rwC 0 0 false none 0 0 ⟨#[]⟩ none 0 0) 27)).heap[w.heap.size]? = some (.cells (tkC kind (j : Int) en sq dk dc dneg A n cp x none 0 0) 29 (0, 0)) from ac (ac (hN w _) _) _)
 have HB1 := hid (show (((w.alloc (.cells (tkC kind (j : Int) en sq dk dc dneg A n cp x none 0 0) 29)).alloc (.cells (rwC 0 0 false none 0 0 ⟨#[]⟩ none 0 0) 27)).alloc (.cells (rwC 0 0 false none 0 0 ⟨#[]⟩ none 0 0) 27)).heap[w.heap.size + 1]? = some (.cells (rwC 0 0 false none 0 0 ⟨#[]⟩ none 0 0) 27 (0, 0)) from ac (by have := hN (w.alloc (.cells (tkC kind (j : Int) en sq dk dc dneg A n cp x none 0 0) 29)) (.cells (rwC 0 0 false none 0 0 ⟨#[]⟩ none 0 0) 27); rwa [World.size_alloc] at this) _)
 have HB2 := hid (show (((w.alloc (.cells (tkC kind (j : Int) en sq dk dc dneg A n cp x none 0 0) 29)).alloc (.cells (rwC 0 0 false none 0 0 ⟨#[]⟩ none 0 0) 27)).alloc (.cells (rwC 0 0 false none 0 0 ⟨#[]⟩ none 0 0) 27)).heap[w.heap.size + 2]? = some (.cells (rwC 0 0 false none 0 0 ⟨#[]⟩ none 0 0) 27 (0, 0)) from by have := hN ((w.alloc (.cells (tkC kind (j : Int) en sq dk dc dneg A n cp x none 0 0) 29)).alloc (.cells (rwC 0 0 false none 0 0 ⟨#[]⟩ none 0 0) 27)) (.cells (rwC 0 0 false none 0 0 ⟨#[]⟩ none 0 0) 27); rwa [World.size_alloc, World.size_alloc] at this)
 have HK1 := hid (show K0 w (((w.alloc (.cells (tkC kind (j : Int) en sq dk dc dneg A n cp x none 0 0) 29)).alloc (.cells (rwC 0 0 false none 0 0 ⟨#[]⟩ none 0 0) 27)).alloc (.cells (rwC 0 0 false none 0 0 ⟨#[]⟩ none 0 0) 27)) from ((kR.alloc _).alloc _).alloc _)
 have HPS := hid (h.boxes HK1.out (by simp))
 have HBW := hid (show base <= w.heap.size from by have := h.lt; omega)
 have HL := hid hl
 have HC := hid (fun (W : World) (K : K0 (((w.alloc (.cells (tkC kind (j : Int) en sq dk dc dneg A n cp x none 0 0) 29)).alloc (.cells (rwC 0 0 false none 0 0 ⟨#[]⟩ none 0 0) 27)).alloc (.cells (rwC 0 0 false none 0 0 ⟨#[]⟩ none 0 0) 27)) W) => (show Calls Tryz.prog 99 #[.pointer (some ⟨pb, 0, none⟩), ar kind (j : Int) en sq dk dc dneg A n cp x] W (gZ (fun b => X b \/ (w.heap.size <= b /\ b < w.heap.size + 3)) base pb R rc (.ended S d) W) from by have := jJ (HPS.out.keep0 K) HL.out hok ha kind j en sq dk dc dneg A n cp x; rw [hr] at this; exact this))
 clear hr hok ha
 clear h hl
 go_enter Tryz.func70, Tryz.ntmps70
 obtain ⟨⟨a0, a1, a2, a3, a4, a5, a6, a7, a8, a9⟩, _⟩ := aa HB0.out
 obtain ⟨⟨z0, z1, z2, z3, z4, z5⟩, _⟩ := ab HB2.out
 go_wp2_with fail
 generalize (((w.alloc (.cells (tkC kind (j : Int) en sq dk dc dneg A n cp x none 0 0) 29)).alloc (.cells (rwC 0 0 false none 0 0 ⟨#[]⟩ none 0 0) 27)).alloc (.cells (rwC 0 0 false none 0 0 ⟨#[]⟩ none 0 0) 27)) = w1 at *
 refine (HC.out _ kR).mono ?_
 rintro e w4 ⟨fs2, pd, hfs, rfl, hp2, hd2, k4⟩
 have HFS := hid hfs
 have hpn : ¬ (w.heap.size + 1) = pb := (HPS.out.sep _ (.inr (by omega))).1
 have HB14 := hid (ac (k4.heap HB1.out hpn) (.cells (rwC d.k d.c d.neg pd.A pd.n pd.cp d.t pd.B pd.m pd.cap) 27))
 have HKE := hid (show ah (fun b => base <= b) w (w4.alloc (.cells (rwC d.k d.c d.neg pd.A pd.n pd.cp d.t pd.B pd.m pd.cap) 27)) from ((HK1.out.mono (fun _ _ e => e.elim)).trans (k4.mono (fun b _ e => (show base <= b by rw [show b = pb from e]; exact HPS.out.bp)))).alloc _)
 have HP2 := hid (hp2.keep0 (kR.alloc (.cells (rwC d.k d.c d.neg pd.A pd.n pd.cp d.t pd.B pd.m pd.cap) 27)))
 have HD2 := hid (hd2.keep0 (kR.alloc (.cells (rwC d.k d.c d.neg pd.A pd.n pd.cp d.t pd.B pd.m pd.cap) 27)))
 obtain ⟨⟨y0, y1, y2, y3, y4, y5⟩, _⟩ := ab (hN w4 (.cells (rwC d.k d.c d.neg pd.A pd.n pd.cp d.t pd.B pd.m pd.cap) 27))
 clear k4 hfs hp2 hd2 hpn
 try dsimp only
 go_wp2_with fail
 generalize w4.alloc (.cells (rwC d.k d.c d.neg pd.A pd.n pd.cp d.t pd.B pd.m pd.cap) 27) = w5 at *
 have HB1x := HB14
 obtain ⟨⟨b0, b1, b2, b3, b4, b5⟩, f0, f1, f2, f3, f4, f5⟩ := ab HB14.out
 go_big_region
 have HE := hid (HKE.out.trans ((aq w5 (w.heap.size + 1) (.int .i64 d.k) (.int .i32 d.c) (.bool d.neg) (.slice pd.A pd.n pd.cp) (.string d.t) (.slice pd.B pd.m pd.cap)).mono (fun b _ e => (show base <= b by rw [show b = w.heap.size + 1 from e]; have := HBW.out; omega))))
 have HS6 := hid (aq w5 (w.heap.size + 1) (.int .i64 d.k) (.int .i32 d.c) (.bool d.neg) (.slice pd.A pd.n pd.cp) (.string d.t) (.slice pd.B pd.m pd.cap))
 have HR := hid (ab (aQ HB1x.out (.int .i64 d.k) (.int .i32 d.c) (.bool d.neg) (.slice pd.A pd.n pd.cp) (.string d.t) (.slice pd.B pd.m pd.cap))).1
 go_wp2_with fail
 refine bodyPost_ret (v := .tuple #[.agg (rwC d.k d.c d.neg pd.A pd.n pd.cp d.t pd.B pd.m pd.cap), .bool true, .nilIface]) ?_ rfl ?_
 · obtain ⟨e0, e1, e2, e3, e4, e5⟩ := HR.out
   simp [results, Tryz.results70, go_sem, e0, e1, e2, e3, e4, e5]
 · exact ⟨fs2, R, rc, pd, HFS.out, rfl, (HP2.out.unbox HS6.out (ax HB1x.out (by decide))).keep0 (kR.drew), (cn.unbox HD2.out HS6.out (ax HB1x.out (by decide))).keep0 (kR.drew), HE.out.drew⟩
theorem kB {X : Nat -> Prop} {base pb rc : Nat} {fs : List FB} {R : Option Addr} {w : World} (h : PS X base pb fs R rc w) (hl : fs.length <= 64) (kind : Int) (j : Nat) (en : Int) (sq : Bool) (dk dc : Int) (dneg : Bool) (A : Option Addr) (n cp : Nat) (x : ByteArray) (t : Tk) (hkt : kind = (t.kind : Int)) (q0 : (kind == 0) = false) (q8 : (kind == 8) = false) (q2 : (kind == 2) = false) (c : Nat) (hc : c ≠ 0) (hr : eu (fs.map FB.fr) t = c) : Calls Tryz.prog 70 #[.pointer (some ⟨pb, 0, none⟩), ar kind (j : Int) en sq dk dc dneg A n cp x] w (dW X base pb (.err j c) w) := by
 have HB0 := hid (show (((w.alloc (.cells (tkC kind (j : Int) en sq dk dc dneg A n cp x none 0 0) 29)).alloc (.cells (rwC 0 0 false none 0 0 ⟨#[]⟩ none 0 0) 27)).alloc (.cells (rwC 0 0 false none 0 0 ⟨#[]⟩ none 0 0) 27)).heap[w.heap.size]? = some (.cells (tkC kind (j : Int) en sq dk dc dneg A n cp x none 0 0) 29 (0, 0)) from ac (ac (hN w _) _) _)
 have HB1 := hid (show (((w.alloc (.cells (tkC kind (j : Int) en sq dk dc dneg A n cp x none 0 0) 29)).alloc (.cells (rwC 0 0 false none 0 0 ⟨#[]⟩ none 0 0) 27)).alloc (.cells (rwC 0 0 false none 0 0 ⟨#[]⟩ none 0 0) 27)).heap[w.heap.size + 1]? = some (.cells (rwC 0 0 false none 0 0 ⟨#[]⟩ none 0 0) 27 (0, 0)) from ac (by have := hN (w.alloc (.cells (tkC kind (j : Int) en sq dk dc dneg A n cp x none 0 0) 29)) (.cells (rwC 0 0 false none 0 0 ⟨#[]⟩ none 0 0) 27); rwa [World.size_alloc] at this) _)
 have HB2 := hid (show (((w.alloc (.cells (tkC kind (j : Int) en sq dk dc dneg A n cp x none 0 0) 29)).alloc (.cells (rwC 0 0 false none 0 0 ⟨#[]⟩ none 0 0) 27)).alloc (.cells (rwC 0 0 false none 0 0 ⟨#[]⟩ none 0 0) 27)).heap[w.heap.size + 2]? = some (.cells (rwC 0 0 false none 0 0 ⟨#[]⟩ none 0 0) 27 (0, 0)) from by have := hN ((w.alloc (.cells (tkC kind (j : Int) en sq dk dc dneg A n cp x none 0 0) 29)).alloc (.cells (rwC 0 0 false none 0 0 ⟨#[]⟩ none 0 0) 27)) (.cells (rwC 0 0 false none 0 0 ⟨#[]⟩ none 0 0) 27); rwa [World.size_alloc, World.size_alloc] at this)
 have HK1 := hid (show K0 w (((w.alloc (.cells (tkC kind (j : Int) en sq dk dc dneg A n cp x none 0 0) 29)).alloc (.cells (rwC 0 0 false none 0 0 ⟨#[]⟩ none 0 0) 27)).alloc (.cells (rwC 0 0 false none 0 0 ⟨#[]⟩ none 0 0) 27)) from ((kR.alloc _).alloc _).alloc _)
 have HPS := hid (h.boxes HK1.out (by simp))
 have HBW := hid (show base <= w.heap.size from by have := h.lt; omega)
 have HL := hid hl
 have HC := hid (fun (W : World) (K : K0 (((w.alloc (.cells (tkC kind (j : Int) en sq dk dc dneg A n cp x none 0 0) 29)).alloc (.cells (rwC 0 0 false none 0 0 ⟨#[]⟩ none 0 0) 27)).alloc (.cells (rwC 0 0 false none 0 0 ⟨#[]⟩ none 0 0) 27)) W) => (show Calls Tryz.prog 100 #[.pointer (some ⟨pb, 0, none⟩), ar kind (j : Int) en sq dk dc dneg A n cp x] W (dA (c) (j : Int) W) from by have := gA (HPS.out.keep0 K) HL.out t (j : Int) en sq dk dc dneg A n cp x; rw [hr, <- hkt] at this; exact this))
 clear hr hkt
 clear h hl
 go_enter Tryz.func70, Tryz.ntmps70
 obtain ⟨⟨a0, a1, a2, a3, a4, a5, a6, a7, a8, a9⟩, _⟩ := aa HB0.out
 obtain ⟨⟨z0, z1, z2, z3, z4, z5⟩, _⟩ := ab HB2.out
 go_wp2_with fail
 generalize (((w.alloc (.cells (tkC kind (j : Int) en sq dk dc dneg A n cp x none 0 0) 29)).alloc (.cells (rwC 0 0 false none 0 0 ⟨#[]⟩ none 0 0) 27)).alloc (.cells (rwC 0 0 false none 0 0 ⟨#[]⟩ none 0 0) 27)) = w1 at *
 refine (HC.out _ kR).mono ?_
 intro e w4 hres
 unfold dA at hres
 rw [if_neg hc] at hres
 obtain ⟨v, rfl, he, k4⟩ := hres
 have HB14 := hid (k4.heap HB1.out id)
 have HB24 := hid (k4.heap HB2.out id)
 have HKE := hid (show ah (fun b => base <= b) w w4 from (HK1.out.trans k4).mono (fun _ _ e => e.elim))
 have HEN := hid he
 obtain ⟨A', B', what, hv, _, _⟩ := he
 subst hv
 have HB1x := HB14
 have HER := hid (show eO (aE w4 (w.heap.size + 1) (.int .i64 0) (.int .i32 0) (.bool false) (.slice none 0 0) (.string ⟨#[]⟩) (.slice none 0 0)) _ _ _ from HEN.out.keep (aq _ _ (.int .i64 0) (.int .i32 0) (.bool false) (.slice none 0 0) (.string ⟨#[]⟩) (.slice none 0 0)) (by rintro b Y rfl; rw [HB14.out]; exact ⟨by simp, by simp⟩))
 clear k4 z0 z1 z2 z3 z4 z5 hc
 obtain ⟨⟨z0, z1, z2, z3, z4, z5⟩, _⟩ := ab HB24.out
 obtain ⟨⟨b0, b1, b2, b3, b4, b5⟩, f0, f1, f2, f3, f4, f5⟩ := ab HB14.out
 have HE := hid (HKE.out.trans ((aq w4 (w.heap.size + 1) (.int .i64 0) (.int .i32 0) (.bool false) (.slice none 0 0) (.string ⟨#[]⟩) (.slice none 0 0)).mono (fun b _ e => (show base <= b by rw [show b = w.heap.size + 1 from e]; have := HBW.out; omega))))
 have HS6 := hid (aq w4 (w.heap.size + 1) (.int .i64 0) (.int .i32 0) (.bool false) (.slice none 0 0) (.string ⟨#[]⟩) (.slice none 0 0))
 have HR := hid (ab (aQ HB1x.out (.int .i64 0) (.int .i32 0) (.bool false) (.slice none 0 0) (.string ⟨#[]⟩) (.slice none 0 0))).1
 go_wp2_with fail
 refine bodyPost_ret (v := .tuple #[.agg (rwC 0 0 false none 0 0 ⟨#[]⟩ none 0 0), .bool false, .iface 164 (.pointer (some ⟨B', 0, none⟩))]) ?_ rfl ?_
 · obtain ⟨e0, e1, e2, e3, e4, e5⟩ := HR.out
   simp [results, Tryz.results70, go_sem, e0, e1, e2, e3, e4, e5]
 · exact ⟨_, rfl, HER.out, HE.out⟩
theorem nm {X : Nat -> Prop} {base pb rc : Nat} {fs : List FB} {R : Option Addr} {w : World} (h : PS X base pb fs R rc w) (hl : fs.length <= 64) (kind : Int) (j : Nat) (en : Int) (sq : Bool) (dk dc : Int) (dneg : Bool) (A : Option Addr) (n cp : Nat) (x : ByteArray) (t : Tk) (hkt : kind = (t.kind : Int)) (q0 : (kind == 0) = false) (q8 : (kind == 8) = false) (q2 : (kind == 2) = false) (q9 : (kind == 9) = true) (hr : eu (fs.map FB.fr) t = 0) (hlf : cz w t.d dk dc dneg A n cp x) : Calls Tryz.prog 70 #[.pointer (some ⟨pb, 0, none⟩), ar kind (j : Int) en sq dk dc dneg A n cp x] w (dW X base pb (.ended (fs.map FB.fr) (bB t.d)) w) := by
 have HB0 := hid (show (((w.alloc (.cells (tkC kind (j : Int) en sq dk dc dneg A n cp x none 0 0) 29)).alloc (.cells (rwC 0 0 false none 0 0 ⟨#[]⟩ none 0 0) 27)).alloc (.cells (rwC 0 0 false none 0 0 ⟨#[]⟩ none 0 0) 27)).heap[w.heap.size]? = some (.cells (tkC kind (j : Int) en sq dk dc dneg A n cp x none 0 0) 29 (0, 0)) from ac (ac (hN w _) _) _)
 have HB1 := hid (show (((w.alloc (.cells (tkC kind (j : Int) en sq dk dc dneg A n cp x none 0 0) 29)).alloc (.cells (rwC 0 0 false none 0 0 ⟨#[]⟩ none 0 0) 27)).alloc (.cells (rwC 0 0 false none 0 0 ⟨#[]⟩ none 0 0) 27)).heap[w.heap.size + 1]? = some (.cells (rwC 0 0 false none 0 0 ⟨#[]⟩ none 0 0) 27 (0, 0)) from ac (by have := hN (w.alloc (.cells (tkC kind (j : Int) en sq dk dc dneg A n cp x none 0 0) 29)) (.cells (rwC 0 0 false none 0 0 ⟨#[]⟩ none 0 0) 27); rwa [World.size_alloc] at this) _)
 have HB2 := hid (show (((w.alloc (.cells (tkC kind (j : Int) en sq dk dc dneg A n cp x none 0 0) 29)).alloc (.cells (rwC 0 0 false none 0 0 ⟨#[]⟩ none 0 0) 27)).alloc (.cells (rwC 0 0 false none 0 0 ⟨#[]⟩ none 0 0) 27)).heap[w.heap.size + 2]? = some (.cells (rwC 0 0 false none 0 0 ⟨#[]⟩ none 0 0) 27 (0, 0)) from by have := hN ((w.alloc (.cells (tkC kind (j : Int) en sq dk dc dneg A n cp x none 0 0) 29)).alloc (.cells (rwC 0 0 false none 0 0 ⟨#[]⟩ none 0 0) 27)) (.cells (rwC 0 0 false none 0 0 ⟨#[]⟩ none 0 0) 27); rwa [World.size_alloc, World.size_alloc] at this)
 have HK1 := hid (show K0 w (((w.alloc (.cells (tkC kind (j : Int) en sq dk dc dneg A n cp x none 0 0) 29)).alloc (.cells (rwC 0 0 false none 0 0 ⟨#[]⟩ none 0 0) 27)).alloc (.cells (rwC 0 0 false none 0 0 ⟨#[]⟩ none 0 0) 27)) from ((kR.alloc _).alloc _).alloc _)
 have HPS := hid (h.boxes HK1.out (by simp))
 have HBW := hid (show base <= w.heap.size from by have := h.lt; omega)
 have HL := hid hl
 have HC := hid (fun (W : World) (K : K0 (((w.alloc (.cells (tkC kind (j : Int) en sq dk dc dneg A n cp x none 0 0) 29)).alloc (.cells (rwC 0 0 false none 0 0 ⟨#[]⟩ none 0 0) 27)).alloc (.cells (rwC 0 0 false none 0 0 ⟨#[]⟩ none 0 0) 27)) W) => (show Calls Tryz.prog 100 #[.pointer (some ⟨pb, 0, none⟩), ar kind (j : Int) en sq dk dc dneg A n cp x] W (dA (0) (j : Int) W) from by have := gA (HPS.out.keep0 K) HL.out t (j : Int) en sq dk dc dneg A n cp x; rw [hr, <- hkt] at this; exact this))
 clear hr hkt
 have HLF := hid hlf
 clear hlf
 clear h hl
 go_enter Tryz.func70, Tryz.ntmps70
 obtain ⟨⟨a0, a1, a2, a3, a4, a5, a6, a7, a8, a9⟩, _⟩ := aa HB0.out
 obtain ⟨⟨z0, z1, z2, z3, z4, z5⟩, _⟩ := ab HB2.out
 go_wp2_with fail
 generalize (((w.alloc (.cells (tkC kind (j : Int) en sq dk dc dneg A n cp x none 0 0) 29)).alloc (.cells (rwC 0 0 false none 0 0 ⟨#[]⟩ none 0 0) 27)).alloc (.cells (rwC 0 0 false none 0 0 ⟨#[]⟩ none 0 0) 27)) = w1 at *
 refine (HC.out _ kR).mono ?_
 intro e w4 hres
 unfold dA at hres
 rw [if_pos rfl] at hres
 obtain ⟨rfl, k4⟩ := hres
 have HB04 := hid (k4.heap HB0.out id)
 have HB14 := hid (k4.heap HB1.out id)
 have HB24 := hid (k4.heap HB2.out id)
 have HK4 := hid (HK1.out.trans k4)
 have HP4 := hid (HPS.out.keep0 k4)
 clear k4 z0 z1 z2 z3 z4 z5 a0 a1 a2 a3 a4 a5 a6 a7 a8 a9
 obtain ⟨⟨a0, a1, a2, a3, a4, a5, a6, a7, a8, a9⟩, _⟩ := aa HB04.out
 obtain ⟨⟨z0, z1, z2, z3, z4, z5⟩, _⟩ := ab HB24.out
 obtain ⟨⟨b0, b1, b2, b3, b4, b5⟩, f0, f1, f2, f3, f4, f5⟩ := ab HB14.out
 have HB1x := HB14
 have HKE := hid (show ah (fun b => base <= b) w w4 from HK4.out.mono (fun _ _ e => e.elim))
 have HLF4 := hid (au.leaf (P := fun b => base <= b /\ ¬ dj pb (.slice R fs.length rc) fs (fun b => X b \/ (w.heap.size <= b /\ b < w.heap.size + 3)) b) (HLF.out.keep HK4.out))
 have HE := hid (HKE.out.trans ((aq w4 (w.heap.size + 1) (.int .i64 dk) (.int .i32 dc) (.bool dneg) (.slice A n cp) (.string x) (.slice none 0 0)).mono (fun b _ e => (show base <= b by rw [show b = w.heap.size + 1 from e]; have := HBW.out; omega))))
 have HS6 := hid (aq w4 (w.heap.size + 1) (.int .i64 dk) (.int .i32 dc) (.bool dneg) (.slice A n cp) (.string x) (.slice none 0 0))
 have HR := hid (ab (aQ HB1x.out (.int .i64 dk) (.int .i32 dc) (.bool dneg) (.slice A n cp) (.string x) (.slice none 0 0))).1
 go_wp2_with fail
 refine bodyPost_ret (v := .tuple #[.agg (rwC dk dc dneg A n cp x none 0 0), .bool true, .nilIface]) ?_ rfl ?_
 · obtain ⟨e0, e1, e2, e3, e4, e5⟩ := HR.out
   simp [results, Tryz.results70, go_sem, e0, e1, e2, e3, e4, e5]
 · obtain ⟨hl, ek, ec, en2, et⟩ := HLF4.out
   exact ⟨fs, R, rc, ⟨A, n, cp, none, 0, 0⟩, rfl, by rw [ek, ec, en2, et], HP4.out.unbox HS6.out (ax HB1x.out (by decide)), cn.unbox hl HS6.out (ax HB1x.out (by decide)), HE.out⟩
theorem qK : (Tryz.prog.info? 171).map (fun i => (i.zero, i.size, i.bytes)) = some (some (.pointer none), 1, 8) := by kernel_rfl
theorem oy {X : Nat -> Prop} {base pb rc : Nat} {fs : List FB} {R : Option Addr} {w : World} (h : PS X base pb fs R rc w) (hl : fs.length <= 64) (kind : Int) (j : Nat) (en : Int) (sq : Bool) (dk dc : Int) (dneg : Bool) (A : Option Addr) (n cp : Nat) (x : ByteArray) (t : Tk) (hkt : kind = (t.kind : Int)) (q0 : (kind == 0) = false) (q8 : (kind == 8) = false) (q2 : (kind == 2) = false) (q9 : (kind == 9) = false) (hr : eu (fs.map FB.fr) t = 0) : Calls Tryz.prog 70 #[.pointer (some ⟨pb, 0, none⟩), ar kind (j : Int) en sq dk dc dneg A n cp x] w (dW X base pb (.cont (⟨t.kind, j, sq, 0, .nil, []⟩ :: fs.map FB.fr)) w) := by
 obtain ⟨i171, h171, hy0, hy1, hy2⟩ := info_parts qK
 have HKT := hid hkt
 have HB0 := hid (show (((w.alloc (.cells (tkC kind (j : Int) en sq dk dc dneg A n cp x none 0 0) 29)).alloc (.cells (rwC 0 0 false none 0 0 ⟨#[]⟩ none 0 0) 27)).alloc (.cells (rwC 0 0 false none 0 0 ⟨#[]⟩ none 0 0) 27)).heap[w.heap.size]? = some (.cells (tkC kind (j : Int) en sq dk dc dneg A n cp x none 0 0) 29 (0, 0)) from ac (ac (hN w _) _) _)
 have HB1 := hid (show (((w.alloc (.cells (tkC kind (j : Int) en sq dk dc dneg A n cp x none 0 0) 29)).alloc (.cells (rwC 0 0 false none 0 0 ⟨#[]⟩ none 0 0) 27)).alloc (.cells (rwC 0 0 false none 0 0 ⟨#[]⟩ none 0 0) 27)).heap[w.heap.size + 1]? = some (.cells (rwC 0 0 false none 0 0 ⟨#[]⟩ none 0 0) 27 (0, 0)) from ac (by have := hN (w.alloc (.cells (tkC kind (j : Int) en sq dk dc dneg A n cp x none 0 0) 29)) (.cells (rwC 0 0 false none 0 0 ⟨#[]⟩ none 0 0) 27); rwa [World.size_alloc] at this) _)
 have HB2 := hid (show (((w.alloc (.cells (tkC kind (j : Int) en sq dk dc dneg A n cp x none 0 0) 29)).alloc (.cells (rwC 0 0 false none 0 0 ⟨#[]⟩ none 0 0) 27)).alloc (.cells (rwC 0 0 false none 0 0 ⟨#[]⟩ none 0 0) 27)).heap[w.heap.size + 2]? = some (.cells (rwC 0 0 false none 0 0 ⟨#[]⟩ none 0 0) 27 (0, 0)) from by have := hN ((w.alloc (.cells (tkC kind (j : Int) en sq dk dc dneg A n cp x none 0 0) 29)).alloc (.cells (rwC 0 0 false none 0 0 ⟨#[]⟩ none 0 0) 27)) (.cells (rwC 0 0 false none 0 0 ⟨#[]⟩ none 0 0) 27); rwa [World.size_alloc, World.size_alloc] at this)
 have HK1 := hid (show K0 w (((w.alloc (.cells (tkC kind (j : Int) en sq dk dc dneg A n cp x none 0 0) 29)).alloc (.cells (rwC 0 0 false none 0 0 ⟨#[]⟩ none 0 0) 27)).alloc (.cells (rwC 0 0 false none 0 0 ⟨#[]⟩ none 0 0) 27)) from ((kR.alloc _).alloc _).alloc _)
 have HPS := hid (h.boxes HK1.out (by simp))
 have HBW := hid (show base <= w.heap.size from by have := h.lt; omega)
 have HL := hid hl
 have HC := hid (fun (W : World) (K : K0 (((w.alloc (.cells (tkC kind (j : Int) en sq dk dc dneg A n cp x none 0 0) 29)).alloc (.cells (rwC 0 0 false none 0 0 ⟨#[]⟩ none 0 0) 27)).alloc (.cells (rwC 0 0 false none 0 0 ⟨#[]⟩ none 0 0) 27)) W) => (show Calls Tryz.prog 100 #[.pointer (some ⟨pb, 0, none⟩), ar kind (j : Int) en sq dk dc dneg A n cp x] W (dA (0) (j : Int) W) from by have := gA (HPS.out.keep0 K) HL.out t (j : Int) en sq dk dc dneg A n cp x; rw [hr, <- hkt] at this; exact this))
 clear hr hkt
 clear h hl
 go_enter Tryz.func70, Tryz.ntmps70
 obtain ⟨⟨a0, a1, a2, a3, a4, a5, a6, a7, a8, a9⟩, _⟩ := aa HB0.out
 obtain ⟨⟨z0, z1, z2, z3, z4, z5⟩, _⟩ := ab HB2.out
 go_wp2_with fail
 generalize (((w.alloc (.cells (tkC kind (j : Int) en sq dk dc dneg A n cp x none 0 0) 29)).alloc (.cells (rwC 0 0 false none 0 0 ⟨#[]⟩ none 0 0) 27)).alloc (.cells (rwC 0 0 false none 0 0 ⟨#[]⟩ none 0 0) 27)) = w1 at *
 refine (HC.out _ kR).mono ?_
 intro e w4 hres
 unfold dA at hres
 rw [if_pos rfl] at hres
 obtain ⟨rfl, k4⟩ := hres
 have HB04 := hid (k4.heap HB0.out id)
 have HB14 := hid (k4.heap HB1.out id)
 have HB24 := hid (k4.heap HB2.out id)
 have HK4 := hid (HK1.out.trans k4)
 have HP4 := hid (HPS.out.keep0 k4)
 clear k4 z0 z1 z2 z3 z4 z5 a0 a1 a2 a3 a4 a5 a6 a7 a8 a9
 obtain ⟨⟨a0, a1, a2, a3, a4, a5, a6, a7, a8, a9⟩, _⟩ := aa HB04.out
 obtain ⟨⟨z0, z1, z2, z3, z4, z5⟩, _⟩ := ab HB24.out
 obtain ⟨⟨b0, b1, b2, b3, b4, b5⟩, f0, f1, f2, f3, f4, f5⟩ := ab HB14.out
 have hlen := HL.out
 obtain ⟨m, hm⟩ : ∃ m, m = fs.length := ⟨_, rfl⟩
 rw [<- hm] at hlen
 have p0 : w4.cell? ⟨pb, 0, none⟩ = some (.slice R m rc) := by rw [hm]; exact HP4.out.pcell
 have HM := hid hm
 clear hm
 have HOWN := hid (show ((w4.alloc (.cells #[.int .i64 kind, .int .i64 (j : Int), .int .i64 en, .bool sq, .int .i64 dk, .int .i32 dc, .bool dneg, .slice A n cp, .string x, .slice none 0 0, .int .i64 0, .int .i64 0, .int .i32 0, .bool false, .slice none 0 0, .string ⟨#[]⟩, .slice none 0 0, .slice none 0 0] 173)).alloc (.cells #[.pointer (some ⟨w4.heap.size, 0, none⟩)] 171)).ownsRow base 171 1 (.slice R m rc) m (fs.reverse.map FB.ptr) from by rw [HM.out]; exact (HP4.out.row.alloc _).alloc _)
 have HNEW := hid (show ∀ i u, ([.pointer (some ⟨w4.heap.size, 0, none⟩)] : List Value)[i]? = some u -> ((w4.alloc (.cells #[.int .i64 kind, .int .i64 (j : Int), .int .i64 en, .bool sq, .int .i64 dk, .int .i32 dc, .bool dneg, .slice A n cp, .string x, .slice none 0 0, .int .i64 0, .int .i64 0, .int .i32 0, .bool false, .slice none 0 0, .string ⟨#[]⟩, .slice none 0 0, .slice none 0 0] 173)).alloc (.cells #[.pointer (some ⟨w4.heap.size, 0, none⟩)] 171)).cell? ((⟨w4.heap.size + 1, 0, none⟩ : Addr).add i) = some u from fun i u hu => by
  match i, hu with
  | 0, hu =>
   have hb := hN (w4.alloc (.cells #[.int .i64 kind, .int .i64 (j : Int), .int .i64 en, .bool sq, .int .i64 dk, .int .i32 dc, .bool dneg, .slice A n cp, .string x, .slice none 0 0, .int .i64 0, .int .i64 0, .int .i32 0, .bool false, .slice none 0 0, .string ⟨#[]⟩, .slice none 0 0, .slice none 0 0] 173)) (.cells #[.pointer (some ⟨w4.heap.size, 0, none⟩)] 171)
   rw [World.size_alloc] at hb
   rw [show ((⟨w4.heap.size + 1, 0, none⟩ : Addr).add 0) = ⟨w4.heap.size + 1, 0, none⟩ from rfl, cell_of_row _ _ _ _ _ _ hb]
   exact hu
  | i + 1, hu => simp at hu)
 have HONE := hid (show ∀ u ∈ ([.pointer (some ⟨w4.heap.size, 0, none⟩)] : List Value), u.oneCell' = true from by intro u hu; simp only [List.mem_cons, List.not_mem_nil, or_false] at hu; rw [hu]; rfl)
 have HBS := hid (show base <= ((w4.alloc (.cells #[.int .i64 kind, .int .i64 (j : Int), .int .i64 en, .bool sq, .int .i64 dk, .int .i32 dc, .bool dneg, .slice A n cp, .string x, .slice none 0 0, .int .i64 0, .int .i64 0, .int .i32 0, .bool false, .slice none 0 0, .string ⟨#[]⟩, .slice none 0 0, .slice none 0 0] 173)).alloc (.cells #[.pointer (some ⟨w4.heap.size, 0, none⟩)] 171)).heap.size from by have := HP4.out.lt; simp; omega)
 have HLAY := hid (fun (w5 : World) (K : ah (fun b => (Value.slice R m rc).ownBlock = some b) w4 w5) => (show w5.cell? ⟨pb, 0, none⟩ = some (.slice R m rc) /\ w5.frozen? ⟨pb, 0, none⟩ = false /\ w5.heap[pb]? = some (.cells #[.slice R m rc] 120 (0, 0)) from by
  have h := K.heap HP4.out.hp (fun e => by
   have e : (Value.slice R m rc).ownBlock = some pb := e
   rw [HM.out] at e
   obtain ⟨_, Y, hY⟩ := bC HP4.out.row _ e
   exact absurd (cQ hY HP4.out.hp) (by decide))
  rw [<- HM.out] at h
  exact ⟨by rw [cell_of_row w5 _ _ _ _ _ h]; rfl, by simp [World.frozen?, h], h⟩))
 have lpb := ao HP4.out.hp
 have p0b : (w4.alloc (.cells #[.int .i64 kind, .int .i64 (j : Int), .int .i64 en, .bool sq, .int .i64 dk, .int .i32 dc, .bool dneg, .slice A n cp, .string x, .slice none 0 0, .int .i64 0, .int .i64 0, .int .i32 0, .bool false, .slice none 0 0, .string ⟨#[]⟩, .slice none 0 0, .slice none 0 0] 173)).cell? ⟨pb, 0, none⟩ = some (.slice R m rc) := by rw [World.cell?_alloc_lt _ _ ⟨pb, 0, none⟩ lpb]; exact p0
 have p0c : ((w4.alloc (.cells #[.int .i64 kind, .int .i64 (j : Int), .int .i64 en, .bool sq, .int .i64 dk, .int .i32 dc, .bool dneg, .slice A n cp, .string x, .slice none 0 0, .int .i64 0, .int .i64 0, .int .i32 0, .bool false, .slice none 0 0, .string ⟨#[]⟩, .slice none 0 0, .slice none 0 0] 173)).alloc (.cells #[.pointer (some ⟨w4.heap.size, 0, none⟩)] 171)).cell? ⟨pb, 0, none⟩ = some (.slice R m rc) := by rw [World.cell?_alloc_lt _ _ ⟨pb, 0, none⟩ (by simp; omega)]; exact p0b
 go_wp2_with fail
 go_region_law (refine d9 rfl (.tmp 53) (.tmp 57) 118 rfl base 171 i171 (.pointer none) 1 8 Tryz.underlying118 h171 hy0 hy1 hy2 rfl (by decide) (.slice R m rc) m _ (by rfl) (by exact HOWN.out) ⟨w4.heap.size + 1, 0, none⟩ 1 1 [.pointer (some ⟨w4.heap.size, 0, none⟩)] (by rfl) (by rfl) (by exact HNEW.out) HONE.out (by unfold maxLen; omega) (by omega) (by exact HBS.out) ?_; intro v1 w5 hown hgrow hblk; obtain ⟨A', c', rfl⟩ := mb hown; have K5 : ah (fun b => (Value.slice R m rc).ownBlock = some b) w4 w5 := ((((ah.refl (fun _ => False) w4).alloc (.cells #[.int .i64 kind, .int .i64 (j : Int), .int .i64 en, .bool sq, .int .i64 dk, .int .i32 dc, .bool dneg, .slice A n cp, .string x, .slice none 0 0, .int .i64 0, .int .i64 0, .int .i32 0, .bool false, .slice none 0 0, .string ⟨#[]⟩, .slice none 0 0, .slice none 0 0] 173)).alloc (.cells #[.pointer (some ⟨w4.heap.size, 0, none⟩)] 171)).drew.mono (fun _ _ h => h.elim)).grown hgrow (fun k hk => .inl hk); obtain ⟨q0, q1, q2⟩ := HLAY.out w5 K5; have HQ2 := hid q2; have HK5 := hid K5; have HOWN5 := hid hown; have HGR := hid hgrow; have HBLK := hid hblk; clear K5 hown hgrow hblk q2)
 all_goals
  have hm := HM.out
  subst hm
  have hp5 := HQ2.out
  have KG : ah (fun b => (Value.slice R fs.length rc).ownBlock = some b) w4 w5 := HK5.out
  have K : ah (fun b => b = pb \/ (Value.slice R fs.length rc).ownBlock = some b) w4 (w5.setCell ⟨pb, 0, none⟩ (.slice A' (fs.length + 1) c')) := ah.setCell (S := fun b => b = pb \/ (Value.slice R fs.length rc).ownBlock = some b) (p := ⟨pb, 0, none⟩) (KG.mono (fun _ _ e => .inr e)) (.inl (.inl rfl)) _
  have K3 : ah (fun b => b = pb) w5 (w5.setCell ⟨pb, 0, none⟩ (.slice A' (fs.length + 1) c')) := ah.setCell (S := fun b => b = pb) (p := ⟨pb, 0, none⟩) kR (.inl rfl) _
  have hrl : ∀ b, (Value.slice R fs.length rc).ownBlock = some b -> b < w4.heap.size := fun b e => by
   obtain ⟨_, Y, hY⟩ := bC HP4.out.row _ e
   exact ao hY
  have hpl := ao HP4.out.hp
  have hop : w5.heap[w4.heap.size]? = some (.cells #[.int .i64 kind, .int .i64 (j : Int), .int .i64 en, .bool sq, .int .i64 dk, .int .i32 dc, .bool dneg, .slice A n cp, .string x, .slice none 0 0, .int .i64 0, .int .i64 0, .int .i32 0, .bool false, .slice none 0 0, .string ⟨#[]⟩, .slice none 0 0, .slice none 0 0] 173 (0, 0)) := by
   have h1 := HGR.out.block w4.heap.size (by simp; omega) (fun e => by have := hrl _ e.symm; omega)
   rw [h1]
   exact ac (hN w4 _) _
  have hPS := PS.push (R' := A') (rc' := c') HP4.out ⟨⟨t.kind, j, sq, 0, .nil, []⟩, w4.heap.size, en, .int .i64 dk, .int .i32 dc, .bool dneg, .slice A n cp, .string x, .slice none 0 0, PV.none, [], none, 0⟩ K (Nat.le_refl _)
   (by rw [HKT.out] at hop; exact K3.heap hop (show ¬ w4.heap.size = pb by omega)) rfl rfl rfl rfl rfl rfl (by simp [World.setCell, Array.getElem?_modify, hp5])
   (fA (by rw [List.reverse_cons, List.map_append]; exact HOWN5.out) K3 (fun b hb e => by
    have e : b = pb := e
    subst e
    obtain ⟨_, Y, hY⟩ := bC HOWN5.out _ hb
    exact absurd (cQ hY hp5) (by decide)))
   (fun b hb => by
    rcases HBLK.out with e | e
    · exact .inl (by rw [<- e]; exact hb)
    · right
      have e3 := hb.symm.trans e
      injection e3 with e3
      rw [e3]; simp; omega)
  have HPS5 := hid hPS
  have hnx : ∀ i, i < 3 -> ¬ (w.heap.size + i = pb \/ (Value.slice R fs.length rc).ownBlock = some (w.heap.size + i)) := fun i hi e => by
   have hs := HP4.out.sep (w.heap.size + i) (.inr (by omega))
   rcases e with e | e
   · exact hs.1 e
   · exact hs.2.1 e
  have HB15 := hid (K.heap HB14.out (hnx 1 (by omega)))
  have HB25 := hid (K.heap HB24.out (hnx 2 (by omega)))
  have HKE := hid (show ah (fun b => base <= b) w (w5.setCell ⟨pb, 0, none⟩ (.slice A' (fs.length + 1) c')) from (HK4.out.mono (fun _ _ e => e.elim)).trans (K.mono (fun b _ e => by
   rcases e with e | e
   · rw [e]; exact HP4.out.bp
   · exact (bC HP4.out.row _ e).1)))
  have HB1x := HB15
  clear hnx hPS hop hrl hpl K K3 KG hp5 z0 z1 z2 z3 z4 z5 b0 b1 b2 b3 b4 b5 f0 f1 f2 f3 f4 f5 p0 p0b p0c q0 q1 lpb a0 a1 a2 a3 a4 a5 a6 a7 a8 a9
  generalize (w5.setCell ⟨pb, 0, none⟩ (.slice A' (fs.length + 1) c')) = w6 at *
  obtain ⟨⟨z0, z1, z2, z3, z4, z5⟩, _⟩ := ab HB25.out
  obtain ⟨⟨b0, b1, b2, b3, b4, b5⟩, f0, f1, f2, f3, f4, f5⟩ := ab HB15.out
  have HE := hid (HKE.out.trans ((aq w6 (w.heap.size + 1) (.int .i64 0) (.int .i32 0) (.bool false) (.slice none 0 0) (.string ⟨#[]⟩) (.slice none 0 0)).mono (fun b _ e => (show base <= b by rw [show b = w.heap.size + 1 from e]; have := HBW.out; omega))))
  have HS6 := hid (aq w6 (w.heap.size + 1) (.int .i64 0) (.int .i32 0) (.bool false) (.slice none 0 0) (.string ⟨#[]⟩) (.slice none 0 0))
  have HR := hid (ab (aQ HB1x.out (.int .i64 0) (.int .i32 0) (.bool false) (.slice none 0 0) (.string ⟨#[]⟩) (.slice none 0 0))).1
  go_wp2_with fail
  refine bodyPost_ret (v := .tuple #[.agg (rwC 0 0 false none 0 0 ⟨#[]⟩ none 0 0), .bool false, .nilIface]) ?_ rfl ?_
  · obtain ⟨e0, e1, e2, e3, e4, e5⟩ := HR.out
    simp [results, Tryz.results70, go_sem, e0, e1, e2, e3, e4, e5]
  · exact ⟨_, _, _, rfl, rfl, HPS5.out.unbox HS6.out (ax HB1x.out (by decide)), HE.out⟩
end Go.Proofs.YtonnikipeokkaaaGreatDoor
