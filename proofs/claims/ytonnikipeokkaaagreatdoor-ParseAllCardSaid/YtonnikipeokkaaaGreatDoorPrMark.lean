/- The document's reading: from, at a mark. -/
import Derived.Test.YtonnikipeokkaaaGreatDoorPaDoc
import Derived.IntWalk
namespace Go.Proofs.YtonnikipeokkaaaGreatDoor
set_option maxRecDepth 100000
set_option maxHeartbeats 4000000
open Go.Lib (hid)
open Go.RowKit Go.Lib
theorem po (s : ByteArray) (kind at_ en : Int) (sq : Bool) (k c : Int) (neg : Bool) (A : Option Addr) (n cp : Nat) (x : ByteArray) (deep : Int) (w : World) (q0 : (kind == 9) = false) (q1 : (deep == 64) = false) (q2 : (kind == 1) = false) (q3 : (kind == 3) = false) (q cc : Nat) (HNX : Hid (∀ W : World, K0 w W -> Calls Tryz.prog 14 #[.string s, .int .i64 en] W (aJ (.error (q, cc)) W))) (q4 : ((cc : Int) != 0) = true) : Calls Tryz.prog 44 #[.string s, ar kind at_ en sq k c neg A n cp x, .int .i64 deep] w (bd (.error (q, cc)) w) := by
 have HB4 := hid (show ((((w.alloc (.cells (tkC kind at_ en sq k c neg A n cp x none 0 0) 29)).alloc (.cells (gtC 0 0 false none 0 0 ⟨#[]⟩ none 0 0 0 0 0) 43))).alloc (.cells #[.string ⟨#[113, 117, 111, 116, 101]⟩, .string ⟨#[113, 117, 97, 115, 105, 113, 117, 111, 116, 101]⟩, .string ⟨#[117, 110, 113, 117, 111, 116, 101]⟩, .string ⟨#[117, 110, 113, 117, 111, 116, 101, 45, 115, 112, 108, 105, 99, 105, 110, 103]⟩] 9)).heap[w.heap.size]? = some (.cells (tkC kind at_ en sq k c neg A n cp x none 0 0) 29 (0, 0)) from ac (ac (hN w _) _) _)
 have HB6 := hid (show ((((w.alloc (.cells (tkC kind at_ en sq k c neg A n cp x none 0 0) 29)).alloc (.cells (gtC 0 0 false none 0 0 ⟨#[]⟩ none 0 0 0 0 0) 43))).alloc (.cells #[.string ⟨#[113, 117, 111, 116, 101]⟩, .string ⟨#[113, 117, 97, 115, 105, 113, 117, 111, 116, 101]⟩, .string ⟨#[117, 110, 113, 117, 111, 116, 101]⟩, .string ⟨#[117, 110, 113, 117, 111, 116, 101, 45, 115, 112, 108, 105, 99, 105, 110, 103]⟩] 9)).heap[w.heap.size + 1]? = some (.cells (gtC 0 0 false none 0 0 ⟨#[]⟩ none 0 0 0 0 0) 43 (0, 0)) from ac (by have := hN (w.alloc (.cells (tkC kind at_ en sq k c neg A n cp x none 0 0) 29)) (.cells (gtC 0 0 false none 0 0 ⟨#[]⟩ none 0 0 0 0 0) 43); rwa [World.size_alloc] at this) _)
 have HB7 := hid (show ((((w.alloc (.cells (tkC kind at_ en sq k c neg A n cp x none 0 0) 29)).alloc (.cells (gtC 0 0 false none 0 0 ⟨#[]⟩ none 0 0 0 0 0) 43))).alloc (.cells #[.string ⟨#[113, 117, 111, 116, 101]⟩, .string ⟨#[113, 117, 97, 115, 105, 113, 117, 111, 116, 101]⟩, .string ⟨#[117, 110, 113, 117, 111, 116, 101]⟩, .string ⟨#[117, 110, 113, 117, 111, 116, 101, 45, 115, 112, 108, 105, 99, 105, 110, 103]⟩] 9)).heap[w.heap.size + 2]? = some (.cells #[.string ⟨#[113, 117, 111, 116, 101]⟩, .string ⟨#[113, 117, 97, 115, 105, 113, 117, 111, 116, 101]⟩, .string ⟨#[117, 110, 113, 117, 111, 116, 101]⟩, .string ⟨#[117, 110, 113, 117, 111, 116, 101, 45, 115, 112, 108, 105, 99, 105, 110, 103]⟩] 9 (0, 0)) from by have := hN ((w.alloc (.cells (tkC kind at_ en sq k c neg A n cp x none 0 0) 29)).alloc (.cells (gtC 0 0 false none 0 0 ⟨#[]⟩ none 0 0 0 0 0) 43)) (.cells #[.string ⟨#[113, 117, 111, 116, 101]⟩, .string ⟨#[113, 117, 97, 115, 105, 113, 117, 111, 116, 101]⟩, .string ⟨#[117, 110, 113, 117, 111, 116, 101]⟩, .string ⟨#[117, 110, 113, 117, 111, 116, 101, 45, 115, 112, 108, 105, 99, 105, 110, 103]⟩] 9); rwa [World.size_alloc, World.size_alloc] at this)
 have HK1 := hid (show K0 w ((((w.alloc (.cells (tkC kind at_ en sq k c neg A n cp x none 0 0) 29)).alloc (.cells (gtC 0 0 false none 0 0 ⟨#[]⟩ none 0 0 0 0 0) 43))).alloc (.cells #[.string ⟨#[113, 117, 111, 116, 101]⟩, .string ⟨#[113, 117, 97, 115, 105, 113, 117, 111, 116, 101]⟩, .string ⟨#[117, 110, 113, 117, 111, 116, 101]⟩, .string ⟨#[117, 110, 113, 117, 111, 116, 101, 45, 115, 112, 108, 105, 99, 105, 110, 103]⟩] 9)) from ((kR.alloc _).alloc _).alloc _)
 obtain ⟨⟨a0, a1, a2, a3, a4, a5, a6, a7, a8, a9⟩, _⟩ := aa HB4.out
 go_enter Tryz.func44, Tryz.ntmps44
 go_wp2_with fail
 refine (HNX.out _ HK1.out).mono ?_
 rintro e w2 ⟨rfl, k2⟩
 have HB42 := hid (ac (k2.heap HB4.out id) (.cells (tkC 0 0 0 false 0 0 false none 0 0 ⟨#[]⟩ none 0 0) 29))
 have HB62 := hid (ac (k2.heap HB6.out id) (.cells (tkC 0 0 0 false 0 0 false none 0 0 ⟨#[]⟩ none 0 0) 29))
 have HB72 := hid (ac (k2.heap HB7.out id) (.cells (tkC 0 0 0 false 0 0 false none 0 0 ⟨#[]⟩ none 0 0) 29))
 have HB8 := hid (hN w2 (.cells (tkC 0 0 0 false 0 0 false none 0 0 ⟨#[]⟩ none 0 0) 29))
 have HK2 := hid ((HK1.out.trans k2).alloc (.cells (tkC 0 0 0 false 0 0 false none 0 0 ⟨#[]⟩ none 0 0) 29))
 clear k2 a0 a1 a2 a3 a4 a5 a6 a7 a8 a9
 try dsimp only
 go_wp2_with fail
 refine (bD (q : Int) (cc : Int) _).mono ?_
 rintro e w5 ⟨rfl, k5⟩
 have HB65 := hid (k5.heap HB62.out id)
 have HK5 := hid (HK2.out.trans k5)
 clear k5
 obtain ⟨⟨z0, z1, z2, z3, z4, z5, z6, z7, z8⟩, y0, y1, y2, y3, y4, y5, y6, y7, y8⟩ := aj HB65.out
 have HE := hid (aB HK5.out (show w.heap.size <= w.heap.size + 1 by omega) (.int .i64 0) (.int .i32 0) (.bool false) (.slice none 0 0) (.string ⟨#[]⟩) (.slice none 0 0) (.int .i64 0) (.int .i64 (q : Int)) (.int .i64 (cc : Int)))
 have HR := hid (aj (aM HB65.out (.int .i64 0) (.int .i32 0) (.bool false) (.slice none 0 0) (.string ⟨#[]⟩) (.slice none 0 0) (.int .i64 0) (.int .i64 (q : Int)) (.int .i64 (cc : Int)))).1
 try dsimp only
 go_wp2_with fail
 refine bodyPost_ret (v := .agg (gtC 0 0 false none 0 0 ⟨#[]⟩ none 0 0 0 (q : Int) (cc : Int))) ?_ rfl ?_
 · obtain ⟨e0, e1, e2, e3, e4, e5, e6, e7, e8⟩ := HR.out
   simp [results, Tryz.results44, go_sem, e0, e1, e2, e3, e4, e5, e6, e7, e8]
 · exact ⟨rfl, HE.out⟩
theorem pr (s : ByteArray) (kind at_ en : Int) (sq : Bool) (k c : Int) (neg : Bool) (A : Option Addr) (n cp : Nat) (x : ByteArray) (deep : Int) (w : World) (q0 : (kind == 9) = false) (q1 : (deep == 64) = false) (q2 : (kind == 1) = false) (q3 : (kind == 3) = false) (ja : Nat) (hja : at_ = (ja : Int)) (j : Nat) (u : Tk) (HNX : Hid (∀ W : World, K0 w W -> Calls Tryz.prog 14 #[.string s, .int .i64 en] W (aJ (.ok (j, u)) W))) (hu : u.kind = 0) : Calls Tryz.prog 44 #[.string s, ar kind at_ en sq k c neg A n cp x, .int .i64 deep] w (bd (.error (ja, 11)) w) := by
 have HJA := hid hja
 clear hja
 have HB4 := hid (show ((((w.alloc (.cells (tkC kind at_ en sq k c neg A n cp x none 0 0) 29)).alloc (.cells (gtC 0 0 false none 0 0 ⟨#[]⟩ none 0 0 0 0 0) 43))).alloc (.cells #[.string ⟨#[113, 117, 111, 116, 101]⟩, .string ⟨#[113, 117, 97, 115, 105, 113, 117, 111, 116, 101]⟩, .string ⟨#[117, 110, 113, 117, 111, 116, 101]⟩, .string ⟨#[117, 110, 113, 117, 111, 116, 101, 45, 115, 112, 108, 105, 99, 105, 110, 103]⟩] 9)).heap[w.heap.size]? = some (.cells (tkC kind at_ en sq k c neg A n cp x none 0 0) 29 (0, 0)) from ac (ac (hN w _) _) _)
 have HB6 := hid (show ((((w.alloc (.cells (tkC kind at_ en sq k c neg A n cp x none 0 0) 29)).alloc (.cells (gtC 0 0 false none 0 0 ⟨#[]⟩ none 0 0 0 0 0) 43))).alloc (.cells #[.string ⟨#[113, 117, 111, 116, 101]⟩, .string ⟨#[113, 117, 97, 115, 105, 113, 117, 111, 116, 101]⟩, .string ⟨#[117, 110, 113, 117, 111, 116, 101]⟩, .string ⟨#[117, 110, 113, 117, 111, 116, 101, 45, 115, 112, 108, 105, 99, 105, 110, 103]⟩] 9)).heap[w.heap.size + 1]? = some (.cells (gtC 0 0 false none 0 0 ⟨#[]⟩ none 0 0 0 0 0) 43 (0, 0)) from ac (by have := hN (w.alloc (.cells (tkC kind at_ en sq k c neg A n cp x none 0 0) 29)) (.cells (gtC 0 0 false none 0 0 ⟨#[]⟩ none 0 0 0 0 0) 43); rwa [World.size_alloc] at this) _)
 have HB7 := hid (show ((((w.alloc (.cells (tkC kind at_ en sq k c neg A n cp x none 0 0) 29)).alloc (.cells (gtC 0 0 false none 0 0 ⟨#[]⟩ none 0 0 0 0 0) 43))).alloc (.cells #[.string ⟨#[113, 117, 111, 116, 101]⟩, .string ⟨#[113, 117, 97, 115, 105, 113, 117, 111, 116, 101]⟩, .string ⟨#[117, 110, 113, 117, 111, 116, 101]⟩, .string ⟨#[117, 110, 113, 117, 111, 116, 101, 45, 115, 112, 108, 105, 99, 105, 110, 103]⟩] 9)).heap[w.heap.size + 2]? = some (.cells #[.string ⟨#[113, 117, 111, 116, 101]⟩, .string ⟨#[113, 117, 97, 115, 105, 113, 117, 111, 116, 101]⟩, .string ⟨#[117, 110, 113, 117, 111, 116, 101]⟩, .string ⟨#[117, 110, 113, 117, 111, 116, 101, 45, 115, 112, 108, 105, 99, 105, 110, 103]⟩] 9 (0, 0)) from by have := hN ((w.alloc (.cells (tkC kind at_ en sq k c neg A n cp x none 0 0) 29)).alloc (.cells (gtC 0 0 false none 0 0 ⟨#[]⟩ none 0 0 0 0 0) 43)) (.cells #[.string ⟨#[113, 117, 111, 116, 101]⟩, .string ⟨#[113, 117, 97, 115, 105, 113, 117, 111, 116, 101]⟩, .string ⟨#[117, 110, 113, 117, 111, 116, 101]⟩, .string ⟨#[117, 110, 113, 117, 111, 116, 101, 45, 115, 112, 108, 105, 99, 105, 110, 103]⟩] 9); rwa [World.size_alloc, World.size_alloc] at this)
 have HK1 := hid (show K0 w ((((w.alloc (.cells (tkC kind at_ en sq k c neg A n cp x none 0 0) 29)).alloc (.cells (gtC 0 0 false none 0 0 ⟨#[]⟩ none 0 0 0 0 0) 43))).alloc (.cells #[.string ⟨#[113, 117, 111, 116, 101]⟩, .string ⟨#[113, 117, 97, 115, 105, 113, 117, 111, 116, 101]⟩, .string ⟨#[117, 110, 113, 117, 111, 116, 101]⟩, .string ⟨#[117, 110, 113, 117, 111, 116, 101, 45, 115, 112, 108, 105, 99, 105, 110, 103]⟩] 9)) from ((kR.alloc _).alloc _).alloc _)
 obtain ⟨⟨a0, a1, a2, a3, a4, a5, a6, a7, a8, a9⟩, _⟩ := aa HB4.out
 go_enter Tryz.func44, Tryz.ntmps44
 go_wp2_with fail
 refine (HNX.out _ HK1.out).mono ?_
 intro e w2 hres
 obtain ⟨dk, dc, dneg, A2, n2, cp2, x2, he, hlf, k2⟩ := hres
 obtain ⟨uk, huk⟩ : ∃ z : Int, z = (u.kind : Int) := ⟨_, rfl⟩
 obtain ⟨ua, hua⟩ : ∃ z : Int, z = (j : Int) := ⟨_, rfl⟩
 obtain ⟨ue, hue⟩ : ∃ z : Int, z = ((j + u.len : Nat) : Int) := ⟨_, rfl⟩
 obtain ⟨uq, huq⟩ : ∃ z : Bool, z = u.sq := ⟨_, rfl⟩
 rw [<- huk, <- hua, <- hue, <- huq] at he
 subst he
 have p2 : (uk == 0) = true := by rw [huk, hu]; rfl
 have HUA := hid hua
 have HB42 := hid (ac (k2.heap HB4.out id) (.cells (tkC uk ua ue uq dk dc dneg A2 n2 cp2 x2 none 0 0) 29))
 have HB62 := hid (ac (k2.heap HB6.out id) (.cells (tkC uk ua ue uq dk dc dneg A2 n2 cp2 x2 none 0 0) 29))
 have HB72 := hid (ac (k2.heap HB7.out id) (.cells (tkC uk ua ue uq dk dc dneg A2 n2 cp2 x2 none 0 0) 29))
 have HB8 := hid (hN w2 (.cells (tkC uk ua ue uq dk dc dneg A2 n2 cp2 x2 none 0 0) 29))
 have HK2 := hid ((HK1.out.trans k2).alloc (.cells (tkC uk ua ue uq dk dc dneg A2 n2 cp2 x2 none 0 0) 29))
 clear k2 a0 a1 a2 a3 a4 a5 a6 a7 a8 a9
 obtain ⟨⟨b0, b1, b2, b3, b4, b5, b6, b7, b8, b9⟩, _⟩ := aa HB8.out
 obtain ⟨⟨a0, a1, a2, a3, a4, a5, a6, a7, a8, a9⟩, _⟩ := aa HB42.out
 clear huk hua hue huq hu hlf
 try dsimp only
 go_wp2_with fail
 refine (bD at_ 11 _).mono ?_
 rintro e w5 ⟨rfl, k5⟩
 have HB65 := hid (k5.heap HB62.out id)
 have HK5 := hid (HK2.out.trans k5)
 clear k5
 obtain ⟨⟨z0, z1, z2, z3, z4, z5, z6, z7, z8⟩, y0, y1, y2, y3, y4, y5, y6, y7, y8⟩ := aj HB65.out
 have HE := hid (aB HK5.out (show w.heap.size <= w.heap.size + 1 by omega) (.int .i64 0) (.int .i32 0) (.bool false) (.slice none 0 0) (.string ⟨#[]⟩) (.slice none 0 0) (.int .i64 0) (.int .i64 at_) (.int .i64 11))
 have HR := hid (aj (aM HB65.out (.int .i64 0) (.int .i32 0) (.bool false) (.slice none 0 0) (.string ⟨#[]⟩) (.slice none 0 0) (.int .i64 0) (.int .i64 at_) (.int .i64 11))).1
 try dsimp only
 go_wp2_with fail
 refine bodyPost_ret (v := .agg (gtC 0 0 false none 0 0 ⟨#[]⟩ none 0 0 0 at_ 11)) ?_ rfl ?_
 · obtain ⟨e0, e1, e2, e3, e4, e5, e6, e7, e8⟩ := HR.out
   simp [results, Tryz.results44, go_sem, e0, e1, e2, e3, e4, e5, e6, e7, e8]
 · exact ⟨by rw [HJA.out]; rfl, HE.out⟩
theorem nK (s : ByteArray) (kind at_ en : Int) (sq : Bool) (k c : Int) (neg : Bool) (A : Option Addr) (n cp : Nat) (x : ByteArray) (deep : Int) (w : World) (q0 : (kind == 9) = false) (q1 : (deep == 64) = false) (q2 : (kind == 1) = false) (q3 : (kind == 3) = false)  (j : Nat) (u : Tk) (HNX : Hid (∀ W : World, K0 w W -> Calls Tryz.prog 14 #[.string s, .int .i64 en] W (aJ (.ok (j, u)) W))) (hu : u.kind = 2) : Calls Tryz.prog 44 #[.string s, ar kind at_ en sq k c neg A n cp x, .int .i64 deep] w (bd (.error (j, 9)) w) := by
 have HB4 := hid (show ((((w.alloc (.cells (tkC kind at_ en sq k c neg A n cp x none 0 0) 29)).alloc (.cells (gtC 0 0 false none 0 0 ⟨#[]⟩ none 0 0 0 0 0) 43))).alloc (.cells #[.string ⟨#[113, 117, 111, 116, 101]⟩, .string ⟨#[113, 117, 97, 115, 105, 113, 117, 111, 116, 101]⟩, .string ⟨#[117, 110, 113, 117, 111, 116, 101]⟩, .string ⟨#[117, 110, 113, 117, 111, 116, 101, 45, 115, 112, 108, 105, 99, 105, 110, 103]⟩] 9)).heap[w.heap.size]? = some (.cells (tkC kind at_ en sq k c neg A n cp x none 0 0) 29 (0, 0)) from ac (ac (hN w _) _) _)
 have HB6 := hid (show ((((w.alloc (.cells (tkC kind at_ en sq k c neg A n cp x none 0 0) 29)).alloc (.cells (gtC 0 0 false none 0 0 ⟨#[]⟩ none 0 0 0 0 0) 43))).alloc (.cells #[.string ⟨#[113, 117, 111, 116, 101]⟩, .string ⟨#[113, 117, 97, 115, 105, 113, 117, 111, 116, 101]⟩, .string ⟨#[117, 110, 113, 117, 111, 116, 101]⟩, .string ⟨#[117, 110, 113, 117, 111, 116, 101, 45, 115, 112, 108, 105, 99, 105, 110, 103]⟩] 9)).heap[w.heap.size + 1]? = some (.cells (gtC 0 0 false none 0 0 ⟨#[]⟩ none 0 0 0 0 0) 43 (0, 0)) from ac (by have := hN (w.alloc (.cells (tkC kind at_ en sq k c neg A n cp x none 0 0) 29)) (.cells (gtC 0 0 false none 0 0 ⟨#[]⟩ none 0 0 0 0 0) 43); rwa [World.size_alloc] at this) _)
 have HB7 := hid (show ((((w.alloc (.cells (tkC kind at_ en sq k c neg A n cp x none 0 0) 29)).alloc (.cells (gtC 0 0 false none 0 0 ⟨#[]⟩ none 0 0 0 0 0) 43))).alloc (.cells #[.string ⟨#[113, 117, 111, 116, 101]⟩, .string ⟨#[113, 117, 97, 115, 105, 113, 117, 111, 116, 101]⟩, .string ⟨#[117, 110, 113, 117, 111, 116, 101]⟩, .string ⟨#[117, 110, 113, 117, 111, 116, 101, 45, 115, 112, 108, 105, 99, 105, 110, 103]⟩] 9)).heap[w.heap.size + 2]? = some (.cells #[.string ⟨#[113, 117, 111, 116, 101]⟩, .string ⟨#[113, 117, 97, 115, 105, 113, 117, 111, 116, 101]⟩, .string ⟨#[117, 110, 113, 117, 111, 116, 101]⟩, .string ⟨#[117, 110, 113, 117, 111, 116, 101, 45, 115, 112, 108, 105, 99, 105, 110, 103]⟩] 9 (0, 0)) from by have := hN ((w.alloc (.cells (tkC kind at_ en sq k c neg A n cp x none 0 0) 29)).alloc (.cells (gtC 0 0 false none 0 0 ⟨#[]⟩ none 0 0 0 0 0) 43)) (.cells #[.string ⟨#[113, 117, 111, 116, 101]⟩, .string ⟨#[113, 117, 97, 115, 105, 113, 117, 111, 116, 101]⟩, .string ⟨#[117, 110, 113, 117, 111, 116, 101]⟩, .string ⟨#[117, 110, 113, 117, 111, 116, 101, 45, 115, 112, 108, 105, 99, 105, 110, 103]⟩] 9); rwa [World.size_alloc, World.size_alloc] at this)
 have HK1 := hid (show K0 w ((((w.alloc (.cells (tkC kind at_ en sq k c neg A n cp x none 0 0) 29)).alloc (.cells (gtC 0 0 false none 0 0 ⟨#[]⟩ none 0 0 0 0 0) 43))).alloc (.cells #[.string ⟨#[113, 117, 111, 116, 101]⟩, .string ⟨#[113, 117, 97, 115, 105, 113, 117, 111, 116, 101]⟩, .string ⟨#[117, 110, 113, 117, 111, 116, 101]⟩, .string ⟨#[117, 110, 113, 117, 111, 116, 101, 45, 115, 112, 108, 105, 99, 105, 110, 103]⟩] 9)) from ((kR.alloc _).alloc _).alloc _)
 obtain ⟨⟨a0, a1, a2, a3, a4, a5, a6, a7, a8, a9⟩, _⟩ := aa HB4.out
 go_enter Tryz.func44, Tryz.ntmps44
 go_wp2_with fail
 refine (HNX.out _ HK1.out).mono ?_
 intro e w2 hres
 obtain ⟨dk, dc, dneg, A2, n2, cp2, x2, he, hlf, k2⟩ := hres
 obtain ⟨uk, huk⟩ : ∃ z : Int, z = (u.kind : Int) := ⟨_, rfl⟩
 obtain ⟨ua, hua⟩ : ∃ z : Int, z = (j : Int) := ⟨_, rfl⟩
 obtain ⟨ue, hue⟩ : ∃ z : Int, z = ((j + u.len : Nat) : Int) := ⟨_, rfl⟩
 obtain ⟨uq, huq⟩ : ∃ z : Bool, z = u.sq := ⟨_, rfl⟩
 rw [<- huk, <- hua, <- hue, <- huq] at he
 subst he
 have p0 : (uk == 0) = false := by rw [huk, hu]; rfl
 have p2 : (uk == 2) = true := by rw [huk, hu]; rfl
 have HUA := hid hua
 have HB42 := hid (ac (k2.heap HB4.out id) (.cells (tkC uk ua ue uq dk dc dneg A2 n2 cp2 x2 none 0 0) 29))
 have HB62 := hid (ac (k2.heap HB6.out id) (.cells (tkC uk ua ue uq dk dc dneg A2 n2 cp2 x2 none 0 0) 29))
 have HB72 := hid (ac (k2.heap HB7.out id) (.cells (tkC uk ua ue uq dk dc dneg A2 n2 cp2 x2 none 0 0) 29))
 have HB8 := hid (hN w2 (.cells (tkC uk ua ue uq dk dc dneg A2 n2 cp2 x2 none 0 0) 29))
 have HK2 := hid ((HK1.out.trans k2).alloc (.cells (tkC uk ua ue uq dk dc dneg A2 n2 cp2 x2 none 0 0) 29))
 clear k2 a0 a1 a2 a3 a4 a5 a6 a7 a8 a9
 obtain ⟨⟨b0, b1, b2, b3, b4, b5, b6, b7, b8, b9⟩, _⟩ := aa HB8.out
 obtain ⟨⟨a0, a1, a2, a3, a4, a5, a6, a7, a8, a9⟩, _⟩ := aa HB42.out
 clear huk hua hue huq hu hlf
 try dsimp only
 go_wp2_with fail
 refine (bD ua 9 _).mono ?_
 rintro e w5 ⟨rfl, k5⟩
 have HB65 := hid (k5.heap HB62.out id)
 have HK5 := hid (HK2.out.trans k5)
 clear k5
 obtain ⟨⟨z0, z1, z2, z3, z4, z5, z6, z7, z8⟩, y0, y1, y2, y3, y4, y5, y6, y7, y8⟩ := aj HB65.out
 have HE := hid (aB HK5.out (show w.heap.size <= w.heap.size + 1 by omega) (.int .i64 0) (.int .i32 0) (.bool false) (.slice none 0 0) (.string ⟨#[]⟩) (.slice none 0 0) (.int .i64 0) (.int .i64 ua) (.int .i64 9))
 have HR := hid (aj (aM HB65.out (.int .i64 0) (.int .i32 0) (.bool false) (.slice none 0 0) (.string ⟨#[]⟩) (.slice none 0 0) (.int .i64 0) (.int .i64 ua) (.int .i64 9))).1
 try dsimp only
 go_wp2_with fail
 refine bodyPost_ret (v := .agg (gtC 0 0 false none 0 0 ⟨#[]⟩ none 0 0 0 ua 9)) ?_ rfl ?_
 · obtain ⟨e0, e1, e2, e3, e4, e5, e6, e7, e8⟩ := HR.out
   simp [results, Tryz.results44, go_sem, e0, e1, e2, e3, e4, e5, e6, e7, e8]
 · exact ⟨by rw [HUA.out]; rfl, HE.out⟩
theorem pu (s : ByteArray) (kind at_ en : Int) (sq : Bool) (k c : Int) (neg : Bool) (A : Option Addr) (n cp : Nat) (x : ByteArray) (deep : Int) (w : World) (q0 : (kind == 9) = false) (q1 : (deep == 64) = false) (q2 : (kind == 1) = false) (q3 : (kind == 3) = false)  (j : Nat) (u : Tk) (HNX : Hid (∀ W : World, K0 w W -> Calls Tryz.prog 14 #[.string s, .int .i64 en] W (aJ (.ok (j, u)) W))) (hu : u.kind = 8) : Calls Tryz.prog 44 #[.string s, ar kind at_ en sq k c neg A n cp x, .int .i64 deep] w (bd (.error (j, 9)) w) := by
 have HB4 := hid (show ((((w.alloc (.cells (tkC kind at_ en sq k c neg A n cp x none 0 0) 29)).alloc (.cells (gtC 0 0 false none 0 0 ⟨#[]⟩ none 0 0 0 0 0) 43))).alloc (.cells #[.string ⟨#[113, 117, 111, 116, 101]⟩, .string ⟨#[113, 117, 97, 115, 105, 113, 117, 111, 116, 101]⟩, .string ⟨#[117, 110, 113, 117, 111, 116, 101]⟩, .string ⟨#[117, 110, 113, 117, 111, 116, 101, 45, 115, 112, 108, 105, 99, 105, 110, 103]⟩] 9)).heap[w.heap.size]? = some (.cells (tkC kind at_ en sq k c neg A n cp x none 0 0) 29 (0, 0)) from ac (ac (hN w _) _) _)
 have HB6 := hid (show ((((w.alloc (.cells (tkC kind at_ en sq k c neg A n cp x none 0 0) 29)).alloc (.cells (gtC 0 0 false none 0 0 ⟨#[]⟩ none 0 0 0 0 0) 43))).alloc (.cells #[.string ⟨#[113, 117, 111, 116, 101]⟩, .string ⟨#[113, 117, 97, 115, 105, 113, 117, 111, 116, 101]⟩, .string ⟨#[117, 110, 113, 117, 111, 116, 101]⟩, .string ⟨#[117, 110, 113, 117, 111, 116, 101, 45, 115, 112, 108, 105, 99, 105, 110, 103]⟩] 9)).heap[w.heap.size + 1]? = some (.cells (gtC 0 0 false none 0 0 ⟨#[]⟩ none 0 0 0 0 0) 43 (0, 0)) from ac (by have := hN (w.alloc (.cells (tkC kind at_ en sq k c neg A n cp x none 0 0) 29)) (.cells (gtC 0 0 false none 0 0 ⟨#[]⟩ none 0 0 0 0 0) 43); rwa [World.size_alloc] at this) _)
 have HB7 := hid (show ((((w.alloc (.cells (tkC kind at_ en sq k c neg A n cp x none 0 0) 29)).alloc (.cells (gtC 0 0 false none 0 0 ⟨#[]⟩ none 0 0 0 0 0) 43))).alloc (.cells #[.string ⟨#[113, 117, 111, 116, 101]⟩, .string ⟨#[113, 117, 97, 115, 105, 113, 117, 111, 116, 101]⟩, .string ⟨#[117, 110, 113, 117, 111, 116, 101]⟩, .string ⟨#[117, 110, 113, 117, 111, 116, 101, 45, 115, 112, 108, 105, 99, 105, 110, 103]⟩] 9)).heap[w.heap.size + 2]? = some (.cells #[.string ⟨#[113, 117, 111, 116, 101]⟩, .string ⟨#[113, 117, 97, 115, 105, 113, 117, 111, 116, 101]⟩, .string ⟨#[117, 110, 113, 117, 111, 116, 101]⟩, .string ⟨#[117, 110, 113, 117, 111, 116, 101, 45, 115, 112, 108, 105, 99, 105, 110, 103]⟩] 9 (0, 0)) from by have := hN ((w.alloc (.cells (tkC kind at_ en sq k c neg A n cp x none 0 0) 29)).alloc (.cells (gtC 0 0 false none 0 0 ⟨#[]⟩ none 0 0 0 0 0) 43)) (.cells #[.string ⟨#[113, 117, 111, 116, 101]⟩, .string ⟨#[113, 117, 97, 115, 105, 113, 117, 111, 116, 101]⟩, .string ⟨#[117, 110, 113, 117, 111, 116, 101]⟩, .string ⟨#[117, 110, 113, 117, 111, 116, 101, 45, 115, 112, 108, 105, 99, 105, 110, 103]⟩] 9); rwa [World.size_alloc, World.size_alloc] at this)
 have HK1 := hid (show K0 w ((((w.alloc (.cells (tkC kind at_ en sq k c neg A n cp x none 0 0) 29)).alloc (.cells (gtC 0 0 false none 0 0 ⟨#[]⟩ none 0 0 0 0 0) 43))).alloc (.cells #[.string ⟨#[113, 117, 111, 116, 101]⟩, .string ⟨#[113, 117, 97, 115, 105, 113, 117, 111, 116, 101]⟩, .string ⟨#[117, 110, 113, 117, 111, 116, 101]⟩, .string ⟨#[117, 110, 113, 117, 111, 116, 101, 45, 115, 112, 108, 105, 99, 105, 110, 103]⟩] 9)) from ((kR.alloc _).alloc _).alloc _)
 obtain ⟨⟨a0, a1, a2, a3, a4, a5, a6, a7, a8, a9⟩, _⟩ := aa HB4.out
 go_enter Tryz.func44, Tryz.ntmps44
 go_wp2_with fail
 refine (HNX.out _ HK1.out).mono ?_
 intro e w2 hres
 obtain ⟨dk, dc, dneg, A2, n2, cp2, x2, he, hlf, k2⟩ := hres
 obtain ⟨uk, huk⟩ : ∃ z : Int, z = (u.kind : Int) := ⟨_, rfl⟩
 obtain ⟨ua, hua⟩ : ∃ z : Int, z = (j : Int) := ⟨_, rfl⟩
 obtain ⟨ue, hue⟩ : ∃ z : Int, z = ((j + u.len : Nat) : Int) := ⟨_, rfl⟩
 obtain ⟨uq, huq⟩ : ∃ z : Bool, z = u.sq := ⟨_, rfl⟩
 rw [<- huk, <- hua, <- hue, <- huq] at he
 subst he
 have p0 : (uk == 0) = false := by rw [huk, hu]; rfl
 have p1 : (uk == 2) = false := by rw [huk, hu]; rfl
 have p2 : (uk == 8) = true := by rw [huk, hu]; rfl
 have HUA := hid hua
 have HB42 := hid (ac (k2.heap HB4.out id) (.cells (tkC uk ua ue uq dk dc dneg A2 n2 cp2 x2 none 0 0) 29))
 have HB62 := hid (ac (k2.heap HB6.out id) (.cells (tkC uk ua ue uq dk dc dneg A2 n2 cp2 x2 none 0 0) 29))
 have HB72 := hid (ac (k2.heap HB7.out id) (.cells (tkC uk ua ue uq dk dc dneg A2 n2 cp2 x2 none 0 0) 29))
 have HB8 := hid (hN w2 (.cells (tkC uk ua ue uq dk dc dneg A2 n2 cp2 x2 none 0 0) 29))
 have HK2 := hid ((HK1.out.trans k2).alloc (.cells (tkC uk ua ue uq dk dc dneg A2 n2 cp2 x2 none 0 0) 29))
 clear k2 a0 a1 a2 a3 a4 a5 a6 a7 a8 a9
 obtain ⟨⟨b0, b1, b2, b3, b4, b5, b6, b7, b8, b9⟩, _⟩ := aa HB8.out
 obtain ⟨⟨a0, a1, a2, a3, a4, a5, a6, a7, a8, a9⟩, _⟩ := aa HB42.out
 clear huk hua hue huq hu hlf
 try dsimp only
 go_wp2_with fail
 refine (bD ua 9 _).mono ?_
 rintro e w5 ⟨rfl, k5⟩
 have HB65 := hid (k5.heap HB62.out id)
 have HK5 := hid (HK2.out.trans k5)
 clear k5
 obtain ⟨⟨z0, z1, z2, z3, z4, z5, z6, z7, z8⟩, y0, y1, y2, y3, y4, y5, y6, y7, y8⟩ := aj HB65.out
 have HE := hid (aB HK5.out (show w.heap.size <= w.heap.size + 1 by omega) (.int .i64 0) (.int .i32 0) (.bool false) (.slice none 0 0) (.string ⟨#[]⟩) (.slice none 0 0) (.int .i64 0) (.int .i64 ua) (.int .i64 9))
 have HR := hid (aj (aM HB65.out (.int .i64 0) (.int .i32 0) (.bool false) (.slice none 0 0) (.string ⟨#[]⟩) (.slice none 0 0) (.int .i64 0) (.int .i64 ua) (.int .i64 9))).1
 try dsimp only
 go_wp2_with fail
 refine bodyPost_ret (v := .agg (gtC 0 0 false none 0 0 ⟨#[]⟩ none 0 0 0 ua 9)) ?_ rfl ?_
 · obtain ⟨e0, e1, e2, e3, e4, e5, e6, e7, e8⟩ := HR.out
   simp [results, Tryz.results44, go_sem, e0, e1, e2, e3, e4, e5, e6, e7, e8]
 · exact ⟨by rw [HUA.out]; rfl, HE.out⟩
theorem pq (s : ByteArray) (kind at_ en : Int) (sq : Bool) (k c : Int) (neg : Bool) (A : Option Addr) (n cp : Nat) (x : ByteArray) (deep : Int) (w : World) (q0 : (kind == 9) = false) (q1 : (deep == 64) = false) (q2 : (kind == 1) = false) (q3 : (kind == 3) = false) (j : Nat) (u : Tk) (HNX : Hid (∀ W : World, K0 w W -> Calls Tryz.prog 14 #[.string s, .int .i64 en] W (aJ (.ok (j, u)) W))) (hu : u.kind ≠ 0 /\ u.kind ≠ 2 /\ u.kind ≠ 8) (hd0 : 0 <= deep) (hd1 : deep <= 64) (qe ce : Nat) (g : Got) (hge : g = .error (qe, ce)) (hce : ce ≠ 0) (HF : Hid (∀ (dk dc : Int) (dneg : Bool) (A2 : Option Addr) (n2 cp2 : Nat) (x2 : ByteArray) (W : World), K0 w W -> cz W u.d dk dc dneg A2 n2 cp2 x2 -> Calls Tryz.prog 44 #[.string s, ar (u.kind : Int) (j : Int) ((j + u.len : Nat) : Int) u.sq dk dc dneg A2 n2 cp2 x2, .int .i64 (deep + 1)] W (bd g W))) : Calls Tryz.prog 44 #[.string s, ar kind at_ en sq k c neg A n cp x, .int .i64 deep] w (bd g w) := by
 have HB4 := hid (show ((((w.alloc (.cells (tkC kind at_ en sq k c neg A n cp x none 0 0) 29)).alloc (.cells (gtC 0 0 false none 0 0 ⟨#[]⟩ none 0 0 0 0 0) 43))).alloc (.cells #[.string ⟨#[113, 117, 111, 116, 101]⟩, .string ⟨#[113, 117, 97, 115, 105, 113, 117, 111, 116, 101]⟩, .string ⟨#[117, 110, 113, 117, 111, 116, 101]⟩, .string ⟨#[117, 110, 113, 117, 111, 116, 101, 45, 115, 112, 108, 105, 99, 105, 110, 103]⟩] 9)).heap[w.heap.size]? = some (.cells (tkC kind at_ en sq k c neg A n cp x none 0 0) 29 (0, 0)) from ac (ac (hN w _) _) _)
 have HB6 := hid (show ((((w.alloc (.cells (tkC kind at_ en sq k c neg A n cp x none 0 0) 29)).alloc (.cells (gtC 0 0 false none 0 0 ⟨#[]⟩ none 0 0 0 0 0) 43))).alloc (.cells #[.string ⟨#[113, 117, 111, 116, 101]⟩, .string ⟨#[113, 117, 97, 115, 105, 113, 117, 111, 116, 101]⟩, .string ⟨#[117, 110, 113, 117, 111, 116, 101]⟩, .string ⟨#[117, 110, 113, 117, 111, 116, 101, 45, 115, 112, 108, 105, 99, 105, 110, 103]⟩] 9)).heap[w.heap.size + 1]? = some (.cells (gtC 0 0 false none 0 0 ⟨#[]⟩ none 0 0 0 0 0) 43 (0, 0)) from ac (by have := hN (w.alloc (.cells (tkC kind at_ en sq k c neg A n cp x none 0 0) 29)) (.cells (gtC 0 0 false none 0 0 ⟨#[]⟩ none 0 0 0 0 0) 43); rwa [World.size_alloc] at this) _)
 have HB7 := hid (show ((((w.alloc (.cells (tkC kind at_ en sq k c neg A n cp x none 0 0) 29)).alloc (.cells (gtC 0 0 false none 0 0 ⟨#[]⟩ none 0 0 0 0 0) 43))).alloc (.cells #[.string ⟨#[113, 117, 111, 116, 101]⟩, .string ⟨#[113, 117, 97, 115, 105, 113, 117, 111, 116, 101]⟩, .string ⟨#[117, 110, 113, 117, 111, 116, 101]⟩, .string ⟨#[117, 110, 113, 117, 111, 116, 101, 45, 115, 112, 108, 105, 99, 105, 110, 103]⟩] 9)).heap[w.heap.size + 2]? = some (.cells #[.string ⟨#[113, 117, 111, 116, 101]⟩, .string ⟨#[113, 117, 97, 115, 105, 113, 117, 111, 116, 101]⟩, .string ⟨#[117, 110, 113, 117, 111, 116, 101]⟩, .string ⟨#[117, 110, 113, 117, 111, 116, 101, 45, 115, 112, 108, 105, 99, 105, 110, 103]⟩] 9 (0, 0)) from by have := hN ((w.alloc (.cells (tkC kind at_ en sq k c neg A n cp x none 0 0) 29)).alloc (.cells (gtC 0 0 false none 0 0 ⟨#[]⟩ none 0 0 0 0 0) 43)) (.cells #[.string ⟨#[113, 117, 111, 116, 101]⟩, .string ⟨#[113, 117, 97, 115, 105, 113, 117, 111, 116, 101]⟩, .string ⟨#[117, 110, 113, 117, 111, 116, 101]⟩, .string ⟨#[117, 110, 113, 117, 111, 116, 101, 45, 115, 112, 108, 105, 99, 105, 110, 103]⟩] 9); rwa [World.size_alloc, World.size_alloc] at this)
 have HK1 := hid (show K0 w ((((w.alloc (.cells (tkC kind at_ en sq k c neg A n cp x none 0 0) 29)).alloc (.cells (gtC 0 0 false none 0 0 ⟨#[]⟩ none 0 0 0 0 0) 43))).alloc (.cells #[.string ⟨#[113, 117, 111, 116, 101]⟩, .string ⟨#[113, 117, 97, 115, 105, 113, 117, 111, 116, 101]⟩, .string ⟨#[117, 110, 113, 117, 111, 116, 101]⟩, .string ⟨#[117, 110, 113, 117, 111, 116, 101, 45, 115, 112, 108, 105, 99, 105, 110, 103]⟩] 9)) from ((kR.alloc _).alloc _).alloc _)
 obtain ⟨⟨a0, a1, a2, a3, a4, a5, a6, a7, a8, a9⟩, _⟩ := aa HB4.out
 go_enter Tryz.func44, Tryz.ntmps44
 go_wp2_with fail
 refine (HNX.out _ HK1.out).mono ?_
 intro e w2 hres
 obtain ⟨dk, dc, dneg, A2, n2, cp2, x2, he, hlf, k2⟩ := hres
 obtain ⟨uk, huk⟩ : ∃ z : Int, z = (u.kind : Int) := ⟨_, rfl⟩
 obtain ⟨ua, hua⟩ : ∃ z : Int, z = (j : Int) := ⟨_, rfl⟩
 obtain ⟨ue, hue⟩ : ∃ z : Int, z = ((j + u.len : Nat) : Int) := ⟨_, rfl⟩
 obtain ⟨uq, huq⟩ : ∃ z : Bool, z = u.sq := ⟨_, rfl⟩
 rw [<- huk, <- hua, <- hue, <- huq] at he
 subst he
 have p0 : (uk == 0) = false := by rw [huk]; simp; omega
 have p1 : (uk == 2) = false := by rw [huk]; simp; omega
 have p2 : (uk == 8) = false := by rw [huk]; simp; omega
 have HF2 := hid (fun (W : World) (K : K0 w2 W) => (show Calls Tryz.prog 44 #[.string s, ar uk ua ue uq dk dc dneg A2 n2 cp2 x2, .int .i64 (deep + 1)] W (bd g W) from by rw [huk, hua, hue, huq]; exact HF.out dk dc dneg A2 n2 cp2 x2 W ((HK1.out.trans k2).trans K) (hlf.keep K)))
 have HB42 := hid (ac (k2.heap HB4.out id) (.cells (tkC uk ua ue uq dk dc dneg A2 n2 cp2 x2 none 0 0) 29))
 have HB62 := hid (ac (k2.heap HB6.out id) (.cells (tkC uk ua ue uq dk dc dneg A2 n2 cp2 x2 none 0 0) 29))
 have HB72 := hid (ac (k2.heap HB7.out id) (.cells (tkC uk ua ue uq dk dc dneg A2 n2 cp2 x2 none 0 0) 29))
 have HB8 := hid (hN w2 (.cells (tkC uk ua ue uq dk dc dneg A2 n2 cp2 x2 none 0 0) 29))
 have HK2 := hid ((HK1.out.trans k2).alloc (.cells (tkC uk ua ue uq dk dc dneg A2 n2 cp2 x2 none 0 0) 29))
 clear k2 a0 a1 a2 a3 a4 a5 a6 a7 a8 a9
 have HSZ := hid (show w.heap.size + 2 <= w2.heap.size from by have := ao HB72.out; simp at this; omega)
 obtain ⟨⟨b0, b1, b2, b3, b4, b5, b6, b7, b8, b9⟩, _⟩ := aa HB8.out
 clear huk hua hue huq hlf
 try dsimp only
 go_wp2_with fail
 refine (HF2.out _ (kR.alloc _)).mono ?_
 intro e w4 hres
 obtain ⟨d, p, gn, gq, gc, rfl, hg, k4⟩ := hres.form
 have HB44 := hid (ac (k4.heap HB42.out id) (.cells (gtC d.k d.c d.neg p.A p.n p.cp d.t p.B p.m p.cap gn gq gc) 43))
 have HB64 := hid (ac (k4.heap HB62.out id) (.cells (gtC d.k d.c d.neg p.A p.n p.cp d.t p.B p.m p.cap gn gq gc) 43))
 have HB74 := hid (ac (k4.heap HB72.out id) (.cells (gtC d.k d.c d.neg p.A p.n p.cp d.t p.B p.m p.cap gn gq gc) 43))
 have HB11 := hid (hN w4 (.cells (gtC d.k d.c d.neg p.A p.n p.cp d.t p.B p.m p.cap gn gq gc) 43))
 have HK4 := hid ((HK2.out.trans k4).alloc (.cells (gtC d.k d.c d.neg p.A p.n p.cp d.t p.B p.m p.cap gn gq gc) 43))
 have HK24 := hid k4
 have HG := hid (hg.keep0 ((ah.refl (fun _ => False) w4).alloc (.cells (gtC d.k d.c d.neg p.A p.n p.cp d.t p.B p.m p.cap gn gq gc) 43)))
 clear k4 hres hg b0 b1 b2 b3 b4 b5 b6 b7 b8 b9
 have g0 : (gc != 0) = true := by
  have := HG.out
  rw [hge] at this
  rw [this.2.2.2.2]; simp; omega
 obtain ⟨⟨b0, b1, b2, b3, b4, b5, b6, b7, b8⟩, _⟩ := aj HB11.out
 clear hge hce
 obtain ⟨⟨z0, z1, z2, z3, z4, z5, z6, z7, z8⟩, y0, y1, y2, y3, y4, y5, y6, y7, y8⟩ := aj HB64.out
 have HE := hid (aB HK4.out (show w.heap.size <= w.heap.size + 1 by omega) (.int .i64 d.k) (.int .i32 d.c) (.bool d.neg) (.slice p.A p.n p.cp) (.string d.t) (.slice p.B p.m p.cap) (.int .i64 gn) (.int .i64 gq) (.int .i64 gc))
 have HR := hid (aj (aM HB64.out (.int .i64 d.k) (.int .i32 d.c) (.bool d.neg) (.slice p.A p.n p.cp) (.string d.t) (.slice p.B p.m p.cap) (.int .i64 gn) (.int .i64 gq) (.int .i64 gc))).1
 try dsimp only
 go_wp2_with fail
 refine bodyPost_ret (v := .agg (gtC d.k d.c d.neg p.A p.n p.cp d.t p.B p.m p.cap gn gq gc)) ?_ rfl ?_
 · obtain ⟨e0, e1, e2, e3, e4, e5, e6, e7, e8⟩ := HR.out
   simp [results, Tryz.results44, go_sem, e0, e1, e2, e3, e4, e5, e6, e7, e8]
 · exact (HG.out.keep (ck _ _ (.int .i64 d.k) (.int .i32 d.c) (.bool d.neg) (.slice p.A p.n p.cp) (.string d.t) (.slice p.B p.m p.cap) (.int .i64 gn) (.int .i64 gq) (.int .i64 gc)) (by have := HSZ.out; simp; omega) HB64.out (by decide)).post (by have := HSZ.out; simp; omega) HE.out
theorem qH (s : ByteArray) (kind at_ en : Int) (sq : Bool) (k c : Int) (neg : Bool) (A : Option Addr) (n cp : Nat) (x : ByteArray) (deep : Int) (w : World) (q0 : (kind == 9) = false) (q1 : (deep == 64) = false) (q2 : (kind == 1) = false) (q3 : (kind == 3) = false) (j : Nat) (u : Tk) (HNX : Hid (∀ W : World, K0 w W -> Calls Tryz.prog 14 #[.string s, .int .i64 en] W (aJ (.ok (j, u)) W))) (hu : u.kind ≠ 0 /\ u.kind ≠ 2 /\ u.kind ≠ 8) (hd0 : 0 <= deep) (hd1 : deep <= 64) (m e0 : Nat) (d0 : Raw) (hm : kind = (m : Int) + 4) (hm4 : m < 4) (HF : Hid (∀ (dk dc : Int) (dneg : Bool) (A2 : Option Addr) (n2 cp2 : Nat) (x2 : ByteArray) (W : World), K0 w W -> cz W u.d dk dc dneg A2 n2 cp2 x2 -> Calls Tryz.prog 44 #[.string s, ar (u.kind : Int) (j : Int) ((j + u.len : Nat) : Int) u.sq dk dc dneg A2 n2 cp2 x2, .int .i64 (deep + 1)] W (bd (.ok (d0, e0)) W))) : Calls Tryz.prog 44 #[.string s, ar kind at_ en sq k c neg A n cp x, .int .i64 deep] w (bd (.ok (gL (m + 4) d0, e0)) w) := by
 have HM := hid hm
 clear hm
 have HB4 := hid (show ((((w.alloc (.cells (tkC kind at_ en sq k c neg A n cp x none 0 0) 29)).alloc (.cells (gtC 0 0 false none 0 0 ⟨#[]⟩ none 0 0 0 0 0) 43))).alloc (.cells #[.string ⟨#[113, 117, 111, 116, 101]⟩, .string ⟨#[113, 117, 97, 115, 105, 113, 117, 111, 116, 101]⟩, .string ⟨#[117, 110, 113, 117, 111, 116, 101]⟩, .string ⟨#[117, 110, 113, 117, 111, 116, 101, 45, 115, 112, 108, 105, 99, 105, 110, 103]⟩] 9)).heap[w.heap.size]? = some (.cells (tkC kind at_ en sq k c neg A n cp x none 0 0) 29 (0, 0)) from ac (ac (hN w _) _) _)
 have HB6 := hid (show ((((w.alloc (.cells (tkC kind at_ en sq k c neg A n cp x none 0 0) 29)).alloc (.cells (gtC 0 0 false none 0 0 ⟨#[]⟩ none 0 0 0 0 0) 43))).alloc (.cells #[.string ⟨#[113, 117, 111, 116, 101]⟩, .string ⟨#[113, 117, 97, 115, 105, 113, 117, 111, 116, 101]⟩, .string ⟨#[117, 110, 113, 117, 111, 116, 101]⟩, .string ⟨#[117, 110, 113, 117, 111, 116, 101, 45, 115, 112, 108, 105, 99, 105, 110, 103]⟩] 9)).heap[w.heap.size + 1]? = some (.cells (gtC 0 0 false none 0 0 ⟨#[]⟩ none 0 0 0 0 0) 43 (0, 0)) from ac (by have := hN (w.alloc (.cells (tkC kind at_ en sq k c neg A n cp x none 0 0) 29)) (.cells (gtC 0 0 false none 0 0 ⟨#[]⟩ none 0 0 0 0 0) 43); rwa [World.size_alloc] at this) _)
 have HB7 := hid (show ((((w.alloc (.cells (tkC kind at_ en sq k c neg A n cp x none 0 0) 29)).alloc (.cells (gtC 0 0 false none 0 0 ⟨#[]⟩ none 0 0 0 0 0) 43))).alloc (.cells #[.string ⟨#[113, 117, 111, 116, 101]⟩, .string ⟨#[113, 117, 97, 115, 105, 113, 117, 111, 116, 101]⟩, .string ⟨#[117, 110, 113, 117, 111, 116, 101]⟩, .string ⟨#[117, 110, 113, 117, 111, 116, 101, 45, 115, 112, 108, 105, 99, 105, 110, 103]⟩] 9)).heap[w.heap.size + 2]? = some (.cells #[.string ⟨#[113, 117, 111, 116, 101]⟩, .string ⟨#[113, 117, 97, 115, 105, 113, 117, 111, 116, 101]⟩, .string ⟨#[117, 110, 113, 117, 111, 116, 101]⟩, .string ⟨#[117, 110, 113, 117, 111, 116, 101, 45, 115, 112, 108, 105, 99, 105, 110, 103]⟩] 9 (0, 0)) from by have := hN ((w.alloc (.cells (tkC kind at_ en sq k c neg A n cp x none 0 0) 29)).alloc (.cells (gtC 0 0 false none 0 0 ⟨#[]⟩ none 0 0 0 0 0) 43)) (.cells #[.string ⟨#[113, 117, 111, 116, 101]⟩, .string ⟨#[113, 117, 97, 115, 105, 113, 117, 111, 116, 101]⟩, .string ⟨#[117, 110, 113, 117, 111, 116, 101]⟩, .string ⟨#[117, 110, 113, 117, 111, 116, 101, 45, 115, 112, 108, 105, 99, 105, 110, 103]⟩] 9); rwa [World.size_alloc, World.size_alloc] at this)
 have HK1 := hid (show K0 w ((((w.alloc (.cells (tkC kind at_ en sq k c neg A n cp x none 0 0) 29)).alloc (.cells (gtC 0 0 false none 0 0 ⟨#[]⟩ none 0 0 0 0 0) 43))).alloc (.cells #[.string ⟨#[113, 117, 111, 116, 101]⟩, .string ⟨#[113, 117, 97, 115, 105, 113, 117, 111, 116, 101]⟩, .string ⟨#[117, 110, 113, 117, 111, 116, 101]⟩, .string ⟨#[117, 110, 113, 117, 111, 116, 101, 45, 115, 112, 108, 105, 99, 105, 110, 103]⟩] 9)) from ((kR.alloc _).alloc _).alloc _)
 obtain ⟨⟨a0, a1, a2, a3, a4, a5, a6, a7, a8, a9⟩, _⟩ := aa HB4.out
 go_enter Tryz.func44, Tryz.ntmps44
 go_wp2_with fail
 refine (HNX.out _ HK1.out).mono ?_
 intro e w2 hres
 obtain ⟨dk, dc, dneg, A2, n2, cp2, x2, he, hlf, k2⟩ := hres
 obtain ⟨uk, huk⟩ : ∃ z : Int, z = (u.kind : Int) := ⟨_, rfl⟩
 obtain ⟨ua, hua⟩ : ∃ z : Int, z = (j : Int) := ⟨_, rfl⟩
 obtain ⟨ue, hue⟩ : ∃ z : Int, z = ((j + u.len : Nat) : Int) := ⟨_, rfl⟩
 obtain ⟨uq, huq⟩ : ∃ z : Bool, z = u.sq := ⟨_, rfl⟩
 rw [<- huk, <- hua, <- hue, <- huq] at he
 subst he
 have p0 : (uk == 0) = false := by rw [huk]; simp; omega
 have p1 : (uk == 2) = false := by rw [huk]; simp; omega
 have p2 : (uk == 8) = false := by rw [huk]; simp; omega
 have HF2 := hid (fun (W : World) (K : K0 w2 W) => (show Calls Tryz.prog 44 #[.string s, ar uk ua ue uq dk dc dneg A2 n2 cp2 x2, .int .i64 (deep + 1)] W (bd (.ok (d0, e0)) W) from by rw [huk, hua, hue, huq]; exact HF.out dk dc dneg A2 n2 cp2 x2 W ((HK1.out.trans k2).trans K) (hlf.keep K)))
 have HB42 := hid (ac (k2.heap HB4.out id) (.cells (tkC uk ua ue uq dk dc dneg A2 n2 cp2 x2 none 0 0) 29))
 have HB62 := hid (ac (k2.heap HB6.out id) (.cells (tkC uk ua ue uq dk dc dneg A2 n2 cp2 x2 none 0 0) 29))
 have HB72 := hid (ac (k2.heap HB7.out id) (.cells (tkC uk ua ue uq dk dc dneg A2 n2 cp2 x2 none 0 0) 29))
 have HB8 := hid (hN w2 (.cells (tkC uk ua ue uq dk dc dneg A2 n2 cp2 x2 none 0 0) 29))
 have HK2 := hid ((HK1.out.trans k2).alloc (.cells (tkC uk ua ue uq dk dc dneg A2 n2 cp2 x2 none 0 0) 29))
 clear k2 a0 a1 a2 a3 a4 a5 a6 a7 a8 a9
 have HSZ := hid (show w.heap.size + 2 <= w2.heap.size from by have := ao HB72.out; simp at this; omega)
 obtain ⟨⟨b0, b1, b2, b3, b4, b5, b6, b7, b8, b9⟩, _⟩ := aa HB8.out
 clear huk hua hue huq hlf
 try dsimp only
 go_wp2_with fail
 refine (HF2.out _ (kR.alloc _)).mono ?_
 intro e w4 hres
 obtain ⟨d, p, gn, gq, gc, rfl, hg, k4⟩ := hres.form
 have HB44 := hid (ac (k4.heap HB42.out id) (.cells (gtC d.k d.c d.neg p.A p.n p.cp d.t p.B p.m p.cap gn gq gc) 43))
 have HB64 := hid (ac (k4.heap HB62.out id) (.cells (gtC d.k d.c d.neg p.A p.n p.cp d.t p.B p.m p.cap gn gq gc) 43))
 have HB74 := hid (ac (k4.heap HB72.out id) (.cells (gtC d.k d.c d.neg p.A p.n p.cp d.t p.B p.m p.cap gn gq gc) 43))
 have HB11 := hid (hN w4 (.cells (gtC d.k d.c d.neg p.A p.n p.cp d.t p.B p.m p.cap gn gq gc) 43))
 have HK4 := hid ((HK2.out.trans k4).alloc (.cells (gtC d.k d.c d.neg p.A p.n p.cp d.t p.B p.m p.cap gn gq gc) 43))
 have HK24 := hid k4
 have HG := hid (hg.keep0 ((ah.refl (fun _ => False) w4).alloc (.cells (gtC d.k d.c d.neg p.A p.n p.cp d.t p.B p.m p.cap gn gq gc) 43)))
 clear k4 hres hg b0 b1 b2 b3 b4 b5 b6 b7 b8 b9
 obtain ⟨hg1, hg2, hg3, hg4, hg5⟩ := HG.out
 subst hg1; subst hg3; subst hg4
 have HGN := hid hg2
 have HD := hid hg5
 have g0 : ((0 : Int) != 0) = false := by decide
 obtain ⟨⟨b0, b1, b2, b3, b4, b5, b6, b7, b8⟩, _⟩ := aj HB11.out
 obtain ⟨⟨z0, z1, z2, z3, z4, z5, z6, z7, z8⟩, y0, y1, y2, y3, y4, y5, y6, y7, y8⟩ := aj HB64.out
 have a0 := (aa HB44.out).1.1
 obtain ⟨ws, hws⟩ : ∃ ws : ByteArray, ws = ⟨(ca (m + 4)).toArray⟩ := ⟨_, rfl⟩
 have HWS := hid hws
 have v0 : (w4.alloc (.cells (gtC d.k d.c d.neg p.A p.n p.cp d.t p.B p.m p.cap gn 0 0) 43)).cell? ⟨w.heap.size + 2, m, none⟩ = some (.string ws) := by
  rw [cell_of_row _ _ _ _ _ _ HB74.out, HWS.out]
  match m, hm4 with
  | 0, _ | 1, _ | 2, _ | 3, _ => rfl
 have HX11 := hid (show w2.heap.size <= w4.heap.size from by have := ao HB11.out; have h2 := HK24.out.size; simp at h2; omega)
 clear hg2 hg5 HG hws
 try dsimp only
 go_wp2_with fail
 generalize (w4.alloc (.cells (gtC d.k d.c d.neg p.A p.n p.cp d.t p.B p.m p.cap gn 0 0) 43)) = w5 at *
 generalize w4.heap.size = B11 at *
 have HB65 := HB64
 have HB11N := hid (show ¬ B11 = w.heap.size + 1 from by have := HX11.out; have := HSZ.out; omega)
 have H53 := hid (show w.heap.size + 3 <= w5.heap.size from by have h1 := ao HB74.out; omega)
 obtain ⟨mr, hmr⟩ : ∃ mr, mr = gL (m + 4) d := ⟨_, rfl⟩
 have HMR := hid hmr
 clear hmr
 have HDN := hid (show au (fun b => w.heap.size + 3 <= b) w5 d p from HD.out.mono (fun b _ h => by have := HSZ.out; simp at h; omega))
 have HLIST := hid (show Calls Tryz.prog 26 #[.slice (some ⟨w5.heap.size, 0, none⟩) 2 2] (w5.alloc (.cells #[.int .i64 6, .int .i32 0, .bool false, .slice none 0 0, .string ws, .slice none 0 0, .int .i64 d.k, .int .i32 d.c, .bool d.neg, .slice p.A p.n p.cp, .string d.t, .slice p.B p.m p.cap] 27)).drew (fun e w' => ∃ p6 : PV, e = .returned (bT mr p6) /\ au (fun b => w.heap.size + 3 <= b) w' mr p6 /\ K0 w5 w') from by
  have hb := hN w5 (.cells #[.int .i64 6, .int .i32 0, .bool false, .slice none 0 0, .string ws, .slice none 0 0, .int .i64 d.k, .int .i32 d.c, .bool d.neg, .slice p.A p.n p.cp, .string d.t, .slice p.B p.m p.cap] 27)
  have K : K0 w5 w5 := kR
  have k1 : K0 w5 (w5.alloc (.cells #[.int .i64 6, .int .i32 0, .bool false, .slice none 0 0, .string ws, .slice none 0 0, .int .i64 d.k, .int .i32 d.c, .bool d.neg, .slice p.A p.n p.cp, .string d.t, .slice p.B p.m p.cap] 27)).drew := (kR.alloc _).drew
  have hb2 : (w5.alloc (.cells #[.int .i64 6, .int .i32 0, .bool false, .slice none 0 0, .string ws, .slice none 0 0, .int .i64 d.k, .int .i32 d.c, .bool d.neg, .slice p.A p.n p.cp, .string d.t, .slice p.B p.m p.cap] 27)).drew.heap[w5.heap.size]? = some (.cells #[.int .i64 (bB (.sym (ca (m + 4)))).k, .int .i32 (bB (.sym (ca (m + 4)))).c, .bool (bB (.sym (ca (m + 4)))).neg, .slice PV.none.A PV.none.n PV.none.cp, .string (bB (.sym (ca (m + 4)))).t, .slice PV.none.B PV.none.m PV.none.cap, .int .i64 d.k, .int .i32 d.c, .bool d.neg, .slice p.A p.n p.cp, .string d.t, .slice p.B p.m p.cap] 27 (0, 0)) := by rw [show (w5.alloc (.cells #[.int .i64 6, .int .i32 0, .bool false, .slice none 0 0, .string ws, .slice none 0 0, .int .i64 d.k, .int .i32 d.c, .bool d.neg, .slice p.A p.n p.cp, .string d.t, .slice p.B p.m p.cap] 27)).drew.heap[w5.heap.size]? = _ from hb, HWS.out]; rfl
  have hl : au (fun b => w.heap.size + 3 <= b) (w5.alloc (.cells #[.int .i64 6, .int .i32 0, .bool false, .slice none 0 0, .string ws, .slice none 0 0, .int .i64 d.k, .int .i32 d.c, .bool d.neg, .slice p.A p.n p.cp, .string d.t, .slice p.B p.m p.cap] 27)).drew (bB (.sym (ca (m + 4)))) PV.none := (au.leaf (d := .sym (ca (m + 4))) ⟨rfl, rfl, rfl, rfl, rfl, rfl, rfl⟩).1
  refine (ns (fun b => w.heap.size + 3 <= b) [bB (.sym (ca (m + 4))), d] (fun i => if i = 0 then PV.none else p) (some ⟨w5.heap.size, 0, none⟩) 2 2 _ rfl (Nat.le_refl _) (by omega) (fun _ => ⟨_, _, rfl, gv hb2⟩) (j5 hl ((HDN.out.keep0 K).keep0 k1))).mono ?_
  rintro e w' ⟨p6, rfl, h6, k6⟩
  have h5 := H53.out
  refine ⟨p6, by rw [HMR.out]; rfl, ?_, k1.trans k6⟩
  rw [HMR.out]
  refine h6.mono (fun b _ h => ?_)
  rcases h with ⟨h, _⟩ | h
  · exact h
  · have := k1.size; omega)
 have HCL := hid (fun (w' : World) (K : ah (fun b => b = w.heap.size + 1) w5 w') => (show w'.cell? ⟨w.heap.size, 0, none⟩ = some (.int .i64 kind) /\ w'.cell? ⟨w.heap.size + 2, m, none⟩ = some (.string ws) /\ w'.cell? ⟨B11, 0, none⟩ = some (.int .i64 d.k) /\ w'.cell? ⟨B11, 1, none⟩ = some (.int .i32 d.c) /\ w'.cell? ⟨B11, 2, none⟩ = some (.bool d.neg) /\ w'.cell? ⟨B11, 3, none⟩ = some (.slice p.A p.n p.cp) /\ w'.cell? ⟨B11, 4, none⟩ = some (.string d.t) /\ w'.cell? ⟨B11, 5, none⟩ = some (.slice p.B p.m p.cap) /\ w'.cell? ⟨B11, 6, none⟩ = some (.int .i64 gn) /\ ah (fun b => b = w.heap.size + 1) w5 w' from ⟨(K.cell (p := ⟨w.heap.size, 0, none⟩) (bL w5 _ a0) (show ¬ w.heap.size = w.heap.size + 1 by omega)).trans a0, (K.cell (p := ⟨w.heap.size + 2, m, none⟩) (bL w5 _ v0) (show ¬ w.heap.size + 2 = w.heap.size + 1 by omega)).trans v0, (K.cell (p := ⟨B11, 0, none⟩) (bL w5 _ b0) HB11N.out).trans b0, (K.cell (p := ⟨B11, 1, none⟩) (bL w5 _ b1) HB11N.out).trans b1, (K.cell (p := ⟨B11, 2, none⟩) (bL w5 _ b2) HB11N.out).trans b2, (K.cell (p := ⟨B11, 3, none⟩) (bL w5 _ b3) HB11N.out).trans b3, (K.cell (p := ⟨B11, 4, none⟩) (bL w5 _ b4) HB11N.out).trans b4, (K.cell (p := ⟨B11, 5, none⟩) (bL w5 _ b5) HB11N.out).trans b5, (K.cell (p := ⟨B11, 6, none⟩) (bL w5 _ b6) HB11N.out).trans b6, K⟩))
 have Kd : ah (fun b => b = w.heap.size + 1) w5 w5.drew := kR.drew
 have Kd2 : ah (fun b => b = w.heap.size + 1) w5 (w5.alloc (.cells #[.int .i64 6, .int .i32 0, .bool false, .slice none 0 0, .string ws, .slice none 0 0, .int .i64 d.k, .int .i32 d.c, .bool d.neg, .slice p.A p.n p.cp, .string d.t, .slice p.B p.m p.cap] 27)).drew := (kR.alloc _).drew
 have hk1 : (0 : Int) <= kind - 4 := by have := HM.out; omega
 have hk2 : kind - 4 < (4 : Int) := by have := HM.out; omega
 have hk5 : (4 : Int) <= kind := by have := HM.out; omega
 have hk6 : kind < (8 : Int) := by have := HM.out; omega
 have hk3 : IntKind.i64.wrap (kind - 4) = kind - 4 := IntWalk.i64_in _ (by omega)
 have hk4 : (kind - 4).toNat = m := by have := HM.out; omega
 clear a0 v0 b0 b1 b2 b3 b4 b5 b6 b7 b8 z0 z1 z2 z3 z4 z5 z6 z7 z8 y0 y1 y2 y3 y4 y5 y6 y7 y8
 go_region_held3 (fun w' => w'.cell? ⟨w.heap.size, 0, none⟩ = some (.int .i64 kind) /\ w'.cell? ⟨w.heap.size + 2, m, none⟩ = some (.string ws) /\ w'.cell? ⟨B11, 0, none⟩ = some (.int .i64 d.k) /\ w'.cell? ⟨B11, 1, none⟩ = some (.int .i32 d.c) /\ w'.cell? ⟨B11, 2, none⟩ = some (.bool d.neg) /\ w'.cell? ⟨B11, 3, none⟩ = some (.slice p.A p.n p.cp) /\ w'.cell? ⟨B11, 4, none⟩ = some (.string d.t) /\ w'.cell? ⟨B11, 5, none⟩ = some (.slice p.B p.m p.cap) /\ w'.cell? ⟨B11, 6, none⟩ = some (.int .i64 gn) /\ ah (fun b => b = w.heap.size + 1) w5 w')
  (with_reducible (refine HCL.out _ ?_; assumption))
  ((go_at_call 26; go_split_ands; (with_reducible refine HLIST.out.mono ?_); rintro e w6 ⟨p6, rfl, hd6, k6⟩; have K6 := k6.mono (S' := fun b => b = w.heap.size + 1) (fun _ _ h => h.elim); have HB66 := hid (k6.heap HB65.out id); have K7 := K6.trans (ck w6 (w.heap.size + 1) (.int .i64 mr.k) (.int .i32 mr.c) (.bool mr.neg) (.slice p6.A p6.n p6.cp) (.string mr.t) (.slice p6.B p6.m p6.cap) (.int .i64 gn) (.int .i64 0) (.int .i64 0)); obtain ⟨⟨z0, z1, z2, z3, z4, z5, z6, z7, z8⟩, y0, y1, y2, y3, y4, y5, y6, y7, y8⟩ := aj HB66.out))
 have HE := hid (aB (HK4.out.trans k6) (show w.heap.size <= w.heap.size + 1 by omega) (.int .i64 mr.k) (.int .i32 mr.c) (.bool mr.neg) (.slice p6.A p6.n p6.cp) (.string mr.t) (.slice p6.B p6.m p6.cap) (.int .i64 gn) (.int .i64 0) (.int .i64 0))
 have HR := hid (aj (aM HB66.out (.int .i64 mr.k) (.int .i32 mr.c) (.bool mr.neg) (.slice p6.A p6.n p6.cp) (.string mr.t) (.slice p6.B p6.m p6.cap) (.int .i64 gn) (.int .i64 0) (.int .i64 0))).1
 try dsimp only
 go_wp2_with fail
 refine bodyPost_ret (v := .agg (gtC mr.k mr.c mr.neg p6.A p6.n p6.cp mr.t p6.B p6.m p6.cap gn 0 0)) ?_ rfl ?_
 · obtain ⟨e0, e1, e2, e3, e4, e5, e6, e7, e8⟩ := HR.out
   simp [results, Tryz.results44, go_sem, e0, e1, e2, e3, e4, e5, e6, e7, e8]
 · refine ⟨p6, by rw [HMR.out, HGN.out], ?_, HE.out⟩
   rw [<- HMR.out]
   refine (hd6.keep (ck w6 (w.heap.size + 1) (.int .i64 mr.k) (.int .i32 mr.c) (.bool mr.neg) (.slice p6.A p6.n p6.cp) (.string mr.t) (.slice p6.B p6.m p6.cap) (.int .i64 gn) (.int .i64 0) (.int .i64 0)) ?_).mono (fun b _ h => by omega)
   rintro b rfl
   exact ⟨by omega, ax HB66.out (by decide)⟩
end Go.Proofs.YtonnikipeokkaaaGreatDoor
