/- Rows of data; pairs made from a row's end. The document's re -/
import Derived.Test.YtonnikipeokkaaaGreatDoorPrMark
namespace Go.Proofs.YtonnikipeokkaaaGreatDoor
set_option maxRecDepth 100000
set_option maxHeartbeats 40000000
open Go.Lib (hid)
open Go.RowKit Go.Lib
theorem gQ : (Tryz.prog.info? 27).map (fun i => (i.zero, i.size, i.bytes)) = some (some (.agg #[.int .i64 0, .int .i32 0, .bool false, .slice none 0 0, .string ⟨#[]⟩, .slice none 0 0]), 6, 88) := by kernel_rfl
def dD (x : Raw × PV) : List Value := [.int .i64 x.1.k, .int .i32 x.1.c, .bool x.1.neg, .slice x.2.A x.2.n x.2.cp, .string x.1.t, .slice x.2.B x.2.m x.2.cap]
theorem cE {w : World} {base n c : Nat} {A : Option Addr} {xs : List Value} (h : w.ownsRow base 27 6 (.slice A n c) n xs) : ∀ b, (Value.slice A n c).ownBlock = some b -> base <= b /\ b < w.heap.size /\ ¬ eC w b := by
 intro b hb
 rcases h.2 with ⟨hv, h0⟩ | ⟨g, cap, cur, hv, hg, hh, h1, h2⟩
 · injection hv with e1 _ _
   subst e1
   cases hb
 · injection hv with e1 _ _
   subst e1
   injection hb with hb
   subst hb
   exact ⟨hg, ao hh, ax hh (by decide)⟩
theorem eo {w : World} {base k : Nat} {v : Value} {xs : List Value} (h : w.ownsRow base 27 6 v (k + 1) xs) : ∃ A c, v = .slice A (k + 1) c := by
 rcases h.2 with ⟨hv, h0⟩ | ⟨g, cap, cur, hv, _⟩
 · omega
 · exact ⟨_, _, hv⟩
theorem bH {S : Nat -> Prop} {w w' : World} {base n c : Nat} {A : Option Addr} {xs : List Value} (h : w.ownsRow base 27 6 (.slice A n c) n xs) (K : ah S w w') (hs : ∀ b, (Value.slice A n c).ownBlock = some b -> ¬ S b) : w'.ownsRow base 27 6 (.slice A n c) n xs := by
 refine ⟨h.1, ?_⟩
 rcases h.2 with ⟨hv, h0⟩ | ⟨g, cap, cur, hv, hg, hh, h1, h2⟩
 · exact .inl ⟨hv, h0⟩
 · refine .inr ⟨g, cap, cur, hv, hg, K.heap hh (hs g ?_), h1, h2⟩
   injection hv with e1 _ _
   subst e1
   rfl
theorem cT {w : World} {base n c : Nat} {A : Option Addr} {xs : List Value} (h : w.ownsRow base 27 6 (.slice A n c) n xs) : n <= c := by
 rcases h.2 with ⟨hv, h0⟩ | ⟨g, cap, cur, hv, hg, hh, h1, _⟩
 · omega
 · injection hv with _ _ e3
   omega
theorem d6 {w : World} {base n c : Nat} {A : Option Addr} {xs : List Value} (h : w.ownsRow base 27 6 (.slice A n c) n xs) (hn : 0 < n) : ∃ g, A = some ⟨g, 0, none⟩ /\ base <= g := by
 rcases h.2 with ⟨hv, h0⟩ | ⟨g, cap, cur, hv, hg, _⟩
 · omega
 · injection hv with e1 _ _
   exact ⟨g, e1, hg⟩
theorem lq : ∀ (xs : List (Raw × PV)) (i : Nat) (h : i < xs.length), ∀ f, f < 6 -> (xs.flatMap dD)[6 * i + f]? = (dD xs[i])[f]?
 | v :: vs, 0, _, f, hf => by
  rw [List.flatMap_cons, Nat.mul_zero, Nat.zero_add, List.getElem?_append_left (by unfold dD; exact hf)]
  rfl
 | v :: vs, i + 1, h, f, hf => by
  rw [List.flatMap_cons, List.getElem?_append_right (by unfold dD; simp only [List.length_cons, List.length_nil]; omega)]
  have : 6 * (i + 1) + f - (dD v).length = 6 * i + f := by unfold dD; simp only [List.length_cons, List.length_nil]; omega
  rw [this]
  exact lq vs i (by simpa using h) f hf
theorem eX {w : World} {base n c g : Nat} {xs : List (Raw × PV)} (h : w.ownsRow base 27 6 (.slice (some ⟨g, 0, none⟩) n c) n (xs.flatMap dD)) {i : Nat} (hi : i < xs.length) : dL w g 0 i xs[i].1 xs[i].2 := by
 intro f u hu
 have hf : f < 6 := by
  match f, hu with
  | 0, _ | 1, _ | 2, _ | 3, _ | 4, _ | 5, _ => omega
  | f + 6, hu => simp [il] at hu
 have h2 := lq xs i hi f hf
 have h3 : (dD xs[i])[f]? = some u := by
  match f, hu with
  | 0, hu | 1, hu | 2, hu | 3, hu | 4, hu | 5, hu => rw [<- hu]; rfl
  | f + 6, hu => simp [il] at hu
 rw [h3] at h2
 have := World.ownsRow.cellAt h (6 * i + f) (by
  have := (List.getElem?_eq_some_iff.1 h2).1
  rw [h.1] at this
  exact this)
 rw [Nat.zero_add, Nat.mul_comm i 6, this, h2]
structure MkS (Q : Nat -> Prop) (w : World) (rs : List Raw) (tail : Raw) (i B : Nat) (d : Raw) (pd : PV) (wr : World) : Prop where
 le : i <= rs.length
 eqd : d = cC (rs.drop i) tail
 at_ : au Q wr d pd
 hB : wr.heap[B]? = some (.cells #[.int .i64 d.k, .int .i32 d.c, .bool d.neg, .slice pd.A pd.n pd.cp, .string d.t, .slice pd.B pd.m pd.cap] 27 (0, 0))
 K : ah (fun b => b = B) w wr
theorem mg {rs : List Raw} {tail : Raw} {i : Nat} (h : i < rs.length) : cC (rs.drop i) tail = dr rs[i] (cC (rs.drop (i + 1)) tail) := by
 rw [List.drop_eq_getElem_cons h]; rfl
theorem MkS.drew {Q : Nat -> Prop} {w : World} {rs : List Raw} {tail : Raw} {i B : Nat} {d : Raw} {pd : PV} {wr : World} (h : MkS Q w rs tail i B d pd wr) : MkS Q w rs tail i B d pd wr.drew := ⟨h.le, h.eqd, h.at_.keep0 (kR.drew), h.hB, h.K.drew⟩
theorem MkS.step {Q : Nat -> Prop} {w : World} {rs : List Raw} {tail : Raw} {i B : Nat} {d : Raw} {pd : PV} {wr : World} (h : MkS Q w rs tail (i + 1) B d pd wr) {x : Raw} {v : PV} (hi : i < rs.length) (hx : x = rs[i]) (hv : au Q wr x v) (hQ : ∀ b, w.heap.size <= b -> Q b) (hnB : ¬ Q B) (_hBw : B < w.heap.size) :
 MkS Q w rs tail i B (dr x d) ⟨none, 0, 0, some ⟨wr.heap.size, 0, none⟩, 2, 2⟩ (aE (wr.alloc (.cells #[.int .i64 x.k, .int .i32 x.c, .bool x.neg, .slice v.A v.n v.cp, .string x.t, .slice v.B v.m v.cap, .int .i64 d.k, .int .i32 d.c, .bool d.neg, .slice pd.A pd.n pd.cp, .string d.t, .slice pd.B pd.m pd.cap] 27)) B (.int .i64 7) (.int .i32 0) (.bool false) (.slice none 0 0) (.string ⟨#[]⟩) (.slice (some ⟨wr.heap.size, 0, none⟩) 2 2)).drew := by
 have k2 : K0 wr (wr.alloc (.cells #[.int .i64 x.k, .int .i32 x.c, .bool x.neg, .slice v.A v.n v.cp, .string x.t, .slice v.B v.m v.cap, .int .i64 d.k, .int .i32 d.c, .bool d.neg, .slice pd.A pd.n pd.cp, .string d.t, .slice pd.B pd.m pd.cap] 27)) := kR.alloc _
 have h3 : (wr.alloc (.cells #[.int .i64 x.k, .int .i32 x.c, .bool x.neg, .slice v.A v.n v.cp, .string x.t, .slice v.B v.m v.cap, .int .i64 d.k, .int .i32 d.c, .bool d.neg, .slice pd.A pd.n pd.cp, .string d.t, .slice pd.B pd.m pd.cap] 27)).heap[B]? = _ := k2.heap h.hB id
 have hs := h.K.size
 have hp := au.pair (hv.keep0 k2) (h.at_.keep0 k2) (hN wr _) (hQ wr.heap.size hs)
 refine MkS.drew ⟨by omega, by rw [h.eqd, hx, mg hi], hp.keep (aq _ _ _ _ _ _ _ _) ?_, aQ h3 _ _ _ _ _ _, ?_⟩
 · rintro b rfl
   exact ⟨hnB, ax h3 (by decide)⟩
 · exact (h.K.trans (k2.mono (fun _ _ h => h.elim))).trans (aq _ _ _ _ _ _ _ _)
def p5 (s : ByteArray) (m : Nat) : Prop := ∀ (j deep : Nat) (t : Tk) (r : Got), Rd s.data.toList (.frm j t deep) r -> j + t.len <= s.size -> s.size < j + t.len + m -> t.beg -> t.kind <= 9 -> deep <= 64 -> ∀ (k c : Int) (neg : Bool) (A : Option Addr) (n cp : Nat) (x : ByteArray) (w : World), cz w t.d k c neg A n cp x ->
 Calls Tryz.prog 44 #[.string s, ar (t.kind : Int) (j : Int) ((j + t.len : Nat) : Int) t.sq k c neg A n cp x, .int .i64 (deep : Int)] w (bd r w)
def Oth (B : Nat) (v : Value) (b : Nat) : Prop := B <= b /\ v.ownBlock ≠ some b
structure gY (l : List UInt8) (o deep : Nat) (sq : Bool) (r : Got) (tc : Array Value) (w : World) (i dot : Nat) (xs : List (Raw × PV)) (tail : Raw) (pt : PV) (A : Option Addr) (n cap : Nat) (wr : World) : Prop where
 rd : Rd l (.lst o sq deep i (xs.map Prod.fst) dot tail) r
 cnt : n = xs.length
 dotle : dot <= 2
 ile : i <= l.length
 h4 : wr.heap[w.heap.size]? = some (.cells tc 29 (0, 0))
 h6 : wr.heap[w.heap.size + 1]? = some (.cells #[.int .i64 0, .int .i32 0, .bool false, .slice none 0 0, .string ⟨#[]⟩, .slice none 0 0, .int .i64 0, .int .i64 0, .int .i64 0] 43 (0, 0))
 h8 : wr.heap[w.heap.size + 2]? = some (.cells #[.int .i64 tail.k, .int .i32 tail.c, .bool tail.neg, .slice pt.A pt.n pt.cp, .string tail.t, .slice pt.B pt.m pt.cap] 27 (0, 0))
 own : wr.ownsRow (w.heap.size + 3) 27 6 (.slice A n cap) n (xs.flatMap dD)
 items : ∀ y ∈ xs, au (Oth (w.heap.size + 3) (.slice A n cap)) wr y.1 y.2
 tl : au (Oth (w.heap.size + 3) (.slice A n cap)) wr tail pt
 K : K0 w wr
 le : n <= i
theorem gY.lt {l : List UInt8} {o deep : Nat} {sq : Bool} {r : Got} {tc : Array Value} {w : World} {i dot : Nat} {xs : List (Raw × PV)} {tail : Raw} {pt : PV} {A : Option Addr} {n cap : Nat} {wr : World} (h : gY l o deep sq r tc w i dot xs tail pt A n cap wr) : w.heap.size + 2 < wr.heap.size := ao h.h8
theorem gY.go {l : List UInt8} {o deep : Nat} {sq : Bool} {r : Got} {tc : Array Value} {w : World} {i dot : Nat} {xs : List (Raw × PV)} {tail : Raw} {pt : PV} {A : Option Addr} {n cap : Nat} {wr : World} (h : gY l o deep sq r tc w i dot xs tail pt A n cap wr) {w2 : World} (K : K0 wr w2) {i' dot' : Nat} (rd : Rd l (.lst o sq deep i' (xs.map Prod.fst) dot' tail) r) (hd : dot' <= 2) (hi : i <= i') (hl : i' <= l.length) : gY l o deep sq r tc w i' dot' xs tail pt A n cap w2 :=
 ⟨rd, h.cnt, hd, hl, K.heap h.h4 id, K.heap h.h6 id, K.heap h.h8 id, bH h.own K (fun _ _ => id), fun y hy => (h.items y hy).keep0 K, h.tl.keep0 K, h.K.trans K, Nat.le_trans h.le hi⟩
theorem gY.item {l : List UInt8} {o deep : Nat} {sq : Bool} {r : Got} {tc : Array Value} {w : World} {i dot : Nat} {xs : List (Raw × PV)} {tail : Raw} {pt : PV} {A : Option Addr} {n cap : Nat} {wr w2 w3 : World} {d : Raw} {p : PV} (h : gY l o deep sq r tc w i dot xs tail pt A n cap wr) (K : K0 wr w2) {i' : Nat} (rd : Rd l (.lst o sq deep i' (xs.map Prod.fst ++ [d]) dot tail) r) (hi : i < i') (hl : i' <= l.length)
 (hd : au (fun b => wr.heap.size <= b) w2 d p) {v' : Value} (hown : w3.ownsRow (w.heap.size + 3) 27 6 v' (n + 1) (xs.flatMap dD ++ dD (d, p))) (hg : w2.grownBy w3 (Value.slice A n cap).ownBlock) (hb : v'.ownBlock = (Value.slice A n cap).ownBlock \/ v'.ownBlock = some w2.heap.size) :
 ∃ A' c', v' = .slice A' (n + 1) c' /\ gY l o deep sq r tc w i' dot (xs ++ [(d, p)]) tail pt A' (n + 1) c' w3 := by
 obtain ⟨A', c', rfl⟩ := eo hown
 have hoff := cE h.own
 have hoff2 := cE (bH h.own K (fun _ _ => id))
 have KG : ah (fun b => (Value.slice A n cap).ownBlock = some b) w2 w3 := kR.grown hg (fun k hk => .inl hk)
 have hlt := h.lt
 have hs := K.size
 have key : ∀ y q, au (Oth (w.heap.size + 3) (.slice A n cap)) w2 y q -> au (Oth (w.heap.size + 3) (.slice A' (n + 1) c')) w3 y q := fun y q hy => by
  have h1 : au (fun b => Oth (w.heap.size + 3) (.slice A n cap) b /\ b < w2.heap.size) w2 y q := hy.mono (fun b hb ho => ⟨ho, hb⟩)
  refine (h1.keep KG (fun b hb => ⟨fun hq => hq.1.2 hb, (hoff2 b hb).2.2⟩)).mono (fun b _ hq => ⟨hq.1.1, fun e => ?_⟩)
  rcases hb with hb | hb
  · rw [hb] at e; exact hq.1.2 e
  · rw [hb] at e; injection e with e; omega
 refine ⟨A', c', rfl, by rw [List.map_append]; exact rd, by rw [List.length_append, h.cnt]; rfl, h.dotle, hl, ?_, ?_, ?_, by rw [List.flatMap_append]; simpa using hown, ?_, key _ _ (h.tl.keep0 K), (h.K.trans K).grown hg (fun k hk => .inr (by have := (hoff k hk).1; omega)), by have := h.le; omega⟩
 · exact KG.heap (K.heap h.h4 id) (fun hb => by have := (hoff _ hb).1; omega)
 · exact KG.heap (K.heap h.h6 id) (fun hb => by have := (hoff _ hb).1; omega)
 · exact KG.heap (K.heap h.h8 id) (fun hb => by have := (hoff _ hb).1; omega)
 · intro y hy
   rcases List.mem_append.1 hy with hy | hy
   · exact key _ _ ((h.items y hy).keep0 K)
   · rw [List.mem_singleton.1 hy]
     exact key d p (hd.mono (fun b _ hb => ⟨by omega, fun e => by have := (hoff b e).2.1; omega⟩))
theorem gY.tail {l : List UInt8} {o deep : Nat} {sq : Bool} {r : Got} {tc : Array Value} {w : World} {i dot : Nat} {xs : List (Raw × PV)} {tail : Raw} {pt : PV} {A : Option Addr} {n cap : Nat} {wr w2 : World} {d : Raw} {p : PV} (h : gY l o deep sq r tc w i dot xs tail pt A n cap wr) (K : K0 wr w2) {i' : Nat} (rd : Rd l (.lst o sq deep i' (xs.map Prod.fst) 2 d) r) (hi : i <= i') (hl : i' <= l.length)
 (hd : au (fun b => wr.heap.size <= b) w2 d p) : gY l o deep sq r tc w i' 2 xs d p A n cap (aE w2 (w.heap.size + 2) (.int .i64 d.k) (.int .i32 d.c) (.bool d.neg) (.slice p.A p.n p.cp) (.string d.t) (.slice p.B p.m p.cap)) := by
 have hlt := h.lt
 have hoff := cE h.own
 have h8 := K.heap h.h8 id
 have ks := aq w2 (w.heap.size + 2) (.int .i64 d.k) (.int .i32 d.c) (.bool d.neg) (.slice p.A p.n p.cp) (.string d.t) (.slice p.B p.m p.cap)
 have key : ∀ y q, au (Oth (w.heap.size + 3) (.slice A n cap)) w2 y q -> au (Oth (w.heap.size + 3) (.slice A n cap)) (aE w2 (w.heap.size + 2) (.int .i64 d.k) (.int .i32 d.c) (.bool d.neg) (.slice p.A p.n p.cp) (.string d.t) (.slice p.B p.m p.cap)) y q := fun y q hy => hy.keep ks (by rintro b rfl; exact ⟨fun hq => by have := hq.1; omega, ax h8 (by decide)⟩)
 exact ⟨rd, h.cnt, Nat.le_refl _, hl, dQ (K.heap h.h4 id) (by omega) _ _ _ _ _ _, dQ (K.heap h.h6 id) (by omega) _ _ _ _ _ _, aQ h8 _ _ _ _ _ _, bH (bH h.own K (fun _ _ => id)) ks (fun b hb e => by have := (hoff b hb).1; omega), fun y hy => key _ _ ((h.items y hy).keep0 K),
  key d p (hd.mono (fun b _ hb => ⟨by omega, fun e => by have := (hoff b e).2.1; omega⟩)), (h.K.trans K).into ks (by rintro b rfl; omega), Nat.le_trans h.le hi⟩
theorem fU {w : World} {B : Nat} {x0 x1 x2 x3 x4 x5 : Value} (h : w.heap[B]? = some (.cells #[x0, x1, x2, x3, x4, x5] 27 (0, 0))) : ∀ j u, [x0, x1, x2, x3, x4, x5][j]? = some u -> w.cell? ((⟨B, 0, none⟩ : Addr).add j) = some u := by
 intro j u hu
 rw [Addr.add_lit, Nat.zero_add, cell_of_row w _ _ _ _ _ h, <- hu]
 simp
theorem oN (s : ByteArray) (m : Nat) (IH : p5 s m) (o deep i0 : Nat) (sq : Bool) (r : Got) (hi0 : i0 <= s.size) (hm : s.size <= i0 + m) (hdp : deep <= 64) (hr : Rd s.data.toList (.lst o sq deep i0 [] 0 .nil) r) (kind : Int) (k c : Int) (neg : Bool) (A0 : Option Addr) (n0 cp0 : Nat) (x : ByteArray) (w : World) :
 Calls Tryz.prog 72 #[.string s, ar kind (o : Int) (i0 : Int) sq k c neg A0 n0 cp0 x, .int .i64 (deep : Int)] w (bd r w) := by
 have HZ := hid (show s.data.toList.length = s.size from (Lib.size_eq s).symm)
 have HNX := hid (fun (i : Nat) (W : World) => fN s (i : Int) W)
 have HST := hid (show gY s.data.toList o deep sq r #[.int .i64 kind, .int .i64 (o : Int), .int .i64 (i0 : Int), .bool sq, .int .i64 k, .int .i32 c, .bool neg, .slice A0 n0 cp0, .string x, .slice none 0 0] w i0 0 [] .nil PV.none none 0 0 (((w.alloc (.cells #[.int .i64 kind, .int .i64 (o : Int), .int .i64 (i0 : Int), .bool sq, .int .i64 k, .int .i32 c, .bool neg, .slice A0 n0 cp0, .string x, .slice none 0 0] 29)).alloc (.cells #[.int .i64 0, .int .i32 0, .bool false, .slice none 0 0, .string ⟨#[]⟩, .slice none 0 0, .int .i64 0, .int .i64 0, .int .i64 0] 43)).alloc (.cells #[.int .i64 0, .int .i32 0, .bool false, .slice none 0 0, .string ⟨#[]⟩, .slice none 0 0] 27)) from ⟨hr, rfl, by omega, by rw [HZ.out]; exact hi0, ac (ac (hN w _) _) _, ac (by have := hN (w.alloc (.cells #[.int .i64 kind, .int .i64 (o : Int), .int .i64 (i0 : Int), .bool sq, .int .i64 k, .int .i32 c, .bool neg, .slice A0 n0 cp0, .string x, .slice none 0 0] 29)) (.cells #[.int .i64 0, .int .i32 0, .bool false, .slice none 0 0, .string ⟨#[]⟩, .slice none 0 0, .int .i64 0, .int .i64 0, .int .i64 0] 43); rwa [World.size_alloc] at this) _, by have := hN ((w.alloc (.cells #[.int .i64 kind, .int .i64 (o : Int), .int .i64 (i0 : Int), .bool sq, .int .i64 k, .int .i32 c, .bool neg, .slice A0 n0 cp0, .string x, .slice none 0 0] 29)).alloc (.cells #[.int .i64 0, .int .i32 0, .bool false, .slice none 0 0, .string ⟨#[]⟩, .slice none 0 0, .int .i64 0, .int .i64 0, .int .i64 0] 43)) (.cells #[.int .i64 0, .int .i32 0, .bool false, .slice none 0 0, .string ⟨#[]⟩, .slice none 0 0] 27); rwa [World.size_alloc, World.size_alloc] at this, ⟨rfl, .inl ⟨rfl, rfl⟩⟩, fun y hy => absurd hy (by simp), bo.nil _ _ _, ((kR.alloc _).alloc _).alloc _, Nat.zero_le _⟩)
 obtain ⟨⟨a0, a1, a2, a3, a4, a5, a6, a7, a8, a9⟩, _⟩ := aa HST.out.h4
 clear hr
 obtain ⟨i27, h27, hz0, hz1, hz2⟩ := info_parts gQ
 go_enter Tryz.func72, Tryz.ntmps72
 go_wp2_with fail
 clear a0 a1 a2 a3 a4 a5 a6 a7 a8 a9
 generalize (((w.alloc (.cells #[.int .i64 kind, .int .i64 (o : Int), .int .i64 (i0 : Int), .bool sq, .int .i64 k, .int .i32 c, .bool neg, .slice A0 n0 cp0, .string x, .slice none 0 0] 29)).alloc (.cells #[.int .i64 0, .int .i32 0, .bool false, .slice none 0 0, .string ⟨#[]⟩, .slice none 0 0, .int .i64 0, .int .i64 0, .int .i64 0] 43)).alloc (.cells #[.int .i64 0, .int .i32 0, .bool false, .slice none 0 0, .string ⟨#[]⟩, .slice none 0 0] 27)) = w1 at *
 go_loopw [7, 9, 10] (fun lv dv iv wr => ∃ (i dot n cap : Nat) (xs : List (Raw × PV)) (tail : Raw) (pt : PV) (A : Option Addr), lv = .slice A n cap /\ dv = .int .i64 (dot : Int) /\ iv = .int .i64 (i : Int) /\ i0 <= i /\ gY s.data.toList o deep sq r #[.int .i64 kind, .int .i64 (o : Int), .int .i64 (i0 : Int), .bool sq, .int .i64 k, .int .i32 c, .bool neg, .slice A0 n0 cp0, .string x, .slice none 0 0] w i dot xs tail pt A n cap wr) (fun _ _ iv _ => s.size - (intOf iv).toNat)
 case atStart => exact ⟨i0, 0, 0, 0, [], .nil, PV.none, none, rfl, rfl, rfl, Nat.le_refl _, HST.out⟩
 case round =>
  obtain ⟨i, dot, n, cap, xs, tail, pt, A, rfl, rfl, rfl, hii, hst⟩ := hrel
  have HS := hid hst
  have hrd := hst.rd
  have HCAP := hid (cT hst.own)
  have HI := hid (show i <= s.size by rw [<- HZ.out]; exact hst.ile)
  clear hst HST
  go_wp2_with fail
  refine (HNX.out i _).mono ?_
  intro e w2 hres
  obtain ⟨items, hit⟩ : ∃ items, items = xs.map Prod.fst := ⟨_, rfl⟩
  rw [<- hit] at hrd
  have HIT := hid hit
  clear hit
  cases hrd with
  | @lstLex _ _ _ _ q cc _ _ _ nn =>
   rw [nn] at hres
   obtain ⟨rfl, k2⟩ := hres
   have g0 : ((cc : Int) != 0) = true := by have := ej nn; simp; omega
   have HB4 := hid (ac (k2.heap HS.out.h4 id) (.cells #[.int .i64 0, .int .i64 0, .int .i64 0, .bool false, .int .i64 0, .int .i32 0, .bool false, .slice none 0 0, .string ⟨#[]⟩, .slice none 0 0] 29))
   have HB6 := hid (ac (k2.heap HS.out.h6 id) (.cells #[.int .i64 0, .int .i64 0, .int .i64 0, .bool false, .int .i64 0, .int .i32 0, .bool false, .slice none 0 0, .string ⟨#[]⟩, .slice none 0 0] 29))
   have HB8 := hid (ac (k2.heap HS.out.h8 id) (.cells #[.int .i64 0, .int .i64 0, .int .i64 0, .bool false, .int .i64 0, .int .i32 0, .bool false, .slice none 0 0, .string ⟨#[]⟩, .slice none 0 0] 29))
   have HBT := hid (hN w2 (.cells #[.int .i64 0, .int .i64 0, .int .i64 0, .bool false, .int .i64 0, .int .i32 0, .bool false, .slice none 0 0, .string ⟨#[]⟩, .slice none 0 0] 29))
   have K2w := hid k2.size
   have K2 := hid (k2.alloc (.cells #[.int .i64 0, .int .i64 0, .int .i64 0, .bool false, .int .i64 0, .int .i32 0, .bool false, .slice none 0 0, .string ⟨#[]⟩, .slice none 0 0] 29))
   have HK2 := hid (HS.out.K.trans K2.out)
   clear k2
   try dsimp only
   go_wp2_with fail
   refine (bD (q : Int) (cc : Int) _).mono ?_
   rintro e w5 ⟨rfl, k5⟩
   have HB65 := hid (k5.heap HB6.out id)
   have HK5 := hid (HK2.out.trans k5)
   clear k5
   obtain ⟨⟨z0, z1, z2, z3, z4, z5, z6, z7, z8⟩, y0, y1, y2, y3, y4, y5, y6, y7, y8⟩ := aj HB65.out
   have HE := hid (aB HK5.out (show w.heap.size <= w.heap.size + 1 by omega) (.int .i64 0) (.int .i32 0) (.bool false) (.slice none 0 0) (.string ⟨#[]⟩) (.slice none 0 0) (.int .i64 0) (.int .i64 (q : Int)) (.int .i64 (cc : Int)))
   have HR := hid (aj (aM HB65.out (.int .i64 0) (.int .i32 0) (.bool false) (.slice none 0 0) (.string ⟨#[]⟩) (.slice none 0 0) (.int .i64 0) (.int .i64 (q : Int)) (.int .i64 (cc : Int)))).1
   try dsimp only
   go_wp2_with fail
   refine bodyPost_ret (v := .agg #[.int .i64 0, .int .i32 0, .bool false, .slice none 0 0, .string ⟨#[]⟩, .slice none 0 0, .int .i64 0, .int .i64 (q : Int), .int .i64 (cc : Int)]) ?_ rfl ?_
   · obtain ⟨e0, e1, e2, e3, e4, e5, e6, e7, e8⟩ := HR.out
     simp [results, Tryz.results72, go_sem, e0, e1, e2, e3, e4, e5, e6, e7, e8]
   · exact ⟨rfl, HE.out⟩
  | @lstEnd _ _ _ _ kk u _ _ _ nn hu =>
   rw [nn] at hres
   obtain ⟨dk, dc, dneg, A2, n2, cp2, x2, he, hlf, k2⟩ := hres
   obtain ⟨uk, huk⟩ : ∃ z : Int, z = (u.kind : Int) := ⟨_, rfl⟩
   obtain ⟨ua, hua⟩ : ∃ z : Int, z = (kk : Int) := ⟨_, rfl⟩
   obtain ⟨ue, hue⟩ : ∃ z : Int, z = ((kk + u.len : Nat) : Int) := ⟨_, rfl⟩
   obtain ⟨uq, huq⟩ : ∃ z : Bool, z = u.sq := ⟨_, rfl⟩
   rw [<- huk, <- hua, <- hue, <- huq] at he
   subst he
   have HUA := hid hua
   have HUE := hid hue
   have hzz : ((0 : Int) != 0) = false := by decide
   have p0 : (uk == 0) = true := by rw [huk, hu]; rfl
   have HB4 := hid (ac (k2.heap HS.out.h4 id) (.cells #[.int .i64 uk, .int .i64 ua, .int .i64 ue, .bool uq, .int .i64 dk, .int .i32 dc, .bool dneg, .slice A2 n2 cp2, .string x2, .slice none 0 0] 29))
   have HB6 := hid (ac (k2.heap HS.out.h6 id) (.cells #[.int .i64 uk, .int .i64 ua, .int .i64 ue, .bool uq, .int .i64 dk, .int .i32 dc, .bool dneg, .slice A2 n2 cp2, .string x2, .slice none 0 0] 29))
   have HB8 := hid (ac (k2.heap HS.out.h8 id) (.cells #[.int .i64 uk, .int .i64 ua, .int .i64 ue, .bool uq, .int .i64 dk, .int .i32 dc, .bool dneg, .slice A2 n2 cp2, .string x2, .slice none 0 0] 29))
   have HBT := hid (hN w2 (.cells #[.int .i64 uk, .int .i64 ua, .int .i64 ue, .bool uq, .int .i64 dk, .int .i32 dc, .bool dneg, .slice A2 n2 cp2, .string x2, .slice none 0 0] 29))
   have K2w := hid k2.size
   have K2 := hid (k2.alloc (.cells #[.int .i64 uk, .int .i64 ua, .int .i64 ue, .bool uq, .int .i64 dk, .int .i32 dc, .bool dneg, .slice A2 n2 cp2, .string x2, .slice none 0 0] 29))
   have HK2 := hid (HS.out.K.trans K2.out)
   clear k2
   obtain ⟨⟨b0, b1, b2, b3, b4, b5, b6, b7, b8, b9⟩, _⟩ := aa HBT.out
   obtain ⟨⟨a0, a1, a2, a3, a4, a5, a6, a7, a8, a9⟩, _⟩ := aa HB4.out
   clear hu huk hua hue huq hlf
   try dsimp only
   go_wp2_with fail
   refine (bD (o : Int) 11 _).mono ?_
   rintro e w5 ⟨rfl, k5⟩
   have HB65 := hid (k5.heap HB6.out id)
   have HK5 := hid (HK2.out.trans k5)
   clear k5
   obtain ⟨⟨z0, z1, z2, z3, z4, z5, z6, z7, z8⟩, y0, y1, y2, y3, y4, y5, y6, y7, y8⟩ := aj HB65.out
   have HE := hid (aB HK5.out (show w.heap.size <= w.heap.size + 1 by omega) (.int .i64 0) (.int .i32 0) (.bool false) (.slice none 0 0) (.string ⟨#[]⟩) (.slice none 0 0) (.int .i64 0) (.int .i64 (o : Int)) (.int .i64 11))
   have HR := hid (aj (aM HB65.out (.int .i64 0) (.int .i32 0) (.bool false) (.slice none 0 0) (.string ⟨#[]⟩) (.slice none 0 0) (.int .i64 0) (.int .i64 (o : Int)) (.int .i64 11))).1
   try dsimp only
   go_wp2_with fail
   refine bodyPost_ret (v := .agg #[.int .i64 0, .int .i32 0, .bool false, .slice none 0 0, .string ⟨#[]⟩, .slice none 0 0, .int .i64 0, .int .i64 (o : Int), .int .i64 11]) ?_ rfl ?_
   · obtain ⟨e0, e1, e2, e3, e4, e5, e6, e7, e8⟩ := HR.out
     simp [results, Tryz.results72, go_sem, e0, e1, e2, e3, e4, e5, e6, e7, e8]
   · exact ⟨rfl, HE.out⟩
  | @lstBad _ _ _ _ kk u _ _ _ nn hu hb =>
   rw [nn] at hres
   obtain ⟨dk, dc, dneg, A2, n2, cp2, x2, he, hlf, k2⟩ := hres
   obtain ⟨uk, huk⟩ : ∃ z : Int, z = (u.kind : Int) := ⟨_, rfl⟩
   obtain ⟨ua, hua⟩ : ∃ z : Int, z = (kk : Int) := ⟨_, rfl⟩
   obtain ⟨ue, hue⟩ : ∃ z : Int, z = ((kk + u.len : Nat) : Int) := ⟨_, rfl⟩
   obtain ⟨uq, huq⟩ : ∃ z : Bool, z = u.sq := ⟨_, rfl⟩
   rw [<- huk, <- hua, <- hue, <- huq] at he
   subst he
   have HUA := hid hua
   have HUE := hid hue
   have hzz : ((0 : Int) != 0) = false := by decide
   have p0 : (uk == 0) = false := by rw [huk, hu]; rfl
   have p2 : (uk == 2) = true := by rw [huk, hu]; rfl
   by_cases hq : u.sq = sq
   · have hx : sq = uq := by rw [huq, hq]
     subst hx
     have q1 : (sq != sq) = false := by simp
     have q2 : ((dot : Int) == 1) = true := by rcases hb with hb | hb; exact absurd hq hb; rw [hb]; rfl
     have HB4 := hid (ac (k2.heap HS.out.h4 id) (.cells #[.int .i64 uk, .int .i64 ua, .int .i64 ue, .bool sq, .int .i64 dk, .int .i32 dc, .bool dneg, .slice A2 n2 cp2, .string x2, .slice none 0 0] 29))
     have HB6 := hid (ac (k2.heap HS.out.h6 id) (.cells #[.int .i64 uk, .int .i64 ua, .int .i64 ue, .bool sq, .int .i64 dk, .int .i32 dc, .bool dneg, .slice A2 n2 cp2, .string x2, .slice none 0 0] 29))
     have HB8 := hid (ac (k2.heap HS.out.h8 id) (.cells #[.int .i64 uk, .int .i64 ua, .int .i64 ue, .bool sq, .int .i64 dk, .int .i32 dc, .bool dneg, .slice A2 n2 cp2, .string x2, .slice none 0 0] 29))
     have HBT := hid (hN w2 (.cells #[.int .i64 uk, .int .i64 ua, .int .i64 ue, .bool sq, .int .i64 dk, .int .i32 dc, .bool dneg, .slice A2 n2 cp2, .string x2, .slice none 0 0] 29))
     have K2w := hid k2.size
     have K2 := hid (k2.alloc (.cells #[.int .i64 uk, .int .i64 ua, .int .i64 ue, .bool sq, .int .i64 dk, .int .i32 dc, .bool dneg, .slice A2 n2 cp2, .string x2, .slice none 0 0] 29))
     have HK2 := hid (HS.out.K.trans K2.out)
     clear k2
     obtain ⟨⟨b0, b1, b2, b3, b4, b5, b6, b7, b8, b9⟩, _⟩ := aa HBT.out
     obtain ⟨⟨a0, a1, a2, a3, a4, a5, a6, a7, a8, a9⟩, _⟩ := aa HB4.out
     clear hu hb hq huk hua hue huq hlf
     try dsimp only
     go_wp2_with fail
     refine (bD ua 9 _).mono ?_
     rintro e w5 ⟨rfl, k5⟩
     have HB65 := hid (k5.heap HB6.out id)
     have HK5 := hid (HK2.out.trans k5)
     clear k5
     obtain ⟨⟨z0, z1, z2, z3, z4, z5, z6, z7, z8⟩, y0, y1, y2, y3, y4, y5, y6, y7, y8⟩ := aj HB65.out
     have HE := hid (aB HK5.out (show w.heap.size <= w.heap.size + 1 by omega) (.int .i64 0) (.int .i32 0) (.bool false) (.slice none 0 0) (.string ⟨#[]⟩) (.slice none 0 0) (.int .i64 0) (.int .i64 ua) (.int .i64 9))
     have HR := hid (aj (aM HB65.out (.int .i64 0) (.int .i32 0) (.bool false) (.slice none 0 0) (.string ⟨#[]⟩) (.slice none 0 0) (.int .i64 0) (.int .i64 ua) (.int .i64 9))).1
     try dsimp only
     go_wp2_with fail
     refine bodyPost_ret (v := .agg #[.int .i64 0, .int .i32 0, .bool false, .slice none 0 0, .string ⟨#[]⟩, .slice none 0 0, .int .i64 0, .int .i64 ua, .int .i64 9]) ?_ rfl ?_
     · obtain ⟨e0, e1, e2, e3, e4, e5, e6, e7, e8⟩ := HR.out
       simp [results, Tryz.results72, go_sem, e0, e1, e2, e3, e4, e5, e6, e7, e8]
     · exact ⟨by rw [HUA.out]; rfl, HE.out⟩
   · have hx : (!sq) = uq := by rw [huq]; revert hq; cases sq <;> cases u.sq <;> simp
     subst hx
     have q1 : ((!sq) != sq) = true := by cases sq <;> rfl
     have HB4 := hid (ac (k2.heap HS.out.h4 id) (.cells #[.int .i64 uk, .int .i64 ua, .int .i64 ue, .bool (!sq), .int .i64 dk, .int .i32 dc, .bool dneg, .slice A2 n2 cp2, .string x2, .slice none 0 0] 29))
     have HB6 := hid (ac (k2.heap HS.out.h6 id) (.cells #[.int .i64 uk, .int .i64 ua, .int .i64 ue, .bool (!sq), .int .i64 dk, .int .i32 dc, .bool dneg, .slice A2 n2 cp2, .string x2, .slice none 0 0] 29))
     have HB8 := hid (ac (k2.heap HS.out.h8 id) (.cells #[.int .i64 uk, .int .i64 ua, .int .i64 ue, .bool (!sq), .int .i64 dk, .int .i32 dc, .bool dneg, .slice A2 n2 cp2, .string x2, .slice none 0 0] 29))
     have HBT := hid (hN w2 (.cells #[.int .i64 uk, .int .i64 ua, .int .i64 ue, .bool (!sq), .int .i64 dk, .int .i32 dc, .bool dneg, .slice A2 n2 cp2, .string x2, .slice none 0 0] 29))
     have K2w := hid k2.size
     have K2 := hid (k2.alloc (.cells #[.int .i64 uk, .int .i64 ua, .int .i64 ue, .bool (!sq), .int .i64 dk, .int .i32 dc, .bool dneg, .slice A2 n2 cp2, .string x2, .slice none 0 0] 29))
     have HK2 := hid (HS.out.K.trans K2.out)
     clear k2
     obtain ⟨⟨b0, b1, b2, b3, b4, b5, b6, b7, b8, b9⟩, _⟩ := aa HBT.out
     obtain ⟨⟨a0, a1, a2, a3, a4, a5, a6, a7, a8, a9⟩, _⟩ := aa HB4.out
     clear hu hb hq huk hua hue huq hlf
     try dsimp only
     go_wp2_with fail
     refine (bD ua 9 _).mono ?_
     rintro e w5 ⟨rfl, k5⟩
     have HB65 := hid (k5.heap HB6.out id)
     have HK5 := hid (HK2.out.trans k5)
     clear k5
     obtain ⟨⟨z0, z1, z2, z3, z4, z5, z6, z7, z8⟩, y0, y1, y2, y3, y4, y5, y6, y7, y8⟩ := aj HB65.out
     have HE := hid (aB HK5.out (show w.heap.size <= w.heap.size + 1 by omega) (.int .i64 0) (.int .i32 0) (.bool false) (.slice none 0 0) (.string ⟨#[]⟩) (.slice none 0 0) (.int .i64 0) (.int .i64 ua) (.int .i64 9))
     have HR := hid (aj (aM HB65.out (.int .i64 0) (.int .i32 0) (.bool false) (.slice none 0 0) (.string ⟨#[]⟩) (.slice none 0 0) (.int .i64 0) (.int .i64 ua) (.int .i64 9))).1
     try dsimp only
     go_wp2_with fail
     refine bodyPost_ret (v := .agg #[.int .i64 0, .int .i32 0, .bool false, .slice none 0 0, .string ⟨#[]⟩, .slice none 0 0, .int .i64 0, .int .i64 ua, .int .i64 9]) ?_ rfl ?_
     · obtain ⟨e0, e1, e2, e3, e4, e5, e6, e7, e8⟩ := HR.out
       simp [results, Tryz.results72, go_sem, e0, e1, e2, e3, e4, e5, e6, e7, e8]
     · exact ⟨by rw [HUA.out]; rfl, HE.out⟩
  | @lstOk _ _ _ _ kk u _ _ _ nn hu hb hd =>
   rw [nn] at hres
   obtain ⟨dk, dc, dneg, A2, n2, cp2, x2, he, hlf, k2⟩ := hres
   obtain ⟨uk, huk⟩ : ∃ z : Int, z = (u.kind : Int) := ⟨_, rfl⟩
   obtain ⟨ua, hua⟩ : ∃ z : Int, z = (kk : Int) := ⟨_, rfl⟩
   obtain ⟨ue, hue⟩ : ∃ z : Int, z = ((kk + u.len : Nat) : Int) := ⟨_, rfl⟩
   obtain ⟨uq, huq⟩ : ∃ z : Bool, z = u.sq := ⟨_, rfl⟩
   rw [<- huk, <- hua, <- hue, <- huq] at he
   subst he
   have HUA := hid hua
   have HUE := hid hue
   have hzz : ((0 : Int) != 0) = false := by decide
   have p0 : (uk == 0) = false := by rw [huk, hu]; rfl
   have p2 : (uk == 2) = true := by rw [huk, hu]; rfl
   have hx : sq = uq := by rw [huq, hb]
   subst hx
   have q1 : (sq != sq) = false := by simp
   have q2 : ((dot : Int) == 1) = false := by simp; omega
   have hln := (cJ nn).1
   have hn4 : n <= 4096 := by have := HS.out.le; have := HI.out; have := HZ.out; omega
   have HB4 := hid (ac (k2.heap HS.out.h4 id) (.cells #[.int .i64 uk, .int .i64 ua, .int .i64 ue, .bool sq, .int .i64 dk, .int .i32 dc, .bool dneg, .slice A2 n2 cp2, .string x2, .slice none 0 0] 29))
   have HB6 := hid (ac (k2.heap HS.out.h6 id) (.cells #[.int .i64 uk, .int .i64 ua, .int .i64 ue, .bool sq, .int .i64 dk, .int .i32 dc, .bool dneg, .slice A2 n2 cp2, .string x2, .slice none 0 0] 29))
   have HB8 := hid (ac (k2.heap HS.out.h8 id) (.cells #[.int .i64 uk, .int .i64 ua, .int .i64 ue, .bool sq, .int .i64 dk, .int .i32 dc, .bool dneg, .slice A2 n2 cp2, .string x2, .slice none 0 0] 29))
   have HBT := hid (hN w2 (.cells #[.int .i64 uk, .int .i64 ua, .int .i64 ue, .bool sq, .int .i64 dk, .int .i32 dc, .bool dneg, .slice A2 n2 cp2, .string x2, .slice none 0 0] 29))
   have K2w := hid k2.size
   have K2 := hid (k2.alloc (.cells #[.int .i64 uk, .int .i64 ua, .int .i64 ue, .bool sq, .int .i64 dk, .int .i32 dc, .bool dneg, .slice A2 n2 cp2, .string x2, .slice none 0 0] 29))
   have HK2 := hid (HS.out.K.trans K2.out)
   clear k2
   obtain ⟨⟨b0, b1, b2, b3, b4, b5, b6, b7, b8, b9⟩, _⟩ := aa HBT.out
   obtain ⟨⟨a0, a1, a2, a3, a4, a5, a6, a7, a8, a9⟩, _⟩ := aa HB4.out
   have HLT := hid HS.out.lt
   have HK3 := hid K2.out.size
   have HK3w := hid (show wr.heap.size <= w2.heap.size from K2w.out)
   obtain ⟨w3, hw3⟩ : ∃ w3, w3 = w2.alloc (.cells #[.int .i64 uk, .int .i64 ua, .int .i64 ue, .bool sq, .int .i64 dk, .int .i32 dc, .bool dneg, .slice A2 n2 cp2, .string x2, .slice none 0 0] 29) := ⟨_, rfl⟩
   have HMK := hid (show MkS (Oth (w.heap.size + 3) (.slice A n cap)) w3 items tail items.length (w.heap.size + 2) tail pt w3 from ⟨Nat.le_refl _, by rw [List.drop_of_length_le (Nat.le_refl _)]; rfl, by rw [hw3]; exact HS.out.tl.keep0 K2.out, by rw [hw3]; exact HB8.out, kR⟩)
   have HLEN := hid (show items.length = n by rw [HIT.out, List.length_map, HS.out.cnt])
   clear hu hb hd hln nn huk hua hue huq hlf
   try dsimp only
   go_wp2_with fail
   rw [<- hw3] at HB4 HB6 HB8 HBT K2 HK2 HK3 ⊢
   clear hw3 a0 a1 a2 a3 a4 a5 a6 a7 a8 a9 b0 b1 b2 b3 b4 b5 b6 b7 b8 b9
   go_loopw [14] (fun jv wr => ∃ (j : Nat) (d : Raw) (pd : PV), jv = .int .i64 ((j : Int) - 1) /\ MkS (Oth (w.heap.size + 3) (.slice A n cap)) w3 items tail j (w.heap.size + 2) d pd wr) (fun jv _ => (intOf jv + 1).toNat)
   case atStart => exact ⟨items.length, tail, pt, by rw [HLEN.out], HMK.out⟩
   case round =>
    obtain ⟨j, d, pd, rfl, hst⟩ := hrel
    have HM := hid hst
    have hle := hst.le
    clear hst HMK
    have HBQ := hid (show w.heap.size + 2 < wr.heap.size from ao HM.out.hB)
    cases j with
    | zero =>
     have l1 : decide ((0 : Int) <= ((0 : Nat) : Int) - 1) = false := by decide
     have HB6q := hid (HM.out.K.heap HB6.out (by omega))
     have HBTq := hid (HM.out.K.heap HBT.out (by have := HLT.out; have := HK3w.out; omega))
     obtain ⟨⟨c0, c1, c2, c3, c4, c5⟩, _⟩ := ab HM.out.hB
     obtain ⟨⟨b0, b1, b2, b3, b4, b5, b6, b7, b8, b9⟩, _⟩ := aa HBTq.out
     have HKq := hid (HK2.out.into HM.out.K (by rintro b rfl; omega))
     have HDT := hid (show au (Oth (w.heap.size + 3) (.slice A n cap)) wr (cC items tail) pd from by have h1 := HM.out.at_; have h2 := HM.out.eqd; rw [List.drop_zero] at h2; rw [<- h2]; exact h1)
     have HDE := hid (show d = cC items tail from by have h2 := HM.out.eqd; rwa [List.drop_zero] at h2)
     obtain ⟨⟨z0, z1, z2, z3, z4, z5, z6, z7, z8⟩, y0, y1, y2, y3, y4, y5, y6, y7, y8⟩ := aj HB6q.out
     have HE := hid (aB HKq.out (show w.heap.size <= w.heap.size + 1 by omega) (.int .i64 d.k) (.int .i32 d.c) (.bool d.neg) (.slice pd.A pd.n pd.cp) (.string d.t) (.slice pd.B pd.m pd.cap) (.int .i64 ue) (.int .i64 0) (.int .i64 0))
     have HR := hid (aj (aM HB6q.out (.int .i64 d.k) (.int .i32 d.c) (.bool d.neg) (.slice pd.A pd.n pd.cp) (.string d.t) (.slice pd.B pd.m pd.cap) (.int .i64 ue) (.int .i64 0) (.int .i64 0))).1
     try dsimp only
     go_wp2_with fail
     refine bodyPost_ret (v := .agg #[.int .i64 d.k, .int .i32 d.c, .bool d.neg, .slice pd.A pd.n pd.cp, .string d.t, .slice pd.B pd.m pd.cap, .int .i64 ue, .int .i64 0, .int .i64 0]) ?_ rfl ?_
     · obtain ⟨e0, e1, e2, e3, e4, e5, e6, e7, e8⟩ := HR.out
       simp [results, Tryz.results72, go_sem, e0, e1, e2, e3, e4, e5, e6, e7, e8]
     · refine ⟨pd, by rw [<- HDE.out, <- HUE.out], ?_, HE.out⟩
       refine (HDT.out.keep (ck _ _ (.int .i64 d.k) (.int .i32 d.c) (.bool d.neg) (.slice pd.A pd.n pd.cp) (.string d.t) (.slice pd.B pd.m pd.cap) (.int .i64 ue) (.int .i64 0) (.int .i64 0)) ?_).mono (fun b _ hb => by have := hb.1; omega)
       rintro b rfl
       exact ⟨fun hq => by have := hq.1; omega, ax HB6q.out (by decide)⟩
    | succ j =>
     have hj : j < items.length := by omega
     have e1 : (((j + 1 : Nat) : Int) - 1) = (j : Int) := by omega
     rw [e1]
     have l1 : decide ((0 : Int) <= (j : Int)) = true := dT (by omega)
     have hjx : j < xs.length := by rw [HIT.out, List.length_map] at hj; exact hj
     obtain ⟨g, rfl, hgb⟩ := d6 HS.out.own (by rw [<- HLEN.out]; omega)
     have hic := ((eX HS.out.own hjx).keep K2.out id).keep HM.out.K (by omega)
     obtain ⟨y, hy⟩ : ∃ y, y = xs[j].1 := ⟨_, rfl⟩
     obtain ⟨v, hv⟩ : ∃ v, v = xs[j].2 := ⟨_, rfl⟩
     have HY := hid (show au (Oth (w.heap.size + 3) (.slice (some ⟨g, 0, none⟩) n cap)) wr y v from by
      rw [hy, hv]
      exact ((HS.out.items _ (List.getElem_mem hjx)).keep0 K2.out).keep HM.out.K (by rintro b rfl; exact ⟨fun hq => by have := hq.1; omega, ax HB8.out (by decide)⟩))
     have HX := hid (show y = items[j] from by rw [hy]; simp only [HIT.out, List.getElem_map])
     rw [<- hy, <- hv] at hic
     obtain ⟨r0, r1, r2, r3, r4, r5⟩ := hic.cells
     simp only [Nat.zero_add] at r0 r1 r2 r3 r4 r5
     have hj0 : (0 : Int) <= (j : Int) := Int.natCast_nonneg _
     have hj1 : (j : Int) < (n : Int) := by have := HLEN.out; omega
     obtain ⟨⟨c0, c1, c2, c3, c4, c5⟩, f0, f1, f2, f3, f4, f5⟩ := ab HM.out.hB
     obtain ⟨⟨z0, z1, z2, z3, z4, z5⟩, y0, y1, y2, y3, y4, y5⟩ := ab (ac HM.out.hB (.cells #[.int .i64 y.k, .int .i32 y.c, .bool y.neg, .slice v.A v.n v.cp, .string y.t, .slice v.B v.m v.cap, .int .i64 d.k, .int .i32 d.c, .bool d.neg, .slice pd.A pd.n pd.cp, .string d.t, .slice pd.B pd.m pd.cap] 27))
     have HNEW := hid (HM.out.step hj HX.out HY.out (fun b hb => ⟨by have := HLT.out; have := HK3.out; omega, fun e => by have := (cE HS.out.own b e).2.1; have := HK3.out; omega⟩) (fun hq => by have := hq.1; omega) (by have := HLT.out; have := HK3.out; omega))
     clear hic hy hv e1
     go_wp2_with fail
     go_big_region
     go_wp2_with fail
     go_roundw
     case rel => exact ⟨j, _, _, by go_num, HNEW.out⟩
     case measure => simp only [intOf]; omega
  | @dotBad _ _ _ _ kk u _ _ _ nn hu hb =>
   rw [nn] at hres
   obtain ⟨dk, dc, dneg, A2, n2, cp2, x2, he, hlf, k2⟩ := hres
   obtain ⟨uk, huk⟩ : ∃ z : Int, z = (u.kind : Int) := ⟨_, rfl⟩
   obtain ⟨ua, hua⟩ : ∃ z : Int, z = (kk : Int) := ⟨_, rfl⟩
   obtain ⟨ue, hue⟩ : ∃ z : Int, z = ((kk + u.len : Nat) : Int) := ⟨_, rfl⟩
   obtain ⟨uq, huq⟩ : ∃ z : Bool, z = u.sq := ⟨_, rfl⟩
   rw [<- huk, <- hua, <- hue, <- huq] at he
   subst he
   have HUA := hid hua
   have HUE := hid hue
   have hzz : ((0 : Int) != 0) = false := by decide
   have p0 : (uk == 0) = false := by rw [huk, hu]; rfl
   have p2 : (uk == 2) = false := by rw [huk, hu]; rfl
   have p8 : (uk == 8) = true := by rw [huk, hu]; rfl
   have HB4 := hid (ac (k2.heap HS.out.h4 id) (.cells #[.int .i64 uk, .int .i64 ua, .int .i64 ue, .bool uq, .int .i64 dk, .int .i32 dc, .bool dneg, .slice A2 n2 cp2, .string x2, .slice none 0 0] 29))
   have HB6 := hid (ac (k2.heap HS.out.h6 id) (.cells #[.int .i64 uk, .int .i64 ua, .int .i64 ue, .bool uq, .int .i64 dk, .int .i32 dc, .bool dneg, .slice A2 n2 cp2, .string x2, .slice none 0 0] 29))
   have HB8 := hid (ac (k2.heap HS.out.h8 id) (.cells #[.int .i64 uk, .int .i64 ua, .int .i64 ue, .bool uq, .int .i64 dk, .int .i32 dc, .bool dneg, .slice A2 n2 cp2, .string x2, .slice none 0 0] 29))
   have HBT := hid (hN w2 (.cells #[.int .i64 uk, .int .i64 ua, .int .i64 ue, .bool uq, .int .i64 dk, .int .i32 dc, .bool dneg, .slice A2 n2 cp2, .string x2, .slice none 0 0] 29))
   have K2w := hid k2.size
   have K2 := hid (k2.alloc (.cells #[.int .i64 uk, .int .i64 ua, .int .i64 ue, .bool uq, .int .i64 dk, .int .i32 dc, .bool dneg, .slice A2 n2 cp2, .string x2, .slice none 0 0] 29))
   have HK2 := hid (HS.out.K.trans K2.out)
   clear k2
   obtain ⟨⟨b0, b1, b2, b3, b4, b5, b6, b7, b8, b9⟩, _⟩ := aa HBT.out
   obtain ⟨⟨a0, a1, a2, a3, a4, a5, a6, a7, a8, a9⟩, _⟩ := aa HB4.out
   by_cases hq : 0 < dot
   · have q1 : decide ((0 : Int) < (dot : Int)) = true := dT (by omega)
     have q2 : decide (0 < dot) = true := dT hq
     clear hu hb hq huk hua hue huq hlf
     try dsimp only
     go_wp2_with fail
     refine (bD ua 9 _).mono ?_
     rintro e w5 ⟨rfl, k5⟩
     have HB65 := hid (k5.heap HB6.out id)
     have HK5 := hid (HK2.out.trans k5)
     clear k5
     obtain ⟨⟨z0, z1, z2, z3, z4, z5, z6, z7, z8⟩, y0, y1, y2, y3, y4, y5, y6, y7, y8⟩ := aj HB65.out
     have HE := hid (aB HK5.out (show w.heap.size <= w.heap.size + 1 by omega) (.int .i64 0) (.int .i32 0) (.bool false) (.slice none 0 0) (.string ⟨#[]⟩) (.slice none 0 0) (.int .i64 0) (.int .i64 ua) (.int .i64 9))
     have HR := hid (aj (aM HB65.out (.int .i64 0) (.int .i32 0) (.bool false) (.slice none 0 0) (.string ⟨#[]⟩) (.slice none 0 0) (.int .i64 0) (.int .i64 ua) (.int .i64 9))).1
     try dsimp only
     go_wp2_with fail
     refine bodyPost_ret (v := .agg #[.int .i64 0, .int .i32 0, .bool false, .slice none 0 0, .string ⟨#[]⟩, .slice none 0 0, .int .i64 0, .int .i64 ua, .int .i64 9]) ?_ rfl ?_
     · obtain ⟨e0, e1, e2, e3, e4, e5, e6, e7, e8⟩ := HR.out
       simp [results, Tryz.results72, go_sem, e0, e1, e2, e3, e4, e5, e6, e7, e8]
     · exact ⟨by rw [HUA.out]; rfl, HE.out⟩
   · have q1 : decide ((0 : Int) < (dot : Int)) = false := dF (by omega)
     have q2 : decide (0 < dot) = false := dF hq
     have q3 : ((n : Int) == 0) = true := by
      rcases hb with hb | hb
      · exact absurd hb hq
      · have h1 := HS.out.cnt
        rw [<- List.length_map (f := Prod.fst), <- HIT.out, hb] at h1
        rw [h1]; rfl
     clear hu hb hq huk hua hue huq hlf
     try dsimp only
     go_wp2_with fail
     refine (bD ua 9 _).mono ?_
     rintro e w5 ⟨rfl, k5⟩
     have HB65 := hid (k5.heap HB6.out id)
     have HK5 := hid (HK2.out.trans k5)
     clear k5
     obtain ⟨⟨z0, z1, z2, z3, z4, z5, z6, z7, z8⟩, y0, y1, y2, y3, y4, y5, y6, y7, y8⟩ := aj HB65.out
     have HE := hid (aB HK5.out (show w.heap.size <= w.heap.size + 1 by omega) (.int .i64 0) (.int .i32 0) (.bool false) (.slice none 0 0) (.string ⟨#[]⟩) (.slice none 0 0) (.int .i64 0) (.int .i64 ua) (.int .i64 9))
     have HR := hid (aj (aM HB65.out (.int .i64 0) (.int .i32 0) (.bool false) (.slice none 0 0) (.string ⟨#[]⟩) (.slice none 0 0) (.int .i64 0) (.int .i64 ua) (.int .i64 9))).1
     try dsimp only
     go_wp2_with fail
     refine bodyPost_ret (v := .agg #[.int .i64 0, .int .i32 0, .bool false, .slice none 0 0, .string ⟨#[]⟩, .slice none 0 0, .int .i64 0, .int .i64 ua, .int .i64 9]) ?_ rfl ?_
     · obtain ⟨e0, e1, e2, e3, e4, e5, e6, e7, e8⟩ := HR.out
       simp [results, Tryz.results72, go_sem, e0, e1, e2, e3, e4, e5, e6, e7, e8]
     · exact ⟨by rw [HUA.out]; rfl, HE.out⟩
  | @dotOk _ _ _ _ kk u _ _ _ _ nn hu h0 hi mm =>
   rw [nn] at hres
   obtain ⟨tk1, tk2, tk3, tk4⟩ := aN nn
   have tk5 := tk4 (by omega)
   obtain ⟨dk, dc, dneg, A2, n2, cp2, x2, he, hlf, k2⟩ := hres
   obtain ⟨uk, huk⟩ : ∃ z : Int, z = (u.kind : Int) := ⟨_, rfl⟩
   obtain ⟨ua, hua⟩ : ∃ z : Int, z = (kk : Int) := ⟨_, rfl⟩
   obtain ⟨ue, hue⟩ : ∃ z : Int, z = ((kk + u.len : Nat) : Int) := ⟨_, rfl⟩
   obtain ⟨uq, huq⟩ : ∃ z : Bool, z = u.sq := ⟨_, rfl⟩
   rw [<- huk, <- hua, <- hue, <- huq] at he
   subst he
   have HUA := hid hua
   have HUE := hid hue
   have hzz : ((0 : Int) != 0) = false := by decide
   have p0 : (uk == 0) = false := by rw [huk, hu]; rfl
   have p2 : (uk == 2) = false := by rw [huk, hu]; rfl
   have p8 : (uk == 8) = true := by rw [huk, hu]; rfl
   have HB4 := hid (ac (k2.heap HS.out.h4 id) (.cells #[.int .i64 uk, .int .i64 ua, .int .i64 ue, .bool uq, .int .i64 dk, .int .i32 dc, .bool dneg, .slice A2 n2 cp2, .string x2, .slice none 0 0] 29))
   have HB6 := hid (ac (k2.heap HS.out.h6 id) (.cells #[.int .i64 uk, .int .i64 ua, .int .i64 ue, .bool uq, .int .i64 dk, .int .i32 dc, .bool dneg, .slice A2 n2 cp2, .string x2, .slice none 0 0] 29))
   have HB8 := hid (ac (k2.heap HS.out.h8 id) (.cells #[.int .i64 uk, .int .i64 ua, .int .i64 ue, .bool uq, .int .i64 dk, .int .i32 dc, .bool dneg, .slice A2 n2 cp2, .string x2, .slice none 0 0] 29))
   have HBT := hid (hN w2 (.cells #[.int .i64 uk, .int .i64 ua, .int .i64 ue, .bool uq, .int .i64 dk, .int .i32 dc, .bool dneg, .slice A2 n2 cp2, .string x2, .slice none 0 0] 29))
   have K2w := hid k2.size
   have K2 := hid (k2.alloc (.cells #[.int .i64 uk, .int .i64 ua, .int .i64 ue, .bool uq, .int .i64 dk, .int .i32 dc, .bool dneg, .slice A2 n2 cp2, .string x2, .slice none 0 0] 29))
   have HK2 := hid (HS.out.K.trans K2.out)
   clear k2
   obtain ⟨⟨b0, b1, b2, b3, b4, b5, b6, b7, b8, b9⟩, _⟩ := aa HBT.out
   obtain ⟨⟨a0, a1, a2, a3, a4, a5, a6, a7, a8, a9⟩, _⟩ := aa HB4.out
   have q1 : decide ((0 : Int) < (dot : Int)) = false := dF (by omega)
   have q2 : decide (0 < dot) = false := dF (by omega)
   have q3 : ((n : Int) == 0) = false := by
    have h1 := HS.out.cnt
    rw [<- List.length_map (f := Prod.fst), <- HIT.out] at h1
    have h2 := List.length_pos_iff.2 hi
    simp; omega
   have HN := hid (HS.out.go K2.out (i' := kk + u.len) (dot' := 1) (by rw [<- HIT.out]; exact mm) (by omega) (by omega) tk3)
   have HT3 := hid (And.intro tk3 tk5)
   clear hu h0 hi mm tk1 tk2 tk3 tk4 tk5 huk hua hue huq hlf
   try dsimp only
   go_wp2_with fail
   go_roundw
   case rel => exact ⟨kk + u.len, 1, n, cap, xs, tail, pt, A, rfl, rfl, by rw [HUE.out], by have := HT3.out; omega, HN.out⟩
   case measure => rw [HUE.out]; have := HT3.out; have := HZ.out; simp only [intOf]; omega
  | @full _ _ _ _ kk u _ _ _ nn hu hb =>
   rw [nn] at hres
   obtain ⟨dk, dc, dneg, A2, n2, cp2, x2, he, hlf, k2⟩ := hres
   obtain ⟨uk, huk⟩ : ∃ z : Int, z = (u.kind : Int) := ⟨_, rfl⟩
   obtain ⟨ua, hua⟩ : ∃ z : Int, z = (kk : Int) := ⟨_, rfl⟩
   obtain ⟨ue, hue⟩ : ∃ z : Int, z = ((kk + u.len : Nat) : Int) := ⟨_, rfl⟩
   obtain ⟨uq, huq⟩ : ∃ z : Bool, z = u.sq := ⟨_, rfl⟩
   rw [<- huk, <- hua, <- hue, <- huq] at he
   subst he
   have HUA := hid hua
   have HUE := hid hue
   have hzz : ((0 : Int) != 0) = false := by decide
   have p0 : (uk == 0) = false := by rw [huk]; have := hu.1; simp; omega
   have p2 : (uk == 2) = false := by rw [huk]; have := hu.2.1; simp; omega
   have p8 : (uk == 8) = false := by rw [huk]; have := hu.2.2; simp; omega
   have HB4 := hid (ac (k2.heap HS.out.h4 id) (.cells #[.int .i64 uk, .int .i64 ua, .int .i64 ue, .bool uq, .int .i64 dk, .int .i32 dc, .bool dneg, .slice A2 n2 cp2, .string x2, .slice none 0 0] 29))
   have HB6 := hid (ac (k2.heap HS.out.h6 id) (.cells #[.int .i64 uk, .int .i64 ua, .int .i64 ue, .bool uq, .int .i64 dk, .int .i32 dc, .bool dneg, .slice A2 n2 cp2, .string x2, .slice none 0 0] 29))
   have HB8 := hid (ac (k2.heap HS.out.h8 id) (.cells #[.int .i64 uk, .int .i64 ua, .int .i64 ue, .bool uq, .int .i64 dk, .int .i32 dc, .bool dneg, .slice A2 n2 cp2, .string x2, .slice none 0 0] 29))
   have HBT := hid (hN w2 (.cells #[.int .i64 uk, .int .i64 ua, .int .i64 ue, .bool uq, .int .i64 dk, .int .i32 dc, .bool dneg, .slice A2 n2 cp2, .string x2, .slice none 0 0] 29))
   have K2w := hid k2.size
   have K2 := hid (k2.alloc (.cells #[.int .i64 uk, .int .i64 ua, .int .i64 ue, .bool uq, .int .i64 dk, .int .i32 dc, .bool dneg, .slice A2 n2 cp2, .string x2, .slice none 0 0] 29))
   have HK2 := hid (HS.out.K.trans K2.out)
   clear k2
   obtain ⟨⟨b0, b1, b2, b3, b4, b5, b6, b7, b8, b9⟩, _⟩ := aa HBT.out
   obtain ⟨⟨a0, a1, a2, a3, a4, a5, a6, a7, a8, a9⟩, _⟩ := aa HB4.out
   have q1 : ((dot : Int) == 2) = true := by rw [hb]; rfl
   clear hu hb huk hua hue huq hlf
   try dsimp only
   go_wp2_with fail
   refine (bD ua 9 _).mono ?_
   rintro e w5 ⟨rfl, k5⟩
   have HB65 := hid (k5.heap HB6.out id)
   have HK5 := hid (HK2.out.trans k5)
   clear k5
   obtain ⟨⟨z0, z1, z2, z3, z4, z5, z6, z7, z8⟩, y0, y1, y2, y3, y4, y5, y6, y7, y8⟩ := aj HB65.out
   have HE := hid (aB HK5.out (show w.heap.size <= w.heap.size + 1 by omega) (.int .i64 0) (.int .i32 0) (.bool false) (.slice none 0 0) (.string ⟨#[]⟩) (.slice none 0 0) (.int .i64 0) (.int .i64 ua) (.int .i64 9))
   have HR := hid (aj (aM HB65.out (.int .i64 0) (.int .i32 0) (.bool false) (.slice none 0 0) (.string ⟨#[]⟩) (.slice none 0 0) (.int .i64 0) (.int .i64 ua) (.int .i64 9))).1
   try dsimp only
   go_wp2_with fail
   refine bodyPost_ret (v := .agg #[.int .i64 0, .int .i32 0, .bool false, .slice none 0 0, .string ⟨#[]⟩, .slice none 0 0, .int .i64 0, .int .i64 ua, .int .i64 9]) ?_ rfl ?_
   · obtain ⟨e0, e1, e2, e3, e4, e5, e6, e7, e8⟩ := HR.out
     simp [results, Tryz.results72, go_sem, e0, e1, e2, e3, e4, e5, e6, e7, e8]
   · exact ⟨by rw [HUA.out]; rfl, HE.out⟩
  | @itemErr _ _ _ _ kk q cc u _ _ _ nn hu hb mm =>
   rw [nn] at hres
   have hcc := Rd.code mm _ _ rfl
   have q1 : ((dot : Int) == 2) = false := by simp; omega
   obtain ⟨gr, hgr⟩ : ∃ gr : Got, gr = .error (q, cc) := ⟨_, rfl⟩
   rw [<- hgr] at mm
   have HGR := hid hgr
   obtain ⟨dk, dc, dneg, A2, n2, cp2, x2, he, hlf, k2⟩ := hres
   obtain ⟨uk, huk⟩ : ∃ z : Int, z = (u.kind : Int) := ⟨_, rfl⟩
   obtain ⟨ua, hua⟩ : ∃ z : Int, z = (kk : Int) := ⟨_, rfl⟩
   obtain ⟨ue, hue⟩ : ∃ z : Int, z = ((kk + u.len : Nat) : Int) := ⟨_, rfl⟩
   obtain ⟨uq, huq⟩ : ∃ z : Bool, z = u.sq := ⟨_, rfl⟩
   rw [<- huk, <- hua, <- hue, <- huq] at he
   subst he
   have HUA := hid hua
   have HUE := hid hue
   have hzz : ((0 : Int) != 0) = false := by decide
   have p0 : (uk == 0) = false := by rw [huk]; have := hu.1; simp; omega
   have p2 : (uk == 2) = false := by rw [huk]; have := hu.2.1; simp; omega
   have p8 : (uk == 8) = false := by rw [huk]; have := hu.2.2; simp; omega
   obtain ⟨tk1, tk2, tk3, tk4⟩ := aN nn
   have hln := (cJ nn).1
   have tk5 := tk4 hu.1
   have HFR := hid (fun (W : World) (K : K0 w2 W) => (show Calls Tryz.prog 44 #[.string s, ar uk ua ue uq dk dc dneg A2 n2 cp2 x2, .int .i64 (deep : Int)] W (bd gr W) from by rw [huk, hua, hue, huq]; exact IH kk deep u gr mm (by rw [<- HZ.out]; exact tk3) (by omega) hu tk1 hdp dk dc dneg A2 n2 cp2 x2 W (hlf.keep K)))
   have HB4 := hid (ac (k2.heap HS.out.h4 id) (.cells #[.int .i64 uk, .int .i64 ua, .int .i64 ue, .bool uq, .int .i64 dk, .int .i32 dc, .bool dneg, .slice A2 n2 cp2, .string x2, .slice none 0 0] 29))
   have HB6 := hid (ac (k2.heap HS.out.h6 id) (.cells #[.int .i64 uk, .int .i64 ua, .int .i64 ue, .bool uq, .int .i64 dk, .int .i32 dc, .bool dneg, .slice A2 n2 cp2, .string x2, .slice none 0 0] 29))
   have HB8 := hid (ac (k2.heap HS.out.h8 id) (.cells #[.int .i64 uk, .int .i64 ua, .int .i64 ue, .bool uq, .int .i64 dk, .int .i32 dc, .bool dneg, .slice A2 n2 cp2, .string x2, .slice none 0 0] 29))
   have HBT := hid (hN w2 (.cells #[.int .i64 uk, .int .i64 ua, .int .i64 ue, .bool uq, .int .i64 dk, .int .i32 dc, .bool dneg, .slice A2 n2 cp2, .string x2, .slice none 0 0] 29))
   have K2w := hid k2.size
   have K2 := hid (k2.alloc (.cells #[.int .i64 uk, .int .i64 ua, .int .i64 ue, .bool uq, .int .i64 dk, .int .i32 dc, .bool dneg, .slice A2 n2 cp2, .string x2, .slice none 0 0] 29))
   have HK2 := hid (HS.out.K.trans K2.out)
   clear k2
   obtain ⟨⟨b0, b1, b2, b3, b4, b5, b6, b7, b8, b9⟩, _⟩ := aa HBT.out
   obtain ⟨⟨a0, a1, a2, a3, a4, a5, a6, a7, a8, a9⟩, _⟩ := aa HB4.out
   clear huk hua hue huq hlf
   try dsimp only
   go_wp2_with fail
   refine (HFR.out _ (kR.alloc _)).mono ?_
   intro e w4 hres
   obtain ⟨d, p, gn, gq, gc, rfl, hg, k4⟩ := hres.form
   have HB64 := hid (ac (k4.heap HB6.out id) (.cells #[.int .i64 d.k, .int .i32 d.c, .bool d.neg, .slice p.A p.n p.cp, .string d.t, .slice p.B p.m p.cap, .int .i64 gn, .int .i64 gq, .int .i64 gc] 43))
   have HB84 := hid (ac (k4.heap HB8.out id) (.cells #[.int .i64 d.k, .int .i32 d.c, .bool d.neg, .slice p.A p.n p.cp, .string d.t, .slice p.B p.m p.cap, .int .i64 gn, .int .i64 gq, .int .i64 gc] 43))
   have HB15 := hid (hN w4 (.cells #[.int .i64 d.k, .int .i32 d.c, .bool d.neg, .slice p.A p.n p.cp, .string d.t, .slice p.B p.m p.cap, .int .i64 gn, .int .i64 gq, .int .i64 gc] 43))
   have K4 := hid (K2.out.trans (k4.alloc (.cells #[.int .i64 d.k, .int .i32 d.c, .bool d.neg, .slice p.A p.n p.cp, .string d.t, .slice p.B p.m p.cap, .int .i64 gn, .int .i64 gq, .int .i64 gc] 43)))
   have HK4 := hid (HS.out.K.trans K4.out)
   have HG := hid (hg.keep0 ((ah.refl (fun _ => False) w4).alloc (.cells #[.int .i64 d.k, .int .i32 d.c, .bool d.neg, .slice p.A p.n p.cp, .string d.t, .slice p.B p.m p.cap, .int .i64 gn, .int .i64 gq, .int .i64 gc] 43)))
   have HSZ := hid K2.out.size
   have HLT := hid HS.out.lt
   obtain ⟨⟨g0, g1, g2, g3, g4, g5, g6, g7, g8⟩, _⟩ := aj HB15.out
   clear k4 hres hg a0 a1 a2 a3 a4 a5 a6 a7 a8 a9 b0 b1 b2 b3 b4 b5 b6 b7 b8 b9
   have g9 : (gc != 0) = true := by
    have h1 := HG.out
    rw [hgr] at h1
    rw [h1.2.2.2.2]; simp; omega
   clear hgr hcc hu hb mm tk1 tk2 tk3 tk4 tk5
   obtain ⟨⟨z0, z1, z2, z3, z4, z5, z6, z7, z8⟩, y0, y1, y2, y3, y4, y5, y6, y7, y8⟩ := aj HB64.out
   have HE := hid (aB HK4.out (show w.heap.size <= w.heap.size + 1 by omega) (.int .i64 d.k) (.int .i32 d.c) (.bool d.neg) (.slice p.A p.n p.cp) (.string d.t) (.slice p.B p.m p.cap) (.int .i64 gn) (.int .i64 gq) (.int .i64 gc))
   have HR := hid (aj (aM HB64.out (.int .i64 d.k) (.int .i32 d.c) (.bool d.neg) (.slice p.A p.n p.cp) (.string d.t) (.slice p.B p.m p.cap) (.int .i64 gn) (.int .i64 gq) (.int .i64 gc))).1
   try dsimp only
   go_wp2_with fail
   refine bodyPost_ret (v := .agg #[.int .i64 d.k, .int .i32 d.c, .bool d.neg, .slice p.A p.n p.cp, .string d.t, .slice p.B p.m p.cap, .int .i64 gn, .int .i64 gq, .int .i64 gc]) ?_ rfl ?_
   · obtain ⟨e0, e1, e2, e3, e4, e5, e6, e7, e8⟩ := HR.out
     simp [results, Tryz.results72, go_sem, e0, e1, e2, e3, e4, e5, e6, e7, e8]
   · rw [<- HGR.out]; exact (HG.out.keep (ck _ _ (.int .i64 d.k) (.int .i32 d.c) (.bool d.neg) (.slice p.A p.n p.cp) (.string d.t) (.slice p.B p.m p.cap) (.int .i64 gn) (.int .i64 gq) (.int .i64 gc)) (by have := HSZ.out; have := HLT.out; omega) HB64.out (by decide)).post (by have := HSZ.out; have := HLT.out; omega) HE.out
  | @itemOk _ _ _ _ kk ee u _ _ _ dd _ nn hu hb mm g =>
   rw [nn] at hres
   have hend := mm.ends (aN nn).2.2.1 _ _ rfl
   simp only [cq.pos] at hend
   have q1 : ((dot : Int) == 2) = false := by simp; omega
   have q4 : ((dot : Int) == 1) = false := by simp; omega
   obtain ⟨gr, hgr⟩ : ∃ gr : Got, gr = .ok (dd, ee) := ⟨_, rfl⟩
   rw [<- hgr] at mm
   obtain ⟨dk, dc, dneg, A2, n2, cp2, x2, he, hlf, k2⟩ := hres
   obtain ⟨uk, huk⟩ : ∃ z : Int, z = (u.kind : Int) := ⟨_, rfl⟩
   obtain ⟨ua, hua⟩ : ∃ z : Int, z = (kk : Int) := ⟨_, rfl⟩
   obtain ⟨ue, hue⟩ : ∃ z : Int, z = ((kk + u.len : Nat) : Int) := ⟨_, rfl⟩
   obtain ⟨uq, huq⟩ : ∃ z : Bool, z = u.sq := ⟨_, rfl⟩
   rw [<- huk, <- hua, <- hue, <- huq] at he
   subst he
   have HUA := hid hua
   have HUE := hid hue
   have hzz : ((0 : Int) != 0) = false := by decide
   have p0 : (uk == 0) = false := by rw [huk]; have := hu.1; simp; omega
   have p2 : (uk == 2) = false := by rw [huk]; have := hu.2.1; simp; omega
   have p8 : (uk == 8) = false := by rw [huk]; have := hu.2.2; simp; omega
   obtain ⟨tk1, tk2, tk3, tk4⟩ := aN nn
   have hln := (cJ nn).1
   have tk5 := tk4 hu.1
   have HFR := hid (fun (W : World) (K : K0 w2 W) => (show Calls Tryz.prog 44 #[.string s, ar uk ua ue uq dk dc dneg A2 n2 cp2 x2, .int .i64 (deep : Int)] W (bd gr W) from by rw [huk, hua, hue, huq]; exact IH kk deep u gr mm (by rw [<- HZ.out]; exact tk3) (by omega) hu tk1 hdp dk dc dneg A2 n2 cp2 x2 W (hlf.keep K)))
   have HB4 := hid (ac (k2.heap HS.out.h4 id) (.cells #[.int .i64 uk, .int .i64 ua, .int .i64 ue, .bool uq, .int .i64 dk, .int .i32 dc, .bool dneg, .slice A2 n2 cp2, .string x2, .slice none 0 0] 29))
   have HB6 := hid (ac (k2.heap HS.out.h6 id) (.cells #[.int .i64 uk, .int .i64 ua, .int .i64 ue, .bool uq, .int .i64 dk, .int .i32 dc, .bool dneg, .slice A2 n2 cp2, .string x2, .slice none 0 0] 29))
   have HB8 := hid (ac (k2.heap HS.out.h8 id) (.cells #[.int .i64 uk, .int .i64 ua, .int .i64 ue, .bool uq, .int .i64 dk, .int .i32 dc, .bool dneg, .slice A2 n2 cp2, .string x2, .slice none 0 0] 29))
   have HBT := hid (hN w2 (.cells #[.int .i64 uk, .int .i64 ua, .int .i64 ue, .bool uq, .int .i64 dk, .int .i32 dc, .bool dneg, .slice A2 n2 cp2, .string x2, .slice none 0 0] 29))
   have K2w := hid k2.size
   have K2 := hid (k2.alloc (.cells #[.int .i64 uk, .int .i64 ua, .int .i64 ue, .bool uq, .int .i64 dk, .int .i32 dc, .bool dneg, .slice A2 n2 cp2, .string x2, .slice none 0 0] 29))
   have HK2 := hid (HS.out.K.trans K2.out)
   clear k2
   obtain ⟨⟨b0, b1, b2, b3, b4, b5, b6, b7, b8, b9⟩, _⟩ := aa HBT.out
   obtain ⟨⟨a0, a1, a2, a3, a4, a5, a6, a7, a8, a9⟩, _⟩ := aa HB4.out
   clear huk hua hue huq hlf
   try dsimp only
   go_wp2_with fail
   refine (HFR.out _ (kR.alloc _)).mono ?_
   intro e w4 hres
   obtain ⟨d, p, gn, gq, gc, rfl, hg, k4⟩ := hres.form
   have HB64 := hid (ac (k4.heap HB6.out id) (.cells #[.int .i64 d.k, .int .i32 d.c, .bool d.neg, .slice p.A p.n p.cp, .string d.t, .slice p.B p.m p.cap, .int .i64 gn, .int .i64 gq, .int .i64 gc] 43))
   have HB84 := hid (ac (k4.heap HB8.out id) (.cells #[.int .i64 d.k, .int .i32 d.c, .bool d.neg, .slice p.A p.n p.cp, .string d.t, .slice p.B p.m p.cap, .int .i64 gn, .int .i64 gq, .int .i64 gc] 43))
   have HB15 := hid (hN w4 (.cells #[.int .i64 d.k, .int .i32 d.c, .bool d.neg, .slice p.A p.n p.cp, .string d.t, .slice p.B p.m p.cap, .int .i64 gn, .int .i64 gq, .int .i64 gc] 43))
   have K4 := hid (K2.out.trans (k4.alloc (.cells #[.int .i64 d.k, .int .i32 d.c, .bool d.neg, .slice p.A p.n p.cp, .string d.t, .slice p.B p.m p.cap, .int .i64 gn, .int .i64 gq, .int .i64 gc] 43)))
   have HK4 := hid (HS.out.K.trans K4.out)
   have HG := hid (hg.keep0 ((ah.refl (fun _ => False) w4).alloc (.cells #[.int .i64 d.k, .int .i32 d.c, .bool d.neg, .slice p.A p.n p.cp, .string d.t, .slice p.B p.m p.cap, .int .i64 gn, .int .i64 gq, .int .i64 gc] 43)))
   have HSZ := hid K2.out.size
   have HLT := hid HS.out.lt
   obtain ⟨⟨g0, g1, g2, g3, g4, g5, g6, g7, g8⟩, _⟩ := aj HB15.out
   clear k4 hres hg a0 a1 a2 a3 a4 a5 a6 a7 a8 a9 b0 b1 b2 b3 b4 b5 b6 b7 b8 b9
   rw [hgr] at HG
   obtain ⟨hg1, hg2, hg3, hg4, hg5⟩ := HG.out
   subst hg1; subst hg3; subst hg4
   have HGN := hid hg2
   have HD := hid hg5
   have g9 : ((0 : Int) != 0) = false := by decide
   clear hg2 hg5 HG
   have hn4 : n <= 4096 := by have := HS.out.le; have := HI.out; have := HZ.out; omega
   have HT3 := hid (show i < ee /\ ee <= s.size by rw [<- HZ.out]; omega)
   have K6 := hid (K4.out.alloc (.cells #[.int .i64 d.k, .int .i32 d.c, .bool d.neg, .slice p.A p.n p.cp, .string d.t, .slice p.B p.m p.cap] 27))
   have HOWN := hid (bH HS.out.own K6.out (fun _ _ => id))
   have HNEW := hid (fU (show ((w4.alloc (.cells #[.int .i64 d.k, .int .i32 d.c, .bool d.neg, .slice p.A p.n p.cp, .string d.t, .slice p.B p.m p.cap, .int .i64 gn, .int .i64 0, .int .i64 0] 43)).alloc (.cells #[.int .i64 d.k, .int .i32 d.c, .bool d.neg, .slice p.A p.n p.cp, .string d.t, .slice p.B p.m p.cap] 27)).heap[w4.heap.size + 1]? = _ from by have := hN (w4.alloc (.cells #[.int .i64 d.k, .int .i32 d.c, .bool d.neg, .slice p.A p.n p.cp, .string d.t, .slice p.B p.m p.cap, .int .i64 gn, .int .i64 0, .int .i64 0] 43)) (.cells #[.int .i64 d.k, .int .i32 d.c, .bool d.neg, .slice p.A p.n p.cp, .string d.t, .slice p.B p.m p.cap] 27); rwa [World.size_alloc] at this))
   have HBASE := hid (show w.heap.size + 3 <= ((w4.alloc (.cells #[.int .i64 d.k, .int .i32 d.c, .bool d.neg, .slice p.A p.n p.cp, .string d.t, .slice p.B p.m p.cap, .int .i64 gn, .int .i64 0, .int .i64 0] 43)).alloc (.cells #[.int .i64 d.k, .int .i32 d.c, .bool d.neg, .slice p.A p.n p.cp, .string d.t, .slice p.B p.m p.cap] 27)).heap.size from by have := K6.out.size; have := HLT.out; omega)
   have HRD := hid (show Rd s.data.toList (.lst o sq deep ee (xs.map Prod.fst ++ [d]) dot tail) r from by rw [<- HIT.out]; exact g)
   have HD6 := hid (show au (fun b => wr.heap.size <= b) ((w4.alloc (.cells #[.int .i64 d.k, .int .i32 d.c, .bool d.neg, .slice p.A p.n p.cp, .string d.t, .slice p.B p.m p.cap, .int .i64 gn, .int .i64 0, .int .i64 0] 43)).alloc (.cells #[.int .i64 d.k, .int .i32 d.c, .bool d.neg, .slice p.A p.n p.cp, .string d.t, .slice p.B p.m p.cap] 27)) d p from (HD.out.keep0 (kR.alloc _)).mono (fun b _ hb => by have := HSZ.out; omega))
   clear hgr hu hb mm g tk1 tk2 tk3 tk4 tk5 hend hln nn
   try dsimp only
   go_wp2_with (at_builtin; refine wpList_append_own_at _ rfl (.tmp 54) (.tmp 57) 25 rfl (w.heap.size + 3) 27 i27 (.agg #[.int .i64 0, .int .i32 0, .bool false, .slice none 0 0, .string ⟨#[]⟩, .slice none 0 0]) 6 88 Tryz.underlying25 h27 hz0 hz1 hz2 rfl (by decide) _ _ _ rfl HOWN.out ⟨w4.heap.size + 1, 0, none⟩ 1 1 [.int .i64 d.k, .int .i32 d.c, .bool d.neg, .slice p.A p.n p.cp, .string d.t, .slice p.B p.m p.cap] rfl rfl HNEW.out ?a1 ?a2 ?a3 HBASE.out ?_)
   case a1 => intro u hu; simp only [List.mem_cons, List.not_mem_nil, or_false] at hu; rcases hu with rfl | rfl | rfl | rfl | rfl | rfl <;> rfl
   case a2 => unfold maxLen; omega
   case a3 => omega
   intro v' w6 hown hgrow _ hblk
   obtain ⟨A3, c3, rfl, HM⟩ := HS.out.item K6.out HRD.out HT3.out.1 (by rw [HZ.out]; exact HT3.out.2) HD6.out hown hgrow (by rw [World.size_alloc, World.size_alloc]; exact hblk)
   have HMM := hid HM
   clear hown hgrow HM hblk
   go_wp2_with fail
   go_roundw
   case rel => exact ⟨ee, dot, n + 1, c3, _, tail, pt, A3, rfl, rfl, by rw [HGN.out], by have := HT3.out; omega, HMM.out⟩
   case measure => rw [HGN.out]; have := HT3.out; simp only [intOf]; omega
  | @tailOk _ _ _ _ kk ee u _ _ _ dd _ nn hu hb mm g =>
   rw [nn] at hres
   have hend := mm.ends (aN nn).2.2.1 _ _ rfl
   simp only [cq.pos] at hend
   have q1 : ((dot : Int) == 2) = false := by simp; omega
   have q4 : ((dot : Int) == 1) = true := by simp; omega
   obtain ⟨gr, hgr⟩ : ∃ gr : Got, gr = .ok (dd, ee) := ⟨_, rfl⟩
   rw [<- hgr] at mm
   obtain ⟨dk, dc, dneg, A2, n2, cp2, x2, he, hlf, k2⟩ := hres
   obtain ⟨uk, huk⟩ : ∃ z : Int, z = (u.kind : Int) := ⟨_, rfl⟩
   obtain ⟨ua, hua⟩ : ∃ z : Int, z = (kk : Int) := ⟨_, rfl⟩
   obtain ⟨ue, hue⟩ : ∃ z : Int, z = ((kk + u.len : Nat) : Int) := ⟨_, rfl⟩
   obtain ⟨uq, huq⟩ : ∃ z : Bool, z = u.sq := ⟨_, rfl⟩
   rw [<- huk, <- hua, <- hue, <- huq] at he
   subst he
   have HUA := hid hua
   have HUE := hid hue
   have hzz : ((0 : Int) != 0) = false := by decide
   have p0 : (uk == 0) = false := by rw [huk]; have := hu.1; simp; omega
   have p2 : (uk == 2) = false := by rw [huk]; have := hu.2.1; simp; omega
   have p8 : (uk == 8) = false := by rw [huk]; have := hu.2.2; simp; omega
   obtain ⟨tk1, tk2, tk3, tk4⟩ := aN nn
   have hln := (cJ nn).1
   have tk5 := tk4 hu.1
   have HFR := hid (fun (W : World) (K : K0 w2 W) => (show Calls Tryz.prog 44 #[.string s, ar uk ua ue uq dk dc dneg A2 n2 cp2 x2, .int .i64 (deep : Int)] W (bd gr W) from by rw [huk, hua, hue, huq]; exact IH kk deep u gr mm (by rw [<- HZ.out]; exact tk3) (by omega) hu tk1 hdp dk dc dneg A2 n2 cp2 x2 W (hlf.keep K)))
   have HB4 := hid (ac (k2.heap HS.out.h4 id) (.cells #[.int .i64 uk, .int .i64 ua, .int .i64 ue, .bool uq, .int .i64 dk, .int .i32 dc, .bool dneg, .slice A2 n2 cp2, .string x2, .slice none 0 0] 29))
   have HB6 := hid (ac (k2.heap HS.out.h6 id) (.cells #[.int .i64 uk, .int .i64 ua, .int .i64 ue, .bool uq, .int .i64 dk, .int .i32 dc, .bool dneg, .slice A2 n2 cp2, .string x2, .slice none 0 0] 29))
   have HB8 := hid (ac (k2.heap HS.out.h8 id) (.cells #[.int .i64 uk, .int .i64 ua, .int .i64 ue, .bool uq, .int .i64 dk, .int .i32 dc, .bool dneg, .slice A2 n2 cp2, .string x2, .slice none 0 0] 29))
   have HBT := hid (hN w2 (.cells #[.int .i64 uk, .int .i64 ua, .int .i64 ue, .bool uq, .int .i64 dk, .int .i32 dc, .bool dneg, .slice A2 n2 cp2, .string x2, .slice none 0 0] 29))
   have K2w := hid k2.size
   have K2 := hid (k2.alloc (.cells #[.int .i64 uk, .int .i64 ua, .int .i64 ue, .bool uq, .int .i64 dk, .int .i32 dc, .bool dneg, .slice A2 n2 cp2, .string x2, .slice none 0 0] 29))
   have HK2 := hid (HS.out.K.trans K2.out)
   clear k2
   obtain ⟨⟨b0, b1, b2, b3, b4, b5, b6, b7, b8, b9⟩, _⟩ := aa HBT.out
   obtain ⟨⟨a0, a1, a2, a3, a4, a5, a6, a7, a8, a9⟩, _⟩ := aa HB4.out
   clear huk hua hue huq hlf
   try dsimp only
   go_wp2_with fail
   refine (HFR.out _ (kR.alloc _)).mono ?_
   intro e w4 hres
   obtain ⟨d, p, gn, gq, gc, rfl, hg, k4⟩ := hres.form
   have HB64 := hid (ac (k4.heap HB6.out id) (.cells #[.int .i64 d.k, .int .i32 d.c, .bool d.neg, .slice p.A p.n p.cp, .string d.t, .slice p.B p.m p.cap, .int .i64 gn, .int .i64 gq, .int .i64 gc] 43))
   have HB84 := hid (ac (k4.heap HB8.out id) (.cells #[.int .i64 d.k, .int .i32 d.c, .bool d.neg, .slice p.A p.n p.cp, .string d.t, .slice p.B p.m p.cap, .int .i64 gn, .int .i64 gq, .int .i64 gc] 43))
   have HB15 := hid (hN w4 (.cells #[.int .i64 d.k, .int .i32 d.c, .bool d.neg, .slice p.A p.n p.cp, .string d.t, .slice p.B p.m p.cap, .int .i64 gn, .int .i64 gq, .int .i64 gc] 43))
   have K4 := hid (K2.out.trans (k4.alloc (.cells #[.int .i64 d.k, .int .i32 d.c, .bool d.neg, .slice p.A p.n p.cp, .string d.t, .slice p.B p.m p.cap, .int .i64 gn, .int .i64 gq, .int .i64 gc] 43)))
   have HK4 := hid (HS.out.K.trans K4.out)
   have HG := hid (hg.keep0 ((ah.refl (fun _ => False) w4).alloc (.cells #[.int .i64 d.k, .int .i32 d.c, .bool d.neg, .slice p.A p.n p.cp, .string d.t, .slice p.B p.m p.cap, .int .i64 gn, .int .i64 gq, .int .i64 gc] 43)))
   have HSZ := hid K2.out.size
   have HLT := hid HS.out.lt
   obtain ⟨⟨g0, g1, g2, g3, g4, g5, g6, g7, g8⟩, _⟩ := aj HB15.out
   clear k4 hres hg a0 a1 a2 a3 a4 a5 a6 a7 a8 a9 b0 b1 b2 b3 b4 b5 b6 b7 b8 b9
   rw [hgr] at HG
   obtain ⟨hg1, hg2, hg3, hg4, hg5⟩ := HG.out
   subst hg1; subst hg3; subst hg4
   have HGN := hid hg2
   have HD := hid hg5
   have g9 : ((0 : Int) != 0) = false := by decide
   clear hg2 hg5 HG
   have HT3 := hid (show i < ee /\ ee <= s.size by rw [<- HZ.out]; omega)
   have HRD := hid (show Rd s.data.toList (.lst o sq deep ee (xs.map Prod.fst) 2 d) r from by rw [<- HIT.out]; exact g)
   have HMM := hid (HS.out.tail K4.out HRD.out (Nat.le_of_lt HT3.out.1) (by rw [HZ.out]; exact HT3.out.2) (HD.out.mono (fun b _ hb => by have := HSZ.out; omega)))
   obtain ⟨⟨c0, c1, c2, c3, c4, c5⟩, f0, f1, f2, f3, f4, f5⟩ := ab HB84.out
   clear hgr hu hb mm g tk1 tk2 tk3 tk4 tk5 hend hln nn
   try dsimp only
   go_wp2_with fail
   go_roundw
   case rel => exact ⟨ee, 2, n, cap, xs, d, p, A, rfl, rfl, by rw [HGN.out], by have := HT3.out; omega, HMM.out⟩
   case measure => rw [HGN.out]; have := HT3.out; simp only [intOf]; omega
end Go.Proofs.YtonnikipeokkaaaGreatDoor
