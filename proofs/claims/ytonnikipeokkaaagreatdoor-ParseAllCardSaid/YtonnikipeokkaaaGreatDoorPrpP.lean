import Derived.Test.YtonnikipeokkaaaGreatDoorPaShut
namespace Go.Proofs.YtonnikipeokkaaaGreatDoor
set_option maxRecDepth 100000
set_option maxHeartbeats 8000000
open Go.Lib (hid)
open Go.RowKit Go.Lib
def rn (X : Nat -> Prop) (base pb : Nat) (r : Stp) (w : World) (e : Ending) (w' : World) : Prop :=
 match r with
 | .err _ _ => False
 | .done d => ∃ pd : PV, e = .returned (.tuple #[bT d pd, .bool true]) /\ au (fun b => base <= b) w' d pd /\ ah (fun b => base <= b) w w'
 | .cont S => ∃ (fs : List FB) (R : Option Addr) (rc : Nat) (d : Raw) (pd : PV), fs.map FB.fr = S /\ e = .returned (.tuple #[bT d pd, .bool false]) /\ PS X base pb fs R rc w' /\ ah (fun b => base <= b) w w'
def gP (pb : Nat) (w : World) : Nat := match w.cell? ⟨pb, 0, none⟩ with | some (.slice _ n _) => n | _ => 0
theorem oB {X : Nat -> Prop} {base pb rc : Nat} {fs : List FB} {R : Option Addr} {w : World} (h : PS X base pb fs R rc w) : gP pb w = fs.length := by unfold gP; rw [h.pcell]
theorem jB {X X' : Nat -> Prop} {pb : Nat} {v : Value} {fs : List FB} {b : Nat} (h : X' b -> X b) (e : dj pb v fs X' b) : dj pb v fs X b := by
 rcases e with e | e | e | e
 · exact .inl e
 · exact .inr (.inl e)
 · exact .inr (.inr (.inl e))
 · exact .inr (.inr (.inr (h e)))
structure PuS (X : Nat -> Prop) (base pb D0 : Nat) (W0 : World) (r0 : Stp) (fs : List FB) (R : Option Addr) (rc : Nat) (d : Raw) (pd : PV) (wr : World) : Prop where
 ps : PS (fun b => X b \/ b = D0 \/ b = D0 + 1) base pb fs R rc wr
 h3 : wr.heap[D0]? = some (.cells (rwC d.k d.c d.neg pd.A pd.n pd.cp d.t pd.B pd.m pd.cap) 27 (0, 0))
 h4 : wr.heap[D0 + 1]? = some (.cells (rwC 0 0 false none 0 0 ⟨#[]⟩ none 0 0) 27 (0, 0))
 dat : cn (dj pb (.slice R fs.length rc) fs (fun b => X b \/ b = D0 \/ b = D0 + 1)) base wr d pd
 put : dI (fs.map FB.fr) d = r0
 len : fs.length <= 64
 its : ∀ f ∈ fs, f.fr.items.length <= 100000
 K : ah (fun b => base <= b) W0 wr
theorem PuS.start {X : Nat -> Prop} {base pb rc : Nat} {fs : List FB} {R : Option Addr} {w : World} {d : Raw} {pd : PV} (h : PS X base pb fs R rc w) (hd : cn (dj pb (.slice R fs.length rc) fs X) base w d pd) (hl : fs.length <= 64) (hi : ∀ f ∈ fs, f.fr.items.length <= 100000) : PuS X base pb w.heap.size w (dI (fs.map FB.fr) d) fs R rc d pd ((w.alloc (.cells (rwC d.k d.c d.neg pd.A pd.n pd.cp d.t pd.B pd.m pd.cap) 27)).alloc (.cells (rwC 0 0 false none 0 0 ⟨#[]⟩ none 0 0) 27)) := by
 have K : K0 w ((w.alloc (.cells (rwC d.k d.c d.neg pd.A pd.n pd.cp d.t pd.B pd.m pd.cap) 27)).alloc (.cells (rwC 0 0 false none 0 0 ⟨#[]⟩ none 0 0) 27)) := (kR.alloc _).alloc _
 have hx : ∀ b, (X b \/ b = w.heap.size \/ b = w.heap.size + 1) -> X b \/ w.heap.size <= b := by
  rintro b (e | e | e)
  · exact .inl e
  · exact .inr (by omega)
  · exact .inr (by omega)
 refine ⟨h.turn K (fun _ e => e.elim) hx (fun b hb => ?_), ac (hN w _) _, by have := hN (w.alloc (.cells (rwC d.k d.c d.neg pd.A pd.n pd.cp d.t pd.B pd.m pd.cap) 27)) (.cells (rwC 0 0 false none 0 0 ⟨#[]⟩ none 0 0) 27); rwa [World.size_alloc] at this, cn.carry hd K (fun _ e => e.elim) (fun b lt e => jB (fun e => ?_) e), rfl, hl, hi, K.mono (fun _ _ e => e.elim)⟩
 · rcases hb with e | e | e
   · have := h.xlt b e; simp; omega
   · simp; omega
   · simp; omega
 · rcases hx b e with e | e
   · exact e
   · omega
theorem PuS.fin {X : Nat -> Prop} {base pb D0 rc : Nat} {fs : List FB} {R : Option Addr} {d : Raw} {pd : PV} {w' : World} (h3 : w'.heap[D0 + 1]? = some (.cells (rwC 0 0 false none 0 0 ⟨#[]⟩ none 0 0) 27 (0, 0))) (h : PS (fun b => X b \/ b = D0 \/ b = D0 + 1) base pb fs R rc w') : PS X base pb fs R rc (aE w' (D0 + 1) (.int .i64 d.k) (.int .i32 d.c) (.bool d.neg) (.slice pd.A pd.n pd.cp) (.string d.t) (.slice pd.B pd.m pd.cap)) :=
 h.turn (aq w' (D0 + 1) (.int .i64 d.k) (.int .i32 d.c) (.bool d.neg) (.slice pd.A pd.n pd.cp) (.string d.t) (.slice pd.B pd.m pd.cap)) (by rintro b rfl; exact ⟨.inr (.inr rfl), ax h3 (by decide)⟩) (fun b hb => .inl (.inl hb)) (fun b hb => by rw [fw]; exact h.xlt b (.inl hb))
theorem PuS.mark {X : Nat -> Prop} {base pb D0 rc : Nat} {w wr w4 w7 : World} {r0 : Stp} {f : FB} {fs : List FB} {R : Option Addr} {d mr : Raw} {pd p6 : PV} (h : PuS X base pb D0 w r0 (f :: fs) R rc d pd wr) (hm : f.fr.mark) (hmr : mr = gL f.fr.kind d) (hps : PS (fun b => X b \/ b = D0 \/ b = D0 + 1) base pb fs R rc w4) (h34 : w4.heap[D0]? = some (.cells (rwC d.k d.c d.neg pd.A pd.n pd.cp d.t pd.B pd.m pd.cap) 27 (0, 0))) (h44 : w4.heap[D0 + 1]? = some (.cells (rwC 0 0 false none 0 0 ⟨#[]⟩ none 0 0) 27 (0, 0))) (K4 : ah (fun b => base <= b) w w4) (hb : base <= D0)
 (k7 : K0 w4 w7) (hd : au (fun x => w4.heap.size <= x) w7 mr p6) : PuS X base pb D0 w r0 fs R rc mr p6 (aE w7 D0 (.int .i64 mr.k) (.int .i32 mr.c) (.bool mr.neg) (.slice p6.A p6.n p6.cp) (.string mr.t) (.slice p6.B p6.m p6.cap)) := by
 have h37 := k7.heap h34 id
 have hl := ao h34
 refine ⟨(hps.keep0 k7).turn (aq w7 D0 (.int .i64 mr.k) (.int .i32 mr.c) (.bool mr.neg) (.slice p6.A p6.n p6.cp) (.string mr.t) (.slice p6.B p6.m p6.cap)) (by rintro b rfl; exact ⟨.inr (.inl rfl), ax h37 (by decide)⟩) (fun _ e => .inl e) (fun b e => by rw [fw]; exact (hps.keep0 k7).xlt b e), aQ h37 _ _ _ _ _ _, dQ (k7.heap h44 id) (by omega) _ _ _ _ _ _, (hd.keep (aq w7 D0 (.int .i64 mr.k) (.int .i32 mr.c) (.bool mr.neg) (.slice p6.A p6.n p6.cp) (.string mr.t) (.slice p6.B p6.m p6.cap)) (by rintro b rfl; exact ⟨fun e => by omega, ax h37 (by decide)⟩)).mono (fun b _ e => ⟨by omega, fun e2 => by have := mR hps e2; omega⟩), ?_, by have := h.len; simp at this; omega, fun g hg => h.its g (List.mem_cons_of_mem _ hg), K4.trans ((k7.mono (fun _ _ e => e.elim)).trans ((aq w7 D0 (.int .i64 mr.k) (.int .i32 mr.c) (.bool mr.neg) (.slice p6.A p6.n p6.cp) (.string mr.t) (.slice p6.B p6.m p6.cap)).mono (fun b _ e => (show base <= b by rw [show b = D0 from e]; exact hb))))⟩
 rw [hmr, <- h.put, List.map_cons, k0 hm]
theorem eF {w : World} {b : Nat} {Y : Array Value} {T : TypeId} {fz : Nat × Nat} (h : w.heap[b]? = some (.cells Y T fz)) (i : Nat) (u : Value) : (w.setCell ⟨b, i, none⟩ u).heap[b]? = some (.cells (Y.setIfInBounds i u) T fz) := by
 simp [World.setCell, Array.getElem?_modify, h]
theorem sj {w : World} {b : Nat} {kind at_ en : Int} {sq : Bool} {t4 t5 t6 t7 t8 t9 : Value} {dot : Int} {d0 : Raw} {p0 : PV} {R : Option Addr} {n rc : Nat} (h : w.heap[b]? = some (.cells (opC kind at_ en sq t4 t5 t6 t7 t8 t9 dot d0 p0 R n rc) 173 (0, 0))) (d : Raw) (pd : PV) :
 ((((((((w.setCell ⟨b, 10, none⟩ (.int .i64 2)).setCell ⟨b, 11, none⟩ (.int .i64 d.k)).setCell ⟨b, 12, none⟩ (.int .i32 d.c)).setCell ⟨b, 13, none⟩ (.bool d.neg)).setCell ⟨b, 14, none⟩ (.slice pd.A pd.n pd.cp)).setCell ⟨b, 15, none⟩ (.string d.t)).setCell ⟨b, 16, none⟩ (.slice pd.B pd.m pd.cap)).drew).heap[b]? = some (.cells (opC kind at_ en sq t4 t5 t6 t7 t8 t9 2 d pd R n rc) 173 (0, 0)) := by
 have h1 := eF h 10 (.int .i64 2)
 have h2 := eF h1 11 (.int .i64 d.k)
 have h3 := eF h2 12 (.int .i32 d.c)
 have h4 := eF h3 13 (.bool d.neg)
 have h5 := eF h4 14 (.slice pd.A pd.n pd.cp)
 have h6 := eF h5 15 (.string d.t)
 have h7 := eF h6 16 (.slice pd.B pd.m pd.cap)
 have e : ∀ W : World, W.drew.heap = W.heap := fun _ => rfl
 rw [e, h7]
 simp
theorem mH (w2 : World) (f : FB) (d : Raw) (pd : PV) : ah (fun b => b = f.b) w2 ((((((((w2.setCell ⟨f.b, 10, none⟩ (.int .i64 2)).setCell ⟨f.b, 11, none⟩ (.int .i64 d.k)).setCell ⟨f.b, 12, none⟩ (.int .i32 d.c)).setCell ⟨f.b, 13, none⟩ (.bool d.neg)).setCell ⟨f.b, 14, none⟩ (.slice pd.A pd.n pd.cp)).setCell ⟨f.b, 15, none⟩ (.string d.t)).setCell ⟨f.b, 16, none⟩ (.slice pd.B pd.m pd.cap)).drew) := by
 refine ah.drew ?_
 refine ah.setCell (S := fun b => b = f.b) (p := ⟨f.b, 16, none⟩) ?_ (.inl rfl) _
 refine ah.setCell (S := fun b => b = f.b) (p := ⟨f.b, 15, none⟩) ?_ (.inl rfl) _
 refine ah.setCell (S := fun b => b = f.b) (p := ⟨f.b, 14, none⟩) ?_ (.inl rfl) _
 refine ah.setCell (S := fun b => b = f.b) (p := ⟨f.b, 13, none⟩) ?_ (.inl rfl) _
 refine ah.setCell (S := fun b => b = f.b) (p := ⟨f.b, 12, none⟩) ?_ (.inl rfl) _
 refine ah.setCell (S := fun b => b = f.b) (p := ⟨f.b, 11, none⟩) ?_ (.inl rfl) _
 refine ah.setCell (S := fun b => b = f.b) (p := ⟨f.b, 10, none⟩) ?_ (.inl rfl) _
 exact kR
theorem PS.tl {X : Nat -> Prop} {base pb rc : Nat} {f : FB} {fs : List FB} {R : Option Addr} {w2 : World} {d : Raw} {pd : PV} (h : PS X base pb (f :: fs) R rc w2) (hd : cn (dj pb (.slice R (f :: fs).length rc) (f :: fs) X) base w2 d pd) :
 PS X base pb ({ f with fr := ⟨f.fr.kind, f.fr.at_, f.fr.sq, 2, d, f.fr.items⟩, pt := pd } :: fs) R rc ((((((((w2.setCell ⟨f.b, 10, none⟩ (.int .i64 2)).setCell ⟨f.b, 11, none⟩ (.int .i64 d.k)).setCell ⟨f.b, 12, none⟩ (.int .i32 d.c)).setCell ⟨f.b, 13, none⟩ (.bool d.neg)).setCell ⟨f.b, 14, none⟩ (.slice pd.A pd.n pd.cp)).setCell ⟨f.b, 15, none⟩ (.string d.t)).setCell ⟨f.b, 16, none⟩ (.slice pd.B pd.m pd.cap)).drew) := by
 have hf := h.all f List.mem_cons_self
 have K := mH w2 f d pd
 refine h.upd (K.mono (fun b _ e => .inl e)) _ rfl (fun b hb => .inl hb) ?_ ?_ hf.cnt (fun y hy => .inl hy) (.inr hd)
 · exact sj hf.blk d pd
 · refine fA hf.own K (fun b hb e => ?_)
   have e : b = f.b := e
   subst e
   obtain ⟨_, Y, hY⟩ := bC hf.own _ hb
   exact absurd (cQ hY hf.blk) (by decide)
theorem cY (W : World) (b c i j : Nat) (u v : Value) (h : b ≠ c) : (W.setCell ⟨b, i, none⟩ u).setCell ⟨c, j, none⟩ v = (W.setCell ⟨c, j, none⟩ v).setCell ⟨b, i, none⟩ u := by
 have hh : ((W.setCell ⟨b, i, none⟩ u).setCell ⟨c, j, none⟩ v).heap = ((W.setCell ⟨c, j, none⟩ v).setCell ⟨b, i, none⟩ u).heap := by
  apply Array.ext_getElem?
  intro k
  simp only [World.setCell, Array.getElem?_modify]
  by_cases h1 : b = k
  · by_cases h2 : c = k
    · omega
    · simp [h1, h2]
  · by_cases h2 : c = k
    · simp [h1, h2]
    · simp [h1, h2]
 unfold World.setCell at hh ⊢
 simp only at hh
 rw [hh]
theorem nN (W : World) (b g a : Nat) (h : b ≠ g) (u y0 y1 y2 y3 y4 y5 : Value) : (((((((W.setCell ⟨b, 17, none⟩ u).setCell ⟨g, a, none⟩ y0).setCell ⟨g, a + 1, none⟩ y1).setCell ⟨g, a + 2, none⟩ y2).setCell ⟨g, a + 3, none⟩ y3).setCell ⟨g, a + 4, none⟩ y4).setCell ⟨g, a + 5, none⟩ y5) = ((((((W.setCell ⟨g, a, none⟩ y0).setCell ⟨g, a + 1, none⟩ y1).setCell ⟨g, a + 2, none⟩ y2).setCell ⟨g, a + 3, none⟩ y3).setCell ⟨g, a + 4, none⟩ y4).setCell ⟨g, a + 5, none⟩ y5).setCell ⟨b, 17, none⟩ u := by
 rw [cY W b g 17 a u y0 h, cY _ b g 17 (a + 1) u y1 h, cY _ b g 17 (a + 2) u y2 h, cY _ b g 17 (a + 3) u y3 h, cY _ b g 17 (a + 4) u y4 h, cY _ b g 17 (a + 5) u y5 h]
theorem rT {w : World} {b : Nat} {kind at_ en : Int} {sq : Bool} {t4 t5 t6 t7 t8 t9 : Value} {dot : Int} {d0 : Raw} {p0 : PV} {R : Option Addr} {n rc : Nat} (h : w.heap[b]? = some (.cells (opC kind at_ en sq t4 t5 t6 t7 t8 t9 dot d0 p0 R n rc) 173 (0, 0))) (R' : Option Addr) (n' rc' : Nat) :
 (w.setCell ⟨b, 17, none⟩ (.slice R' n' rc')).heap[b]? = some (.cells (opC kind at_ en sq t4 t5 t6 t7 t8 t9 dot d0 p0 R' n' rc') 173 (0, 0)) := by
 rw [eF h 17 (.slice R' n' rc')]
 simp
theorem PS.item {X : Nat -> Prop} {base pb rc n g c : Nat} {f : FB} {fs : List FB} {R : Option Addr} {w2 w5 : World} {d : Raw} {pd : PV} {z0 z1 z2 z3 z4 z5 : Value} (h : PS X base pb (f :: fs) R rc w2) (hd : cn (dj pb (.slice R (f :: fs).length rc) (f :: fs) X) base w2 d pd) (K5 : ah (fun b => f.row.ownBlock = some b) w2 w5) (hn : n = f.fr.items.length)
 (hown : w5.ownsRow base 27 6 (.slice (some ⟨g, 0, none⟩) (n + 1) c) (n + 1) (f.xs.flatMap dD ++ [z0, z1, z2, z3, z4, z5])) (hblk : ∀ b, (Value.slice (some ⟨g, 0, none⟩) (n + 1) c).ownBlock = some b -> f.row.ownBlock = some b \/ w2.heap.size <= b) (hgb : ¬ f.b = g) :
 PS X base pb ({ f with fr := ⟨f.fr.kind, f.fr.at_, f.fr.sq, f.fr.dot, f.fr.tail, f.fr.items ++ [d]⟩, xs := f.xs ++ [(d, pd)], R := some ⟨g, 0, none⟩, rc := c } :: fs) R rc ((ge w5 g (n * 6) (.int .i64 d.k) (.int .i32 d.c) (.bool d.neg) (.slice pd.A pd.n pd.cp) (.string d.t) (.slice pd.B pd.m pd.cap)).setCell ⟨f.b, 17, none⟩ (.slice (some ⟨g, 0, none⟩) (n + 1) c)) /\ ah (fun b => f.blks b) w2 ((ge w5 g (n * 6) (.int .i64 d.k) (.int .i32 d.c) (.bool d.neg) (.slice pd.A pd.n pd.cp) (.string d.t) (.slice pd.B pd.m pd.cap)).setCell ⟨f.b, 17, none⟩ (.slice (some ⟨g, 0, none⟩) (n + 1) c)) := by
 have hf := h.all f List.mem_cons_self
 have hb5 := K5.heap hf.blk (fun e => by
  obtain ⟨_, Y, hY⟩ := bC hf.own _ e
  exact absurd (cQ hY hf.blk) (by decide))
 have Kg := lQ w5 g (n * 6) (.int .i64 d.k) (.int .i32 d.c) (.bool d.neg) (.slice pd.A pd.n pd.cp) (.string d.t) (.slice pd.B pd.m pd.cap)
 have hb6 := Kg.heap hb5 hgb
 have K7 : ah (fun b => b = f.b) (ge w5 g (n * 6) (.int .i64 d.k) (.int .i32 d.c) (.bool d.neg) (.slice pd.A pd.n pd.cp) (.string d.t) (.slice pd.B pd.m pd.cap)) ((ge w5 g (n * 6) (.int .i64 d.k) (.int .i32 d.c) (.bool d.neg) (.slice pd.A pd.n pd.cp) (.string d.t) (.slice pd.B pd.m pd.cap)).setCell ⟨f.b, 17, none⟩ (.slice (some ⟨g, 0, none⟩) (n + 1) c)) := ah.setCell (S := fun b => b = f.b) (p := ⟨f.b, 17, none⟩) kR (.inl rfl) _
 have K : ah (fun b => f.blks b) w2 ((ge w5 g (n * 6) (.int .i64 d.k) (.int .i32 d.c) (.bool d.neg) (.slice pd.A pd.n pd.cp) (.string d.t) (.slice pd.B pd.m pd.cap)).setCell ⟨f.b, 17, none⟩ (.slice (some ⟨g, 0, none⟩) (n + 1) c)) := by
  refine (((K5.mono (fun b _ e => .inr e)).join Kg (fun b hb e => ?_))).trans (K7.mono (fun b _ e => .inl e))
  have e : b = g := e
  subst e
  rcases hblk b rfl with e | e
  · exact .inr e
  · omega
 have hlen : (f.fr.items ++ [d]).length = n + 1 := by rw [List.length_append, <- hn]; rfl
 refine ⟨h.upd K _ rfl ?_ ?_ ?_ ?_ ?_ (.inl ⟨rfl, rfl⟩), K⟩
 · intro b hb
   exact hblk b (by unfold FB.row at hb; exact hb)
 · show ((ge w5 g (n * 6) (.int .i64 d.k) (.int .i32 d.c) (.bool d.neg) (.slice pd.A pd.n pd.cp) (.string d.t) (.slice pd.B pd.m pd.cap)).setCell ⟨f.b, 17, none⟩ (.slice (some ⟨g, 0, none⟩) (n + 1) c)).heap[f.b]? = some (.cells (opC f.fr.kind f.fr.at_ f.en f.fr.sq f.t4 f.t5 f.t6 f.t7 f.t8 f.t9 f.fr.dot f.fr.tail f.pt (some ⟨g, 0, none⟩) (f.fr.items ++ [d]).length c) 173 (0, 0))
   rw [hlen]
   exact rT hb6 _ _ _
 · show ((ge w5 g (n * 6) (.int .i64 d.k) (.int .i32 d.c) (.bool d.neg) (.slice pd.A pd.n pd.cp) (.string d.t) (.slice pd.B pd.m pd.cap)).setCell ⟨f.b, 17, none⟩ (.slice (some ⟨g, 0, none⟩) (n + 1) c)).ownsRow base 27 6 (.slice (some ⟨g, 0, none⟩) (f.fr.items ++ [d]).length c) (f.fr.items ++ [d]).length ((f.xs ++ [(d, pd)]).flatMap dD)
   rw [hlen, List.flatMap_append]
   have h6 := pj hown (n * 6) rfl (.int .i64 d.k) (.int .i32 d.c) (.bool d.neg) (.slice pd.A pd.n pd.cp) (.string d.t) (.slice pd.B pd.m pd.cap)
   refine fA (by simpa [dD] using h6) K7 (fun b hb e => ?_)
   have e : b = f.b := e
   subst e
   injection hb with hb
   exact hgb hb.symm
 · show (f.xs ++ [(d, pd)]).map Prod.fst = f.fr.items ++ [d]
   rw [List.map_append, hf.cnt]; rfl
 · intro y hy
   have hy : y ∈ f.xs ++ [(d, pd)] := hy
   rcases List.mem_append.1 hy with hy | hy
   · exact .inl hy
   · rw [List.mem_singleton.1 hy]; exact .inr hd
theorem qE {X : Nat -> Prop} {base pb rc : Nat} {fs : List FB} {R : Option Addr} {w : World} {d : Raw} {pd : PV} (h : PS X base pb fs R rc w) (hd : cn (dj pb (.slice R fs.length rc) fs X) base w d pd) (hl : fs.length <= 64) (hi : ∀ f ∈ fs, f.fr.items.length <= 100000) : Calls Tryz.prog 71 #[.pointer (some ⟨pb, 0, none⟩), bT d pd] w (rn X base pb (dI (fs.map FB.fr) d) w) := by
 have HST := hid (PuS.start h hd hl hi)
 have HXL := hid h.xlt
 have HBW := hid (show base <= w.heap.size from by have := h.lt; omega)
 generalize dI (fs.map FB.fr) d = r0 at HST ⊢
 obtain ⟨D0, hD0⟩ : ∃ D0, D0 = w.heap.size := ⟨_, rfl⟩
 have HD0 := hid hD0
 obtain ⟨i27, h27, hz0, hz1, hz2⟩ := info_parts gQ
 clear h hd hl hi
 go_enter Tryz.func71, Tryz.ntmps71
 go_wp2_with fail
 rw [<- hD0] at HST ⊢
 clear hD0
 generalize ((w.alloc (.cells (rwC d.k d.c d.neg pd.A pd.n pd.cp d.t pd.B pd.m pd.cap) 27)).alloc (.cells (rwC 0 0 false none 0 0 ⟨#[]⟩ none 0 0) 27)) = w1 at *
 go_loopw [] (fun wr => ∃ (fs : List FB) (R : Option Addr) (rc : Nat) (d : Raw) (pd : PV), PuS X base pb D0 w r0 fs R rc d pd wr) (fun wr => gP pb wr)
 case atStart => exact ⟨fs, R, rc, d, pd, HST.out⟩
 case round =>
  clear HST
  obtain ⟨fs, R, rc, d, pd, hst⟩ := hrel
  have HS := hid hst
  clear hst
  cases fs with
  | nil =>
   go_wp2_with fail
   refine ((nh HS.out.ps).out _ kR).mono ?_
   rintro e w2 ⟨rfl, k2⟩
   have H3 := hid (k2.heap HS.out.h3 id)
   have H4 := hid (k2.heap HS.out.h4 id)
   have HKE := hid (HS.out.K.trans (k2.mono (fun _ _ e => e.elim)))
   have HDT := hid (HS.out.dat.keep0 k2)
   clear k2
   have HE := hid (HKE.out.trans ((aq w2 (D0 + 1) (.int .i64 d.k) (.int .i32 d.c) (.bool d.neg) (.slice pd.A pd.n pd.cp) (.string d.t) (.slice pd.B pd.m pd.cap)).mono (fun b _ e => (show base <= b by rw [e]; have := HD0.out; have := HBW.out; omega))))
   have HR := hid (ab (aQ H4.out (.int .i64 d.k) (.int .i32 d.c) (.bool d.neg) (.slice pd.A pd.n pd.cp) (.string d.t) (.slice pd.B pd.m pd.cap))).1
   obtain ⟨⟨g0, g1, g2, g3, g4, g5⟩, _⟩ := ab H3.out
   obtain ⟨⟨b0, b1, b2, b3, b4, b5⟩, f0, f1, f2, f3, f4, f5⟩ := ab H4.out
   go_wp2_with fail
   refine bodyPost_ret (v := .tuple #[.agg (rwC d.k d.c d.neg pd.A pd.n pd.cp d.t pd.B pd.m pd.cap), .bool true]) ?_ rfl ?_
   · obtain ⟨e0, e1, e2, e3, e4, e5⟩ := HR.out
     simp [results, Tryz.results71, go_sem, e0, e1, e2, e3, e4, e5]
   · have hp := HS.out.put
     rw [<- hp]
     exact ⟨pd, rfl, (HDT.out.keep (aq w2 (D0 + 1) (.int .i64 d.k) (.int .i32 d.c) (.bool d.neg) (.slice pd.A pd.n pd.cp) (.string d.t) (.slice pd.B pd.m pd.cap)) (by rintro b rfl; exact ⟨fun e => e.2 (.inr (.inr (.inr (.inr (.inr rfl))))), ax H4.out (by decide)⟩)).mono (fun b _ e => e.1), HE.out⟩
  | cons f fs =>
   have HTOP := ff HS.out.ps (by have := HS.out.len; simp at this; omega)
   go_wp2_with fail
   refine (HTOP.out _ kR).mono ?_
   rintro e w2 ⟨rfl, k2⟩
   have H3 := hid (k2.heap HS.out.h3 id)
   have H4 := hid (k2.heap HS.out.h4 id)
   have HKE := hid (HS.out.K.trans (k2.mono (fun _ _ e => e.elim)))
   have HDT := hid (HS.out.dat.keep0 k2)
   have HPS := hid (HS.out.ps.keep0 k2)
   have hfb := HPS.out.all f List.mem_cons_self
   have HFB := hid hfb
   obtain ⟨c0, _, _, c10, ⟨c11, c12, c13, c14, c15, c16⟩, c17⟩ := eh hfb.blk
   clear k2 hfb HTOP
   by_cases hm : f.fr.mark
   · skip
     obtain ⟨g, rfl, _, hrc⟩ := HS.out.ps.prow
     obtain ⟨k, hk⟩ : ∃ k, k = fs.length := ⟨_, rfl⟩
     obtain ⟨m, hm'⟩ : ∃ m, m = (f :: fs).length := ⟨_, rfl⟩
     obtain ⟨ws, hws⟩ : ∃ ws : ByteArray, ws = ⟨(ca f.fr.kind).toArray⟩ := ⟨_, rfl⟩
     have hw : ws.toList.isEmpty = false := by rw [hws]; exact mQ hm
     have HQ := hid (show Calls Tryz.prog 102 #[.int .i64 (f.fr.kind : Int)] w2 fun e w' => e = .returned (.string ws) /\ w2 = w' from by rw [hws]; exact ed _ _)
     have HP2 := hid (show w2.heap[pb]? = some (.cells #[.slice (some ⟨g, 0, none⟩) m rc] 120 (0, 0)) from by rw [hm']; exact HPS.out.hp)
     have p0 : w2.cell? ⟨pb, 0, none⟩ = some (.slice (some ⟨g, 0, none⟩) m rc) := by rw [cell_of_row w2 _ _ _ _ _ HP2.out]; rfl
     have pf : w2.frozen? ⟨pb, 0, none⟩ = false := by simp [World.frozen?, HP2.out]
     have hk64 : k <= 64 := by have := HS.out.len; simp at this; omega
     have hmk : m = k + 1 := by rw [hm', hk]; rfl
     have hmrc : m <= rc := by rw [hmk, hk]; exact hrc
     have l1 : IntKind.i64.wrap ((m : Int) - 1) = (k : Int) := by rw [IntWalk.i64_in _ (by omega)]; omega
     have hk0 : (0 : Int) <= (k : Int) := by omega
     have hk1 : (k : Int) <= (rc : Int) := by omega
     have HWS := hid hws
     have HK := hid hk
     have HM := hid hm
     clear hws hk hm' hm hmk hmrc hrc hk64
     go_wp2_with fail
     refine HQ.out.mono ?_
     rintro e w3 ⟨rfl, rfl⟩
     go_wp2_with fail
     go_big_region
     have Kp : ah (fun x => x = pb) w2 (w2.setCell ⟨pb, 0, none⟩ (.slice (some ⟨g, 0, none⟩) k rc)).drew := (ah.setCell (S := fun x => x = pb) (p := ⟨pb, 0, none⟩) kR (.inl rfl) _).drew
     have HPP := hid (show (w2.setCell ⟨pb, 0, none⟩ (.slice (some ⟨g, 0, none⟩) k rc)).drew.heap[pb]? = some (.cells #[.slice (some ⟨g, 0, none⟩) fs.length rc] 120 (0, 0)) from by show (w2.setCell ⟨pb, 0, none⟩ (.slice (some ⟨g, 0, none⟩) k rc)).heap[pb]? = _; rw [<- HK.out]; simp [World.setCell, Array.getElem?_modify, HP2.out])
     have HPS4 := hid (HPS.out.pop Kp HPP.out)
     have HDT4 := hid (HPS.out.pop_off Kp HDT.out)
     have H34 := hid (Kp.heap H3.out (HS.out.ps.sep D0 (.inr (.inl rfl))).1)
     have H44 := hid (Kp.heap H4.out (HS.out.ps.sep (D0 + 1) (.inr (.inr rfl))).1)
     have HK4 := hid (HKE.out.trans (Kp.mono (fun b _ e => (show base <= b from by rw [show b = pb from e]; exact HPS.out.bp))))
     generalize (w2.setCell ⟨pb, 0, none⟩ (.slice (some ⟨g, 0, none⟩) k rc)).drew = w4 at *
     clear p0 pf Kp l1 hk0 hk1 c0 c10 c17 c11 c12 c13 c14 c15 c16
     go_wp2_with fail
     obtain ⟨mr, hmr⟩ : ∃ mr, mr = gL f.fr.kind d := ⟨_, rfl⟩
     have HMR := hid hmr
     clear hmr
     obtain ⟨⟨b0, b1, b2, b3, b4, b5⟩, _⟩ := ab H34.out
     have HLIST := hid (fun (w6 : World) (K : K0 w4 w6) => (show Calls Tryz.prog 103 #[.slice (some ⟨w6.heap.size, 0, none⟩) 2 2] (w6.alloc (.cells #[.int .i64 6, .int .i32 0, .bool false, .slice none 0 0, .string ws, .slice none 0 0, .int .i64 d.k, .int .i32 d.c, .bool d.neg, .slice pd.A pd.n pd.cp, .string d.t, .slice pd.B pd.m pd.cap] 27)) (fun e w' => ∃ p6 : PV, e = .returned (bT mr p6) /\ au (fun x => w4.heap.size <= x) w' mr p6 /\ K0 w4 w') from by
      have hb := hN w6 (.cells #[.int .i64 6, .int .i32 0, .bool false, .slice none 0 0, .string ws, .slice none 0 0, .int .i64 d.k, .int .i32 d.c, .bool d.neg, .slice pd.A pd.n pd.cp, .string d.t, .slice pd.B pd.m pd.cap] 27)
      have k1 : K0 w6 (w6.alloc (.cells #[.int .i64 6, .int .i32 0, .bool false, .slice none 0 0, .string ws, .slice none 0 0, .int .i64 d.k, .int .i32 d.c, .bool d.neg, .slice pd.A pd.n pd.cp, .string d.t, .slice pd.B pd.m pd.cap] 27)) := kR.alloc _
      have hb2 : (w6.alloc (.cells #[.int .i64 6, .int .i32 0, .bool false, .slice none 0 0, .string ws, .slice none 0 0, .int .i64 d.k, .int .i32 d.c, .bool d.neg, .slice pd.A pd.n pd.cp, .string d.t, .slice pd.B pd.m pd.cap] 27)).heap[w6.heap.size]? = some (.cells #[.int .i64 (bB (.sym (ca f.fr.kind))).k, .int .i32 (bB (.sym (ca f.fr.kind))).c, .bool (bB (.sym (ca f.fr.kind))).neg, .slice PV.none.A PV.none.n PV.none.cp, .string (bB (.sym (ca f.fr.kind))).t, .slice PV.none.B PV.none.m PV.none.cap, .int .i64 d.k, .int .i32 d.c, .bool d.neg, .slice pd.A pd.n pd.cp, .string d.t, .slice pd.B pd.m pd.cap] 27 (0, 0)) := by rw [show (w6.alloc (.cells #[.int .i64 6, .int .i32 0, .bool false, .slice none 0 0, .string ws, .slice none 0 0, .int .i64 d.k, .int .i32 d.c, .bool d.neg, .slice pd.A pd.n pd.cp, .string d.t, .slice pd.B pd.m pd.cap] 27)).heap[w6.heap.size]? = _ from hb, HWS.out]; rfl
      have hl : au (fun b => base <= b /\ ¬ dj pb (.slice (some ⟨g, 0, none⟩) fs.length rc) fs (fun b => X b \/ b = D0 \/ b = D0 + 1) b) (w6.alloc (.cells #[.int .i64 6, .int .i32 0, .bool false, .slice none 0 0, .string ws, .slice none 0 0, .int .i64 d.k, .int .i32 d.c, .bool d.neg, .slice pd.A pd.n pd.cp, .string d.t, .slice pd.B pd.m pd.cap] 27)) (bB (.sym (ca f.fr.kind))) PV.none := (au.leaf (d := .sym (ca f.fr.kind)) ⟨rfl, rfl, rfl, rfl, rfl, rfl, rfl⟩).1
      refine (pz [bB (.sym (ca f.fr.kind)), d] (fun i => if i = 0 then PV.none else pd) (some ⟨w6.heap.size, 0, none⟩) 2 _ (by simp) (fun _ => ⟨_, _, rfl, gv hb2⟩) (j5 hl ((HDT4.out.keep0 K).keep0 k1))).mono ?_
      rintro e w' ⟨p6, rfl, h6, k6⟩
      refine ⟨p6, by rw [HMR.out]; rfl, ?_, (K.trans k1).trans k6⟩
      rw [HMR.out]
      exact h6.mono (fun b _ h => by have := (K.trans k1).size; omega)))
     have HCL := hid (fun (w' : World) (K : K0 w4 w') => (show w'.cell? ⟨D0, 0, none⟩ = some (.int .i64 d.k) /\ w'.cell? ⟨D0, 1, none⟩ = some (.int .i32 d.c) /\ w'.cell? ⟨D0, 2, none⟩ = some (.bool d.neg) /\ w'.cell? ⟨D0, 3, none⟩ = some (.slice pd.A pd.n pd.cp) /\ w'.cell? ⟨D0, 4, none⟩ = some (.string d.t) /\ w'.cell? ⟨D0, 5, none⟩ = some (.slice pd.B pd.m pd.cap) /\ K0 w4 w' from ⟨(K.cell (p := ⟨D0, 0, none⟩) (bL w4 _ b0) id).trans b0, (K.cell (p := ⟨D0, 1, none⟩) (bL w4 _ b1) id).trans b1, (K.cell (p := ⟨D0, 2, none⟩) (bL w4 _ b2) id).trans b2, (K.cell (p := ⟨D0, 3, none⟩) (bL w4 _ b3) id).trans b3, (K.cell (p := ⟨D0, 4, none⟩) (bL w4 _ b4) id).trans b4, (K.cell (p := ⟨D0, 5, none⟩) (bL w4 _ b5) id).trans b5, K⟩))
     have Kd : K0 w4 w4.drew := kR.drew
     go_region_with (first
      | (go_at_call 104; (with_reducible refine (qr _ _).mono ?_); rintro e w6 ⟨rfl, k6⟩; have K6 : K0 w4 w6 := Kd.trans k6; obtain ⟨q0, q1, q2, q3, q4, q5, _⟩ := HCL.out w6 K6)
      | (go_at_call 103; (with_reducible refine (HLIST.out _ K6).mono ?_); rintro e w7 ⟨p6, rfl, hd6, k7⟩; have H37 := hid (k7.heap H34.out id); obtain ⟨⟨z0, z1, z2, z3, z4, z5⟩, y0, y1, y2, y3, y4, y5⟩ := ab H37.out))
     all_goals
      have HN := hid (HS.out.mark HM.out HMR.out HPS4.out H34.out H44.out HK4.out (by have := HD0.out; have := HBW.out; omega) k7 hd6)
      clear k7 hd6 z0 z1 z2 z3 z4 z5 y0 y1 y2 y3 y4 y5
      try clear K6 q0 q1 q2 q3 q4 q5
      go_wp2_with fail
      go_roundw
      case rel => exact ⟨fs, _, rc, mr, p6, HN.out⟩
      case measure =>
       have h1 := oB HN.out.ps
       have h2 := oB HS.out.ps
       show gP pb _ < gP pb wr
       rw [h2, show gP pb _ = _ from h1]
       simp
   · skip
     by_cases hd : f.fr.dot = 1
     · skip
       have hd1 : ((f.fr.dot : Int) == 1) = true := dm (b := 1) hd
       have HQ := hid (show Calls Tryz.prog 102 #[.int .i64 (f.fr.kind : Int)] w2 fun e w' => e = .returned (.string ⟨#[]⟩) /\ w2 = w' from (ed _ _).mono (by rintro e w' ⟨rfl, rfl⟩; rw [j6 hm]; exact ⟨rfl, rfl⟩))
       have HM := hid hm
       have HDD := hid hd
       obtain ⟨⟨g0, g1, g2, g3, g4, g5⟩, _⟩ := ab H3.out
       have p10 := cI HFB.out.blk 10
       have p11 := cI HFB.out.blk 11
       have p12 := cI HFB.out.blk 12
       have p13 := cI HFB.out.blk 13
       have p14 := cI HFB.out.blk 14
       have p15 := cI HFB.out.blk 15
       have p16 := cI HFB.out.blk 16
       have hbD : ¬ f.b = D0 := fun e => (HS.out.ps.sep D0 (.inr (.inl rfl))).2.2 f List.mem_cons_self (.inl e.symm)
       have hbE : ¬ f.b = D0 + 1 := fun e => (HS.out.ps.sep (D0 + 1) (.inr (.inr rfl))).2.2 f List.mem_cons_self (.inl e.symm)
       clear hm hd
       go_wp2_with fail
       refine HQ.out.mono ?_
       rintro e w3 ⟨rfl, rfl⟩
       go_wp2_with fail
       go_big_region
       have HPT := hid (HPS.out.tl HDT.out)
       have Kt := mH w2 f d pd
       have H3 := hid (Kt.heap H3.out (fun e => hbD e.symm))
       have H4 := hid (Kt.heap H4.out (fun e => hbE e.symm))
       have HKE := hid (HKE.out.trans (Kt.mono (fun b _ e => (show base <= b by rw [show b = f.b from e]; exact HFB.out.bb))))
       generalize (((((((w2.setCell ⟨f.b, 10, none⟩ (.int .i64 2)).setCell ⟨f.b, 11, none⟩ (.int .i64 d.k)).setCell ⟨f.b, 12, none⟩ (.int .i32 d.c)).setCell ⟨f.b, 13, none⟩ (.bool d.neg)).setCell ⟨f.b, 14, none⟩ (.slice pd.A pd.n pd.cp)).setCell ⟨f.b, 15, none⟩ (.string d.t)).setCell ⟨f.b, 16, none⟩ (.slice pd.B pd.m pd.cap)).drew = w4 at *
       clear Kt g0 g1 g2 g3 g4 g5 p10 p11 p12 p13 p14 p15 p16 c0 c10 c11 c12 c13 c14 c15 c16 c17
       have HE := hid (HKE.out.trans ((aq w4 (D0 + 1) (.int .i64 d.k) (.int .i32 d.c) (.bool d.neg) (.slice pd.A pd.n pd.cp) (.string d.t) (.slice pd.B pd.m pd.cap)).mono (fun b _ e => (show base <= b by rw [e]; have := HD0.out; have := HBW.out; omega))))
       have HR := hid (ab (aQ H4.out (.int .i64 d.k) (.int .i32 d.c) (.bool d.neg) (.slice pd.A pd.n pd.cp) (.string d.t) (.slice pd.B pd.m pd.cap))).1
       obtain ⟨⟨g0, g1, g2, g3, g4, g5⟩, _⟩ := ab H3.out
       obtain ⟨⟨b0, b1, b2, b3, b4, b5⟩, f0, f1, f2, f3, f4, f5⟩ := ab H4.out
       go_wp2_with fail
       refine bodyPost_ret (v := .tuple #[.agg (rwC d.k d.c d.neg pd.A pd.n pd.cp d.t pd.B pd.m pd.cap), .bool false]) ?_ rfl ?_
       · obtain ⟨e0, e1, e2, e3, e4, e5⟩ := HR.out
         simp [results, Tryz.results71, go_sem, e0, e1, e2, e3, e4, e5]
       · have hp := HS.out.put
         rw [<- hp, List.map_cons, kZ HM.out HDD.out]
         exact ⟨_, R, rc, d, pd, rfl, rfl, PuS.fin H4.out HPT.out, HE.out⟩
     · skip
       have hd1 : ((f.fr.dot : Int) == 1) = false := cy (b := 1) hd
       have HQ := hid (show Calls Tryz.prog 102 #[.int .i64 (f.fr.kind : Int)] w2 fun e w' => e = .returned (.string ⟨#[]⟩) /\ w2 = w' from (ed _ _).mono (by rintro e w' ⟨rfl, rfl⟩; rw [j6 hm]; exact ⟨rfl, rfl⟩))
       have HM := hid hm
       have HDD := hid hd
       obtain ⟨⟨g0, g1, g2, g3, g4, g5⟩, _⟩ := ab H3.out
       have p17 := cI HFB.out.blk 17
       have hbD : ¬ f.b = D0 := fun e => (HS.out.ps.sep D0 (.inr (.inl rfl))).2.2 f List.mem_cons_self (.inl e.symm)
       have hbE : ¬ f.b = D0 + 1 := fun e => (HS.out.ps.sep (D0 + 1) (.inr (.inr rfl))).2.2 f List.mem_cons_self (.inl e.symm)
       obtain ⟨n, hn⟩ : ∃ n, n = f.fr.items.length := ⟨_, rfl⟩
       have hn5 : n <= 100000 := by rw [hn]; exact HS.out.its f List.mem_cons_self
       rw [<- hn] at c17
       have HOWN := hid (show (w2.alloc (.cells (rwC 0 0 false none 0 0 ⟨#[]⟩ none 0 0) 27)).ownsRow base 27 6 (.slice f.R n f.rc) n (f.xs.flatMap dD) from by rw [hn]; exact HFB.out.own.alloc _)
       have HNEW := hid (fU (hN w2 (.cells (rwC 0 0 false none 0 0 ⟨#[]⟩ none 0 0) 27)))
       have HN := hid hn
       have HBS := hid (show base <= (w2.alloc (.cells (rwC 0 0 false none 0 0 ⟨#[]⟩ none 0 0) 27)).heap.size from by have := HPS.out.lt; simp; omega)
       have HONE := hid (show ∀ u ∈ ([.int .i64 0, .int .i32 0, .bool false, .slice none 0 0, .string ⟨#[]⟩, .slice none 0 0] : List Value), u.oneCell' = true from by intro u hu; simp only [List.mem_cons, List.not_mem_nil, or_false] at hu; rcases hu with rfl | rfl | rfl | rfl | rfl | rfl <;> rfl)
       have HLAY := hid (fun (w5 : World) (K : ah (fun b => f.row.ownBlock = some b) w2 w5) => (show (w5.cell? ⟨D0, 0, none⟩ = some (.int .i64 d.k) /\ w5.cell? ⟨D0, 1, none⟩ = some (.int .i32 d.c) /\ w5.cell? ⟨D0, 2, none⟩ = some (.bool d.neg) /\ w5.cell? ⟨D0, 3, none⟩ = some (.slice pd.A pd.n pd.cp) /\ w5.cell? ⟨D0, 4, none⟩ = some (.string d.t) /\ w5.cell? ⟨D0, 5, none⟩ = some (.slice pd.B pd.m pd.cap)) /\ w5.cell? ⟨f.b, 17, none⟩ = some (.slice f.R n f.rc) /\ w5.frozen? ⟨f.b, 17, none⟩ = false from by
        have h3 := K.heap H3.out (fun e => (HS.out.ps.sep D0 (.inr (.inl rfl))).2.2 f List.mem_cons_self (.inr e))
        have hb := K.heap HFB.out.blk (fun e => by
         obtain ⟨_, Y, hY⟩ := bC HFB.out.own _ e
         exact absurd (cQ hY HFB.out.blk) (by decide))
        obtain ⟨_, _, _, _, _, q17⟩ := eh hb
        exact ⟨(ab h3).1, by rw [HN.out]; exact q17, cI hb 17⟩))
       have HNE := hid (fun (w5 : World) (K : ah (fun b => f.row.ownBlock = some b) w2 w5) (g' c' : Nat) (zs : List Value) (ho : w5.ownsRow base 27 6 (.slice (some ⟨g', 0, none⟩) (n + 1) c') (n + 1) zs) => (show ¬ f.b = g' from fun e => by
        subst e
        have hb := K.heap HFB.out.blk (fun e => by
         obtain ⟨_, Y, hY⟩ := bC HFB.out.own _ e
         exact absurd (cQ hY HFB.out.blk) (by decide))
        obtain ⟨_, Y, hY⟩ := bC ho f.b rfl
        exact absurd (cQ hY hb) (by decide)))
       have hn0 : (0 : Int) <= (n : Int) := by omega
       have hn1 : (n : Int) < (n : Int) + 1 := by omega
       have hn2 : (n : Int) < ((n + 1 : Nat) : Int) := by omega
       clear hm hd hn
       go_wp2_with fail
       refine HQ.out.mono ?_
       rintro e w3 ⟨rfl, rfl⟩
       go_wp2_with fail
       clear c0 c10 c11 c12 c13 c14 c15 c16
       obtain ⟨⟨s0, s1, s2, s3, s4, s5⟩, _⟩ := ab (ac H3.out (.cells (rwC 0 0 false none 0 0 ⟨#[]⟩ none 0 0) 27))
       obtain ⟨_, _, _, _, _, s17⟩ := eh (ac HFB.out.blk (.cells (rwC 0 0 false none 0 0 ⟨#[]⟩ none 0 0) 27))
       rw [<- HN.out] at s17
       go_region_law (refine d9 rfl (.tmp 36) (.tmp 39) 25 rfl base 27 i27 (.agg (rwC 0 0 false none 0 0 ⟨#[]⟩ none 0 0)) 6 88 Tryz.underlying25 h27 hz0 hz1 hz2 rfl (by decide) (.slice f.R n f.rc) n _ (by rfl) (by exact HOWN.out) ⟨w2.heap.size, 0, none⟩ 1 1 [.int .i64 0, .int .i32 0, .bool false, .slice none 0 0, .string ⟨#[]⟩, .slice none 0 0] (by rfl) (by rfl) (by exact HNEW.out) HONE.out (by unfold maxLen; omega) (by omega) (by exact HBS.out) ?_; intro v1 w5 hown hgrow hblk; obtain ⟨A', c', rfl⟩ := eo hown; obtain ⟨g', rfl, hg'⟩ := d6 hown (by omega); have K5 : ah (fun b => f.row.ownBlock = some b) w2 w5 := ((((ah.refl (fun _ => False) w2).alloc (.cells (rwC 0 0 false none 0 0 ⟨#[]⟩ none 0 0) 27)).drew).mono (fun _ _ h => h.elim)).grown hgrow (fun k hk => .inl (by unfold FB.row; rw [<- HN.out]; exact hk)); obtain ⟨⟨m0, m1, m2, m3, m4, m5⟩, q17, r17⟩ := HLAY.out w5 K5; have hgb := HNE.out w5 K5 g' c' _ hown; have hgb2 : ¬ g' = f.b := fun e => hgb e.symm; obtain ⟨⟨l0, l1, l2, l3, l4, l5⟩, lf⟩ := mi hown (n * 6) rfl; have lf0 := lf (n * 6); have lf1 := lf (n * 6 + 1); have lf2 := lf (n * 6 + 2); have lf3 := lf (n * 6 + 3); have lf4 := lf (n * 6 + 4); have lf5 := lf (n * 6 + 5); clear lf; have HK5 := hid K5; have HOWN5 := hid hown; have HBLK := hid hblk; clear K5 hown hgrow hblk)
       all_goals
        have hgr : ∀ b, (Value.slice (some ⟨g', 0, none⟩) (n + 1) c').ownBlock = some b -> f.row.ownBlock = some b \/ w2.heap.size <= b := fun b e => by
         rcases HBLK.out with e2 | e2
         · left; unfold FB.row; rw [<- HN.out, <- e]; exact e2.symm
         · right; have e3 := e.symm.trans e2; injection e3 with e3; rw [e3]; simp
        obtain ⟨hPI, hKI⟩ := HPS.out.item HDT.out HK5.out HN.out HOWN5.out hgr hgb
        have HPI := hid hPI
        have H3 := hid (hKI.heap H3.out (fun e => (HPS.out.sep D0 (.inr (.inl rfl))).2.2 f List.mem_cons_self e))
        have H4 := hid (hKI.heap H4.out (fun e => (HPS.out.sep (D0 + 1) (.inr (.inr rfl))).2.2 f List.mem_cons_self e))
        have HKE := hid (HKE.out.trans (hKI.mono (fun b _ e => (HPS.out.typ List.mem_cons_self b e).1)))
        clear hPI hKI hgr
        try rw [nN w5 f.b g' (n * 6) hgb]
        generalize ((ge w5 g' (n * 6) (.int .i64 d.k) (.int .i32 d.c) (.bool d.neg) (.slice pd.A pd.n pd.cp) (.string d.t) (.slice pd.B pd.m pd.cap)).setCell ⟨f.b, 17, none⟩ (.slice (some ⟨g', 0, none⟩) (n + 1) c')) = w6 at *
        clear g0 g1 g2 g3 g4 g5 s0 s1 s2 s3 s4 s5 s17 p17 m0 m1 m2 m3 m4 m5 q17 r17 l0 l1 l2 l3 l4 l5 lf0 lf1 lf2 lf3 lf4 lf5
        have HE := hid (HKE.out.trans ((aq w6 (D0 + 1) (.int .i64 d.k) (.int .i32 d.c) (.bool d.neg) (.slice pd.A pd.n pd.cp) (.string d.t) (.slice pd.B pd.m pd.cap)).mono (fun b _ e => (show base <= b by rw [e]; have := HD0.out; have := HBW.out; omega))))
        have HR := hid (ab (aQ H4.out (.int .i64 d.k) (.int .i32 d.c) (.bool d.neg) (.slice pd.A pd.n pd.cp) (.string d.t) (.slice pd.B pd.m pd.cap))).1
        obtain ⟨⟨g0, g1, g2, g3, g4, g5⟩, _⟩ := ab H3.out
        obtain ⟨⟨b0, b1, b2, b3, b4, b5⟩, f0, f1, f2, f3, f4, f5⟩ := ab H4.out
        go_wp2_with fail
        refine bodyPost_ret (v := .tuple #[.agg (rwC d.k d.c d.neg pd.A pd.n pd.cp d.t pd.B pd.m pd.cap), .bool false]) ?_ rfl ?_
        · obtain ⟨e0, e1, e2, e3, e4, e5⟩ := HR.out
          simp [results, Tryz.results71, go_sem, e0, e1, e2, e3, e4, e5]
        · have hp := HS.out.put
          rw [<- hp, List.map_cons, iQ HM.out HDD.out]
          exact ⟨_, R, rc, d, pd, rfl, rfl, PuS.fin H4.out HPI.out, HE.out⟩
end Go.Proofs.YtonnikipeokkaaaGreatDoor
