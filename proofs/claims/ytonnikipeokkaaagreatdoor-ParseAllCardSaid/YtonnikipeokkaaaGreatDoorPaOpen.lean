import Derived.Test.YtonnikipeokkaaaGreatDoorPaOne
namespace Go.Proofs.YtonnikipeokkaaaGreatDoor
set_option maxRecDepth 100000
set_option maxHeartbeats 1000000
open Go.Lib (hid)
open Go.RowKit Go.Lib
structure FB where
 fr : Fr
 b : Nat
 en : Int
 t4 : Value
 t5 : Value
 t6 : Value
 t7 : Value
 t8 : Value
 t9 : Value
 pt : PV
 xs : List (Raw × PV)
 R : Option Addr
 rc : Nat
abbrev opC (kind at_ en : Int) (sq : Bool) (t4 t5 t6 t7 t8 t9 : Value) (dot : Int) (d : Raw) (p : PV) (R : Option Addr) (n rc : Nat) : Array Value := #[.int .i64 kind, .int .i64 at_, .int .i64 en, .bool sq, t4, t5, t6, t7, t8, t9, .int .i64 dot, .int .i64 d.k, .int .i32 d.c, .bool d.neg, .slice p.A p.n p.cp, .string d.t, .slice p.B p.m p.cap, .slice R n rc]
def FB.row (f : FB) : Value := .slice f.R f.fr.items.length f.rc
def FB.blks (f : FB) (b : Nat) : Prop := b = f.b \/ f.row.ownBlock = some b
def FB.ptr (f : FB) : Value := .pointer (some ⟨f.b, 0, none⟩)
def dj (pb : Nat) (rv : Value) (fs : List FB) (X : Nat -> Prop) (b : Nat) : Prop := b = pb \/ rv.ownBlock = some b \/ (∃ f ∈ fs, f.blks b) \/ X b
abbrev cn (A : Nat -> Prop) (base : Nat) (w : World) (d : Raw) (p : PV) : Prop := au (fun b => base <= b /\ ¬ A b) w d p
structure lG (A : Nat -> Prop) (base : Nat) (w : World) (f : FB) : Prop where
 blk : w.heap[f.b]? = some (.cells (opC f.fr.kind f.fr.at_ f.en f.fr.sq f.t4 f.t5 f.t6 f.t7 f.t8 f.t9 f.fr.dot f.fr.tail f.pt f.R f.fr.items.length f.rc) 173 (0, 0))
 bb : base <= f.b
 own : w.ownsRow base 27 6 f.row f.fr.items.length (f.xs.flatMap dD)
 cnt : f.xs.map Prod.fst = f.fr.items
 items : ∀ y ∈ f.xs, cn A base w y.1 y.2
 tail : cn A base w f.fr.tail f.pt
def FB.parts (f g : FB) : Prop := f.b ≠ g.b /\ ∀ b, f.row.ownBlock = some b -> g.row.ownBlock ≠ some b
structure PS (X : Nat -> Prop) (base pb : Nat) (fs : List FB) (R : Option Addr) (rc : Nat) (w : World) : Prop where
 hp : w.heap[pb]? = some (.cells #[.slice R fs.length rc] 120 (0, 0))
 bp : base <= pb
 row : w.ownsRow base 171 1 (.slice R fs.length rc) fs.length (fs.reverse.map FB.ptr)
 all : ∀ f ∈ fs, lG (dj pb (.slice R fs.length rc) fs X) base w f
 apart : fs.Pairwise FB.parts
 sep : ∀ b, X b -> b ≠ pb /\ (Value.slice R fs.length rc).ownBlock ≠ some b /\ ∀ f ∈ fs, ¬ f.blks b
 xlt : ∀ b, X b -> b < w.heap.size
theorem bC {w : World} {base n k : Nat} {e : TypeId} {v : Value} {xs : List Value} (h : w.ownsRow base e k v n xs) : ∀ b, v.ownBlock = some b -> base <= b /\ ∃ X, w.heap[b]? = some (.cells X e (0, 0)) := by
 intro b hb
 rcases h.2 with ⟨hv, h0⟩ | ⟨g, cap, cur, hv, hg, hh, h1, h2⟩
 · rw [hv] at hb; cases hb
 · rw [hv] at hb
   injection hb with hb
   subst hb
   exact ⟨hg, cur, hh⟩
theorem cQ {w : World} {b : Nat} {X Y : Array Value} {T U : TypeId} {f g : Nat × Nat} (h : w.heap[b]? = some (.cells X T f)) (h' : w.heap[b]? = some (.cells Y U g)) : T = U := by
 rw [h] at h'; injection h' with h'; injection h'
theorem fA {w : World} {base n k : Nat} {e : TypeId} {v : Value} {xs : List Value} {S : Nat -> Prop} {w' : World} (h : w.ownsRow base e k v n xs) (K : ah S w w') (hs : ∀ b, v.ownBlock = some b -> ¬ S b) : w'.ownsRow base e k v n xs := by
 refine ⟨h.1, ?_⟩
 rcases h.2 with hv | ⟨g, cap, cur, hv, hg, hh, h1, h2⟩
 · exact .inl hv
 · exact .inr ⟨g, cap, cur, hv, hg, K.heap hh (hs g (by rw [hv]; rfl)), h1, h2⟩
theorem cn.carry {A A' S : Nat -> Prop} {base : Nat} {w w' : World} {d : Raw} {p : PV} (h : cn A base w d p) (K : ah S w w') (hS : ∀ b, S b -> A b /\ ¬ eC w b) (hA : ∀ b, b < w.heap.size -> A' b -> A b) : cn A' base w' d p := by
 have h1 : au (fun b => (base <= b /\ ¬ A b) /\ b < w.heap.size) w d p := h.mono (fun b hb ho => ⟨ho, hb⟩)
 refine (h1.keep K (fun b hb => ⟨fun hq => hq.1.2 (hS b hb).1, (hS b hb).2⟩)).mono (fun b _ hq => ⟨hq.1.1, fun ha => hq.1.2 (hA b hq.2 ha)⟩)
theorem lG.carry {A A' S : Nat -> Prop} {base : Nat} {w w' : World} {f : FB} (h : lG A base w f) (K : ah S w w') (hS : ∀ b, S b -> A b /\ ¬ eC w b) (hA : ∀ b, b < w.heap.size -> A' b -> A b) (hf : ∀ b, S b -> ¬ f.blks b) : lG A' base w' f :=
 ⟨K.heap h.blk (fun hb => hf _ hb (.inl rfl)), h.bb, fA h.own K (fun b hb hS => hf b hS (.inr hb)), h.cnt, fun y hy => (h.items y hy).carry K hS hA, h.tail.carry K hS hA⟩
namespace PS
variable {X : Nat -> Prop} {base pb rc : Nat} {f : FB} {fs : List FB} {R : Option Addr} {w w' : World}
theorem blt (h : PS X base pb fs R rc w) (hf : f ∈ fs) : ∀ b, f.blks b -> b < w.heap.size := by
 rintro b (rfl | hb)
 · exact ao (h.all f hf).blk
 · obtain ⟨_, Y, hY⟩ := bC (h.all f hf).own _ hb
   exact ao hY
theorem turn {X' S : Nat -> Prop} (h : PS X base pb fs R rc w) (K : ah S w w') (hS : ∀ b, S b -> X b /\ ¬ eC w b) (hX : ∀ b, X' b -> X b \/ w.heap.size <= b) (hlt : ∀ b, X' b -> b < w'.heap.size) : PS X' base pb fs R rc w' := by
 have hA : ∀ b, b < w.heap.size -> dj pb (.slice R fs.length rc) fs X' b -> dj pb (.slice R fs.length rc) fs X b := by
  rintro b hl (e | e | e | e)
  · exact .inl e
  · exact .inr (.inl e)
  · exact .inr (.inr (.inl e))
  · rcases hX b e with e | e
    · exact .inr (.inr (.inr e))
    · omega
 refine ⟨K.heap h.hp (fun e => (h.sep _ (hS _ e).1).1 rfl), h.bp, fA h.row K (fun b hb e => (h.sep _ (hS _ e).1).2.1 hb), fun f hf => (h.all f hf).carry K (fun b hb => ⟨.inr (.inr (.inr (hS b hb).1)), (hS b hb).2⟩) hA (fun b hb => (h.sep b (hS b hb).1).2.2 f hf), h.apart, ?_, hlt⟩
 intro b hb
 rcases hX b hb with e | e
 · exact h.sep b e
 · refine ⟨fun e2 => ?_, fun e2 => ?_, fun f hf e2 => ?_⟩
   · have := ao h.hp; omega
   · obtain ⟨_, Y, hY⟩ := bC h.row _ e2
     have := ao hY; omega
   · have := h.blt hf b e2; omega
theorem keep0 (h : PS X base pb fs R rc w) (K : K0 w w') : PS X base pb fs R rc w' := h.turn K (fun _ e => e.elim) (fun _ => .inl) (fun b hb => Nat.lt_of_lt_of_le (h.xlt b hb) K.size)
theorem lt (h : PS X base pb fs R rc w) : base <= pb /\ pb < w.heap.size := ⟨h.bp, ao h.hp⟩
theorem flt (h : PS X base pb fs R rc w) (hf : f ∈ fs) : base <= f.b /\ f.b < w.heap.size := ⟨(h.all f hf).bb, ao (h.all f hf).blk⟩
theorem typ (h : PS X base pb fs R rc w) (hf : f ∈ fs) : ∀ b, f.blks b -> base <= b /\ b ≠ pb /\ (Value.slice R fs.length rc).ownBlock ≠ some b /\ ¬ eC w b := by
 rintro b (rfl | hb)
 · have hh := (h.all f hf).blk
   refine ⟨(h.all f hf).bb, ?_, fun e => ?_, ax hh (by decide)⟩
   · rintro rfl
     exact absurd (cQ h.hp hh) (by decide)
   · obtain ⟨_, Y, hY⟩ := bC h.row _ e
     exact absurd (cQ hY hh) (by decide)
 · obtain ⟨h1, Y, hh⟩ := bC (h.all f hf).own _ hb
   refine ⟨h1, ?_, fun e => ?_, ax hh (by decide)⟩
   · rintro rfl
     exact absurd (cQ h.hp hh) (by decide)
   · obtain ⟨_, Z, hZ⟩ := bC h.row _ e
     exact absurd (cQ hZ hh) (by decide)
theorem off (h : PS X base pb (f :: fs) R rc w) {g : FB} (hg : g ∈ fs) : ∀ b, f.blks b -> ¬ g.blks b := by
 have hfg := (List.pairwise_cons.1 h.apart).1 g hg
 have hf := h.all f List.mem_cons_self
 have hgg := h.all g (List.mem_cons_of_mem _ hg)
 rintro b (rfl | hb) (e | e)
 · exact hfg.1 e
 · obtain ⟨_, Y, hY⟩ := bC hgg.own _ e
   exact absurd (cQ hY hf.blk) (by decide)
 · subst e
   obtain ⟨_, Y, hY⟩ := bC hf.own _ hb
   exact absurd (cQ hY hgg.blk) (by decide)
 · exact hfg.2 b hb e
theorem fin (_h : PS X base pb (f :: fs) R rc w) : ∀ b, f.blks b -> dj pb (.slice R (f :: fs).length rc) (f :: fs) X b := fun _ hb => .inr (.inr (.inl ⟨f, List.mem_cons_self, hb⟩))
theorem upd (h : PS X base pb (f :: fs) R rc w) (K : ah (fun b => f.blks b) w w') (f' : FB) (hb : f'.b = f.b) (hrow : ∀ b, f'.row.ownBlock = some b -> f.row.ownBlock = some b \/ w.heap.size <= b)
 (blk : w'.heap[f'.b]? = some (.cells (opC f'.fr.kind f'.fr.at_ f'.en f'.fr.sq f'.t4 f'.t5 f'.t6 f'.t7 f'.t8 f'.t9 f'.fr.dot f'.fr.tail f'.pt f'.R f'.fr.items.length f'.rc) 173 (0, 0)))
 (own : w'.ownsRow base 27 6 f'.row f'.fr.items.length (f'.xs.flatMap dD)) (cnt : f'.xs.map Prod.fst = f'.fr.items)
 (items : ∀ y ∈ f'.xs, y ∈ f.xs \/ cn (dj pb (.slice R (f :: fs).length rc) (f :: fs) X) base w y.1 y.2)
 (tail : f'.fr.tail = f.fr.tail /\ f'.pt = f.pt \/ cn (dj pb (.slice R (f :: fs).length rc) (f :: fs) X) base w f'.fr.tail f'.pt) : PS X base pb (f' :: fs) R rc w' := by
 have hf := List.mem_cons_self (a := f) (l := fs)
 have hS : ∀ b, f.blks b -> dj pb (.slice R (f :: fs).length rc) (f :: fs) X b /\ ¬ eC w b := fun b hb => ⟨h.fin b hb, (h.typ hf b hb).2.2.2⟩
 have hbk : ∀ b, f'.blks b -> f.blks b \/ w.heap.size <= b := by
  rintro b (e | e)
  · exact .inl (.inl (by rw [e, hb]))
  · rcases hrow b e with e | e
    · exact .inl (.inr e)
    · exact .inr e
 have hA : ∀ b, b < w.heap.size -> dj pb (.slice R (f' :: fs).length rc) (f' :: fs) X b -> dj pb (.slice R (f :: fs).length rc) (f :: fs) X b := by
  rintro b hlt (e | e | ⟨g, hg, e⟩ | e)
  · exact .inl e
  · exact .inr (.inl e)
  · rcases List.mem_cons.1 hg with rfl | hg
    · rcases hbk b e with e | e
      · exact .inr (.inr (.inl ⟨f, hf, e⟩))
      · omega
    · exact .inr (.inr (.inl ⟨g, List.mem_cons_of_mem _ hg, e⟩))
  · exact .inr (.inr (.inr e))
 refine ⟨K.heap h.hp (fun e => (h.typ hf _ e).2.1 rfl), h.bp, ?_, fun g hg => ?_, ?_, fun b hx => ?_, fun b hx => Nat.lt_of_lt_of_le (h.xlt b hx) K.size⟩
 · have := fA h.row K (fun b hb e => (h.typ hf _ e).2.2.1 hb)
   have e : (f' :: fs).reverse.map FB.ptr = (f :: fs).reverse.map FB.ptr := by
    simp only [List.reverse_cons, List.map_append, List.map_cons, List.map_nil]
    unfold FB.ptr
    rw [hb]
   rw [e]
   exact this
 · rcases List.mem_cons.1 hg with rfl | hg
   · refine ⟨blk, by rw [hb]; exact (h.all f hf).bb, own, cnt, fun y hy => ?_, ?_⟩
     · rcases items y hy with hy | hy
       · exact ((h.all f hf).items y hy).carry K hS hA
       · exact cn.carry hy K hS hA
     · rcases tail with ⟨e1, e2⟩ | ht
       · rw [e1, e2]; exact (h.all f hf).tail.carry K hS hA
       · exact cn.carry ht K hS hA
   · exact (h.all g (List.mem_cons_of_mem _ hg)).carry K hS hA (fun b hb => h.off hg b hb)
 · obtain ⟨h1, h2⟩ := List.pairwise_cons.1 h.apart
   refine List.pairwise_cons.2 ⟨fun g hg => ⟨by rw [hb]; exact (h1 g hg).1, fun b e e' => ?_⟩, h2⟩
   rcases hrow b e with e | e
   · exact (h1 g hg).2 b e e'
   · have := h.blt (List.mem_cons_of_mem _ hg) b (.inr e')
     omega
 · obtain ⟨s1, s2, s3⟩ := h.sep b hx
   refine ⟨s1, s2, fun g hg e => ?_⟩
   rcases List.mem_cons.1 hg with rfl | hg
   · rcases hbk b e with e | e
     · exact s3 f hf e
     · have := h.xlt b hx; omega
   · exact s3 g (List.mem_cons_of_mem _ hg) e
theorem pop_act {b : Nat} (e : dj pb (.slice R fs.length rc) fs X b) : dj pb (.slice R (f :: fs).length rc) (f :: fs) X b := by
 rcases e with e | e | ⟨g, hg, e⟩ | e
 · exact .inl e
 · refine .inr (.inl ?_)
   cases R with
   | none => cases e
   | some a => exact e
 · exact .inr (.inr (.inl ⟨g, List.mem_cons_of_mem _ hg, e⟩))
 · exact .inr (.inr (.inr e))
theorem pop (h : PS X base pb (f :: fs) R rc w) (K : ah (fun b => b = pb) w w') (hp : w'.heap[pb]? = some (.cells #[.slice R fs.length rc] 120 (0, 0))) : PS X base pb fs R rc w' := by
 have hS : ∀ b, b = pb -> dj pb (.slice R (f :: fs).length rc) (f :: fs) X b /\ ¬ eC w b := by
  rintro b rfl
  exact ⟨.inl rfl, ax h.hp (by decide)⟩
 refine ⟨hp, h.bp, ?_, fun g hg => ?_, (List.pairwise_cons.1 h.apart).2, fun b hx => ?_, fun b hx => Nat.lt_of_lt_of_le (h.xlt b hx) K.size⟩
 · have h1 : w.ownsRow base 171 1 (.slice R fs.length rc) fs.length (fs.reverse.map FB.ptr) := by
    refine ⟨by simp, ?_⟩
    rcases h.row.2 with ⟨hv, h0⟩ | ⟨g, cap, cur, hv, hg, hh, h1, h2, h3, h4⟩
    · simp at h0
    · injection hv with e1 e2 e3
      refine .inr ⟨g, cap, cur, by rw [e1, e3], hg, hh, by simp at h1; omega, h2, h3, ?_⟩
      rw [List.reverse_cons, List.map_append] at h4
      have h5 : fs.length * 1 <= (f :: fs).length * 1 := by simp
      have h6 := congrArg (List.take (fs.length * 1)) h4
      rw [List.take_take, Nat.min_eq_left h5] at h6
      rw [h6, List.take_left' (by simp)]
   refine fA h1 K (fun b hb e => ?_)
   subst e
   obtain ⟨_, Y, hY⟩ := bC h1 _ hb
   exact absurd (cQ hY h.hp) (by decide)
 · exact (h.all g (List.mem_cons_of_mem _ hg)).carry K hS (fun b _ => pop_act) (fun b e hb => (h.typ (List.mem_cons_of_mem _ hg) b hb).2.1 e)
 · obtain ⟨s1, s2, s3⟩ := h.sep b hx
   refine ⟨s1, fun e => s2 ?_, fun g hg => s3 g (List.mem_cons_of_mem _ hg)⟩
   cases R with
   | none => cases e
   | some a => exact e
theorem pop_off (h : PS X base pb (f :: fs) R rc w) (K : ah (fun b => b = pb) w w') {d : Raw} {p : PV} (hd : cn (dj pb (.slice R (f :: fs).length rc) (f :: fs) X) base w d p) : cn (dj pb (.slice R fs.length rc) fs X) base w' d p :=
 cn.carry hd K (by rintro b rfl; exact ⟨.inl rfl, ax h.hp (by decide)⟩) (fun _ _ => pop_act)
theorem push (h : PS X base pb fs R rc w) (f : FB) {R' : Option Addr} {rc' : Nat} (K : ah (fun b => b = pb \/ (Value.slice R fs.length rc).ownBlock = some b) w w') (hb : w.heap.size <= f.b)
 (blk : w'.heap[f.b]? = some (.cells (opC f.fr.kind f.fr.at_ f.en f.fr.sq f.t4 f.t5 f.t6 f.t7 f.t8 f.t9 f.fr.dot f.fr.tail f.pt f.R f.fr.items.length f.rc) 173 (0, 0)))
 (hi : f.fr.items = []) (hx : f.xs = []) (hR : f.R = none) (hrc : f.rc = 0) (ht : f.fr.tail = .nil) (hpt : f.pt = PV.none)
 (hp : w'.heap[pb]? = some (.cells #[.slice R' (fs.length + 1) rc'] 120 (0, 0)))
 (hown : w'.ownsRow base 171 1 (.slice R' (fs.length + 1) rc') (fs.length + 1) ((f :: fs).reverse.map FB.ptr)) (hblk : ∀ b, (Value.slice R' (fs.length + 1) rc').ownBlock = some b -> (Value.slice R fs.length rc).ownBlock = some b \/ w.heap.size <= b) :
 PS X base pb (f :: fs) R' rc' w' := by
 have hS : ∀ b, (b = pb \/ (Value.slice R fs.length rc).ownBlock = some b) -> dj pb (.slice R fs.length rc) fs X b /\ ¬ eC w b := by
  rintro b (rfl | e)
  · exact ⟨.inl rfl, ax h.hp (by decide)⟩
  · obtain ⟨_, Y, hY⟩ := bC h.row _ e
    exact ⟨.inr (.inl e), ax hY (by decide)⟩
 have hrow0 : f.row.ownBlock = none := by unfold FB.row; rw [hR]; rfl
 have hnb : ∀ b, f.blks b -> b = f.b := by
  rintro b (e | e)
  · exact e
  · rw [hrow0] at e; cases e
 have hA : ∀ b, b < w.heap.size -> dj pb (.slice R' (f :: fs).length rc') (f :: fs) X b -> dj pb (.slice R fs.length rc) fs X b := by
  rintro b hlt (e | e | ⟨g, hg, e⟩ | e)
  · exact .inl e
  · rcases hblk b e with e | e
    · exact .inr (.inl e)
    · omega
  · rcases List.mem_cons.1 hg with rfl | hg
    · have := hnb b e; omega
    · exact .inr (.inr (.inl ⟨g, hg, e⟩))
  · exact .inr (.inr (.inr e))
 refine ⟨hp, h.bp, hown, fun g hg' => ?_, List.pairwise_cons.2 ⟨fun g hg' => ⟨fun e => ?_, fun b e => ?_⟩, h.apart⟩, fun b hx' => ?_, fun b hx' => Nat.lt_of_lt_of_le (h.xlt b hx') K.size⟩
 · rcases List.mem_cons.1 hg' with rfl | hg'
   · refine ⟨blk, by have := h.lt; omega, ?_, by rw [hx, hi]; rfl, by rw [hx]; simp, by rw [ht, hpt]; exact bo.nil _ _ _⟩
     rw [hx]
     refine ⟨by rw [hi]; rfl, .inl ⟨?_, by rw [hi]; rfl⟩⟩
     unfold FB.row
     rw [hR, hrc, hi]; rfl
   · refine (h.all g hg').carry K hS hA (fun b hb e => ?_)
     rcases hb with hb | hb
     · exact (h.typ hg' b e).2.1 hb
     · exact (h.typ hg' b e).2.2.1 hb
 · have := (h.flt hg').2
   omega
 · rw [hrow0] at e; cases e
 · obtain ⟨s1, s2, s3⟩ := h.sep b hx'
   have hl := h.xlt b hx'
   refine ⟨s1, fun e => ?_, fun g hg' e => ?_⟩
   · rcases hblk b e with e | e
     · exact s2 e
     · omega
   · rcases List.mem_cons.1 hg' with rfl | hg'
     · have := hnb b e; omega
     · exact s3 g hg' e
end PS
theorem qJ (n : Nat) (h : 0 < n) : ((n : Int) == 0) = false := by simp; omega
theorem qg {X : Nat -> Prop} {base pb rc : Nat} {R : Option Addr} {w : World} (h : PS X base pb [] R rc w) : Calls Tryz.prog 101 #[.pointer (some ⟨pb, 0, none⟩)] w fun e w' => e = .returned (.pointer none) /\ w = w' := by
 have c0 : w.cell? ⟨pb, 0, none⟩ = some (.slice R 0 rc) := by rw [cell_of_row w _ _ _ _ _ h.hp]; rfl
 clear h
 go_enter Tryz.func101, Tryz.ntmps101
 go_wp2_with fail
 go_ret
 exact ⟨rfl, rfl⟩
theorem PS.prow {X : Nat -> Prop} {base pb rc : Nat} {f : FB} {fs : List FB} {R : Option Addr} {w : World} (h : PS X base pb (f :: fs) R rc w) : ∃ g, R = some ⟨g, 0, none⟩ /\ w.cell? ⟨g, fs.length, none⟩ = some f.ptr /\ fs.length + 1 <= rc := by
 rcases h.row.2 with ⟨hv, h0⟩ | ⟨g, cap, cur, hv, hg, hh, h1, h2, h3, h4⟩
 · simp at h0
 · injection hv with e1 e2 e3
   refine ⟨g, e1, ?_, by simp at h1; omega⟩
   rw [cell_of_row w _ _ _ _ _ hh]
   have h5 := congrArg (fun l => l[fs.length]?) h4
   simp only [List.length_cons, Nat.mul_one, List.reverse_cons, List.map_append, List.map_cons, List.map_nil] at h5
   rw [List.getElem?_append_right (by simp)] at h5
   simp only [List.length_map, List.length_reverse, Nat.sub_self, List.getElem?_cons_zero] at h5
   rw [List.getElem?_take, if_pos (by omega)] at h5
   simpa using h5
theorem ow {X : Nat -> Prop} {base pb rc : Nat} {f : FB} {fs : List FB} {R : Option Addr} {w : World} (h : PS X base pb (f :: fs) R rc w) (hl : fs.length <= 64) : Calls Tryz.prog 101 #[.pointer (some ⟨pb, 0, none⟩)] w fun e w' => e = .returned f.ptr /\ K0 w w' := by
 obtain ⟨g, rfl, hc, hrc⟩ := h.prow
 obtain ⟨k, hk⟩ : ∃ k, k = fs.length := ⟨_, rfl⟩
 obtain ⟨n, hn⟩ : ∃ n, n = k + 1 := ⟨_, rfl⟩
 have c0 : w.cell? ⟨pb, 0, none⟩ = some (.slice (some ⟨g, 0, none⟩) n rc) := by rw [cell_of_row w _ _ _ _ _ h.hp, hn, hk]; rfl
 rw [<- hk] at hc
 have l0 : ((n : Int) == 0) = false := qJ n (by omega)
 have l1 : IntKind.i64.wrap ((n : Int) - 1) = (k : Int) := by rw [IntWalk.i64_in _ (by omega)]; omega
 have hi0 : (0 : Int) <= (k : Int) := by omega
 have hi1 : (k : Int) < (n : Int) := by omega
 have hz : g < w.heap.size := bL w _ hc
 unfold FB.ptr at *
 clear h hrc hk hn hl
 go_enter Tryz.func101, Tryz.ntmps101
 go_wp2_with fail
 go_quiet (fail)
 go_wp2_with fail
 go_ret
 exact ⟨rfl, kR.drewN _⟩
theorem pV (kind at_ en : Int) (sq : Bool) (dk dc : Int) (dneg : Bool) (A : Option Addr) (n cp : Nat) (x : ByteArray) (pb : Nat) (w : World) (HTOP : Hid (∀ W : World, K0 w W -> Calls Tryz.prog 101 #[.pointer (some ⟨pb, 0, none⟩)] W fun e w' => e = .returned (.pointer none) /\ K0 W w')) (q9 : (kind != 9) = false) : Calls Tryz.prog 100 #[.pointer (some ⟨pb, 0, none⟩), ar kind at_ en sq dk dc dneg A n cp x] w (fun e w' => e = .returned .nilIface /\ K0 w w') := by
 have HB := hid (show (w.alloc (.cells (tkC kind at_ en sq dk dc dneg A n cp x none 0 0) 29)).heap[w.heap.size]? = some (.cells (tkC kind at_ en sq dk dc dneg A n cp x none 0 0) 29 (0, 0)) from hN w _)
 have HK1 := hid (show K0 w (w.alloc (.cells (tkC kind at_ en sq dk dc dneg A n cp x none 0 0) 29)) from kR.alloc _)
 go_enter Tryz.func100, Tryz.ntmps100
 go_wp2_with fail
 refine (HTOP.out _ HK1.out).mono ?_
 rintro e w2 ⟨rfl, k2⟩
 have HB2 := hid (k2.heap HB.out id)
 have HK2 := hid (HK1.out.trans k2)
 obtain ⟨⟨a0, a1, a2, a3, a4, a5, a6, a7, a8, a9⟩, _⟩ := aa HB2.out
 clear k2
 try dsimp only
 go_wp2_with fail
 go_ret
 exact ⟨rfl, HK2.out⟩
theorem ra (kind at_ en : Int) (sq : Bool) (dk dc : Int) (dneg : Bool) (A : Option Addr) (n cp : Nat) (x : ByteArray) (pb : Nat) (w : World) (HTOP : Hid (∀ W : World, K0 w W -> Calls Tryz.prog 101 #[.pointer (some ⟨pb, 0, none⟩)] W fun e w' => e = .returned (.pointer none) /\ K0 W w')) (R : Option Addr) (m rc : Nat) (cp0 : w.cell? ⟨pb, 0, none⟩ = some (.slice R m rc)) (q9 : (kind != 9) = true) (qm : ((m : Int) == 64) = false) : Calls Tryz.prog 100 #[.pointer (some ⟨pb, 0, none⟩), ar kind at_ en sq dk dc dneg A n cp x] w (fun e w' => e = .returned .nilIface /\ K0 w w') := by
 have HB := hid (show (w.alloc (.cells (tkC kind at_ en sq dk dc dneg A n cp x none 0 0) 29)).heap[w.heap.size]? = some (.cells (tkC kind at_ en sq dk dc dneg A n cp x none 0 0) 29 (0, 0)) from hN w _)
 have HK1 := hid (show K0 w (w.alloc (.cells (tkC kind at_ en sq dk dc dneg A n cp x none 0 0) 29)) from kR.alloc _)
 have l_cp0 := bL w _ cp0
 have H_cp0 := hid (fun (W : World) (K : K0 w W) => (K.cell (p := ⟨pb, 0, none⟩) l_cp0 id).trans cp0)
 clear l_cp0 cp0
 go_enter Tryz.func100, Tryz.ntmps100
 go_wp2_with fail
 refine (HTOP.out _ HK1.out).mono ?_
 rintro e w2 ⟨rfl, k2⟩
 have HB2 := hid (k2.heap HB.out id)
 have HK2 := hid (HK1.out.trans k2)
 obtain ⟨⟨a0, a1, a2, a3, a4, a5, a6, a7, a8, a9⟩, _⟩ := aa HB2.out
 have cp0 := H_cp0.out w2 HK2.out
 clear k2
 try dsimp only
 go_wp2_with fail
 go_ret
 exact ⟨rfl, HK2.out⟩
theorem pW (kind at_ en : Int) (sq : Bool) (dk dc : Int) (dneg : Bool) (A : Option Addr) (n cp : Nat) (x : ByteArray) (pb b : Nat) (w : World) (HTOP : Hid (∀ W : World, K0 w W -> Calls Tryz.prog 101 #[.pointer (some ⟨pb, 0, none⟩)] W fun e w' => e = .returned (.pointer (some ⟨b, 0, none⟩)) /\ K0 W w')) (kf df : Int) (L : Option Addr) (nl lc : Nat) (c0 : w.cell? ⟨b, 0, none⟩ = some (.int .i64 kf)) (c10 : w.cell? ⟨b, 10, none⟩ = some (.int .i64 df)) (c17 : w.cell? ⟨b, 17, none⟩ = some (.slice L nl lc)) (qd : (df == 2) = true) : Calls Tryz.prog 100 #[.pointer (some ⟨pb, 0, none⟩), ar kind at_ en sq dk dc dneg A n cp x] w (bR at_ 9 w) := by
 have HB := hid (show (w.alloc (.cells (tkC kind at_ en sq dk dc dneg A n cp x none 0 0) 29)).heap[w.heap.size]? = some (.cells (tkC kind at_ en sq dk dc dneg A n cp x none 0 0) 29 (0, 0)) from hN w _)
 have HK1 := hid (show K0 w (w.alloc (.cells (tkC kind at_ en sq dk dc dneg A n cp x none 0 0) 29)) from kR.alloc _)
 have l_c0 := bL w _ c0
 have l_c10 := bL w _ c10
 have l_c17 := bL w _ c17
 have H_c0 := hid (fun (W : World) (K : K0 w W) => (K.cell (p := ⟨b, 0, none⟩) l_c0 id).trans c0)
 have H_c10 := hid (fun (W : World) (K : K0 w W) => (K.cell (p := ⟨b, 10, none⟩) l_c10 id).trans c10)
 have H_c17 := hid (fun (W : World) (K : K0 w W) => (K.cell (p := ⟨b, 17, none⟩) l_c17 id).trans c17)
 clear l_c0 l_c10 l_c17 c0 c10 c17
 go_enter Tryz.func100, Tryz.ntmps100
 go_wp2_with fail
 refine (HTOP.out _ HK1.out).mono ?_
 rintro e w2 ⟨rfl, k2⟩
 have HB2 := hid (k2.heap HB.out id)
 have HK2 := hid (HK1.out.trans k2)
 obtain ⟨⟨a0, a1, a2, a3, a4, a5, a6, a7, a8, a9⟩, _⟩ := aa HB2.out
 have c0 := H_c0.out w2 HK2.out
 have c10 := H_c10.out w2 HK2.out
 have c17 := H_c17.out w2 HK2.out
 clear k2
 try dsimp only
 go_wp2_with fail
 refine (bj _ at_ 9 _).mono ?_
 rintro e w3 ⟨v, rfl, he, k3⟩
 have HE := hid he
 have HK3 := hid (HK2.out.trans k3)
 clear he k3
 try dsimp only
 go_wp2_with fail
 go_ret
 exact ⟨v, rfl, HE.out, HK3.out⟩
theorem rb (kind at_ en : Int) (sq : Bool) (dk dc : Int) (dneg : Bool) (A : Option Addr) (n cp : Nat) (x : ByteArray) (pb b : Nat) (w : World) (HTOP : Hid (∀ W : World, K0 w W -> Calls Tryz.prog 101 #[.pointer (some ⟨pb, 0, none⟩)] W fun e w' => e = .returned (.pointer (some ⟨b, 0, none⟩)) /\ K0 W w')) (kf df : Int) (L : Option Addr) (nl lc : Nat) (c0 : w.cell? ⟨b, 0, none⟩ = some (.int .i64 kf)) (c10 : w.cell? ⟨b, 10, none⟩ = some (.int .i64 df)) (c17 : w.cell? ⟨b, 17, none⟩ = some (.slice L nl lc)) (qd : (df == 2) = false) (qk : (kf == 3) = true) (ql : ((nl : Int) == 62) = true) : Calls Tryz.prog 100 #[.pointer (some ⟨pb, 0, none⟩), ar kind at_ en sq dk dc dneg A n cp x] w (bR at_ 6 w) := by
 have HB := hid (show (w.alloc (.cells (tkC kind at_ en sq dk dc dneg A n cp x none 0 0) 29)).heap[w.heap.size]? = some (.cells (tkC kind at_ en sq dk dc dneg A n cp x none 0 0) 29 (0, 0)) from hN w _)
 have HK1 := hid (show K0 w (w.alloc (.cells (tkC kind at_ en sq dk dc dneg A n cp x none 0 0) 29)) from kR.alloc _)
 have l_c0 := bL w _ c0
 have l_c10 := bL w _ c10
 have l_c17 := bL w _ c17
 have H_c0 := hid (fun (W : World) (K : K0 w W) => (K.cell (p := ⟨b, 0, none⟩) l_c0 id).trans c0)
 have H_c10 := hid (fun (W : World) (K : K0 w W) => (K.cell (p := ⟨b, 10, none⟩) l_c10 id).trans c10)
 have H_c17 := hid (fun (W : World) (K : K0 w W) => (K.cell (p := ⟨b, 17, none⟩) l_c17 id).trans c17)
 clear l_c0 l_c10 l_c17 c0 c10 c17
 go_enter Tryz.func100, Tryz.ntmps100
 go_wp2_with fail
 refine (HTOP.out _ HK1.out).mono ?_
 rintro e w2 ⟨rfl, k2⟩
 have HB2 := hid (k2.heap HB.out id)
 have HK2 := hid (HK1.out.trans k2)
 obtain ⟨⟨a0, a1, a2, a3, a4, a5, a6, a7, a8, a9⟩, _⟩ := aa HB2.out
 have c0 := H_c0.out w2 HK2.out
 have c10 := H_c10.out w2 HK2.out
 have c17 := H_c17.out w2 HK2.out
 clear k2
 try dsimp only
 go_wp2_with fail
 refine (bj _ at_ 6 _).mono ?_
 rintro e w3 ⟨v, rfl, he, k3⟩
 have HE := hid he
 have HK3 := hid (HK2.out.trans k3)
 clear he k3
 try dsimp only
 go_wp2_with fail
 go_ret
 exact ⟨v, rfl, HE.out, HK3.out⟩
theorem oe (kind at_ en : Int) (sq : Bool) (dk dc : Int) (dneg : Bool) (A : Option Addr) (n cp : Nat) (x : ByteArray) (pb b : Nat) (w : World) (HTOP : Hid (∀ W : World, K0 w W -> Calls Tryz.prog 101 #[.pointer (some ⟨pb, 0, none⟩)] W fun e w' => e = .returned (.pointer (some ⟨b, 0, none⟩)) /\ K0 W w')) (R : Option Addr) (m rc : Nat) (cp0 : w.cell? ⟨pb, 0, none⟩ = some (.slice R m rc)) (kf df : Int) (L : Option Addr) (nl lc : Nat) (c0 : w.cell? ⟨b, 0, none⟩ = some (.int .i64 kf)) (c10 : w.cell? ⟨b, 10, none⟩ = some (.int .i64 df)) (c17 : w.cell? ⟨b, 17, none⟩ = some (.slice L nl lc)) (qd : (df == 2) = false) (qk : (kf == 3) = false) (q9 : (kind != 9) = true) (qm : ((m : Int) == 64) = true) : Calls Tryz.prog 100 #[.pointer (some ⟨pb, 0, none⟩), ar kind at_ en sq dk dc dneg A n cp x] w (bR at_ 10 w) := by
 have HB := hid (show (w.alloc (.cells (tkC kind at_ en sq dk dc dneg A n cp x none 0 0) 29)).heap[w.heap.size]? = some (.cells (tkC kind at_ en sq dk dc dneg A n cp x none 0 0) 29 (0, 0)) from hN w _)
 have HK1 := hid (show K0 w (w.alloc (.cells (tkC kind at_ en sq dk dc dneg A n cp x none 0 0) 29)) from kR.alloc _)
 have l_cp0 := bL w _ cp0
 have l_c0 := bL w _ c0
 have l_c10 := bL w _ c10
 have l_c17 := bL w _ c17
 have H_cp0 := hid (fun (W : World) (K : K0 w W) => (K.cell (p := ⟨pb, 0, none⟩) l_cp0 id).trans cp0)
 have H_c0 := hid (fun (W : World) (K : K0 w W) => (K.cell (p := ⟨b, 0, none⟩) l_c0 id).trans c0)
 have H_c10 := hid (fun (W : World) (K : K0 w W) => (K.cell (p := ⟨b, 10, none⟩) l_c10 id).trans c10)
 have H_c17 := hid (fun (W : World) (K : K0 w W) => (K.cell (p := ⟨b, 17, none⟩) l_c17 id).trans c17)
 clear l_cp0 l_c0 l_c10 l_c17 cp0 c0 c10 c17
 go_enter Tryz.func100, Tryz.ntmps100
 go_wp2_with fail
 refine (HTOP.out _ HK1.out).mono ?_
 rintro e w2 ⟨rfl, k2⟩
 have HB2 := hid (k2.heap HB.out id)
 have HK2 := hid (HK1.out.trans k2)
 obtain ⟨⟨a0, a1, a2, a3, a4, a5, a6, a7, a8, a9⟩, _⟩ := aa HB2.out
 have cp0 := H_cp0.out w2 HK2.out
 have c0 := H_c0.out w2 HK2.out
 have c10 := H_c10.out w2 HK2.out
 have c17 := H_c17.out w2 HK2.out
 clear k2
 try dsimp only
 go_wp2_with fail
 refine (bj _ at_ 10 _).mono ?_
 rintro e w3 ⟨v, rfl, he, k3⟩
 have HE := hid he
 have HK3 := hid (HK2.out.trans k3)
 clear he k3
 try dsimp only
 go_wp2_with fail
 go_ret
 exact ⟨v, rfl, HE.out, HK3.out⟩
theorem oc (kind at_ en : Int) (sq : Bool) (dk dc : Int) (dneg : Bool) (A : Option Addr) (n cp : Nat) (x : ByteArray) (pb b : Nat) (w : World) (HTOP : Hid (∀ W : World, K0 w W -> Calls Tryz.prog 101 #[.pointer (some ⟨pb, 0, none⟩)] W fun e w' => e = .returned (.pointer (some ⟨b, 0, none⟩)) /\ K0 W w')) (R : Option Addr) (m rc : Nat) (cp0 : w.cell? ⟨pb, 0, none⟩ = some (.slice R m rc)) (kf df : Int) (L : Option Addr) (nl lc : Nat) (c0 : w.cell? ⟨b, 0, none⟩ = some (.int .i64 kf)) (c10 : w.cell? ⟨b, 10, none⟩ = some (.int .i64 df)) (c17 : w.cell? ⟨b, 17, none⟩ = some (.slice L nl lc)) (qd : (df == 2) = false) (qk : (kf == 3) = false) (q9 : (kind != 9) = true) (qm : ((m : Int) == 64) = false) : Calls Tryz.prog 100 #[.pointer (some ⟨pb, 0, none⟩), ar kind at_ en sq dk dc dneg A n cp x] w (fun e w' => e = .returned .nilIface /\ K0 w w') := by
 have HB := hid (show (w.alloc (.cells (tkC kind at_ en sq dk dc dneg A n cp x none 0 0) 29)).heap[w.heap.size]? = some (.cells (tkC kind at_ en sq dk dc dneg A n cp x none 0 0) 29 (0, 0)) from hN w _)
 have HK1 := hid (show K0 w (w.alloc (.cells (tkC kind at_ en sq dk dc dneg A n cp x none 0 0) 29)) from kR.alloc _)
 have l_cp0 := bL w _ cp0
 have l_c0 := bL w _ c0
 have l_c10 := bL w _ c10
 have l_c17 := bL w _ c17
 have H_cp0 := hid (fun (W : World) (K : K0 w W) => (K.cell (p := ⟨pb, 0, none⟩) l_cp0 id).trans cp0)
 have H_c0 := hid (fun (W : World) (K : K0 w W) => (K.cell (p := ⟨b, 0, none⟩) l_c0 id).trans c0)
 have H_c10 := hid (fun (W : World) (K : K0 w W) => (K.cell (p := ⟨b, 10, none⟩) l_c10 id).trans c10)
 have H_c17 := hid (fun (W : World) (K : K0 w W) => (K.cell (p := ⟨b, 17, none⟩) l_c17 id).trans c17)
 clear l_cp0 l_c0 l_c10 l_c17 cp0 c0 c10 c17
 go_enter Tryz.func100, Tryz.ntmps100
 go_wp2_with fail
 refine (HTOP.out _ HK1.out).mono ?_
 rintro e w2 ⟨rfl, k2⟩
 have HB2 := hid (k2.heap HB.out id)
 have HK2 := hid (HK1.out.trans k2)
 obtain ⟨⟨a0, a1, a2, a3, a4, a5, a6, a7, a8, a9⟩, _⟩ := aa HB2.out
 have cp0 := H_cp0.out w2 HK2.out
 have c0 := H_c0.out w2 HK2.out
 have c10 := H_c10.out w2 HK2.out
 have c17 := H_c17.out w2 HK2.out
 clear k2
 try dsimp only
 go_wp2_with fail
 go_ret
 exact ⟨rfl, HK2.out⟩
theorem qZ (kind at_ en : Int) (sq : Bool) (dk dc : Int) (dneg : Bool) (A : Option Addr) (n cp : Nat) (x : ByteArray) (pb b : Nat) (w : World) (HTOP : Hid (∀ W : World, K0 w W -> Calls Tryz.prog 101 #[.pointer (some ⟨pb, 0, none⟩)] W fun e w' => e = .returned (.pointer (some ⟨b, 0, none⟩)) /\ K0 W w')) (kf df : Int) (L : Option Addr) (nl lc : Nat) (c0 : w.cell? ⟨b, 0, none⟩ = some (.int .i64 kf)) (c10 : w.cell? ⟨b, 10, none⟩ = some (.int .i64 df)) (c17 : w.cell? ⟨b, 17, none⟩ = some (.slice L nl lc)) (qd : (df == 2) = false) (qk : (kf == 3) = false) (q9 : (kind != 9) = false) : Calls Tryz.prog 100 #[.pointer (some ⟨pb, 0, none⟩), ar kind at_ en sq dk dc dneg A n cp x] w (fun e w' => e = .returned .nilIface /\ K0 w w') := by
 have HB := hid (show (w.alloc (.cells (tkC kind at_ en sq dk dc dneg A n cp x none 0 0) 29)).heap[w.heap.size]? = some (.cells (tkC kind at_ en sq dk dc dneg A n cp x none 0 0) 29 (0, 0)) from hN w _)
 have HK1 := hid (show K0 w (w.alloc (.cells (tkC kind at_ en sq dk dc dneg A n cp x none 0 0) 29)) from kR.alloc _)
 have l_c0 := bL w _ c0
 have l_c10 := bL w _ c10
 have l_c17 := bL w _ c17
 have H_c0 := hid (fun (W : World) (K : K0 w W) => (K.cell (p := ⟨b, 0, none⟩) l_c0 id).trans c0)
 have H_c10 := hid (fun (W : World) (K : K0 w W) => (K.cell (p := ⟨b, 10, none⟩) l_c10 id).trans c10)
 have H_c17 := hid (fun (W : World) (K : K0 w W) => (K.cell (p := ⟨b, 17, none⟩) l_c17 id).trans c17)
 clear l_c0 l_c10 l_c17 c0 c10 c17
 go_enter Tryz.func100, Tryz.ntmps100
 go_wp2_with fail
 refine (HTOP.out _ HK1.out).mono ?_
 rintro e w2 ⟨rfl, k2⟩
 have HB2 := hid (k2.heap HB.out id)
 have HK2 := hid (HK1.out.trans k2)
 obtain ⟨⟨a0, a1, a2, a3, a4, a5, a6, a7, a8, a9⟩, _⟩ := aa HB2.out
 have c0 := H_c0.out w2 HK2.out
 have c10 := H_c10.out w2 HK2.out
 have c17 := H_c17.out w2 HK2.out
 clear k2
 try dsimp only
 go_wp2_with fail
 go_ret
 exact ⟨rfl, HK2.out⟩
theorem od (kind at_ en : Int) (sq : Bool) (dk dc : Int) (dneg : Bool) (A : Option Addr) (n cp : Nat) (x : ByteArray) (pb b : Nat) (w : World) (HTOP : Hid (∀ W : World, K0 w W -> Calls Tryz.prog 101 #[.pointer (some ⟨pb, 0, none⟩)] W fun e w' => e = .returned (.pointer (some ⟨b, 0, none⟩)) /\ K0 W w')) (R : Option Addr) (m rc : Nat) (cp0 : w.cell? ⟨pb, 0, none⟩ = some (.slice R m rc)) (kf df : Int) (L : Option Addr) (nl lc : Nat) (c0 : w.cell? ⟨b, 0, none⟩ = some (.int .i64 kf)) (c10 : w.cell? ⟨b, 10, none⟩ = some (.int .i64 df)) (c17 : w.cell? ⟨b, 17, none⟩ = some (.slice L nl lc)) (qd : (df == 2) = false) (qk : (kf == 3) = true) (ql : ((nl : Int) == 62) = false) (q9 : (kind != 9) = true) (qm : ((m : Int) == 64) = true) : Calls Tryz.prog 100 #[.pointer (some ⟨pb, 0, none⟩), ar kind at_ en sq dk dc dneg A n cp x] w (bR at_ 10 w) := by
 have HB := hid (show (w.alloc (.cells (tkC kind at_ en sq dk dc dneg A n cp x none 0 0) 29)).heap[w.heap.size]? = some (.cells (tkC kind at_ en sq dk dc dneg A n cp x none 0 0) 29 (0, 0)) from hN w _)
 have HK1 := hid (show K0 w (w.alloc (.cells (tkC kind at_ en sq dk dc dneg A n cp x none 0 0) 29)) from kR.alloc _)
 have l_cp0 := bL w _ cp0
 have l_c0 := bL w _ c0
 have l_c10 := bL w _ c10
 have l_c17 := bL w _ c17
 have H_cp0 := hid (fun (W : World) (K : K0 w W) => (K.cell (p := ⟨pb, 0, none⟩) l_cp0 id).trans cp0)
 have H_c0 := hid (fun (W : World) (K : K0 w W) => (K.cell (p := ⟨b, 0, none⟩) l_c0 id).trans c0)
 have H_c10 := hid (fun (W : World) (K : K0 w W) => (K.cell (p := ⟨b, 10, none⟩) l_c10 id).trans c10)
 have H_c17 := hid (fun (W : World) (K : K0 w W) => (K.cell (p := ⟨b, 17, none⟩) l_c17 id).trans c17)
 clear l_cp0 l_c0 l_c10 l_c17 cp0 c0 c10 c17
 go_enter Tryz.func100, Tryz.ntmps100
 go_wp2_with fail
 refine (HTOP.out _ HK1.out).mono ?_
 rintro e w2 ⟨rfl, k2⟩
 have HB2 := hid (k2.heap HB.out id)
 have HK2 := hid (HK1.out.trans k2)
 obtain ⟨⟨a0, a1, a2, a3, a4, a5, a6, a7, a8, a9⟩, _⟩ := aa HB2.out
 have cp0 := H_cp0.out w2 HK2.out
 have c0 := H_c0.out w2 HK2.out
 have c10 := H_c10.out w2 HK2.out
 have c17 := H_c17.out w2 HK2.out
 clear k2
 try dsimp only
 go_wp2_with fail
 refine (bj _ at_ 10 _).mono ?_
 rintro e w3 ⟨v, rfl, he, k3⟩
 have HE := hid he
 have HK3 := hid (HK2.out.trans k3)
 clear he k3
 try dsimp only
 go_wp2_with fail
 go_ret
 exact ⟨v, rfl, HE.out, HK3.out⟩
theorem ob (kind at_ en : Int) (sq : Bool) (dk dc : Int) (dneg : Bool) (A : Option Addr) (n cp : Nat) (x : ByteArray) (pb b : Nat) (w : World) (HTOP : Hid (∀ W : World, K0 w W -> Calls Tryz.prog 101 #[.pointer (some ⟨pb, 0, none⟩)] W fun e w' => e = .returned (.pointer (some ⟨b, 0, none⟩)) /\ K0 W w')) (R : Option Addr) (m rc : Nat) (cp0 : w.cell? ⟨pb, 0, none⟩ = some (.slice R m rc)) (kf df : Int) (L : Option Addr) (nl lc : Nat) (c0 : w.cell? ⟨b, 0, none⟩ = some (.int .i64 kf)) (c10 : w.cell? ⟨b, 10, none⟩ = some (.int .i64 df)) (c17 : w.cell? ⟨b, 17, none⟩ = some (.slice L nl lc)) (qd : (df == 2) = false) (qk : (kf == 3) = true) (ql : ((nl : Int) == 62) = false) (q9 : (kind != 9) = true) (qm : ((m : Int) == 64) = false) : Calls Tryz.prog 100 #[.pointer (some ⟨pb, 0, none⟩), ar kind at_ en sq dk dc dneg A n cp x] w (fun e w' => e = .returned .nilIface /\ K0 w w') := by
 have HB := hid (show (w.alloc (.cells (tkC kind at_ en sq dk dc dneg A n cp x none 0 0) 29)).heap[w.heap.size]? = some (.cells (tkC kind at_ en sq dk dc dneg A n cp x none 0 0) 29 (0, 0)) from hN w _)
 have HK1 := hid (show K0 w (w.alloc (.cells (tkC kind at_ en sq dk dc dneg A n cp x none 0 0) 29)) from kR.alloc _)
 have l_cp0 := bL w _ cp0
 have l_c0 := bL w _ c0
 have l_c10 := bL w _ c10
 have l_c17 := bL w _ c17
 have H_cp0 := hid (fun (W : World) (K : K0 w W) => (K.cell (p := ⟨pb, 0, none⟩) l_cp0 id).trans cp0)
 have H_c0 := hid (fun (W : World) (K : K0 w W) => (K.cell (p := ⟨b, 0, none⟩) l_c0 id).trans c0)
 have H_c10 := hid (fun (W : World) (K : K0 w W) => (K.cell (p := ⟨b, 10, none⟩) l_c10 id).trans c10)
 have H_c17 := hid (fun (W : World) (K : K0 w W) => (K.cell (p := ⟨b, 17, none⟩) l_c17 id).trans c17)
 clear l_cp0 l_c0 l_c10 l_c17 cp0 c0 c10 c17
 go_enter Tryz.func100, Tryz.ntmps100
 go_wp2_with fail
 refine (HTOP.out _ HK1.out).mono ?_
 rintro e w2 ⟨rfl, k2⟩
 have HB2 := hid (k2.heap HB.out id)
 have HK2 := hid (HK1.out.trans k2)
 obtain ⟨⟨a0, a1, a2, a3, a4, a5, a6, a7, a8, a9⟩, _⟩ := aa HB2.out
 have cp0 := H_cp0.out w2 HK2.out
 have c0 := H_c0.out w2 HK2.out
 have c10 := H_c10.out w2 HK2.out
 have c17 := H_c17.out w2 HK2.out
 clear k2
 try dsimp only
 go_wp2_with fail
 go_ret
 exact ⟨rfl, HK2.out⟩
theorem qY (kind at_ en : Int) (sq : Bool) (dk dc : Int) (dneg : Bool) (A : Option Addr) (n cp : Nat) (x : ByteArray) (pb b : Nat) (w : World) (HTOP : Hid (∀ W : World, K0 w W -> Calls Tryz.prog 101 #[.pointer (some ⟨pb, 0, none⟩)] W fun e w' => e = .returned (.pointer (some ⟨b, 0, none⟩)) /\ K0 W w')) (kf df : Int) (L : Option Addr) (nl lc : Nat) (c0 : w.cell? ⟨b, 0, none⟩ = some (.int .i64 kf)) (c10 : w.cell? ⟨b, 10, none⟩ = some (.int .i64 df)) (c17 : w.cell? ⟨b, 17, none⟩ = some (.slice L nl lc)) (qd : (df == 2) = false) (qk : (kf == 3) = true) (ql : ((nl : Int) == 62) = false) (q9 : (kind != 9) = false) : Calls Tryz.prog 100 #[.pointer (some ⟨pb, 0, none⟩), ar kind at_ en sq dk dc dneg A n cp x] w (fun e w' => e = .returned .nilIface /\ K0 w w') := by
 have HB := hid (show (w.alloc (.cells (tkC kind at_ en sq dk dc dneg A n cp x none 0 0) 29)).heap[w.heap.size]? = some (.cells (tkC kind at_ en sq dk dc dneg A n cp x none 0 0) 29 (0, 0)) from hN w _)
 have HK1 := hid (show K0 w (w.alloc (.cells (tkC kind at_ en sq dk dc dneg A n cp x none 0 0) 29)) from kR.alloc _)
 have l_c0 := bL w _ c0
 have l_c10 := bL w _ c10
 have l_c17 := bL w _ c17
 have H_c0 := hid (fun (W : World) (K : K0 w W) => (K.cell (p := ⟨b, 0, none⟩) l_c0 id).trans c0)
 have H_c10 := hid (fun (W : World) (K : K0 w W) => (K.cell (p := ⟨b, 10, none⟩) l_c10 id).trans c10)
 have H_c17 := hid (fun (W : World) (K : K0 w W) => (K.cell (p := ⟨b, 17, none⟩) l_c17 id).trans c17)
 clear l_c0 l_c10 l_c17 c0 c10 c17
 go_enter Tryz.func100, Tryz.ntmps100
 go_wp2_with fail
 refine (HTOP.out _ HK1.out).mono ?_
 rintro e w2 ⟨rfl, k2⟩
 have HB2 := hid (k2.heap HB.out id)
 have HK2 := hid (HK1.out.trans k2)
 obtain ⟨⟨a0, a1, a2, a3, a4, a5, a6, a7, a8, a9⟩, _⟩ := aa HB2.out
 have c0 := H_c0.out w2 HK2.out
 have c10 := H_c10.out w2 HK2.out
 have c17 := H_c17.out w2 HK2.out
 clear k2
 try dsimp only
 go_wp2_with fail
 go_ret
 exact ⟨rfl, HK2.out⟩
theorem qN (kind at_ en : Int) (sq : Bool) (dk dc : Int) (dneg : Bool) (A : Option Addr) (n cp : Nat) (x : ByteArray) (pb : Nat) (w : World) (HTOP : Hid (∀ W : World, K0 w W -> Calls Tryz.prog 101 #[.pointer (some ⟨pb, 0, none⟩)] W fun e w' => e = .returned (.pointer none) /\ K0 W w')) : Calls Tryz.prog 97 #[.pointer (some ⟨pb, 0, none⟩), ar kind at_ en sq dk dc dneg A n cp x] w (bR at_ 19 w) := by
 have HB := hid (show (w.alloc (.cells (tkC kind at_ en sq dk dc dneg A n cp x none 0 0) 29)).heap[w.heap.size]? = some (.cells (tkC kind at_ en sq dk dc dneg A n cp x none 0 0) 29 (0, 0)) from hN w _)
 have HK1 := hid (show K0 w (w.alloc (.cells (tkC kind at_ en sq dk dc dneg A n cp x none 0 0) 29)) from kR.alloc _)
 go_enter Tryz.func97, Tryz.ntmps97
 go_wp2_with fail
 refine (HTOP.out _ HK1.out).mono ?_
 rintro e w2 ⟨rfl, k2⟩
 have HB2 := hid (k2.heap HB.out id)
 have HK2 := hid (HK1.out.trans k2)
 obtain ⟨⟨a0, a1, a2, a3, a4, a5, a6, a7, a8, a9⟩, _⟩ := aa HB2.out
 clear k2
 try dsimp only
 go_wp2_with fail
 refine (bj _ at_ 19 _).mono ?_
 rintro e w3 ⟨v, rfl, he, k3⟩
 have HE := hid he
 have HK3 := hid (HK2.out.trans k3)
 clear he k3
 try dsimp only
 go_wp2_with fail
 go_ret
 exact ⟨v, rfl, HE.out, HK3.out⟩
theorem pE (kind at_ en : Int) (sq : Bool) (dk dc : Int) (dneg : Bool) (A : Option Addr) (n cp : Nat) (x : ByteArray) (pb b : Nat) (w : World) (HTOP : Hid (∀ W : World, K0 w W -> Calls Tryz.prog 101 #[.pointer (some ⟨pb, 0, none⟩)] W fun e w' => e = .returned (.pointer (some ⟨b, 0, none⟩)) /\ K0 W w')) (af : Int) (c1 : w.cell? ⟨b, 1, none⟩ = some (.int .i64 af)) : Calls Tryz.prog 97 #[.pointer (some ⟨pb, 0, none⟩), ar kind at_ en sq dk dc dneg A n cp x] w (bR af 11 w) := by
 have HB := hid (show (w.alloc (.cells (tkC kind at_ en sq dk dc dneg A n cp x none 0 0) 29)).heap[w.heap.size]? = some (.cells (tkC kind at_ en sq dk dc dneg A n cp x none 0 0) 29 (0, 0)) from hN w _)
 have HK1 := hid (show K0 w (w.alloc (.cells (tkC kind at_ en sq dk dc dneg A n cp x none 0 0) 29)) from kR.alloc _)
 have l_c1 := bL w _ c1
 have H_c1 := hid (fun (W : World) (K : K0 w W) => (K.cell (p := ⟨b, 1, none⟩) l_c1 id).trans c1)
 clear l_c1 c1
 go_enter Tryz.func97, Tryz.ntmps97
 go_wp2_with fail
 refine (HTOP.out _ HK1.out).mono ?_
 rintro e w2 ⟨rfl, k2⟩
 have HB2 := hid (k2.heap HB.out id)
 have HK2 := hid (HK1.out.trans k2)
 obtain ⟨⟨a0, a1, a2, a3, a4, a5, a6, a7, a8, a9⟩, _⟩ := aa HB2.out
 have c1 := H_c1.out w2 HK2.out
 clear k2
 try dsimp only
 go_wp2_with fail
 refine (bj _ af 11 _).mono ?_
 rintro e w3 ⟨v, rfl, he, k3⟩
 have HE := hid he
 have HK3 := hid (HK2.out.trans k3)
 clear he k3
 try dsimp only
 go_wp2_with fail
 go_ret
 exact ⟨v, rfl, HE.out, HK3.out⟩
theorem qQ (kind at_ en : Int) (sq : Bool) (dk dc : Int) (dneg : Bool) (A : Option Addr) (n cp : Nat) (x : ByteArray) (pb : Nat) (w : World) (HTOP : Hid (∀ W : World, K0 w W -> Calls Tryz.prog 101 #[.pointer (some ⟨pb, 0, none⟩)] W fun e w' => e = .returned (.pointer none) /\ K0 W w')) : Calls Tryz.prog 98 #[.pointer (some ⟨pb, 0, none⟩), ar kind at_ en sq dk dc dneg A n cp x] w (bR at_ 9 w) := by
 have HB := hid (show (w.alloc (.cells (tkC kind at_ en sq dk dc dneg A n cp x none 0 0) 29)).heap[w.heap.size]? = some (.cells (tkC kind at_ en sq dk dc dneg A n cp x none 0 0) 29 (0, 0)) from hN w _)
 have HK1 := hid (show K0 w (w.alloc (.cells (tkC kind at_ en sq dk dc dneg A n cp x none 0 0) 29)) from kR.alloc _)
 go_enter Tryz.func98, Tryz.ntmps98
 go_wp2_with fail
 refine (HTOP.out _ HK1.out).mono ?_
 rintro e w2 ⟨rfl, k2⟩
 have HB2 := hid (k2.heap HB.out id)
 have HK2 := hid (HK1.out.trans k2)
 obtain ⟨⟨a0, a1, a2, a3, a4, a5, a6, a7, a8, a9⟩, _⟩ := aa HB2.out
 clear k2
 try dsimp only
 go_wp2_with fail
 refine (bj _ at_ 9 _).mono ?_
 rintro e w3 ⟨v, rfl, he, k3⟩
 have HE := hid he
 have HK3 := hid (HK2.out.trans k3)
 clear he k3
 try dsimp only
 go_wp2_with fail
 go_ret
 exact ⟨v, rfl, HE.out, HK3.out⟩
theorem pH (kind at_ en : Int) (sq : Bool) (dk dc : Int) (dneg : Bool) (A : Option Addr) (n cp : Nat) (x : ByteArray) (pb b : Nat) (w : World) (HTOP : Hid (∀ W : World, K0 w W -> Calls Tryz.prog 101 #[.pointer (some ⟨pb, 0, none⟩)] W fun e w' => e = .returned (.pointer (some ⟨b, 0, none⟩)) /\ K0 W w')) (kf df : Int) (L : Option Addr) (nl lc : Nat) (c0 : w.cell? ⟨b, 0, none⟩ = some (.int .i64 kf)) (c10 : w.cell? ⟨b, 10, none⟩ = some (.int .i64 df)) (c17 : w.cell? ⟨b, 17, none⟩ = some (.slice L nl lc)) (qk : (kf != 1) = true) : Calls Tryz.prog 98 #[.pointer (some ⟨pb, 0, none⟩), ar kind at_ en sq dk dc dneg A n cp x] w (bR at_ 9 w) := by
 have HB := hid (show (w.alloc (.cells (tkC kind at_ en sq dk dc dneg A n cp x none 0 0) 29)).heap[w.heap.size]? = some (.cells (tkC kind at_ en sq dk dc dneg A n cp x none 0 0) 29 (0, 0)) from hN w _)
 have HK1 := hid (show K0 w (w.alloc (.cells (tkC kind at_ en sq dk dc dneg A n cp x none 0 0) 29)) from kR.alloc _)
 have l_c0 := bL w _ c0
 have l_c10 := bL w _ c10
 have l_c17 := bL w _ c17
 have H_c0 := hid (fun (W : World) (K : K0 w W) => (K.cell (p := ⟨b, 0, none⟩) l_c0 id).trans c0)
 have H_c10 := hid (fun (W : World) (K : K0 w W) => (K.cell (p := ⟨b, 10, none⟩) l_c10 id).trans c10)
 have H_c17 := hid (fun (W : World) (K : K0 w W) => (K.cell (p := ⟨b, 17, none⟩) l_c17 id).trans c17)
 clear l_c0 l_c10 l_c17 c0 c10 c17
 go_enter Tryz.func98, Tryz.ntmps98
 go_wp2_with fail
 refine (HTOP.out _ HK1.out).mono ?_
 rintro e w2 ⟨rfl, k2⟩
 have HB2 := hid (k2.heap HB.out id)
 have HK2 := hid (HK1.out.trans k2)
 obtain ⟨⟨a0, a1, a2, a3, a4, a5, a6, a7, a8, a9⟩, _⟩ := aa HB2.out
 have c0 := H_c0.out w2 HK2.out
 have c10 := H_c10.out w2 HK2.out
 have c17 := H_c17.out w2 HK2.out
 clear k2
 try dsimp only
 go_wp2_with fail
 refine (bj _ at_ 9 _).mono ?_
 rintro e w3 ⟨v, rfl, he, k3⟩
 have HE := hid he
 have HK3 := hid (HK2.out.trans k3)
 clear he k3
 try dsimp only
 go_wp2_with fail
 go_ret
 exact ⟨v, rfl, HE.out, HK3.out⟩
theorem pG (kind at_ en : Int) (sq : Bool) (dk dc : Int) (dneg : Bool) (A : Option Addr) (n cp : Nat) (x : ByteArray) (pb b : Nat) (w : World) (HTOP : Hid (∀ W : World, K0 w W -> Calls Tryz.prog 101 #[.pointer (some ⟨pb, 0, none⟩)] W fun e w' => e = .returned (.pointer (some ⟨b, 0, none⟩)) /\ K0 W w')) (kf df : Int) (L : Option Addr) (nl lc : Nat) (c0 : w.cell? ⟨b, 0, none⟩ = some (.int .i64 kf)) (c10 : w.cell? ⟨b, 10, none⟩ = some (.int .i64 df)) (c17 : w.cell? ⟨b, 17, none⟩ = some (.slice L nl lc)) (qk : (kf != 1) = false) (ql : ((nl : Int) == 0) = true) : Calls Tryz.prog 98 #[.pointer (some ⟨pb, 0, none⟩), ar kind at_ en sq dk dc dneg A n cp x] w (bR at_ 9 w) := by
 have HB := hid (show (w.alloc (.cells (tkC kind at_ en sq dk dc dneg A n cp x none 0 0) 29)).heap[w.heap.size]? = some (.cells (tkC kind at_ en sq dk dc dneg A n cp x none 0 0) 29 (0, 0)) from hN w _)
 have HK1 := hid (show K0 w (w.alloc (.cells (tkC kind at_ en sq dk dc dneg A n cp x none 0 0) 29)) from kR.alloc _)
 have l_c0 := bL w _ c0
 have l_c10 := bL w _ c10
 have l_c17 := bL w _ c17
 have H_c0 := hid (fun (W : World) (K : K0 w W) => (K.cell (p := ⟨b, 0, none⟩) l_c0 id).trans c0)
 have H_c10 := hid (fun (W : World) (K : K0 w W) => (K.cell (p := ⟨b, 10, none⟩) l_c10 id).trans c10)
 have H_c17 := hid (fun (W : World) (K : K0 w W) => (K.cell (p := ⟨b, 17, none⟩) l_c17 id).trans c17)
 clear l_c0 l_c10 l_c17 c0 c10 c17
 go_enter Tryz.func98, Tryz.ntmps98
 go_wp2_with fail
 refine (HTOP.out _ HK1.out).mono ?_
 rintro e w2 ⟨rfl, k2⟩
 have HB2 := hid (k2.heap HB.out id)
 have HK2 := hid (HK1.out.trans k2)
 obtain ⟨⟨a0, a1, a2, a3, a4, a5, a6, a7, a8, a9⟩, _⟩ := aa HB2.out
 have c0 := H_c0.out w2 HK2.out
 have c10 := H_c10.out w2 HK2.out
 have c17 := H_c17.out w2 HK2.out
 clear k2
 try dsimp only
 go_wp2_with fail
 refine (bj _ at_ 9 _).mono ?_
 rintro e w3 ⟨v, rfl, he, k3⟩
 have HE := hid he
 have HK3 := hid (HK2.out.trans k3)
 clear he k3
 try dsimp only
 go_wp2_with fail
 go_ret
 exact ⟨v, rfl, HE.out, HK3.out⟩
theorem pF (kind at_ en : Int) (sq : Bool) (dk dc : Int) (dneg : Bool) (A : Option Addr) (n cp : Nat) (x : ByteArray) (pb b : Nat) (w : World) (HTOP : Hid (∀ W : World, K0 w W -> Calls Tryz.prog 101 #[.pointer (some ⟨pb, 0, none⟩)] W fun e w' => e = .returned (.pointer (some ⟨b, 0, none⟩)) /\ K0 W w')) (kf df : Int) (L : Option Addr) (nl lc : Nat) (c0 : w.cell? ⟨b, 0, none⟩ = some (.int .i64 kf)) (c10 : w.cell? ⟨b, 10, none⟩ = some (.int .i64 df)) (c17 : w.cell? ⟨b, 17, none⟩ = some (.slice L nl lc)) (qk : (kf != 1) = false) (ql : ((nl : Int) == 0) = false) (qd : (df != 0) = true) : Calls Tryz.prog 98 #[.pointer (some ⟨pb, 0, none⟩), ar kind at_ en sq dk dc dneg A n cp x] w (bR at_ 9 w) := by
 have HB := hid (show (w.alloc (.cells (tkC kind at_ en sq dk dc dneg A n cp x none 0 0) 29)).heap[w.heap.size]? = some (.cells (tkC kind at_ en sq dk dc dneg A n cp x none 0 0) 29 (0, 0)) from hN w _)
 have HK1 := hid (show K0 w (w.alloc (.cells (tkC kind at_ en sq dk dc dneg A n cp x none 0 0) 29)) from kR.alloc _)
 have l_c0 := bL w _ c0
 have l_c10 := bL w _ c10
 have l_c17 := bL w _ c17
 have H_c0 := hid (fun (W : World) (K : K0 w W) => (K.cell (p := ⟨b, 0, none⟩) l_c0 id).trans c0)
 have H_c10 := hid (fun (W : World) (K : K0 w W) => (K.cell (p := ⟨b, 10, none⟩) l_c10 id).trans c10)
 have H_c17 := hid (fun (W : World) (K : K0 w W) => (K.cell (p := ⟨b, 17, none⟩) l_c17 id).trans c17)
 clear l_c0 l_c10 l_c17 c0 c10 c17
 go_enter Tryz.func98, Tryz.ntmps98
 go_wp2_with fail
 refine (HTOP.out _ HK1.out).mono ?_
 rintro e w2 ⟨rfl, k2⟩
 have HB2 := hid (k2.heap HB.out id)
 have HK2 := hid (HK1.out.trans k2)
 obtain ⟨⟨a0, a1, a2, a3, a4, a5, a6, a7, a8, a9⟩, _⟩ := aa HB2.out
 have c0 := H_c0.out w2 HK2.out
 have c10 := H_c10.out w2 HK2.out
 have c17 := H_c17.out w2 HK2.out
 clear k2
 try dsimp only
 go_wp2_with fail
 refine (bj _ at_ 9 _).mono ?_
 rintro e w3 ⟨v, rfl, he, k3⟩
 have HE := hid he
 have HK3 := hid (HK2.out.trans k3)
 clear he k3
 try dsimp only
 go_wp2_with fail
 go_ret
 exact ⟨v, rfl, HE.out, HK3.out⟩
theorem r8 (kind at_ en : Int) (sq : Bool) (dk dc : Int) (dneg : Bool) (A : Option Addr) (n cp : Nat) (x : ByteArray) (pb b : Nat) (w : World) (HTOP : Hid (∀ W : World, K0 w W -> Calls Tryz.prog 101 #[.pointer (some ⟨pb, 0, none⟩)] W fun e w' => e = .returned (.pointer (some ⟨b, 0, none⟩)) /\ K0 W w')) (kf df : Int) (L : Option Addr) (nl lc : Nat) (c0 : w.cell? ⟨b, 0, none⟩ = some (.int .i64 kf)) (c10 : w.cell? ⟨b, 10, none⟩ = some (.int .i64 df)) (c17 : w.cell? ⟨b, 17, none⟩ = some (.slice L nl lc)) (f10 : w.frozen? ⟨b, 10, none⟩ = false) (qk : (kf != 1) = false) (ql : ((nl : Int) == 0) = false) (qd : (df != 0) = false) : Calls Tryz.prog 98 #[.pointer (some ⟨pb, 0, none⟩), ar kind at_ en sq dk dc dneg A n cp x] w (fun e w' => e = .returned .nilIface /\ ∃ w2, K0 w w2 /\ w' = w2.setCell ⟨b, 10, none⟩ (.int .i64 1)) := by
 have H_f10 := hid (fun (W : World) (K : K0 w W) => (K.frozen (p := ⟨b, 10, none⟩) (bL w _ c10) id).trans f10)
 clear f10
 have HB := hid (show (w.alloc (.cells (tkC kind at_ en sq dk dc dneg A n cp x none 0 0) 29)).heap[w.heap.size]? = some (.cells (tkC kind at_ en sq dk dc dneg A n cp x none 0 0) 29 (0, 0)) from hN w _)
 have HK1 := hid (show K0 w (w.alloc (.cells (tkC kind at_ en sq dk dc dneg A n cp x none 0 0) 29)) from kR.alloc _)
 have l_c0 := bL w _ c0
 have l_c10 := bL w _ c10
 have l_c17 := bL w _ c17
 have H_c0 := hid (fun (W : World) (K : K0 w W) => (K.cell (p := ⟨b, 0, none⟩) l_c0 id).trans c0)
 have H_c10 := hid (fun (W : World) (K : K0 w W) => (K.cell (p := ⟨b, 10, none⟩) l_c10 id).trans c10)
 have H_c17 := hid (fun (W : World) (K : K0 w W) => (K.cell (p := ⟨b, 17, none⟩) l_c17 id).trans c17)
 clear l_c0 l_c10 l_c17 c0 c10 c17
 go_enter Tryz.func98, Tryz.ntmps98
 go_wp2_with fail
 refine (HTOP.out _ HK1.out).mono ?_
 rintro e w2 ⟨rfl, k2⟩
 have HB2 := hid (k2.heap HB.out id)
 have HK2 := hid (HK1.out.trans k2)
 obtain ⟨⟨a0, a1, a2, a3, a4, a5, a6, a7, a8, a9⟩, _⟩ := aa HB2.out
 have c0 := H_c0.out w2 HK2.out
 have c10 := H_c10.out w2 HK2.out
 have c17 := H_c17.out w2 HK2.out
 have f10 := H_f10.out w2 HK2.out
 clear k2
 try dsimp only
 go_wp2_with fail
 go_ret
 exact ⟨rfl, _, HK2.out, rfl⟩
end Go.Proofs.YtonnikipeokkaaaGreatDoor
