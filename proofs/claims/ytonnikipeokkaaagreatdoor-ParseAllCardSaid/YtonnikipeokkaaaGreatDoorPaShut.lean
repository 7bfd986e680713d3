import Derived.Test.YtonnikipeokkaaaGreatDoorPrpC
import Derived.Test.YtonnikipeokkaaaGreatDoorPaBack
import Derived.Deep.RegionLaw
namespace Go.Proofs.YtonnikipeokkaaaGreatDoor
open Go.Lib (hid)
open Go.RowKit Go.Lib
section
variable {w : World} {b : Nat} {kind at_ en : Int} {sq : Bool} {t4 t5 t6 t7 t8 t9 : Value} {dot : Int} {d : Raw} {p : PV} {R : Option Addr} {n rc : Nat}
theorem eh (h : w.heap[b]? = some (.cells (opC kind at_ en sq t4 t5 t6 t7 t8 t9 dot d p R n rc) 173 (0, 0))) :
 w.cell? ⟨b, 0, none⟩ = some (.int .i64 kind) /\ w.cell? ⟨b, 1, none⟩ = some (.int .i64 at_) /\ w.cell? ⟨b, 3, none⟩ = some (.bool sq) /\ w.cell? ⟨b, 10, none⟩ = some (.int .i64 dot) /\
 (w.cell? ⟨b, 11, none⟩ = some (.int .i64 d.k) /\ w.cell? ⟨b, 12, none⟩ = some (.int .i32 d.c) /\ w.cell? ⟨b, 13, none⟩ = some (.bool d.neg) /\ w.cell? ⟨b, 14, none⟩ = some (.slice p.A p.n p.cp) /\ w.cell? ⟨b, 15, none⟩ = some (.string d.t) /\ w.cell? ⟨b, 16, none⟩ = some (.slice p.B p.m p.cap)) /\
 w.cell? ⟨b, 17, none⟩ = some (.slice R n rc) := by
 refine ⟨?_, ?_, ?_, ?_, ⟨?_, ?_, ?_, ?_, ?_, ?_⟩, ?_⟩ <;> (rw [cell_of_row w _ _ _ _ _ h]; rfl)
theorem cI (h : w.heap[b]? = some (.cells (opC kind at_ en sq t4 t5 t6 t7 t8 t9 dot d p R n rc) 173 (0, 0))) (i : Nat) : w.frozen? ⟨b, i, none⟩ = false := by simp [World.frozen?, h]
end
theorem dm {a b : Nat} (h : a = b) : (((a : Nat) : Int) == (b : Int)) = true := by simp; omega
theorem cy {a b : Nat} (h : a ≠ b) : (((a : Nat) : Int) == (b : Int)) = false := by simp; omega
theorem er {a b : Nat} (h : a ≠ b) : (((a : Nat) : Int) != (b : Int)) = true := by simp; omega
theorem ep {a b : Nat} (h : a = b) : (((a : Nat) : Int) != (b : Int)) = false := by simp; omega
section
variable {X : Nat -> Prop} {base pb rc : Nat} {f : FB} {fs : List FB} {R : Option Addr} {w : World}
theorem nh (h : PS X base pb [] R rc w) : Hid (∀ W : World, K0 w W -> Calls Tryz.prog 101 #[.pointer (some ⟨pb, 0, none⟩)] W fun e w' => e = .returned (.pointer none) /\ K0 W w') :=
 hid (fun _ K => (qg (h.keep0 K)).mono (by rintro e w' ⟨rfl, rfl⟩; exact ⟨rfl, kR⟩))
theorem ff (h : PS X base pb (f :: fs) R rc w) (hl : fs.length <= 64) : Hid (∀ W : World, K0 w W -> Calls Tryz.prog 101 #[.pointer (some ⟨pb, 0, none⟩)] W fun e w' => e = .returned (.pointer (some ⟨f.b, 0, none⟩)) /\ K0 W w') :=
 hid (fun _ K => ow (h.keep0 K) hl)
theorem PS.pcell (h : PS X base pb fs R rc w) : w.cell? ⟨pb, 0, none⟩ = some (.slice R fs.length rc) := by rw [cell_of_row w _ _ _ _ _ h.hp]; rfl
def dA (c : Nat) (at_ : Int) (w : World) (e : Ending) (w' : World) : Prop := if c = 0 then e = .returned .nilIface /\ K0 w w' else bR at_ c w e w'
theorem fc {c : Nat} (h : c = 0) {at_ : Int} {e : Ending} {w' : World} (hp : e = .returned .nilIface /\ K0 w w') : dA c at_ w e w' := by unfold dA; rw [if_pos h]; exact hp
theorem iz {c d : Nat} (h : c = d) (h0 : d ≠ 0) {at_ : Int} {e : Ending} {w' : World} (hp : bR at_ d w e w') : dA c at_ w e w' := by unfold dA; rw [if_neg (by omega), h]; exact hp
theorem gA (h : PS X base pb fs R rc w) (hl : fs.length <= 64) (t : Tk) (at_ en : Int) (sq : Bool) (dk dc : Int) (dneg : Bool) (A : Option Addr) (n cp : Nat) (x : ByteArray) :
 Calls Tryz.prog 100 #[.pointer (some ⟨pb, 0, none⟩), ar (t.kind : Int) at_ en sq dk dc dneg A n cp x] w (dA (eu (fs.map FB.fr) t) at_ w) := by
 cases fs with
 | nil =>
  by_cases h9 : t.kind = 9
  · exact (pV _ _ _ _ _ _ _ _ _ _ _ pb w (nh h) (ep (b := 9) h9)).mono (fun e w' hp => fc rfl hp)
  · exact (ra _ _ _ _ _ _ _ _ _ _ _ pb w (nh h) R 0 rc h.pcell (er (b := 9) h9) (by decide)).mono (fun e w' hp => fc rfl hp)
 | cons f fs =>
  have hl1 : fs.length <= 64 := by simp at hl; omega
  obtain ⟨c0, c1, c3, c10, _, c17⟩ := eh (h.all f List.mem_cons_self).blk
  have hb : eu ((f :: fs).map FB.fr) t = if f.fr.dot = 2 then 9 else if f.fr.kind = 3 /\ f.fr.items.length = 62 then 6 else if t.kind ≠ 9 /\ (f :: fs).length = 64 then 10 else 0 := by
   rw [List.map_cons]; unfold eu; simp only [List.length_cons, List.length_map]
  by_cases hd : f.fr.dot = 2
  · exact (pW _ _ _ _ _ _ _ _ _ _ _ pb f.b w (ff h hl1) _ _ _ _ _ c0 c10 c17 (dm (b := 2) hd)).mono (fun e w' hp => iz (by rw [hb, if_pos hd]) (by decide) hp)
  have qd := cy (b := 2) hd
  rw [if_neg hd] at hb
  by_cases hk : f.fr.kind = 3
  · have qk := dm (b := 3) hk
    by_cases hn : f.fr.items.length = 62
    · exact (rb _ _ _ _ _ _ _ _ _ _ _ pb f.b w (ff h hl1) _ _ _ _ _ c0 c10 c17 qd qk (dm (b := 62) hn)).mono (fun e w' hp => iz (by rw [hb, if_pos ⟨hk, hn⟩]) (by decide) hp)
    have qn := cy (b := 62) hn
    rw [if_neg (fun e => hn e.2)] at hb
    by_cases h9 : t.kind = 9
    · exact (qY _ _ _ _ _ _ _ _ _ _ _ pb f.b w (ff h hl1) _ _ _ _ _ c0 c10 c17 qd qk qn (ep (b := 9) h9)).mono (fun e w' hp => fc (by rw [hb, if_neg (fun e => e.1 h9)]) hp)
    by_cases hm : (f :: fs).length = 64
    · exact (od _ _ _ _ _ _ _ _ _ _ _ pb f.b w (ff h hl1) R _ rc h.pcell _ _ _ _ _ c0 c10 c17 qd qk qn (er (b := 9) h9) (dm (b := 64) hm)).mono (fun e w' hp => iz (by rw [hb, if_pos ⟨h9, hm⟩]) (by decide) hp)
    · exact (ob _ _ _ _ _ _ _ _ _ _ _ pb f.b w (ff h hl1) R _ rc h.pcell _ _ _ _ _ c0 c10 c17 qd qk qn (er (b := 9) h9) (cy (b := 64) hm)).mono (fun e w' hp => fc (by rw [hb, if_neg (fun e => hm e.2)]) hp)
  · have qk := cy (b := 3) hk
    rw [if_neg (fun e => hk e.1)] at hb
    by_cases h9 : t.kind = 9
    · exact (qZ _ _ _ _ _ _ _ _ _ _ _ pb f.b w (ff h hl1) _ _ _ _ _ c0 c10 c17 qd qk (ep (b := 9) h9)).mono (fun e w' hp => fc (by rw [hb, if_neg (fun e => e.1 h9)]) hp)
    by_cases hm : (f :: fs).length = 64
    · exact (oe _ _ _ _ _ _ _ _ _ _ _ pb f.b w (ff h hl1) R _ rc h.pcell _ _ _ _ _ c0 c10 c17 qd qk (er (b := 9) h9) (dm (b := 64) hm)).mono (fun e w' hp => iz (by rw [hb, if_pos ⟨h9, hm⟩]) (by decide) hp)
    · exact (oc _ _ _ _ _ _ _ _ _ _ _ pb f.b w (ff h hl1) R _ rc h.pcell _ _ _ _ _ c0 c10 c17 qd qk (er (b := 9) h9) (cy (b := 64) hm)).mono (fun e w' hp => fc (by rw [hb, if_neg (fun e => hm e.2)]) hp)
theorem qO (h : PS X base pb fs R rc w) (hl : fs.length <= 64) (kind : Int) (j : Nat) (en : Int) (sq : Bool) (dk dc : Int) (dneg : Bool) (A : Option Addr) (n cp : Nat) (x : ByteArray) :
 Calls Tryz.prog 97 #[.pointer (some ⟨pb, 0, none⟩), ar kind (j : Int) en sq dk dc dneg A n cp x] w (bR ((lo (fs.map FB.fr) j).1 : Nat) ((lo (fs.map FB.fr) j).2 : Nat) w) := by
 cases fs with
 | nil => exact qN _ _ _ _ _ _ _ _ _ _ _ pb w (nh h)
 | cons f fs =>
  obtain ⟨c0, c1, c3, c10, _, c17⟩ := eh (h.all f List.mem_cons_self).blk
  exact pE _ _ _ _ _ _ _ _ _ _ _ pb f.b w (ff h (by simp at hl; omega)) _ c1
def kq (X : Nat -> Prop) (base pb : Nat) (R : Option Addr) (rc : Nat) (fs : List FB) (r : lE) (w : World) (e : Ending) (w' : World) : Prop :=
 match r with
 | .err p c => bR p c w e w'
 | .cont S => e = .returned .nilIface /\ ∃ fs' : List FB, fs'.map FB.fr = S /\ PS X base pb fs' R rc w' /\ ah (fun b => ∃ f ∈ fs, f.blks b) w w'
 | .ended _ _ => False
theorem mV (h : PS X base pb fs R rc w) (hl : fs.length <= 64) (kind : Int) (j : Nat) (en : Int) (sq : Bool) (dk dc : Int) (dneg : Bool) (A : Option Addr) (n cp : Nat) (x : ByteArray) :
 Calls Tryz.prog 98 #[.pointer (some ⟨pb, 0, none⟩), ar kind (j : Int) en sq dk dc dneg A n cp x] w (kq X base pb R rc fs (jl (fs.map FB.fr) j) w) := by
 cases fs with
 | nil => exact qQ _ _ _ _ _ _ _ _ _ _ _ pb w (nh h)
 | cons f fs =>
  have hf := h.all f List.mem_cons_self
  obtain ⟨c0, c1, c3, c10, _, c17⟩ := eh hf.blk
  have hl1 : fs.length <= 64 := by simp at hl; omega
  have hb : jl ((f :: fs).map FB.fr) j = if f.fr.kind ≠ 1 \/ f.fr.items = [] \/ f.fr.dot ≠ 0 then .err j 9 else .cont (⟨f.fr.kind, f.fr.at_, f.fr.sq, 1, f.fr.tail, f.fr.items⟩ :: fs.map FB.fr) := rfl
  by_cases hk : f.fr.kind = 1
  · by_cases hi : f.fr.items = []
    · rw [hb, if_pos (.inr (.inl hi))]
      exact pG _ _ _ _ _ _ _ _ _ _ _ pb f.b w (ff h hl1) _ _ _ _ _ c0 c10 c17 (ep (b := 1) hk) (by rw [hi]; rfl)
    · have hi2 : f.fr.items.length ≠ 0 := fun e => hi (List.eq_nil_of_length_eq_zero e)
      by_cases hd : f.fr.dot = 0
      · rw [hb, if_neg (by rintro (e | e | e); exact e hk; exact hi e; exact e hd)]
        refine (r8 _ _ _ _ _ _ _ _ _ _ _ pb f.b w (ff h hl1) _ _ _ _ _ c0 c10 c17 (cI hf.blk 10) (ep (b := 1) hk) (cy (b := 0) hi2) (ep (b := 0) hd)).mono ?_
        rintro e w' ⟨rfl, w2, K, rfl⟩
        have h2 := h.keep0 K
        have hf2 := h2.all f List.mem_cons_self
        have K2 : ah (fun b => f.blks b) w2 (w2.setCell ⟨f.b, 10, none⟩ (.int .i64 1)) := ah.setCell (S := fun b => f.blks b) (p := ⟨f.b, 10, none⟩) kR (.inl (.inl rfl)) _
        refine ⟨rfl, { f with fr := ⟨f.fr.kind, f.fr.at_, f.fr.sq, 1, f.fr.tail, f.fr.items⟩ } :: fs, rfl, ?_, ((K.mono (fun _ _ e => e.elim)).trans (K2.mono (fun b _ hb => ⟨f, List.mem_cons_self, hb⟩)))⟩
        refine h2.upd K2 _ rfl (fun b hb => .inl hb) ?_ ?_ hf2.cnt (fun y hy => .inl hy) (.inl ⟨rfl, rfl⟩)
        · simp [World.setCell, Array.getElem?_modify, hf2.blk]
        · refine fA hf2.own (ah.setCell (S := fun b => b = f.b) (p := ⟨f.b, 10, none⟩) kR (.inl rfl) _) (fun b hb e => ?_)
          subst e
          obtain ⟨_, Y, hY⟩ := bC hf2.own _ hb
          exact absurd (cQ hY hf2.blk) (by decide)
      · rw [hb, if_pos (.inr (.inr hd))]
        exact pF _ _ _ _ _ _ _ _ _ _ _ pb f.b w (ff h hl1) _ _ _ _ _ c0 c10 c17 (ep (b := 1) hk) (cy (b := 0) hi2) (er (b := 0) hd)
  · rw [hb, if_pos (.inl hk)]
    exact pH _ _ _ _ _ _ _ _ _ _ _ pb f.b w (ff h hl1) _ _ _ _ _ c0 c10 c17 (er (b := 1) hk)
end
def gZ (X : Nat -> Prop) (base pb : Nat) (R : Option Addr) (rc : Nat) (r : lE) (w : World) (e : Ending) (w' : World) : Prop :=
 match r with
 | .err p c => c = 9 /\ fH p w e w'
 | .ended S d => ∃ (fs' : List FB) (pd : PV), fs'.map FB.fr = S /\ e = .returned (.tuple #[bT d pd, .nilIface]) /\ PS X base pb fs' R rc w' /\ cn (dj pb (.slice R fs'.length rc) fs' X) base w' d pd /\ ah (fun b => b = pb) w w'
 | .cont _ => False
theorem mQ {k : Nat} (h : 4 <= k /\ k <= 7) : (⟨(ca k).toArray⟩ : ByteArray).toList.isEmpty = false := by
 obtain ⟨a, b⟩ := h
 match k, a, b with
 | 4, _, _ => rw [ByteArray.toList_eq]; rfl
 | 5, _, _ => rw [ByteArray.toList_eq]; rfl
 | 6, _, _ => rw [ByteArray.toList_eq]; rfl
 | 7, _, _ => rw [ByteArray.toList_eq]; rfl
theorem j6 {k : Nat} (h : ¬ (4 <= k /\ k <= 7)) : ca k = [] := by
 unfold ca
 split <;> first | omega | rfl
theorem oZ (k : Nat) : Hid (∀ W : World, Calls Tryz.prog 102 #[.int .i64 (k : Int)] W fun e w' => e = .returned (.string ⟨(ca k).toArray⟩) /\ w' = W) :=
 hid (fun W => (ed k W).mono (by rintro e w' ⟨rfl, rfl⟩; exact ⟨rfl, rfl⟩))
theorem gI {k : Nat} (h : ¬ (4 <= k /\ k <= 7)) : Hid (∀ W : World, Calls Tryz.prog 102 #[.int .i64 (k : Int)] W fun e w' => e = .returned (.string ⟨#[]⟩) /\ w' = W) :=
 hid (fun W => (ed k W).mono (by rintro e w' ⟨rfl, rfl⟩; rw [j6 h]; exact ⟨rfl, rfl⟩))
section
variable {X : Nat -> Prop} {base pb rc : Nat} {f : FB} {fs : List FB} {R : Option Addr} {w : World}
theorem lG.row_items {A : Nat -> Prop} (h : lG A base w f) : f.fr.items.length = f.fr.items.length /\ (0 < f.fr.items.length -> ∃ gl, f.R = some ⟨gl, 0, none⟩ /\ f.blks gl /\ ∀ i (hi : i < f.fr.items.length), dL w gl 0 i f.fr.items[i] (f.xs.getD i (.nil, PV.none)).2) := by
 refine ⟨rfl, fun hm => ?_⟩
 have hx : f.xs.length = f.fr.items.length := by rw [<- h.cnt, List.length_map]
 obtain ⟨g, hR, hg⟩ := d6 h.own hm
 refine ⟨g, hR, .inr (by unfold FB.row; rw [hR]; rfl), fun i hi => ?_⟩
 have hi2 : i < f.xs.length := by omega
 have hown := h.own
 unfold FB.row at hown
 rw [hR] at hown
 have h1 := eX hown hi2
 have e1 : f.fr.items[i] = (f.xs[i]'hi2).1 := by simp only [<- h.cnt, List.getElem_map]
 rw [e1, gD, gE hi2]
 exact h1
theorem lG.item {A : Nat -> Prop} (h : lG A base w f) (i : Nat) (hi : i < f.fr.items.length) : cn A base w f.fr.items[i] (f.xs.getD i (.nil, PV.none)).2 := by
 have hx : f.xs.length = f.fr.items.length := by rw [<- h.cnt, List.length_map]
 have hi2 : i < f.xs.length := by omega
 have e1 : f.fr.items[i] = (f.xs[i]'hi2).1 := by simp only [<- h.cnt, List.getElem_map]
 rw [e1, gD, gE hi2]
 exact h.items _ (List.getElem_mem hi2)
theorem mR (h : PS X base pb fs R rc w) {b : Nat} (e : dj pb (.slice R fs.length rc) fs X b) : b < w.heap.size := by
 rcases e with e | e | ⟨f, hf, e⟩ | e
 · rw [e]; exact h.lt.2
 · obtain ⟨_, Y, hY⟩ := bC h.row _ e
   exact ao hY
 · exact h.blt hf b e
 · exact h.xlt b e
theorem jJ (h : PS X base pb fs R rc w) (hl : fs.length <= 64) {a : Int} (hok : okF (fs.map FB.fr) a) (ha : a <= 100000) (kind : Int) (j : Nat) (en : Int) (sq : Bool) (dk dc : Int) (dneg : Bool) (A : Option Addr) (n cp : Nat) (x : ByteArray) :
 Calls Tryz.prog 99 #[.pointer (some ⟨pb, 0, none⟩), ar kind (j : Int) en sq dk dc dneg A n cp x] w (gZ X base pb R rc (eN (fs.map FB.fr) j sq) w) := by
 cases fs with
 | nil => exact (nY _ _ _ _ _ _ _ _ _ _ _ pb w (nh h)).mono (fun e w' hp => ⟨rfl, hp⟩)
 | cons f fs =>
  have hmem := List.mem_cons_self (a := f) (l := fs)
  have hf := h.all f hmem
  obtain ⟨c0, c1, c3, c10, ⟨c11, c12, c13, c14, c15, c16⟩, c17⟩ := eh hf.blk
  have hl1 : fs.length <= 64 := by simp at hl; omega
  have hfo := hok.2 f.fr (by simp)
  have hb : eN ((f :: fs).map FB.fr) j sq = if f.fr.mark \/ f.fr.sq ≠ sq \/ f.fr.dot = 1 then .err j 9 else .ended (fs.map FB.fr) f.fr.shut := rfl
  by_cases hm : f.fr.mark
  · rw [hb, if_pos (.inl hm)]
    exact (mt _ _ _ _ _ _ _ _ _ _ _ pb f.b w (ff h hl1) _ _ _ c0 c3 c10 _ (oZ f.fr.kind) (mQ hm)).mono (fun e w' hp => ⟨rfl, hp⟩)
  by_cases hs : f.fr.sq = sq
  · by_cases hd : f.fr.dot = 1
    · rw [hb, if_pos (.inr (.inr hd))]
      exact (nZ _ _ _ _ _ _ _ _ _ _ _ pb f.b w (ff h hl1) _ _ _ c0 c3 c10 (gI hm) (by simp [hs]) (dm (b := 1) hd)).mono (fun e w' hp => ⟨rfl, hp⟩)
    · rw [hb, if_neg (by rintro (e | e | e); exact hm e; exact e hs; exact hd e)]
      obtain ⟨g, rfl, _, hrc⟩ := h.prow
      have hnl : f.fr.items.length <= 100000 := by
       by_cases e : f.fr.items = []
       · rw [e]; simp
       · have := hfo.cnt e; omega
      have hbp : ¬ f.b = pb := (h.typ hmem f.b (.inl rfl)).2.1
      have fin : ∀ w', w'.heap[pb]? = some (.cells #[.slice (some ⟨g, 0, none⟩) fs.length rc] 120 (0, 0)) -> ah (fun x => x = pb) w w' -> PS X base pb fs (some ⟨g, 0, none⟩) rc w' := fun w' hp K => h.pop K hp
      by_cases hk : f.fr.kind = 3
      · refine (nX _ _ _ _ _ _ _ _ _ _ _ pb f.b w (ff h hl1) _ _ _ _ _ _ c0 c3 c10 c17 (gI hm) (by simp [hs]) (cy (b := 1) hd) (dm (b := 3) hk) g fs.length _ rc h.hp (by simp) (by simpa using hrc) hl1 hbp).mono ?_
        rintro e w' ⟨rfl, hp, K⟩
        have hsh : f.fr.shut = ne f.fr.items := by unfold Fr.shut; rw [if_pos hk]
        rw [hsh]
        refine ⟨fs, ⟨none, 0, 0, f.R, f.fr.items.length, f.rc⟩, rfl, rfl, fin w' hp K, ?_, K⟩
        have hcap : f.fr.items.length <= f.rc := cT hf.own
        have hnotb : ∀ b, f.blks b -> base <= b /\ ¬ dj pb (.slice (some ⟨g, 0, none⟩) fs.length rc) fs X b := fun b hb => by
         obtain ⟨t1, t2, t3, _⟩ := h.typ hmem b hb
         refine ⟨t1, ?_⟩
         rintro (e | e | ⟨f', hf', e⟩ | e)
         · exact t2 e
         · exact t3 e
         · exact h.off hf' b hb e
         · exact (h.sep b e).2.2 f hmem hb
        refine .mk (ei w') (fun h => absurd h (Nat.lt_irrefl _)) rfl hcap (by show f.fr.items.length * 88 <= _; omega) (fun i => (f.xs.getD i (.nil, PV.none)).2) (fun hm => ?_) (fun i hi => ?_)
        · obtain ⟨gl, hR, hgl, hit⟩ := hf.row_items.2 hm
          exact ⟨gl, 0, hR, hnotb gl hgl, fun i hi => (hit i hi).keep K (h.typ hmem gl hgl).2.1⟩
        · exact h.pop_off K (hf.item i hi)
      · refine (mu _ _ _ _ _ _ _ _ _ _ _ pb f.b w (ff h hl1) _ _ _ f.fr.tail f.pt _ _ _ c0 c3 c10 c11 c12 c13 c14 c15 c16 c17 (gI hm) (by simp [hs]) (cy (b := 1) hd) (cy (b := 3) hk) g fs.length _ rc h.hp (by simp) (by simpa using hrc) hl1 hbp f.fr.items (fun i => (f.xs.getD i (.nil, PV.none)).2) (fun b => b < w.heap.size /\ base <= b /\ ¬ dj pb (.slice (some ⟨g, 0, none⟩) (f :: fs).length rc) (f :: fs) X b)
         (hid ⟨rfl, fun hm => by obtain ⟨gl, hR, hgl, hit⟩ := hf.row_items.2 hm; exact ⟨gl, hR, (h.typ hmem gl hgl).2.1, hit⟩⟩) (hid (fun b hb => ⟨hb.1, fun e => hb.2.2 (.inl e)⟩)) (hid (fun i hi => (hf.item i hi).mono (fun b lt hb => ⟨lt, hb.1, hb.2⟩))) (hid (hf.tail.mono (fun b lt hb => ⟨lt, hb.1, hb.2⟩))) hnl).mono ?_
        rintro e w' ⟨pd, rfl, hd', hp, K⟩
        have hsh : f.fr.shut = cC f.fr.items f.fr.tail := by unfold Fr.shut; rw [if_neg hk]
        rw [hsh]
        have hps := fin w' hp K
        refine ⟨fs, pd, rfl, rfl, hps, hd'.mono (fun b lt hb => ?_), K⟩
        rcases hb with ⟨_, h1, h2⟩ | hb
        · exact ⟨h1, fun e => h2 (PS.pop_act e)⟩
        · refine ⟨by have := h.lt; omega, fun e => ?_⟩
          have h3 := mR h (PS.pop_act (f := f) e)
          omega
  · rw [hb, if_pos (.inr (.inl hs))]
    exact (pJ _ _ _ _ _ _ _ _ _ _ _ pb f.b w (ff h hl1) _ _ _ c0 c3 c10 (gI hm) (by simp [hs])).mono (fun e w' hp => ⟨rfl, hp⟩)
end
theorem d9 {P : Program} {ops : Array Oper} {o : Oper} {a : Act} {w : World} {K : Act -> World -> Prop} {Q : Exit -> Act -> World -> Prop} {E : Prop}
 (hg : o.guard = none) (s x : Operand) (t : TypeId) (hop : o.op = Op.call { callee := Callee.builtin Builtin.append, args := #[s, x], argTypes := #[t, t] })
 (base : Nat) (e : TypeId) (i : TypeInfo) (z : Value) (size bytes : Nat) (h1 : P.underlying t = some (.slice e)) (h2 : P.info? e = some i) (h3 : i.zero = some z) (h4 : i.size = size) (h5 : i.bytes = bytes) (h6 : z.cells.size = size) (h7 : 0 < size)
 (v : Value) (n : Nat) (xs : List Value) (hs : a.eval s = v) (hown : w.ownsRow base e size v n xs)
 (ad : Addr) (m c : Nat) (news : List Value) (hx : a.eval x = .slice (some ad) m c) (hn : news.length = m * size) (hc : ∀ j u, news[j]? = some u -> w.cell? (ad.add j) = some u) (h1c : ∀ u ∈ news, u.oneCell' = true)
 (b1 : n + m <= maxLen) (b2 : (n + m) * bytes <= 140737488355328) (hb : base <= w.heap.size)
 (hK : ∀ v' w', w'.ownsRow base e size v' (n + m) (xs ++ news) -> w.grownBy w' v.ownBlock -> (v'.ownBlock = v.ownBlock \/ v'.ownBlock = some w.heap.size) -> K (a.put o.dst v') w') :
 if Region.wanted o (yielded ops a.tmps) = true then Oper.wp P o a w K Q else E := by
 have hw : Region.wanted o (yielded ops a.tmps) = true := by simp [Region.wanted, hg]
 rw [if_pos hw]
 obtain ⟨v', w', hrun, r1, r2, _, r3⟩ := run_append_own_at (P := P) w base t o.type e i z size bytes h1 h2 h3 h4 h5 h6 h7 v n xs hown ad m c news hn hc h1c b1 b2 hb
 unfold Oper.wp
 simp [execOp, hop, resolve, invoke, builtin, hs, hx, hrun, Result.andThen]
 exact hK v' w' r1 r2 r3
theorem fR {w : World} {base : Nat} {e : TypeId} {size n c g : Nat} {xs : List Value} (h : w.ownsRow base e size (.slice (some ⟨g, 0, none⟩) n c) n xs) (j : Nat) (u : Value) : (w.setCell ⟨g, j, none⟩ u).ownsRow base e size (.slice (some ⟨g, 0, none⟩) n c) n (xs.set j u) := by
 refine ⟨by rw [List.length_set]; exact h.1, ?_⟩
 rcases h.2 with ⟨hn, _⟩ | ⟨g', cap', cur, hv, hg, hh, h1, h2, h3, h4⟩
 · cases hn
 · simp only [Value.slice.injEq, Option.some.injEq, Addr.mk.injEq, and_true, true_and] at hv
   obtain ⟨rfl, rfl⟩ := hv
   refine .inr ⟨g, c, cur.setIfInBounds j u, rfl, hg, by simp [World.setCell, Array.getElem?_modify, hh], h1, h2, by simpa using h3, ?_⟩
   rw [Array.toList_setIfInBounds, List.take_set, h4]
abbrev ge (w : World) (g a : Nat) (y0 y1 y2 y3 y4 y5 : Value) : World := (((((w.setCell ⟨g, a, none⟩ y0).setCell ⟨g, a + 1, none⟩ y1).setCell ⟨g, a + 2, none⟩ y2).setCell ⟨g, a + 3, none⟩ y3).setCell ⟨g, a + 4, none⟩ y4).setCell ⟨g, a + 5, none⟩ y5
theorem lQ (w : World) (g a : Nat) (y0 y1 y2 y3 y4 y5 : Value) : ah (fun b => b = g) w (ge w g a y0 y1 y2 y3 y4 y5) := by
 refine ah.setCell (S := fun b => b = g) (p := ⟨g, a + 5, none⟩) ?_ (.inl rfl) _
 refine ah.setCell (S := fun b => b = g) (p := ⟨g, a + 4, none⟩) ?_ (.inl rfl) _
 refine ah.setCell (S := fun b => b = g) (p := ⟨g, a + 3, none⟩) ?_ (.inl rfl) _
 refine ah.setCell (S := fun b => b = g) (p := ⟨g, a + 2, none⟩) ?_ (.inl rfl) _
 refine ah.setCell (S := fun b => b = g) (p := ⟨g, a + 1, none⟩) ?_ (.inl rfl) _
 refine ah.setCell (S := fun b => b = g) (p := ⟨g, a, none⟩) ?_ (.inl rfl) _
 exact kR
theorem fL (xs zs : List Value) (j : Nat) (u : Value) : (xs ++ zs).set (xs.length + j) u = xs ++ zs.set j u := by
 rw [List.set_append, if_neg (by omega), Nat.add_sub_cancel_left]
theorem pj {w : World} {base n c g : Nat} {xs : List Value} {z0 z1 z2 z3 z4 z5 : Value} (h : w.ownsRow base 27 6 (.slice (some ⟨g, 0, none⟩) (n + 1) c) (n + 1) (xs ++ [z0, z1, z2, z3, z4, z5])) (a : Nat) (ha : a = n * 6) (y0 y1 y2 y3 y4 y5 : Value) :
 (ge w g a y0 y1 y2 y3 y4 y5).ownsRow base 27 6 (.slice (some ⟨g, 0, none⟩) (n + 1) c) (n + 1) (xs ++ [y0, y1, y2, y3, y4, y5]) := by
 have hx : xs.length = a := by
  have := h.1
  simp only [List.length_append, List.length_cons, List.length_nil] at this
  omega
 have h0 := fR h (a + 0) y0
 rw [<- hx, fL] at h0
 have h1 := fR h0 (xs.length + 1) y1
 rw [fL] at h1
 have h2 := fR h1 (xs.length + 2) y2
 rw [fL] at h2
 have h3 := fR h2 (xs.length + 3) y3
 rw [fL] at h3
 have h4 := fR h3 (xs.length + 4) y4
 rw [fL] at h4
 have h5 := fR h4 (xs.length + 5) y5
 rw [fL] at h5
 subst hx
 exact h5
theorem mi {w : World} {base n c g : Nat} {xs : List Value} {z0 z1 z2 z3 z4 z5 : Value} (h : w.ownsRow base 27 6 (.slice (some ⟨g, 0, none⟩) (n + 1) c) (n + 1) (xs ++ [z0, z1, z2, z3, z4, z5])) (a : Nat) (ha : a = n * 6) :
 (w.cell? ⟨g, a, none⟩ = some z0 /\ w.cell? ⟨g, a + 1, none⟩ = some z1 /\ w.cell? ⟨g, a + 2, none⟩ = some z2 /\ w.cell? ⟨g, a + 3, none⟩ = some z3 /\ w.cell? ⟨g, a + 4, none⟩ = some z4 /\ w.cell? ⟨g, a + 5, none⟩ = some z5) /\ (∀ i, w.frozen? ⟨g, i, none⟩ = false) := by
 have hx : xs.length = a := by
  have := h.1
  simp only [List.length_append, List.length_cons, List.length_nil] at this
  omega
 have key : ∀ j, j < 6 -> w.cell? ⟨g, a + j, none⟩ = [z0, z1, z2, z3, z4, z5][j]? := fun j hj => by
  have := World.ownsRow.cellAt h (a + j) (by omega)
  rw [this, List.getElem?_append_right (by omega), hx, Nat.add_sub_cancel_left]
 refine ⟨⟨key 0 (by omega), key 1 (by omega), key 2 (by omega), key 3 (by omega), key 4 (by omega), key 5 (by omega)⟩, fun i => ?_⟩
 obtain ⟨_, Y, hY⟩ := bC h g rfl
 simp [World.frozen?, hY]
end Go.Proofs.YtonnikipeokkaaaGreatDoor
