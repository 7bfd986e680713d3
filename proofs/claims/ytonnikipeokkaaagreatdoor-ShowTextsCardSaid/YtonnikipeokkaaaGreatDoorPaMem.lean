/-
  lex: All. The law's sample of lex. The law of lex and its do
-/
import Derived.Maps.AppendAt
import Derived.Test.YtonnikipeokkaaaGreatDoorRlSame
import Derived.Test.YtonnikipeokkaaaGreatDoorRlNext
namespace Go.Proofs.YtonnikipeokkaaaGreatDoor
open Go.Lib (hid)
open Go.RowKit Go.Lib
def Raw.k:Raw->Int
 | .mk k _ _ _ _ _=>k
def Raw.c:Raw->Int
 | .mk _ c _ _ _ _=>c
def Raw.neg:Raw->Bool
 | .mk _ _ neg _ _ _=>neg
def Raw.mag:Raw->List Nat
 | .mk _ _ _ mag _ _=>mag
def Raw.t:Raw->ByteArray
 | .mk _ _ _ _ t _=>t
def Raw.l:Raw->List Raw
 | .mk _ _ _ _ _ l=>l
structure PV where
 A:Option Addr
 n:Nat
 cp:Nat
 B:Option Addr
 m:Nat
 cap:Nat
def PV.none:PV:=⟨.none,0,0,.none,0,0⟩
abbrev cL (r:Raw) (p:PV):Array Value:=(rwC r.k r.c r.neg p.A p.n p.cp r.t p.B p.m p.cap)
abbrev rawV (r:Raw) (p:PV):Value:=.agg (rwC r.k r.c r.neg p.A p.n p.cp r.t p.B p.m p.cap)
def cV (w:World) (b off i:Nat) (r:Raw) (p:PV):Prop:=∀ f u,(cL r p)[f]? = some u->w.cell? ⟨b,off+i * 6+f,.none⟩=some u
inductive ay (N P:Nat->Prop) (w:World):Raw->PV->Prop
 | mk {r:Raw} {p:PV} (num:aq w p.A p.n p.cp r.mag) (nP:0<p.n->∀ b off,p.A=some ⟨b,off,.none⟩->N b)
  (len:r.l.length=p.m) (mcap:p.m<=p.cap) (big:p.m * 88<=140737488351232) (vs:Nat->PV) (row:0<p.m->∃ b off,p.B=some ⟨b,off,.none⟩/\P b /\ ∀ i (h:i<r.l.length),cV w b off i r.l[i] (vs i))
  (ch:∀ i (h:i<r.l.length),ay N P w r.l[i] (vs i)):ay N P w r p
theorem cV.keep {S:Nat->Prop} {w w':World} {b off i:Nat} {r:Raw} {p:PV} (h:cV w b off i r p) (K:ah S w w') (hs:¬ S b):cV w' b off i r p:=fun f u hu=>by
 have:=h f u hu
 rw [K.cell (p:=⟨b,off+i * 6+f,.none⟩) (bL w _ this) hs];exact this
theorem ay.keep {S N P:Nat->Prop} {w w':World} {r:Raw} {p:PV} (h:ay N P w r p) (K:ah S w w') (hs:∀ b,S b->¬ P b/\¬ N b):ay N P w' r p:=by
 induction h with
 | mk num nP len mcap big vs row ch ih=>
  refine .mk (num.keep K (fun hn b off e hS=>(hs b hS).2 (nP hn b off e))) nP len mcap big vs (fun hm=>?_) ih
  obtain ⟨b,off,e,hP,hc⟩:=row hm
  exact ⟨b,off,e,hP,fun i h=>(hc i h).keep K (fun hS=>(hs b hS).1 hP)⟩
theorem ay.keep0 {N P:Nat->Prop} {w w':World} {r:Raw} {p:PV} (h:ay N P w r p) (K:K0 w w'):ay N P w' r p:=h.keep K (fun _ h=>h.elim)
theorem ay.mono {N M P Q:Nat->Prop} {w:World} {r:Raw} {p:PV} (h:ay N P w r p) (hn:∀ b,b<w.heap.size->N b->M b) (hs:∀ b,b<w.heap.size->P b->Q b):ay M Q w r p:=by
 induction h with
 | @mk r p num nP len mcap big vs row ch ih=>
  refine .mk num (fun hm b off e=>hn b ?_ (nP hm b off e)) len mcap big vs (fun hm=>?_) ih
  ·obtain ⟨b',off',e',lt⟩:=num.lt hm
   rw [e] at e'
   injection e' with e';injection e' with e'
   subst e';exact lt
  ·obtain ⟨b,off,e,hP,hc⟩:=row hm
   have hi:0<r.l.length:=by omega
   have:=hc 0 hi 0 (.int .i64 (r.l[0]).k) rfl
   exact ⟨b,off,e,hs b (bL w _ this) hP,hc⟩
theorem cV.cells {w:World} {b off i:Nat} {r:Raw} {p:PV} (h:cV w b off i r p):w.cell? ⟨b,off+i * 6,.none⟩=some (.int .i64 r.k)/\w.cell? ⟨b,off+i * 6+1,.none⟩=some (.int .i32 r.c)/\w.cell? ⟨b,off+i * 6+2,.none⟩=some (.bool r.neg)/\w.cell? ⟨b,off+i * 6+3,.none⟩=some (.slice p.A p.n p.cp)/\w.cell? ⟨b,off+i * 6+4,.none⟩=some (.string r.t)/\w.cell? ⟨b,off+i * 6+5,.none⟩=some (.slice p.B p.m p.cap):=
 ⟨h 0 _ rfl,h 1 _ rfl,h 2 _ rfl,h 3 _ rfl,h 4 _ rfl,h 5 _ rfl⟩
theorem Raw.ext {r r':Raw} (h0:r.k=r'.k) (h1:r.c=r'.c) (h2:r.neg=r'.neg) (h3:r.mag=r'.mag) (h4:r.t=r'.t) (h5:r.l=r'.l):r=r':=by
 cases r;cases r'
 simp only [Raw.k,Raw.c,Raw.neg,Raw.mag,Raw.t,Raw.l] at h0 h1 h2 h3 h4 h5
 rw [h0,h1,h2,h3,h4,h5]
noncomputable def eqR (r r':Raw):Bool:=@decide (r=r') (Classical.propDecidable _)
theorem kn {r r':Raw}:eqR r r'=true ↔ r=r':=by unfold eqR;simp
theorem ee {r r':Raw}:eqR r r'=false ↔ r ≠ r':=by unfold eqR;simp
theorem ut (r:Raw):eqR r r=true:=kn.2 rfl
theorem ay.items {N P:Nat->Prop} {w:World} {r:Raw} {p:PV} (h:ay N P w r p) (i:Nat) (hi:i<r.l.length):∃ b off v,p.B=some ⟨b,off,.none⟩/\P b/\cV w b off i r.l[i] v/\ay N P w r.l[i] v:=by
 cases h with
 | mk num nP len mcap big vs row ch=>
  obtain ⟨b,off,e,hP,hc⟩:=row (by omega)
  exact ⟨b,off,vs i,e,hP,hc i hi,ch i hi⟩
theorem ay.num {N P:Nat->Prop} {w:World} {r:Raw} {p:PV} (h:ay N P w r p):aq w p.A p.n p.cp r.mag:=by cases h with | mk num=>exact num
theorem ay.len {N P:Nat->Prop} {w:World} {r:Raw} {p:PV} (h:ay N P w r p):r.l.length=p.m:=by cases h with | mk _ _ len=>exact len
def iK (w:World) (b:Nat):Prop:=∃ X,w.heap[b]? = some (.cells X 126 (0,0))
theorem iK.keep {S:Nat->Prop} {w w':World} {b:Nat} (h:iK w b) (K:ah S w w') (hs:¬ S b):iK w' b:=by
 obtain ⟨X,hX⟩:=h
 exact ⟨X,K.heap hX hs⟩
theorem bI {w:World} {b:Nat} {X:Array Value} {T:TypeId} {fz:Nat × Nat} (h:w.heap[b]? = some (.cells X T fz)) (hT:T ≠ 126):¬ iK w b:=by
 rintro ⟨Y,hY⟩
 rw [h] at hY
 injection hY with hY
 injection hY with _ hY
 exact hT hY
abbrev bR (P:Nat->Prop) (w:World) (r:Raw) (p:PV):Prop:=ay (iK w) P w r p
theorem bR.keep {S P:Nat->Prop} {w w':World} {r:Raw} {p:PV} (h:bR P w r p) (K:ah S w w') (hs:∀ b,S b->¬ P b/\¬ iK w b):bR P w' r p:=
 (ay.keep h K hs).mono (fun b _ hn=>hn.keep K (fun hS=>(hs b hS).2 hn)) (fun _ _ hP=>hP)
theorem bR.keep0 {P:Nat->Prop} {w w':World} {r:Raw} {p:PV} (h:bR P w r p) (K:K0 w w'):bR P w' r p:=h.keep K (fun _ h=>h.elim)
theorem bR.mono {P Q:Nat->Prop} {w:World} {r:Raw} {p:PV} (h:bR P w r p) (hs:∀ b,b<w.heap.size->P b->Q b):bR Q w r p:=ay.mono h (fun _ _ hn=>hn) hs
theorem ay.nil (N P:Nat->Prop) (w:World):ay N P w .nil PV.none:=
 .mk (eX w) (fun h=>absurd h (Nat.lt_irrefl _)) rfl (Nat.le_refl _) (show 0 * 88<=140737488351232 by omega) (fun _=>PV.none) (fun h=>absurd h (Nat.lt_irrefl _)) (fun _ h=>absurd h (Nat.not_lt_zero _))
open Go.Lib
end Go.Proofs.YtonnikipeokkaaaGreatDoor
