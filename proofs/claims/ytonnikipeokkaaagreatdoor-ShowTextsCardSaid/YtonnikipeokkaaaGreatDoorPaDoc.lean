/-
  The document's datum: Same, of any two. Structs in memory; a
-/
import Derived.Test.YtonnikipeokkaaaGreatDoorPaMem
namespace Go.Proofs.YtonnikipeokkaaaGreatDoor
set_option maxRecDepth 100000
set_option maxHeartbeats 4000000
open Go.Lib (hid)
open Go.RowKit Go.Lib
theorem vx (r r':Raw) (p p':PV) (W:World) (q0:(r.k != r'.k)=true):Calls Tryz.prog 20 #[rawV r p,rawV r' p'] W (BoolPost false W):=by
 have hb1:((W.alloc (.cells (rwC r.k r.c r.neg p.A p.n p.cp r.t p.B p.m p.cap) 27)).alloc (.cells (rwC r'.k r'.c r'.neg p'.A p'.n p'.cp r'.t p'.B p'.m p'.cap) 27)).heap[W.heap.size]? = some (.cells (rwC r.k r.c r.neg p.A p.n p.cp r.t p.B p.m p.cap) 27 (0,0)):=by
  rw [Below.heap_alloc _ _ _ (by simp)];exact hN W _
 have hb2:((W.alloc (.cells (rwC r.k r.c r.neg p.A p.n p.cp r.t p.B p.m p.cap) 27)).alloc (.cells (rwC r'.k r'.c r'.neg p'.A p'.n p'.cp r'.t p'.B p'.m p'.cap) 27)).heap[W.heap.size+1]? = some (.cells (rwC r'.k r'.c r'.neg p'.A p'.n p'.cp r'.t p'.B p'.m p'.cap) 27 (0,0)):=by
  have:=hN (W.alloc (.cells (rwC r.k r.c r.neg p.A p.n p.cp r.t p.B p.m p.cap) 27)) (.cells (rwC r'.k r'.c r'.neg p'.A p'.n p'.cp r'.t p'.B p'.m p'.cap) 27)
  rwa [World.size_alloc] at this
 have HB1:=hid hb1
 have HB2:=hid hb2
 have HK:=hid (show K0 W ((W.alloc (.cells (rwC r.k r.c r.neg p.A p.n p.cp r.t p.B p.m p.cap) 27)).alloc (.cells (rwC r'.k r'.c r'.neg p'.A p'.n p'.cp r'.t p'.B p'.m p'.cap) 27)) from (kR.alloc _).alloc _)
 obtain ⟨a0,a1,a2,a3,a4,a5⟩:=aa hb1
 obtain ⟨b0,b1,b2,b3,b4,b5⟩:=aa hb2
 clear hb1 hb2
 go_enter Tryz.func20,Tryz.ntmps20
 go_wp2_with fail
 go_ret
 exact ⟨rfl,HK.out⟩
theorem vy (r r':Raw) (p p':PV) (W:World) (q0:(r.k != r'.k)=false) (q1:(r.c != r'.c)=true):Calls Tryz.prog 20 #[rawV r p,rawV r' p'] W (BoolPost false W):=by
 have hb1:((W.alloc (.cells (rwC r.k r.c r.neg p.A p.n p.cp r.t p.B p.m p.cap) 27)).alloc (.cells (rwC r'.k r'.c r'.neg p'.A p'.n p'.cp r'.t p'.B p'.m p'.cap) 27)).heap[W.heap.size]? = some (.cells (rwC r.k r.c r.neg p.A p.n p.cp r.t p.B p.m p.cap) 27 (0,0)):=by
  rw [Below.heap_alloc _ _ _ (by simp)];exact hN W _
 have hb2:((W.alloc (.cells (rwC r.k r.c r.neg p.A p.n p.cp r.t p.B p.m p.cap) 27)).alloc (.cells (rwC r'.k r'.c r'.neg p'.A p'.n p'.cp r'.t p'.B p'.m p'.cap) 27)).heap[W.heap.size+1]? = some (.cells (rwC r'.k r'.c r'.neg p'.A p'.n p'.cp r'.t p'.B p'.m p'.cap) 27 (0,0)):=by
  have:=hN (W.alloc (.cells (rwC r.k r.c r.neg p.A p.n p.cp r.t p.B p.m p.cap) 27)) (.cells (rwC r'.k r'.c r'.neg p'.A p'.n p'.cp r'.t p'.B p'.m p'.cap) 27)
  rwa [World.size_alloc] at this
 have HB1:=hid hb1
 have HB2:=hid hb2
 have HK:=hid (show K0 W ((W.alloc (.cells (rwC r.k r.c r.neg p.A p.n p.cp r.t p.B p.m p.cap) 27)).alloc (.cells (rwC r'.k r'.c r'.neg p'.A p'.n p'.cp r'.t p'.B p'.m p'.cap) 27)) from (kR.alloc _).alloc _)
 obtain ⟨a0,a1,a2,a3,a4,a5⟩:=aa hb1
 obtain ⟨b0,b1,b2,b3,b4,b5⟩:=aa hb2
 clear hb1 hb2
 go_enter Tryz.func20,Tryz.ntmps20
 go_wp2_with fail
 go_ret
 exact ⟨rfl,HK.out⟩
theorem vu (r r':Raw) (p p':PV) (W:World) (q0:(r.k != r'.k)=false) (q1:(r.c != r'.c)=false) (HS:Hid (∀ (w1:World),K0 W w1->Calls Tryz.prog 45 #[al r.neg p.A p.n p.cp,al r'.neg p'.A p'.n p'.cp] w1 (BoolPost (er r.neg r.mag r'.neg r'.mag) w1))) (HSB:Hid (er r.neg r.mag r'.neg r'.mag=false)):Calls Tryz.prog 20 #[rawV r p,rawV r' p'] W (BoolPost false W):=by
 have hb1:((W.alloc (.cells (rwC r.k r.c r.neg p.A p.n p.cp r.t p.B p.m p.cap) 27)).alloc (.cells (rwC r'.k r'.c r'.neg p'.A p'.n p'.cp r'.t p'.B p'.m p'.cap) 27)).heap[W.heap.size]? = some (.cells (rwC r.k r.c r.neg p.A p.n p.cp r.t p.B p.m p.cap) 27 (0,0)):=by
  rw [Below.heap_alloc _ _ _ (by simp)];exact hN W _
 have hb2:((W.alloc (.cells (rwC r.k r.c r.neg p.A p.n p.cp r.t p.B p.m p.cap) 27)).alloc (.cells (rwC r'.k r'.c r'.neg p'.A p'.n p'.cp r'.t p'.B p'.m p'.cap) 27)).heap[W.heap.size+1]? = some (.cells (rwC r'.k r'.c r'.neg p'.A p'.n p'.cp r'.t p'.B p'.m p'.cap) 27 (0,0)):=by
  have:=hN (W.alloc (.cells (rwC r.k r.c r.neg p.A p.n p.cp r.t p.B p.m p.cap) 27)) (.cells (rwC r'.k r'.c r'.neg p'.A p'.n p'.cp r'.t p'.B p'.m p'.cap) 27)
  rwa [World.size_alloc] at this
 have HB1:=hid hb1
 have HB2:=hid hb2
 have HK:=hid (show K0 W ((W.alloc (.cells (rwC r.k r.c r.neg p.A p.n p.cp r.t p.B p.m p.cap) 27)).alloc (.cells (rwC r'.k r'.c r'.neg p'.A p'.n p'.cp r'.t p'.B p'.m p'.cap) 27)) from (kR.alloc _).alloc _)
 obtain ⟨a0,a1,a2,a3,a4,a5⟩:=aa hb1
 obtain ⟨b0,b1,b2,b3,b4,b5⟩:=aa hb2
 clear hb1 hb2
 go_enter Tryz.func20,Tryz.ntmps20
 go_wp2_with fail
 generalize ((W.alloc (.cells (rwC r.k r.c r.neg p.A p.n p.cp r.t p.B p.m p.cap) 27)).alloc (.cells (rwC r'.k r'.c r'.neg p'.A p'.n p'.cp r'.t p'.B p'.m p'.cap) 27))=w1 at *
 refine (HS.out _ HK.out).mono ?_
 rintro e w2 ⟨rfl,k2⟩
 rw [HSB.out]
 have hb1:=k2.heap HB1.out (by simp)
 have hb2:=k2.heap HB2.out (by simp)
 have HK2:=hid (HK.out.trans k2)
 clear a0 a1 a2 a3 a4 a5 b0 b1 b2 b3 b4 b5 k2
 obtain ⟨a0,a1,a2,a3,a4,a5⟩:=aa hb1
 obtain ⟨b0,b1,b2,b3,b4,b5⟩:=aa hb2
 go_wp2_with fail
 go_ret
 exact ⟨rfl,HK2.out⟩
theorem vt (r r':Raw) (p p':PV) (W:World) (q0:(r.k != r'.k)=false) (q1:(r.c != r'.c)=false) (HS:Hid (∀ (w1:World),K0 W w1->Calls Tryz.prog 45 #[al r.neg p.A p.n p.cp,al r'.neg p'.A p'.n p'.cp] w1 (BoolPost (er r.neg r.mag r'.neg r'.mag) w1))) (HSB:Hid (er r.neg r.mag r'.neg r'.mag=true)) (q3:¬ r.t.toList=r'.t.toList):Calls Tryz.prog 20 #[rawV r p,rawV r' p'] W (BoolPost false W):=by
 have hb1:((W.alloc (.cells (rwC r.k r.c r.neg p.A p.n p.cp r.t p.B p.m p.cap) 27)).alloc (.cells (rwC r'.k r'.c r'.neg p'.A p'.n p'.cp r'.t p'.B p'.m p'.cap) 27)).heap[W.heap.size]? = some (.cells (rwC r.k r.c r.neg p.A p.n p.cp r.t p.B p.m p.cap) 27 (0,0)):=by
  rw [Below.heap_alloc _ _ _ (by simp)];exact hN W _
 have hb2:((W.alloc (.cells (rwC r.k r.c r.neg p.A p.n p.cp r.t p.B p.m p.cap) 27)).alloc (.cells (rwC r'.k r'.c r'.neg p'.A p'.n p'.cp r'.t p'.B p'.m p'.cap) 27)).heap[W.heap.size+1]? = some (.cells (rwC r'.k r'.c r'.neg p'.A p'.n p'.cp r'.t p'.B p'.m p'.cap) 27 (0,0)):=by
  have:=hN (W.alloc (.cells (rwC r.k r.c r.neg p.A p.n p.cp r.t p.B p.m p.cap) 27)) (.cells (rwC r'.k r'.c r'.neg p'.A p'.n p'.cp r'.t p'.B p'.m p'.cap) 27)
  rwa [World.size_alloc] at this
 have HB1:=hid hb1
 have HB2:=hid hb2
 have HK:=hid (show K0 W ((W.alloc (.cells (rwC r.k r.c r.neg p.A p.n p.cp r.t p.B p.m p.cap) 27)).alloc (.cells (rwC r'.k r'.c r'.neg p'.A p'.n p'.cp r'.t p'.B p'.m p'.cap) 27)) from (kR.alloc _).alloc _)
 obtain ⟨a0,a1,a2,a3,a4,a5⟩:=aa hb1
 obtain ⟨b0,b1,b2,b3,b4,b5⟩:=aa hb2
 clear hb1 hb2
 go_enter Tryz.func20,Tryz.ntmps20
 go_wp2_with fail
 generalize ((W.alloc (.cells (rwC r.k r.c r.neg p.A p.n p.cp r.t p.B p.m p.cap) 27)).alloc (.cells (rwC r'.k r'.c r'.neg p'.A p'.n p'.cp r'.t p'.B p'.m p'.cap) 27))=w1 at *
 refine (HS.out _ HK.out).mono ?_
 rintro e w2 ⟨rfl,k2⟩
 rw [HSB.out]
 have hb1:=k2.heap HB1.out (by simp)
 have hb2:=k2.heap HB2.out (by simp)
 have HK2:=hid (HK.out.trans k2)
 clear a0 a1 a2 a3 a4 a5 b0 b1 b2 b3 b4 b5 k2
 obtain ⟨a0,a1,a2,a3,a4,a5⟩:=aa hb1
 obtain ⟨b0,b1,b2,b3,b4,b5⟩:=aa hb2
 go_wp2_with fail
 go_ret
 exact ⟨rfl,HK2.out⟩
theorem vv (r r':Raw) (p p':PV) (W:World) (q0:(r.k != r'.k)=false) (q1:(r.c != r'.c)=false) (HS:Hid (∀ (w1:World),K0 W w1->Calls Tryz.prog 45 #[al r.neg p.A p.n p.cp,al r'.neg p'.A p'.n p'.cp] w1 (BoolPost (er r.neg r.mag r'.neg r'.mag) w1))) (HSB:Hid (er r.neg r.mag r'.neg r'.mag=true)) (q3:r.t.toList=r'.t.toList) (q4:((p.m:Int) != (p'.m:Int))=true):Calls Tryz.prog 20 #[rawV r p,rawV r' p'] W (BoolPost false W):=by
 have hb1:((W.alloc (.cells (rwC r.k r.c r.neg p.A p.n p.cp r.t p.B p.m p.cap) 27)).alloc (.cells (rwC r'.k r'.c r'.neg p'.A p'.n p'.cp r'.t p'.B p'.m p'.cap) 27)).heap[W.heap.size]? = some (.cells (rwC r.k r.c r.neg p.A p.n p.cp r.t p.B p.m p.cap) 27 (0,0)):=by
  rw [Below.heap_alloc _ _ _ (by simp)];exact hN W _
 have hb2:((W.alloc (.cells (rwC r.k r.c r.neg p.A p.n p.cp r.t p.B p.m p.cap) 27)).alloc (.cells (rwC r'.k r'.c r'.neg p'.A p'.n p'.cp r'.t p'.B p'.m p'.cap) 27)).heap[W.heap.size+1]? = some (.cells (rwC r'.k r'.c r'.neg p'.A p'.n p'.cp r'.t p'.B p'.m p'.cap) 27 (0,0)):=by
  have:=hN (W.alloc (.cells (rwC r.k r.c r.neg p.A p.n p.cp r.t p.B p.m p.cap) 27)) (.cells (rwC r'.k r'.c r'.neg p'.A p'.n p'.cp r'.t p'.B p'.m p'.cap) 27)
  rwa [World.size_alloc] at this
 have HB1:=hid hb1
 have HB2:=hid hb2
 have HK:=hid (show K0 W ((W.alloc (.cells (rwC r.k r.c r.neg p.A p.n p.cp r.t p.B p.m p.cap) 27)).alloc (.cells (rwC r'.k r'.c r'.neg p'.A p'.n p'.cp r'.t p'.B p'.m p'.cap) 27)) from (kR.alloc _).alloc _)
 obtain ⟨a0,a1,a2,a3,a4,a5⟩:=aa hb1
 obtain ⟨b0,b1,b2,b3,b4,b5⟩:=aa hb2
 clear hb1 hb2
 go_enter Tryz.func20,Tryz.ntmps20
 go_wp2_with fail
 generalize ((W.alloc (.cells (rwC r.k r.c r.neg p.A p.n p.cp r.t p.B p.m p.cap) 27)).alloc (.cells (rwC r'.k r'.c r'.neg p'.A p'.n p'.cp r'.t p'.B p'.m p'.cap) 27))=w1 at *
 refine (HS.out _ HK.out).mono ?_
 rintro e w2 ⟨rfl,k2⟩
 rw [HSB.out]
 have hb1:=k2.heap HB1.out (by simp)
 have hb2:=k2.heap HB2.out (by simp)
 have HK2:=hid (HK.out.trans k2)
 clear a0 a1 a2 a3 a4 a5 b0 b1 b2 b3 b4 b5 k2
 obtain ⟨a0,a1,a2,a3,a4,a5⟩:=aa hb1
 obtain ⟨b0,b1,b2,b3,b4,b5⟩:=aa hb2
 go_wp2_with fail
 go_ret
 exact ⟨rfl,HK2.out⟩
theorem kD {x y:ByteArray} (h:x.toList=y.toList):x=y:=by
 rw [Lib.toList_data,Lib.toList_data] at h
 exact ByteArray.ext (Array.toList_inj.mp h)
def wt (r r':Raw) (i:Nat):Prop:=∀ j (h:j<r.l.length) (h':j<r'.l.length),j<i->r.l[j]=r'.l[j]
theorem wt.all {r r':Raw} (hl:r.l.length=r'.l.length) (h:wt r r' r.l.length):r.l=r'.l:=List.ext_getElem hl (fun j h1 h2=>h j h1 h2 h1)
structure xY (W:World) (r r':Raw) (p p':PV) (i B1:Nat) (wr:World):Prop where
 K:K0 W wr
 h1:wr.heap[B1]? = some (.cells (rwC r.k r.c r.neg p.A p.n p.cp r.t p.B p.m p.cap) 27 (0,0))
 h2:wr.heap[B1+1]? = some (.cells (rwC r'.k r'.c r'.neg p'.A p'.n p'.cp r'.t p'.B p'.m p'.cap) 27 (0,0))
 le:i<=r.l.length
 upto:wt r r' i
theorem vw {P N' P':Nat->Prop} (r r':Raw) (p p':PV) (W:World) (w:World) (hW:K0 w W) (q0:(r.k != r'.k)=false) (q1:(r.c != r'.c)=false) (HS:Hid (∀ (w1:World),K0 W w1->Calls Tryz.prog 45 #[al r.neg p.A p.n p.cp,al r'.neg p'.A p'.n p'.cp] w1 (BoolPost (er r.neg r.mag r'.neg r'.mag) w1))) (HSB:Hid (er r.neg r.mag r'.neg r'.mag=true)) (q3:r.t.toList=r'.t.toList) (q4:((p.m:Int) != (p'.m:Int))=false)
 (hm:p.m<=9223372036854775807) (vs:Nat->PV) (HROW:Hid (0<p.m->∃ b off,p.B=some ⟨b,off,.none⟩/\P b /\ ∀ i (h:i<r.l.length),cV w b off i r.l[i] (vs i))) (HH':Hid (ay N' P' W r' p')) (HL:Hid (r.l.length=p.m)) (HL':Hid (r'.l.length=p'.m)) (HX:Hid (r.l=r'.l->r=r'))
 (IH:Hid (∀ i (h:i<r.l.length) (x':Raw) (v':PV) (w':World),K0 w w'->ay N' P' w' x' v'->Calls Tryz.prog 20 #[rawV r.l[i] (vs i),rawV x' v'] w' (BoolPost (eqR r.l[i] x') w'))):Calls Tryz.prog 20 #[rawV r p,rawV r' p'] W (BoolPost (eqR r r') W):=by
 have hb1:((W.alloc (.cells (rwC r.k r.c r.neg p.A p.n p.cp r.t p.B p.m p.cap) 27)).alloc (.cells (rwC r'.k r'.c r'.neg p'.A p'.n p'.cp r'.t p'.B p'.m p'.cap) 27)).heap[W.heap.size]? = some (.cells (rwC r.k r.c r.neg p.A p.n p.cp r.t p.B p.m p.cap) 27 (0,0)):=by
  rw [Below.heap_alloc _ _ _ (by simp)];exact hN W _
 have hb2:((W.alloc (.cells (rwC r.k r.c r.neg p.A p.n p.cp r.t p.B p.m p.cap) 27)).alloc (.cells (rwC r'.k r'.c r'.neg p'.A p'.n p'.cp r'.t p'.B p'.m p'.cap) 27)).heap[W.heap.size+1]? = some (.cells (rwC r'.k r'.c r'.neg p'.A p'.n p'.cp r'.t p'.B p'.m p'.cap) 27 (0,0)):=by
  have:=hN (W.alloc (.cells (rwC r.k r.c r.neg p.A p.n p.cp r.t p.B p.m p.cap) 27)) (.cells (rwC r'.k r'.c r'.neg p'.A p'.n p'.cp r'.t p'.B p'.m p'.cap) 27)
  rwa [World.size_alloc] at this
 have HB1:=hid hb1
 have HB2:=hid hb2
 have HK:=hid (show K0 W ((W.alloc (.cells (rwC r.k r.c r.neg p.A p.n p.cp r.t p.B p.m p.cap) 27)).alloc (.cells (rwC r'.k r'.c r'.neg p'.A p'.n p'.cp r'.t p'.B p'.m p'.cap) 27)) from (kR.alloc _).alloc _)
 obtain ⟨a0,a1,a2,a3,a4,a5⟩:=aa hb1
 obtain ⟨b0,b1,b2,b3,b4,b5⟩:=aa hb2
 clear hb1 hb2
 have HW:=hid hW
 clear hW
 go_enter Tryz.func20,Tryz.ntmps20
 go_wp2_with fail
 generalize ((W.alloc (.cells (rwC r.k r.c r.neg p.A p.n p.cp r.t p.B p.m p.cap) 27)).alloc (.cells (rwC r'.k r'.c r'.neg p'.A p'.n p'.cp r'.t p'.B p'.m p'.cap) 27))=w1 at *
 refine (HS.out _ HK.out).mono ?_
 rintro e w2 ⟨rfl,k2⟩
 rw [HSB.out]
 have hb1:=k2.heap HB1.out (by simp)
 have hb2:=k2.heap HB2.out (by simp)
 have HK2:=hid (HK.out.trans k2)
 clear a0 a1 a2 a3 a4 a5 b0 b1 b2 b3 b4 b5 k2
 obtain ⟨a0,a1,a2,a3,a4,a5⟩:=aa hb1
 obtain ⟨b0,b1,b2,b3,b4,b5⟩:=aa hb2
 have HST:=hid (show xY W r r' p p' 0 W.heap.size w2 from ⟨HK2.out,hb1,hb2,Nat.zero_le _,fun j _ _ h=>absurd h (Nat.not_lt_zero _)⟩)
 clear hb1 hb2
 go_wp2_with fail
 generalize hB1:W.heap.size=B1 at *
 clear a0 a1 a2 a3 a4 a5 b0 b1 b2 b3 b4 b5
 go_loopw [5] (fun iv wr=>∃ i:Nat,iv=.int .i64 (i:Int)/\xY W r r' p p' i B1 wr) (fun iv _=>p.m - (intOf iv).toNat)
 case atStart=>exact ⟨0,rfl,HST.out⟩
 case round=>
  obtain ⟨i,rfl,hst⟩:=hrel
  have hx1:=hst.h1
  have hx2:=hst.h2
  have HS2:=hid hst
  have HMM:=hid (show p.m=p'.m by have h:=q4;simp at h;omega)
  have hbig:=hm
  clear hst
  obtain ⟨a0,a1,a2,a3,a4,a5⟩:=aa hx1
  obtain ⟨b0,b1,b2,b3,b4,b5⟩:=aa hx2
  clear hx1 hx2 a0 a1 a2 a3 a4 b0 b1 b2 b3 b4
  by_cases hlt:i<p.m
  ·have hi1:i<r.l.length:=by rw [HL.out];exact hlt
   have hi2:i<r'.l.length:=by rw [HL'.out,<- HMM.out];exact hlt
   obtain ⟨g,o,eB,_,hrw⟩:=HROW.out (by omega)
   have hic:=hrw i hi1
   obtain ⟨g',o',v',eB',_,hic',hv'⟩:=HH'.out.items i hi2
   have hic:=hic.keep (HW.out.trans HS2.out.K) id
   have hic':=hic'.keep HS2.out.K id
   have HC1:=hid (fun (w':World) (K:K0 wr w')=>IH.out i hi1 r'.l[i] v' w' ((HW.out.trans HS2.out.K).trans K) (ay.keep0 hv' (HS2.out.K.trans K)))
   have HNE:=hid (fun (h:r.l[i] ≠ r'.l[i])=>(show eqR r r'=false from ee.2 (fun e=>h (by subst e;rfl))))
   have HNX:=hid (fun (h:r.l[i]=r'.l[i]) (w':World) (K:K0 wr w')=>(show xY W r r' p p' (i+1) B1 w' from ⟨HS2.out.K.trans K,K.heap HS2.out.h1 id,K.heap HS2.out.h2 id,hi1,fun j h1 h2 h3=>by
    by_cases e:j=i
    ·subst e;exact h
    ·exact HS2.out.upto j h1 h2 (by omega)⟩))
   obtain ⟨r0,r1,r2,r3,r4,r5⟩:=hic.cells
   obtain ⟨s0,s1,s2,s3,s4,s5⟩:=hic'.cells
   rw [eB] at a5
   rw [eB'] at b5
   clear eB eB'
   obtain ⟨x,hx⟩:∃ x,x=r.l[i]:=⟨_,rfl⟩
   obtain ⟨x',hx'⟩:∃ x',x'=r'.l[i]:=⟨_,rfl⟩
   rw [<- hx] at HC1 HNE HNX r0 r1 r2 r4
   rw [<- hx'] at HC1 HNE HNX s0 s1 s2 s4
   obtain ⟨v,hv⟩:∃ v,v=vs i:=⟨_,rfl⟩
   rw [<- hv] at HC1 r3 r5
   clear hv hv' hic hic' hx hx' hrw
   have HCL:=hid (fun (w':World) (K:K0 wr w')=>(show w'.cell? ⟨B1,5,none⟩=some (.slice (some ⟨g,o,none⟩) p.m p.cap)/\w'.cell? ⟨B1+1,5,none⟩=some (.slice (some ⟨g',o',none⟩) p'.m p'.cap)/\w'.cell? ⟨g,o+i * 6,none⟩=some (.int .i64 x.k)/\w'.cell? ⟨g,o+i * 6+1,none⟩=some (.int .i32 x.c)/\w'.cell? ⟨g,o+i * 6+2,none⟩=some (.bool x.neg)/\w'.cell? ⟨g,o+i * 6+3,none⟩=some (.slice v.A v.n v.cp)/\w'.cell? ⟨g,o+i * 6+4,none⟩=some (.string x.t)/\w'.cell? ⟨g,o+i * 6+5,none⟩=some (.slice v.B v.m v.cap)/\w'.cell? ⟨g',o'+i * 6,none⟩=some (.int .i64 x'.k)/\w'.cell? ⟨g',o'+i * 6+1,none⟩=some (.int .i32 x'.c)/\w'.cell? ⟨g',o'+i * 6+2,none⟩=some (.bool x'.neg)/\w'.cell? ⟨g',o'+i * 6+3,none⟩=some (.slice v'.A v'.n v'.cp)/\w'.cell? ⟨g',o'+i * 6+4,none⟩=some (.string x'.t)/\w'.cell? ⟨g',o'+i * 6+5,none⟩=some (.slice v'.B v'.m v'.cap)/\K0 wr w' from ⟨(K.cell (bL wr _ a5) id).trans a5,(K.cell (bL wr _ b5) id).trans b5,(K.cell (bL wr _ r0) id).trans r0,(K.cell (bL wr _ r1) id).trans r1,(K.cell (bL wr _ r2) id).trans r2,(K.cell (bL wr _ r3) id).trans r3,(K.cell (bL wr _ r4) id).trans r4,(K.cell (bL wr _ r5) id).trans r5,(K.cell (bL wr _ s0) id).trans s0,(K.cell (bL wr _ s1) id).trans s1,(K.cell (bL wr _ s2) id).trans s2,(K.cell (bL wr _ s3) id).trans s3,(K.cell (bL wr _ s4) id).trans s4,(K.cell (bL wr _ s5) id).trans s5,K⟩))
   have Kd:K0 wr wr.drew:=kR.drew
   have l1:decide ((i:Int)<(p.m:Int))=true:=dT (by omega)
   have l2:decide (i<p.m)=true:=dT hlt
   have hi0:(0:Int)<=(i:Int):=Int.natCast_nonneg _
   have j1:(i:Int)<(p.m:Int):=by omega
   have j2:(i:Int)<(p'.m:Int):=by have:=HMM.out;omega
   go_wp2_with fail
   clear r0 r1 r2 r3 r4 r5 s0 s1 s2 s3 s4 s5 a5 b5
   by_cases hq:x=x'
   ·have HC2:=hid (fun (w':World) (K:K0 wr w')=>(show Calls Tryz.prog 20 #[rawV x v,rawV x' v'] w' (BoolPost true w') from by have:=HC1.out w' K;rwa [kn.2 hq] at this))
    have HQ:=hid hq
    clear hq
    go_region_held3 (fun w'=>w'.cell? ⟨B1,5,none⟩=some (.slice (some ⟨g,o,none⟩) p.m p.cap)/\w'.cell? ⟨B1+1,5,none⟩=some (.slice (some ⟨g',o',none⟩) p'.m p'.cap)/\w'.cell? ⟨g,o+i * 6,none⟩=some (.int .i64 x.k)/\w'.cell? ⟨g,o+i * 6+1,none⟩=some (.int .i32 x.c)/\w'.cell? ⟨g,o+i * 6+2,none⟩=some (.bool x.neg)/\w'.cell? ⟨g,o+i * 6+3,none⟩=some (.slice v.A v.n v.cp)/\w'.cell? ⟨g,o+i * 6+4,none⟩=some (.string x.t)/\w'.cell? ⟨g,o+i * 6+5,none⟩=some (.slice v.B v.m v.cap)/\w'.cell? ⟨g',o'+i * 6,none⟩=some (.int .i64 x'.k)/\w'.cell? ⟨g',o'+i * 6+1,none⟩=some (.int .i32 x'.c)/\w'.cell? ⟨g',o'+i * 6+2,none⟩=some (.bool x'.neg)/\w'.cell? ⟨g',o'+i * 6+3,none⟩=some (.slice v'.A v'.n v'.cp)/\w'.cell? ⟨g',o'+i * 6+4,none⟩=some (.string x'.t)/\w'.cell? ⟨g',o'+i * 6+5,none⟩=some (.slice v'.B v'.m v'.cap)/\K0 wr w')
     (first | exact HCL.out _ Kd | exact HCL.out _ (by assumption))
     ((go_at_call 20;go_split_ands;(with_reducible refine (HC2.out _ (by assumption)).mono ?_);rintro e w5 ⟨rfl,k5⟩;have K5:=ah.trans (by assumption) k5))
    have HN3:=hid (HNX.out HQ.out _ K5)
    clear k5 K5 Kd
    try dsimp only
    go_wp2_with fail
    go_roundw
    case rel=>exact ⟨i+1,by go_num,HN3.out⟩
    case measure=>simp only [intOf];omega
   ·have HC2:=hid (fun (w':World) (K:K0 wr w')=>(show Calls Tryz.prog 20 #[rawV x v,rawV x' v'] w' (BoolPost false w') from by have:=HC1.out w' K;rwa [ee.2 hq] at this))
    have HF:=hid (HNE.out hq)
    clear hq
    go_region_held3 (fun w'=>w'.cell? ⟨B1,5,none⟩=some (.slice (some ⟨g,o,none⟩) p.m p.cap)/\w'.cell? ⟨B1+1,5,none⟩=some (.slice (some ⟨g',o',none⟩) p'.m p'.cap)/\w'.cell? ⟨g,o+i * 6,none⟩=some (.int .i64 x.k)/\w'.cell? ⟨g,o+i * 6+1,none⟩=some (.int .i32 x.c)/\w'.cell? ⟨g,o+i * 6+2,none⟩=some (.bool x.neg)/\w'.cell? ⟨g,o+i * 6+3,none⟩=some (.slice v.A v.n v.cp)/\w'.cell? ⟨g,o+i * 6+4,none⟩=some (.string x.t)/\w'.cell? ⟨g,o+i * 6+5,none⟩=some (.slice v.B v.m v.cap)/\w'.cell? ⟨g',o'+i * 6,none⟩=some (.int .i64 x'.k)/\w'.cell? ⟨g',o'+i * 6+1,none⟩=some (.int .i32 x'.c)/\w'.cell? ⟨g',o'+i * 6+2,none⟩=some (.bool x'.neg)/\w'.cell? ⟨g',o'+i * 6+3,none⟩=some (.slice v'.A v'.n v'.cp)/\w'.cell? ⟨g',o'+i * 6+4,none⟩=some (.string x'.t)/\w'.cell? ⟨g',o'+i * 6+5,none⟩=some (.slice v'.B v'.m v'.cap)/\K0 wr w')
     (first | exact HCL.out _ Kd | exact HCL.out _ (by assumption))
     ((go_at_call 20;go_split_ands;(with_reducible refine (HC2.out _ (by assumption)).mono ?_);rintro e w5 ⟨rfl,k5⟩;have K5:=ah.trans (by assumption) k5))
    have HK5:=hid (HS2.out.K.trans K5)
    clear k5 K5 Kd
    try dsimp only
    go_wp2_with fail
    go_ret
    exact ⟨(show Ending.returned (.bool false)=Ending.returned (.bool (eqR r r')) by rw [HF.out]),HK5.out⟩
  ·have l1:decide ((i:Int)<(p.m:Int))=false:=dF (by omega)
   have l2:decide (i<p.m)=false:=dF hlt
   have HT:=hid (show eqR r r'=true from kn.2 (HX.out (wt.all (by rw [HL.out,HL'.out,HMM.out]) (by have:=HS2.out.upto;have h2:=HS2.out.le;rw [HL.out] at h2;rw [HL.out,show p.m=i by omega];exact this))))
   go_wp2_with fail
   go_ret
   exact ⟨(show Ending.returned (.bool true)=Ending.returned (.bool (eqR r r')) by rw [HT.out]),HS2.out.K⟩
theorem qz {N P N' P':Nat->Prop} {w:World} {r:Raw} {p:PV} (h:ay N P w r p):∀ (r':Raw) (p':PV) (W:World),K0 w W->ay N' P' W r' p'->Calls Tryz.prog 20 #[rawV r p,rawV r' p'] W (BoolPost (eqR r r') W):=by
 induction h with
 | @mk r p num nP len mcap big vs row ch ih=>
  intro r' p' W hW hr'
  have HS:Hid (∀ (w1:World),K0 W w1->Calls Tryz.prog 45 #[al r.neg p.A p.n p.cp,al r'.neg p'.A p'.n p'.cp] w1 (BoolPost (er r.neg r.mag r'.neg r'.mag) w1)):=hid (fun w1 K=>mS r.neg p.A p.n p.cp r.mag r'.neg p'.A p'.n p'.cp r'.mag w1 ((num.keep0 hW).keep0 K) (hr'.num.keep0 K))
  by_cases q0:r.k=r'.k
  case neg=>rw [ee.2 (fun e=>q0 (by rw [e]))];exact vx r r' p p' W (by simpa using q0)
  have q0':(r.k != r'.k)=false:=by simpa using q0
  by_cases q1:r.c=r'.c
  case neg=>rw [ee.2 (fun e=>q1 (by rw [e]))];exact vy r r' p p' W q0' (by simpa using q1)
  have q1':(r.c != r'.c)=false:=by simpa using q1
  by_cases q2:r.neg=r'.neg/\r.mag=r'.mag
  case neg=>rw [ee.2 (fun e=>q2 (by rw [e];exact ⟨rfl,rfl⟩))];exact vu r r' p p' W q0' q1' HS (hid (dF q2))
  have q2':=hid (show er r.neg r.mag r'.neg r'.mag=true from dT q2)
  by_cases q3:r.t.toList=r'.t.toList
  case neg=>rw [ee.2 (fun e=>q3 (by rw [e]))];exact vt r r' p p' W q0' q1' HS q2' q3
  by_cases q4:p.m=p'.m
  case neg=>rw [ee.2 (fun e=>q4 (by rw [<- len,<- hr'.len,e]))];exact vv r r' p p' W q0' q1' HS q2' q3 (by simp;omega)
  have hx:r.l=r'.l->r=r':=fun e=>Raw.ext q0 q1 q2.1 q2.2 (kD q3) e
  exact vw (P:=P) (N':=N') (P':=P') r r' p p' W _ hW q0' q1' HS q2' q3 (by simp;omega) (by omega) vs (hid row) (hid hr') (hid len) (hid hr'.len) (hid hx)
   (hid (fun i hi x' v' w' K hx'=>ih i hi x' v' w' K hx'))
theorem cw {w:World} {b:Nat} {o:Obj} (h:w.heap[b]? = some o) (x:Obj):(w.alloc x).heap[b]? = some o:=by
 rw [Below.heap_alloc _ _ _ (az h)];exact h
theorem ae {w:World} {B:Nat} {x0 x1 x2 x3 x4 x5:Value} (h:w.heap[B]? = some (.cells #[x0,x1,x2,x3,x4,x5] 27 (0,0))):(w.cell? ⟨B,0,none⟩=some x0/\w.cell? ⟨B,1,none⟩=some x1/\w.cell? ⟨B,2,none⟩=some x2/\w.cell? ⟨B,3,none⟩=some x3/\w.cell? ⟨B,4,none⟩=some x4/\w.cell? ⟨B,5,none⟩=some x5)/\(w.frozen? ⟨B,0,none⟩=false/\w.frozen? ⟨B,1,none⟩=false/\w.frozen? ⟨B,2,none⟩=false/\w.frozen? ⟨B,3,none⟩=false/\w.frozen? ⟨B,4,none⟩=false/\w.frozen? ⟨B,5,none⟩=false):=by
 refine ⟨⟨?_,?_,?_,?_,?_,?_⟩,?_,?_,?_,?_,?_,?_⟩
 all_goals first
  | (rw [cell_of_row w _ _ _ _ _ h];rfl)
  | simp [World.frozen?,h]
abbrev bX (w:World) (B:Nat) (y0 y1 y2 y3 y4 y5:Value):World:=(((((((((((w.setCell ⟨B,0,none⟩ y0)).setCell ⟨B,1,none⟩ y1)).setCell ⟨B,2,none⟩ y2)).setCell ⟨B,3,none⟩ y3)).setCell ⟨B,4,none⟩ y4)).setCell ⟨B,5,none⟩ y5)
theorem dR {w:World} {B:Nat} {x0 x1 x2 x3 x4 x5:Value} (h:w.heap[B]? = some (.cells #[x0,x1,x2,x3,x4,x5] 27 (0,0))) (y0 y1 y2 y3 y4 y5:Value):(bX w B y0 y1 y2 y3 y4 y5).heap[B]? = some (.cells #[y0,y1,y2,y3,y4,y5] 27 (0,0)):=by
 simp [bX,World.setCell,Array.getElem?_modify,h]
theorem vg {w:World} {B C:Nat} {o:Obj} (h:w.heap[C]? = some o) (hne:C ≠ B) (y0 y1 y2 y3 y4 y5:Value):(bX w B y0 y1 y2 y3 y4 y5).heap[C]? = some o:=by
 have:¬ B=C:=fun e=>hne e.symm
 simp [bX,World.setCell,Array.getElem?_modify,h,this]
theorem cF (w:World) (B:Nat) (y0 y1 y2 y3 y4 y5:Value):ah (fun b=>b=B) w (bX w B y0 y1 y2 y3 y4 y5):=by
 refine ah.setCell (S:=fun b=>b=B) (p:=⟨B,5,none⟩) ?_ (.inl rfl) _
 refine ah.setCell (S:=fun b=>b=B) (p:=⟨B,4,none⟩) ?_ (.inl rfl) _
 refine ah.setCell (S:=fun b=>b=B) (p:=⟨B,3,none⟩) ?_ (.inl rfl) _
 refine ah.setCell (S:=fun b=>b=B) (p:=⟨B,2,none⟩) ?_ (.inl rfl) _
 refine ah.setCell (S:=fun b=>b=B) (p:=⟨B,1,none⟩) ?_ (.inl rfl) _
 refine ah.setCell (S:=fun b=>b=B) (p:=⟨B,0,none⟩) ?_ (.inl rfl) _
 exact kR
theorem eS {w w1:World} {B:Nat} (k:K0 w w1) (hB:w.heap.size<=B) (y0 y1 y2 y3 y4 y5:Value):K0 w (bX w1 B y0 y1 y2 y3 y4 y5):=
 k.into (cF w1 B y0 y1 y2 y3 y4 y5) (by rintro i rfl;exact hB)
theorem sx (w:World) (B:Nat) (y0 y1 y2 y3 y4 y5:Value):(bX w B y0 y1 y2 y3 y4 y5).heap.size=w.heap.size:=by simp [bX,World.setCell]
theorem o7 {w:World} {a d:Raw} {pa pd:PV} {b:Nat} (hb:w.heap[b]? = some (.cells #[.int .i64 a.k,.int .i32 a.c,.bool a.neg,.slice pa.A pa.n pa.cp,.string a.t,.slice pa.B pa.m pa.cap,.int .i64 d.k,.int .i32 d.c,.bool d.neg,.slice pd.A pd.n pd.cp,.string d.t,.slice pd.B pd.m pd.cap] 27 (0,0))) :
 ∀ i (h:i < [a,d].length),cV w b 0 i [a,d][i] (if i=0 then pa else pd):=by
 intro i hi f u hu
 rw [cell_of_row w _ _ _ _ _ hb]
 match i,hi with
 | 0,_=>
  match f,hu with
  | 0,hu | 1,hu | 2,hu | 3,hu | 4,hu | 5,hu=>rw [<- hu];rfl
  | f+6,hu=>simp [cL] at hu
 | 1,_=>
  match f,hu with
  | 0,hu | 1,hu | 2,hu | 3,hu | 4,hu | 5,hu=>rw [<- hu];rfl
  | f+6,hu=>simp [cL] at hu
theorem vN {N P:Nat->Prop} {w:World} {a d:Raw} {pa pd:PV} (ha:ay N P w a pa) (hd:ay N P w d pd):∀ i (h:i < [a,d].length),ay N P w [a,d][i] (if i=0 then pa else pd):=by
 intro i hi
 match i,hi with
 | 0,_=>exact ha
 | 1,_=>exact hd
theorem bR.pair {Q:Nat->Prop} {w:World} {a d:Raw} {pa pd:PV} {b:Nat} (ha:bR Q w a pa) (hd:bR Q w d pd) (hb:w.heap[b]? = some (.cells #[.int .i64 a.k,.int .i32 a.c,.bool a.neg,.slice pa.A pa.n pa.cp,.string a.t,.slice pa.B pa.m pa.cap,.int .i64 d.k,.int .i32 d.c,.bool d.neg,.slice pd.A pd.n pd.cp,.string d.t,.slice pd.B pd.m pd.cap] 27 (0,0))) (hQ:Q b) :
 bR Q w (dn a d) ⟨none,0,0,some ⟨b,0,none⟩,2,2⟩:=by
 exact .mk (eX w) (fun h=>absurd h (Nat.lt_irrefl _)) rfl (Nat.le_refl _) (by show 2 * 88<=_;omega) (fun i=>if i=0 then pa else pd) (fun _=>⟨b,0,rfl,hQ,o7 hb⟩) (vN ha hd)
theorem rp {rs:List Raw} {i:Nat} (h:i<rs.length):aQ (rs.drop i) .nil=dn rs[i] (aQ (rs.drop (i+1)) .nil):=by
 rw [List.drop_eq_getElem_cons h];rfl
end Go.Proofs.YtonnikipeokkaaaGreatDoor
