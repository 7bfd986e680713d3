/-
  The document's reading: from, of all; One. The document's re
-/
import Derived.Test.YtonnikipeokkaaaGreatDoorPaLst
namespace Go.Proofs.YtonnikipeokkaaaGreatDoor
set_option maxRecDepth 100000
set_option maxHeartbeats 8000000
open Go.Lib (hid)
open Go.RowKit Go.Lib
def b8 (r:Raw) (w:World) (e:Ending) (w':World):Prop:=∃ p:PV,e=.returned (rawV r p)/\bR (fun b=>w.heap.size<=b) w' r p/\K0 w w'
structure CpS (W:World) (r:Raw) (A1:Option Addr) (n1 cp1:Nat) (B:Option Addr) (m cap:Nat) (i:Nat) (xs:List (Raw × PV)) (R:Option Addr) (rc:Nat) (wr:World):Prop where
 cnt:xs.map Prod.fst=r.l.take i
 le:i<=r.l.length
 own:wr.ownsRow (W.heap.size+2) 27 6 (.slice R i rc) i (xs.flatMap kC)
 items:∀ y ∈ xs,bR (Oth (W.heap.size+2) (.slice R i rc)) wr y.1 y.2
 h1:wr.heap[W.heap.size]? = some (.cells (rwC r.k r.c r.neg A1 n1 cp1 r.t B m cap) 27 (0,0))
 h2:wr.heap[W.heap.size+1]? = some (.cells (rwC 0 0 false none 0 0 ⟨#[]⟩ none 0 0) 27 (0,0))
 num:aq wr A1 n1 cp1 r.mag
 typ:0<n1->∀ b off,A1=some ⟨b,off,none⟩->iK wr b
 K:K0 W wr
theorem CpS.item {W:World} {r:Raw} {A1:Option Addr} {n1 cp1:Nat} {B:Option Addr} {m cap i:Nat} {xs:List (Raw × PV)} {R:Option Addr} {rc:Nat} {wr w2 w3:World} {p:PV} (h:CpS W r A1 n1 cp1 B m cap i xs R rc wr) (hi:i<r.l.length) (K:K0 wr w2)
 (hd:bR (fun b=>wr.heap.size<=b) w2 r.l[i] p) {v':Value} (hown:w3.ownsRow (W.heap.size+2) 27 6 v' (i+1) (xs.flatMap kC++kC (r.l[i],p))) (hg:w2.grownBy w3 (Value.slice R i rc).ownBlock) (hb:v'.ownBlock=(Value.slice R i rc).ownBlock\/v'.ownBlock=some w2.heap.size) :
 ∃ R' c',v'=.slice R' (i+1) c'/\CpS W r A1 n1 cp1 B m cap (i+1) (xs++[(r.l[i],p)]) R' c' w3:=by
 obtain ⟨A',c',rfl⟩:=pq hown
 have hoff:=nF h.own
 have hoff2:=nF (gQ h.own K (fun _ _=>id))
 have KG:ah (fun b=>(Value.slice R i rc).ownBlock=some b) w2 w3:=kR.grown hg (fun k hk=>.inl hk)
 have hs:=K.size
 have h2l:=az h.h2
 have key:∀ y q,bR (Oth (W.heap.size+2) (.slice R i rc)) w2 y q->bR (Oth (W.heap.size+2) (.slice A' (i+1) c')) w3 y q:=fun y q hy=>by
  have h1:bR (fun b=>Oth (W.heap.size+2) (.slice R i rc) b/\b<w2.heap.size) w2 y q:=hy.mono (fun b hb ho=>⟨ho,hb⟩)
  refine (h1.keep KG (fun b hb=>⟨fun hq=>hq.1.2 hb,(hoff2 b hb).2.2⟩)).mono (fun b _ hq=>⟨hq.1.1,fun e=>?_⟩)
  rcases hb with hb | hb
  ·rw [hb] at e;exact hq.1.2 e
  ·rw [hb] at e;injection e with e;omega
 have hT:∀ b,(Value.slice R i rc).ownBlock=some b->¬ iK w2 b:=fun b hb=>(hoff2 b hb).2.2
 refine ⟨A',c',rfl,by rw [List.map_append,h.cnt,List.take_succ_eq_append_getElem hi];rfl,hi,by rw [List.flatMap_append];simpa using hown,?_,KG.heap (K.heap h.h1 id) (fun hb=>by have:=(hoff _ hb).1;omega),KG.heap (K.heap h.h2 id) (fun hb=>by have:=(hoff _ hb).1;omega),?_,fun hn b off e=>?_,(h.K.trans K).grown hg (fun k hk=>.inr (by have:=(hoff k hk).1;omega))⟩
 ·intro y hy
  rcases List.mem_append.1 hy with hy | hy
  ·exact key _ _ ((h.items y hy).keep0 K)
  ·rw [List.mem_singleton.1 hy]
   exact key _ p (hd.mono (fun b _ hb=>⟨by omega,fun e=>by have:=(hoff b e).2.1;omega⟩))
 ·exact (h.num.keep0 K).keep KG (fun hn b off e hb=>hT b hb ((h.typ hn b off e).keep K id))
 ·exact ((h.typ hn b off e).keep K id).keep KG (fun hb=>hT b hb ((h.typ hn b off e).keep K id))
theorem CpS.out {W:World} {r:Raw} {A1:Option Addr} {n1 cp1:Nat} {B:Option Addr} {m cap i:Nat} {xs:List (Raw × PV)} {R:Option Addr} {rc:Nat} {wr:World} (h:CpS W r A1 n1 cp1 B m cap i xs R rc wr) (hi:r.l.length=i) (hbig:i * 88<=140737488351232):bR (fun b=>W.heap.size+2<=b) wr r ⟨A1,n1,cp1,R,i,rc⟩:=by
 subst hi
 have hx:xs.map Prod.fst=r.l:=by rw [h.cnt,List.take_length]
 have hlen:xs.length=r.l.length:=by rw [<- hx,List.length_map]
 have hget:∀ i (hi:i<r.l.length),r.l[i]=(xs[i]'(by omega)).1:=fun i hi=>by
  have:(xs.map Prod.fst)[i]'(by rw [List.length_map];omega)=r.l[i]:=by simp only [hx]
  rw [<- this,List.getElem_map]
 refine .mk h.num h.typ rfl (fa h.own) hbig (fun i=>(xs.getD i (.nil,PV.none)).2) (fun hm=>?_) ?_
 ·obtain ⟨g,rfl,hg⟩:=rH h.own hm
  refine ⟨g,0,rfl,hg,fun i hi=>?_⟩
  have hi2:i<xs.length:=by omega
  have:=rI h.own hi2
  rw [hget i hi,gD,gE hi2]
  exact this
 ·intro i hi
  have hi2:i<xs.length:=by omega
  rw [hget i hi,gD,gE hi2]
  exact (h.items _ (List.getElem_mem hi2)).mono (fun b _ hb=>hb.1)
theorem nK (r:Raw) (A:Option Addr) (n cp:Nat) (g o:Nat) (m cap:Nat) (vs:Nat->PV) (w W:World) (HW:Hid (K0 w W)) (HN:Hid (aq W A n cp r.mag)) (HLEN:Hid (r.l.length=m)) (hcap:m<=cap) (hbig:m * 88<=140737488351232) (HROW:Hid (∀ i (h:i<r.l.length),cV w g o i r.l[i] (vs i))) (IH:Hid (∀ i (h:i<r.l.length) (W':World),K0 w W'->Calls Tryz.prog 131 #[rawV r.l[i] (vs i)] W' (b8 r.l[i] W'))):Calls Tryz.prog 131 #[.agg (rwC r.k r.c r.neg A n cp r.t (some ⟨g,o,none⟩) m cap)] W (b8 r W):=by
 obtain ⟨i27,h27,hz0,hz1,hz2⟩:=info_parts kj
 have HB1:=hid (show ((W.alloc (.cells (rwC r.k r.c r.neg A n cp r.t (some ⟨g,o,none⟩) m cap) 27)).alloc (.cells (rwC 0 0 false none 0 0 ⟨#[]⟩ none 0 0) 27)).heap[W.heap.size]? = some (.cells (rwC r.k r.c r.neg A n cp r.t (some ⟨g,o,none⟩) m cap) 27 (0,0)) from cw (hN W _) _)
 have HB2:=hid (show ((W.alloc (.cells (rwC r.k r.c r.neg A n cp r.t (some ⟨g,o,none⟩) m cap) 27)).alloc (.cells (rwC 0 0 false none 0 0 ⟨#[]⟩ none 0 0) 27)).heap[W.heap.size+1]? = some (.cells (rwC 0 0 false none 0 0 ⟨#[]⟩ none 0 0) 27 (0,0)) from by have:=hN (W.alloc (.cells (rwC r.k r.c r.neg A n cp r.t (some ⟨g,o,none⟩) m cap) 27)) (.cells (rwC 0 0 false none 0 0 ⟨#[]⟩ none 0 0) 27);rwa [World.size_alloc] at this)
 have HK1:=hid (show K0 W ((W.alloc (.cells (rwC r.k r.c r.neg A n cp r.t (some ⟨g,o,none⟩) m cap) 27)).alloc (.cells (rwC 0 0 false none 0 0 ⟨#[]⟩ none 0 0) 27)) from (kR.alloc _).alloc _)
 obtain ⟨⟨a0,a1,a2,a3,a4,a5⟩,_⟩:=ae HB1.out
 go_enter Tryz.func131,Tryz.ntmps131
 go_wp2_with fail
 refine (eQ A n cp r.mag _ (HN.out.keep0 HK1.out)).mono ?_
 rintro e w2 ⟨A1,n1,cp1,rfl,hown,k2⟩
 have HB12:=hid (k2.heap HB1.out id)
 have HB22:=hid (k2.heap HB2.out id)
 have hlt:=az HB2.out
 have KS:ah (fun b=>b=W.heap.size) w2 (w2.setCell ⟨W.heap.size,3,none⟩ (.slice A1 n1 cp1)):=ah.setCell (S:=fun b=>b=W.heap.size) (p:=⟨W.heap.size,3,none⟩) kR (.inl rfl) _
 have hfr:=hown.fresh
 have h126:0<n1->∀ b off,A1=some ⟨b,off,none⟩->iK w2 b:=by
  rintro hn b off rfl
  rcases hown.2 with ⟨hv,h0⟩ | ⟨g,cap,cur,hv,hg,hh,h1,h2⟩
  ·omega
  ·injection hv with e1 _ _
   injection e1 with e1
   injection e1 with e1
   subst e1
   exact ⟨cur,hh⟩
 have hl1:aq w2 A1 n1 cp1 r.mag:=hown.toLimbs HN.out.low (by have:=hown.len;have:=HN.out.len;have:=HN.out.max;omega)
 have HST:=hid (show CpS W r A1 n1 cp1 (some ⟨g,o,none⟩) m cap 0 [] none 0 (w2.setCell ⟨W.heap.size,3,none⟩ (.slice A1 n1 cp1)) from ⟨rfl,Nat.zero_le _,⟨rfl,.inl ⟨rfl,rfl⟩⟩,fun y hy=>absurd hy (by simp),by simp [World.setCell,Array.getElem?_modify,HB12.out],KS.heap HB22.out (by omega),hl1.keep KS (fun hn b off e hb=>by have:=(hfr b off e).1;omega),fun hn b off e=>(h126 hn b off e).keep KS (fun hb=>by have:=(hfr b off e).1;omega),(HK1.out.trans k2).into KS (by rintro b rfl;exact Nat.le_refl _)⟩)
 obtain ⟨⟨z0,z1,z2,z3,z4,z5⟩,y0,y1,y2,y3,y4,y5⟩:=ae HB12.out
 clear hown k2 hlt KS hfr h126 hl1 a0 a1 a2 a3 a4 a5
 try dsimp only
 go_wp2_with fail
 clear z0 z1 z2 z3 z4 z5 y0 y1 y2 y3 y4 y5
 generalize w2.setCell ⟨W.heap.size,3,none⟩ (.slice A1 n1 cp1)=w3 at *
 go_loopw [3,15] (fun lv iv wr=>∃ (i rc:Nat) (xs:List (Raw × PV)) (R:Option Addr),lv=.slice R i rc/\iv=.int .i64 (i:Int)/\CpS W r A1 n1 cp1 (some ⟨g,o,none⟩) m cap i xs R rc wr) (fun _ iv _=>m - (intOf iv).toNat)
 case atStart=>exact ⟨0,0,[],none,rfl,rfl,HST.out⟩
 case round=>
  obtain ⟨i,rc,xs,R,rfl,rfl,hst⟩:=hrel
  have HS:=hid hst
  have hrc:=fa hst.own
  clear hst HST
  by_cases hlt:i<m
  ·skip
   have l1:decide ((i:Int)<(m:Int))=true:=dT (by omega)
   have l2:decide (i<m)=true:=dT hlt
   have hi:i<r.l.length:=by rw [HLEN.out];exact hlt
   obtain ⟨y,hy⟩:∃ y,y=r.l[i]:=⟨_,rfl⟩
   obtain ⟨v,hv⟩:∃ v,v=vs i:=⟨_,rfl⟩
   have hic:=(HROW.out i hi).keep (HW.out.trans HS.out.K) id
   rw [<- hy,<- hv] at hic
   obtain ⟨r0,r1,r2,r3,r4,r5⟩:=hic.cells
   have HIH:=hid (fun (W':World) (K:K0 wr W')=>(show Calls Tryz.prog 131 #[rawV y v] W' (b8 y W') from by rw [hy,hv];exact IH.out i hi W' ((HW.out.trans HS.out.K).trans K)))
   have HY:=hid hy
   have hi0:(0:Int)<=(i:Int):=Int.natCast_nonneg _
   have hi1:(i:Int)<(m:Int):=by omega
   obtain ⟨⟨c0,c1,c2,c3,c4,c5⟩,_⟩:=ae (hN wr (.cells (rwC y.k y.c y.neg v.A v.n v.cp y.t v.B v.m v.cap) 27))
   clear hic hy hv
   go_wp2_with fail
   refine (HIH.out _ (kR.alloc _)).mono ?_
   rintro e w4 ⟨v2,rfl,hd2,k4⟩
   have K6:=hid ((((ah.refl (fun _=>False) wr).alloc (.cells (rwC y.k y.c y.neg v.A v.n v.cp y.t v.B v.m v.cap) 27)).trans k4).alloc (.cells (rwC y.k y.c y.neg v2.A v2.n v2.cp y.t v2.B v2.m v2.cap) 27))
   have HOWN:=hid (gQ HS.out.own K6.out (fun _ _=>id))
   have HNEW:=hid (lZ (hN w4 (.cells (rwC y.k y.c y.neg v2.A v2.n v2.cp y.t v2.B v2.m v2.cap) 27)))
   have HBASE:=hid (show W.heap.size+2<=(w4.alloc (.cells (rwC y.k y.c y.neg v2.A v2.n v2.cp y.t v2.B v2.m v2.cap) 27)).heap.size from by have:=K6.out.size;have:=az HS.out.h2;omega)
   have HD6:=hid (show bR (fun b=>wr.heap.size<=b) (w4.alloc (.cells (rwC y.k y.c y.neg v2.A v2.n v2.cp y.t v2.B v2.m v2.cap) 27)) y v2 from (hd2.keep0 (kR.alloc _)).mono (fun b _ hb=>by simp at hb;omega))
   clear hd2 k4 r0 r1 r2 r3 r4 r5 c0 c1 c2 c3 c4 c5
   have hrow27:(i+1) * 88<=140737488355328:=by omega
   try dsimp only
   go_wp2_with (at_builtin;refine wpList_append_own_at _ rfl (.tmp 19) (.tmp 22) 25 rfl (W.heap.size+2) 27 i27 (.agg (rwC 0 0 false none 0 0 ⟨#[]⟩ none 0 0)) 6 88 Tryz.underlying25 h27 hz0 hz1 hz2 rfl (by decide) _ _ _ rfl HOWN.out ⟨w4.heap.size,0,none⟩ 1 1 [.int .i64 y.k,.int .i32 y.c,.bool y.neg,.slice v2.A v2.n v2.cp,.string y.t,.slice v2.B v2.m v2.cap] rfl rfl HNEW.out ?a1 ?a2 ?a3 HBASE.out ?_)
   case a1=>intro u hu;simp only [List.mem_cons,List.not_mem_nil,or_false] at hu;rcases hu with rfl | rfl | rfl | rfl | rfl | rfl<;>rfl
   case a2=>unfold maxLen;omega
   case a3=>omega
   intro v' w6 hown hgrow _ hblk
   obtain ⟨A3,c3,rfl,HM⟩:=HS.out.item hi K6.out (by rw [<- HY.out];exact HD6.out) (by rw [<- HY.out];exact hown) hgrow (by rw [World.size_alloc];exact hblk)
   have HMM:=hid HM
   clear hown hgrow HM hblk hrow27
   go_wp2_with fail
   go_roundw
   case rel=>exact ⟨i+1,c3,_,A3,rfl,by go_num,HMM.out⟩
   case measure=>simp only [intOf];omega
  ·skip
   have l1:decide ((i:Int)<(m:Int))=false:=dF (by omega)
   have l2:decide (i<m)=false:=dF (by omega)
   have him:i=m:=by have:=HS.out.le;have:=HLEN.out;omega
   subst him
   have hsz:=HLEN.out
   have HB1:=hid HS.out.h1
   have KS:ah (fun b=>b=W.heap.size) wr (wr.setCell ⟨W.heap.size,5,none⟩ (.slice R i rc)):=ah.setCell (S:=fun b=>b=W.heap.size) (p:=⟨W.heap.size,5,none⟩) kR (.inl rfl) _
   obtain ⟨⟨z0,z1,z2,z3,z4,z5⟩,y0,y1,y2,y3,y4,y5⟩:=ae HS.out.h1
   obtain ⟨⟨b0,b1,b2,b3,b4,b5⟩,f0,f1,f2,f3,f4,f5⟩:=ae HS.out.h2
   have HB2s:=hid (KS.heap HS.out.h2 (by omega))
   have HD:=hid (HS.out.out hsz hbig)
   have HKE:=hid (HS.out.K.into KS (by rintro b rfl;exact Nat.le_refl _))
   have HE:=hid (eS HKE.out (show W.heap.size<=W.heap.size+1 by omega) (.int .i64 r.k) (.int .i32 r.c) (.bool r.neg) (.slice A1 n1 cp1) (.string r.t) (.slice R i rc))
   have HR:=hid (ae (dR HB2s.out (.int .i64 r.k) (.int .i32 r.c) (.bool r.neg) (.slice A1 n1 cp1) (.string r.t) (.slice R i rc))).1
   have HKS:=hid KS
   clear KS hsz
   go_wp2_with fail
   refine bodyPost_ret (v:=.agg (rwC r.k r.c r.neg A1 n1 cp1 r.t R i rc)) ?_ rfl ?_
   ·obtain ⟨e0,e1,e2,e3,e4,e5⟩:=HR.out
    simp [results,Tryz.results131,go_sem,e0,e1,e2,e3,e4,e5]
   ·refine ⟨⟨A1,n1,cp1,R,i,rc⟩,rfl,?_,HE.out⟩
    refine ((HD.out.keep HKS.out ?_).keep (cF _ _ (.int .i64 r.k) (.int .i32 r.c) (.bool r.neg) (.slice A1 n1 cp1) (.string r.t) (.slice R i rc)) ?_).mono (fun b _ hb=>by omega)
    ·rintro b rfl
     exact ⟨by omega,bI HB1.out (by decide)⟩
    ·rintro b rfl
     exact ⟨by omega,bI HB2s.out (by decide)⟩
theorem nL (r:Raw) (A:Option Addr) (n cp:Nat) (B:Option Addr) (m cap:Nat) (_vs:Nat->PV) (w W:World) (_HW:Hid (K0 w W)) (HN:Hid (aq W A n cp r.mag)) (HLEN:Hid (r.l.length=m)) (hcap:m<=cap) (hbig:m * 88<=140737488351232) (hm:m=0):Calls Tryz.prog 131 #[.agg (rwC r.k r.c r.neg A n cp r.t B m cap)] W (b8 r W):=by
 have HM0:=hid hm
 clear hm
 have HB1:=hid (show ((W.alloc (.cells (rwC r.k r.c r.neg A n cp r.t B m cap) 27)).alloc (.cells (rwC 0 0 false none 0 0 ⟨#[]⟩ none 0 0) 27)).heap[W.heap.size]? = some (.cells (rwC r.k r.c r.neg A n cp r.t B m cap) 27 (0,0)) from cw (hN W _) _)
 have HB2:=hid (show ((W.alloc (.cells (rwC r.k r.c r.neg A n cp r.t B m cap) 27)).alloc (.cells (rwC 0 0 false none 0 0 ⟨#[]⟩ none 0 0) 27)).heap[W.heap.size+1]? = some (.cells (rwC 0 0 false none 0 0 ⟨#[]⟩ none 0 0) 27 (0,0)) from by have:=hN (W.alloc (.cells (rwC r.k r.c r.neg A n cp r.t B m cap) 27)) (.cells (rwC 0 0 false none 0 0 ⟨#[]⟩ none 0 0) 27);rwa [World.size_alloc] at this)
 have HK1:=hid (show K0 W ((W.alloc (.cells (rwC r.k r.c r.neg A n cp r.t B m cap) 27)).alloc (.cells (rwC 0 0 false none 0 0 ⟨#[]⟩ none 0 0) 27)) from (kR.alloc _).alloc _)
 obtain ⟨⟨a0,a1,a2,a3,a4,a5⟩,_⟩:=ae HB1.out
 go_enter Tryz.func131,Tryz.ntmps131
 go_wp2_with fail
 refine (eQ A n cp r.mag _ (HN.out.keep0 HK1.out)).mono ?_
 rintro e w2 ⟨A1,n1,cp1,rfl,hown,k2⟩
 have HB12:=hid (k2.heap HB1.out id)
 have HB22:=hid (k2.heap HB2.out id)
 have hlt:=az HB2.out
 have KS:ah (fun b=>b=W.heap.size) w2 (w2.setCell ⟨W.heap.size,3,none⟩ (.slice A1 n1 cp1)):=ah.setCell (S:=fun b=>b=W.heap.size) (p:=⟨W.heap.size,3,none⟩) kR (.inl rfl) _
 have hfr:=hown.fresh
 have h126:0<n1->∀ b off,A1=some ⟨b,off,none⟩->iK w2 b:=by
  rintro hn b off rfl
  rcases hown.2 with ⟨hv,h0⟩ | ⟨g,cap,cur,hv,hg,hh,h1,h2⟩
  ·omega
  ·injection hv with e1 _ _
   injection e1 with e1
   injection e1 with e1
   subst e1
   exact ⟨cur,hh⟩
 have hl1:aq w2 A1 n1 cp1 r.mag:=hown.toLimbs HN.out.low (by have:=hown.len;have:=HN.out.len;have:=HN.out.max;omega)
 have HST:=hid (show CpS W r A1 n1 cp1 B m cap 0 [] none 0 (w2.setCell ⟨W.heap.size,3,none⟩ (.slice A1 n1 cp1)) from ⟨rfl,Nat.zero_le _,⟨rfl,.inl ⟨rfl,rfl⟩⟩,fun y hy=>absurd hy (by simp),by simp [World.setCell,Array.getElem?_modify,HB12.out],KS.heap HB22.out (by omega),hl1.keep KS (fun hn b off e hb=>by have:=(hfr b off e).1;omega),fun hn b off e=>(h126 hn b off e).keep KS (fun hb=>by have:=(hfr b off e).1;omega),(HK1.out.trans k2).into KS (by rintro b rfl;exact Nat.le_refl _)⟩)
 obtain ⟨⟨z0,z1,z2,z3,z4,z5⟩,y0,y1,y2,y3,y4,y5⟩:=ae HB12.out
 clear hown k2 hlt KS hfr h126 hl1 a0 a1 a2 a3 a4 a5
 try dsimp only
 go_wp2_with fail
 clear z0 z1 z2 z3 z4 z5 y0 y1 y2 y3 y4 y5
 generalize w2.setCell ⟨W.heap.size,3,none⟩ (.slice A1 n1 cp1)=w3 at *
 go_loopw [3,15] (fun lv iv wr=>∃ (i rc:Nat) (xs:List (Raw × PV)) (R:Option Addr),lv=.slice R i rc/\iv=.int .i64 (i:Int)/\CpS W r A1 n1 cp1 B m cap i xs R rc wr) (fun _ iv _=>m - (intOf iv).toNat)
 case atStart=>exact ⟨0,0,[],none,rfl,rfl,HST.out⟩
 case round=>
  obtain ⟨i,rc,xs,R,rfl,rfl,hst⟩:=hrel
  have HS:=hid hst
  have hrc:=fa hst.own
  clear hst HST
  by_cases hlt:i<m
  ·have:=HM0.out
   omega
  ·skip
   have l1:decide ((i:Int)<(m:Int))=false:=dF (by omega)
   have l2:decide (i<m)=false:=dF (by omega)
   have him:i=m:=by have:=HS.out.le;have:=HLEN.out;omega
   subst him
   have hsz:=HLEN.out
   have HB1:=hid HS.out.h1
   have KS:ah (fun b=>b=W.heap.size) wr (wr.setCell ⟨W.heap.size,5,none⟩ (.slice R i rc)):=ah.setCell (S:=fun b=>b=W.heap.size) (p:=⟨W.heap.size,5,none⟩) kR (.inl rfl) _
   obtain ⟨⟨z0,z1,z2,z3,z4,z5⟩,y0,y1,y2,y3,y4,y5⟩:=ae HS.out.h1
   obtain ⟨⟨b0,b1,b2,b3,b4,b5⟩,f0,f1,f2,f3,f4,f5⟩:=ae HS.out.h2
   have HB2s:=hid (KS.heap HS.out.h2 (by omega))
   have HD:=hid (HS.out.out hsz hbig)
   have HKE:=hid (HS.out.K.into KS (by rintro b rfl;exact Nat.le_refl _))
   have HE:=hid (eS HKE.out (show W.heap.size<=W.heap.size+1 by omega) (.int .i64 r.k) (.int .i32 r.c) (.bool r.neg) (.slice A1 n1 cp1) (.string r.t) (.slice R i rc))
   have HR:=hid (ae (dR HB2s.out (.int .i64 r.k) (.int .i32 r.c) (.bool r.neg) (.slice A1 n1 cp1) (.string r.t) (.slice R i rc))).1
   have HKS:=hid KS
   clear KS hsz
   go_wp2_with fail
   refine bodyPost_ret (v:=.agg (rwC r.k r.c r.neg A1 n1 cp1 r.t R i rc)) ?_ rfl ?_
   ·obtain ⟨e0,e1,e2,e3,e4,e5⟩:=HR.out
    simp [results,Tryz.results131,go_sem,e0,e1,e2,e3,e4,e5]
   ·refine ⟨⟨A1,n1,cp1,R,i,rc⟩,rfl,?_,HE.out⟩
    refine ((HD.out.keep HKS.out ?_).keep (cF _ _ (.int .i64 r.k) (.int .i32 r.c) (.bool r.neg) (.slice A1 n1 cp1) (.string r.t) (.slice R i rc)) ?_).mono (fun b _ hb=>by omega)
    ·rintro b rfl
     exact ⟨by omega,bI HB1.out (by decide)⟩
    ·rintro b rfl
     exact ⟨by omega,bI HB2s.out (by decide)⟩
theorem pu {N P:Nat->Prop} {w:World} {r:Raw} {p:PV} (h:ay N P w r p):∀ W:World,K0 w W->Calls Tryz.prog 131 #[rawV r p] W (b8 r W):=by
 induction h with
 | @mk r p num nP len mcap big vs row ch ih=>
  intro W hW
  obtain ⟨A,n,cp,B,m,cap⟩:=p
  rcases Nat.eq_zero_or_pos m with hm | hm
  ·exact nL r A n cp B m cap vs w W (hid hW) (hid (num.keep0 hW)) (hid len) mcap big hm
  ·obtain ⟨g,o,e,_,hrow⟩:=row hm
   have e:B=some ⟨g,o,none⟩:=e
   subst e
   exact nK r A n cp g o m cap vs w W (hid hW) (hid (num.keep0 hW)) (hid len) mcap big (hid hrow) (hid (fun i h W' K=>ih i h W' K))
end Go.Proofs.YtonnikipeokkaaaGreatDoor
