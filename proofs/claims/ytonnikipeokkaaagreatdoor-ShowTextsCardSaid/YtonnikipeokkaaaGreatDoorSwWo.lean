/-
  A datum that came in.
-/
import Derived.Test.YtonnikipeokkaaaGreatDoorSwT
import Derived.Deep.Slices
import Derived.Deep.Fields
namespace Go.Proofs.YtonnikipeokkaaaGreatDoor
set_option maxRecDepth 100000
open Go.Lib (hid)
open Go.ChangeShapes Go.WideShapes Go.ChangeAt Go.RowKit Go.Joins Go.Deep
theorem pS:Tryz.prog.cellsOf 27=6:=by kernel_rfl
theorem wj:Tryz.prog.cellsOf 24=2:=by kernel_rfl
theorem uH:Tryz.prog.cellsOf 126=1:=by kernel_rfl
theorem xw:Tryz.prog.cellsOf 3=1/\Tryz.prog.cellsOf 21=1/\Tryz.prog.cellsOf 9=1/\Tryz.prog.cellsOf 25=1/\Tryz.prog.cellsOf 4=1/\Tryz.prog.cellsOf 22=1:=⟨by kernel_rfl,by kernel_rfl,by kernel_rfl,by kernel_rfl,by kernel_rfl,by kernel_rfl⟩
theorem yq {l:List Value} (h:l.length=6):∃ a b c d e f,l=[a,b,c,d,e,f]:=by
 match l,h with
 | [a,b,c,d,e,f],_=>exact ⟨a,b,c,d,e,f,rfl⟩
theorem kf {w:World} {a:Addr} {len cap:Nat} {zs:List Int} (hl:len<=cap) (hlen:len<=zs.length) (hc:∀ i,i<zs.length->w.cell? (a.add i)=some (.int .u32 (zs.getD i 0))) (hw:∀ n ∈ zs,(Lit.int .u32 n).wf=true) (hm:len<=maxLen) :
 ∃ l,pH w (some a) len cap l:=by
 have wf:∀ z ∈ zs,0<=z/\z<=4294967295:=by
  intro z hz
  have:=hw z hz
  simp [Lit.wf,IntKind.min,IntKind.max,IntKind.signed,IntKind.bits] at this
  omega
 refine ⟨(zs.take len).map Int.toNat,⟨by simp;omega,fun j hj=>?_⟩,?_,hl,hm⟩
 ·obtain ⟨b,off,rfl,hcell⟩:=ints_at hc (by omega)
  have h1:=hcell j (by omega)
  refine ⟨b,off,rfl,bL w _ h1,?_⟩
  rw [h1]
  have hj2:j<zs.length:=by omega
  have:=wf (zs[j]) (List.getElem_mem hj2)
  have e1:zs.getD j 0=zs[j]:=by simp [gD,gE hj2]
  have e2:((zs.take len).map Int.toNat).getD j 0=(zs[j]).toNat:=by
   rw [gD,List.getElem?_map,List.getElem?_take,if_pos hj,gE hj2]
   rfl
  rw [e1,e2]
  congr 2
  omega
 ·intro x hx
  obtain ⟨z,hz,rfl⟩:=List.mem_map.1 hx
  have:=wf z (List.mem_of_mem_take hz)
  unfold BB
  omega
section
variable {H:Type} {enc:TypeId × Value->H} {w:World} {spare:Nat->Bool} {held:Bool}
theorem tY {fuel:Nat} {v:Value} {x:DataW H × List MemPlace} (h:DataW.trod enc Tryz.prog w 0 spare held fuel 22 [v]=some x):∃ (A:Option Addr) (n c:Nat) (l:List Nat),v=.slice A n c/\pH w A n c l:=by
 rcases open_ints Tryz.underlying22 Tryz.underlying126 uH h with ⟨e1,_⟩ | ⟨a,len,cap,zs,e1,_,hl,hm,hz,_,hc,hw⟩
 ·simp only [List.cons.injEq,and_true] at e1
  exact ⟨none,0,0,[],e1,⟨cT.nil _ _ _,Low.nil _,Nat.le_refl _,Nat.zero_le _⟩⟩
 ·simp only [List.cons.injEq,and_true] at e1
  obtain ⟨l,hL⟩:=kf (w:=w) hl (by rw [hz];split<;>omega) hc hw (Nat.le_trans hl hm)
  exact ⟨some a,len,cap,l,e1,hL⟩
theorem ll:∀ (m fuel:Nat),fuel<=m->∀ (cs:List Value) (x:DataW H × List MemPlace),DataW.trod enc Tryz.prog w 0 spare held fuel 27 cs=some x->∃ r p,cs=(cL r p).toList/\RawX w r p
 | 0,fuel,hm,cs,x,h=>by
  obtain rfl:fuel=0:=by omega
  simp [DataW.trod] at h
 | m+1,fuel,hm,cs,x,h=>by
  obtain ⟨ys,n,rfl,_,hlen,hys,hf⟩:=DataW.trod_struct Tryz.underlying27 h
  rw [pS] at hlen
  obtain ⟨c0,c1,c2,c3,c4,c5,rfl⟩:=yq hlen
  obtain ⟨k3,k21,k9,k25,k4,k22⟩:=xw
  have key:∀ (i:Nat),i<5->∃ y,ys[i]? = some y:=fun i hi=>⟨_,gE (by rw [hys];exact hi)⟩
  obtain ⟨y0,e0⟩:=key 0 (by decide)
  obtain ⟨y1,e1⟩:=key 1 (by decide)
  obtain ⟨y2,e2⟩:=key 2 (by decide)
  obtain ⟨y3,e3⟩:=key 3 (by decide)
  obtain ⟨y4,e4⟩:=key 4 (by decide)
  have f0:DataW.trod enc Tryz.prog w 0 spare held n 3 [c0]=some y0:=by
   have q:DataW.trod enc Tryz.prog w 0 spare held n 3 (([c0,c1,c2,c3,c4,c5].drop 0).take (Tryz.prog.cellsOf 3))=ys[0]?:=hf 0 _ rfl
   rw [k3,e0] at q
   exact q
  have f1:DataW.trod enc Tryz.prog w 0 spare held n 21 [c1]=some y1:=by
   have q:DataW.trod enc Tryz.prog w 0 spare held n 21 (([c0,c1,c2,c3,c4,c5].drop 1).take (Tryz.prog.cellsOf 21))=ys[1]?:=hf 1 _ rfl
   rw [k21,e1] at q
   exact q
  have f2:DataW.trod enc Tryz.prog w 0 spare held n 24 [c2,c3]=some y2:=by
   have q:DataW.trod enc Tryz.prog w 0 spare held n 24 (([c0,c1,c2,c3,c4,c5].drop 2).take (Tryz.prog.cellsOf 24))=ys[2]?:=hf 2 _ rfl
   rw [wj,e2] at q
   exact q
  have f3:DataW.trod enc Tryz.prog w 0 spare held n 9 [c4]=some y3:=by
   have q:DataW.trod enc Tryz.prog w 0 spare held n 9 (([c0,c1,c2,c3,c4,c5].drop 4).take (Tryz.prog.cellsOf 9))=ys[3]?:=hf 3 _ rfl
   rw [k9,e3] at q
   exact q
  have f4:DataW.trod enc Tryz.prog w 0 spare held n 25 [c5]=some y4:=by
   have q:DataW.trod enc Tryz.prog w 0 spare held n 25 (([c0,c1,c2,c3,c4,c5].drop 5).take (Tryz.prog.cellsOf 25))=ys[4]?:=hf 4 _ rfl
   rw [k25,e4] at q
   exact q
  obtain ⟨kk,ek,_⟩:=DataW.trod_int Tryz.underlying3 f0
  obtain ⟨cc,ec,_⟩:=DataW.trod_int Tryz.underlying21 f1
  simp only [List.cons.injEq,and_true] at ek ec
  subst ek ec
  obtain ⟨z0,z1,n2,_,_,g0,g1⟩:=trod_struct2 Tryz.underlying24 f2
  have g0':DataW.trod enc Tryz.prog w 0 spare held n2 4 [c2]=some z0:=by
   have q:DataW.trod enc Tryz.prog w 0 spare held n2 4 (([c2,c3].drop 0).take (Tryz.prog.cellsOf 4))=some z0:=g0
   rw [k4] at q
   exact q
  have g1':DataW.trod enc Tryz.prog w 0 spare held n2 22 [c3]=some z1:=by
   have q:DataW.trod enc Tryz.prog w 0 spare held n2 22 (([c2,c3].drop 1).take (Tryz.prog.cellsOf 22))=some z1:=g1
   rw [k22] at q
   exact q
  obtain ⟨ng,eg,_⟩:=DataW.trod_bool Tryz.underlying4 g0'
  simp only [List.cons.injEq,and_true] at eg
  subst eg
  obtain ⟨A,na,ca,mag,rfl,hL⟩:=tY g1'
  obtain ⟨t,et,_⟩:=DataW.trod_string Tryz.underlying9 f3
  simp only [List.cons.injEq,and_true] at et
  subst et
  rcases DataW.trod_slice Tryz.underlying25 f4 with ⟨es,_⟩ | ⟨a,len,cap,elems,rest,n',rfl,es,_,_,hl,hcm,_,hel,_,_⟩
  ·simp only [List.cons.injEq,and_true] at es
   subst es
   exact ⟨.mk kk cc ng mag t [],⟨A,na,ca,none,0,0⟩,rfl,.mk hL rfl (Nat.le_refl _) (Nat.zero_le _) (fun _=>PV.none) (fun h=>absurd h (Nat.lt_irrefl _)) (fun _ h=>absurd h (Nat.not_lt_zero _))⟩
  ·simp only [List.cons.injEq,and_true] at es
   subst es
   have each:∀ i,i<len->∃ (cs':List Value) (x':DataW H × List MemPlace),w.cells? 0 (a.add (i * 6)) 6=some cs'/\DataW.trod enc Tryz.prog w 0 spare held n' 27 cs'=some x':=by
    intro i hi
    have q:=hel i hi
    rw [pS] at q
    have hi2:i<elems.length:=by omega
    rw [gE hi2] at q
    obtain ⟨cs',h1,h2⟩:=Option.bind_eq_some_iff.1 q
    exact ⟨cs',_,h1,h2⟩
   have one:∀ i,i<len->∃ q:Raw × PV,RawX w q.1 q.2 /\ ∀ f u,(cL q.1 q.2)[f]? = some u->w.cell? ((a.add (i * 6)).add f)=some u:=by
    intro i hi
    obtain ⟨cs',x',h1,h2⟩:=each i hi
    obtain ⟨r,p,e,hx⟩:=ll m n' (by omega) cs' x' h2
    obtain ⟨_,hl6,hat⟩:=World.cells?_some h1
    refine ⟨⟨r,p⟩,hx,fun f u hu=>?_⟩
    have hf6:f<6:=by
     rcases Nat.lt_or_ge f 6 with h | h
     ·exact h
     ·rw [Array.getElem?_eq_none (by show 6<=f;exact h)] at hu
      cases hu
    rw [hat f hf6,e,Array.getElem?_toList,hu]
   have hs:0<len->a.spot=none:=fun h0=>by
    obtain ⟨cs',x',h1,h2⟩:=each 0 h0
    obtain ⟨_,hl6,hat⟩:=World.cells?_some h1
    have h3:=hat 0 (by decide)
    rw [Nat.zero_mul] at h3
    exact World.cell?_spot (h3.trans (gE (by omega)))
   refine ⟨.mk kk cc ng mag t ((List.range len).map fun i=>if h:i<len then (one i h).choose.1 else .nil),⟨A,na,ca,some a,len,cap⟩,rfl,
    .mk hL (by simp only [Raw.l,List.length_map,List.length_range]) hl (Nat.le_trans hl hcm) (fun i=>if h:i<len then (one i h).choose.2 else PV.none) (fun h0=>?_) (fun i hi=>?_)⟩
   ·obtain ⟨bb,off,sp⟩:=a
    have hs0:=hs h0
    simp only at hs0
    subst hs0
    refine ⟨bb,off,rfl,fun i hi f u hu=>?_⟩
    have hi':i<len:=by simpa only [Raw.l,List.length_map,List.length_range] using hi
    have hq:=(one i hi').choose_spec.2 f u
    simp only [Raw.l,List.getElem_map,List.getElem_range,dif_pos hi'] at hu
    have:=hq hu
    rwa [Addr.add_mid,Addr.add_mid] at this
   ·have hi':i<len:=by simpa only [Raw.l,List.length_map,List.length_range] using hi
    simp only [Raw.l,List.getElem_map,List.getElem_range,dif_pos hi']
    exact (one i hi').choose_spec.1
theorem open_raw {r:Reach} {b0:Nat} {v:Value} {d:DataW H} {ps:List MemPlace} (hv:Value.okWide Tryz.prog w r b0 27 v) (h:DataW.Trod enc Tryz.prog w 0 spare held 27 v d ps):∃ x p,v=rawV x p/\RawX w x p:=by
 obtain ⟨cs,rfl,_⟩:=okWide_struct Tryz.underlying27 hv
 obtain ⟨fuel,hf⟩:=h
 obtain ⟨x,p,e,hx⟩:=ll fuel fuel (Nat.le_refl _) _ _ hf
 refine ⟨x,p,?_,hx⟩
 have e2:cs=cL x p:=Array.toList_inj.1 e
 rw [e2]
end
end Go.Proofs.YtonnikipeokkaaaGreatDoor
