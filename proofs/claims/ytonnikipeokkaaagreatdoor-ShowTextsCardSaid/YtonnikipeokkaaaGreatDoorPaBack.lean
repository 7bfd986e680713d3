/-
  datum: List (a range over slices.Backward). datum: List: the
-/
import Derived.Test.YtonnikipeokkaaaGreatDoorPaOne
import Derived.RangeFuncNested
import Derived.RangeFuncBound
import Derived.RangeFuncCalls
import Derived.RangeFuncLeaves
import Derived.RangeFuncFrom
import Derived.Shelf.Abstract
import Derived.Shelf.RegionOpen
import Derived.OwnWalkIn
import Derived.TacticsInMore
import Derived.LoopNIn
import Derived.LoopIn
import Derived.Laws.ResultCell
namespace Go.Proofs.YtonnikipeokkaaaGreatDoor
set_option maxRecDepth 100000
set_option maxHeartbeats 8000000
open Go.Lib (hid)
open Go.RowKit Go.Lib Go.Shelf
attribute [local go_sem] Oper.semAt_some
def KpL (n1 db:Nat):World->World->Prop:=ah (fun b=>n1<=b\/b=db)
def ex (n:Nat):(k:Nat)->k<=n->List (Fin n)
 | 0,_=>[]
 | k+1,h=>ex n k (by omega)++[⟨n - 1 - k,by omega⟩]
theorem lr (n:Nat):∀ (k:Nat) (h:k<=n),(ex n k h).length=k
 | 0,_=>rfl
 | k+1,h=>by rw [ex,List.length_append,lr n k];rfl
def gW (rs:List Raw) (pre:List (Fin rs.length)):Raw:=pre.foldl (fun d i=>dn rs[i] d) .nil
theorem kl (rs:List Raw):∀ (k:Nat) (h:k<=rs.length),gW rs (ex rs.length k h)=aQ (rs.drop (rs.length - k)) .nil
 | 0,_=>by rw [ex,Nat.sub_zero,List.drop_length];rfl
 | k+1,h=>by
  rw [ex]
  unfold gW
  rw [List.foldl_append]
  have:=kl rs k (by omega)
  unfold gW at this
  rw [this,List.foldl_cons,List.foldl_nil]
  have e:rs.length - (k+1)=rs.length - 1 - k:=by omega
  have e2:rs.length - k=rs.length - 1 - k+1:=by omega
  rw [e,e2,rp (show rs.length - 1 - k<rs.length by omega)]
  rfl
theorem rC (rs:List Raw):gW rs (ex rs.length rs.length (Nat.le_refl _))=aQ rs .nil:=by
 rw [kl,Nat.sub_self,List.drop_zero]
def lH (W:World) (lb:Nat) (A:Option Addr) (cap:Nat) (rs:List Raw) (vs:Nat->PV):Prop:=
 W.heap[lb]? = some (.cells #[.slice A rs.length cap] 25 (0,0))/\(0<rs.length->∃ g o,A=some ⟨g,o,none⟩ /\ ∀ i (h:i<rs.length),cV W g o i rs[i] (vs i))
theorem lH.keep {S:Nat->Prop} {W W':World} {lb:Nat} {A:Option Addr} {cap:Nat} {rs:List Raw} {vs:Nat->PV} (h:lH W lb A cap rs vs) (K:ah S W W') (hl:¬ S lb) (hg:0<rs.length->∀ g o,A=some ⟨g,o,none⟩->¬ S g):lH W' lb A cap rs vs:=by
 refine ⟨K.heap h.1 hl,fun hm=>?_⟩
 obtain ⟨g,o,e,hr⟩:=h.2 hm
 exact ⟨g,o,e,fun i hi=>(hr i hi).keep K (hg hm g o e)⟩
abbrev vZ (rs:List Raw) (vs:Nat->PV) (i:Fin rs.length):Array Value:=#[.int .i64 (i.1:Int),rawV rs[i] (vs i.1)]
theorem wo (n:Nat) (hn:1<=n) (l lb n1 db:Nat) (A:Option Addr) (cap:Nat) (rs:List Raw) (vs:Nat->PV) (hbig:rs.length<=1000000000000000) (J Jx:List (Fin rs.length)->World->Prop)
 (hlow:lb<n1/\lb ≠ db) (hA:0<rs.length->∀ g o,A=some ⟨g,o,none⟩->g<n1/\g ≠ db)
 (hY:∀ pre x W,J pre W->pre.length<rs.length->YieldAt Fence.wide (n - 1) Tryz.prog l (vZ rs vs x) W fun e W'=>
  (e=.returned (.bool true)/\J (pre++[x]) W'/\KpL n1 db W W')\/(e=.returned (.bool false)/\Jx (pre++[x]) W'))
 (W:World) (hJ:AbidesFrom W.heap.size J) (hs:lH W lb A cap rs vs) (h0:J [] W) :
 CallsIn Fence.wide n Tryz.prog 159 #[.func (.yield l) #[] #[],.pointer (some ⟨lb,0,none⟩)] W fun e W'=>(∃ v,e=.returned v) /\
  ((∃ ys,ys=ex rs.length rs.length (Nat.le_refl _)/\J ys W')\/(∃ pre:List (Fin rs.length),True/\Jx pre W')):=by
 obtain ⟨m,hm⟩:∃ m,m=rs.length:=⟨_,rfl⟩
 have HM:=hid hm
 have c0:W.cell? ⟨lb,0,none⟩=some (.slice A m cap):=by rw [cell_of_row W _ _ _ _ _ hs.1,hm];rfl
 have HS:=hid hs
 have HY:=hid hY
 have HJ:=hid hJ
 have HA:=hid hA
 have HLOW:=hid hlow
 have H0:=hid h0
 have HBIG:=hid hbig
 have hm0:(0:Int)<=(m:Int):=by omega
 have hmB:(m:Int)<=1000000000000000:=by omega
 clear hs hY hJ hA hlow h0 hm hbig
 refine callsIn_of_wp Tryz.func159 rfl trivial ?_ rfl
 simp only [Tryz.ntmps159,List.size_toArray,List.length_cons,List.length_nil,Nat.reduceAdd,Nat.reduceSub,Array.replicate_succ,Array.replicate_zero,List.push_toArray,List.append_toArray,List.nil_append,List.cons_append]
 gi_wp2
 gi_loopw [3] (fun iv wr=>∃ (k:Nat) (hk:k<=rs.length),iv=.int .i64 ((m:Int) - 1 - (k:Int))/\J (ex rs.length k hk) wr/\KpL n1 db W wr) (fun iv _=>(intOf iv+1).toNat)
 case atStart=>exact ⟨0,Nat.zero_le _,by first | rfl | go_num,H0.out,kR⟩
 case round=>
  obtain ⟨k,hk,rfl,hJs,K⟩:=hrel
  have hr:=HS.out.keep K (by rintro (h | h);exact absurd HLOW.out.1 (by omega);exact HLOW.out.2 h) (fun hm g o e=>by rintro (h | h);exact absurd (HA.out hm g o e).1 (by omega);exact (HA.out hm g o e).2 h)
  have c0r:wr.cell? ⟨lb,0,none⟩=some (.slice A m cap):=by rw [cell_of_row wr _ _ _ _ _ hr.1,HM.out];rfl
  have HK:=hid K
  have HJs:=hid hJs
  have HMM:=HM.out
  have HR:=hid hr
  by_cases hlt:k<rs.length
  ·obtain ⟨i,hi⟩:∃ i,i=rs.length - 1 - k:=⟨_,rfl⟩
   have e1:(m:Int) - 1 - (k:Int)=(i:Int):=by omega
   have hil:i<rs.length:=by omega
   have hi1:(i:Int)<(m:Int):=by omega
   obtain ⟨g,o,eA,hrw⟩:=hr.2 (by omega)
   have hic:=hrw i hil
   have hx:YieldAt Fence.wide (n - 1) Tryz.prog l (vZ rs vs ⟨i,hil⟩) wr fun e W'=>(e=.returned (.bool true)/\J (ex rs.length k hk++[⟨i,hil⟩]) W'/\KpL n1 db wr W')\/(e=.returned (.bool false)/\Jx (ex rs.length k hk++[⟨i,hil⟩]) W'):=HY.out _ ⟨i,hil⟩ _ hJs (by rw [lr];exact hlt)
   have hlast:ex rs.length (k+1) hlt=ex rs.length k hk++[⟨i,hil⟩]:=by rw [ex];congr;omega
   obtain ⟨x,hxx⟩:∃ x,x=rs[i]:=⟨_,rfl⟩
   obtain ⟨v,hv⟩:∃ v,v=vs i:=⟨_,rfl⟩
   rw [<- hxx,<- hv] at hic
   have hx2:YieldAt Fence.wide (n - 1) Tryz.prog l #[.int .i64 (i:Int),rawV x v] wr fun e W'=>(e=.returned (.bool true)/\J (ex rs.length k hk++[⟨i,hil⟩]) W'/\KpL n1 db wr W')\/(e=.returned (.bool false)/\Jx (ex rs.length k hk++[⟨i,hil⟩]) W'):=by rw [hxx,hv];exact hx
   obtain ⟨fn,tmps,assign,aZ,hy,hRR⟩:=hx2
   have HLAST:=hid hlast
   have HRR:=hid hRR
   have hi0:(0:Int)<=(i:Int):=by omega
   have l1:decide ((0:Int)<=(i:Int))=true:=dT hi0
   have HI:=hid hi
   have HE1:=hid e1
   subst eA
   obtain ⟨r0,r1,r2,r3,r4,r5⟩:=hic.cells
   rw [e1]
   clear hlast hRR hi e1 hic hrw hr K hJs hx hxx hv HMM
   gi_wp2
   refine HRR.out.mono ?_
   rintro e W3 (⟨rfl,hJ3,hk3⟩ | ⟨rfl,hJx3⟩)
   ·rw [<- HLAST.out] at hJ3
    have HJ3:=hid hJ3
    have HK3:=hid hk3
    clear hJ3 hk3
    gi_wp2
    go_roundw
    case rel=>exact ⟨k+1,hlt,by have:=HE1.out;have e2:(i:Int) - 1=(m:Int) - 1 - ((k+1:Nat):Int):=(by omega);rw [<- e2];try rfl,HJ3.out,HK.out.trans HK3.out⟩
    case measure=>simp only [intOf];omega
   ·gi_wp2
    refine bodyPost_ret (results_none rfl _ _ _) rfl ?_
    exact ⟨⟨_,rfl⟩,.inr ⟨_,trivial,hJx3⟩⟩
  ·have ek:k=rs.length:=by omega
   have e1:(m:Int) - 1 - (k:Int)=-1:=by omega
   rw [e1]
   have l1:decide ((0:Int)<=(-1:Int))=false:=by decide
   have HEK:=hid ek
   clear ek e1 hr K hJs HMM
   gi_wp2
   go_end0
   refine ⟨⟨_,rfl⟩,.inl ⟨_,rfl,?_⟩⟩
   have h1:=HJs.out
   have h2:=HEK.out
   subst h2
   exact h1
attribute [local go_sem] Oper.semAt_some
section
variable {W W':World} {row:Option Nat}
theorem cT.grown {q:IntKind} {A:Option Addr} {n:Nat} {l:List Nat} (h:cT q W A n l) (hg:W.grownBy W' row) (hr:∀ r,row=some r->∃ o:Obj,W.heap[r]? = some o/\o.isCells=false):cT q W' A n l:=
 ⟨h.1,fun j hj=>by obtain ⟨b,off,e,hb,hc⟩:=h.2 j hj;exact ⟨b,off,e,Nat.lt_of_lt_of_le hb hg.size,cell_kept hc hg hr⟩⟩
theorem aq.grown {A:Option Addr} {n c:Nat} {l:List Nat} (h:aq W A n c l) (hg:W.grownBy W' row) (hr:∀ r,row=some r->∃ o:Obj,W.heap[r]? = some o/\o.isCells=false):aq W' A n c l:=⟨h.row.grown hg hr,h.low,h.cap,h.max⟩
theorem fj {b:Nat} {X:Array Value} {T:TypeId} {fz:Nat × Nat} (h:W.heap[b]? = some (.cells X T fz)) (hg:W.grownBy W' row) (hr:∀ r,row=some r->∃ o:Obj,W.heap[r]? = some o/\o.isCells=false):W'.heap[b]? = some (.cells X T fz):=by
 refine (hg.block b (az h) (fun e=>?_)).trans h
 obtain ⟨o,ho,hc⟩:=hr b e.symm
 rw [h] at ho;injection ho with ho;subst ho;cases hc
theorem bR.grown {P:Nat->Prop} {r:Raw} {p:PV} (h:bR P W r p) (hg:W.grownBy W' row) (hr:∀ k,row=some k->∃ o:Obj,W.heap[k]? = some o/\o.isCells=false):bR P W' r p:=by
 have h2:ay (iK W) P W' r p:=by
  induction h with
  | mk num nP len mcap big vs row ch ih=>
   refine .mk (num.grown hg hr) nP len mcap big vs (fun hm=>?_) ih
   obtain ⟨b,off,e,hP,hc⟩:=row hm
   exact ⟨b,off,e,hP,fun i hi f u hu=>cell_kept (hc i hi f u hu) hg hr⟩
 exact h2.mono (fun b _ hn=>by obtain ⟨X,hX⟩:=hn;exact ⟨X,fj hX hg hr⟩) (fun _ _ hP=>hP)
end
theorem ml (A:Option Addr) (n cap:Nat) (w:World):Calls Tryz.prog 130 #[.slice A n cap] w fun e w'=>∃ lb,e=.returned (.func (.func 159) #[] #[.pointer (some ⟨lb,0,none⟩)])/\w.heap.size<=lb/\w'.heap[lb]? = some (.cells #[.slice A n cap] 25 (0,0))/\K0 w w':=by
 go_enter Tryz.func130,Tryz.ntmps130
 go_wp2_with fail
 go_ret
 exact ⟨_,rfl,Nat.le_refl _,hN w _,kR.alloc _⟩
structure LcS (w6:World) (base db:Nat) (d:Raw) (W:World):Prop where
 at_:∃ pd:PV,bR (fun b=>base<=b/\b ≠ db) W d pd/\W.heap[db]? = some (.cells (cL d pd) 27 (0,0))
 K:ah (fun b=>b=db) w6 W
theorem LcS.grown {w6 W W':World} {base db:Nat} {d:Raw} {row:Option Nat} (h:LcS w6 base db d W) (hg:W.grownBy W' row) (hr:∀ r,row=some r->w6.heap.size<=r/\∃ o:Obj,W.heap[r]? = some o/\o.isCells=false):LcS w6 base db d W':=by
 obtain ⟨⟨pd,h1,h2⟩,K⟩:=h
 exact ⟨⟨pd,bR.grown h1 hg (fun r e=>(hr r e).2),fj h2 hg (fun r e=>(hr r e).2)⟩,K.grown hg (fun k e=>.inr (hr k e).1)⟩
def AxL (rs:List Raw) (vs:Nat->PV) (n1:Nat) (a0:Nat->Fin rs.length->Act) (i:Fin rs.length) (a:Act) (W:World):Prop:=∃ xb,n1<=xb/\a=a0 xb i/\W.heap[xb]? = some (.cells (cL rs[i] (vs i.1)) 27 (0,0))
theorem iF {B:Nat} {S:Nat->Prop} {w w':World} (K:ah S w w') (hs:∀ b,S b->b<B\/∃ X T f,w.heap[b]? = some (.cells X T f)):KeepsFrom B w w':=
 ⟨K.size,fun k o hB hk ho=>K.heap hk (fun e=>by
  rcases hs k e with h | ⟨X,T,f,h⟩
  ·omega
  ·rw [h] at hk;injection hk with hk;subst hk;cases ho)⟩
theorem LcS.next {w6 W w7:World} {base db n1 B:Nat} {x d:Raw} {v2 pd:PV} (HK:ah (fun b=>b=db) w6 W) (hdat:bR (fun b=>base<=b/\b ≠ db) W d pd) (hcell:W.heap[db]? = some (.cells (cL d pd) 27 (0,0))) (k7:K0 W.drew w7) (hd7:bR (fun b=>W.drew.heap.size<=b) w7 x v2) (hb:base<=W.heap.size) :
 KeepsFrom B W ((bX w7 db (.int .i64 7) (.int .i32 0) (.bool false) (.slice none 0 0) (.string ⟨#[]⟩) (.slice (some ⟨w7.heap.size,0,none⟩) 2 2)).alloc (.cells #[.int .i64 x.k,.int .i32 x.c,.bool x.neg,.slice v2.A v2.n v2.cp,.string x.t,.slice v2.B v2.m v2.cap,.int .i64 d.k,.int .i32 d.c,.bool d.neg,.slice pd.A pd.n pd.cp,.string d.t,.slice pd.B pd.m pd.cap] 27))/\KpL n1 db W ((bX w7 db (.int .i64 7) (.int .i32 0) (.bool false) (.slice none 0 0) (.string ⟨#[]⟩) (.slice (some ⟨w7.heap.size,0,none⟩) 2 2)).alloc (.cells #[.int .i64 x.k,.int .i32 x.c,.bool x.neg,.slice v2.A v2.n v2.cp,.string x.t,.slice v2.B v2.m v2.cap,.int .i64 d.k,.int .i32 d.c,.bool d.neg,.slice pd.A pd.n pd.cp,.string d.t,.slice pd.B pd.m pd.cap] 27))/\LcS w6 base db (dn x d) ((bX w7 db (.int .i64 7) (.int .i32 0) (.bool false) (.slice none 0 0) (.string ⟨#[]⟩) (.slice (some ⟨w7.heap.size,0,none⟩) 2 2)).alloc (.cells #[.int .i64 x.k,.int .i32 x.c,.bool x.neg,.slice v2.A v2.n v2.cp,.string x.t,.slice v2.B v2.m v2.cap,.int .i64 d.k,.int .i32 d.c,.bool d.neg,.slice pd.A pd.n pd.cp,.string d.t,.slice pd.B pd.m pd.cap] 27)):=by
 have hlt:=az hcell
 have K1:K0 W w7:=(kR.drew).trans k7
 have hs:=K1.size
 have K2:ah (fun b=>b=db) W (bX w7 db (.int .i64 7) (.int .i32 0) (.bool false) (.slice none 0 0) (.string ⟨#[]⟩) (.slice (some ⟨w7.heap.size,0,none⟩) 2 2)):=(K1.mono (fun _ _ h=>h.elim)).trans (cF _ _ _ _ _ _ _ _)
 have h7:=k7.heap (show W.drew.heap[db]? = _ from hcell) id
 have K3:ah (fun b=>b=db) W ((bX w7 db (.int .i64 7) (.int .i32 0) (.bool false) (.slice none 0 0) (.string ⟨#[]⟩) (.slice (some ⟨w7.heap.size,0,none⟩) 2 2)).alloc (.cells #[.int .i64 x.k,.int .i32 x.c,.bool x.neg,.slice v2.A v2.n v2.cp,.string x.t,.slice v2.B v2.m v2.cap,.int .i64 d.k,.int .i32 d.c,.bool d.neg,.slice pd.A pd.n pd.cp,.string d.t,.slice pd.B pd.m pd.cap] 27)):=K2.alloc _
 have hsz:=sx w7 db (.int .i64 7) (.int .i32 0) (.bool false) (.slice none 0 0) (.string ⟨#[]⟩) (.slice (some ⟨w7.heap.size,0,none⟩) 2 2)
 have hnew:((bX w7 db (.int .i64 7) (.int .i32 0) (.bool false) (.slice none 0 0) (.string ⟨#[]⟩) (.slice (some ⟨w7.heap.size,0,none⟩) 2 2)).alloc (.cells #[.int .i64 x.k,.int .i32 x.c,.bool x.neg,.slice v2.A v2.n v2.cp,.string x.t,.slice v2.B v2.m v2.cap,.int .i64 d.k,.int .i32 d.c,.bool d.neg,.slice pd.A pd.n pd.cp,.string d.t,.slice pd.B pd.m pd.cap] 27)).heap[w7.heap.size]? = some (.cells #[.int .i64 x.k,.int .i32 x.c,.bool x.neg,.slice v2.A v2.n v2.cp,.string x.t,.slice v2.B v2.m v2.cap,.int .i64 d.k,.int .i32 d.c,.bool d.neg,.slice pd.A pd.n pd.cp,.string d.t,.slice pd.B pd.m pd.cap] 27 (0,0)):=by
  have:=hN (bX w7 db (.int .i64 7) (.int .i32 0) (.bool false) (.slice none 0 0) (.string ⟨#[]⟩) (.slice (some ⟨w7.heap.size,0,none⟩) 2 2)) (.cells #[.int .i64 x.k,.int .i32 x.c,.bool x.neg,.slice v2.A v2.n v2.cp,.string x.t,.slice v2.B v2.m v2.cap,.int .i64 d.k,.int .i32 d.c,.bool d.neg,.slice pd.A pd.n pd.cp,.string d.t,.slice pd.B pd.m pd.cap] 27)
  rwa [hsz] at this
 have K79:ah (fun b=>b=db) w7 ((bX w7 db (.int .i64 7) (.int .i32 0) (.bool false) (.slice none 0 0) (.string ⟨#[]⟩) (.slice (some ⟨w7.heap.size,0,none⟩) 2 2)).alloc (.cells #[.int .i64 x.k,.int .i32 x.c,.bool x.neg,.slice v2.A v2.n v2.cp,.string x.t,.slice v2.B v2.m v2.cap,.int .i64 d.k,.int .i32 d.c,.bool d.neg,.slice pd.A pd.n pd.cp,.string d.t,.slice pd.B pd.m pd.cap] 27)):=(cF _ _ _ _ _ _ _ _).alloc _
 have hx:bR (fun b=>base<=b/\b ≠ db) ((bX w7 db (.int .i64 7) (.int .i32 0) (.bool false) (.slice none 0 0) (.string ⟨#[]⟩) (.slice (some ⟨w7.heap.size,0,none⟩) 2 2)).alloc (.cells #[.int .i64 x.k,.int .i32 x.c,.bool x.neg,.slice v2.A v2.n v2.cp,.string x.t,.slice v2.B v2.m v2.cap,.int .i64 d.k,.int .i32 d.c,.bool d.neg,.slice pd.A pd.n pd.cp,.string d.t,.slice pd.B pd.m pd.cap] 27)) x v2:=(hd7.keep K79 (by
  rintro b rfl
  exact ⟨fun h=>by have h:W.heap.size<=b:=h;omega,bI h7 (by decide)⟩)).mono (fun b _ h=>by have h:W.heap.size<=b:=h;exact ⟨by omega,by omega⟩)
 have hd:bR (fun b=>base<=b/\b ≠ db) ((bX w7 db (.int .i64 7) (.int .i32 0) (.bool false) (.slice none 0 0) (.string ⟨#[]⟩) (.slice (some ⟨w7.heap.size,0,none⟩) 2 2)).alloc (.cells #[.int .i64 x.k,.int .i32 x.c,.bool x.neg,.slice v2.A v2.n v2.cp,.string x.t,.slice v2.B v2.m v2.cap,.int .i64 d.k,.int .i32 d.c,.bool d.neg,.slice pd.A pd.n pd.cp,.string d.t,.slice pd.B pd.m pd.cap] 27)) d pd:=hdat.keep K3 (by
  rintro b rfl
  exact ⟨fun h=>h.2 rfl,bI hcell (by decide)⟩)
 refine ⟨iF K3 (by rintro b rfl;exact .inr ⟨_,_,_,hcell⟩),K3.mono (fun _ _ h=>.inr h),⟨⟨none,0,0,some ⟨w7.heap.size,0,none⟩,2,2⟩,bR.pair hx hd hnew ⟨by omega,by omega⟩,?_⟩,HK.trans K3⟩
 exact cw (dR h7 _ _ _ _ _ _) _
theorem pD (n:Nat) (hn:1<=n) (lb n1 db:Nat) (A:Option Addr) (cap:Nat) (rs:List Raw) (vs:Nat->PV) (hbig:rs.length<=1000000000000000) (hlow:lb<n1/\lb ≠ db) (hA:0<rs.length->∀ g o,A=some ⟨g,o,none⟩->g<n1/\g ≠ db) (w:World) (hs:lH w lb A cap rs vs) :
 SeqStopsK Fence.wide n Tryz.prog 159 #[.pointer (some ⟨lb,0,none⟩)] (vZ rs vs) (KpL n1 db) (fun ys=>ys=ex rs.length rs.length (Nat.le_refl _)) (fun _=>True) rs.length w:=fun l J Jx W hW hJ _ hY h0=>
 wo n hn l lb n1 db A cap rs vs hbig J Jx hlow hA hY W hJ (hs.keep (ah.of_below hW) id (fun _ _ _ _=>id)) h0
theorem ug {N P:Nat->Prop} (rs:List Raw) (vs:Nat->PV) (A:Option Addr) (cap:Nat) (w:World) (hbig:rs.length<=1000000000000000)
 (hrow:0<rs.length->∃ g o,A=some ⟨g,o,none⟩ /\ ∀ i (h:i<rs.length),cV w g o i rs[i] (vs i)) (hch:∀ i (h:i<rs.length),ay N P w rs[i] (vs i)) :
 Calls Tryz.prog 103 #[.slice A rs.length cap] w (b8 (aQ rs .nil) w):=by
 have HROW:=hid hrow
 have HCH:=hid (fun i (h:i<rs.length)=>(hch i h).mono (M:=fun b=>b<w.heap.size) (Q:=fun b=>b<w.heap.size) (fun b lt _=>lt) (fun b lt _=>lt))
 obtain ⟨n,hn⟩:∃ n,n=rs.length:=⟨_,rfl⟩
 have HN:=hid hn
 clear hrow hch
 have HBIG:=hid hbig
 rw [<- hn]
 clear hn hbig
 refine (callsIn_wide (n:=5)).1 ?_
 refine callsIn_of_wp_marks Tryz.func103 rfl trivial ?_ rfl
 refine wpIn_wide.2 ?_
 simp only [Tryz.ntmps103,List.size_toArray,List.length_cons,List.length_nil,Nat.reduceAdd,Nat.reduceSub,Array.replicate_succ,Array.replicate_zero,List.push_toArray,List.append_toArray,List.nil_append,List.cons_append]
 go_wp2_with fail
 have HB:=hid (show ((w.alloc (.cells (rwC 0 0 false none 0 0 ⟨#[]⟩ none 0 0) 27)).alloc (.cells (rwC 0 0 false none 0 0 ⟨#[]⟩ none 0 0) 27)).heap[w.heap.size]? = some (.cells (rwC 0 0 false none 0 0 ⟨#[]⟩ none 0 0) 27 (0,0)) from cw (hN w _) _)
 have HD0:=hid (show ((w.alloc (.cells (rwC 0 0 false none 0 0 ⟨#[]⟩ none 0 0) 27)).alloc (.cells (rwC 0 0 false none 0 0 ⟨#[]⟩ none 0 0) 27)).heap[w.heap.size+1]? = some (.cells (rwC 0 0 false none 0 0 ⟨#[]⟩ none 0 0) 27 (0,0)) from by have:=hN (w.alloc (.cells (rwC 0 0 false none 0 0 ⟨#[]⟩ none 0 0) 27)) (.cells (rwC 0 0 false none 0 0 ⟨#[]⟩ none 0 0) 27);rwa [World.size_alloc] at this)
 have HK1:=hid (show K0 w ((w.alloc (.cells (rwC 0 0 false none 0 0 ⟨#[]⟩ none 0 0) 27)).alloc (.cells (rwC 0 0 false none 0 0 ⟨#[]⟩ none 0 0) 27)) from (kR.alloc _).alloc _)
 refine (ml A n cap _).mono ?_
 rintro e w6 ⟨lb,rfl,hlb,hl6,k6⟩
 have HLB:=hid hlb
 have HL6:=hid hl6
 have HK6:=hid (HK1.out.trans k6)
 have HB6:=hid (k6.heap HB.out id)
 have HD6:=hid (k6.heap HD0.out id)
 clear hlb hl6 k6
 obtain ⟨db,hdb⟩:∃ db,db=w.heap.size+1:=⟨_,rfl⟩
 have HDB:=hid hdb
 rw [<- hdb]
 clear hdb
 go_wp2_with fail
 have hlbs:=az HL6.out
 have hdbs:=az HD6.out
 have hsrc:lH w6 lb A cap rs vs:=⟨by rw [<- HN.out];exact HL6.out,fun hm=>by
  obtain ⟨g,o,e,hr⟩:=HROW.out hm
  exact ⟨g,o,e,fun i hi=>(hr i hi).keep HK6.out id⟩⟩
 have hAl:0<rs.length->∀ g o,A=some ⟨g,o,none⟩->g<w.heap.size:=fun hm g o e=>by
  obtain ⟨g',o',e',hr⟩:=HROW.out hm
  rw [e] at e'
  injection e' with e';injection e' with e1 e2
  subst e1
  have:=(hr 0 hm).cells.1
  exact bL w _ this
 have HI0:=hid (show LcS w6 (w.heap.size+2) db (gW rs []) w6 from ⟨⟨PV.none,ay.nil _ _ _,by have:=HD6.out;rw [<- HDB.out] at this;exact this⟩,kR⟩)
 have HSRC:=hid hsrc
 have HAL:=hid hAl
 clear hsrc hAl
 refine (wpIn_wide (n:=5)).1 ?_
 refine wpIn_rangeFunc_ownH (F:=Fence.wide) (n:=5) rfl (by omega) (gf:=159) (lb:=#[.pointer (some ⟨lb,0,none⟩)]) rfl trivial (Go.Proofs.enters_of Tryz.func159 (by kernel_rfl) rfl) (encs:=vZ rs vs) (Kp:=KpL w6.heap.size db)
  (pD 4 (by omega) lb w6.heap.size db A cap rs vs HBIG.out ⟨hlbs,by have:=HDB.out;have:=HLB.out;simp at this;omega⟩ (fun hm g o e=>⟨by have:=HAL.out hm g o e;have:=HK6.out.size;omega,by have:=HAL.out hm g o e;have:=HDB.out;omega⟩) w6 HSRC.out)
  (fun a b=>ah.trans a b) (fun W l o o' hl _ _ _=>(ah.refl _ W).grown (grownBy_putObj' W l o') (fun k e=>by cases e;exact .inl (.inl hl))) (Below.refl _ _) (fun _=>rfl)
  (fun pre W=>LcS w6 (w.heap.size+2) db (gW rs pre) W) (fun _ _ _=>False) (fun pre W W' row hs hg hr=>hs.grown hg hr) (fun _ _ _ _ _ hs _ _=>hs) HI0.out
  (AxL rs vs w6.heap.size (fun xb i=>{ tmps:=#[.slice A n cap,undef,.pointer (some ⟨w.heap.size,0,none⟩),.pointer (some ⟨db,0,none⟩),undef,.pointer (some ⟨xb,0,none⟩),.agg (rwC 0 0 false none 0 0 ⟨#[]⟩ none 0 0),.slice A n cap,.func (.func 159) #[] #[.pointer (some ⟨lb,0,none⟩)],.int .i64 (i.1:Int),rawV rs[i] (vs i.1),undef,undef,undef,undef,undef,undef],defers:=[] }))
  (fun x a' _ W W' row hs hg hr=>by obtain ⟨xb,h1,h2,h3⟩:=hs;exact ⟨xb,h1,h2,fj h3 hg (fun r e=>(hr r e).2)⟩) ?assign ?body ?done ?stop
 case assign=>
  intro l pre x W K hI hK
  gi_wp2
  refine hK _ _ (iF ((ah.refl (fun _=>False) W).alloc _) (fun b hb=>hb.elim)) (kR.alloc _) (hI.grown (World.grownBy_alloc W _ none) (fun r e=>by cases e)) ⟨W.heap.size,hI.K.size,rfl,hN W _⟩
 case body=>
  rintro l pre i a' W hl _ hI ⟨xb,hxb,rfl,hx⟩ hlen
  obtain ⟨⟨pd,hdat,hcell⟩,hK⟩:=hI
  obtain ⟨d,hd⟩:∃ d,d=gW rs pre:=⟨_,rfl⟩
  rw [<- hd] at hdat hcell
  obtain ⟨x,hxx⟩:∃ x,x=rs[i]:=⟨_,rfl⟩
  obtain ⟨v,hv⟩:∃ v,v=vs i.1:=⟨_,rfl⟩
  rw [<- hxx,<- hv] at hx
  have hdbw:¬ db<w.heap.size:=by have:=HDB.out;omega
  have hraw:ay (fun b=>b<w.heap.size) (fun b=>b<w.heap.size) W x v:=by
   rw [hxx,hv]
   exact ((HCH.out i.1 i.2).keep0 HK6.out).keep hK (by rintro b rfl;exact ⟨hdbw,hdbw⟩)
  have HC:=hid (fun (W':World) (K:K0 W W')=>pu hraw W' K)
  have HXX:=hid hxx
  have HD:=hid hd
  have HK:=hid hK
  have HDAT:=hid hdat
  have HCELL:=hid hcell
  obtain ⟨⟨c0,c1,c2,c3,c4,c5⟩,f0,f1,f2,f3,f4,f5⟩:=ae hcell
  obtain ⟨⟨x0,x1,x2,x3,x4,x5⟩,_⟩:=ae hx
  have hmx:Tryz.prog.follows .mixedOrders=true:=by kernel_rfl
  clear hraw hxx hd hK hdat hcell hx hv hdbw hlen
  gi_wp2
  gi_region_with_o (refine ⟨trivial,?_⟩;gi_at_call 131;refine (CallsIn.inRound l (callsIn_wide.2 (HC.out _ (kR.drew)))).mono ?_;rintro e w7 ⟨v2,rfl,hd7,k7⟩;obtain ⟨⟨g0,g1,g2,g3,g4,g5⟩,e0,e1,e2,e3,e4,e5⟩:=ae (k7.heap (show W.drew.heap[db]? = _ from HCELL.out) id);have hlt7:=az (k7.heap (show W.drew.heap[db]? = _ from HCELL.out) id);have hne7:¬ db=w7.heap.size:=Nat.ne_of_lt hlt7)
  all_goals gi_wp2
  all_goals
   have hfin:=LcS.next (B:=w6.heap.size) (n1:=w6.heap.size) HK.out HDAT.out HCELL.out k7 hd7 (by have:=HK.out.size;have:=HK6.out.size;have:=az HD6.out;have:=HDB.out;omega)
   refine ⟨hfin.1,hfin.2.1,?_⟩
   show LcS w6 (w.heap.size+2) db (gW rs (pre++[i])) _
   have e:gW rs (pre++[i])=dn x d:=by unfold gW;rw [List.foldl_append,HXX.out,HD.out];rfl
   rw [e]
   exact hfin.2.2
 case done=>
  rintro D ys W hD rfl ⟨⟨pd,hdat,hcell⟩,hK⟩ hKd
  rw [rC] at hdat hcell
  obtain ⟨dd,hdd⟩:∃ dd,dd=aQ rs .nil:=⟨_,rfl⟩
  rw [<- hdd] at hdat hcell
  have hB:=hK.heap HB6.out (by have:=HDB.out;omega)
  obtain ⟨⟨c0,c1,c2,c3,c4,c5⟩,_⟩:=ae hcell
  obtain ⟨⟨b0,b1,b2,b3,b4,b5⟩,f0,f1,f2,f3,f4,f5⟩:=ae hB
  have HDAT:=hid hdat
  have HKK:=hid hK
  have HBB:=hid hB
  have HKD:=hid hKd
  have HDD:=hid hdd
  clear hdat hK hB hKd hdd
  go_wp2_with fail
  have hDw:D ≠ w.heap.size:=by have:=az HB6.out;omega
  have hKD:=vg HKD.out hDw (.int .i64 dd.k) (.int .i32 dd.c) (.bool dd.neg) (.slice pd.A pd.n pd.cp) (.string dd.t) (.slice pd.B pd.m pd.cap)
  have hrow:=dR HBB.out (.int .i64 dd.k) (.int .i32 dd.c) (.bool dd.neg) (.slice pd.A pd.n pd.cp) (.string dd.t) (.slice pd.B pd.m pd.cap)
  have hg:(bX W w.heap.size (.int .i64 dd.k) (.int .i32 dd.c) (.bool dd.neg) (.slice pd.A pd.n pd.cp) (.string dd.t) (.slice pd.B pd.m pd.cap)).grownBy ((bX W w.heap.size (.int .i64 dd.k) (.int .i32 dd.c) (.bool dd.neg) (.slice pd.A pd.n pd.cp) (.string dd.t) (.slice pd.B pd.m pd.cap)).putObj D (.deferred none)) (some D):=grownBy_putObj' _ D _
  have hgr:∀ r,some D=some r->∃ o:Obj,(bX W w.heap.size (.int .i64 dd.k) (.int .i32 dd.c) (.bool dd.neg) (.slice pd.A pd.n pd.cp) (.string dd.t) (.slice pd.B pd.m pd.cap)).heap[r]? = some o/\o.isCells=false:=by rintro r e;cases e;exact ⟨_,hKD,rfl⟩
  refine ⟨by simp,.inl ⟨_,_,rfl,run_takeDeferred hKD,?_⟩⟩
  obtain ⟨⟨e0,e1,e2,e3,e4,e5⟩,_⟩:=ae (fj hrow hg hgr)
  refine ⟨rawV dd pd,by simp [results,Tryz.results103,go_sem,e0,e1,e2,e3,e4,e5],pd,by rw [HDD.out],?_,?_⟩
  ·rw [<- HDD.out]
   refine bR.grown ((HDAT.out.keep (cF W w.heap.size (.int .i64 dd.k) (.int .i32 dd.c) (.bool dd.neg) (.slice pd.A pd.n pd.cp) (.string dd.t) (.slice pd.B pd.m pd.cap)) ?_).mono (fun b _ h=>by omega)) hg hgr
   rintro b rfl
   exact ⟨fun h=>by omega,bI HBB.out (by decide)⟩
  ·have K1:K0 w W:=HK6.out.into HKK.out (by rintro b rfl;have:=HDB.out;omega)
   exact (eS K1 (Nat.le_refl _) (.int .i64 dd.k) (.int .i32 dd.c) (.bool dd.neg) (.slice pd.A pd.n pd.cp) (.string dd.t) (.slice pd.B pd.m pd.cap)).grown hg (fun k e=>by cases e;exact .inr (by have:=HK6.out.size;omega))
 case stop=>
  rintro D c pre W _ _ h _
  exact h.elim
end Go.Proofs.YtonnikipeokkaaaGreatDoor
