/-
  The program's text, Write and Display.
  What a light datum's text may take: plain Lean.
  The awake of the laws of show.
  The law ShowUnlike: the walk.
  The document's Show of a pair, and of any datum that may be.
  The document's Copy of a datum.
  The law ShowTexts: the walk.
-/
import Derived.Test.YtonnikipeokkaaaGreatDoorSwK
import Derived.Test.YtonnikipeokkaaaGreatDoorSwT
import Derived.Test.YtonnikipeokkaaaGreatDoorSwQ
import Derived.Test.YtonnikipeokkaaaGreatDoorPaOne
import Derived.Deep.RegionLaw
namespace Go.Proofs.YtonnikipeokkaaaGreatDoor
set_option maxRecDepth 100000
set_option maxHeartbeats 8000000
open Go.Lib (hid)
open Go.RowKit Go.Lib
def eG (pl:Bool) (r:Raw):ByteArray:=⟨(if eF r=true then am pl r else []).toArray⟩
def fg (r:Raw):Int:=if eF r=true then 0 else 1
def lG (pl:Bool) (r:Raw) (w:World) (e:Ending) (w':World):Prop:=e=.returned (.tuple #[.string (eG pl r),.int .i64 (fg r)])/\K0 w w'
theorem fB {r:Raw} (h:eF r=true):aS r=true:=by
 unfold eF at h
 rw [Bool.and_eq_true] at h
 exact h.1
abbrev shO (pl:Bool):Obj:=.cells #[.pointer none,.slice none 0 0,.bool pl] 135
theorem oj (pl:Bool) {N P:Nat->Prop} {w:World} {r:Raw} {p:PV} (h:ay N P w r p) (hT:TabT w) (h6:6<w.heap.size) (hm:eF r=true) (hlen:(am pl r).length<=1000000000000) (W:World) (K:K0 w W) :
 Calls Tryz.prog 78 #[.pointer (some ⟨W.heap.size,0,none⟩),rawV r p] (W.alloc (shO pl)) (WrP (W.alloc (shO pl)) W.heap.size pl (am pl r) none):=by
 have K2:K0 w (W.alloc (shO pl)):=K.alloc _
 have hs:=K.size
 have hl:∀ x,x<w.heap.size->Off W.heap.size none x:=fun x hx hg=>by
  rcases hg with rfl | hg
  ·omega
  ·cases hg
 have D:ay (Off W.heap.size none) (Off W.heap.size none) (W.alloc (shO pl)) r p:=(h.mono (fun x hx _=>hl x hx) (fun x hx _=>hl x hx)).keep0 K2
 have E:dt w.heap.size (W.alloc (shO pl)) W.heap.size pl [] none:=⟨h6,(TS.start hT).keep K2 (fun _ h=>h.elim),(fun x hx=>by
  rcases hx with rfl | hg
  ·exact hs
  ·cases hg),aL.new W pl⟩
 exact (sz (Alike.well_of r (fB hm))).1 w.heap.size _ W.heap.size pl [] none p E D (by simpa using hlen)
theorem jJ (pl:Bool) {N P:Nat->Prop} {w:World} {r:Raw} {p:PV} (h:ay N P w r p) (hS:dX r) (hD:aO r<=4000000000000000000) (hT:TabT w) (h6:6<w.heap.size) (hlen:eF r=true->(am pl r).length<=1000000000000) :
 Calls Tryz.prog 48 #[rawV r p,.bool pl] w (lG pl r w):=by
 have HMY:=hid (fun (W:World) (K:K0 w W)=>tF (h.keep0 K) hS hD (hT.keep K).1)
 have HSN:=hid (fun (W:World) (K:K0 w W) (hm:eF r=true)=>oj pl h hT h6 hm (hlen hm) W K)
 have HTV:Hid (eG pl r=⟨(if eF r=true then am pl r else []).toArray⟩):=hid rfl
 have HTN:Hid (fg r=if eF r=true then 0 else 1):=hid rfl
 unfold lG
 generalize eG pl r=tv at HTV ⊢
 generalize fg r=tn at HTN ⊢
 generalize eF r=m at HMY HSN HTV HTN
 generalize am pl r=T at HSN HTV
 have hb1:(w.alloc (.cells (rwC r.k r.c r.neg p.A p.n p.cp r.t p.B p.m p.cap) 27)).heap[w.heap.size]? = some (.cells (rwC r.k r.c r.neg p.A p.n p.cp r.t p.B p.m p.cap) 27 (0,0)):=hN w _
 have HB1:=hid hb1
 have HK1:=hid (show K0 w (w.alloc (.cells (rwC r.k r.c r.neg p.A p.n p.cp r.t p.B p.m p.cap) 27)) from kR.alloc _)
 obtain ⟨a0,a1,a2,a3,a4,a5⟩:=aa hb1
 clear hb1 h hS hD hT h6 hlen
 go_enter Tryz.func48,Tryz.ntmps48
 go_wp2_with fail
 generalize w.alloc (.cells (rwC r.k r.c r.neg p.A p.n p.cp r.t p.B p.m p.cap) 27)=w1 at *
 generalize w.heap.size=B1 at *
 refine (HMY.out _ HK1.out).mono ?_
 rintro e w2 ⟨rfl,k2⟩
 have HB2:=hid (k2.heap HB1.out (by simp))
 have HK2:=hid (HK1.out.trans k2)
 clear a0 a1 a2 a3 a4 a5 k2
 cases m with
 | false=>
  go_wp2_with fail
  refine bodyPost_ret (v:=.tuple #[.string tv,.int .i64 tn]) ?_ rfl ⟨rfl,HK2.out⟩
  rw [HTV.out,HTN.out]
  simp [results,Tryz.results48,go_sem]
 | true=>
  have hbx:(w2.alloc (shO pl)).heap[B1]? = _:=((ah.refl (fun _=>False) w2).alloc (shO pl)).heap HB2.out id
  have HK3:=hid (HK2.out.alloc (shO pl))
  have HS3:=hid (HSN.out w2 HK2.out rfl)
  have HB0:=hid HK2.out.size
  obtain ⟨a0,a1,a2,a3,a4,a5⟩:=aa hbx
  clear hbx
  go_wp2_with fail
  refine HS3.out.mono ?_
  rintro e w4 ⟨rfl,g4,hsh,hng,k4⟩
  have HT4:=hid (vh w4 _ pl _ _ hsh)
  have HNG:=hid hng
  have HK4:=hid k4
  clear hsh hng k4 a0 a1 a2 a3 a4 a5
  go_wp2_with fail
  refine HT4.out.mono ?_
  rintro e w5 ⟨rfl,k5⟩
  have HK5:=hid k5
  clear k5
  go_wp2_with fail
  refine bodyPost_ret (v:=.tuple #[.string tv,.int .i64 tn]) ?_ rfl ⟨rfl,?_⟩
  ·rw [HTV.out,HTN.out]
   simp [results,Tryz.results48,go_sem]
  ·have hb:=HB0.out
   refine (HK3.out.into HK4.out (fun i hi=>?_)).into HK5.out (fun i hi=>?_)
   ·rcases hi with rfl | hi
    ·exact hb
    ·cases hi
   ·rcases hi with rfl | hi
    ·exact hb
    ·rcases HNG.out with rfl | ⟨k,rfl,hk⟩
     ·cases hi
     ·injection hi with hi
      have h3:=HK3.out.size
      omega
theorem kU {N P:Nat->Prop} {w:World} {r:Raw} {p:PV} (h:ay N P w r p) (hS:dX r) (hD:aO r<=4000000000000000000) (hT:TabT w) (h6:6<w.heap.size) (hlen:eF r=true->(am false r).length<=1000000000000) :
 Calls Tryz.prog 30 #[rawV r p] w (lG false r w):=by
 have HK1:=hid (show K0 w (w.alloc (.cells (rwC r.k r.c r.neg p.A p.n p.cp r.t p.B p.m p.cap) 27)) from kR.alloc _)
 have HC:=hid (jJ false (h.keep0 HK1.out) hS hD (hT.keep HK1.out) (Nat.lt_of_lt_of_le h6 HK1.out.size) hlen)
 have hb1:(w.alloc (.cells (rwC r.k r.c r.neg p.A p.n p.cp r.t p.B p.m p.cap) 27)).heap[w.heap.size]? = some (.cells (rwC r.k r.c r.neg p.A p.n p.cp r.t p.B p.m p.cap) 27 (0,0)):=hN w _
 obtain ⟨a0,a1,a2,a3,a4,a5⟩:=aa hb1
 unfold lG at *
 generalize eG false r=tv at HC ⊢
 generalize fg r=tn at HC ⊢
 clear hb1 h hS hD hT h6 hlen
 go_enter Tryz.func30,Tryz.ntmps30
 go_wp2_with fail
 refine HC.out.mono ?_
 rintro e w2 ⟨rfl,k2⟩
 have HK2:=hid (HK1.out.trans k2)
 clear k2 a0 a1 a2 a3 a4 a5
 go_wp2_with fail
 refine bodyPost_ret (v:=.tuple #[.string tv,.int .i64 tn]) ?_ rfl ⟨rfl,HK2.out⟩
 simp [results,Tryz.results30,go_sem]
theorem nG {N P:Nat->Prop} {w:World} {r:Raw} {p:PV} (h:ay N P w r p) (hS:dX r) (hD:aO r<=4000000000000000000) (hT:TabT w) (h6:6<w.heap.size) (hlen:eF r=true->(am true r).length<=1000000000000) :
 Calls Tryz.prog 31 #[rawV r p] w (lG true r w):=by
 have HK1:=hid (show K0 w (w.alloc (.cells (rwC r.k r.c r.neg p.A p.n p.cp r.t p.B p.m p.cap) 27)) from kR.alloc _)
 have HC:=hid (jJ true (h.keep0 HK1.out) hS hD (hT.keep HK1.out) (Nat.lt_of_lt_of_le h6 HK1.out.size) hlen)
 have hb1:(w.alloc (.cells (rwC r.k r.c r.neg p.A p.n p.cp r.t p.B p.m p.cap) 27)).heap[w.heap.size]? = some (.cells (rwC r.k r.c r.neg p.A p.n p.cp r.t p.B p.m p.cap) 27 (0,0)):=hN w _
 obtain ⟨a0,a1,a2,a3,a4,a5⟩:=aa hb1
 unfold lG at *
 generalize eG true r=tv at HC ⊢
 generalize fg r=tn at HC ⊢
 clear hb1 h hS hD hT h6 hlen
 go_enter Tryz.func31,Tryz.ntmps31
 go_wp2_with fail
 refine HC.out.mono ?_
 rintro e w2 ⟨rfl,k2⟩
 have HK2:=hid (HK1.out.trans k2)
 clear k2 a0 a1 a2 a3 a4 a5
 go_wp2_with fail
 refine bodyPost_ret (v:=.tuple #[.string tv,.int .i64 tn]) ?_ rfl ⟨rfl,HK2.out⟩
 simp [results,Tryz.results31,go_sem]
end Go.Proofs.YtonnikipeokkaaaGreatDoor

namespace Go.Proofs.YtonnikipeokkaaaGreatDoor
open Go.Lib (hid)
open Go.RowKit Go.Lib
mutual
def ew:Raw->Nat
 | .mk _ _ _ _ _ l=>1+dU l
def dU:List Raw->Nat
 | []=>0
 | x :: l=>ew x+dU l
end
theorem j9 (r:Raw):ew r=1+dU r.l:=by
 cases r with
 | mk k c neg mag t l=>rw [ew];rfl
mutual
theorem i7:∀ (r:Raw) (n:Int),0<=n->0<=bW r n->(ew r:Int)+bW r n<=n/\dX r
 | .mk k c neg mag t l,n,hn,h=>by
  rw [bW] at h
  by_cases hc:3000<t.size\/300<mag.length
  ·rw [if_pos hc] at h
   exact absurd h (by decide)
  ·rw [if_neg hc] at h
   have hw:=gw l (n - 1) (by omega)
   have h2:=i8 l (n - 1) (by omega) h
   refine ⟨?_,.mk (by show t.size<=1000000;omega) (by show mag.length<=9000;omega) h2.2⟩
   rw [bW,if_neg hc,ew]
   omega
theorem i8:∀ (l:List Raw) (n:Int),-1<=n->0<=cJ l n->(dU l:Int)+cJ l n<=n /\ ∀ i (hi:i<l.length),dX l[i]
 | [],n,hn,h=>by
  rw [cJ,dU]
  exact ⟨by omega,fun i hi=>absurd hi (Nat.not_lt_zero _)⟩
 | x :: l,n,hn,h=>by
  rw [cJ] at h
  by_cases h0:0<=n
  ·rw [if_pos h0] at h
   have hx:=iO x n h0
   have hx0:0<=bW x n:=by
    have:=gw l (bW x n) hx.1
    omega
   have h1:=i7 x n h0 hx0
   have h2:=i8 l (bW x n) hx.1 h
   refine ⟨?_,fun i hi=>?_⟩
   ·rw [cJ,if_pos h0,dU]
    omega
   ·cases i with
    | zero=>exact h1.2
    | succ i=>exact h2.2 i (by simpa using hi)
  ·rw [if_neg h0] at h
   omega
end
mutual
theorem ku:∀ r:Raw,aO r<=ew r
 | .mk k c neg mag t l=>by
  have h:=jo k l
  rw [aO,ew]
  split<;>omega
theorem jo:∀ (k:Int) (l:List Raw),fT k l<=1+dU l
 | _,[]=>by rw [fT];omega
 | k,x :: l=>by
  have h1:=ku x
  have h2:=jo k l
  rw [fT,dU]
  split<;>omega
end
theorem vY (y c:Nat):(bP y c).length<=8:=by
 have h:=jw c
 have hx:(aD c).length<=2:=by unfold aD;split<;>simp
 unfold bP
 split
 ·simp only [List.length_cons];omega
 split
 ·simp
 split
 ·simp
 split
 ·simp
 split
 ·simp only [List.length_cons,List.length_append,List.length_nil];omega
 ·omega
theorem nB (y:Nat):∀ r:List Nat,(r.flatMap (bP y)).length<=8 * r.length
 | []=>Nat.zero_le _
 | c :: r=>by
  have h1:=nB y r
  have h2:=vY y c
  rw [List.flatMap_cons,List.length_append,List.length_cons]
  omega
theorem kZ {y:Nat} {t:List UInt8} {r:List Nat} (h:au t=some r):(ce y t).length<=8 * r.length+2:=by
 have h1:=nB y r
 unfold ce
 rw [h]
 simp only [Option.getD_some,List.length_cons,List.length_append,List.length_nil]
 omega
theorem lz (c:Nat):(bH c).length<=20:=by
 have h:=jw c
 have hx:(aD c).length<=2:=by unfold aD;split<;>simp
 unfold bH
 repeat' split
 all_goals first | omega | (simp only [List.length_cons,List.length_nil];omega)
theorem uk {x:Int} (h:(aA x.natAbs).length<=48):(itoa x).length<=288002:=by
 have hf:=(iM x).1 h
 have hd:=iX hf (by decide)
 by_cases hn:x<0
 ·obtain ⟨u,rfl⟩:∃ u:Nat,x=-(u:Int):=⟨x.natAbs,by omega⟩
  rw [Lib.itoa_neg u (by omega),List.length_cons]
  have e:(-(u:Int)).natAbs=u:=by omega
  rw [e] at hd
  omega
 ·obtain ⟨u,rfl⟩:∃ u:Nat,x=(u:Int):=⟨x.toNat,by omega⟩
  rw [Lib.itoa_nonneg]
  have e:((u:Int)).natAbs=u:=by omega
  rw [e] at hd
  omega
theorem ny (f:Raw->List UInt8):∀ l:List Raw,(∀ i (h:i<l.length),(f l[i]).length+4<=300000 * ew l[i])->(fE (l.map f)).length<=300000 * dU l/\(dO (l.map f)).length<=300000 * dU l
 | [],_=>⟨Nat.zero_le _,Nat.zero_le _⟩
 | x :: l,h=>by
  have h1:=(ny f l (fun i hi=>h (i+1) (by simpa using hi))).2
  have h2:(f x).length+4<=300000 * ew x:=h 0 (by simp)
  have e:dO ((x :: l).map f)=32 :: f x++dO (l.map f):=rfl
  have e2:fE ((x :: l).map f)=f x++dO (l.map f):=rfl
  rw [e,e2,dU]
  simp only [List.length_append,List.length_cons]
  omega
theorem fD (pl:Bool) {r:Raw} (hk:r.k ≠ 7) (h:(am pl r).length+4<=300000):(am pl r).length+4<=300000 * ew r/\(dD pl r).length<=300000 * ew r:=by
 have hn:=j9 r
 have h2:(dD pl r).length<=(am pl r).length+4:=by
  by_cases h0:r.k=0
  ·rw [jW pl h0];simp
  ·rw [iz pl hk h0];simp only [List.length_cons,List.length_append,List.length_nil];omega
 omega
theorem qi (pl:Bool) {r:Raw} (h:Alike.WellR r):(am pl r).length+4<=300000 * ew r/\(dD pl r).length<=300000 * ew r:=by
 induction h with
 | @atom k h=>
  refine fD pl (show k ≠ 7 by omega) ?_
  rw [fx]
  rcases h with rfl | rfl | rfl | rfl | rfl<;>simp [mR,Raw.k]
 | @chr c h=>
  refine fD pl (show (3:Int) ≠ 7 by decide) ?_
  have h1:=jw c
  have h2:=lz c
  cases pl with
  | true=>show (aI c).length+4<=_;omega
  | false=>show (35 :: 92 :: bH c).length+4<=_;simp only [List.length_cons];omega
 | @int x h=>
  refine fD pl (show (4:Int) ≠ 7 by decide) ?_
  have h1:=uk h
  show (itoa (ci (decide (x<0)) (aA x.natAbs))).length+4<=_
  rw [jK]
  omega
 | @str t r h hr=>
  refine fD pl (show (5:Int) ≠ 7 by decide) ?_
  have h1:=kZ (y:=34) h
  have h2:=(dL _ _ _ (Nat.le_refl _) h).1
  have h3:=iG r
  rw [h2] at h3
  cases pl with
  | true=>show t.data.toList.length+4<=_;omega
  | false=>show (ce 34 t.data.toList).length+4<=_;omega
 | @sym t r h hr h0=>
  refine fD pl (show (6:Int) ≠ 7 by decide) ?_
  have h1:=kZ (y:=124) h
  have h2:=(dL _ _ _ (Nat.le_refl _) h).1
  have h3:=iG r
  rw [h2] at h3
  show (if (pl || dI t.data.toList)=true then t.data.toList else ce 124 t.data.toList).length+4<=_
  split<;>omega
 | @pair a d _ _ ha hd=>
  have e1:=gB pl (r:=.mk 7 0 false [] ⟨#[]⟩ [a,d]) (a:=a) (d:=d) rfl rfl
  have e2:=eO pl (r:=.mk 7 0 false [] ⟨#[]⟩ [a,d]) (a:=a) (d:=d) rfl rfl
  rw [e1,e2,ew,dU,dU,dU]
  simp only [List.length_append,List.length_cons]
  omega
 | @vec l hl _ ih=>
  have e1:am pl (.mk 8 0 false [] ⟨#[]⟩ l)=35 :: 40 :: (fE (l.map (am pl))++[41]):=iq pl (r:=.mk 8 0 false [] ⟨#[]⟩ l) rfl
  have e2:=iz pl (r:=.mk 8 0 false [] ⟨#[]⟩ l) (by show (8:Int) ≠ 7;decide) (by show (8:Int) ≠ 0;decide)
  have hj:=(ny (am pl) l (fun i hi=>(ih i hi).1)).1
  rw [e2,e1,ew]
  simp only [List.length_append,List.length_cons,List.length_nil]
  omega
structure ie (r:Raw):Prop where
 small:dX r
 node:ew r<=2000
theorem cQ {r:Raw} (h:dV r=false):ie r:=by
 unfold dV at h
 have h0:0<=bW r 2000:=by
  have:=of_decide_eq_false h
  omega
 have h1:=i7 r 2000 (by decide) h0
 exact ⟨h1.2,by omega⟩
theorem lm:∀ l:List Raw,l.length<=dU l
 | []=>Nat.zero_le _
 | x :: l=>by
  have h:=lm l
  have hx:=j9 x
  rw [dU,List.length_cons]
  omega
theorem ka:∀ (l:List Raw) (i:Nat) (h:i<l.length),ew l[i]<=dU l
 | x :: l,0,h=>by rw [dU];simp only [List.getElem_cons_zero];omega
 | x :: l,i+1,h=>by
  have h2:=ka l i (by simpa using h)
  rw [dU]
  simp only [List.getElem_cons_succ]
  omega
theorem ie.at {w:World} {r:Raw} {p:PV} (h:ie r) (hx:RawX w r p):ay (fun _=>True) (fun _=>True) w r p:=by
 induction hx with
 | @mk r p num len mcap big vs row ch ih=>
  obtain ⟨hs,hn⟩:=h
  cases hs with
  | mk ht hm hc=>
   have e:=j9 r
   have hl:=lm r.l
   have hmag:=num.row.1
   refine .mk ⟨num.row,num.low,num.cap,by omega⟩ (fun _ _ _ _=>trivial) len mcap (by omega) vs (fun h0=>?_) (fun i hi=>ih i hi ⟨hc i hi,?_⟩)
   ·obtain ⟨b,off,e1,e2⟩:=row h0
    exact ⟨b,off,e1,trivial,e2⟩
   ·have:=ka r.l i hi
    omega
theorem ie.depth {r:Raw} (h:ie r):aO r<=4000000000000000000:=by
 have h1:=ku r
 have h2:=h.node
 omega
theorem ie.room {r:Raw} (h:ie r) (pl:Bool) (hp:aS r=true):(am pl r).length<=600000000:=by
 have h1:=(qi pl (Alike.well_of r hp)).1
 have h2:=h.node
 omega
end Go.Proofs.YtonnikipeokkaaaGreatDoor

namespace Go.Proofs.YtonnikipeokkaaaGreatDoor
set_option maxRecDepth 100000
set_option maxHeartbeats 8000000
open Go.Lib (hid)
open Go.RowKit Go.Lib
abbrev abR:Raw:=.mk 6 0 false [] ⟨#[97,32,98]⟩ []
theorem mm:eF abR=true:=by kernel_rfl
theorem pW:am false abR=[124,97,32,98,124]:=by kernel_rfl
theorem pX:am true abR=[97,32,98]:=by kernel_rfl
theorem nW:dX abR:=.mk (show (3:Nat)<=1000000 by decide) (show (0:Nat)<=9000 by decide) (fun _ h=>absurd h (Nat.not_lt_zero _))
theorem nX:aO abR<=4000000000000000000:=by
 unfold abR
 rw [aO,fT]
 decide
theorem wE (w:World):ay (fun _=>True) (fun _=>True) w abR PV.none:=
 .mk (eX w) (fun h=>absurd h (Nat.lt_irrefl _)) rfl (Nat.le_refl _) (show 0 * 88<=140737488351232 by omega) (fun _=>PV.none) (fun h=>absurd h (Nat.lt_irrefl _)) (fun _ h=>absurd h (Nat.not_lt_zero _))
theorem uR (w:World) (hT:TabT w) (h6:6<w.heap.size):Calls Tryz.prog 30 #[.agg (rwC 6 0 false none 0 0 ⟨#[97,32,98]⟩ none 0 0)] w (fun e w'=>e=.returned (.tuple #[.string ⟨#[124,97,32,98,124]⟩,.int .i64 0])/\K0 w w'):=by
 have h:=kU (wE w) nW nX hT h6 (fun _=>by rw [pW];decide)
 refine h.mono ?_
 rintro e w' ⟨rfl,k⟩
 refine ⟨?_,k⟩
 unfold eG fg
 rw [if_pos mm,if_pos mm,pW]
theorem pE (w:World) (hT:TabT w) (h6:6<w.heap.size):Calls Tryz.prog 31 #[.agg (rwC 6 0 false none 0 0 ⟨#[97,32,98]⟩ none 0 0)] w (fun e w'=>e=.returned (.tuple #[.string ⟨#[97,32,98]⟩,.int .i64 0])/\K0 w w'):=by
 have h:=nG (wE w) nW nX hT h6 (fun _=>by rw [pX];decide)
 refine h.mono ?_
 rintro e w' ⟨rfl,k⟩
 refine ⟨?_,k⟩
 unfold eG fg
 rw [if_pos mm,if_pos mm,pX]
theorem mO (w:World) (hT:TabT w) (h6:6<w.heap.size):Calls Tryz.prog 28 #[] w (BoolPost true w):=by
 have HW:=hid (fun (W:World) (K:K0 w W)=>uR W (hT.keep K) (Nat.lt_of_lt_of_le h6 K.size))
 have HD:=hid (fun (W:World) (K:K0 w W)=>pE W (hT.keep K) (Nat.lt_of_lt_of_le h6 K.size))
 clear hT h6
 go_enter Tryz.func28,Tryz.ntmps28
 go_wp2_with fail
 refine (HW.out _ kR).mono ?_
 rintro e w1 ⟨rfl,k1⟩
 have HK1:=hid k1
 clear k1
 go_wp2_with fail
 refine (HD.out _ HK1.out).mono ?_
 rintro e w2 ⟨rfl,k2⟩
 have HK2:=hid (HK1.out.trans k2)
 clear k2
 go_wp2_with fail
 go_ret
 exact ⟨rfl,HK2.out⟩
end Go.Proofs.YtonnikipeokkaaaGreatDoor

namespace Go.Proofs.YtonnikipeokkaaaGreatDoor
open Go.Lib (hid)
open Go.RowKit Go.Lib
structure pY (w:World) (x y:Raw) (p q:PV) (B1 B2:Nat) (W:World):Prop where
 K:K0 w W
 h1:W.heap[B1]? = some (.cells (rwC x.k x.c x.neg p.A p.n p.cp x.t p.B p.m p.cap) 27 (0,0))
 h2:W.heap[B2]? = some (.cells (rwC y.k y.c y.neg q.A q.n q.cp y.t q.B q.m q.cap) 27 (0,0))
theorem pY.keep {w W W':World} {x y:Raw} {p q:PV} {B1 B2:Nat} (h:pY w x y p q B1 B2 W) (k:K0 W W'):pY w x y p q B1 B2 W':=⟨h.K.trans k,k.heap h.h1 id,k.heap h.h2 id⟩
end Go.Proofs.YtonnikipeokkaaaGreatDoor

namespace Go.Proofs.YtonnikipeokkaaaGreatDoor
set_option maxRecDepth 100000
set_option maxHeartbeats 16000000
open Go.Lib (hid)
open Go.RowKit Go.Lib
structure PR (W:World) (B0:Nat) (x:Raw) (p:PV) (wr:World):Prop where
 box:wr.heap[B0]? = some (.cells (cL x p) 27 (0,0))
 dat:ay (fun y=>y<B0) (fun y=>y<B0) wr x p
 K:K0 W wr
 lo:W.heap.size<=B0
namespace PR
variable {W:World} {B0:Nat} {x:Raw} {p:PV} {wr:World}
theorem start {N Q:Nat->Prop} (D:ay N Q W x p):PR W W.heap.size x p (W.alloc (.cells (cL x p) 27)):=
 ⟨hN _ _,(D.mono (fun y lt _=>lt) (fun y lt _=>lt)).keep0 (kR.alloc _),kR.alloc _,Nat.le_refl _⟩
theorem keep0 {w':World} (h:PR W B0 x p wr) (k:K0 wr w'):PR W B0 x p w':=⟨k.heap h.box id,h.dat.keep0 k,h.K.trans k,h.lo⟩
theorem put {x2:Raw} {p2:PV} (h:PR W B0 x p wr) (D:ay (fun y=>y<B0) (fun y=>y<B0) wr x2 p2):PR W B0 x2 p2 (bX wr B0 (.int .i64 x2.k) (.int .i32 x2.c) (.bool x2.neg) (.slice p2.A p2.n p2.cp) (.string x2.t) (.slice p2.B p2.m p2.cap)):=by
 have k:=cF wr B0 (.int .i64 x2.k) (.int .i32 x2.c) (.bool x2.neg) (.slice p2.A p2.n p2.cp) (.string x2.t) (.slice p2.B p2.m p2.cap)
 refine ⟨dR h.box _ _ _ _ _ _,D.keep k ?_,h.K.into k ?_,h.lo⟩
 ·rintro y rfl
  exact ⟨fun o=>by omega,fun o=>by omega⟩
 ·rintro y rfl
  exact h.lo
end PR
def cU (x:Raw):Prop:=∀ (pl:Bool) (N Q:Nat->Prop) (W:World) (p:PV),ay N Q W x p->(am pl x).length<=1000000000->Calls Tryz.prog 32 #[rawV x p,.bool pl] W (ax (am pl x) W)
theorem sV (pl:Bool) (items:List Raw) (tail:Raw) (ht:tail.k ≠ 7) (h0:items ≠ []) (HI:∀ i (h:i<items.length),cU items[i]) (HT:tail.k ≠ 0->cU tail)
 (r:Raw) (p:PV) (W:World) (hr:r=aQ items tail) (N Q:Nat->Prop) (D:ay N Q W r p) (hlen:(am pl r).length<=1000000000)
 (s0:(r.k == 0)=false) (s1:(r.k == 1)=false) (s2:(r.k == 2)=false) (s9:(r.k == 9)=false) (s10:(r.k == 10)=false) (s3:(r.k == 3)=false) (s4:(r.k == 4)=false) (s5:(r.k == 5)=false) (s6:(r.k == 6)=false) (s8:(r.k == 8)=false):Calls Tryz.prog 32 #[rawV r p,.bool pl] W (ax (am pl r) W):=by
 obtain ⟨bb,off,hB,hm⟩:∃ bb off,p.B=some ⟨bb,off,none⟩/\p.m=2:=by
  have h2:=ed (items:=items) (tail:=tail) (List.length_pos_iff.2 h0)
  rw [List.drop_zero,<- hr] at h2
  obtain ⟨bb,off,_,_,hB,hm,_⟩:=cY (show ay _ _ _ (dn _ _) p from by rw [<- h2];exact D)
  exact ⟨bb,off,hB,hm⟩
 obtain ⟨A,n,cp,B,m,cap⟩:=p
 have hB:B=some ⟨bb,off,none⟩:=hB
 have hm:m=2:=hm
 subst hB hm
 have h00:0<items.length:=List.length_pos_iff.2 h0
 have h2:=ed (items:=items) (tail:=tail) h00
 rw [List.drop_zero] at h2
 obtain ⟨TT,hTT⟩:∃ TT,TT=am pl r:=⟨_,rfl⟩
 rw [<- hTT] at hlen ⊢
 have HTL:=hid hlen
 have hPS:=PR.start D
 obtain ⟨x,hx⟩:∃ x,x=items[0]'h00:=⟨_,rfl⟩
 obtain ⟨d,hd⟩:∃ d,d=aQ (items.drop (0+1)) tail:=⟨_,rfl⟩
 rw [<- hx,<- hd] at h2
 have hr2:r=dn x d:=hr.trans h2
 have HT0:=hid (show d6 ⟨#[40]⟩ (am pl x++dD pl d) TT from by
  rw [hTT,hr2,gB (r:=dn x d) pl (a:=x) (d:=d) rfl rfl];rfl)
 have HDD:=hid hd
 have HX:Hid (cU x):=hid (by rw [hx];exact HI 0 h00)
 have HII:=hid HI
 have HTN:=hid HT
 have HT7:=hid ht
 have H0:=hid h00
 have hb1:(W.alloc (.cells (rwC r.k r.c r.neg A n cp r.t (some ⟨bb,off,none⟩) 2 cap) 27)).heap[W.heap.size]? = some (.cells (rwC r.k r.c r.neg A n cp r.t (some ⟨bb,off,none⟩) 2 cap) 27 (0,0)):=hN W _
 have HPS:Hid (PR W W.heap.size r ⟨A,n,cp,some ⟨bb,off,none⟩,2,cap⟩ (W.alloc (.cells (rwC r.k r.c r.neg A n cp r.t (some ⟨bb,off,none⟩) 2 cap) 27))):=hid hPS
 have HR2:=hid hr2
 obtain ⟨bb2,off2,v0,v1,hB,hm,_,hi0,hd0,_⟩:=cY (show ay _ _ _ (dn x d) _ from by rw [<- hr2];exact HPS.out.dat)
 injection hB with hB
 injection hB with e1 e2
 subst e1 e2
 obtain ⟨⟨a0,a1,a2,a3,a4,a5⟩,_⟩:=ae hb1
 obtain ⟨c0,c1,c2,c3,c4,c5⟩:=hi0.cells
 simp only [Nat.zero_mul,Nat.add_zero] at c0 c1 c2 c3 c4 c5
 have HD0:=hid hd0
 clear HI HT ht h0 h00 h2 hTT hlen D hr hPS hx hd hr2 hb1 hm hi0 hd0
 go_enter Tryz.func32,Tryz.ntmps32
 go_wp2_with fail
 generalize W.alloc (.cells (rwC r.k r.c r.neg A n cp r.t (some ⟨bb,off,none⟩) 2 cap) 27)=w1 at *
 generalize W.heap.size=B0 at *
 have hlx:(am pl x).length<=1000000000:=by have h1:=HT0.out.size;have:=HTL.out;rw [List.length_append] at h1;omega
 refine (HX.out pl _ _ w1 v0 HD0.out hlx).mono ?_
 rintro e w3 ⟨rfl,k3⟩
 have HP3:=hid (HPS.out.keep0 k3)
 have HPT:Hid (d6 (⟨#[40]⟩++⟨(am pl x).toArray⟩) (dD pl d) TT):=hid (HT0.out.add rfl)
 have hadd:=rA (P:=Tryz.prog) w3 ⟨#[40]⟩ ⟨(am pl x).toArray⟩ (by have h1:(⟨#[40]⟩:ByteArray).size=1:=rfl;have h2:=aR (am pl x);omega)
 generalize (⟨(am pl x).toArray⟩:ByteArray)=h at *
 clear a0 a1 a2 a3 a4 a5 c0 c1 c2 c3 c4 c5 k3 HD0 hlx
 have hbox:w3.heap[B0]? = some (.cells (rwC r.k r.c r.neg A n cp r.t (some ⟨bb,off,none⟩) 2 cap) 27 (0,0)):=HP3.out.box
 obtain ⟨bb2,off2,v0,v1,hB,hm,_,_,_,hi1,hd1⟩:=cY (show ay _ _ _ (dn x d) _ from by rw [<- HR2.out];exact HP3.out.dat)
 injection hB with hB
 injection hB with e1 e2
 subst e1 e2
 obtain ⟨⟨a0,a1,a2,a3,a4,a5⟩,f0,f1,f2,f3,f4,f5⟩:=ae hbox
 obtain ⟨c0,c1,c2,c3,c4,c5⟩:=hi1.cells
 simp only [Nat.one_mul] at c0 c1 c2 c3 c4 c5
 have HP5:=hid (HP3.out.put hd1)
 clear hm hi1 hd1 hbox HPS HT0 HX HP3
 try dsimp only
 go_wp2_with fail
 clear a0 a1 a2 a3 a4 a5 c0 c1 c2 c3 c4 c5 f0 f1 f2 f3 f4 f5 hadd
 go_loopg [7] (items.length - 1) (fun k sv wr=>∃ (i:Nat) (p':PV) (S:ByteArray),i+k=items.length/\sv=.string S/\PR W B0 (aQ (items.drop i) tail) p' wr/\d6 S (dD pl (aQ (items.drop i) tail)) TT)
 case atStart=>exact ⟨0+1,v1,_,by have:=H0.out;omega,rfl,by rw [<- HDD.out];exact HP5.out,by rw [<- HDD.out];exact HPT.out⟩
 case round=>
  obtain ⟨i,p',S,hk,rfl,hp,hpt⟩:=hrel
  have HK:=hid hk
  have HP:=hid hp
  have HPA:=hid hpt
  have HSZ:=hid (show S.size<=1000000000 from by have:=hpt.size;have:=HTL.out;omega)
  by_cases hi:i<items.length
  ·rw [ed hi] at HP HPA
   have HLT:=hid hi
   obtain ⟨x,hx⟩:∃ x,x=items[i]'hi:=⟨_,rfl⟩
   obtain ⟨d,hd⟩:∃ d,d=aQ (items.drop (i+1)) tail:=⟨_,rfl⟩
   have HX:Hid (cU x):=hid (by rw [hx];exact HII.out i hi)
   rw [<- hx,<- hd] at HP HPA
   have HDE:=hid hd
   have HPB:Hid (d6 (S++⟨#[32]⟩) (am pl x++dD pl d) TT):=hid (by
    have:=HPA.out
    rw [eO (r:=dn x d) pl (a:=x) (d:=d) rfl rfl] at this
    exact d6.add (k:=[32]) this rfl)
   have hlx:(am pl x).length<=1000000000:=by have h1:=HPB.out.size;have:=HTL.out;rw [List.length_append] at h1;omega
   have HLX:=hid hlx
   obtain ⟨bb,off,v0,_,hB,hm,_,hi0,hd0,_⟩:=cY HP.out.dat
   have hbox:wr.heap[B0]? = some (.cells (rwC 7 0 false p'.A p'.n p'.cp ⟨#[]⟩ (some ⟨bb,off,none⟩) 2 p'.cap) 27 (0,0)):=by rw [<- hB,<- hm];exact HP.out.box
   obtain ⟨⟨a0,a1,a2,a3,a4,a5⟩,_⟩:=ae hbox
   obtain ⟨c0,c1,c2,c3,c4,c5⟩:=hi0.cells
   simp only [Nat.zero_mul,Nat.add_zero] at c0 c1 c2 c3 c4 c5
   have HD0:=hid hd0
   have hadd0:=rA (P:=Tryz.prog) wr S ⟨#[32]⟩ (by have:=HSZ.out;have h:(⟨#[32]⟩:ByteArray).size=1:=rfl;omega)
   clear hk hp hpt hi hx hd hB hm hi0 hd0 hbox hlx HPA
   try dsimp only
   go_wp2_with fail
   refine (HX.out pl _ _ wr v0 HD0.out HLX.out).mono ?_
   rintro e w4 ⟨rfl,k4⟩
   have HP4:=hid (HP.out.keep0 k4)
   have HPC:Hid (d6 (S++⟨#[32]⟩++⟨(am pl x).toArray⟩) (dD pl d) TT):=hid (HPB.out.add rfl)
   have hadd:=rA (P:=Tryz.prog) w4 (S++⟨#[32]⟩) ⟨(am pl x).toArray⟩ (by have h1:=HPB.out.size;have:=HTL.out;rw [List.length_append] at h1;have h2:=aR (am pl x);omega)
   generalize (⟨(am pl x).toArray⟩:ByteArray)=h at *
   clear a0 a1 a2 a3 a4 a5 c0 c1 c2 c3 c4 c5 k4 hadd0 HD0
   obtain ⟨bb,off,_,v1,hB,hm,_,_,_,hi1,hd1⟩:=cY HP4.out.dat
   have hbox:w4.heap[B0]? = some (.cells (rwC 7 0 false p'.A p'.n p'.cp ⟨#[]⟩ (some ⟨bb,off,none⟩) 2 p'.cap) 27 (0,0)):=by rw [<- hB,<- hm];exact HP4.out.box
   obtain ⟨⟨a0,a1,a2,a3,a4,a5⟩,f0,f1,f2,f3,f4,f5⟩:=ae hbox
   obtain ⟨c0,c1,c2,c3,c4,c5⟩:=hi1.cells
   simp only [Nat.one_mul] at c0 c1 c2 c3 c4 c5
   have HP5:=hid (HP4.out.put hd1)
   clear hB hm hi1 hd1 hbox HP4 HP HPB HX
   try dsimp only
   go_wp2_with fail
   go_roundg (gk - 1)
   case rel=>exact ⟨i+1,v1,_,by have:=HK.out;have:=HLT.out;omega,rfl,by rw [<- HDE.out];exact HP5.out,by rw [<- HDE.out];exact HPC.out⟩
   case measure=>have:=HK.out;have:=HLT.out;omega
  ·have hie:i=items.length:=by omega
   have hl:aQ (items.drop i) tail=tail:=by rw [hie,List.drop_length];rfl
   rw [hl] at HP HPA
   have hbox:wr.heap[B0]? = some (.cells (rwC tail.k tail.c tail.neg p'.A p'.n p'.cp tail.t p'.B p'.m p'.cap) 27 (0,0)):=HP.out.box
   obtain ⟨⟨a0,a1,a2,a3,a4,a5⟩,_⟩:=ae hbox
   have t7:(tail.k == 7)=false:=bF.2 HT7.out
   clear hk hp hpt hie hl hbox hi
   by_cases h0:tail.k=0
   ·have t0:(tail.k == 0)=true:=beq_iff_eq.2 h0
    have HPE:=hid (jW pl h0)
    rw [HPE.out] at HPA
    have HF:=hid (show S++⟨#[41]⟩=⟨TT.toArray⟩ from d6.end (d6.add (k:=[41]) HPA.out rfl))
    have hadd:=rA (P:=Tryz.prog) wr S ⟨#[41]⟩ (by have:=HSZ.out;have h:(⟨#[41]⟩:ByteArray).size=1:=rfl;omega)
    clear h0
    try dsimp only
    go_wp2_with fail
    go_ret
    exact ⟨by rw [<- HF.out];rfl,HP.out.K⟩
   ·have t0:(tail.k == 0)=false:=bF.2 h0
    rw [iz pl HT7.out h0,show (32 :: 46 :: 32 :: (am pl tail++[41]))=[32,46,32]++(am pl tail++[41]) from rfl] at HPA
    have HX:=hid (HTN.out h0)
    have HPB:Hid (d6 (S++⟨#[32,46,32]⟩) (am pl tail++[41]) TT):=hid (HPA.out.add rfl)
    have HLX:Hid ((am pl tail).length<=1000000000):=hid (by have h1:=HPB.out.size;have:=HTL.out;rw [List.length_append] at h1;omega)
    have hadd0:=rA (P:=Tryz.prog) wr S ⟨#[32,46,32]⟩ (by have:=HSZ.out;have h:(⟨#[32,46,32]⟩:ByteArray).size=3:=rfl;omega)
    clear h0
    try dsimp only
    go_wp2_with fail
    refine (HX.out pl _ _ wr p' HP.out.dat HLX.out).mono ?_
    rintro e w4 ⟨rfl,k4⟩
    have HPC:Hid (d6 (S++⟨#[32,46,32]⟩++⟨(am pl tail).toArray⟩) [41] TT):=hid (HPB.out.add rfl)
    have HK4:=hid (HP.out.K.trans k4)
    have hsz:=HPC.out.size
    have hadd:=rA (P:=Tryz.prog) w4 (S++⟨#[32,46,32]⟩) ⟨(am pl tail).toArray⟩ (by have h1:=HPB.out.size;have:=HTL.out;rw [List.length_append] at h1;have h2:=aR (am pl tail);omega)
    generalize (⟨(am pl tail).toArray⟩:ByteArray)=h at *
    have hadd2:=rA (P:=Tryz.prog) w4 (S++⟨#[32,46,32]⟩++h) ⟨#[41]⟩ (by have:=HTL.out;have h3:(⟨#[41]⟩:ByteArray).size=1:=rfl;rw [h3];omega)
    have HF:=hid (show S++⟨#[32,46,32]⟩++h++⟨#[41]⟩=⟨TT.toArray⟩ from d6.end (d6.add (k:=[41]) HPC.out rfl))
    clear k4 hsz hadd0
    try dsimp only
    go_wp2_with fail
    go_ret
    exact ⟨by rw [<- HF.out];rfl,HK4.out⟩
def gb (x:Raw):Prop:=∃ (items:List Raw) (tail:Raw),x=aQ items tail/\tail.k ≠ 7/\(∀ i (h:i<items.length),cU items[i])/\cU tail
theorem gb.self {x:Raw} (h:x.k ≠ 7) (hs:cU x):gb x:=⟨[],x,rfl,h,fun _ h=>absurd h (Nat.not_lt_zero _),hs⟩
theorem gb.cons {a d:Raw} (ha:cU a) (hd:gb d):∃ (items:List Raw) (tail:Raw),dn a d=aQ items tail/\items ≠ []/\tail.k ≠ 7/\(∀ i (h:i<items.length),cU items[i])/\cU tail:=by
 obtain ⟨items,tail,rfl,ht,hi,hs⟩:=hd
 refine ⟨a :: items,tail,rfl,List.cons_ne_nil _ _,ht,fun i h=>?_,hs⟩
 cases i with
 | zero=>exact ha
 | succ i=>exact hi i (by simpa using h)
theorem jU {a d:Raw} (ha:cU a) (hd:gb d):cU (dn a d):=by
 intro pl N Q W p D hlen
 obtain ⟨items,tail,e,h0,ht,hi,hs⟩:=gb.cons ha hd
 exact sV pl items tail ht h0 hi (fun _=>hs) _ p W e N Q D hlen rfl rfl rfl rfl rfl rfl rfl rfl rfl rfl
theorem gb.pair {a d:Raw} (ha:cU a) (hd:gb d):gb (dn a d):=by
 obtain ⟨items,tail,e,_,ht,hi,hs⟩:=gb.cons ha hd
 exact ⟨items,tail,e,ht,hi,hs⟩
theorem nz (f:Raw->List UInt8):∀ (l:List Raw) (i:Nat) (h:i<l.length),(f l[i]).length<=(fE (l.map f)).length/\(f l[i]).length<=(dO (l.map f)).length
 | [],i,h=>absurd h (Nat.not_lt_zero _)
 | x :: l,i,h=>by
  have e:dO ((x :: l).map f)=32 :: f x++dO (l.map f):=rfl
  have e2:fE ((x :: l).map f)=f x++dO (l.map f):=rfl
  rw [e,e2]
  cases i with
  | zero=>simp only [List.getElem_cons_zero,List.length_append,List.length_cons];omega
  | succ i=>
   have:=(nz f l i (by simpa using h)).2
   simp only [List.getElem_cons_succ,List.length_append,List.length_cons]
   omega
theorem pf {V n:Nat} (h:V<BB ^ n):(ai V).length<=32 * n:=by
 refine (aM aT _ _).2 ?_
 rw [Nat.pow_mul]
 exact h
theorem qo {x:Raw} (h:Alike.WellR x):cU x/\gb x:=by
 induction h with
 | @atom k h=>
  have hs:cU (.mk k 0 false [] ⟨#[]⟩ []):=by
   intro pl N Q W p D hlen
   rcases h with rfl | rfl | rfl | rfl | rfl
   ·exact tc _ p pl W rfl
   ·exact sZ _ p pl W rfl rfl
   ·exact sY _ p pl W rfl rfl rfl
   ·exact sX _ p pl W rfl rfl rfl rfl
   ·exact qy _ p pl W rfl rfl rfl rfl rfl
  refine ⟨hs,gb.self ?_ hs⟩
  show k ≠ 7
  omega
 | @chr c h=>
  have hs:cU (.mk 3 (c:Int) false [] ⟨#[]⟩ []):=by
   intro pl N Q W p D hlen
   cases pl with
   | true=>exact qw _ p W rfl rfl rfl rfl rfl rfl c (hid (fun W=>ge c W h))
   | false=>exact qx _ p W rfl rfl rfl rfl rfl rfl (bH c) (by have:=lz c;omega) (hid (fun W=>qB c h W))
  exact ⟨hs,gb.self (show (3:Int) ≠ 7 by decide) hs⟩
 | @int x h=>
  have hs:cU (.mk 4 0 (decide (x<0)) (aA x.natAbs) ⟨#[]⟩ []):=by
   intro pl N Q W p D hlen
   have hx:x=ci (decide (x<0)) (aA x.natAbs):=(jK x).symm
   have e:am pl (.mk 4 0 (decide (x<0)) (aA x.natAbs) ⟨#[]⟩ [])=itoa x:=by
    rw [fx]
    show itoa (ci (decide (x<0)) (aA x.natAbs))=_
    rw [<- hx]
   rw [e]
   have hn:p.n=(aA x.natAbs).length:=D.num.row.1.symm
   have hV:=(iM x).1 h
   refine sW W (.mk 4 0 (decide (x<0)) (aA x.natAbs) ⟨#[]⟩ []) p pl W rfl rfl rfl rfl rfl rfl rfl (itoa x) (hid (fun W1 k1=>?_)) (hid kR)
   refine (wC rfl hx (D.num.keep0 k1) (by omega)).mono ?_
   rintro e w2 ⟨A,n,c,rfl,hb,_,k2⟩
   have hl:n<=32 * 48:=by
    have:=pf hV
    have h2:=hb.row.1
    omega
   exact ⟨_,A,n,c,rfl,k2,qn x _ A n c w2 rfl hb (Nat.lt_of_lt_of_le hV (Nat.pow_le_pow_right (by unfold BB;omega) (by decide))) (by omega)⟩
  exact ⟨hs,gb.self (show (4:Int) ≠ 7 by decide) hs⟩
 | @str t r h hr=>
  have hs:cU (.mk 5 0 false [] t []):=by
   intro pl N Q W p D hlen
   cases pl with
   | true=>exact qu _ p W rfl rfl rfl rfl rfl rfl rfl rfl
   | false=>exact qv _ p W rfl rfl rfl rfl rfl rfl rfl rfl _ (hid (fun W=>vz t r W (eu h hr) h (by omega) (dL _ _ _ (Nat.le_refl _) h).2))
  exact ⟨hs,gb.self (show (5:Int) ≠ 7 by decide) hs⟩
 | @sym t r h hr h0=>
  have hs:cU (.mk 6 0 false [] t []):=by
   intro pl N Q W p D hlen
   cases pl with
   | true=>exact qp _ p W rfl rfl rfl rfl rfl rfl rfl rfl rfl
   | false=>
    have e:=fx false (.mk 6 0 false [] t [])
    have HB:=hid (fun W:World=>qJ t W (eu h hr))
    cases hb:dI t.data.toList with
    | true=>
     rw [show am false (.mk 6 0 false [] t [])=t.data.toList from by rw [e];show (if (false || dI t.data.toList)=true then _ else _)=_;rw [hb];rfl]
     rw [hb] at HB
     exact qt _ p W rfl rfl rfl rfl rfl rfl rfl rfl rfl HB
    | false=>
     rw [show am false (.mk 6 0 false [] t [])=ce 124 t.data.toList from by rw [e];show (if (false || dI t.data.toList)=true then _ else _)=_;rw [hb];rfl]
     rw [hb] at HB
     exact qr _ p W rfl rfl rfl rfl rfl rfl rfl rfl rfl _ HB (hid (fun W=>td t r W (eu h hr) h (by omega) (dL _ _ _ (Nat.le_refl _) h).2))
  exact ⟨hs,gb.self (show (6:Int) ≠ 7 by decide) hs⟩
 | @pair a d _ _ ha hd=>exact ⟨jU ha.1 hd.2,gb.pair ha.1 hd.2⟩
 | @vec l hl _ ih=>
  have hs:cU (.mk 8 0 false [] ⟨#[]⟩ l):=by
   intro pl N Q W p D hlen
   have hn:l.length=p.m:=D.len
   cases D with
   | mk num nP len mcap big vs row ch=>
    refine sU W _ p pl W rfl rfl rfl rfl rfl rfl rfl rfl rfl rfl (hid kR) vs (hid hn) (hid (by omega)) (hid (fun hm=>?_)) (hid (fun i hi W' k=>?_)) (hid hlen) (hid rfl)
    ·obtain ⟨b,off,e,_,hi⟩:=row hm
     exact ⟨b,off,e,hi⟩
    ·refine (ih i hi).1 pl _ _ W' (vs i) ((ch i hi).keep0 k) (Nat.le_trans ?_ hlen)
     rw [iq pl (r:=.mk 8 0 false [] ⟨#[]⟩ l) rfl]
     have:=(nz (am pl) l i hi).1
     show (am pl l[i]).length<=(35 :: 40 :: (fE (l.map (am pl))++[41])).length
     simp only [List.length_cons,List.length_append]
     omega
  exact ⟨hs,gb.self (show (8:Int) ≠ 7 by decide) hs⟩
end Go.Proofs.YtonnikipeokkaaaGreatDoor

namespace Go.Proofs.YtonnikipeokkaaaGreatDoor
set_option maxRecDepth 100000
set_option maxHeartbeats 8000000
open Go.Lib (hid)
open Go.RowKit Go.Lib
theorem aP.t126 {w:World} {base n c:Nat} {A:Option Addr} {l:List Nat} (h:aP 126 .u32 w base A n c l):0<n->∀ b off,A=some ⟨b,off,none⟩->iK w b:=by
 rintro hn b off rfl
 rcases h.2 with ⟨hv,h0⟩ | ⟨g,cap,cur,hv,hg,hh,h1,h2⟩
 ·omega
 ·injection hv with e1 _ _
  injection e1 with e1
  injection e1 with e1
  subst e1
  exact ⟨cur,hh⟩
theorem CpS.begin {W w2:World} {r:Raw} {A1:Option Addr} {n1 cp1:Nat} {x3:Value} {B:Option Addr} {m cap:Nat} (K:K0 W w2)
 (h1:w2.heap[W.heap.size]? = some (.cells #[.int .i64 r.k,.int .i32 r.c,.bool r.neg,x3,.string r.t,.slice B m cap] 27 (0,0)))
 (h2:w2.heap[W.heap.size+1]? = some (.cells (rwC 0 0 false none 0 0 ⟨#[]⟩ none 0 0) 27 (0,0)))
 (hown:aP 126 .u32 w2 (W.heap.size+2) A1 n1 cp1 r.mag) (low:Low BB r.mag) (hn:n1<=100000):CpS W r A1 n1 cp1 B m cap 0 [] none 0 (w2.setCell ⟨W.heap.size,3,none⟩ (.slice A1 n1 cp1)):=by
 have KS:ah (fun b=>b=W.heap.size) w2 (w2.setCell ⟨W.heap.size,3,none⟩ (.slice A1 n1 cp1)):=ah.setCell (S:=fun b=>b=W.heap.size) (p:=⟨W.heap.size,3,none⟩) kR (.inl rfl) _
 have hfr:=hown.fresh
 exact ⟨rfl,Nat.zero_le _,⟨rfl,.inl ⟨rfl,rfl⟩⟩,fun y hy=>absurd hy (by simp),by simp [World.setCell,Array.getElem?_modify,h1],KS.heap h2 (by omega),(hown.toLimbs low hn).keep KS (fun hn b off e hb=>by have:=(hfr b off e).1;omega),fun hn b off e=>(hown.t126 hn b off e).keep KS (fun hb=>by have:=(hfr b off e).1;omega),K.into KS (by rintro b rfl;exact Nat.le_refl _)⟩
theorem jt (r:Raw) (ad:Addr) (n cp:Nat) (B:Option Addr) (m cap:Nat) (vs:Nat->PV) (w W:World) (HW:Hid (K0 w W)) (HN:Hid (aq W (some ad) n cp r.mag)) (HLEN:Hid (r.l.length=m)) (hcap:m<=cap) (hbig:m * 88<=140737488351232) (hm:m=0):Calls Tryz.prog 29 #[.agg (rwC r.k r.c r.neg (some ad) n cp r.t B m cap)] W (b8 r W):=by
 have HM0:=hid hm
 clear hm
 obtain ⟨i27,h27,hz0,hz1,hz2⟩:=info_parts kj
 have HB1:=hid (show ((W.alloc (.cells (rwC r.k r.c r.neg (some ad) n cp r.t B m cap) 27)).alloc (.cells (rwC 0 0 false none 0 0 ⟨#[]⟩ none 0 0) 27)).heap[W.heap.size]? = some (.cells (rwC r.k r.c r.neg (some ad) n cp r.t B m cap) 27 (0,0)) from cw (hN W _) _)
 have HB2:=hid (show ((W.alloc (.cells (rwC r.k r.c r.neg (some ad) n cp r.t B m cap) 27)).alloc (.cells (rwC 0 0 false none 0 0 ⟨#[]⟩ none 0 0) 27)).heap[W.heap.size+1]? = some (.cells (rwC 0 0 false none 0 0 ⟨#[]⟩ none 0 0) 27 (0,0)) from by have:=hN (W.alloc (.cells (rwC r.k r.c r.neg (some ad) n cp r.t B m cap) 27)) (.cells (rwC 0 0 false none 0 0 ⟨#[]⟩ none 0 0) 27);rwa [World.size_alloc] at this)
 have HK1:=hid (show K0 W ((W.alloc (.cells (rwC r.k r.c r.neg (some ad) n cp r.t B m cap) 27)).alloc (.cells (rwC 0 0 false none 0 0 ⟨#[]⟩ none 0 0) 27)) from (kR.alloc _).alloc _)
 obtain ⟨⟨a0,a1,a2,a3,a4,a5⟩,_⟩:=ae HB1.out
 obtain ⟨i63,h63,u0,u1,u2⟩:=info_parts kh
 have hmx:=HN.out.max
 have HML:=hid HN.out.len
 have HNEW:=hid (((HN.out.keep0 HK1.out).keep0 ((ah.refl (fun _=>False) ((W.alloc (.cells (rwC r.k r.c r.neg (some ad) n cp r.t B m cap) 27)).alloc (.cells (rwC 0 0 false none 0 0 ⟨#[]⟩ none 0 0) 27))).alloc (.cells #[] 126))).row)
 have HE:=hid (show (((W.alloc (.cells (rwC r.k r.c r.neg (some ad) n cp r.t B m cap) 27)).alloc (.cells (rwC 0 0 false none 0 0 ⟨#[]⟩ none 0 0) 27)).alloc (.cells #[] 126)).ownsRow (W.heap.size+2) 126 1 (.slice (some ⟨W.heap.size+1+1,0,none⟩) 0 0) 0 [] from by have:=fH ((W.alloc (.cells (rwC r.k r.c r.neg (some ad) n cp r.t B m cap) 27)).alloc (.cells (rwC 0 0 false none 0 0 ⟨#[]⟩ none 0 0) 27)) 126;rwa [World.size_alloc,World.size_alloc] at this)
 go_enter Tryz.func29,Tryz.ntmps29
 go_wp2_with (at_builtin;refine wpList_append_own _ rfl (.tmp 5) (.tmp 8) 22 rfl (W.heap.size+2) 126 i63 (.int .u32 0) 1 4 Tryz.underlying22 h63 u0 u1 u2 rfl (by decide) _ _ _ rfl HE.out ad n cp (r.mag.map fun x:Nat=>Value.int .u32 (x:Int)) rfl (by rw [List.length_map,HML.out,Nat.mul_one]) HNEW.out.news ?a1 ?a2 ?a3 ?a4 ?_)
 case a1=>
  intro u hu
  obtain ⟨y,_,rfl⟩:=List.mem_map.1 hu
  rfl
 case a2=>unfold maxLen;omega
 case a3=>omega
 case a4=>simp
 intro v' w2 hown hgrow _
 have k2:K0 ((W.alloc (.cells (rwC r.k r.c r.neg (some ad) n cp r.t B m cap) 27)).alloc (.cells (rwC 0 0 false none 0 0 ⟨#[]⟩ none 0 0) 27)) w2:=(kR.alloc _).grown hgrow (fun k hk=>.inr (by simp [Value.ownBlock] at hk;simp;omega))
 have hown2:w2.ownsRow (W.heap.size+2) 126 1 v' n (r.mag.map fun x:Nat=>Value.int .u32 (x:Int)):=by simpa using hown
 obtain ⟨A1,cp1,rfl,own⟩:=cj hown2
 have HB12:=hid (k2.heap HB1.out id)
 have HB22:=hid (k2.heap HB2.out id)
 have HST:=hid (CpS.begin (HK1.out.trans k2) HB12.out HB22.out own HN.out.low (by omega))
 obtain ⟨⟨z0,z1,z2,z3,z4,z5⟩,y0,y1,y2,y3,y4,y5⟩:=ae HB12.out
 clear hown hgrow hown2 own k2 a0 a1 a2 a3 a4 a5 u0 u1 u2 h63
 try dsimp only
 go_wp2_with fail
 clear z0 z1 z2 z3 z4 z5 y0 y1 y2 y3 y4 y5 HB12 HB22
 generalize w2.setCell ⟨W.heap.size,3,none⟩ (.slice A1 n cp1)=w3 at *
 go_loopw [3,4] (fun lv iv wr=>∃ (i rc:Nat) (xs:List (Raw × PV)) (R:Option Addr),lv=.slice R i rc/\iv=.int .i64 (i:Int)/\CpS W r A1 n cp1 B m cap i xs R rc wr) (fun _ iv _=>m - (intOf iv).toNat)
 case atStart=>exact ⟨0,0,[],none,rfl,rfl,HST.out⟩
 case round=>
  obtain ⟨i,rc,xs,R,rfl,rfl,hst⟩:=hrel
  have HS:=hid hst
  have hrc:=fa hst.own
  clear hst HST
  by_cases hlt:i<m
  ·have:=HM0.out
   omega
  ·skip
   have l1:decide ((i:Int)<(m:Int))=false:=dF (by omega)
   have l2:decide (i<m)=false:=dF (by omega)
   have him:i=m:=by have:=HS.out.le;have:=HLEN.out;omega
   subst him
   have hsz:=HLEN.out
   have HB1:=hid HS.out.h1
   have KS:ah (fun b=>b=W.heap.size) wr (wr.setCell ⟨W.heap.size,5,none⟩ (.slice R i rc)):=ah.setCell (S:=fun b=>b=W.heap.size) (p:=⟨W.heap.size,5,none⟩) kR (.inl rfl) _
   obtain ⟨⟨z0,z1,z2,z3,z4,z5⟩,y0,y1,y2,y3,y4,y5⟩:=ae HS.out.h1
   obtain ⟨⟨b0,b1,b2,b3,b4,b5⟩,f0,f1,f2,f3,f4,f5⟩:=ae HS.out.h2
   have HB2s:=hid (KS.heap HS.out.h2 (by omega))
   have HD:=hid (HS.out.out hsz hbig)
   have HKE:=hid (HS.out.K.into KS (by rintro b rfl;exact Nat.le_refl _))
   have HE:=hid (eS HKE.out (show W.heap.size<=W.heap.size+1 by omega) (.int .i64 r.k) (.int .i32 r.c) (.bool r.neg) (.slice A1 n cp1) (.string r.t) (.slice R i rc))
   have HR:=hid (ae (dR HB2s.out (.int .i64 r.k) (.int .i32 r.c) (.bool r.neg) (.slice A1 n cp1) (.string r.t) (.slice R i rc))).1
   have HKS:=hid KS
   clear KS hsz
   go_wp2_with fail
   refine bodyPost_ret (v:=.agg (rwC r.k r.c r.neg A1 n cp1 r.t R i rc)) ?_ rfl ?_
   ·obtain ⟨e0,e1,e2,e3,e4,e5⟩:=HR.out
    simp [results,Tryz.results29,go_sem,e0,e1,e2,e3,e4,e5]
   ·refine ⟨⟨A1,n,cp1,R,i,rc⟩,rfl,?_,HE.out⟩
    refine ((HD.out.keep HKS.out ?_).keep (cF _ _ (.int .i64 r.k) (.int .i32 r.c) (.bool r.neg) (.slice A1 n cp1) (.string r.t) (.slice R i rc)) ?_).mono (fun b _ hb=>by omega)
    ·rintro b rfl
     exact ⟨by omega,bI HB1.out (by decide)⟩
    ·rintro b rfl
     exact ⟨by omega,bI HB2s.out (by decide)⟩
theorem js (r:Raw) (ad:Addr) (n cp:Nat) (g o:Nat) (m cap:Nat) (vs:Nat->PV) (w W:World) (HW:Hid (K0 w W)) (HN:Hid (aq W (some ad) n cp r.mag)) (HLEN:Hid (r.l.length=m)) (hcap:m<=cap) (hbig:m * 88<=140737488351232) (HROW:Hid (∀ i (h:i<r.l.length),cV w g o i r.l[i] (vs i))) (IH:Hid (∀ i (h:i<r.l.length) (W':World),K0 w W'->Calls Tryz.prog 29 #[rawV r.l[i] (vs i)] W' (b8 r.l[i] W'))):Calls Tryz.prog 29 #[.agg (rwC r.k r.c r.neg (some ad) n cp r.t (some ⟨g,o,none⟩) m cap)] W (b8 r W):=by
 obtain ⟨i27,h27,hz0,hz1,hz2⟩:=info_parts kj
 have HB1:=hid (show ((W.alloc (.cells (rwC r.k r.c r.neg (some ad) n cp r.t (some ⟨g,o,none⟩) m cap) 27)).alloc (.cells (rwC 0 0 false none 0 0 ⟨#[]⟩ none 0 0) 27)).heap[W.heap.size]? = some (.cells (rwC r.k r.c r.neg (some ad) n cp r.t (some ⟨g,o,none⟩) m cap) 27 (0,0)) from cw (hN W _) _)
 have HB2:=hid (show ((W.alloc (.cells (rwC r.k r.c r.neg (some ad) n cp r.t (some ⟨g,o,none⟩) m cap) 27)).alloc (.cells (rwC 0 0 false none 0 0 ⟨#[]⟩ none 0 0) 27)).heap[W.heap.size+1]? = some (.cells (rwC 0 0 false none 0 0 ⟨#[]⟩ none 0 0) 27 (0,0)) from by have:=hN (W.alloc (.cells (rwC r.k r.c r.neg (some ad) n cp r.t (some ⟨g,o,none⟩) m cap) 27)) (.cells (rwC 0 0 false none 0 0 ⟨#[]⟩ none 0 0) 27);rwa [World.size_alloc] at this)
 have HK1:=hid (show K0 W ((W.alloc (.cells (rwC r.k r.c r.neg (some ad) n cp r.t (some ⟨g,o,none⟩) m cap) 27)).alloc (.cells (rwC 0 0 false none 0 0 ⟨#[]⟩ none 0 0) 27)) from (kR.alloc _).alloc _)
 obtain ⟨⟨a0,a1,a2,a3,a4,a5⟩,_⟩:=ae HB1.out
 obtain ⟨i63,h63,u0,u1,u2⟩:=info_parts kh
 have hmx:=HN.out.max
 have HML:=hid HN.out.len
 have HNEW:=hid (((HN.out.keep0 HK1.out).keep0 ((ah.refl (fun _=>False) ((W.alloc (.cells (rwC r.k r.c r.neg (some ad) n cp r.t (some ⟨g,o,none⟩) m cap) 27)).alloc (.cells (rwC 0 0 false none 0 0 ⟨#[]⟩ none 0 0) 27))).alloc (.cells #[] 126))).row)
 have HE:=hid (show (((W.alloc (.cells (rwC r.k r.c r.neg (some ad) n cp r.t (some ⟨g,o,none⟩) m cap) 27)).alloc (.cells (rwC 0 0 false none 0 0 ⟨#[]⟩ none 0 0) 27)).alloc (.cells #[] 126)).ownsRow (W.heap.size+2) 126 1 (.slice (some ⟨W.heap.size+1+1,0,none⟩) 0 0) 0 [] from by have:=fH ((W.alloc (.cells (rwC r.k r.c r.neg (some ad) n cp r.t (some ⟨g,o,none⟩) m cap) 27)).alloc (.cells (rwC 0 0 false none 0 0 ⟨#[]⟩ none 0 0) 27)) 126;rwa [World.size_alloc,World.size_alloc] at this)
 go_enter Tryz.func29,Tryz.ntmps29
 go_wp2_with (at_builtin;refine wpList_append_own _ rfl (.tmp 5) (.tmp 8) 22 rfl (W.heap.size+2) 126 i63 (.int .u32 0) 1 4 Tryz.underlying22 h63 u0 u1 u2 rfl (by decide) _ _ _ rfl HE.out ad n cp (r.mag.map fun x:Nat=>Value.int .u32 (x:Int)) rfl (by rw [List.length_map,HML.out,Nat.mul_one]) HNEW.out.news ?a1 ?a2 ?a3 ?a4 ?_)
 case a1=>
  intro u hu
  obtain ⟨y,_,rfl⟩:=List.mem_map.1 hu
  rfl
 case a2=>unfold maxLen;omega
 case a3=>omega
 case a4=>simp
 intro v' w2 hown hgrow _
 have k2:K0 ((W.alloc (.cells (rwC r.k r.c r.neg (some ad) n cp r.t (some ⟨g,o,none⟩) m cap) 27)).alloc (.cells (rwC 0 0 false none 0 0 ⟨#[]⟩ none 0 0) 27)) w2:=(kR.alloc _).grown hgrow (fun k hk=>.inr (by simp [Value.ownBlock] at hk;simp;omega))
 have hown2:w2.ownsRow (W.heap.size+2) 126 1 v' n (r.mag.map fun x:Nat=>Value.int .u32 (x:Int)):=by simpa using hown
 obtain ⟨A1,cp1,rfl,own⟩:=cj hown2
 have HB12:=hid (k2.heap HB1.out id)
 have HB22:=hid (k2.heap HB2.out id)
 have HST:=hid (CpS.begin (HK1.out.trans k2) HB12.out HB22.out own HN.out.low (by omega))
 obtain ⟨⟨z0,z1,z2,z3,z4,z5⟩,y0,y1,y2,y3,y4,y5⟩:=ae HB12.out
 clear hown hgrow hown2 own k2 a0 a1 a2 a3 a4 a5 u0 u1 u2 h63
 try dsimp only
 go_wp2_with fail
 clear z0 z1 z2 z3 z4 z5 y0 y1 y2 y3 y4 y5 HB12 HB22
 generalize w2.setCell ⟨W.heap.size,3,none⟩ (.slice A1 n cp1)=w3 at *
 go_loopw [3,4] (fun lv iv wr=>∃ (i rc:Nat) (xs:List (Raw × PV)) (R:Option Addr),lv=.slice R i rc/\iv=.int .i64 (i:Int)/\CpS W r A1 n cp1 (some ⟨g,o,none⟩) m cap i xs R rc wr) (fun _ iv _=>m - (intOf iv).toNat)
 case atStart=>exact ⟨0,0,[],none,rfl,rfl,HST.out⟩
 case round=>
  obtain ⟨i,rc,xs,R,rfl,rfl,hst⟩:=hrel
  have HS:=hid hst
  have hrc:=fa hst.own
  clear hst HST
  by_cases hlt:i<m
  ·skip
   have l1:decide ((i:Int)<(m:Int))=true:=dT (by omega)
   have l2:decide (i<m)=true:=dT hlt
   have hi:i<r.l.length:=by rw [HLEN.out];exact hlt
   obtain ⟨y,hy⟩:∃ y,y=r.l[i]:=⟨_,rfl⟩
   obtain ⟨v,hv⟩:∃ v,v=vs i:=⟨_,rfl⟩
   have hic:=(HROW.out i hi).keep (HW.out.trans HS.out.K) id
   rw [<- hy,<- hv] at hic
   obtain ⟨r0,r1,r2,r3,r4,r5⟩:=hic.cells
   have HIH:=hid (fun (W':World) (K:K0 wr W')=>(show Calls Tryz.prog 29 #[rawV y v] W' (b8 y W') from by rw [hy,hv];exact IH.out i hi W' ((HW.out.trans HS.out.K).trans K)))
   have HY:=hid hy
   have hi0:(0:Int)<=(i:Int):=Int.natCast_nonneg _
   have hi1:(i:Int)<(m:Int):=by omega
   obtain ⟨⟨b0,b1,b2,b3,b4,b5⟩,_⟩:=ae HS.out.h1
   clear hic hy hv
   go_wp2_with fail
   refine (HIH.out _ kR).mono ?_
   rintro e w4 ⟨v2,rfl,hd2,k4⟩
   have K6:=hid (k4.alloc (.cells (rwC y.k y.c y.neg v2.A v2.n v2.cp y.t v2.B v2.m v2.cap) 27))
   have HOWN:=hid (gQ HS.out.own K6.out (fun _ _=>id))
   have HNEW:=hid (lZ (hN w4 (.cells (rwC y.k y.c y.neg v2.A v2.n v2.cp y.t v2.B v2.m v2.cap) 27)))
   have HBASE:=hid (show W.heap.size+2<=(w4.alloc (.cells (rwC y.k y.c y.neg v2.A v2.n v2.cp y.t v2.B v2.m v2.cap) 27)).heap.size from by have:=K6.out.size;have:=az HS.out.h2;omega)
   have HD6:=hid (show bR (fun b=>wr.heap.size<=b) (w4.alloc (.cells (rwC y.k y.c y.neg v2.A v2.n v2.cp y.t v2.B v2.m v2.cap) 27)) y v2 from hd2.keep0 (kR.alloc _))
   clear hd2 k4 r0 r1 r2 r3 r4 r5 b0 b1 b2 b3 b4 b5
   have hrow27:(i+1) * 88<=140737488355328:=by omega
   try dsimp only
   go_wp2_with (at_builtin;refine wpList_append_own_at _ rfl (.tmp 19) (.tmp 26) 25 rfl (W.heap.size+2) 27 i27 (.agg (rwC 0 0 false none 0 0 ⟨#[]⟩ none 0 0)) 6 88 Tryz.underlying25 h27 hz0 hz1 hz2 rfl (by decide) _ _ _ rfl HOWN.out ⟨w4.heap.size,0,none⟩ 1 1 [.int .i64 y.k,.int .i32 y.c,.bool y.neg,.slice v2.A v2.n v2.cp,.string y.t,.slice v2.B v2.m v2.cap] rfl rfl HNEW.out ?a1 ?a2 ?a3 HBASE.out ?_)
   case a1=>intro u hu;simp only [List.mem_cons,List.not_mem_nil,or_false] at hu;rcases hu with rfl | rfl | rfl | rfl | rfl | rfl<;>rfl
   case a2=>unfold maxLen;omega
   case a3=>omega
   intro v' w6 hown hgrow _ hblk
   obtain ⟨A3,c3,rfl,HM⟩:=HS.out.item hi K6.out (by rw [<- HY.out];exact HD6.out) (by rw [<- HY.out];exact hown) hgrow (by rw [World.size_alloc];exact hblk)
   have HMM:=hid HM
   clear hown hgrow HM hblk hrow27
   go_wp2_with fail
   go_roundw
   case rel=>exact ⟨i+1,c3,_,A3,rfl,by go_num,HMM.out⟩
   case measure=>simp only [intOf];omega
  ·skip
   have l1:decide ((i:Int)<(m:Int))=false:=dF (by omega)
   have l2:decide (i<m)=false:=dF (by omega)
   have him:i=m:=by have:=HS.out.le;have:=HLEN.out;omega
   subst him
   have hsz:=HLEN.out
   have HB1:=hid HS.out.h1
   have KS:ah (fun b=>b=W.heap.size) wr (wr.setCell ⟨W.heap.size,5,none⟩ (.slice R i rc)):=ah.setCell (S:=fun b=>b=W.heap.size) (p:=⟨W.heap.size,5,none⟩) kR (.inl rfl) _
   obtain ⟨⟨z0,z1,z2,z3,z4,z5⟩,y0,y1,y2,y3,y4,y5⟩:=ae HS.out.h1
   obtain ⟨⟨b0,b1,b2,b3,b4,b5⟩,f0,f1,f2,f3,f4,f5⟩:=ae HS.out.h2
   have HB2s:=hid (KS.heap HS.out.h2 (by omega))
   have HD:=hid (HS.out.out hsz hbig)
   have HKE:=hid (HS.out.K.into KS (by rintro b rfl;exact Nat.le_refl _))
   have HE:=hid (eS HKE.out (show W.heap.size<=W.heap.size+1 by omega) (.int .i64 r.k) (.int .i32 r.c) (.bool r.neg) (.slice A1 n cp1) (.string r.t) (.slice R i rc))
   have HR:=hid (ae (dR HB2s.out (.int .i64 r.k) (.int .i32 r.c) (.bool r.neg) (.slice A1 n cp1) (.string r.t) (.slice R i rc))).1
   have HKS:=hid KS
   clear KS hsz
   go_wp2_with fail
   refine bodyPost_ret (v:=.agg (rwC r.k r.c r.neg A1 n cp1 r.t R i rc)) ?_ rfl ?_
   ·obtain ⟨e0,e1,e2,e3,e4,e5⟩:=HR.out
    simp [results,Tryz.results29,go_sem,e0,e1,e2,e3,e4,e5]
   ·refine ⟨⟨A1,n,cp1,R,i,rc⟩,rfl,?_,HE.out⟩
    refine ((HD.out.keep HKS.out ?_).keep (cF _ _ (.int .i64 r.k) (.int .i32 r.c) (.bool r.neg) (.slice A1 n cp1) (.string r.t) (.slice R i rc)) ?_).mono (fun b _ hb=>by omega)
    ·rintro b rfl
     exact ⟨by omega,bI HB1.out (by decide)⟩
    ·rintro b rfl
     exact ⟨by omega,bI HB2s.out (by decide)⟩
theorem jv (r:Raw)  (n cp:Nat) (B:Option Addr) (m cap:Nat) (vs:Nat->PV) (w W:World) (HW:Hid (K0 w W)) (HN:Hid (aq W none n cp r.mag)) (HLEN:Hid (r.l.length=m)) (hcap:m<=cap) (hbig:m * 88<=140737488351232) (hm:m=0):Calls Tryz.prog 29 #[.agg (rwC r.k r.c r.neg none n cp r.t B m cap)] W (b8 r W):=by
 have HM0:=hid hm
 clear hm
 obtain ⟨i27,h27,hz0,hz1,hz2⟩:=info_parts kj
 obtain ⟨hn,hl⟩:n=0/\r.mag=[]:=by
  have hn:n=0:=by
   rcases Nat.eq_zero_or_pos n with e | e
   ·exact e
   ·obtain ⟨b,off,e,_⟩:=HN.out.lt e
    cases e
  exact ⟨hn,List.eq_nil_of_length_eq_zero (by rw [HN.out.len,hn])⟩
 subst hn
 have HMAG:=hid hl
 clear hl
 have HB1:=hid (show ((W.alloc (.cells (rwC r.k r.c r.neg none 0 cp r.t B m cap) 27)).alloc (.cells (rwC 0 0 false none 0 0 ⟨#[]⟩ none 0 0) 27)).heap[W.heap.size]? = some (.cells (rwC r.k r.c r.neg none 0 cp r.t B m cap) 27 (0,0)) from cw (hN W _) _)
 have HB2:=hid (show ((W.alloc (.cells (rwC r.k r.c r.neg none 0 cp r.t B m cap) 27)).alloc (.cells (rwC 0 0 false none 0 0 ⟨#[]⟩ none 0 0) 27)).heap[W.heap.size+1]? = some (.cells (rwC 0 0 false none 0 0 ⟨#[]⟩ none 0 0) 27 (0,0)) from by have:=hN (W.alloc (.cells (rwC r.k r.c r.neg none 0 cp r.t B m cap) 27)) (.cells (rwC 0 0 false none 0 0 ⟨#[]⟩ none 0 0) 27);rwa [World.size_alloc] at this)
 have HK1:=hid (show K0 W ((W.alloc (.cells (rwC r.k r.c r.neg none 0 cp r.t B m cap) 27)).alloc (.cells (rwC 0 0 false none 0 0 ⟨#[]⟩ none 0 0) 27)) from (kR.alloc _).alloc _)
 obtain ⟨⟨a0,a1,a2,a3,a4,a5⟩,_⟩:=ae HB1.out
 have HW2:Hid (CpS W r (some ⟨W.heap.size+1+1,0,none⟩) 0 0 B m cap 0 [] none 0 (((W.alloc (.cells (rwC r.k r.c r.neg (some ⟨W.heap.size+1+1,0,none⟩) 0 0 r.t B m cap) 27)).alloc (.cells (rwC 0 0 false none 0 0 ⟨#[]⟩ none 0 0) 27)).alloc (.cells #[] 126))):=hid (by
  have hu:=fH ((W.alloc (.cells (rwC r.k r.c r.neg (some ⟨W.heap.size+1+1,0,none⟩) 0 0 r.t B m cap) 27)).alloc (.cells (rwC 0 0 false none 0 0 ⟨#[]⟩ none 0 0) 27)) 126
  rw [World.size_alloc,World.size_alloc] at hu
  have hb2:(((W.alloc (.cells (rwC r.k r.c r.neg (some ⟨W.heap.size+1+1,0,none⟩) 0 0 r.t B m cap) 27)).alloc (.cells (rwC 0 0 false none 0 0 ⟨#[]⟩ none 0 0) 27)).alloc (.cells #[] 126)).heap[W.heap.size+1]? = some (.cells (rwC 0 0 false none 0 0 ⟨#[]⟩ none 0 0) 27 (0,0)):=cw (by have:=hN (W.alloc (.cells (rwC r.k r.c r.neg (some ⟨W.heap.size+1+1,0,none⟩) 0 0 r.t B m cap) 27)) (.cells (rwC 0 0 false none 0 0 ⟨#[]⟩ none 0 0) 27);rwa [World.size_alloc] at this) _
  have o:aP 126 .u32 (((W.alloc (.cells (rwC r.k r.c r.neg (some ⟨W.heap.size+1+1,0,none⟩) 0 0 r.t B m cap) 27)).alloc (.cells (rwC 0 0 false none 0 0 ⟨#[]⟩ none 0 0) 27)).alloc (.cells #[] 126)) (W.heap.size+2) (some ⟨W.heap.size+1+1,0,none⟩) 0 0 r.mag:=by
   rw [HMAG.out]
   exact hu
  exact ⟨rfl,Nat.zero_le _,⟨rfl,.inl ⟨rfl,rfl⟩⟩,fun y hy=>absurd hy (by simp),cw (cw (hN W _) _) _,hb2,o.toLimbs HN.out.low (by omega),o.t126,((kR.alloc _).alloc _).alloc _⟩)
 go_enter Tryz.func29,Tryz.ntmps29
 go_wp2_with fail
 have HST:=HW2
 clear HW2 a0 a1 a2 a3 a4 a5
 generalize (((W.alloc (.cells (rwC r.k r.c r.neg (some ⟨W.heap.size+1+1,0,none⟩) 0 0 r.t B m cap) 27)).alloc (.cells (rwC 0 0 false none 0 0 ⟨#[]⟩ none 0 0) 27)).alloc (.cells #[] 126))=w3 at *
 generalize (some ⟨W.heap.size+1+1,0,none⟩:Option Addr)=A1 at HST
 go_loopw [3,4] (fun lv iv wr=>∃ (i rc:Nat) (xs:List (Raw × PV)) (R:Option Addr),lv=.slice R i rc/\iv=.int .i64 (i:Int)/\CpS W r A1 0 0 B m cap i xs R rc wr) (fun _ iv _=>m - (intOf iv).toNat)
 case atStart=>exact ⟨0,0,[],none,rfl,rfl,HST.out⟩
 case round=>
  obtain ⟨i,rc,xs,R,rfl,rfl,hst⟩:=hrel
  have HS:=hid hst
  have hrc:=fa hst.own
  clear hst HST
  by_cases hlt:i<m
  ·have:=HM0.out
   omega
  ·skip
   have l1:decide ((i:Int)<(m:Int))=false:=dF (by omega)
   have l2:decide (i<m)=false:=dF (by omega)
   have him:i=m:=by have:=HS.out.le;have:=HLEN.out;omega
   subst him
   have hsz:=HLEN.out
   have HB1:=hid HS.out.h1
   have KS:ah (fun b=>b=W.heap.size) wr (wr.setCell ⟨W.heap.size,5,none⟩ (.slice R i rc)):=ah.setCell (S:=fun b=>b=W.heap.size) (p:=⟨W.heap.size,5,none⟩) kR (.inl rfl) _
   obtain ⟨⟨z0,z1,z2,z3,z4,z5⟩,y0,y1,y2,y3,y4,y5⟩:=ae HS.out.h1
   obtain ⟨⟨b0,b1,b2,b3,b4,b5⟩,f0,f1,f2,f3,f4,f5⟩:=ae HS.out.h2
   have HB2s:=hid (KS.heap HS.out.h2 (by omega))
   have HD:=hid (HS.out.out hsz hbig)
   have HKE:=hid (HS.out.K.into KS (by rintro b rfl;exact Nat.le_refl _))
   have HE:=hid (eS HKE.out (show W.heap.size<=W.heap.size+1 by omega) (.int .i64 r.k) (.int .i32 r.c) (.bool r.neg) (.slice A1 0 0) (.string r.t) (.slice R i rc))
   have HR:=hid (ae (dR HB2s.out (.int .i64 r.k) (.int .i32 r.c) (.bool r.neg) (.slice A1 0 0) (.string r.t) (.slice R i rc))).1
   have HKS:=hid KS
   clear KS hsz
   go_wp2_with fail
   refine bodyPost_ret (v:=.agg (rwC r.k r.c r.neg A1 0 0 r.t R i rc)) ?_ rfl ?_
   ·obtain ⟨e0,e1,e2,e3,e4,e5⟩:=HR.out
    simp [results,Tryz.results29,go_sem,e0,e1,e2,e3,e4,e5]
   ·refine ⟨⟨A1,0,0,R,i,rc⟩,rfl,?_,HE.out⟩
    refine ((HD.out.keep HKS.out ?_).keep (cF _ _ (.int .i64 r.k) (.int .i32 r.c) (.bool r.neg) (.slice A1 0 0) (.string r.t) (.slice R i rc)) ?_).mono (fun b _ hb=>by omega)
    ·rintro b rfl
     exact ⟨by omega,bI HB1.out (by decide)⟩
    ·rintro b rfl
     exact ⟨by omega,bI HB2s.out (by decide)⟩
theorem ju (r:Raw)  (n cp:Nat) (g o:Nat) (m cap:Nat) (vs:Nat->PV) (w W:World) (HW:Hid (K0 w W)) (HN:Hid (aq W none n cp r.mag)) (HLEN:Hid (r.l.length=m)) (hcap:m<=cap) (hbig:m * 88<=140737488351232) (HROW:Hid (∀ i (h:i<r.l.length),cV w g o i r.l[i] (vs i))) (IH:Hid (∀ i (h:i<r.l.length) (W':World),K0 w W'->Calls Tryz.prog 29 #[rawV r.l[i] (vs i)] W' (b8 r.l[i] W'))):Calls Tryz.prog 29 #[.agg (rwC r.k r.c r.neg none n cp r.t (some ⟨g,o,none⟩) m cap)] W (b8 r W):=by
 obtain ⟨i27,h27,hz0,hz1,hz2⟩:=info_parts kj
 obtain ⟨hn,hl⟩:n=0/\r.mag=[]:=by
  have hn:n=0:=by
   rcases Nat.eq_zero_or_pos n with e | e
   ·exact e
   ·obtain ⟨b,off,e,_⟩:=HN.out.lt e
    cases e
  exact ⟨hn,List.eq_nil_of_length_eq_zero (by rw [HN.out.len,hn])⟩
 subst hn
 have HMAG:=hid hl
 clear hl
 have HB1:=hid (show ((W.alloc (.cells (rwC r.k r.c r.neg none 0 cp r.t (some ⟨g,o,none⟩) m cap) 27)).alloc (.cells (rwC 0 0 false none 0 0 ⟨#[]⟩ none 0 0) 27)).heap[W.heap.size]? = some (.cells (rwC r.k r.c r.neg none 0 cp r.t (some ⟨g,o,none⟩) m cap) 27 (0,0)) from cw (hN W _) _)
 have HB2:=hid (show ((W.alloc (.cells (rwC r.k r.c r.neg none 0 cp r.t (some ⟨g,o,none⟩) m cap) 27)).alloc (.cells (rwC 0 0 false none 0 0 ⟨#[]⟩ none 0 0) 27)).heap[W.heap.size+1]? = some (.cells (rwC 0 0 false none 0 0 ⟨#[]⟩ none 0 0) 27 (0,0)) from by have:=hN (W.alloc (.cells (rwC r.k r.c r.neg none 0 cp r.t (some ⟨g,o,none⟩) m cap) 27)) (.cells (rwC 0 0 false none 0 0 ⟨#[]⟩ none 0 0) 27);rwa [World.size_alloc] at this)
 have HK1:=hid (show K0 W ((W.alloc (.cells (rwC r.k r.c r.neg none 0 cp r.t (some ⟨g,o,none⟩) m cap) 27)).alloc (.cells (rwC 0 0 false none 0 0 ⟨#[]⟩ none 0 0) 27)) from (kR.alloc _).alloc _)
 obtain ⟨⟨a0,a1,a2,a3,a4,a5⟩,_⟩:=ae HB1.out
 have HW2:Hid (CpS W r (some ⟨W.heap.size+1+1,0,none⟩) 0 0 (some ⟨g,o,none⟩) m cap 0 [] none 0 (((W.alloc (.cells (rwC r.k r.c r.neg (some ⟨W.heap.size+1+1,0,none⟩) 0 0 r.t (some ⟨g,o,none⟩) m cap) 27)).alloc (.cells (rwC 0 0 false none 0 0 ⟨#[]⟩ none 0 0) 27)).alloc (.cells #[] 126))):=hid (by
  have hu:=fH ((W.alloc (.cells (rwC r.k r.c r.neg (some ⟨W.heap.size+1+1,0,none⟩) 0 0 r.t (some ⟨g,o,none⟩) m cap) 27)).alloc (.cells (rwC 0 0 false none 0 0 ⟨#[]⟩ none 0 0) 27)) 126
  rw [World.size_alloc,World.size_alloc] at hu
  have hb2:(((W.alloc (.cells (rwC r.k r.c r.neg (some ⟨W.heap.size+1+1,0,none⟩) 0 0 r.t (some ⟨g,o,none⟩) m cap) 27)).alloc (.cells (rwC 0 0 false none 0 0 ⟨#[]⟩ none 0 0) 27)).alloc (.cells #[] 126)).heap[W.heap.size+1]? = some (.cells (rwC 0 0 false none 0 0 ⟨#[]⟩ none 0 0) 27 (0,0)):=cw (by have:=hN (W.alloc (.cells (rwC r.k r.c r.neg (some ⟨W.heap.size+1+1,0,none⟩) 0 0 r.t (some ⟨g,o,none⟩) m cap) 27)) (.cells (rwC 0 0 false none 0 0 ⟨#[]⟩ none 0 0) 27);rwa [World.size_alloc] at this) _
  have o:aP 126 .u32 (((W.alloc (.cells (rwC r.k r.c r.neg (some ⟨W.heap.size+1+1,0,none⟩) 0 0 r.t (some ⟨g,o,none⟩) m cap) 27)).alloc (.cells (rwC 0 0 false none 0 0 ⟨#[]⟩ none 0 0) 27)).alloc (.cells #[] 126)) (W.heap.size+2) (some ⟨W.heap.size+1+1,0,none⟩) 0 0 r.mag:=by
   rw [HMAG.out]
   exact hu
  exact ⟨rfl,Nat.zero_le _,⟨rfl,.inl ⟨rfl,rfl⟩⟩,fun y hy=>absurd hy (by simp),cw (cw (hN W _) _) _,hb2,o.toLimbs HN.out.low (by omega),o.t126,((kR.alloc _).alloc _).alloc _⟩)
 go_enter Tryz.func29,Tryz.ntmps29
 go_wp2_with fail
 have HST:=HW2
 clear HW2 a0 a1 a2 a3 a4 a5
 generalize (((W.alloc (.cells (rwC r.k r.c r.neg (some ⟨W.heap.size+1+1,0,none⟩) 0 0 r.t (some ⟨g,o,none⟩) m cap) 27)).alloc (.cells (rwC 0 0 false none 0 0 ⟨#[]⟩ none 0 0) 27)).alloc (.cells #[] 126))=w3 at *
 generalize (some ⟨W.heap.size+1+1,0,none⟩:Option Addr)=A1 at HST
 go_loopw [3,4] (fun lv iv wr=>∃ (i rc:Nat) (xs:List (Raw × PV)) (R:Option Addr),lv=.slice R i rc/\iv=.int .i64 (i:Int)/\CpS W r A1 0 0 (some ⟨g,o,none⟩) m cap i xs R rc wr) (fun _ iv _=>m - (intOf iv).toNat)
 case atStart=>exact ⟨0,0,[],none,rfl,rfl,HST.out⟩
 case round=>
  obtain ⟨i,rc,xs,R,rfl,rfl,hst⟩:=hrel
  have HS:=hid hst
  have hrc:=fa hst.own
  clear hst HST
  by_cases hlt:i<m
  ·skip
   have l1:decide ((i:Int)<(m:Int))=true:=dT (by omega)
   have l2:decide (i<m)=true:=dT hlt
   have hi:i<r.l.length:=by rw [HLEN.out];exact hlt
   obtain ⟨y,hy⟩:∃ y,y=r.l[i]:=⟨_,rfl⟩
   obtain ⟨v,hv⟩:∃ v,v=vs i:=⟨_,rfl⟩
   have hic:=(HROW.out i hi).keep (HW.out.trans HS.out.K) id
   rw [<- hy,<- hv] at hic
   obtain ⟨r0,r1,r2,r3,r4,r5⟩:=hic.cells
   have HIH:=hid (fun (W':World) (K:K0 wr W')=>(show Calls Tryz.prog 29 #[rawV y v] W' (b8 y W') from by rw [hy,hv];exact IH.out i hi W' ((HW.out.trans HS.out.K).trans K)))
   have HY:=hid hy
   have hi0:(0:Int)<=(i:Int):=Int.natCast_nonneg _
   have hi1:(i:Int)<(m:Int):=by omega
   obtain ⟨⟨b0,b1,b2,b3,b4,b5⟩,_⟩:=ae HS.out.h1
   clear hic hy hv
   go_wp2_with fail
   refine (HIH.out _ kR).mono ?_
   rintro e w4 ⟨v2,rfl,hd2,k4⟩
   have K6:=hid (k4.alloc (.cells (rwC y.k y.c y.neg v2.A v2.n v2.cp y.t v2.B v2.m v2.cap) 27))
   have HOWN:=hid (gQ HS.out.own K6.out (fun _ _=>id))
   have HNEW:=hid (lZ (hN w4 (.cells (rwC y.k y.c y.neg v2.A v2.n v2.cp y.t v2.B v2.m v2.cap) 27)))
   have HBASE:=hid (show W.heap.size+2<=(w4.alloc (.cells (rwC y.k y.c y.neg v2.A v2.n v2.cp y.t v2.B v2.m v2.cap) 27)).heap.size from by have:=K6.out.size;have:=az HS.out.h2;omega)
   have HD6:=hid (show bR (fun b=>wr.heap.size<=b) (w4.alloc (.cells (rwC y.k y.c y.neg v2.A v2.n v2.cp y.t v2.B v2.m v2.cap) 27)) y v2 from hd2.keep0 (kR.alloc _))
   clear hd2 k4 r0 r1 r2 r3 r4 r5 b0 b1 b2 b3 b4 b5
   have hrow27:(i+1) * 88<=140737488355328:=by omega
   try dsimp only
   go_wp2_with (at_builtin;refine wpList_append_own_at _ rfl (.tmp 19) (.tmp 26) 25 rfl (W.heap.size+2) 27 i27 (.agg (rwC 0 0 false none 0 0 ⟨#[]⟩ none 0 0)) 6 88 Tryz.underlying25 h27 hz0 hz1 hz2 rfl (by decide) _ _ _ rfl HOWN.out ⟨w4.heap.size,0,none⟩ 1 1 [.int .i64 y.k,.int .i32 y.c,.bool y.neg,.slice v2.A v2.n v2.cp,.string y.t,.slice v2.B v2.m v2.cap] rfl rfl HNEW.out ?a1 ?a2 ?a3 HBASE.out ?_)
   case a1=>intro u hu;simp only [List.mem_cons,List.not_mem_nil,or_false] at hu;rcases hu with rfl | rfl | rfl | rfl | rfl | rfl<;>rfl
   case a2=>unfold maxLen;omega
   case a3=>omega
   intro v' w6 hown hgrow _ hblk
   obtain ⟨A3,c3,rfl,HM⟩:=HS.out.item hi K6.out (by rw [<- HY.out];exact HD6.out) (by rw [<- HY.out];exact hown) hgrow (by rw [World.size_alloc];exact hblk)
   have HMM:=hid HM
   clear hown hgrow HM hblk hrow27
   go_wp2_with fail
   go_roundw
   case rel=>exact ⟨i+1,c3,_,A3,rfl,by go_num,HMM.out⟩
   case measure=>simp only [intOf];omega
  ·skip
   have l1:decide ((i:Int)<(m:Int))=false:=dF (by omega)
   have l2:decide (i<m)=false:=dF (by omega)
   have him:i=m:=by have:=HS.out.le;have:=HLEN.out;omega
   subst him
   have hsz:=HLEN.out
   have HB1:=hid HS.out.h1
   have KS:ah (fun b=>b=W.heap.size) wr (wr.setCell ⟨W.heap.size,5,none⟩ (.slice R i rc)):=ah.setCell (S:=fun b=>b=W.heap.size) (p:=⟨W.heap.size,5,none⟩) kR (.inl rfl) _
   obtain ⟨⟨z0,z1,z2,z3,z4,z5⟩,y0,y1,y2,y3,y4,y5⟩:=ae HS.out.h1
   obtain ⟨⟨b0,b1,b2,b3,b4,b5⟩,f0,f1,f2,f3,f4,f5⟩:=ae HS.out.h2
   have HB2s:=hid (KS.heap HS.out.h2 (by omega))
   have HD:=hid (HS.out.out hsz hbig)
   have HKE:=hid (HS.out.K.into KS (by rintro b rfl;exact Nat.le_refl _))
   have HE:=hid (eS HKE.out (show W.heap.size<=W.heap.size+1 by omega) (.int .i64 r.k) (.int .i32 r.c) (.bool r.neg) (.slice A1 0 0) (.string r.t) (.slice R i rc))
   have HR:=hid (ae (dR HB2s.out (.int .i64 r.k) (.int .i32 r.c) (.bool r.neg) (.slice A1 0 0) (.string r.t) (.slice R i rc))).1
   have HKS:=hid KS
   clear KS hsz
   go_wp2_with fail
   refine bodyPost_ret (v:=.agg (rwC r.k r.c r.neg A1 0 0 r.t R i rc)) ?_ rfl ?_
   ·obtain ⟨e0,e1,e2,e3,e4,e5⟩:=HR.out
    simp [results,Tryz.results29,go_sem,e0,e1,e2,e3,e4,e5]
   ·refine ⟨⟨A1,0,0,R,i,rc⟩,rfl,?_,HE.out⟩
    refine ((HD.out.keep HKS.out ?_).keep (cF _ _ (.int .i64 r.k) (.int .i32 r.c) (.bool r.neg) (.slice A1 0 0) (.string r.t) (.slice R i rc)) ?_).mono (fun b _ hb=>by omega)
    ·rintro b rfl
     exact ⟨by omega,bI HB1.out (by decide)⟩
    ·rintro b rfl
     exact ⟨by omega,bI HB2s.out (by decide)⟩
theorem qH {N P:Nat->Prop} {w:World} {r:Raw} {p:PV} (h:ay N P w r p):∀ W:World,K0 w W->Calls Tryz.prog 29 #[rawV r p] W (b8 r W):=by
 induction h with
 | @mk r p num nP len mcap big vs row ch ih=>
  intro W hW
  obtain ⟨A,n,cp,B,m,cap⟩:=p
  have hnum:aq W A n cp r.mag:=num.keep0 hW
  rcases Nat.eq_zero_or_pos m with hm | hm
  ·rcases A with _ | ad
   ·exact jv r n cp B m cap vs w W (hid hW) (hid hnum) (hid len) mcap big hm
   ·exact jt r ad n cp B m cap vs w W (hid hW) (hid hnum) (hid len) mcap big hm
  ·obtain ⟨g,o,e,_,hrow⟩:=row hm
   have e:B=some ⟨g,o,none⟩:=e
   subst e
   rcases A with _ | ad
   ·exact ju r n cp g o m cap vs w W (hid hW) (hid hnum) (hid len) mcap big (hid hrow) (hid (fun i h W' K=>ih i h W' K))
   ·exact js r ad n cp g o m cap vs w W (hid hW) (hid hnum) (hid len) mcap big (hid hrow) (hid (fun i h W' K=>ih i h W' K))
end Go.Proofs.YtonnikipeokkaaaGreatDoor

namespace Go.Proofs.YtonnikipeokkaaaGreatDoor
set_option maxRecDepth 100000
set_option maxHeartbeats 8000000
open Go.Lib (hid)
open Go.RowKit Go.Lib
def jq (w:World) (x:Raw) (p:PV):Prop:=∃ N P,ay N P w x p
theorem jq.keep0 {w w':World} {x:Raw} {p:PV} (h:jq w x p) (k:K0 w w'):jq w' x p:=by
 obtain ⟨N,P,h⟩:=h
 exact ⟨N,P,h.keep0 k⟩
theorem lawTexts (x:Raw) (p:PV) (w:World) (hx:RawX w x p) (hT:TabT w) (h6:6<w.heap.size):Calls Tryz.prog 10 #[rawV x p] w (BoolPost true w):=by
 have HAW:=hid (fun (W:World) (K:K0 w W)=>mO W (hT.keep K) (Nat.lt_of_lt_of_le h6 K.size))
 have HH:=hid (fun (W:World) (K:K0 w W)=>ph hx W K)
 have HCP:=hid (fun (hg:dV x=false) (W:World) (K:K0 w W)=>qH ((cQ hg).at hx) W K)
 have HMY:=hid (fun (hg:dV x=false) (W:World) (K:K0 w W)=>qC (((cQ hg).at hx).keep0 K) (cQ hg).small (cQ hg).depth)
 have HWR:=hid (fun (hg:dV x=false) (q:PV) (W:World) (K:K0 w W) (D:jq W x q)=>(show Calls Tryz.prog 30 #[rawV x q] W (fun e w'=>e=.returned (.tuple #[.string (eG false x),.int .i64 (fg x)])/\K0 W w') from by
  obtain ⟨_,_,D⟩:=D
  exact kU D (cQ hg).small (cQ hg).depth (hT.keep K) (Nat.lt_of_lt_of_le h6 K.size) (fun hm=>Nat.le_trans ((cQ hg).room false (fB hm)) (by decide))))
 have HDI:=hid (fun (hg:dV x=false) (q:PV) (W:World) (K:K0 w W) (D:jq W x q)=>(show Calls Tryz.prog 31 #[rawV x q] W (fun e w'=>e=.returned (.tuple #[.string (eG true x),.int .i64 (fg x)])/\K0 W w') from by
  obtain ⟨_,_,D⟩:=D
  exact nG D (cQ hg).small (cQ hg).depth (hT.keep K) (Nat.lt_of_lt_of_le h6 K.size) (fun hm=>Nat.le_trans ((cQ hg).room true (fB hm)) (by decide))))
 have HSM:=hid (fun (hg:dV x=false) (q:PV) (W:World) (K:K0 w W) (D:jq W x q)=>(show Calls Tryz.prog 20 #[rawV x q,rawV x p] W (BoolPost true W) from by
  obtain ⟨_,_,D⟩:=D
  have:=qz D x p W kR (((cQ hg).at hx).keep0 K)
  rwa [ut] at this))
 have HSH:=hid (fun (hg:dV x=false) (hm:eF x=true) (pl:Bool) (W:World) (K:K0 w W)=>(show Calls Tryz.prog 32 #[rawV x p,.bool pl] W (fun e w'=>e=.returned (.string (eG pl x))/\K0 W w') from by
  have:=(qo (Alike.well_of x (fB hm))).1 pl _ _ W p (((cQ hg).at hx).keep0 K) (Nat.le_trans ((cQ hg).room pl (fB hm)) (by decide))
  unfold eG
  rw [if_pos hm]
  exact this))
 have HSF:=hid (fun (hg:dV x=false) (hm:eF x=true)=>HSH.out hg hm false)
 have HST:=hid (fun (hg:dV x=false) (hm:eF x=true)=>HSH.out hg hm true)
 have HNO:=hid (show eF x=false->eG false x=⟨#[]⟩/\eG true x=⟨#[]⟩/\fg x=1 from fun hm=>by
  unfold eG fg
  rw [hm]
  exact ⟨rfl,rfl,rfl⟩)
 have HYES:=hid (show eF x=true->fg x=0 from fun hm=>by unfold fg;rw [if_pos hm])
 clear HSH
 generalize eG false x=t1 at HWR HSF HNO
 generalize eG true x=t2 at HDI HST HNO
 generalize fg x=tn at HWR HDI HNO HYES
 generalize dV x=g at HH HCP HMY HWR HDI HSM HSF HST
 generalize eF x=m at HMY HSF HST HNO HYES
 have hb1:(w.alloc (.cells (rwC x.k x.c x.neg p.A p.n p.cp x.t p.B p.m p.cap) 27)).heap[w.heap.size]? = some (.cells (rwC x.k x.c x.neg p.A p.n p.cp x.t p.B p.m p.cap) 27 (0,0)):=hN w _
 have HB1:=hid hb1
 have HK1:=hid (show K0 w (w.alloc (.cells (rwC x.k x.c x.neg p.A p.n p.cp x.t p.B p.m p.cap) 27)) from kR.alloc _)
 obtain ⟨a0,a1,a2,a3,a4,a5⟩:=aa hb1
 clear hb1 hx hT h6
 go_enter Tryz.func10,Tryz.ntmps10
 go_wp2_with fail
 generalize w.alloc (.cells (rwC x.k x.c x.neg p.A p.n p.cp x.t p.B p.m p.cap) 27)=w1 at *
 generalize w.heap.size=B1 at *
 refine (HH.out _ HK1.out).mono ?_
 rintro e w2 ⟨rfl,k2⟩
 have HK2:=hid (HK1.out.trans k2)
 have HB2:=hid (k2.heap HB1.out id)
 clear k2 a0 a1 a2 a3 a4 a5
 obtain ⟨a0,a1,a2,a3,a4,a5⟩:=aa HB2.out
 cases g with
 | true=>
  go_wp2_with fail
  refine (HAW.out _ HK2.out).mono ?_
  rintro e w3 ⟨rfl,k9⟩
  have HK9:=hid (HK2.out.trans k9)
  clear k9
  go_wp2_with fail
  go_ret
  exact ⟨rfl,HK9.out⟩
 | false=>
  go_wp2_with fail
  refine (HCP.out (by simp) _ HK2.out).mono ?_
  rintro e w3 ⟨q,rfl,hd,k3⟩
  have HK4:=hid ((HK2.out.trans k3).alloc (.cells (rwC x.k x.c x.neg q.A q.n q.cp x.t q.B q.m q.cap) 27))
  have HD4:Hid (jq (w3.alloc (.cells (rwC x.k x.c x.neg q.A q.n q.cp x.t q.B q.m q.cap) 27)) x q):=hid (jq.keep0 ⟨_,_,hd⟩ (kR.alloc _))
  have HS4:Hid (pY w x x p q B1 w3.heap.size (w3.alloc (.cells (rwC x.k x.c x.neg q.A q.n q.cp x.t q.B q.m q.cap) 27))):=hid ⟨HK4.out,((ah.refl (fun _=>False) w3).alloc (.cells (rwC x.k x.c x.neg q.A q.n q.cp x.t q.B q.m q.cap) 27)).heap (k3.heap HB2.out id) id,hN w3 _⟩
  clear hd k3 a0 a1 a2 a3 a4 a5
  obtain ⟨a0,a1,a2,a3,a4,a5⟩:=aa HS4.out.h1
  obtain ⟨b0,b1,b2,b3,b4,b5⟩:=aa HS4.out.h2
  try dsimp only
  go_wp2_with fail
  generalize w3.alloc (.cells (rwC x.k x.c x.neg q.A q.n q.cp x.t q.B q.m q.cap) 27)=w4 at *
  generalize w3.heap.size=B2 at *
  refine (HWR.out (by simp) q _ HS4.out.K HD4.out).mono ?_
  rintro e w5 ⟨rfl,k9⟩
  have HS5:=hid (HS4.out.keep k9)
  have HD5:=hid (HD4.out.keep0 k9)
  clear k9
  clear a0 a1 a2 a3 a4 a5 b0 b1 b2 b3 b4 b5
  obtain ⟨a0,a1,a2,a3,a4,a5⟩:=aa HS5.out.h1
  obtain ⟨b0,b1,b2,b3,b4,b5⟩:=aa HS5.out.h2
  go_wp2_with fail
  refine (HDI.out (by simp) q _ HS5.out.K HD5.out).mono ?_
  rintro e w6 ⟨rfl,k9⟩
  have HS6:=hid (HS5.out.keep k9)
  have HD6:=hid (HD5.out.keep0 k9)
  clear k9
  clear a0 a1 a2 a3 a4 a5 b0 b1 b2 b3 b4 b5
  obtain ⟨a0,a1,a2,a3,a4,a5⟩:=aa HS6.out.h1
  obtain ⟨b0,b1,b2,b3,b4,b5⟩:=aa HS6.out.h2
  go_wp2_with fail
  refine (HSM.out (by simp) q _ HS6.out.K HD6.out).mono ?_
  rintro e w7 ⟨rfl,k9⟩
  have HS7:=hid (HS6.out.keep k9)
  have HD7:=hid (HD6.out.keep0 k9)
  clear k9
  clear a0 a1 a2 a3 a4 a5 b0 b1 b2 b3 b4 b5
  obtain ⟨a0,a1,a2,a3,a4,a5⟩:=aa HS7.out.h1
  obtain ⟨b0,b1,b2,b3,b4,b5⟩:=aa HS7.out.h2
  go_wp2_with fail
  refine (HMY.out (by simp) _ HS7.out.K).mono ?_
  rintro e w8 ⟨rfl,k9⟩
  have HS8:=hid (HS7.out.keep k9)
  have HD8:=hid (HD7.out.keep0 k9)
  clear k9
  clear a0 a1 a2 a3 a4 a5 b0 b1 b2 b3 b4 b5
  obtain ⟨a0,a1,a2,a3,a4,a5⟩:=aa HS8.out.h1
  obtain ⟨b0,b1,b2,b3,b4,b5⟩:=aa HS8.out.h2
  cases m with
  | false=>
   obtain ⟨e1,e2,e3⟩:=HNO.out (by simp)
   subst e1 e2 e3
   go_wp2_with fail
   refine (HAW.out _ HS8.out.K).mono ?_
   rintro e w9 ⟨rfl,k9⟩
   have HK9:=hid (HS8.out.K.trans k9)
   clear k9
   go_wp2_with fail
   go_ret
   exact ⟨rfl,HK9.out⟩
  | true=>
   have e3:=HYES.out (by simp)
   subst e3
   go_wp2_with fail
   refine (HSF.out (by simp) (by simp) _ HS8.out.K).mono ?_
   rintro e w9 ⟨rfl,k9⟩
   have HS9:=hid (HS8.out.keep k9)
   have HD9:=hid (HD8.out.keep0 k9)
   clear k9
   clear a0 a1 a2 a3 a4 a5 b0 b1 b2 b3 b4 b5
   obtain ⟨a0,a1,a2,a3,a4,a5⟩:=aa HS9.out.h1
   obtain ⟨b0,b1,b2,b3,b4,b5⟩:=aa HS9.out.h2
   have e1:(t1.toList == t1.toList)=true:=by simp
   go_wp2_with fail
   refine (HST.out (by simp) (by simp) _ HS9.out.K).mono ?_
   rintro e w10 ⟨rfl,k9⟩
   have HS10:=hid (HS9.out.keep k9)
   have HD10:=hid (HD9.out.keep0 k9)
   clear k9
   clear a0 a1 a2 a3 a4 a5 b0 b1 b2 b3 b4 b5
   obtain ⟨a0,a1,a2,a3,a4,a5⟩:=aa HS10.out.h1
   obtain ⟨b0,b1,b2,b3,b4,b5⟩:=aa HS10.out.h2
   have e2:(t2.toList == t2.toList)=true:=by simp
   go_wp2_with fail
   refine (HAW.out _ HS10.out.K).mono ?_
   rintro e w11 ⟨rfl,k9⟩
   have HK9:=hid (HS10.out.K.trans k9)
   clear k9
   go_wp2_with fail
   go_ret
   exact ⟨rfl,HK9.out⟩
end Go.Proofs.YtonnikipeokkaaaGreatDoor
