/-
  The program's May, first part: slices.Equal, flat, own.
  The program's own and flat. (Printed by gen_sown.py.)
  The program's May: plain. (Printed by gen_smay.py.)
-/
import Derived.Test.YtonnikipeokkaaaGreatDoorPaOne
import Derived.Test.YtonnikipeokkaaaGreatDoorPnMay
import Derived.Test.YtonnikipeokkaaaGreatDoorSwNum
namespace Go.Proofs.YtonnikipeokkaaaGreatDoor
set_option maxRecDepth 100000
set_option maxHeartbeats 4000000
open Go.Lib (hid)
open Go.RowKit Go.Lib
theorem rE (A:Option Addr) (n c:Nat) (A':Option Addr) (n' c':Nat) (w:World) (h:((n:Int) == (n':Int))=false) :
 Calls Tryz.prog 160 #[.slice A n c,.slice A' n' c'] w (BoolPost false w):=by
 go_enter Tryz.func160,Tryz.ntmps160
 go_wp2_with fail
 go_ret
 exact ⟨rfl,kR⟩
theorem pn (A:Option Addr) (n c:Nat) (A':Option Addr) (c':Nat) (l l':List Nat) (w:World) (h:cT .u32 w A n l) (h':cT .u32 w A' n l') (hn:n<=9000000000) :
 Calls Tryz.prog 160 #[.slice A n c,.slice A' n c'] w (BoolPost (decide (l=l')) w):=by
 have HH:=hid h
 have HH':=hid h'
 have HN:=hid hn
 have e0:((n:Int) == (n:Int))=true:=beq_iff_eq.2 rfl
 clear h h' hn
 go_enter Tryz.func160,Tryz.ntmps160
 go_wp2_with fail
 go_loopw [13] (fun iv wr=>∃ k:Nat,k<=n/\iv=.int .i64 (k:Int)/\(∀ j,j<k->l.getD j 0=l'.getD j 0)/\K0 w wr) (fun iv _=>n - (intOf iv).toNat)
 case atStart=>exact ⟨0,Nat.zero_le _,rfl,fun j h1=>by omega,kR⟩
 case round=>
  obtain ⟨k,hk,rfl,he,KW⟩:=hrel
  have HE:=hid he
  have HK:=hid KW
  by_cases hkn:k<n
  ·obtain ⟨b1,o1,rfl,hb1,q1⟩:=(HH.out.keep0 KW).2 k hkn
   obtain ⟨b2,o2,rfl,hb2,q2⟩:=(HH'.out.keep0 KW).2 k hkn
   obtain ⟨x,hx⟩:∃ x,x=l.getD k 0:=⟨_,rfl⟩
   obtain ⟨y,hy⟩:∃ y,y=l'.getD k 0:=⟨_,rfl⟩
   rw [<- hx] at q1
   rw [<- hy] at q2
   have HXY:=hid (And.intro hx hy)
   have HKN:=hid hkn
   have l1:(k:Int)<(n:Int):=by omega
   have l2:(0:Int)<=(k:Int):=by omega
   have l3:(k:Int)<=9000000000:=by have:=HN.out;omega
   clear he KW hk hx hy hb1 hb2
   by_cases hxy:x=y
   ·have f1:((x:Int) == (y:Int))=true:=beq_iff_eq.2 (by omega)
    go_wp2_with fail
    go_quiet (fail)
    go_wp2_with fail
    go_roundw
    case rel=>
     refine ⟨k+1,by have:=HKN.out;omega,by go_num,fun j hj=>?_,HK.out.drewN _⟩
     by_cases hjk:j=k
     ·rw [hjk,<- HXY.out.1,<- HXY.out.2,hxy]
     ·exact HE.out j (by omega)
    case measure=>have:=HKN.out;simp only [intOf];omega
   ·have f1:((x:Int) == (y:Int))=false:=bF.2 (by omega)
    have HF:=hid (show decide (l=l')=false from dF (fun e=>hxy (by rw [HXY.out.1,HXY.out.2,e])))
    clear hxy
    go_wp2_with fail
    go_quiet (fail)
    go_wp2_with fail
    go_ret
    exact ⟨by rw [HF.out];rfl,HK.out.drewN _⟩
  ·have hkn2:k=n:=by omega
   have HF:=hid (show decide (l=l')=true from dT (by
    refine List.ext_getElem (by rw [HH.out.1,HH'.out.1]) (fun j h1 h2=>?_)
    have:=he j (by rw [HH.out.1] at h1;omega)
    rw [gD,gD,gE h1,gE h2] at this
    exact this))
   have l1:decide ((k:Int)<(n:Int))=false:=dF (by omega)
   have l2:decide (k<n)=false:=dF hkn
   clear he KW hk hkn hkn2
   go_wp2_with fail
   go_ret
   exact ⟨by rw [HF.out];rfl,HK.out⟩
theorem rF (A:Option Addr) (n c:Nat) (A':Option Addr) (n' c':Nat) (l l':List Nat) (w:World) (h:aq w A n c l) (h':aq w A' n' c' l') :
 Calls Tryz.prog 160 #[.slice A n c,.slice A' n' c'] w (BoolPost (decide (l=l')) w):=by
 by_cases e:n=n'
 ·subst e
  have:=h.max
  exact pn A n c A' c' l l' w h.row h'.row (by omega)
 ·have:decide (l=l')=false:=dF (fun e2=>e (by rw [<- h.len,<- h'.len,e2]))
  rw [this]
  exact rE A n c A' n' c' w (bF.2 (by omega))
end Go.Proofs.YtonnikipeokkaaaGreatDoor

namespace Go.Proofs.YtonnikipeokkaaaGreatDoor
set_option maxRecDepth 100000
set_option maxHeartbeats 8000000
open Go.Lib (hid)
open Go.RowKit Go.Lib
def gv (c:Int) (neg:Bool) (A:Option Addr) (n cp:Nat) (t:ByteArray) (B:Option Addr) (m cap:Nat) (k:Int) (w:World) (e:Ending) (w':World):Prop:=
 e=.returned (.agg (rwC k c neg A n cp t B m cap))/\K0 w w'
theorem xe (k c:Int) (neg:Bool) (A:Option Addr) (n cp:Nat) (t:ByteArray) (B:Option Addr) (m cap:Nat) (w:World) (s3:(k == 3)=true):Calls Tryz.prog 133 #[.agg (rwC k c neg A n cp t B m cap)] w (gv c false none 0 0 ⟨#[]⟩ none 0 0 k w):=by
 have hb1:(w.alloc (.cells (rwC k c neg A n cp t B m cap) 27)).heap[w.heap.size]? = some (.cells (rwC k c neg A n cp t B m cap) 27 (0,0)):=hN w _
 obtain ⟨⟨a0,a1,a2,a3,a4,a5⟩,_⟩:=ae hb1
 have hb2:(((w.alloc (.cells (rwC k c neg A n cp t B m cap) 27)).alloc (.cells (rwC k c false none 0 0 ⟨#[]⟩ none 0 0) 27)).alloc (.cells (rwC k c false none 0 0 ⟨#[]⟩ none 0 0) 27)).heap[w.heap.size+1]? = some (.cells (rwC k c false none 0 0 ⟨#[]⟩ none 0 0) 27 (0,0)):=cw (by
  have:=hN (w.alloc (.cells (rwC k c neg A n cp t B m cap) 27)) (.cells (rwC k c false none 0 0 ⟨#[]⟩ none 0 0) 27)
  rwa [World.size_alloc] at this) _
 have HE:=hid (ae hb2).1
 clear hb1 hb2
 go_enter Tryz.func133,Tryz.ntmps133
 go_wp2_with fail
 obtain ⟨e0,e1,e2,e3,e4,e5⟩:=HE.out
 exact bodyPost_ret (v:=.agg (rwC k c false none 0 0 ⟨#[]⟩ none 0 0)) (by simp [results,Tryz.results133,go_sem,e0,e1,e2,e3,e4,e5]) rfl ⟨rfl,((kR.alloc _).alloc _).alloc _⟩
theorem xd (k c:Int) (neg:Bool) (A:Option Addr) (n cp:Nat) (t:ByteArray) (B:Option Addr) (m cap:Nat) (w:World) (s3:(k == 3)=false) (s4:(k == 4)=true):Calls Tryz.prog 133 #[.agg (rwC k c neg A n cp t B m cap)] w (gv 0 neg A n cp ⟨#[]⟩ none 0 0 k w):=by
 have hb1:(w.alloc (.cells (rwC k c neg A n cp t B m cap) 27)).heap[w.heap.size]? = some (.cells (rwC k c neg A n cp t B m cap) 27 (0,0)):=hN w _
 obtain ⟨⟨a0,a1,a2,a3,a4,a5⟩,_⟩:=ae hb1
 have hb2:(((w.alloc (.cells (rwC k c neg A n cp t B m cap) 27)).alloc (.cells (rwC k 0 neg A n cp ⟨#[]⟩ none 0 0) 27)).alloc (.cells (rwC k 0 neg A n cp ⟨#[]⟩ none 0 0) 27)).heap[w.heap.size+1]? = some (.cells (rwC k 0 neg A n cp ⟨#[]⟩ none 0 0) 27 (0,0)):=cw (by
  have:=hN (w.alloc (.cells (rwC k c neg A n cp t B m cap) 27)) (.cells (rwC k 0 neg A n cp ⟨#[]⟩ none 0 0) 27)
  rwa [World.size_alloc] at this) _
 have HE:=hid (ae hb2).1
 clear hb1 hb2
 go_enter Tryz.func133,Tryz.ntmps133
 go_wp2_with fail
 obtain ⟨e0,e1,e2,e3,e4,e5⟩:=HE.out
 exact bodyPost_ret (v:=.agg (rwC k 0 neg A n cp ⟨#[]⟩ none 0 0)) (by simp [results,Tryz.results133,go_sem,e0,e1,e2,e3,e4,e5]) rfl ⟨rfl,((kR.alloc _).alloc _).alloc _⟩
theorem xc (k c:Int) (neg:Bool) (A:Option Addr) (n cp:Nat) (t:ByteArray) (B:Option Addr) (m cap:Nat) (w:World) (s3:(k == 3)=false) (s4:(k == 4)=false) (s5:(k == 5)=true):Calls Tryz.prog 133 #[.agg (rwC k c neg A n cp t B m cap)] w (gv 0 false none 0 0 t none 0 0 k w):=by
 have hb1:(w.alloc (.cells (rwC k c neg A n cp t B m cap) 27)).heap[w.heap.size]? = some (.cells (rwC k c neg A n cp t B m cap) 27 (0,0)):=hN w _
 obtain ⟨⟨a0,a1,a2,a3,a4,a5⟩,_⟩:=ae hb1
 have hb2:(((w.alloc (.cells (rwC k c neg A n cp t B m cap) 27)).alloc (.cells (rwC k 0 false none 0 0 t none 0 0) 27)).alloc (.cells (rwC k 0 false none 0 0 t none 0 0) 27)).heap[w.heap.size+1]? = some (.cells (rwC k 0 false none 0 0 t none 0 0) 27 (0,0)):=cw (by
  have:=hN (w.alloc (.cells (rwC k c neg A n cp t B m cap) 27)) (.cells (rwC k 0 false none 0 0 t none 0 0) 27)
  rwa [World.size_alloc] at this) _
 have HE:=hid (ae hb2).1
 clear hb1 hb2
 go_enter Tryz.func133,Tryz.ntmps133
 go_wp2_with fail
 obtain ⟨e0,e1,e2,e3,e4,e5⟩:=HE.out
 exact bodyPost_ret (v:=.agg (rwC k 0 false none 0 0 t none 0 0)) (by simp [results,Tryz.results133,go_sem,e0,e1,e2,e3,e4,e5]) rfl ⟨rfl,((kR.alloc _).alloc _).alloc _⟩
theorem wZ (k c:Int) (neg:Bool) (A:Option Addr) (n cp:Nat) (t:ByteArray) (B:Option Addr) (m cap:Nat) (w:World) (s3:(k == 3)=false) (s4:(k == 4)=false) (s5:(k == 5)=false) (s6:(k == 6)=true):Calls Tryz.prog 133 #[.agg (rwC k c neg A n cp t B m cap)] w (gv 0 false none 0 0 t none 0 0 k w):=by
 have hb1:(w.alloc (.cells (rwC k c neg A n cp t B m cap) 27)).heap[w.heap.size]? = some (.cells (rwC k c neg A n cp t B m cap) 27 (0,0)):=hN w _
 obtain ⟨⟨a0,a1,a2,a3,a4,a5⟩,_⟩:=ae hb1
 have hb2:(((w.alloc (.cells (rwC k c neg A n cp t B m cap) 27)).alloc (.cells (rwC k 0 false none 0 0 t none 0 0) 27)).alloc (.cells (rwC k 0 false none 0 0 t none 0 0) 27)).heap[w.heap.size+1]? = some (.cells (rwC k 0 false none 0 0 t none 0 0) 27 (0,0)):=cw (by
  have:=hN (w.alloc (.cells (rwC k c neg A n cp t B m cap) 27)) (.cells (rwC k 0 false none 0 0 t none 0 0) 27)
  rwa [World.size_alloc] at this) _
 have HE:=hid (ae hb2).1
 clear hb1 hb2
 go_enter Tryz.func133,Tryz.ntmps133
 go_wp2_with fail
 obtain ⟨e0,e1,e2,e3,e4,e5⟩:=HE.out
 exact bodyPost_ret (v:=.agg (rwC k 0 false none 0 0 t none 0 0)) (by simp [results,Tryz.results133,go_sem,e0,e1,e2,e3,e4,e5]) rfl ⟨rfl,((kR.alloc _).alloc _).alloc _⟩
theorem wY (k c:Int) (neg:Bool) (A:Option Addr) (n cp:Nat) (t:ByteArray) (B:Option Addr) (m cap:Nat) (w:World) (s3:(k == 3)=false) (s4:(k == 4)=false) (s5:(k == 5)=false) (s6:(k == 6)=false) (s7:(k == 7)=true):Calls Tryz.prog 133 #[.agg (rwC k c neg A n cp t B m cap)] w (gv 0 false none 0 0 ⟨#[]⟩ B m cap k w):=by
 have hb1:(w.alloc (.cells (rwC k c neg A n cp t B m cap) 27)).heap[w.heap.size]? = some (.cells (rwC k c neg A n cp t B m cap) 27 (0,0)):=hN w _
 obtain ⟨⟨a0,a1,a2,a3,a4,a5⟩,_⟩:=ae hb1
 have hb2:(((w.alloc (.cells (rwC k c neg A n cp t B m cap) 27)).alloc (.cells (rwC k 0 false none 0 0 ⟨#[]⟩ B m cap) 27)).alloc (.cells (rwC k 0 false none 0 0 ⟨#[]⟩ B m cap) 27)).heap[w.heap.size+1]? = some (.cells (rwC k 0 false none 0 0 ⟨#[]⟩ B m cap) 27 (0,0)):=cw (by
  have:=hN (w.alloc (.cells (rwC k c neg A n cp t B m cap) 27)) (.cells (rwC k 0 false none 0 0 ⟨#[]⟩ B m cap) 27)
  rwa [World.size_alloc] at this) _
 have HE:=hid (ae hb2).1
 clear hb1 hb2
 go_enter Tryz.func133,Tryz.ntmps133
 go_wp2_with fail
 obtain ⟨e0,e1,e2,e3,e4,e5⟩:=HE.out
 exact bodyPost_ret (v:=.agg (rwC k 0 false none 0 0 ⟨#[]⟩ B m cap)) (by simp [results,Tryz.results133,go_sem,e0,e1,e2,e3,e4,e5]) rfl ⟨rfl,((kR.alloc _).alloc _).alloc _⟩
theorem wX (k c:Int) (neg:Bool) (A:Option Addr) (n cp:Nat) (t:ByteArray) (B:Option Addr) (m cap:Nat) (w:World) (s3:(k == 3)=false) (s4:(k == 4)=false) (s5:(k == 5)=false) (s6:(k == 6)=false) (s7:(k == 7)=false) (s8:(k == 8)=true):Calls Tryz.prog 133 #[.agg (rwC k c neg A n cp t B m cap)] w (gv 0 false none 0 0 ⟨#[]⟩ B m cap k w):=by
 have hb1:(w.alloc (.cells (rwC k c neg A n cp t B m cap) 27)).heap[w.heap.size]? = some (.cells (rwC k c neg A n cp t B m cap) 27 (0,0)):=hN w _
 obtain ⟨⟨a0,a1,a2,a3,a4,a5⟩,_⟩:=ae hb1
 have hb2:(((w.alloc (.cells (rwC k c neg A n cp t B m cap) 27)).alloc (.cells (rwC k 0 false none 0 0 ⟨#[]⟩ B m cap) 27)).alloc (.cells (rwC k 0 false none 0 0 ⟨#[]⟩ B m cap) 27)).heap[w.heap.size+1]? = some (.cells (rwC k 0 false none 0 0 ⟨#[]⟩ B m cap) 27 (0,0)):=cw (by
  have:=hN (w.alloc (.cells (rwC k c neg A n cp t B m cap) 27)) (.cells (rwC k 0 false none 0 0 ⟨#[]⟩ B m cap) 27)
  rwa [World.size_alloc] at this) _
 have HE:=hid (ae hb2).1
 clear hb1 hb2
 go_enter Tryz.func133,Tryz.ntmps133
 go_wp2_with fail
 obtain ⟨e0,e1,e2,e3,e4,e5⟩:=HE.out
 exact bodyPost_ret (v:=.agg (rwC k 0 false none 0 0 ⟨#[]⟩ B m cap)) (by simp [results,Tryz.results133,go_sem,e0,e1,e2,e3,e4,e5]) rfl ⟨rfl,((kR.alloc _).alloc _).alloc _⟩
theorem wW (k c:Int) (neg:Bool) (A:Option Addr) (n cp:Nat) (t:ByteArray) (B:Option Addr) (m cap:Nat) (w:World) (s3:(k == 3)=false) (s4:(k == 4)=false) (s5:(k == 5)=false) (s6:(k == 6)=false) (s7:(k == 7)=false) (s8:(k == 8)=false):Calls Tryz.prog 133 #[.agg (rwC k c neg A n cp t B m cap)] w (gv 0 false none 0 0 ⟨#[]⟩ none 0 0 k w):=by
 have hb1:(w.alloc (.cells (rwC k c neg A n cp t B m cap) 27)).heap[w.heap.size]? = some (.cells (rwC k c neg A n cp t B m cap) 27 (0,0)):=hN w _
 obtain ⟨⟨a0,a1,a2,a3,a4,a5⟩,_⟩:=ae hb1
 have hb2:(((w.alloc (.cells (rwC k c neg A n cp t B m cap) 27)).alloc (.cells (rwC k 0 false none 0 0 ⟨#[]⟩ none 0 0) 27)).alloc (.cells (rwC k 0 false none 0 0 ⟨#[]⟩ none 0 0) 27)).heap[w.heap.size+1]? = some (.cells (rwC k 0 false none 0 0 ⟨#[]⟩ none 0 0) 27 (0,0)):=cw (by
  have:=hN (w.alloc (.cells (rwC k c neg A n cp t B m cap) 27)) (.cells (rwC k 0 false none 0 0 ⟨#[]⟩ none 0 0) 27)
  rwa [World.size_alloc] at this) _
 have HE:=hid (ae hb2).1
 clear hb1 hb2
 go_enter Tryz.func133,Tryz.ntmps133
 go_wp2_with fail
 obtain ⟨e0,e1,e2,e3,e4,e5⟩:=HE.out
 exact bodyPost_ret (v:=.agg (rwC k 0 false none 0 0 ⟨#[]⟩ none 0 0)) (by simp [results,Tryz.results133,go_sem,e0,e1,e2,e3,e4,e5]) rfl ⟨rfl,((kR.alloc _).alloc _).alloc _⟩
theorem uo (k c:Int) (neg:Bool) (A:Option Addr) (n cp:Nat) (t:ByteArray) (B:Option Addr) (m cap:Nat) (k' c':Int) (neg':Bool) (A':Option Addr) (n' cp':Nat) (t':ByteArray) (B':Option Addr) (m' cap':Nat) (l l':List Nat) (w:World) (h:aq w A n cp l) (h':aq w A' n' cp' l') :
 Calls Tryz.prog 132 #[.agg (rwC k c neg A n cp t B m cap),.agg (rwC k' c' neg' A' n' cp' t' B' m' cap')] w (BoolPost (k == k' && (c == c' && (neg == neg' && (decide (l=l') && (t.toList == t'.toList && (m:Int) == (m':Int)))))) w):=by
 have hb1:((w.alloc (.cells (rwC k c neg A n cp t B m cap) 27)).alloc (.cells (rwC k' c' neg' A' n' cp' t' B' m' cap') 27)).heap[w.heap.size]? = some (.cells (rwC k c neg A n cp t B m cap) 27 (0,0)):=cw (hN w _) _
 have hb2:((w.alloc (.cells (rwC k c neg A n cp t B m cap) 27)).alloc (.cells (rwC k' c' neg' A' n' cp' t' B' m' cap') 27)).heap[w.heap.size+1]? = some (.cells (rwC k' c' neg' A' n' cp' t' B' m' cap') 27 (0,0)):=by
  have:=hN (w.alloc (.cells (rwC k c neg A n cp t B m cap) 27)) (.cells (rwC k' c' neg' A' n' cp' t' B' m' cap') 27)
  rwa [World.size_alloc] at this
 have K:K0 w ((w.alloc (.cells (rwC k c neg A n cp t B m cap) 27)).alloc (.cells (rwC k' c' neg' A' n' cp' t' B' m' cap') 27)):=(kR.alloc _).alloc _
 have HK:=hid K
 have HEQ:=hid (rF A n cp A' n' cp' l l' ((w.alloc (.cells (rwC k c neg A n cp t B m cap) 27)).alloc (.cells (rwC k' c' neg' A' n' cp' t' B' m' cap') 27)) (h.keep0 K) (h'.keep0 K))
 have HB:=hid (fun (W:World) (k:K0 ((w.alloc (.cells (rwC k c neg A n cp t B m cap) 27)).alloc (.cells (rwC k' c' neg' A' n' cp' t' B' m' cap') 27)) W)=>And.intro (ae (k.heap hb1 id)).1 (ae (k.heap hb2 id)).1)
 obtain ⟨⟨a0,a1,a2,a3,a4,a5⟩,b0,b1,b2,b3,b4,b5⟩:=HB.out _ kR
 obtain ⟨q,hq⟩:∃ q,q=decide (l=l'):=⟨_,rfl⟩
 rw [<- hq] at HEQ ⊢
 clear hb1 hb2 K h h' hq
 go_enter Tryz.func132,Tryz.ntmps132
 by_cases t2:k=k'
 ·have ft2:(k == k')=true:=beq_iff_eq.2 t2
  rw [ft2,Bool.true_and]
  have Hft2:=hid t2
  clear t2
  by_cases t1:c=c'
  ·have ft1:(c == c')=true:=beq_iff_eq.2 t1
   rw [ft1,Bool.true_and]
   have Hft1:=hid t1
   clear t1
   by_cases t0:neg=neg'
   ·have ft0:(neg == neg')=true:=beq_iff_eq.2 t0
    rw [ft0,Bool.true_and]
    have Hft0:=hid t0
    clear t0
    go_wp2_with fail
    refine HEQ.out.mono ?_
    rintro e w3 ⟨rfl,k3⟩
    clear a0 a1 a2 a3 a4 a5 b0 b1 b2 b3 b4 b5
    obtain ⟨⟨a0,a1,a2,a3,a4,a5⟩,b0,b1,b2,b3,b4,b5⟩:=HB.out _ k3
    have HK3:=hid (HK.out.trans k3)
    clear k3
    cases q with
    | false=>
     try dsimp only
     go_wp2_with fail
     go_ret
     exact ⟨rfl,HK3.out⟩
    | true=>
     by_cases ht:t.toList=t'.toList
     ·have ft:(t.toList == t'.toList)=true:=beq_iff_eq.2 ht
      clear ht
      try dsimp only
      go_wp2_with fail
      go_ret
      exact ⟨by rw [ft];rfl,HK3.out⟩
     ·have ft:(t.toList == t'.toList)=false:=bF.2 ht
      clear ht
      try dsimp only
      go_wp2_with fail
      go_ret
      exact ⟨by rw [ft];rfl,HK3.out⟩
   ·have ft0:(neg == neg')=false:=bF.2 t0
    rw [ft0,Bool.false_and]
    clear t0
    go_wp2_with fail
    go_ret
    exact ⟨rfl,HK.out⟩
  ·have ft1:(c == c')=false:=bF.2 t1
   rw [ft1,Bool.false_and]
   clear t1
   go_wp2_with fail
   go_ret
   exact ⟨rfl,HK.out⟩
 ·have ft2:(k == k')=false:=bF.2 t2
  rw [ft2,Bool.false_and]
  clear t2
  go_wp2_with fail
  go_ret
  exact ⟨rfl,HK.out⟩
end Go.Proofs.YtonnikipeokkaaaGreatDoor

namespace Go.Proofs.YtonnikipeokkaaaGreatDoor
set_option maxRecDepth 100000
set_option maxHeartbeats 8000000
open Go.Lib (hid)
open Go.RowKit Go.Lib
theorem vL (s:ByteArray) (least n:Int) (v:Bool) (w:World) (HC:Hid (∀ W:World,K0 w W->Calls Tryz.prog 122 #[.string s] W (fun e w'=>e=.returned (.int .i64 n)/\K0 W w'))) (HV:Hid (∀ W:World,K0 w W->Calls Tryz.prog 121 #[.string s] W (BoolPost v W))) :
 Calls Tryz.prog 136 #[.string s,.int .i64 least] w (BoolPost (v && (decide (least<=n) && decide (n<=62))) w):=by
 go_enter Tryz.func136,Tryz.ntmps136
 go_wp2_with fail
 refine (HC.out _ kR).mono ?_
 rintro e w2 ⟨rfl,k2⟩
 have HK2:=hid k2
 clear k2
 try dsimp only
 go_wp2_with fail
 refine (HV.out _ HK2.out).mono ?_
 rintro e w3 ⟨rfl,k3⟩
 have HK3:=hid (HK2.out.trans k3)
 clear k3
 cases v with
 | false=>
  try dsimp only
  go_wp2_with fail
  go_ret
  exact ⟨rfl,HK3.out⟩
 | true=>
  by_cases h:least<=n
  ·have f:decide (least<=n)=true:=dT h
   try dsimp only
   go_wp2_with fail
   go_ret
   exact ⟨by rw [f];rfl,HK3.out⟩
  ·have f:decide (least<=n)=false:=dF h
   clear h
   try dsimp only
   go_wp2_with fail
   go_ret
   exact ⟨by rw [f];rfl,HK3.out⟩
theorem lg (s:ByteArray) (sym:Bool) (w:World) (hs:s.size<=1000000000) (hT:bE w):Calls Tryz.prog 136 #[.string s,.int .i64 (if sym then 1 else 0)] w (BoolPost (fv (au s.data.toList) sym) w):=by
 have hv:=iu s.data.toList
 have key:∀ n:Int,n=(Lib.runeCount s:Int)->fv (au s.data.toList) sym=(Lib.validD s.data.toList && (decide ((if sym then (1:Int) else 0)<=n) && decide (n<=62))):=by
  intro n hn
  rw [<- hv]
  cases hr:au s.data.toList with
  | none=>rfl
  | some r=>
   have hc:=iw s r hr
   rw [hn,hc]
   unfold fv
   simp only [Option.isSome_some,Bool.true_and]
   rw [Bool.and_comm]
   congr 1
   ·cases sym
    ·simp
    ·simp only [if_true,Bool.not_true,Bool.false_or]
     rw [Bool.eq_iff_iff,decide_eq_true_iff,decide_eq_true_iff]
     omega
   ·rw [Bool.eq_iff_iff,decide_eq_true_iff,decide_eq_true_iff]
    omega
 rw [key _ rfl]
 refine vL s _ _ _ w (hid (fun W _=>(Tryz.utf8_RuneCountInString s W (by omega)).mono (fun e w' h=>⟨h.1,?_⟩))) (hid (fun W K=>(Tryz.utf8_ValidString s W (by omega) (hT.keep K).u8).mono (fun e w' h=>⟨h.1,ah.of_below h.2⟩)))
 obtain ⟨pos,rfl⟩:=h.2
 exact kR.alloc _
theorem oY (r:Raw) (p:PV) (w:World) (b:Bool) (HC:Hid (∀ W:World,K0 w W->Calls Tryz.prog 105 #[rawV r p] W (BoolPost b W))):Calls Tryz.prog 138 #[rawV r p] w (BoolPost (!b) w):=by
 have hb1:(w.alloc (.cells (cL r p) 27)).heap[w.heap.size]? = some (.cells (cL r p) 27 (0,0)):=hN w _
 have HK1:=hid (show K0 w (w.alloc (.cells (cL r p) 27)) from kR.alloc _)
 obtain ⟨⟨a0,a1,a2,a3,a4,a5⟩,_⟩:=ae hb1
 clear hb1
 go_enter Tryz.func138,Tryz.ntmps138
 go_wp2_with fail
 refine (HC.out _ HK1.out).mono ?_
 rintro e w3 ⟨rfl,k3⟩
 have HK3:=hid (HK1.out.trans k3)
 clear k3
 try dsimp only
 go_wp2_with fail
 go_ret
 exact ⟨rfl,HK3.out⟩
theorem pr (l:List Raw) (vs:Nat->PV) (B:Option Addr) (m cap:Nat) (w:World) (hl:Hid (l.length=m)) (hm:m<=9223372036854775807) (HROW:Hid (0<m->∃ bb off,B=some ⟨bb,off,.none⟩ /\ ∀ i (h:i<l.length),cV w bb off i l[i] (vs i)))
 (HI:Hid (∀ i (h:i<l.length) (W:World),K0 w W->Calls Tryz.prog 138 #[rawV l[i] (vs i)] W (BoolPost (!aS l[i]) W))) :
 Calls Tryz.prog 161 #[.slice B m cap,.func (.func 138) #[] #[]] w (fun e w'=>∃ z:Int,e=.returned (.int .i64 z)/\decide (0<=z)=!bG l/\K0 w w'):=by
 go_enter Tryz.func161,Tryz.ntmps161
 go_wp2_with fail
 go_loopw [8] (fun iv wr=>∃ i:Nat,i<=m/\iv=.int .i64 (i:Int)/\(∀ j (h:j<l.length),j<i->aS l[j]=true)/\K0 w wr) (fun iv _=>m - (intOf iv).toNat)
 case atStart=>exact ⟨0,Nat.zero_le _,rfl,fun _ _ h=>absurd h (Nat.not_lt_zero _),kR⟩
 case round=>
  obtain ⟨i,hi,rfl,hp,kr⟩:=hrel
  have HP:=hid hp
  have HK:=hid kr
  by_cases h4:i<m
  ·have hil:i<l.length:=by rw [hl.out];exact h4
   obtain ⟨bb,off,rfl,hrow⟩:=HROW.out (by omega)
   obtain ⟨c0,c1,c2,c3,c4,c5⟩:=((hrow i hil).keep kr id).cells
   have HC:=hid (HI.out i hil)
   have HPL:Hid (aS l[i]=false->bG l=false):=hid (fun h=>fR hil h)
   have HNX:Hid (aS l[i]=true->∀ j (h:j<l.length),j<i+1->aS l[j]=true):=hid (fun h j hj hji=>by
    by_cases e:j=i
    ·subst e;exact h
    ·exact hp j hj (by omega))
   obtain ⟨x,hx⟩:∃ x,x=l[i]'hil:=⟨_,rfl⟩
   rw [<- hx] at c0 c1 c2 c4 HC HPL HNX
   obtain ⟨v,hv⟩:∃ v,v=vs i:=⟨_,rfl⟩
   rw [<- hv] at c3 c5 HC
   have l1:(i:Int)<(m:Int):=by omega
   have l2:(0:Int)<=(i:Int):=by omega
   have HI4:=hid h4
   clear hp kr hil hrow hx hv hi h4
   go_wp2_with fail
   refine (HC.out _ HK.out).mono ?_
   rintro e w3 ⟨rfl,k3⟩
   have HK3:=hid (HK.out.trans k3)
   clear k3 c0 c1 c2 c3 c4 c5
   cases hb:aS x with
   | true=>
    have HN:=hid (HNX.out hb)
    clear hb
    try dsimp only
    go_wp2_with fail
    go_roundw
    case rel=>exact ⟨i+1,by have:=HI4.out;omega,by go_num,HN.out,HK3.out⟩
    case measure=>have:=HI4.out;simp only [intOf];omega
   | false=>
    have HN:=hid (HPL.out hb)
    clear hb
    try dsimp only
    go_wp2_with fail
    go_ret
    exact ⟨_,rfl,by rw [HN.out];exact dT (by omega),HK3.out⟩
  ·have HA:=hid (show bG l=true from fi.2 (fun j hj=>hp j hj (by rw [hl.out] at hj;omega)))
   have l1:decide ((i:Int)<(m:Int))=false:=dF (by omega)
   have l3:decide (i<m)=false:=dF h4
   clear hp kr hi h4
   go_wp2_with fail
   go_ret
   exact ⟨_,rfl,by rw [HA.out];rfl,HK.out⟩
theorem rM (l:List Raw) (vs:Nat->PV) (B:Option Addr) (m cap:Nat) (w:World) (hl:l.length=m) (hm:m<=9223372036854775807) (HROW:0<m->∃ bb off,B=some ⟨bb,off,.none⟩ /\ ∀ i (h:i<l.length),cV w bb off i l[i] (vs i))
 (HI:∀ i (h:i<l.length) (W:World),K0 w W->Calls Tryz.prog 105 #[rawV l[i] (vs i)] W (BoolPost (aS l[i]) W)) :
 Calls Tryz.prog 137 #[.slice B m cap,.func (.func 138) #[] #[]] w (BoolPost (!bG l) w):=by
 have HX:=hid (pr l vs B m cap w (hid hl) hm (hid HROW) (hid (fun i h W K=>oY l[i] (vs i) W _ (hid (fun W' K'=>HI i h W' (K.trans K'))))))
 clear HI HROW hl hm
 go_enter Tryz.func137,Tryz.ntmps137
 go_wp2_with fail
 refine HX.out.mono ?_
 rintro e w3 ⟨z,rfl,hz,k3⟩
 have HZ:=hid hz
 have HK3:=hid k3
 clear k3 hz
 try dsimp only
 go_wp2_with fail
 go_ret
 exact ⟨by rw [<- HZ.out];go_num,HK3.out⟩
end Go.Proofs.YtonnikipeokkaaaGreatDoor
