/-
  The shower's pairs: the walk. (Printed by gen_spair.py.)
  The shower's datum; Write and Display. (Printed by gen_sdat.
  The shower's Datum, of any datum that may be written.
-/
import Derived.Test.YtonnikipeokkaaaGreatDoorSwD
import Derived.Test.YtonnikipeokkaaaGreatDoorSwV
import Derived.Test.YtonnikipeokkaaaGreatDoorPaBack
namespace Go.Proofs.YtonnikipeokkaaaGreatDoor
set_option maxRecDepth 100000
set_option maxHeartbeats 16000000
open Go.Lib (hid)
open Go.RowKit Go.Lib
def dq (fn:Nat) (x:Raw):Prop:=∀ (base:Nat) (W:World) (b:Nat) (pl:Bool) (l:List UInt8) (g:Option Nat) (p:PV),dt base W b pl l g->ay (Off b g) (Off b g) W x p->l.length+(am pl x).length<=1000000000000 ->
 Calls Tryz.prog fn #[.pointer (some ⟨b,0,none⟩),rawV x p] W (WrP W b pl (l++am pl x) g)
theorem PSw.off2 {base:Nat} {w:World} {b:Nat} {pl:Bool} {T:List UInt8} {g:Option Nat} {B0:Nat} {x:Raw} {p:PV} {acc pend:List UInt8} {g':Option Nat} {wr:World} (_h:PSw base w b pl T g B0 x p acc pend g' wr) {y:Raw} {v:PV} (D:ay (fun y=>y<B0/\Off b g' y) (fun y=>y<B0/\Off b g' y) wr y v):ay (Off b g') (Off b g') wr y v:=D.mono (fun _ _ h=>h.2) (fun _ _ h=>h.2)
theorem ed {items:List Raw} {tail:Raw} {i:Nat} (h:i<items.length):aQ (items.drop i) tail=dn items[i] (aQ (items.drop (i+1)) tail):=by
 rw [List.drop_eq_getElem_cons h];rfl
def Sep (pl:Bool) (items:List Raw) (tail:Raw) (i:Nat) (s:ByteArray) (pend:List UInt8):Prop:=
 (i=0/\s=⟨#[]⟩/\32 :: pend=dD pl (aQ items tail))\/(0<i/\s=⟨#[32]⟩/\pend=dD pl (aQ (items.drop i) tail))
theorem Sep.item {pl:Bool} {items:List Raw} {tail:Raw} {i:Nat} {s:ByteArray} {pend:List UInt8} (h:Sep pl items tail i s pend) (hi:i<items.length):pend=s.data.toList++(am pl items[i]++dD pl (aQ (items.drop (i+1)) tail)):=by
 rcases h with ⟨rfl,rfl,e⟩ | ⟨_,rfl,e⟩
 ·have h2:=ed (items:=items) (tail:=tail) hi
  rw [List.drop_zero] at h2
  rw [h2,eO (r:=dn items[0] (aQ (items.drop (0+1)) tail)) pl (a:=items[0]) (d:=aQ (items.drop (0+1)) tail) rfl rfl] at e
  injection e with _ e
 ·rw [e,ed hi,eO (r:=dn items[i] (aQ (items.drop (i+1)) tail)) pl (a:=items[i]) (d:=aQ (items.drop (i+1)) tail) rfl rfl]
  rfl
theorem Sep.next {pl:Bool} {items:List Raw} {tail:Raw} {i:Nat}:Sep pl items tail (i+1) ⟨#[32]⟩ (dD pl (aQ (items.drop (i+1)) tail)):=.inr ⟨by omega,rfl,rfl⟩
theorem cY {N Q:Nat->Prop} {w:World} {x d:Raw} {p:PV} (h:ay N Q w (dn x d) p):∃ bb off v0 v1,p.B=some ⟨bb,off,.none⟩/\p.m=2/\Q bb/\cV w bb off 0 x v0/\ay N Q w x v0/\cV w bb off 1 d v1/\ay N Q w d v1:=by
 have hm:p.m=2:=h.len.symm
 cases h with
 | mk num nP len mcap big vs row ch=>
  obtain ⟨bb,off,e,hq,hi⟩:=row (by omega)
  exact ⟨bb,off,vs 0,vs 1,e,hm,hq,hi 0 (by show 0<2;omega),ch 0 (by show 0<2;omega),hi 1 (by show 1<2;omega),ch 1 (by show 1<2;omega)⟩
theorem lj (items:List Raw) (tail:Raw) (ht:tail.k ≠ 7) (h0:items ≠ []) (HI:∀ i (h:i<items.length),dq 78 items[i]) (HT:tail.k ≠ 0->dq 78 tail):dq 114 (aQ items tail):=by
 intro base W b pl l g p E D hlen
 obtain ⟨TT,hTT⟩:∃ TT,TT=l++am pl (aQ items tail):=⟨_,rfl⟩
 rw [<- hTT]
 have h00:0<items.length:=List.length_pos_iff.2 h0
 obtain ⟨pend0,hp0,hs0⟩:∃ pend,TT=l++([40]++pend)/\Sep pl items tail 0 ⟨#[]⟩ pend:=by
  have h2:=ed (items:=items) (tail:=tail) h00
  rw [List.drop_zero] at h2
  refine ⟨am pl items[0]++dD pl (aQ (items.drop (0+1)) tail),?_,.inl ⟨rfl,rfl,?_⟩⟩
  ·rw [hTT,h2,gB (r:=dn items[0] (aQ (items.drop (0+1)) tail)) pl (a:=items[0]) (d:=aQ (items.drop (0+1)) tail) rfl rfl]
   rfl
  ·rw [h2,eO (r:=dn items[0] (aQ (items.drop (0+1)) tail)) pl (a:=items[0]) (d:=aQ (items.drop (0+1)) tail) rfl rfl]
 have hTl:TT.length<=1000000000000:=by rw [hTT,List.length_append];exact hlen
 have HTL:=hid hTl
 have HS:=hid (fun (W:World) (m:List UInt8) (g':Option Nat) (h:aL W b pl m g') (hm:m.length<=100000000000000) (s:ByteArray) (hs:s.size<=1000)=>bu h s (by omega) hm)
 have HY40:=hid (fun (W:World) (m:List UInt8) (g':Option Nat) (h:aL W b pl m g') (hm:m.length<=100000000000000)=>(show Calls Tryz.prog 113 #[.pointer (some ⟨b,0,none⟩),.int .u8 40] W (fun e w'=>e=.returned .nilIface/\br W b pl (m++[40]) g' w') from jy W b pl m g' 40 h (by omega)))
 have HY41:=hid (fun (W:World) (m:List UInt8) (g':Option Nat) (h:aL W b pl m g') (hm:m.length<=100000000000000)=>(show Calls Tryz.prog 113 #[.pointer (some ⟨b,0,none⟩),.int .u8 41] W (fun e w'=>e=.returned .nilIface/\br W b pl (m++[41]) g' w') from jy W b pl m g' 41 h (by omega)))
 obtain ⟨r,hr⟩:∃ r,r=aQ items tail:=⟨_,rfl⟩
 rw [<- hr] at D ⊢
 have HP:=hid (PSw.start E D hp0.symm)
 have HR:=hid hr
 have HII:=hid HI
 have HTT:=hid HT
 have HT7:=hid ht
 have H0:=hid h00
 have HS0:=hid hs0
 clear HI HT ht h0 h00 hs0 hp0 hTT hTl hlen E D hr
 go_enter Tryz.func114,Tryz.ntmps114
 go_wp2_with fail
 generalize W.alloc (.cells (cL r p) 27)=w1 at *
 generalize W.heap.size=B0 at *
 refine (HY40.out _ _ _ HP.out.env.sh (by have:=HP.out.len;have:=HTL.out;omega)).mono ?_
 rintro e w2 ⟨rfl,hw⟩
 obtain ⟨g2,hp2⟩:=HP.out.wrote hw
 have HP2:=hid hp2
 clear hw hp2 HP
 try dsimp only
 go_wp2_with fail
 go_loopg [4] items.length (fun k sv wr=>∃ (i:Nat) (p':PV) (s:ByteArray) (acc pend:List UInt8) (g':Option Nat),i+k=items.length/\sv=.string s/\PSw base W b pl TT g B0 (aQ (items.drop i) tail) p' acc pend g' wr/\Sep pl items tail i s pend)
 case atStart=>exact ⟨0,p,⟨#[]⟩,l++[40],pend0,g2,by omega,rfl,by rw [List.drop_zero,<- HR.out];exact HP2.out,HS0.out⟩
 case round=>
  obtain ⟨i,p',s,acc,pend,g',hk,rfl,hp,hsep⟩:=hrel
  have HK:=hid hk
  have HSEP:=hid hsep
  have HP:=hid hp
  have hss:s.size<=1000:=by
   rcases hsep with ⟨_,rfl,_⟩ | ⟨_,rfl,_⟩<;>decide
  have HSS:=hid hss
  by_cases hi:i<items.length
  ·have HIT:=hid (hsep.item hi)
   rw [ed hi] at HP
   have HLT:=hid hi
   obtain ⟨x,hx⟩:∃ x,x=items[i]'hi:=⟨_,rfl⟩
   obtain ⟨d,hd⟩:∃ d,d=aQ (items.drop (i+1)) tail:=⟨_,rfl⟩
   have HX:Hid (dq 78 x):=hid (by rw [hx];exact HII.out i hi)
   rw [<- hx,<- hd] at HIT HP
   rw [HIT.out] at HP
   have HDD:=hid hd
   obtain ⟨bb,off,_,_,hB,hm,_⟩:=cY HP.out.dat
   have hbox:wr.heap[B0]? = some (.cells (rwC 7 0 false p'.A p'.n p'.cp ⟨#[]⟩ (some ⟨bb,off,none⟩) 2 p'.cap) 27 (0,0)):=by rw [<- hB,<- hm];exact HP.out.box
   obtain ⟨⟨a0,a1,a2,a3,a4,a5⟩,_⟩:=ae hbox
   clear hk hsep hp hss hi hx hd HSEP hB hm hbox HIT
   go_wp2_with fail
   refine (HS.out _ _ _ HP.out.env.sh (by have:=HP.out.len;have:=HTL.out;omega) s HSS.out).mono ?_
   rintro e w3 ⟨⟨k3,rfl⟩,hw⟩
   obtain ⟨g3,hp3⟩:=HP.out.wrote hw
   have HP3:=hid hp3
   clear hw hp3 a0 a1 a2 a3 a4 a5
   obtain ⟨bb3,off3,v0,_,hB,hm,_,hi0,hd0,_⟩:=cY HP3.out.dat
   have hbox:w3.heap[B0]? = some (.cells (rwC 7 0 false p'.A p'.n p'.cp ⟨#[]⟩ (some ⟨bb3,off3,none⟩) 2 p'.cap) 27 (0,0)):=by rw [<- hB,<- hm];exact HP3.out.box
   obtain ⟨⟨a0,a1,a2,a3,a4,a5⟩,_⟩:=ae hbox
   obtain ⟨c0,c1,c2,c3,c4,c5⟩:=hi0.cells
   simp only [Nat.zero_mul,Nat.add_zero] at c0 c1 c2 c3 c4 c5
   have HD0:=hid (HP3.out.off2 hd0)
   clear hB hm hi0 hd0 hbox
   try dsimp only
   go_wp2_with fail
   refine (HX.out base w3 b pl _ g3 v0 HP3.out.env HD0.out (by have h1:=HP3.out.len;have:=HTL.out;rw [@List.length_append _ (am pl _)] at h1;omega)).mono ?_
   rintro e w4 ⟨rfl,hw⟩
   obtain ⟨g4,hp4⟩:=HP3.out.wrote hw
   have HP4:=hid hp4
   clear hw hp4 a0 a1 a2 a3 a4 a5 c0 c1 c2 c3 c4 c5
   obtain ⟨bb4,off4,_,v1,hB,hm,_,_,_,hi1,hd1⟩:=cY HP4.out.dat
   have hbox:w4.heap[B0]? = some (.cells (rwC 7 0 false p'.A p'.n p'.cp ⟨#[]⟩ (some ⟨bb4,off4,none⟩) 2 p'.cap) 27 (0,0)):=by rw [<- hB,<- hm];exact HP4.out.box
   obtain ⟨⟨a0,a1,a2,a3,a4,a5⟩,f0,f1,f2,f3,f4,f5⟩:=ae hbox
   obtain ⟨c0,c1,c2,c3,c4,c5⟩:=hi1.cells
   simp only [Nat.one_mul] at c0 c1 c2 c3 c4 c5
   have HP5:=hid (HP4.out.put hd1)
   clear hB hm hi1 hd1 hbox
   try dsimp only
   go_wp2_with fail
   go_roundg (gk - 1)
   case rel=>exact ⟨i+1,v1,⟨#[32]⟩,_,_,g4,by have:=HK.out;have:=HLT.out;omega,rfl,by rw [<- HDD.out];exact HP5.out,by rw [HDD.out];exact Sep.next⟩
   case measure=>have:=HK.out;have:=HLT.out;omega
  ·have hie:i=items.length:=by omega
   have hl:aQ (items.drop i) tail=tail:=by rw [hie,List.drop_length];rfl
   rw [hl] at HP
   have hpe:pend=dD pl tail:=by
    rcases hsep with ⟨e,_⟩ | ⟨_,_,e⟩
    ·have:=H0.out;omega
    ·rw [e,hl]
   have hbox:wr.heap[B0]? = some (.cells (rwC tail.k tail.c tail.neg p'.A p'.n p'.cp tail.t p'.B p'.m p'.cap) 27 (0,0)):=HP.out.box
   obtain ⟨⟨a0,a1,a2,a3,a4,a5⟩,_⟩:=ae hbox
   have t7:(tail.k == 7)=false:=bF.2 HT7.out
   clear hk hsep hp hss hie hl hbox hi HSEP
   by_cases h0:tail.k=0
   ·have t0:(tail.k == 0)=true:=beq_iff_eq.2 h0
    have HPE:=hid (hpe.trans (jW pl h0))
    clear hpe h0
    rw [HPE.out] at HP
    try dsimp only
    go_wp2_with fail
    refine (HY41.out _ _ _ HP.out.env.sh (by have:=HP.out.len;have:=HTL.out;omega)).mono ?_
    rintro e w3 ⟨rfl,hw⟩
    obtain ⟨g3,hp3⟩:=PSw.wrote (s:=[41]) (pend:=[]) HP.out hw
    have HP3:=hid hp3
    clear hw hp3
    try dsimp only
    go_wp2_with fail
    go_end0
    exact ⟨rfl,HP3.out.done⟩
   ·have t0:(tail.k == 0)=false:=bF.2 h0
    have HPE:=hid (hpe.trans (iz pl HT7.out h0))
    have HX:=hid (HTT.out h0)
    clear hpe h0
    rw [HPE.out,show (32 :: 46 :: 32 :: (am pl tail++[41]))=[32,46,32]++(am pl tail++[41]) from rfl] at HP
    try dsimp only
    go_wp2_with fail
    refine (HS.out _ _ _ HP.out.env.sh (by have:=HP.out.len;have:=HTL.out;omega) _ (by decide)).mono ?_
    rintro e w3 ⟨⟨k3,rfl⟩,hw⟩
    obtain ⟨g3,hp3⟩:=PSw.wrote (s:=[32,46,32]) HP.out hw
    have HP3:=hid hp3
    clear hw hp3 a0 a1 a2 a3 a4 a5
    have hbox:w3.heap[B0]? = some (.cells (rwC tail.k tail.c tail.neg p'.A p'.n p'.cp tail.t p'.B p'.m p'.cap) 27 (0,0)):=HP3.out.box
    obtain ⟨⟨a0,a1,a2,a3,a4,a5⟩,_⟩:=ae hbox
    clear hbox
    try dsimp only
    go_wp2_with fail
    refine (HX.out base w3 b pl _ g3 p' HP3.out.env (HP3.out.off2 HP3.out.dat) (by have h1:=HP3.out.len;have:=HTL.out;rw [@List.length_append _ (am pl _)] at h1;omega)).mono ?_
    rintro e w4 ⟨rfl,hw⟩
    obtain ⟨g4,hp4⟩:=HP3.out.wrote hw
    have HP4:=hid hp4
    clear hw hp4
    try dsimp only
    go_wp2_with fail
    refine (HY41.out _ _ _ HP4.out.env.sh (by have:=HP4.out.len;have:=HTL.out;omega)).mono ?_
    rintro e w5 ⟨rfl,hw⟩
    obtain ⟨g5,hp5⟩:=PSw.wrote (s:=[41]) (pend:=[]) HP4.out hw
    have HP5:=hid hp5
    clear hw hp5
    try dsimp only
    go_wp2_with fail
    go_end0
    exact ⟨rfl,HP5.out.done⟩
end Go.Proofs.YtonnikipeokkaaaGreatDoor

namespace Go.Proofs.YtonnikipeokkaaaGreatDoor
set_option maxRecDepth 100000
set_option maxHeartbeats 8000000
open Go.Lib (hid)
open Go.RowKit Go.Lib
theorem uw {N Q:Nat->Prop} {W:World} {x:Raw} {p:PV} (D:ay N Q W x p) (hm:0<p.m) (h:x.l.length=p.m/\p.m<=62):Calls Tryz.prog 103 #[.slice p.B p.m p.cap] W (b8 (aQ x.l .nil) W):=by
 cases D with
 | mk num nP len mcap big vs row ch=>
  rw [<- h.1]
  refine ug x.l vs p.B p.cap W (by omega) (fun _=>?_) ch
  obtain ⟨bb,off,e,_,hi⟩:=row hm
  exact ⟨bb,off,e,hi⟩
theorem pL (pl:Bool) (base:Nat) (W:World) (b:Nat) (l:List UInt8) (g:Option Nat) (x:Raw) (p:PV) (E:dt base W b pl l g) (D:ay (Off b g) (Off b g) W x p) (tx:List UInt8) (hlen:l.length+tx.length<=1000000000000) (s0:(x.k == 0)=true) (ht:Hid (tx=[40,41])):Calls Tryz.prog 78 #[.pointer (some ⟨b,0,none⟩),rawV x p] W (WrP W b pl (l++tx) g):=by
 have HS:=hid (fun (W:World) (m:List UInt8) (g':Option Nat) (h:aL W b pl m g') (hm:m.length<=100000000000000) (s:ByteArray) (hs:s.size<=1000000000000)=>bu h s hs hm)
 have HP:=hid (PSw.start (pend:=tx) E D rfl)
 have HL:=hid hlen
 have HTL:Hid ((l++tx).length<=1000000000000):=hid (by rw [List.length_append];exact hlen)
 clear E hlen D
 obtain ⟨⟨a0,a1,a2,a3,a4,a5⟩,_⟩:=ae HP.out.box
 go_enter Tryz.func78,Tryz.ntmps78
 go_wp2_with fail
 generalize W.alloc (.cells (cL x p) 27)=w1 at *
 generalize W.heap.size=B0 at *
 refine (HS.out _ _ _ HP.out.env.sh (by have h1:=HP.out.len;have:=HTL.out;omega) _ (by decide)).mono ?_
 rintro e w3 ⟨⟨k3,rfl⟩,hw⟩
 obtain ⟨gq,hq⟩:=PSw.wrote (s:=tx) (pend:=[]) (by rw [List.append_nil];exact HP.out) (by rw [ht.out];exact hw)
 have HQ:=hid hq
 clear hw hq
 try dsimp only
 go_wp2_with fail
 go_end0
 exact ⟨rfl,HQ.out.done⟩
theorem vn (pl:Bool) (base:Nat) (W:World) (b:Nat) (l:List UInt8) (g:Option Nat) (x:Raw) (p:PV) (E:dt base W b pl l g) (D:ay (Off b g) (Off b g) W x p) (tx:List UInt8) (hlen:l.length+tx.length<=1000000000000) (s0:(x.k == 0)=false) (s1:(x.k == 1)=true) (ht:Hid (tx=[35,116])):Calls Tryz.prog 78 #[.pointer (some ⟨b,0,none⟩),rawV x p] W (WrP W b pl (l++tx) g):=by
 have HS:=hid (fun (W:World) (m:List UInt8) (g':Option Nat) (h:aL W b pl m g') (hm:m.length<=100000000000000) (s:ByteArray) (hs:s.size<=1000000000000)=>bu h s hs hm)
 have HP:=hid (PSw.start (pend:=tx) E D rfl)
 have HL:=hid hlen
 have HTL:Hid ((l++tx).length<=1000000000000):=hid (by rw [List.length_append];exact hlen)
 clear E hlen D
 obtain ⟨⟨a0,a1,a2,a3,a4,a5⟩,_⟩:=ae HP.out.box
 go_enter Tryz.func78,Tryz.ntmps78
 go_wp2_with fail
 generalize W.alloc (.cells (cL x p) 27)=w1 at *
 generalize W.heap.size=B0 at *
 refine (HS.out _ _ _ HP.out.env.sh (by have h1:=HP.out.len;have:=HTL.out;omega) _ (by decide)).mono ?_
 rintro e w3 ⟨⟨k3,rfl⟩,hw⟩
 obtain ⟨gq,hq⟩:=PSw.wrote (s:=tx) (pend:=[]) (by rw [List.append_nil];exact HP.out) (by rw [ht.out];exact hw)
 have HQ:=hid hq
 clear hw hq
 try dsimp only
 go_wp2_with fail
 go_end0
 exact ⟨rfl,HQ.out.done⟩
theorem vm (pl:Bool) (base:Nat) (W:World) (b:Nat) (l:List UInt8) (g:Option Nat) (x:Raw) (p:PV) (E:dt base W b pl l g) (D:ay (Off b g) (Off b g) W x p) (tx:List UInt8) (hlen:l.length+tx.length<=1000000000000) (s0:(x.k == 0)=false) (s1:(x.k == 1)=false) (s2:(x.k == 2)=true) (ht:Hid (tx=[35,102])):Calls Tryz.prog 78 #[.pointer (some ⟨b,0,none⟩),rawV x p] W (WrP W b pl (l++tx) g):=by
 have HS:=hid (fun (W:World) (m:List UInt8) (g':Option Nat) (h:aL W b pl m g') (hm:m.length<=100000000000000) (s:ByteArray) (hs:s.size<=1000000000000)=>bu h s hs hm)
 have HP:=hid (PSw.start (pend:=tx) E D rfl)
 have HL:=hid hlen
 have HTL:Hid ((l++tx).length<=1000000000000):=hid (by rw [List.length_append];exact hlen)
 clear E hlen D
 obtain ⟨⟨a0,a1,a2,a3,a4,a5⟩,_⟩:=ae HP.out.box
 go_enter Tryz.func78,Tryz.ntmps78
 go_wp2_with fail
 generalize W.alloc (.cells (cL x p) 27)=w1 at *
 generalize W.heap.size=B0 at *
 refine (HS.out _ _ _ HP.out.env.sh (by have h1:=HP.out.len;have:=HTL.out;omega) _ (by decide)).mono ?_
 rintro e w3 ⟨⟨k3,rfl⟩,hw⟩
 obtain ⟨gq,hq⟩:=PSw.wrote (s:=tx) (pend:=[]) (by rw [List.append_nil];exact HP.out) (by rw [ht.out];exact hw)
 have HQ:=hid hq
 clear hw hq
 try dsimp only
 go_wp2_with fail
 go_end0
 exact ⟨rfl,HQ.out.done⟩
theorem vl (pl:Bool) (base:Nat) (W:World) (b:Nat) (l:List UInt8) (g:Option Nat) (x:Raw) (p:PV) (E:dt base W b pl l g) (D:ay (Off b g) (Off b g) W x p) (tx:List UInt8) (hlen:l.length+tx.length<=1000000000000) (s0:(x.k == 0)=false) (s1:(x.k == 1)=false) (s2:(x.k == 2)=false) (s9:(x.k == 9)=true) (ht:Hid (tx=[35,60,118,111,105,100,62])):Calls Tryz.prog 78 #[.pointer (some ⟨b,0,none⟩),rawV x p] W (WrP W b pl (l++tx) g):=by
 have HS:=hid (fun (W:World) (m:List UInt8) (g':Option Nat) (h:aL W b pl m g') (hm:m.length<=100000000000000) (s:ByteArray) (hs:s.size<=1000000000000)=>bu h s hs hm)
 have HP:=hid (PSw.start (pend:=tx) E D rfl)
 have HL:=hid hlen
 have HTL:Hid ((l++tx).length<=1000000000000):=hid (by rw [List.length_append];exact hlen)
 clear E hlen D
 obtain ⟨⟨a0,a1,a2,a3,a4,a5⟩,_⟩:=ae HP.out.box
 go_enter Tryz.func78,Tryz.ntmps78
 go_wp2_with fail
 generalize W.alloc (.cells (cL x p) 27)=w1 at *
 generalize W.heap.size=B0 at *
 refine (HS.out _ _ _ HP.out.env.sh (by have h1:=HP.out.len;have:=HTL.out;omega) _ (by decide)).mono ?_
 rintro e w3 ⟨⟨k3,rfl⟩,hw⟩
 obtain ⟨gq,hq⟩:=PSw.wrote (s:=tx) (pend:=[]) (by rw [List.append_nil];exact HP.out) (by rw [ht.out];exact hw)
 have HQ:=hid hq
 clear hw hq
 try dsimp only
 go_wp2_with fail
 go_end0
 exact ⟨rfl,HQ.out.done⟩
theorem sK (pl:Bool) (base:Nat) (W:World) (b:Nat) (l:List UInt8) (g:Option Nat) (x:Raw) (p:PV) (E:dt base W b pl l g) (D:ay (Off b g) (Off b g) W x p) (tx:List UInt8) (hlen:l.length+tx.length<=1000000000000) (s0:(x.k == 0)=false) (s1:(x.k == 1)=false) (s2:(x.k == 2)=false) (s9:(x.k == 9)=false) (s10:(x.k == 10)=true) (ht:Hid (tx=[35,60,101,111,102,62])):Calls Tryz.prog 78 #[.pointer (some ⟨b,0,none⟩),rawV x p] W (WrP W b pl (l++tx) g):=by
 have HS:=hid (fun (W:World) (m:List UInt8) (g':Option Nat) (h:aL W b pl m g') (hm:m.length<=100000000000000) (s:ByteArray) (hs:s.size<=1000000000000)=>bu h s hs hm)
 have HP:=hid (PSw.start (pend:=tx) E D rfl)
 have HL:=hid hlen
 have HTL:Hid ((l++tx).length<=1000000000000):=hid (by rw [List.length_append];exact hlen)
 clear E hlen D
 obtain ⟨⟨a0,a1,a2,a3,a4,a5⟩,_⟩:=ae HP.out.box
 go_enter Tryz.func78,Tryz.ntmps78
 go_wp2_with fail
 generalize W.alloc (.cells (cL x p) 27)=w1 at *
 generalize W.heap.size=B0 at *
 refine (HS.out _ _ _ HP.out.env.sh (by have h1:=HP.out.len;have:=HTL.out;omega) _ (by decide)).mono ?_
 rintro e w3 ⟨⟨k3,rfl⟩,hw⟩
 obtain ⟨gq,hq⟩:=PSw.wrote (s:=tx) (pend:=[]) (by rw [List.append_nil];exact HP.out) (by rw [ht.out];exact hw)
 have HQ:=hid hq
 clear hw hq
 try dsimp only
 go_wp2_with fail
 go_end0
 exact ⟨rfl,HQ.out.done⟩
theorem sI (base:Nat) (W:World) (b:Nat) (l:List UInt8) (g:Option Nat) (x:Raw) (p:PV) (E:dt base W b true l g) (D:ay (Off b g) (Off b g) W x p) (tx:List UInt8) (hlen:l.length+tx.length<=1000000000000) (s0:(x.k == 0)=false) (s1:(x.k == 1)=false) (s2:(x.k == 2)=false) (s9:(x.k == 9)=false) (s10:(x.k == 10)=false) (s4:(x.k == 4)=false) (s3:(x.k == 3)=true) (n:Nat) (hc:Hid (x.c=(n:Int))) (hch:bn n=true) (ht:Hid (tx=aI n)):Calls Tryz.prog 78 #[.pointer (some ⟨b,0,none⟩),rawV x p] W (WrP W b true (l++tx) g):=by
 have HS:=hid (fun (W:World) (m:List UInt8) (g':Option Nat) (h:aL W b true m g') (hm:m.length<=100000000000000) (s:ByteArray) (hs:s.size<=1000000000000)=>bu h s hs hm)
 have HP:=hid (PSw.start (pend:=tx) E D rfl)
 have HL:=hid hlen
 have HTL:Hid ((l++tx).length<=1000000000000):=hid (by rw [List.length_append];exact hlen)
 clear E hlen D
 obtain ⟨⟨a0,a1,a2,a3,a4,a5⟩,_⟩:=ae HP.out.box
 have hpl:=HP.out.env.pl
 go_enter Tryz.func78,Tryz.ntmps78
 go_wp2_with fail
 generalize W.alloc (.cells (cL x p) 27)=w1 at *
 generalize W.heap.size=B0 at *
 have HU:=hid (gC w1.drew b true l g n hch HP.out.env.sh (by have h1:=HP.out.len;have:=HTL.out;omega))
 rw [<- hc.out] at HU
 go_region_with (go_at_call 109;refine HU.out.mono ?_;rintro e w3 ⟨⟨k3,rfl⟩,hw⟩;obtain ⟨gq,hq⟩:=PSw.wrote (s:=tx) (pend:=[]) (by rw [List.append_nil];exact HP.out) (by rw [ht.out];exact hw.undrew);have HQ:=hid hq)
 all_goals (go_wp2_with fail)
 all_goals go_end0
 all_goals exact ⟨rfl,HQ.out.done⟩
theorem sJ (base:Nat) (W:World) (b:Nat) (l:List UInt8) (g:Option Nat) (x:Raw) (p:PV) (E:dt base W b false l g) (D:ay (Off b g) (Off b g) W x p) (tx:List UInt8) (hlen:l.length+tx.length<=1000000000000) (s0:(x.k == 0)=false) (s1:(x.k == 1)=false) (s2:(x.k == 2)=false) (s9:(x.k == 9)=false) (s10:(x.k == 10)=false) (s4:(x.k == 4)=false) (s3:(x.k == 3)=true) (n:Nat) (hc:Hid (x.c=(n:Int))) (hch:bn n=true) (ht:Hid (tx=35 :: 92 :: bH n)):Calls Tryz.prog 78 #[.pointer (some ⟨b,0,none⟩),rawV x p] W (WrP W b false (l++tx) g):=by
 have HS:=hid (fun (W:World) (m:List UInt8) (g':Option Nat) (h:aL W b false m g') (hm:m.length<=100000000000000) (s:ByteArray) (hs:s.size<=1000000000000)=>bu h s hs hm)
 have HP:=hid (PSw.start (pend:=tx) E D rfl)
 have HL:=hid hlen
 have HTL:Hid ((l++tx).length<=1000000000000):=hid (by rw [List.length_append];exact hlen)
 clear E hlen D
 obtain ⟨⟨a0,a1,a2,a3,a4,a5⟩,_⟩:=ae HP.out.box
 have hpl:=HP.out.env.pl
 go_enter Tryz.func78,Tryz.ntmps78
 go_wp2_with fail
 generalize W.alloc (.cells (cL x p) 27)=w1 at *
 generalize W.heap.size=B0 at *
 have HU:=hid (ou n hch w1 b false l g HP.out.env.sh (by have h1:=HP.out.len;have:=HTL.out;omega) HP.out.env.ts.now.2.2 (fun h=>by
  have:=HP.out.env.sb 6 h
  exact HP.out.env.low h))
 rw [<- hc.out] at HU
 refine HU.out.mono ?_
 rintro e w3 ⟨rfl,hw⟩
 obtain ⟨gq,hq⟩:=PSw.wrote (s:=tx) (pend:=[]) (by rw [List.append_nil];exact HP.out) (by rw [ht.out];exact hw)
 have HQ:=hid hq
 clear hw hq
 try dsimp only
 go_wp2_with fail
 go_end0
 exact ⟨rfl,HQ.out.done⟩
theorem vk (pl:Bool) (base:Nat) (W:World) (b:Nat) (l:List UInt8) (g:Option Nat) (x:Raw) (p:PV) (E:dt base W b pl l g) (D:ay (Off b g) (Off b g) W x p) (tx:List UInt8) (hlen:l.length+tx.length<=1000000000000) (s0:(x.k == 0)=false) (s1:(x.k == 1)=false) (s2:(x.k == 2)=false) (s9:(x.k == 9)=false) (s10:(x.k == 10)=false) (s4:(x.k == 4)=true) (ht:Hid (tx=itoa (ci x.neg x.mag))) (hm:p.n<=9000):Calls Tryz.prog 78 #[.pointer (some ⟨b,0,none⟩),rawV x p] W (WrP W b pl (l++tx) g):=by
 have HS:=hid (fun (W:World) (m:List UInt8) (g':Option Nat) (h:aL W b pl m g') (hm:m.length<=100000000000000) (s:ByteArray) (hs:s.size<=1000000000000)=>bu h s hs hm)
 have HP:=hid (PSw.start (pend:=tx) E D rfl)
 have HL:=hid hlen
 have HTL:Hid ((l++tx).length<=1000000000000):=hid (by rw [List.length_append];exact hlen)
 clear E hlen D
 obtain ⟨⟨a0,a1,a2,a3,a4,a5⟩,_⟩:=ae HP.out.box
 go_enter Tryz.func78,Tryz.ntmps78
 go_wp2_with fail
 generalize W.alloc (.cells (cL x p) 27)=w1 at *
 generalize W.heap.size=B0 at *
 have HT:=hid (sr x.neg p.A p.n p.cp x.mag w1.drew (HP.out.dat.num.keep0 kR.drew) hm (HP.out.env.ts.now.2.1.keep kR.drew))
 rw [<- ht.out] at HT
 clear hm
 go_region_with (first
  | (go_at_call 108;refine HT.out.mono ?_;rintro e w3 ⟨rfl,k3⟩;have HP3:=hid (HP.out.keep0 (kR.drew.trans k3));clear k3)
  | (go_at_call 107;refine (HS.out _ _ _ HP3.out.env.sh (by have h1:=HP3.out.len;have:=HTL.out;omega) _ (by rw [aR];have:=HL.out;omega)).mono ?_;rintro e w4 ⟨⟨k4,rfl⟩,hw⟩;obtain ⟨gq,hq⟩:=PSw.wrote (s:=tx) (pend:=[]) (by rw [List.append_nil];exact HP3.out) hw;have HQ:=hid hq))
 all_goals (go_wp2_with fail)
 all_goals go_end0
 all_goals exact ⟨rfl,HQ.out.done⟩
theorem sD (base:Nat) (W:World) (b:Nat) (l:List UInt8) (g:Option Nat) (x:Raw) (p:PV) (E:dt base W b true l g) (D:ay (Off b g) (Off b g) W x p) (tx:List UInt8) (hlen:l.length+tx.length<=1000000000000) (s0:(x.k == 0)=false) (s1:(x.k == 1)=false) (s2:(x.k == 2)=false) (s9:(x.k == 9)=false) (s10:(x.k == 10)=false) (s4:(x.k == 4)=false) (s3:(x.k == 3)=false) (s6:(x.k == 6)=true)  (ht:Hid (tx=x.t.data.toList)):Calls Tryz.prog 78 #[.pointer (some ⟨b,0,none⟩),rawV x p] W (WrP W b true (l++tx) g):=by
 have HS:=hid (fun (W:World) (m:List UInt8) (g':Option Nat) (h:aL W b true m g') (hm:m.length<=100000000000000) (s:ByteArray) (hs:s.size<=1000000000000)=>bu h s hs hm)
 have HP:=hid (PSw.start (pend:=tx) E D rfl)
 have HL:=hid hlen
 have HTL:Hid ((l++tx).length<=1000000000000):=hid (by rw [List.length_append];exact hlen)
 clear E hlen D
 obtain ⟨⟨a0,a1,a2,a3,a4,a5⟩,_⟩:=ae HP.out.box
 have hpl:=HP.out.env.pl
 go_enter Tryz.func78,Tryz.ntmps78
 go_wp2_with fail
 generalize W.alloc (.cells (cL x p) 27)=w1 at *
 generalize W.heap.size=B0 at *
 have HTS:=hid (show x.t.size<=1000000000000 from by rw [Lib.size_eq,<- ht.out];have:=HL.out;omega)
 clear HL
 go_region_with (go_at_call 107;refine (HS.out _ _ _ (aL.keep0 HP.out.env.sh kR.drew) (by have h1:=HP.out.len;have:=HTL.out;omega) _ HTS.out).mono ?_;rintro e w3 ⟨⟨k3,rfl⟩,hw⟩;obtain ⟨gq,hq⟩:=PSw.wrote (s:=tx) (pend:=[]) (by rw [List.append_nil];exact HP.out) (by rw [ht.out];exact hw.undrew);have HQ:=hid hq)
 all_goals (go_wp2_with fail)
 all_goals go_end0
 all_goals exact ⟨rfl,HQ.out.done⟩
theorem sG (base:Nat) (W:World) (b:Nat) (l:List UInt8) (g:Option Nat) (x:Raw) (p:PV) (E:dt base W b true l g) (D:ay (Off b g) (Off b g) W x p) (tx:List UInt8) (hlen:l.length+tx.length<=1000000000000) (s0:(x.k == 0)=false) (s1:(x.k == 1)=false) (s2:(x.k == 2)=false) (s9:(x.k == 9)=false) (s10:(x.k == 10)=false) (s4:(x.k == 4)=false) (s3:(x.k == 3)=false) (s6:(x.k == 6)=false) (s5:(x.k == 5)=true)  (ht:Hid (tx=x.t.data.toList)):Calls Tryz.prog 78 #[.pointer (some ⟨b,0,none⟩),rawV x p] W (WrP W b true (l++tx) g):=by
 have HS:=hid (fun (W:World) (m:List UInt8) (g':Option Nat) (h:aL W b true m g') (hm:m.length<=100000000000000) (s:ByteArray) (hs:s.size<=1000000000000)=>bu h s hs hm)
 have HP:=hid (PSw.start (pend:=tx) E D rfl)
 have HL:=hid hlen
 have HTL:Hid ((l++tx).length<=1000000000000):=hid (by rw [List.length_append];exact hlen)
 clear E hlen D
 obtain ⟨⟨a0,a1,a2,a3,a4,a5⟩,_⟩:=ae HP.out.box
 have hpl:=HP.out.env.pl
 go_enter Tryz.func78,Tryz.ntmps78
 go_wp2_with fail
 generalize W.alloc (.cells (cL x p) 27)=w1 at *
 generalize W.heap.size=B0 at *
 have HTS:=hid (show x.t.size<=1000000000000 from by rw [Lib.size_eq,<- ht.out];have:=HL.out;omega)
 clear HL
 go_region_with (go_at_call 107;refine (HS.out _ _ _ (aL.keep0 HP.out.env.sh kR.drew) (by have h1:=HP.out.len;have:=HTL.out;omega) _ HTS.out).mono ?_;rintro e w3 ⟨⟨k3,rfl⟩,hw⟩;obtain ⟨gq,hq⟩:=PSw.wrote (s:=tx) (pend:=[]) (by rw [List.append_nil];exact HP.out) (by rw [ht.out];exact hw.undrew);have HQ:=hid hq)
 all_goals (go_wp2_with fail)
 all_goals go_end0
 all_goals exact ⟨rfl,HQ.out.done⟩
theorem sF (base:Nat) (W:World) (b:Nat) (l:List UInt8) (g:Option Nat) (x:Raw) (p:PV) (E:dt base W b false l g) (D:ay (Off b g) (Off b g) W x p) (tx:List UInt8) (hlen:l.length+tx.length<=1000000000000) (s0:(x.k == 0)=false) (s1:(x.k == 1)=false) (s2:(x.k == 2)=false) (s9:(x.k == 9)=false) (s10:(x.k == 10)=false) (s4:(x.k == 4)=false) (s3:(x.k == 3)=false) (s6:(x.k == 6)=true) (r:List Nat) (hr:au x.t.data.toList=some r) (hb:Hid (dI x.t.data.toList=true)) (ht:Hid (tx=x.t.data.toList)):Calls Tryz.prog 78 #[.pointer (some ⟨b,0,none⟩),rawV x p] W (WrP W b false (l++tx) g):=by
 have HS:=hid (fun (W:World) (m:List UInt8) (g':Option Nat) (h:aL W b false m g') (hm:m.length<=100000000000000) (s:ByteArray) (hs:s.size<=1000000000000)=>bu h s hs hm)
 have HP:=hid (PSw.start (pend:=tx) E D rfl)
 have HL:=hid hlen
 have HTL:Hid ((l++tx).length<=1000000000000):=hid (by rw [List.length_append];exact hlen)
 clear E hlen D
 obtain ⟨⟨a0,a1,a2,a3,a4,a5⟩,_⟩:=ae HP.out.box
 have hpl:=HP.out.env.pl
 go_enter Tryz.func78,Tryz.ntmps78
 go_wp2_with fail
 generalize W.alloc (.cells (cL x p) 27)=w1 at *
 generalize W.heap.size=B0 at *
 have HB:=hid (nU x.t w1 r hr HP.out.env.ts.now.1)
 rw [hb.out] at HB
 have HTS:=hid (show x.t.size<=1000000000000 from by rw [Lib.size_eq,<- ht.out];have:=HL.out;omega)
 clear HL
 refine HB.out.mono ?_
 rintro e w2 ⟨rfl,k2⟩
 have HPb:=hid (HP.out.keep0 k2)
 clear HP k2 a0 a1 a2 a3 a4 a5 hpl
 have HP:=HPb
 clear HPb
 obtain ⟨⟨a0,a1,a2,a3,a4,a5⟩,_⟩:=ae HP.out.box
 try dsimp only
 go_wp2_with fail
 go_region_with (go_at_call 107;refine (HS.out _ _ _ (aL.keep0 HP.out.env.sh kR.drew) (by have h1:=HP.out.len;have:=HTL.out;omega) _ HTS.out).mono ?_;rintro e w3 ⟨⟨k3,rfl⟩,hw⟩;obtain ⟨gq,hq⟩:=PSw.wrote (s:=tx) (pend:=[]) (by rw [List.append_nil];exact HP.out) (by rw [ht.out];exact hw.undrew);have HQ:=hid hq)
 all_goals (go_wp2_with fail)
 all_goals go_end0
 all_goals exact ⟨rfl,HQ.out.done⟩
theorem sE (base:Nat) (W:World) (b:Nat) (l:List UInt8) (g:Option Nat) (x:Raw) (p:PV) (E:dt base W b false l g) (D:ay (Off b g) (Off b g) W x p) (tx:List UInt8) (hlen:l.length+tx.length<=1000000000000) (s0:(x.k == 0)=false) (s1:(x.k == 1)=false) (s2:(x.k == 2)=false) (s9:(x.k == 9)=false) (s10:(x.k == 10)=false) (s4:(x.k == 4)=false) (s3:(x.k == 3)=false) (s6:(x.k == 6)=true) (r:List Nat) (hr:au x.t.data.toList=some r) (hrl:r.length<=62) (hsz:x.t.size<=1000000) (hb:Hid (dI x.t.data.toList=false)) (ht:Hid (tx=ce 124 x.t.data.toList)):Calls Tryz.prog 78 #[.pointer (some ⟨b,0,none⟩),rawV x p] W (WrP W b false (l++tx) g):=by
 have HS:=hid (fun (W:World) (m:List UInt8) (g':Option Nat) (h:aL W b false m g') (hm:m.length<=100000000000000) (s:ByteArray) (hs:s.size<=1000000000000)=>bu h s hs hm)
 have HP:=hid (PSw.start (pend:=tx) E D rfl)
 have HL:=hid hlen
 have HTL:Hid ((l++tx).length<=1000000000000):=hid (by rw [List.length_append];exact hlen)
 clear E hlen D
 obtain ⟨⟨a0,a1,a2,a3,a4,a5⟩,_⟩:=ae HP.out.box
 have hpl:=HP.out.env.pl
 go_enter Tryz.func78,Tryz.ntmps78
 go_wp2_with fail
 generalize W.alloc (.cells (cL x p) 27)=w1 at *
 generalize W.heap.size=B0 at *
 have HB:=hid (nU x.t w1 r hr HP.out.env.ts.now.1)
 rw [hb.out] at HB
 have HQQ:=hid (fun (W2:World) (hp:PSw base W b false (l++tx) g B0 x p l tx g W2)=>kX 124 (.inr rfl) x.t r hr (by omega) hsz W2 b false l g hp.env.sh (by have h1:=hp.len;have:=HTL.out;omega) hp.env.ts.now.2.2 (fun h=>hp.env.low h))
 clear hr hrl hsz
 refine HB.out.mono ?_
 rintro e w2 ⟨rfl,k2⟩
 have HPb:=hid (HP.out.keep0 k2)
 clear HP k2 a0 a1 a2 a3 a4 a5 hpl
 have HP:=HPb
 clear HPb
 obtain ⟨⟨a0,a1,a2,a3,a4,a5⟩,_⟩:=ae HP.out.box
 try dsimp only
 go_wp2_with fail
 refine (HQQ.out _ HP.out).mono ?_
 rintro e w3 ⟨rfl,hw⟩
 obtain ⟨gq,hq⟩:=PSw.wrote (s:=tx) (pend:=[]) (by rw [List.append_nil];exact HP.out) (by rw [ht.out];exact hw)
 have HQ:=hid hq
 clear hw hq
 try dsimp only
 go_wp2_with fail
 go_end0
 exact ⟨rfl,HQ.out.done⟩
theorem sH (base:Nat) (W:World) (b:Nat) (l:List UInt8) (g:Option Nat) (x:Raw) (p:PV) (E:dt base W b false l g) (D:ay (Off b g) (Off b g) W x p) (tx:List UInt8) (hlen:l.length+tx.length<=1000000000000) (s0:(x.k == 0)=false) (s1:(x.k == 1)=false) (s2:(x.k == 2)=false) (s9:(x.k == 9)=false) (s10:(x.k == 10)=false) (s4:(x.k == 4)=false) (s3:(x.k == 3)=false) (s6:(x.k == 6)=false) (s5:(x.k == 5)=true) (r:List Nat) (hr:au x.t.data.toList=some r) (hrl:r.length<=62) (hsz:x.t.size<=1000000) (ht:Hid (tx=ce 34 x.t.data.toList)):Calls Tryz.prog 78 #[.pointer (some ⟨b,0,none⟩),rawV x p] W (WrP W b false (l++tx) g):=by
 have HS:=hid (fun (W:World) (m:List UInt8) (g':Option Nat) (h:aL W b false m g') (hm:m.length<=100000000000000) (s:ByteArray) (hs:s.size<=1000000000000)=>bu h s hs hm)
 have HP:=hid (PSw.start (pend:=tx) E D rfl)
 have HL:=hid hlen
 have HTL:Hid ((l++tx).length<=1000000000000):=hid (by rw [List.length_append];exact hlen)
 clear E hlen D
 obtain ⟨⟨a0,a1,a2,a3,a4,a5⟩,_⟩:=ae HP.out.box
 have hpl:=HP.out.env.pl
 go_enter Tryz.func78,Tryz.ntmps78
 go_wp2_with fail
 generalize W.alloc (.cells (cL x p) 27)=w1 at *
 generalize W.heap.size=B0 at *
 have HQQ:=hid (fun (W2:World) (hp:PSw base W b false (l++tx) g B0 x p l tx g W2)=>kX 34 (.inl rfl) x.t r hr (by omega) hsz W2 b false l g hp.env.sh (by have h1:=hp.len;have:=HTL.out;omega) hp.env.ts.now.2.2 (fun h=>hp.env.low h))
 clear hr hrl hsz
 refine (HQQ.out _ HP.out).mono ?_
 rintro e w3 ⟨rfl,hw⟩
 obtain ⟨gq,hq⟩:=PSw.wrote (s:=tx) (pend:=[]) (by rw [List.append_nil];exact HP.out) (by rw [ht.out];exact hw)
 have HQ:=hid hq
 clear hw hq
 try dsimp only
 go_wp2_with fail
 go_end0
 exact ⟨rfl,HQ.out.done⟩
theorem vj (pl:Bool) (base:Nat) (W:World) (b:Nat) (l:List UInt8) (g:Option Nat) (x:Raw) (p:PV) (E:dt base W b pl l g) (D:ay (Off b g) (Off b g) W x p) (tx:List UInt8) (hlen:l.length+tx.length<=1000000000000) (s0:(x.k == 0)=false) (s1:(x.k == 1)=false) (s2:(x.k == 2)=false) (s9:(x.k == 9)=false) (s10:(x.k == 10)=false) (s4:(x.k == 4)=false) (s3:(x.k == 3)=false) (s6:(x.k == 6)=false) (s5:(x.k == 5)=false) (s8:(x.k == 8)=false) (s7:(x.k == 7)=true) (HPC:Hid (dq 114 x)) (ht:Hid (tx=am pl x)):Calls Tryz.prog 78 #[.pointer (some ⟨b,0,none⟩),rawV x p] W (WrP W b pl (l++tx) g):=by
 have HS:=hid (fun (W:World) (m:List UInt8) (g':Option Nat) (h:aL W b pl m g') (hm:m.length<=100000000000000) (s:ByteArray) (hs:s.size<=1000000000000)=>bu h s hs hm)
 have HP:=hid (PSw.start (pend:=tx) E D rfl)
 have HL:=hid hlen
 have HTL:Hid ((l++tx).length<=1000000000000):=hid (by rw [List.length_append];exact hlen)
 clear E hlen D
 obtain ⟨⟨a0,a1,a2,a3,a4,a5⟩,_⟩:=ae HP.out.box
 go_enter Tryz.func78,Tryz.ntmps78
 go_wp2_with fail
 generalize W.alloc (.cells (cL x p) 27)=w1 at *
 generalize W.heap.size=B0 at *
 have HU:=hid (HPC.out base w1 b pl l g p HP.out.env (HP.out.off2 HP.out.dat) (by rw [<- ht.out];exact HL.out))
 rw [<- ht.out] at HU
 refine HU.out.mono ?_
 rintro e w3 ⟨rfl,hw⟩
 obtain ⟨gq,hq⟩:=PSw.wrote (s:=tx) (pend:=[]) (by rw [List.append_nil];exact HP.out) hw
 have HQ:=hid hq
 clear hw hq
 try dsimp only
 go_wp2_with fail
 go_end0
 exact ⟨rfl,HQ.out.done⟩
theorem sC (pl:Bool) (base:Nat) (W:World) (b:Nat) (l:List UInt8) (g:Option Nat) (x:Raw) (p:PV) (E:dt base W b pl l g) (D:ay (Off b g) (Off b g) W x p) (tx:List UInt8) (hlen:l.length+tx.length<=1000000000000) (s0:(x.k == 0)=false) (s1:(x.k == 1)=false) (s2:(x.k == 2)=false) (s9:(x.k == 9)=false) (s10:(x.k == 10)=false) (s4:(x.k == 4)=false) (s3:(x.k == 3)=false) (s6:(x.k == 6)=false) (s5:(x.k == 5)=false) (s8:(x.k == 8)=true) (hm:p.m=0) (ht:Hid (tx=[35]++[40,41])):Calls Tryz.prog 78 #[.pointer (some ⟨b,0,none⟩),rawV x p] W (WrP W b pl (l++tx) g):=by
 have HS:=hid (fun (W:World) (m:List UInt8) (g':Option Nat) (h:aL W b pl m g') (hm:m.length<=100000000000000) (s:ByteArray) (hs:s.size<=1000000000000)=>bu h s hs hm)
 have HP:=hid (PSw.start (pend:=tx) E D rfl)
 have HL:=hid hlen
 have HTL:Hid ((l++tx).length<=1000000000000):=hid (by rw [List.length_append];exact hlen)
 clear E hlen D
 obtain ⟨⟨a0,a1,a2,a3,a4,a5⟩,_⟩:=ae HP.out.box
 have m0:((p.m:Int) == 0)=true:=by rw [hm];rfl
 clear hm
 go_enter Tryz.func78,Tryz.ntmps78
 go_wp2_with fail
 generalize W.alloc (.cells (cL x p) 27)=w1 at *
 generalize W.heap.size=B0 at *
 have HY:=hid (fun (W:World) (m:List UInt8) (g':Option Nat) (h:aL W b pl m g') (hm:m.length<=100000000000000)=>(show Calls Tryz.prog 113 #[.pointer (some ⟨b,0,none⟩),.int .u8 35] W (fun e w'=>e=.returned .nilIface/\br W b pl (m++[35]) g' w') from jy W b pl m g' 35 h (by omega)))
 rw [ht.out] at HP HTL
 refine (HY.out _ _ _ HP.out.env.sh (by have h1:=HP.out.len;have:=HTL.out;omega)).mono ?_
 rintro e w2 ⟨rfl,hw⟩
 obtain ⟨g2,hp2⟩:=PSw.wrote (s:=[35]) (pend:=[40,41]) HP.out hw
 have HP2:=hid hp2
 clear hw hp2 a0 a1 a2 a3 a4 a5
 obtain ⟨⟨a0,a1,a2,a3,a4,a5⟩,_⟩:=ae HP2.out.box
 try dsimp only
 go_wp2_with fail
 refine (HS.out _ _ _ HP2.out.env.sh (by have h1:=HP2.out.len;have:=HTL.out;omega) _ (by decide)).mono ?_
 rintro e w3 ⟨⟨k3,rfl⟩,hw⟩
 obtain ⟨gq,hq⟩:=PSw.wrote (s:=[40,41]) (pend:=[]) HP2.out hw
 have HQ:=hid hq
 clear hw hq
 try dsimp only
 go_wp2_with fail
 go_end0
 exact ⟨rfl,by rw [ht.out];exact HQ.out.done⟩
theorem vi (pl:Bool) (base:Nat) (W:World) (b:Nat) (l:List UInt8) (g:Option Nat) (x:Raw) (p:PV) (E:dt base W b pl l g) (D:ay (Off b g) (Off b g) W x p) (tx:List UInt8) (hlen:l.length+tx.length<=1000000000000) (s0:(x.k == 0)=false) (s1:(x.k == 1)=false) (s2:(x.k == 2)=false) (s9:(x.k == 9)=false) (s10:(x.k == 10)=false) (s4:(x.k == 4)=false) (s3:(x.k == 3)=false) (s6:(x.k == 6)=false) (s5:(x.k == 5)=false) (s8:(x.k == 8)=true) (hm:0<p.m) (hm2:Hid (x.l.length=p.m/\p.m<=62)) (HPC:Hid (dq 114 (aQ x.l .nil))) (ht:Hid (tx=[35]++am pl (aQ x.l .nil))):Calls Tryz.prog 78 #[.pointer (some ⟨b,0,none⟩),rawV x p] W (WrP W b pl (l++tx) g):=by
 have HS:=hid (fun (W:World) (m:List UInt8) (g':Option Nat) (h:aL W b pl m g') (hm:m.length<=100000000000000) (s:ByteArray) (hs:s.size<=1000000000000)=>bu h s hs hm)
 have HP:=hid (PSw.start (pend:=tx) E D rfl)
 have HL:=hid hlen
 have HTL:Hid ((l++tx).length<=1000000000000):=hid (by rw [List.length_append];exact hlen)
 clear E hlen D
 obtain ⟨⟨a0,a1,a2,a3,a4,a5⟩,_⟩:=ae HP.out.box
 have m0:((p.m:Int) == 0)=false:=bF.2 (by omega)
 have HM:=hid hm
 clear hm
 go_enter Tryz.func78,Tryz.ntmps78
 go_wp2_with fail
 generalize W.alloc (.cells (cL x p) 27)=w1 at *
 generalize W.heap.size=B0 at *
 have HY:=hid (fun (W:World) (m:List UInt8) (g':Option Nat) (h:aL W b pl m g') (hm:m.length<=100000000000000)=>(show Calls Tryz.prog 113 #[.pointer (some ⟨b,0,none⟩),.int .u8 35] W (fun e w'=>e=.returned .nilIface/\br W b pl (m++[35]) g' w') from jy W b pl m g' 35 h (by omega)))
 rw [ht.out] at HP HTL
 refine (HY.out _ _ _ HP.out.env.sh (by have h1:=HP.out.len;have:=HTL.out;omega)).mono ?_
 rintro e w2 ⟨rfl,hw⟩
 obtain ⟨g2,hp2⟩:=PSw.wrote (s:=[35]) HP.out hw
 have HP2:=hid hp2
 clear hw hp2 a0 a1 a2 a3 a4 a5
 obtain ⟨⟨a0,a1,a2,a3,a4,a5⟩,f0,f1,f2,f3,f4,f5⟩:=ae HP2.out.box
 have HLI:=hid (uw HP2.out.dat HM.out hm2.out)
 try dsimp only
 go_wp2_with fail
 refine HLI.out.mono ?_
 rintro e w3 ⟨p3,rfl,hd3,k3⟩
 have HP3:=hid (HP2.out.keep0 k3)
 have HD3:=hid (HP3.out.fresh HP2.out.env.sh (eb HP2.out.box) hd3)
 clear k3 hd3 a0 a1 a2 a3 a4 a5 f0 f1 f2 f3 f4 f5
 obtain ⟨⟨a0,a1,a2,a3,a4,a5⟩,f0,f1,f2,f3,f4,f5⟩:=ae HP3.out.box
 have HE4:=hid (HP3.out.put_env (aQ x.l .nil) p3)
 have HD4:=hid ((HD3.out.keep (cF w3 B0 (.int .i64 (aQ x.l .nil).k) (.int .i32 (aQ x.l .nil).c) (.bool (aQ x.l .nil).neg) (.slice p3.A p3.n p3.cp) (.string (aQ x.l .nil).t) (.slice p3.B p3.m p3.cap)) (fun y hy=>⟨fun o=>o.1 hy,fun o=>o.1 hy⟩)).mono (M:=Off b g2) (Q:=Off b g2) (fun _ _ o=>o.2) (fun _ _ o=>o.2))
 have hb4:=dR HP3.out.box (.int .i64 (aQ x.l .nil).k) (.int .i32 (aQ x.l .nil).c) (.bool (aQ x.l .nil).neg) (.slice p3.A p3.n p3.cp) (.string (aQ x.l .nil).t) (.slice p3.B p3.m p3.cap)
 have hl4:=HP3.out.len
 obtain ⟨q,hq⟩:∃ q,q=aQ x.l .nil:=⟨_,rfl⟩
 rw [<- hq] at HE4 HD4 hb4 hl4 HPC ht HTL ⊢
 have HU:=hid (HPC.out base _ b pl _ g2 p3 HE4.out.1 HD4.out (by have:=HTL.out;omega))
 have HW:=hid (fun (w5:World) hw=>br.trans HE4.out.2.1 HE4.out.2.2 hw (w'':=w5) (b:=b) (pl:=pl) (l:=l++[35]++am pl q))
 have HB4:=hid hb4
 clear hb4 hl4 HE4 HD4 HD3 hq
 try dsimp only
 go_wp2_with fail
 refine HU.out.mono ?_
 rintro e w5 ⟨rfl,hw⟩
 have HQ:=hid (HW.out w5 hw)
 clear hw
 try dsimp only
 go_wp2_with fail
 go_end0
 exact ⟨rfl,by rw [ht.out,<- List.append_assoc];exact HQ.out⟩
end Go.Proofs.YtonnikipeokkaaaGreatDoor

namespace Go.Proofs.YtonnikipeokkaaaGreatDoor
open Go.Lib (hid)
open Go.RowKit Go.Lib
theorem jw (c:Nat):(aI c).length<=4:=by
 unfold aI
 split
 ·simp
 split
 ·simp
 split<;>simp
theorem iG:∀ r:List Nat,(r.flatMap aI).length<=4 * r.length
 | []=>Nat.zero_le _
 | c :: r=>by
  have h1:=iG r
  have h2:=jw c
  rw [List.flatMap_cons,List.length_append,List.length_cons]
  omega
theorem eu {t:ByteArray} {r:List Nat} (h:au t.data.toList=some r) (hr:r.length<=62):t.size<=1000000:=by
 have h1:=(dL _ _ _ (Nat.le_refl _) h).1
 have h2:=iG r
 rw [h1] at h2
 have h3:t.size=t.data.toList.length:=by rw [Array.length_toList];rfl
 omega
def Dec (x:Raw):Prop:=∃ (items:List Raw) (tail:Raw),x=aQ items tail/\tail.k ≠ 7/\(∀ i (h:i<items.length),dq 78 items[i])/\dq 78 tail
theorem Dec.self {x:Raw} (h:x.k ≠ 7) (hs:dq 78 x):Dec x:=⟨[],x,rfl,h,fun _ h=>absurd h (Nat.not_lt_zero _),hs⟩
theorem Dec.cons {a d:Raw} (ha:dq 78 a) (hd:Dec d):∃ (items:List Raw) (tail:Raw),dn a d=aQ items tail/\items ≠ []/\tail.k ≠ 7/\(∀ i (h:i<items.length),dq 78 items[i])/\dq 78 tail:=by
 obtain ⟨items,tail,rfl,ht,hi,hs⟩:=hd
 refine ⟨a :: items,tail,rfl,List.cons_ne_nil _ _,ht,fun i h=>?_,hs⟩
 cases i with
 | zero=>exact ha
 | succ i=>exact hi i (by simpa using h)
theorem kN {a d:Raw} (ha:dq 78 a) (hd:Dec d):dq 78 (dn a d):=by
 intro base W b pl l g p E D hlen
 obtain ⟨items,tail,e,h0,ht,hi,hs⟩:=Dec.cons ha hd
 refine vj pl base W b l g _ p E D _ hlen rfl rfl rfl rfl rfl rfl rfl rfl rfl rfl rfl (hid ?_) (hid rfl)
 rw [e]
 exact lj items tail ht h0 hi (fun _=>hs)
theorem Dec.pair {a d:Raw} (ha:dq 78 a) (hd:Dec d):Dec (dn a d):=by
 obtain ⟨items,tail,e,_,ht,hi,hs⟩:=Dec.cons ha hd
 exact ⟨items,tail,e,ht,hi,hs⟩
theorem tZ:dq 78 .nil:=fun base W b pl l g p E D hlen=>pL pl base W b l g _ p E D _ hlen rfl (hid rfl)
theorem lN {l:List Raw} (hl:l.length<=62) (h:∀ i (hi:i<l.length),dq 78 l[i]):dq 78 (.mk 8 0 false [] ⟨#[]⟩ l):=by
 intro base W b pl m g p E D hlen
 have hn:l.length=p.m:=D.len
 have hsv:=iq pl (r:=.mk 8 0 false [] ⟨#[]⟩ l) rfl
 by_cases hm:p.m=0
 ·obtain rfl:l=[]:=List.eq_nil_of_length_eq_zero (by omega)
  exact sC pl base W b m g _ p E D _ hlen rfl rfl rfl rfl rfl rfl rfl rfl rfl rfl hm (hid (by rw [hsv];rfl))
 ·cases l with
  | nil=>exact absurd hn (by simpa using fun e=>hm e.symm)
  | cons x l=>
   refine vi pl base W b m g _ p E D _ hlen rfl rfl rfl rfl rfl rfl rfl rfl rfl rfl (by omega) (hid ⟨hn,by omega⟩) (hid ?_) (hid ?_)
   ·exact lj (x :: l) .nil (by decide) (List.cons_ne_nil _ _) h (fun _=>tZ)
   ·rw [hsv]
    show _=[35]++am pl (aQ (x :: l) .nil)
    rw [qj]
    rfl
theorem sz {x:Raw} (h:Alike.WellR x):dq 78 x/\Dec x:=by
 induction h with
 | @atom k h=>
  have hs:dq 78 (.mk k 0 false [] ⟨#[]⟩ []):=by
   intro base W b pl l g p E D hlen
   rcases h with rfl | rfl | rfl | rfl | rfl
   ·exact pL pl base W b l g _ p E D _ hlen rfl (hid rfl)
   ·exact vn pl base W b l g _ p E D _ hlen rfl rfl (hid rfl)
   ·exact vm pl base W b l g _ p E D _ hlen rfl rfl rfl (hid rfl)
   ·exact vl pl base W b l g _ p E D _ hlen rfl rfl rfl rfl (hid rfl)
   ·exact sK pl base W b l g _ p E D _ hlen rfl rfl rfl rfl rfl (hid rfl)
  refine ⟨hs,Dec.self ?_ hs⟩
  show k ≠ 7
  omega
 | @chr c h=>
  have hs:dq 78 (.mk 3 (c:Int) false [] ⟨#[]⟩ []):=by
   intro base W b pl l g p E D hlen
   cases pl with
   | true=>exact sI base W b l g _ p E D _ hlen rfl rfl rfl rfl rfl rfl rfl c (hid rfl) h (hid rfl)
   | false=>exact sJ base W b l g _ p E D _ hlen rfl rfl rfl rfl rfl rfl rfl c (hid rfl) h (hid rfl)
  exact ⟨hs,Dec.self (show (3:Int) ≠ 7 by decide) hs⟩
 | @int x h=>
  have hs:dq 78 (.mk 4 0 (decide (x<0)) (aA x.natAbs) ⟨#[]⟩ []):=by
   intro base W b pl l g p E D hlen
   have hn:p.n=(aA x.natAbs).length:=D.num.row.1.symm
   exact vk pl base W b l g _ p E D _ hlen rfl rfl rfl rfl rfl rfl (hid rfl) (by omega)
  exact ⟨hs,Dec.self (show (4:Int) ≠ 7 by decide) hs⟩
 | @str t r h hr=>
  have hs:dq 78 (.mk 5 0 false [] t []):=by
   intro base W b pl l g p E D hlen
   cases pl with
   | true=>exact sG base W b l g _ p E D _ hlen rfl rfl rfl rfl rfl rfl rfl rfl rfl (hid rfl)
   | false=>exact sH base W b l g _ p E D _ hlen rfl rfl rfl rfl rfl rfl rfl rfl rfl r h hr (eu h hr) (hid rfl)
  exact ⟨hs,Dec.self (show (5:Int) ≠ 7 by decide) hs⟩
 | @sym t r h hr h0=>
  have hs:dq 78 (.mk 6 0 false [] t []):=by
   intro base W b pl l g p E D hlen
   cases pl with
   | true=>exact sD base W b l g _ p E D _ hlen rfl rfl rfl rfl rfl rfl rfl rfl (hid rfl)
   | false=>
    have e:=fx false (.mk 6 0 false [] t [])
    cases hb:dI t.data.toList with
    | true=>exact sF base W b l g _ p E D _ hlen rfl rfl rfl rfl rfl rfl rfl rfl r h (hid hb) (hid (by rw [e];show (if (false || dI t.data.toList)=true then _ else _)=_;rw [hb];rfl))
    | false=>exact sE base W b l g _ p E D _ hlen rfl rfl rfl rfl rfl rfl rfl rfl r h hr (eu h hr) (hid hb) (hid (by rw [e];show (if (false || dI t.data.toList)=true then _ else _)=_;rw [hb];rfl))
  exact ⟨hs,Dec.self (show (6:Int) ≠ 7 by decide) hs⟩
 | @pair a d _ _ ha hd=>exact ⟨kN ha.1 hd.2,Dec.pair ha.1 hd.2⟩
 | @vec l hl _ ih=>
  have hs:=lN hl (fun i hi=>(ih i hi).1)
  exact ⟨hs,Dec.self (show (8:Int) ≠ 7 by decide) hs⟩
end Go.Proofs.YtonnikipeokkaaaGreatDoor
