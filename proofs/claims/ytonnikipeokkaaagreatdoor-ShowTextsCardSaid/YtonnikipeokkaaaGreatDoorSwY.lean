/-
  The shower's text between two signs. (Printed by gen_squot2.
-/
import Derived.Test.YtonnikipeokkaaaGreatDoorSwX
import Derived.Test.YtonnikipeokkaaaGreatDoorPrGood
import Derived.Lib.OthersKept
namespace Go.Proofs.YtonnikipeokkaaaGreatDoor
set_option maxRecDepth 100000
set_option maxHeartbeats 8000000
open Go.Lib (hid)
open Go.RowKit Go.Lib
theorem iT (s:ByteArray) (pos:Nat) (rest:List Nat) (hp:pos<s.size) (h:au (s.data.toList.drop pos)=some rest) :
 ∃ q,rest=(Utf8.decode s pos).1 :: q/\au (s.data.toList.drop (pos+(Utf8.decode s pos).2))=some q/\bn (Utf8.decode s pos).1=true/\1<=(Utf8.decode s pos).2:=by
 have hz:s.data.toList.length=s.size:=(Lib.size_eq s).symm
 have hne:s.data.toList.drop pos ≠ []:=by rw [ap (by omega)];simp
 rw [dx _ hne] at h
 have hw:=bo hne
 have hc:=jp (s.data.toList.drop pos)
 rw [decodeL_drop] at h hw hc
 split at h
 ·cases h
 ·rw [List.drop_drop] at h
  cases hx:au (s.data.toList.drop (pos+(Utf8.decode s pos).2)) with
  | none=>rw [hx] at h;cases h
  | some q=>
   rw [hx] at h
   injection h with h
   exact ⟨q,h.symm,rfl,hc,hw.1⟩
theorem ah.iterAt {S:Nat->Prop} {w wr:World} (h:ah S w wr) {k:Nat} (hk:w.heap.size<=k) (s:ByteArray) (pos:Nat):ah S w (wr.iterAt k s pos):=
 ⟨h.os,h.tape,h.output,by rw [Lib.iterAt_size];exact h.size,fun i hi hn=>by rw [Lib.iterAt_other _ _ _ _ _ (by omega)];exact h.block i hi hn⟩
theorem aL.iterAt {w:World} {b:Nat} {pl:Bool} {l:List UInt8} {g:Option Nat} (h:aL w b pl l g) {k:Nat} (hk:¬ Sg b g k) (s:ByteArray) (pos:Nat):aL (w.iterAt k s pos) b pl l g:=
 h.keep (S:=fun x=>x=k) ⟨rfl,rfl,rfl,by rw [Lib.iterAt_size];exact Nat.le_refl _,fun i _ hn=>Lib.iterAt_other _ _ _ _ _ hn⟩ (fun x hx e=>hk (e ▸ hx))
theorem aL.notIter {w:World} {b:Nat} {pl:Bool} {l:List UInt8} {g:Option Nat} (h:aL w b pl l g) {k:Nat} {s:ByteArray} {pos:Nat} (hk:w.heap[k]? = some (.stringIter s pos)):¬ Sg b g k:=by
 intro hs
 obtain ⟨X,T,fz,e,_⟩:=h.types k hs
 rw [hk] at e
 injection e with e
 cases e
def QSt (w wr:World) (b:Nat) (pl:Bool) (g:Option Nat) (B1:Nat) (s:ByteArray) (y:Nat) (T:List UInt8) (pos:Nat):Prop:=
 ∃ (rest:List Nat) (acc:List UInt8) (g':Option Nat),au (s.data.toList.drop pos)=some rest/\acc++(rest.flatMap (bP y)++[UInt8.ofNat y])=T/\aL wr b pl acc g'/\wr.heap[B1]? = some (.stringIter s pos)/\kJ w g g'/\ah (Sg b g) w wr
theorem QSt.next {w wi w2:World} {b:Nat} {pl:Bool} {g g':Option Nat} {B1:Nat} {s:ByteArray} {y c:Nat} {T acc:List UInt8} {q:List Nat} {pos:Nat} (hr:au (s.data.toList.drop pos)=some q) (hT:acc++((c :: q).flatMap (bP y)++[UInt8.ofNat y])=T)
 (hn:kJ w g g') (hk:ah (Sg b g) w wi) (hit:wi.heap[B1]? = some (.stringIter s pos)) (hB:¬ Sg b g' B1) {e:List UInt8} (he:bP y c=e) (hw:br wi b pl (acc++e) g' w2):QSt w w2 b pl g B1 s y T pos:=by
 subst he
 obtain ⟨g2,h1,h2,h3⟩:=hw
 obtain ⟨g3,k1,k2,k3⟩:=br.trans hn hk ⟨g2,h1,h2,h3⟩
 refine ⟨q,acc++bP y c,g3,hr,?_,k1,h3.heap hit hB,k2,k3⟩
 rw [<- hT,List.flatMap_cons]
 simp [List.append_assoc]
theorem sy (s:ByteArray) (r:List Nat) (hr:au s.data.toList=some r) (hrl:r.length<=100000) (_hsz:s.size<=1000000) (w:World) (b:Nat) (pl:Bool) (l:List UInt8) (g:Option Nat) (h:aL w b pl l g) (hl:l.length<=1000000000000) (HF:Hid (∀ n:Nat,n<256->∀ W:World,ah (Sg b g) w W->Calls Tryz.prog 148 #[.int .i64 (n:Int),.int .i64 16] W (ax (aD n) W))):Calls Tryz.prog 112 #[.pointer (some ⟨b,0,none⟩),.string s,.int .i32 34] w (WrP w b pl (l++ce 34 s.data.toList) g):=by
 obtain ⟨TT,hTT⟩:∃ TT,TT=l++ce 34 s.data.toList:=⟨_,rfl⟩
 rw [<- hTT]
 have hlen:TT.length<=10000000000000:=by
  have h6:∀ m:List Nat,(m.flatMap (bP 34)).length<=9 * m.length:=by
   intro m
   induction m with
   | nil=>simp
   | cons c m ih=>
    have hu:=iP c
    have hx:=bJ c
    have h9:(bP 34 c).length<=9:=by
     unfold bP
     split
     ·simp;omega
     split
     ·simp
     split
     ·simp
     split
     ·simp
     split
     ·simp;omega
     ·omega
    rw [List.flatMap_cons,List.length_append,List.length_cons]
    omega
  have:=h6 r
  rw [hTT]
  unfold ce
  rw [hr,Option.getD_some]
  simp only [List.length_append,List.length_cons,List.length_nil]
  omega
 have hq0:(l++aI 34)++(r.flatMap (bP 34)++[UInt8.ofNat 34])=TT:=by
  rw [hTT]
  unfold ce
  rw [hr,Option.getD_some]
  show (l++[UInt8.ofNat 34])++_=_
  simp
 have HQ0:=hid hq0
 have HLEN:=hid hlen
 have HS:=hid (fun (W:World) (m:List UInt8) (g':Option Nat) (h:aL W b pl m g') (hm:m.length<=100000000000000) (s:ByteArray) (hs:s.size<=1000)=>bu h s (by omega) hm)
 have HY:=hid (fun (W:World) (m:List UInt8) (g':Option Nat) (h:aL W b pl m g') (hm:m.length<=100000000000000)=>gC W b pl m g' 34 (by decide) h (by omega))
 have HA:=hid h
 have HL:=hid hl
 have HRR:=hid hr
 clear h hl hr hTT hlen hq0 hrl
 go_enter Tryz.func112,Tryz.ntmps112
 go_wp2_with fail
 refine (HY.out _ _ _ HA.out (by have:=HL.out;omega)).mono ?_
 rintro e w1 ⟨⟨k,rfl⟩,g1,h1,n1,k1⟩
 have H1:=hid h1
 have HN1:=hid (And.intro n1 k1)
 clear h1 n1 k1
 try dsimp only
 go_wp2_with fail
 obtain ⟨B1,hB1⟩:∃ B1,B1=w1.heap.size:=⟨_,rfl⟩
 have hBw:w.heap.size<=B1:=by rw [hB1];exact HN1.out.2.size
 have HST:=hid (show QSt w (w1.iter s 0) b pl g B1 s 34 TT 0 from
  ⟨r,l++aI 34,g1,by rw [List.drop_zero];exact HRR.out,HQ0.out,aL.keep0 H1.out (kR.alloc _),by rw [hB1];exact World.iter_heap w1 s 0,HN1.out.1,HN1.out.2.alloc _⟩)
 rw [<- hB1]
 have HBW:=hid hBw
 clear hB1 hBw H1 HN1 HQ0
 generalize w1.iter s 0=w2 at *
 go_loopw [] (fun wr=>∃ pos:Nat,QSt w wr b pl g B1 s 34 TT pos) (fun wr=>s.size - wr.iterPos B1)
 case atStart=>exact ⟨0,HST.out⟩
 case round=>
  obtain ⟨pos,rest,acc,g',hr,hT,hsh,hit,hn,hk⟩:=hrel
  have HSH:=hid hsh
  have HNK:=hid (And.intro hn hk)
  have HNI:=hid (hsh.notIter hit)
  have hal:acc.length<=10000000000000:=by
   have:=congrArg List.length hT
   rw [List.length_append] at this
   have h2:=HLEN.out
   omega
  have HAL:=hid hal
  have HIT:=hid hit
  by_cases hp:pos<s.size
  ·obtain ⟨q,hrest,hq,hch,hK1⟩:=iT s pos rest hp hr
   have hnx:∀ ty,(Instr.next (.pointer (some ⟨B1,0,none⟩)) true ty).run Tryz.prog wr=_:=fun ty=>Lib.run_next_any_at wr B1 s pos ty hit hp
   have HSI:=hid (hsh.iterAt HNI.out s (pos+(Utf8.decode s pos).2))
   have HI2:=hid (Lib.iterAt_heap wr B1 s pos (pos+(Utf8.decode s pos).2) hit)
   have HKI:=hid (hk.iterAt HBW.out s (pos+(Utf8.decode s pos).2))
   obtain ⟨c,hc⟩:∃ c,c=(Utf8.decode s pos).1:=⟨_,rfl⟩
   obtain ⟨K,hK⟩:∃ K,K=(Utf8.decode s pos).2:=⟨_,rfl⟩
   rw [<- hc] at hrest hch
   rw [<- hK] at hq hK1 HSI HI2 HKI
   simp only [<- hc,<- hK] at hnx
   obtain ⟨x,hx⟩:∃ x:Int,x=(c:Int):=⟨_,rfl⟩
   simp only [<- hx] at hnx
   subst hrest
   generalize wr.iterAt B1 s (pos+K)=wi at *
   have HX:=hid hx
   have HMS:=hid (show s.size - (pos+K)<s.size - pos from by omega)
   have HC:=hid hch
   have HNX:=hid (fun (e:List UInt8) (he:bP 34 c=e) (W2:World) (hw:br wi b pl (acc++e) g' W2)=>QSt.next (y:=34) hq hT HNK.out.1 HKI.out HI2.out HNI.out he hw)
   clear hr hT hsh hit hn hk hal hp hch hK1 hc hK hx
   by_cases cy:x=34
   ·subst cy
    have HCV:c=34:=by have:=HX.out;omega
    have hcv:(convert 21 9 (.int .i32 34)).run Tryz.prog wi=.ok (.string ⟨#[34]⟩) wi:=rfl
    try dsimp only
    go_wp2_with fail
    refine (HS.out _ _ _ HSI.out (by have:=HAL.out;omega) _ (by decide)).mono ?_
    rintro e w5 ⟨⟨k2,rfl⟩,hw⟩
    have HW:=hid (HNX.out [92,34] (by rw [HCV];rfl) w5 hw)
    clear hw HCV
    try dsimp only
    go_wp2_with fail
    go_roundw
    case rel=>exact ⟨pos+K,HW.out⟩
    case measure=>
     obtain ⟨_,_,_,_,_,_,hz,_⟩:=HW.out
     have h1:=HMS.out
     have h2:=HIT.out
     simp only [World.iterPos,hz,h2]
     exact h1
   by_cases cb:x=92
   ·subst cb
    have e34:((92:Int) == 34)=false:=rfl
    have HCV:c=92:=by have:=HX.out;omega
    have hcv:(convert 21 9 (.int .i32 92)).run Tryz.prog wi=.ok (.string ⟨#[92]⟩) wi:=rfl
    try dsimp only
    go_wp2_with fail
    refine (HS.out _ _ _ HSI.out (by have:=HAL.out;omega) _ (by decide)).mono ?_
    rintro e w5 ⟨⟨k2,rfl⟩,hw⟩
    have HW:=hid (HNX.out [92,92] (by rw [HCV];rfl) w5 hw)
    clear hw HCV
    try dsimp only
    go_wp2_with fail
    go_roundw
    case rel=>exact ⟨pos+K,HW.out⟩
    case measure=>
     obtain ⟨_,_,_,_,_,_,hz,_⟩:=HW.out
     have h1:=HMS.out
     have h2:=HIT.out
     simp only [World.iterPos,hz,h2]
     exact h1
   by_cases cn:x=10
   ·subst cn
    have e34:((10:Int) == 34)=false:=rfl
    have e92:((10:Int) == 92)=false:=rfl
    have HCV:c=10:=by have:=HX.out;omega
    try dsimp only
    go_wp2_with fail
    refine (HS.out _ _ _ HSI.out (by have:=HAL.out;omega) _ (by decide)).mono ?_
    rintro e w5 ⟨⟨k2,rfl⟩,hw⟩
    have HW:=hid (HNX.out [92,110] (by rw [HCV];rfl) w5 hw)
    clear hw HCV
    try dsimp only
    go_wp2_with fail
    go_roundw
    case rel=>exact ⟨pos+K,HW.out⟩
    case measure=>
     obtain ⟨_,_,_,_,_,_,hz,_⟩:=HW.out
     have h1:=HMS.out
     have h2:=HIT.out
     simp only [World.iterPos,hz,h2]
     exact h1
   by_cases ct:x=9
   ·subst ct
    have e34:((9:Int) == 34)=false:=rfl
    have e92:((9:Int) == 92)=false:=rfl
    have e10:((9:Int) == 10)=false:=rfl
    have HCV:c=9:=by have:=HX.out;omega
    try dsimp only
    go_wp2_with fail
    refine (HS.out _ _ _ HSI.out (by have:=HAL.out;omega) _ (by decide)).mono ?_
    rintro e w5 ⟨⟨k2,rfl⟩,hw⟩
    have HW:=hid (HNX.out [92,116] (by rw [HCV];rfl) w5 hw)
    clear hw HCV
    try dsimp only
    go_wp2_with fail
    go_roundw
    case rel=>exact ⟨pos+K,HW.out⟩
    case measure=>
     obtain ⟨_,_,_,_,_,_,hz,_⟩:=HW.out
     have h1:=HMS.out
     have h2:=HIT.out
     simp only [World.iterPos,hz,h2]
     exact h1
   by_cases cr:x=13
   ·subst cr
    have e34:((13:Int) == 34)=false:=rfl
    have e92:((13:Int) == 92)=false:=rfl
    have e10:((13:Int) == 10)=false:=rfl
    have e9:((13:Int) == 9)=false:=rfl
    have HCV:c=13:=by have:=HX.out;omega
    try dsimp only
    go_wp2_with fail
    refine (HS.out _ _ _ HSI.out (by have:=HAL.out;omega) _ (by decide)).mono ?_
    rintro e w5 ⟨⟨k2,rfl⟩,hw⟩
    have HW:=hid (HNX.out [92,114] (by rw [HCV];rfl) w5 hw)
    clear hw HCV
    try dsimp only
    go_wp2_with fail
    go_roundw
    case rel=>exact ⟨pos+K,HW.out⟩
    case measure=>
     obtain ⟨_,_,_,_,_,_,hz,_⟩:=HW.out
     have h1:=HMS.out
     have h2:=HIT.out
     simp only [World.iterPos,hz,h2]
     exact h1
   by_cases cl:x<32
   ·have e34:(x == 34)=false:=bF.2 (by omega)
    have e92:(x == 92)=false:=bF.2 (by omega)
    have e10:(x == 10)=false:=bF.2 (by omega)
    have e9:(x == 9)=false:=bF.2 (by omega)
    have e13:(x == 13)=false:=bF.2 (by omega)
    have hr:(decide (x<32) || x == 127)=true:=by rw [dT cl];rfl
    have HR:=hid (eh x)
    rw [hr] at HR
    have hwr:IntKind.i64.wrap x=x:=IntWalk.i64_in _ (by have:=HX.out;omega)
    clear hr
    try dsimp only
    go_wp2_with fail
    refine (HR.out _).mono ?_
    rintro e w3 ⟨rfl,rfl⟩
    try dsimp only
    have HF2:=hid (HF.out c (by have:=HX.out;omega) wi.drew HKI.out.drew)
    rw [<- HX.out] at HF2
    have H1d:=hid (show aL wi.drew b pl _ g' from HSI.out)
    have HEQ:=hid (show bP 34 c=[92,120]++aD c++[59] from by unfold bP;rw [if_neg (by have:=HX.out;omega),if_neg (by have:=HX.out;omega),if_neg (by have:=HX.out;omega),if_neg (by have:=HX.out;omega),if_pos (by have:=HX.out;omega)];simp)
    have HAD:=hid (fun (W:World)=>rA (P:=Tryz.prog) W ⟨#[92,120]⟩ ⟨(aD c).toArray⟩ (by have h2:=aR (aD c);have h3:=bJ c;have h1:(⟨#[92,120]⟩:ByteArray).size=2:=rfl;omega))
    have HAD2:=hid (fun (W:World)=>rA (P:=Tryz.prog) W (⟨#[92,120]⟩++⟨(aD c).toArray⟩) ⟨#[59]⟩ (by have h2:=aR (aD c);have h3:=bJ c;have h1:(⟨#[92,120]⟩:ByteArray).size=2:=rfl;have h4:(⟨#[59]⟩:ByteArray).size=1:=rfl;rw [sA];omega))
    have HCT:=hid (show (⟨#[92,120]⟩:ByteArray)++⟨(aD c).toArray⟩++⟨#[59]⟩=⟨([92,120]++aD c++[59]).toArray⟩ from by apply ByteArray.ext;simp)
    rw [HCT.out] at HAD2
    go_upto_region 6 with (fail)
    go_region_with (first
     | (go_at_call 148;refine HF2.out.mono ?_;rintro e w3 ⟨rfl,k3⟩;have hadd:=HAD.out w3;have hadd2:=HAD2.out w3;have H3:=hid (H1d.out.keep0 k3);have HK3:=hid k3;clear k3;generalize (⟨(aD c).toArray⟩:ByteArray)=hx at *)
     | (go_at_call 107;refine (HS.out _ _ _ H3.out (by have:=HAL.out;omega) _ (by rw [aR];simp only [List.length_append,List.length_cons,List.length_nil];have:=bJ c;omega)).mono ?_;rintro e w4 ⟨⟨k2,rfl⟩,hw⟩;have HW:=hid (HNX.out _ HEQ.out w4 (hw.mono0 HK3.out).undrew)))
    all_goals (go_wp2_with fail)
    all_goals go_roundw
    all_goals first | (case rel=>exact ⟨pos+K,HW.out⟩) | skip
    all_goals (
     obtain ⟨_,_,_,_,_,_,hz,_⟩:=HW.out
     have h1:=HMS.out
     have h2:=HIT.out
     simp only [World.iterPos,hz,h2]
     exact h1)
   by_cases cd:x=127
   ·have e34:(x == 34)=false:=bF.2 (by omega)
    have e92:(x == 92)=false:=bF.2 (by omega)
    have e10:(x == 10)=false:=bF.2 (by omega)
    have e9:(x == 9)=false:=bF.2 (by omega)
    have e13:(x == 13)=false:=bF.2 (by omega)
    have hr:(decide (x<32) || x == 127)=true:=by rw [cd];rfl
    subst cd
    have d127:((127:Int) == 127)=true:=rfl
    have d32:decide ((127:Int)<32)=false:=rfl
    have HR:=hid (eh (127:Int))
    rw [hr] at HR
    have hwr:IntKind.i64.wrap (127:Int)=(127:Int):=IntWalk.i64_in _ (by have:=HX.out;omega)
    clear hr
    try dsimp only
    go_wp2_with fail
    refine (HR.out _).mono ?_
    rintro e w3 ⟨rfl,rfl⟩
    try dsimp only
    have HF2:=hid (HF.out c (by have:=HX.out;omega) wi.drew HKI.out.drew)
    rw [<- HX.out] at HF2
    have H1d:=hid (show aL wi.drew b pl _ g' from HSI.out)
    have HEQ:=hid (show bP 34 c=[92,120]++aD c++[59] from by unfold bP;rw [if_neg (by have:=HX.out;omega),if_neg (by have:=HX.out;omega),if_neg (by have:=HX.out;omega),if_neg (by have:=HX.out;omega),if_pos (by have:=HX.out;omega)];simp)
    have HAD:=hid (fun (W:World)=>rA (P:=Tryz.prog) W ⟨#[92,120]⟩ ⟨(aD c).toArray⟩ (by have h2:=aR (aD c);have h3:=bJ c;have h1:(⟨#[92,120]⟩:ByteArray).size=2:=rfl;omega))
    have HAD2:=hid (fun (W:World)=>rA (P:=Tryz.prog) W (⟨#[92,120]⟩++⟨(aD c).toArray⟩) ⟨#[59]⟩ (by have h2:=aR (aD c);have h3:=bJ c;have h1:(⟨#[92,120]⟩:ByteArray).size=2:=rfl;have h4:(⟨#[59]⟩:ByteArray).size=1:=rfl;rw [sA];omega))
    have HCT:=hid (show (⟨#[92,120]⟩:ByteArray)++⟨(aD c).toArray⟩++⟨#[59]⟩=⟨([92,120]++aD c++[59]).toArray⟩ from by apply ByteArray.ext;simp)
    rw [HCT.out] at HAD2
    go_upto_region 6 with (fail)
    go_region_with (first
     | (go_at_call 148;refine HF2.out.mono ?_;rintro e w3 ⟨rfl,k3⟩;have hadd:=HAD.out w3;have hadd2:=HAD2.out w3;have H3:=hid (H1d.out.keep0 k3);have HK3:=hid k3;clear k3;generalize (⟨(aD c).toArray⟩:ByteArray)=hx at *)
     | (go_at_call 107;refine (HS.out _ _ _ H3.out (by have:=HAL.out;omega) _ (by rw [aR];simp only [List.length_append,List.length_cons,List.length_nil];have:=bJ c;omega)).mono ?_;rintro e w4 ⟨⟨k2,rfl⟩,hw⟩;have HW:=hid (HNX.out _ HEQ.out w4 (hw.mono0 HK3.out).undrew)))
    all_goals (go_wp2_with fail)
    all_goals go_roundw
    all_goals first | (case rel=>exact ⟨pos+K,HW.out⟩) | skip
    all_goals (
     obtain ⟨_,_,_,_,_,_,hz,_⟩:=HW.out
     have h1:=HMS.out
     have h2:=HIT.out
     simp only [World.iterPos,hz,h2]
     exact h1)
   have e34:(x == 34)=false:=bF.2 (by omega)
   have e92:(x == 92)=false:=bF.2 (by omega)
   have e10:(x == 10)=false:=bF.2 (by omega)
   have e9:(x == 9)=false:=bF.2 (by omega)
   have e13:(x == 13)=false:=bF.2 (by omega)
   have e127:(x == 127)=false:=bF.2 (by omega)
   have hr:(decide (x<32) || x == 127)=false:=by rw [dF cl,e127];rfl
   have HR:=hid (eh x)
   rw [hr] at HR
   clear hr
   have HU:=hid (fun (W:World) (m:List UInt8) (g':Option Nat) (h:aL W b pl m g') (hm:m.length<=100000000000000)=>gC W b pl m g' c HC.out h (by omega))
   rw [<- HX.out] at HU
   have HEQ:=hid (show bP 34 c=aI c from by unfold bP;rw [if_neg (by have:=HX.out;omega),if_neg (by have:=HX.out;omega),if_neg (by have:=HX.out;omega),if_neg (by have:=HX.out;omega),if_neg (by have:=HX.out;omega)])
   try dsimp only
   go_wp2_with fail
   refine (HR.out _).mono ?_
   rintro e w3 ⟨rfl,rfl⟩
   try dsimp only
   go_wp2_with fail
   refine (HU.out _ _ _ HSI.out (by have:=HAL.out;omega)).mono ?_
   rintro e w5 ⟨⟨k2,rfl⟩,hw⟩
   have HW:=hid (HNX.out _ HEQ.out w5 hw)
   clear hw
   try dsimp only
   go_wp2_with fail
   go_roundw
   case rel=>exact ⟨pos+K,HW.out⟩
   case measure=>
    obtain ⟨_,_,_,_,_,_,hz,_⟩:=HW.out
    have h1:=HMS.out
    have h2:=HIT.out
    simp only [World.iterPos,hz,h2]
    exact h1
  ·have hnx:∀ ty,(Instr.next (.pointer (some ⟨B1,0,none⟩)) true ty).run Tryz.prog wr=_:=fun ty=>Lib.run_next_end_at wr B1 s pos ty hit hp
   have hrest:rest=[]:=by
    rw [List.drop_of_length_le (by rw [<- Lib.size_eq];omega)] at hr
    injection hr with hr
    exact hr.symm
   subst hrest
   have HTT:=hid (show acc++aI 34=TT from by rw [<- hT];rfl)
   clear hr hT hsh hit hn hk hal hp
   go_wp2_with fail
   refine (HY.out _ _ _ HSH.out (by have:=HAL.out;omega)).mono ?_
   rintro e w5 ⟨⟨k2,rfl⟩,hw⟩
   rw [HTT.out] at hw
   have HW:=hid (br.trans HNK.out.1 HNK.out.2 hw)
   clear hw
   try dsimp only
   go_wp2_with fail
   go_end0
   exact ⟨rfl,HW.out⟩
theorem qh (s:ByteArray) (r:List Nat) (hr:au s.data.toList=some r) (hrl:r.length<=100000) (_hsz:s.size<=1000000) (w:World) (b:Nat) (pl:Bool) (l:List UInt8) (g:Option Nat) (h:aL w b pl l g) (hl:l.length<=1000000000000) (HF:Hid (∀ n:Nat,n<256->∀ W:World,ah (Sg b g) w W->Calls Tryz.prog 148 #[.int .i64 (n:Int),.int .i64 16] W (ax (aD n) W))):Calls Tryz.prog 112 #[.pointer (some ⟨b,0,none⟩),.string s,.int .i32 124] w (WrP w b pl (l++ce 124 s.data.toList) g):=by
 obtain ⟨TT,hTT⟩:∃ TT,TT=l++ce 124 s.data.toList:=⟨_,rfl⟩
 rw [<- hTT]
 have hlen:TT.length<=10000000000000:=by
  have h6:∀ m:List Nat,(m.flatMap (bP 124)).length<=9 * m.length:=by
   intro m
   induction m with
   | nil=>simp
   | cons c m ih=>
    have hu:=iP c
    have hx:=bJ c
    have h9:(bP 124 c).length<=9:=by
     unfold bP
     split
     ·simp;omega
     split
     ·simp
     split
     ·simp
     split
     ·simp
     split
     ·simp;omega
     ·omega
    rw [List.flatMap_cons,List.length_append,List.length_cons]
    omega
  have:=h6 r
  rw [hTT]
  unfold ce
  rw [hr,Option.getD_some]
  simp only [List.length_append,List.length_cons,List.length_nil]
  omega
 have hq0:(l++aI 124)++(r.flatMap (bP 124)++[UInt8.ofNat 124])=TT:=by
  rw [hTT]
  unfold ce
  rw [hr,Option.getD_some]
  show (l++[UInt8.ofNat 124])++_=_
  simp
 have HQ0:=hid hq0
 have HLEN:=hid hlen
 have HS:=hid (fun (W:World) (m:List UInt8) (g':Option Nat) (h:aL W b pl m g') (hm:m.length<=100000000000000) (s:ByteArray) (hs:s.size<=1000)=>bu h s (by omega) hm)
 have HY:=hid (fun (W:World) (m:List UInt8) (g':Option Nat) (h:aL W b pl m g') (hm:m.length<=100000000000000)=>gC W b pl m g' 124 (by decide) h (by omega))
 have HA:=hid h
 have HL:=hid hl
 have HRR:=hid hr
 clear h hl hr hTT hlen hq0 hrl
 go_enter Tryz.func112,Tryz.ntmps112
 go_wp2_with fail
 refine (HY.out _ _ _ HA.out (by have:=HL.out;omega)).mono ?_
 rintro e w1 ⟨⟨k,rfl⟩,g1,h1,n1,k1⟩
 have H1:=hid h1
 have HN1:=hid (And.intro n1 k1)
 clear h1 n1 k1
 try dsimp only
 go_wp2_with fail
 obtain ⟨B1,hB1⟩:∃ B1,B1=w1.heap.size:=⟨_,rfl⟩
 have hBw:w.heap.size<=B1:=by rw [hB1];exact HN1.out.2.size
 have HST:=hid (show QSt w (w1.iter s 0) b pl g B1 s 124 TT 0 from
  ⟨r,l++aI 124,g1,by rw [List.drop_zero];exact HRR.out,HQ0.out,aL.keep0 H1.out (kR.alloc _),by rw [hB1];exact World.iter_heap w1 s 0,HN1.out.1,HN1.out.2.alloc _⟩)
 rw [<- hB1]
 have HBW:=hid hBw
 clear hB1 hBw H1 HN1 HQ0
 generalize w1.iter s 0=w2 at *
 go_loopw [] (fun wr=>∃ pos:Nat,QSt w wr b pl g B1 s 124 TT pos) (fun wr=>s.size - wr.iterPos B1)
 case atStart=>exact ⟨0,HST.out⟩
 case round=>
  obtain ⟨pos,rest,acc,g',hr,hT,hsh,hit,hn,hk⟩:=hrel
  have HSH:=hid hsh
  have HNK:=hid (And.intro hn hk)
  have HNI:=hid (hsh.notIter hit)
  have hal:acc.length<=10000000000000:=by
   have:=congrArg List.length hT
   rw [List.length_append] at this
   have h2:=HLEN.out
   omega
  have HAL:=hid hal
  have HIT:=hid hit
  by_cases hp:pos<s.size
  ·obtain ⟨q,hrest,hq,hch,hK1⟩:=iT s pos rest hp hr
   have hnx:∀ ty,(Instr.next (.pointer (some ⟨B1,0,none⟩)) true ty).run Tryz.prog wr=_:=fun ty=>Lib.run_next_any_at wr B1 s pos ty hit hp
   have HSI:=hid (hsh.iterAt HNI.out s (pos+(Utf8.decode s pos).2))
   have HI2:=hid (Lib.iterAt_heap wr B1 s pos (pos+(Utf8.decode s pos).2) hit)
   have HKI:=hid (hk.iterAt HBW.out s (pos+(Utf8.decode s pos).2))
   obtain ⟨c,hc⟩:∃ c,c=(Utf8.decode s pos).1:=⟨_,rfl⟩
   obtain ⟨K,hK⟩:∃ K,K=(Utf8.decode s pos).2:=⟨_,rfl⟩
   rw [<- hc] at hrest hch
   rw [<- hK] at hq hK1 HSI HI2 HKI
   simp only [<- hc,<- hK] at hnx
   obtain ⟨x,hx⟩:∃ x:Int,x=(c:Int):=⟨_,rfl⟩
   simp only [<- hx] at hnx
   subst hrest
   generalize wr.iterAt B1 s (pos+K)=wi at *
   have HX:=hid hx
   have HMS:=hid (show s.size - (pos+K)<s.size - pos from by omega)
   have HC:=hid hch
   have HNX:=hid (fun (e:List UInt8) (he:bP 124 c=e) (W2:World) (hw:br wi b pl (acc++e) g' W2)=>QSt.next (y:=124) hq hT HNK.out.1 HKI.out HI2.out HNI.out he hw)
   clear hr hT hsh hit hn hk hal hp hch hK1 hc hK hx
   by_cases cy:x=124
   ·subst cy
    have HCV:c=124:=by have:=HX.out;omega
    have hcv:(convert 21 9 (.int .i32 124)).run Tryz.prog wi=.ok (.string ⟨#[124]⟩) wi:=rfl
    try dsimp only
    go_wp2_with fail
    refine (HS.out _ _ _ HSI.out (by have:=HAL.out;omega) _ (by decide)).mono ?_
    rintro e w5 ⟨⟨k2,rfl⟩,hw⟩
    have HW:=hid (HNX.out [92,124] (by rw [HCV];rfl) w5 hw)
    clear hw HCV
    try dsimp only
    go_wp2_with fail
    go_roundw
    case rel=>exact ⟨pos+K,HW.out⟩
    case measure=>
     obtain ⟨_,_,_,_,_,_,hz,_⟩:=HW.out
     have h1:=HMS.out
     have h2:=HIT.out
     simp only [World.iterPos,hz,h2]
     exact h1
   by_cases cb:x=92
   ·subst cb
    have e124:((92:Int) == 124)=false:=rfl
    have HCV:c=92:=by have:=HX.out;omega
    have hcv:(convert 21 9 (.int .i32 92)).run Tryz.prog wi=.ok (.string ⟨#[92]⟩) wi:=rfl
    try dsimp only
    go_wp2_with fail
    refine (HS.out _ _ _ HSI.out (by have:=HAL.out;omega) _ (by decide)).mono ?_
    rintro e w5 ⟨⟨k2,rfl⟩,hw⟩
    have HW:=hid (HNX.out [92,92] (by rw [HCV];rfl) w5 hw)
    clear hw HCV
    try dsimp only
    go_wp2_with fail
    go_roundw
    case rel=>exact ⟨pos+K,HW.out⟩
    case measure=>
     obtain ⟨_,_,_,_,_,_,hz,_⟩:=HW.out
     have h1:=HMS.out
     have h2:=HIT.out
     simp only [World.iterPos,hz,h2]
     exact h1
   by_cases cn:x=10
   ·subst cn
    have e124:((10:Int) == 124)=false:=rfl
    have e92:((10:Int) == 92)=false:=rfl
    have HCV:c=10:=by have:=HX.out;omega
    try dsimp only
    go_wp2_with fail
    refine (HS.out _ _ _ HSI.out (by have:=HAL.out;omega) _ (by decide)).mono ?_
    rintro e w5 ⟨⟨k2,rfl⟩,hw⟩
    have HW:=hid (HNX.out [92,110] (by rw [HCV];rfl) w5 hw)
    clear hw HCV
    try dsimp only
    go_wp2_with fail
    go_roundw
    case rel=>exact ⟨pos+K,HW.out⟩
    case measure=>
     obtain ⟨_,_,_,_,_,_,hz,_⟩:=HW.out
     have h1:=HMS.out
     have h2:=HIT.out
     simp only [World.iterPos,hz,h2]
     exact h1
   by_cases ct:x=9
   ·subst ct
    have e124:((9:Int) == 124)=false:=rfl
    have e92:((9:Int) == 92)=false:=rfl
    have e10:((9:Int) == 10)=false:=rfl
    have HCV:c=9:=by have:=HX.out;omega
    try dsimp only
    go_wp2_with fail
    refine (HS.out _ _ _ HSI.out (by have:=HAL.out;omega) _ (by decide)).mono ?_
    rintro e w5 ⟨⟨k2,rfl⟩,hw⟩
    have HW:=hid (HNX.out [92,116] (by rw [HCV];rfl) w5 hw)
    clear hw HCV
    try dsimp only
    go_wp2_with fail
    go_roundw
    case rel=>exact ⟨pos+K,HW.out⟩
    case measure=>
     obtain ⟨_,_,_,_,_,_,hz,_⟩:=HW.out
     have h1:=HMS.out
     have h2:=HIT.out
     simp only [World.iterPos,hz,h2]
     exact h1
   by_cases cr:x=13
   ·subst cr
    have e124:((13:Int) == 124)=false:=rfl
    have e92:((13:Int) == 92)=false:=rfl
    have e10:((13:Int) == 10)=false:=rfl
    have e9:((13:Int) == 9)=false:=rfl
    have HCV:c=13:=by have:=HX.out;omega
    try dsimp only
    go_wp2_with fail
    refine (HS.out _ _ _ HSI.out (by have:=HAL.out;omega) _ (by decide)).mono ?_
    rintro e w5 ⟨⟨k2,rfl⟩,hw⟩
    have HW:=hid (HNX.out [92,114] (by rw [HCV];rfl) w5 hw)
    clear hw HCV
    try dsimp only
    go_wp2_with fail
    go_roundw
    case rel=>exact ⟨pos+K,HW.out⟩
    case measure=>
     obtain ⟨_,_,_,_,_,_,hz,_⟩:=HW.out
     have h1:=HMS.out
     have h2:=HIT.out
     simp only [World.iterPos,hz,h2]
     exact h1
   by_cases cl:x<32
   ·have e124:(x == 124)=false:=bF.2 (by omega)
    have e92:(x == 92)=false:=bF.2 (by omega)
    have e10:(x == 10)=false:=bF.2 (by omega)
    have e9:(x == 9)=false:=bF.2 (by omega)
    have e13:(x == 13)=false:=bF.2 (by omega)
    have hr:(decide (x<32) || x == 127)=true:=by rw [dT cl];rfl
    have HR:=hid (eh x)
    rw [hr] at HR
    have hwr:IntKind.i64.wrap x=x:=IntWalk.i64_in _ (by have:=HX.out;omega)
    clear hr
    try dsimp only
    go_wp2_with fail
    refine (HR.out _).mono ?_
    rintro e w3 ⟨rfl,rfl⟩
    try dsimp only
    have HF2:=hid (HF.out c (by have:=HX.out;omega) wi.drew HKI.out.drew)
    rw [<- HX.out] at HF2
    have H1d:=hid (show aL wi.drew b pl _ g' from HSI.out)
    have HEQ:=hid (show bP 124 c=[92,120]++aD c++[59] from by unfold bP;rw [if_neg (by have:=HX.out;omega),if_neg (by have:=HX.out;omega),if_neg (by have:=HX.out;omega),if_neg (by have:=HX.out;omega),if_pos (by have:=HX.out;omega)];simp)
    have HAD:=hid (fun (W:World)=>rA (P:=Tryz.prog) W ⟨#[92,120]⟩ ⟨(aD c).toArray⟩ (by have h2:=aR (aD c);have h3:=bJ c;have h1:(⟨#[92,120]⟩:ByteArray).size=2:=rfl;omega))
    have HAD2:=hid (fun (W:World)=>rA (P:=Tryz.prog) W (⟨#[92,120]⟩++⟨(aD c).toArray⟩) ⟨#[59]⟩ (by have h2:=aR (aD c);have h3:=bJ c;have h1:(⟨#[92,120]⟩:ByteArray).size=2:=rfl;have h4:(⟨#[59]⟩:ByteArray).size=1:=rfl;rw [sA];omega))
    have HCT:=hid (show (⟨#[92,120]⟩:ByteArray)++⟨(aD c).toArray⟩++⟨#[59]⟩=⟨([92,120]++aD c++[59]).toArray⟩ from by apply ByteArray.ext;simp)
    rw [HCT.out] at HAD2
    go_upto_region 6 with (fail)
    go_region_with (first
     | (go_at_call 148;refine HF2.out.mono ?_;rintro e w3 ⟨rfl,k3⟩;have hadd:=HAD.out w3;have hadd2:=HAD2.out w3;have H3:=hid (H1d.out.keep0 k3);have HK3:=hid k3;clear k3;generalize (⟨(aD c).toArray⟩:ByteArray)=hx at *)
     | (go_at_call 107;refine (HS.out _ _ _ H3.out (by have:=HAL.out;omega) _ (by rw [aR];simp only [List.length_append,List.length_cons,List.length_nil];have:=bJ c;omega)).mono ?_;rintro e w4 ⟨⟨k2,rfl⟩,hw⟩;have HW:=hid (HNX.out _ HEQ.out w4 (hw.mono0 HK3.out).undrew)))
    all_goals (go_wp2_with fail)
    all_goals go_roundw
    all_goals first | (case rel=>exact ⟨pos+K,HW.out⟩) | skip
    all_goals (
     obtain ⟨_,_,_,_,_,_,hz,_⟩:=HW.out
     have h1:=HMS.out
     have h2:=HIT.out
     simp only [World.iterPos,hz,h2]
     exact h1)
   by_cases cd:x=127
   ·have e124:(x == 124)=false:=bF.2 (by omega)
    have e92:(x == 92)=false:=bF.2 (by omega)
    have e10:(x == 10)=false:=bF.2 (by omega)
    have e9:(x == 9)=false:=bF.2 (by omega)
    have e13:(x == 13)=false:=bF.2 (by omega)
    have hr:(decide (x<32) || x == 127)=true:=by rw [cd];rfl
    subst cd
    have d127:((127:Int) == 127)=true:=rfl
    have d32:decide ((127:Int)<32)=false:=rfl
    have HR:=hid (eh (127:Int))
    rw [hr] at HR
    have hwr:IntKind.i64.wrap (127:Int)=(127:Int):=IntWalk.i64_in _ (by have:=HX.out;omega)
    clear hr
    try dsimp only
    go_wp2_with fail
    refine (HR.out _).mono ?_
    rintro e w3 ⟨rfl,rfl⟩
    try dsimp only
    have HF2:=hid (HF.out c (by have:=HX.out;omega) wi.drew HKI.out.drew)
    rw [<- HX.out] at HF2
    have H1d:=hid (show aL wi.drew b pl _ g' from HSI.out)
    have HEQ:=hid (show bP 124 c=[92,120]++aD c++[59] from by unfold bP;rw [if_neg (by have:=HX.out;omega),if_neg (by have:=HX.out;omega),if_neg (by have:=HX.out;omega),if_neg (by have:=HX.out;omega),if_pos (by have:=HX.out;omega)];simp)
    have HAD:=hid (fun (W:World)=>rA (P:=Tryz.prog) W ⟨#[92,120]⟩ ⟨(aD c).toArray⟩ (by have h2:=aR (aD c);have h3:=bJ c;have h1:(⟨#[92,120]⟩:ByteArray).size=2:=rfl;omega))
    have HAD2:=hid (fun (W:World)=>rA (P:=Tryz.prog) W (⟨#[92,120]⟩++⟨(aD c).toArray⟩) ⟨#[59]⟩ (by have h2:=aR (aD c);have h3:=bJ c;have h1:(⟨#[92,120]⟩:ByteArray).size=2:=rfl;have h4:(⟨#[59]⟩:ByteArray).size=1:=rfl;rw [sA];omega))
    have HCT:=hid (show (⟨#[92,120]⟩:ByteArray)++⟨(aD c).toArray⟩++⟨#[59]⟩=⟨([92,120]++aD c++[59]).toArray⟩ from by apply ByteArray.ext;simp)
    rw [HCT.out] at HAD2
    go_upto_region 6 with (fail)
    go_region_with (first
     | (go_at_call 148;refine HF2.out.mono ?_;rintro e w3 ⟨rfl,k3⟩;have hadd:=HAD.out w3;have hadd2:=HAD2.out w3;have H3:=hid (H1d.out.keep0 k3);have HK3:=hid k3;clear k3;generalize (⟨(aD c).toArray⟩:ByteArray)=hx at *)
     | (go_at_call 107;refine (HS.out _ _ _ H3.out (by have:=HAL.out;omega) _ (by rw [aR];simp only [List.length_append,List.length_cons,List.length_nil];have:=bJ c;omega)).mono ?_;rintro e w4 ⟨⟨k2,rfl⟩,hw⟩;have HW:=hid (HNX.out _ HEQ.out w4 (hw.mono0 HK3.out).undrew)))
    all_goals (go_wp2_with fail)
    all_goals go_roundw
    all_goals first | (case rel=>exact ⟨pos+K,HW.out⟩) | skip
    all_goals (
     obtain ⟨_,_,_,_,_,_,hz,_⟩:=HW.out
     have h1:=HMS.out
     have h2:=HIT.out
     simp only [World.iterPos,hz,h2]
     exact h1)
   have e124:(x == 124)=false:=bF.2 (by omega)
   have e92:(x == 92)=false:=bF.2 (by omega)
   have e10:(x == 10)=false:=bF.2 (by omega)
   have e9:(x == 9)=false:=bF.2 (by omega)
   have e13:(x == 13)=false:=bF.2 (by omega)
   have e127:(x == 127)=false:=bF.2 (by omega)
   have hr:(decide (x<32) || x == 127)=false:=by rw [dF cl,e127];rfl
   have HR:=hid (eh x)
   rw [hr] at HR
   clear hr
   have HU:=hid (fun (W:World) (m:List UInt8) (g':Option Nat) (h:aL W b pl m g') (hm:m.length<=100000000000000)=>gC W b pl m g' c HC.out h (by omega))
   rw [<- HX.out] at HU
   have HEQ:=hid (show bP 124 c=aI c from by unfold bP;rw [if_neg (by have:=HX.out;omega),if_neg (by have:=HX.out;omega),if_neg (by have:=HX.out;omega),if_neg (by have:=HX.out;omega),if_neg (by have:=HX.out;omega)])
   try dsimp only
   go_wp2_with fail
   refine (HR.out _).mono ?_
   rintro e w3 ⟨rfl,rfl⟩
   try dsimp only
   go_wp2_with fail
   refine (HU.out _ _ _ HSI.out (by have:=HAL.out;omega)).mono ?_
   rintro e w5 ⟨⟨k2,rfl⟩,hw⟩
   have HW:=hid (HNX.out _ HEQ.out w5 hw)
   clear hw
   try dsimp only
   go_wp2_with fail
   go_roundw
   case rel=>exact ⟨pos+K,HW.out⟩
   case measure=>
    obtain ⟨_,_,_,_,_,_,hz,_⟩:=HW.out
    have h1:=HMS.out
    have h2:=HIT.out
    simp only [World.iterPos,hz,h2]
    exact h1
  ·have hnx:∀ ty,(Instr.next (.pointer (some ⟨B1,0,none⟩)) true ty).run Tryz.prog wr=_:=fun ty=>Lib.run_next_end_at wr B1 s pos ty hit hp
   have hrest:rest=[]:=by
    rw [List.drop_of_length_le (by rw [<- Lib.size_eq];omega)] at hr
    injection hr with hr
    exact hr.symm
   subst hrest
   have HTT:=hid (show acc++aI 124=TT from by rw [<- hT];rfl)
   clear hr hT hsh hit hn hk hal hp
   go_wp2_with fail
   refine (HY.out _ _ _ HSH.out (by have:=HAL.out;omega)).mono ?_
   rintro e w5 ⟨⟨k2,rfl⟩,hw⟩
   rw [HTT.out] at hw
   have HW:=hid (br.trans HNK.out.1 HNK.out.2 hw)
   clear hw
   try dsimp only
   go_wp2_with fail
   go_end0
   exact ⟨rfl,HW.out⟩
theorem kX (y:Nat) (hy:y=34\/y=124) (s:ByteArray) (r:List Nat) (hr:au s.data.toList=some r) (hrl:r.length<=100000) (hsz:s.size<=1000000) (w:World) (b:Nat) (pl:Bool) (l:List UInt8) (g:Option Nat) (h:aL w b pl l g) (hl:l.length<=1000000000000) (ht:w.cell? ⟨6,15,none⟩=some (.int .u8 4)) (h6:¬ Sg b g 6) :
 Calls Tryz.prog 112 #[.pointer (some ⟨b,0,none⟩),.string s,.int .i32 (y:Int)] w (WrP w b pl (l++ce y s.data.toList) g):=by
 have HF:Hid (∀ n:Nat,n<256->∀ W:World,ah (Sg b g) w W->Calls Tryz.prog 148 #[.int .i64 (n:Int),.int .i64 16] W (ax (aD n) W)):=hid (fun n hn W K=>km n hn W ((K.cell (bL w _ ht) h6).trans ht))
 rcases hy with rfl | rfl
 ·exact sy s r hr hrl hsz w b pl l g h hl HF
 ·exact qh s r hr hrl hsz w b pl l g h hl HF
end Go.Proofs.YtonnikipeokkaaaGreatDoor
