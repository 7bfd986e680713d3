/-
  The text of a datum: plain Lean, no program in sight.
  The document's Bare: may a symbol stand as its bytes? (Print
-/
import Derived.Test.YtonnikipeokkaaaGreatDoorPaMem
namespace Go.Proofs.YtonnikipeokkaaaGreatDoor
open Go.Lib (hid)
open Go.RowKit Go.Lib
def fe (n:Nat):UInt8:=if n<10 then UInt8.ofNat (48+n) else UInt8.ofNat (87+n)
def aD (c:Nat):List UInt8:=if c<16 then [fe c] else [fe (c / 16),fe (c % 16)]
def bH (c:Nat):List UInt8:=
 if c=0 then [110,117,108] else if c=7 then [97,108,97,114,109] else if c=8 then [98,97,99,107,115,112,97,99,101]
 else if c=9 then [116,97,98] else if c=10 then [110,101,119,108,105,110,101] else if c=13 then [114,101,116,117,114,110]
 else if c=27 then [101,115,99,97,112,101] else if c=32 then [115,112,97,99,101] else if c=127 then [100,101,108,101,116,101]
 else if c<32\/127<=c/\c<=159 then 120 :: aD c else aI c
def bP (y c:Nat):List UInt8:=
 if c=y\/c=92 then 92 :: aI c else if c=10 then [92,110] else if c=9 then [92,116] else if c=13 then [92,114]
 else if c<32\/c=127 then 92 :: 120 :: (aD c++[59]) else aI c
def ce (y:Nat) (t:List UInt8):List UInt8:=UInt8.ofNat y :: (((au t).getD []).flatMap (bP y)++[UInt8.ofNat y])
def fy (b:UInt8):Bool:=decide (b.toNat<32) || b == 127
def dI (t:List UInt8):Bool:=
 !t.any fy && match fX t 0 with
  | .ok (j,k)=>j == 0 && k.len == t.length && k.kind == 9 && (match k.d with | .sym u=>u == t | _=>false)
  | .error _=>false
def dO (l:List (List UInt8)):List UInt8:=l.flatMap (fun x=>32 :: x)
def fE:List (List UInt8)->List UInt8
 | []=>[]
 | a :: l=>a++dO l
def tT:List (List UInt8 × List UInt8)->List UInt8
 | [a,d]=>a.1++d.2
 | _=>[]
def mR (pl:Bool) (k c:Int) (neg:Bool) (mag:List Nat) (t:ByteArray) (gs:List (List UInt8 × List UInt8)):List UInt8:=
 if k=0 then [40,41] else if k=1 then [35,116] else if k=2 then [35,102] else if k=9 then [35,60,118,111,105,100,62] else if k=10 then [35,60,101,111,102,62]
 else if k=3 then (if pl then aI c.toNat else 35 :: 92 :: bH c.toNat) else if k=4 then itoa (ci neg mag)
 else if k=5 then (if pl then t.data.toList else ce 34 t.data.toList) else if k=6 then (if pl || dI t.data.toList then t.data.toList else ce 124 t.data.toList)
 else if k=8 then 35 :: 40 :: (fE (gs.map (·.1))++[41]) else 40 :: tT gs
mutual
def jf (pl:Bool):Raw->List UInt8 × List UInt8
 | .mk k c neg mag t l=>
  (mR pl k c neg mag t (g8 pl l),if k=7 then 32 :: tT (g8 pl l) else if k=0 then [41] else 32 :: 46 :: 32 :: (mR pl k c neg mag t (g8 pl l)++[41]))
def g8 (pl:Bool):List Raw->List (List UInt8 × List UInt8)
 | []=>[]
 | x :: l=>jf pl x :: g8 pl l
end
def am (pl:Bool) (r:Raw):List UInt8:=(jf pl r).1
def dD (pl:Bool) (r:Raw):List UInt8:=(jf pl r).2
theorem g7 (pl:Bool):∀ l,g8 pl l=l.map (jf pl)
 | []=>by rw [g8];rfl
 | x :: l=>by rw [g8,g7 pl l];rfl
theorem fx (pl:Bool) (r:Raw):am pl r=mR pl r.k r.c r.neg r.mag r.t (r.l.map (jf pl)):=by
 cases r with
 | mk k c neg mag t l=>unfold am;rw [jf,g7];rfl
theorem jX (pl:Bool) (r:Raw):dD pl r=if r.k=7 then 32 :: tT (r.l.map (jf pl)) else if r.k=0 then [41] else 32 :: 46 :: 32 :: (am pl r++[41]):=by
 cases r with
 | mk k c neg mag t l=>unfold dD am;rw [jf,g7];rfl
theorem gB (pl:Bool) {r a d:Raw} (hk:r.k=7) (hl:r.l=[a,d]):am pl r=40 :: (am pl a++dD pl d):=by
 rw [fx,hk,hl];rfl
theorem eO (pl:Bool) {r a d:Raw} (hk:r.k=7) (hl:r.l=[a,d]):dD pl r=32 :: (am pl a++dD pl d):=by
 rw [jX,hk,hl];rfl
theorem jW (pl:Bool) {r:Raw} (hk:r.k=0):dD pl r=[41]:=by
 rw [jX,if_neg (by omega),if_pos hk]
theorem iz (pl:Bool) {r:Raw} (hk:r.k ≠ 7) (h0:r.k ≠ 0):dD pl r=32 :: 46 :: 32 :: (am pl r++[41]):=by
 rw [jX,if_neg hk,if_neg h0]
theorem iq (pl:Bool) {r:Raw} (hk:r.k=8):am pl r=35 :: 40 :: (fE (r.l.map (am pl))++[41]):=by
 rw [fx,hk,mR,if_neg (by decide),if_neg (by decide),if_neg (by decide),if_neg (by decide),if_neg (by decide),if_neg (by decide),if_neg (by decide),if_neg (by decide),if_neg (by decide),if_pos rfl,List.map_map]
 rfl
theorem qD (pl:Bool) (l:List Raw):dD pl (aQ l .nil)=dO (l.map (am pl))++[41]:=by
 induction l with
 | nil=>rfl
 | cons x l ih=>
  rw [aQ,eO pl (a:=x) (d:=aQ l .nil) rfl rfl,ih]
  show 32 :: (am pl x++(dO (l.map (am pl))++[41]))=(32 :: am pl x++dO (l.map (am pl)))++[41]
  simp
theorem qj (pl:Bool) (x:Raw) (l:List Raw):am pl (aQ (x :: l) .nil)=40 :: (fE ((x :: l).map (am pl))++[41]):=by
 rw [aQ,gB pl (a:=x) (d:=aQ l .nil) rfl rfl,qD]
 show _=40 :: ((am pl x++dO (l.map (am pl)))++[41])
 rw [List.append_assoc]
end Go.Proofs.YtonnikipeokkaaaGreatDoor

namespace Go.Proofs.YtonnikipeokkaaaGreatDoor
set_option maxRecDepth 100000
set_option maxHeartbeats 8000000
open Go.Lib (hid)
open Go.RowKit Go.Lib
theorem nT {l:List UInt8} {e:Nat × Nat} (h:fX l 0=.error e):dI l=false:=by
 unfold dI
 rw [h]
 simp
def yg (d:ig) (s:List UInt8):Bool:=match d with | .sym u=>u == s | _=>false
theorem uP {t:List UInt8} {j:Nat} {k:Tk} (h:fX t 0=.ok (j,k)):dI t=(!t.any fy && (j == 0 && k.len == t.length && k.kind == 9 && yg k.d t)):=by
 unfold dI
 rw [h]
 rfl
theorem ui {w:World} {d:ig} {k c:Int} {neg:Bool} {A:Option Addr} {n cp:Nat} {t:ByteArray} (h:dY w d k c neg A n cp t) (s:ByteArray) :
 yg d s.data.toList=(k == 6 && t.toList == s.toList):=by
 cases d
 case sym u=>
  obtain ⟨rfl,_,_,_,_,_,rfl⟩:=h
  rw [Lib.toList_data,Lib.toList_data]
  rfl
 case int x=>
  obtain ⟨rfl,_⟩:=h
  rfl
 all_goals
  obtain ⟨rfl,_⟩:=h
  rfl
theorem pV {w:World} {s:ByteArray} {j:Nat} {t:Tk} (hn:fX s.data.toList 0=.ok (j,t)) {k c:Int} {neg:Bool} {A:Option Addr} {n cp:Nat} {x:ByteArray} (h:dY w t.d k c neg A n cp x) :
 dI s.data.toList=(!s.data.toList.any fy && ((t.kind:Int) == 9 && (j:Int) == 0 && ((j+t.len:Nat):Int) == (s.size:Int) && k == 6 && x.toList == s.toList)):=by
 rw [uP hn,ui h s]
 congr 1
 have hz:s.data.toList.length=s.size:=(Lib.size_eq s).symm
 rw [hz]
 have e1:((t.kind:Int) == 9)=(t.kind == 9):=by rw [Bool.eq_iff_iff,beq_iff_eq,beq_iff_eq];omega
 have e2:((j:Int) == 0)=(j == 0):=by rw [Bool.eq_iff_iff,beq_iff_eq,beq_iff_eq];omega
 rw [e1,e2]
 by_cases h0:j=0
 ·subst h0
  have e3:(((0+t.len:Nat):Int) == (s.size:Int))=(t.len == s.size):=by rw [Bool.eq_iff_iff,beq_iff_eq,beq_iff_eq];omega
  rw [e3]
  cases t.kind == 9<;>cases t.len == s.size<;>simp
 ·have:(j == 0)=false:=bF.2 h0
  rw [this]
  simp
theorem uQ {l:List UInt8} (h:∀ j,j<l.length->fy (l.getD j 0)=false):l.any fy=false:=by
 rw [List.any_eq_false]
 intro x hx
 obtain ⟨i,hi,rfl⟩:=List.getElem_of_mem hx
 have:=h i hi
 rw [gD,gE hi] at this
 simpa using this
theorem nV {l:List UInt8} {i:Nat} (hi:i<l.length) (h:fy (l.getD i 0)=true):l.any fy=true:=by
 rw [List.any_eq_true]
 refine ⟨l[i],List.getElem_mem _,?_⟩
 rw [gD,gE hi] at h
 exact h
theorem nS {l:List UInt8} (h:l.any fy=true):dI l=false:=by
 unfold dI
 rw [h]
 simp
theorem qJ (s:ByteArray) (w:World) (hs:s.size<=1000000):Calls Tryz.prog 54 #[.string s] w (BoolPost (dI s.data.toList) w):=by
 have hz:s.data.toList.length=s.size:=(Lib.size_eq s).symm
 have HZ:=hid hz
 have HSZ:=hid hs
 have HN:=hid (fun W:World=>qP s 0 W)
 obtain ⟨bv,hbv⟩:∃ b,b=dI s.data.toList:=⟨_,rfl⟩
 rw [<- hbv]
 have HBV:=hid hbv
 have hs0:(s.size:Int)<=1000000:=by omega
 clear hz hs hbv
 go_enter Tryz.func54,Tryz.ntmps54
 go_wp2_with fail
 go_loopw [3] (fun iv wr=>∃ i:Nat,i<=s.size/\iv=.int .i64 (i:Int)/\(∀ j,j<i->fy (s.data.toList.getD j 0)=false)/\w=wr) (fun iv _=>s.size - (intOf iv).toNat)
 case atStart=>exact ⟨0,Nat.zero_le _,rfl,fun j h=>absurd h (Nat.not_lt_zero _),rfl⟩
 case round=>
  obtain ⟨i,hi,rfl,hraw,rfl⟩:=hrel
  have HRAW:=hid hraw
  clear hraw
  by_cases h4:i<s.size
  ·have HI:=hid h4
   have l1:(i:Int)<(s.size:Int):=by omega
   have l2:(0:Int)<=(i:Int):=by omega
   obtain ⟨d0,hd0⟩:∃ d,d=(s.data.toList.getD i 0).toNat:=⟨_,rfl⟩
   have hx:(Instr.index 9 (.string s) (.int .i64 (i:Int))).run Tryz.prog w=.ok (.int .u8 (d0:Int)) w:=ei s i h4 d0 hd0 w
   obtain ⟨x,hxx⟩:∃ x:Int,x=(d0:Int):=⟨_,rfl⟩
   rw [<- hxx] at hx
   have HD:=hid (show x=((s.data.toList.getD i 0).toNat:Int) from by rw [hxx,hd0])
   have HR:=hid (show fy (s.data.toList.getD i 0)=(decide (x<32) || x == 127) from by
    unfold fy
    rw [HD.out]
    congr 1
    ·rw [Bool.eq_iff_iff,decide_eq_true_iff,decide_eq_true_iff];omega
    ·rw [Bool.eq_iff_iff,beq_iff_eq,beq_iff_eq,<- UInt8.toNat_inj];exact ⟨fun h=>by rw [h];rfl,fun h=>by have:(127:UInt8).toNat=127:=rfl;omega⟩)
   clear hd0 hxx h4 hi
   by_cases c1:x<32
   ·have HE:=hid (nV (by rw [HZ.out];exact HI.out) (by rw [HR.out,dT c1];rfl))
    go_wp2_with fail
    go_ret
    exact ⟨by rw [HBV.out,nS HE.out];rfl,kR⟩
   ·have d1:decide (x<32)=false:=dF c1
    by_cases c2:x=127
    ·have HE:=hid (nV (by rw [HZ.out];exact HI.out) (by rw [HR.out,c2];rfl))
     have e2:(x == 127)=true:=beq_iff_eq.2 c2
     clear c1 c2
     go_wp2_with fail
     go_ret
     exact ⟨by rw [HBV.out,nS HE.out];rfl,kR⟩
    ·have e2:(x == 127)=false:=bF.2 c2
     have HRN:=hid (show fy (s.data.toList.getD i 0)=false from by rw [HR.out,d1,e2];rfl)
     clear c1 c2
     go_wp2_with fail
     go_roundw
     case rel=>exact ⟨i+1,by have:=HI.out;omega,by go_num,fun j hj=>by
      by_cases hji:j=i
      ·rw [hji];exact HRN.out
      ·exact HRAW.out j (by omega),trivial⟩
     case measure=>have:=HI.out;simp only [intOf];omega
  ·have hie:i=s.size:=by omega
   have l1:decide ((i:Int)<(s.size:Int))=false:=dF (by omega)
   have l3:decide (i<s.size)=false:=dF h4
   have HNR:=hid (uQ (fun j hj=>HRAW.out j (by rw [hie,<- HZ.out];exact hj)))
   clear hie h4 hi
   go_wp2_with fail
   refine (HN.out _).mono ?_
   rintro e w2 hp
   cases hn:fX s.data.toList 0 with
   | error x=>
    rw [hn] at hp
    obtain ⟨p,q⟩:=x
    obtain ⟨rfl,k2⟩:=hp
    have HK2:=hid k2
    have HQ:=hid (show bv=false from by rw [HBV.out,nT hn])
    have hq0:=ln hn
    have q1:((q:Int) == 0)=false:=bF.2 (by omega)
    clear hn k2 hq0
    try dsimp only
    go_wp2_with fail
    go_ret
    exact ⟨by rw [HQ.out];rfl,HK2.out.alloc _⟩
   | ok y=>
    rw [hn] at hp
    obtain ⟨j,t⟩:=y
    obtain ⟨k,c,neg,A,n,cp,x,rfl,hl,k2⟩:=hp
    have hB:=pV hn hl
    rw [HNR.out] at hB
    generalize (t.kind:Int)=tk at hB ⊢
    generalize ((j+t.len:Nat):Int)=te at hB ⊢
    generalize (j:Int)=ta at hB ⊢
    generalize t.sq=tq
    have HB:=hid (show bv=(tk == 9 && ta == 0 && te == (s.size:Int) && k == 6 && x.toList == s.toList) from by rw [HBV.out,hB];simp)
    have HK:=hid (k2.alloc (.cells ((tkC tk ta te tq k c neg A n cp x none 0 0)) 29))
    obtain ⟨⟨a0,a1,a2,a3,a4,a5,a6,a7,a8,a9⟩,_⟩:=ab (hN w2 (.cells ((tkC tk ta te tq k c neg A n cp x none 0 0)) 29))
    clear hB hn hl k2
    try dsimp only
    by_cases t0:tk=9
    ·have f0:(tk == 9)=true:=beq_iff_eq.2 t0
     clear t0
     by_cases t1:ta=0
     ·have f1:(ta == 0)=true:=beq_iff_eq.2 t1
      clear t1
      by_cases t2:te=(s.size:Int)
      ·have f2:(te == (s.size:Int))=true:=beq_iff_eq.2 t2
       clear t2
       by_cases t3:k=6
       ·have f3:(k == 6)=true:=beq_iff_eq.2 t3
        clear t3
        by_cases t4:x.toList=s.toList
        ·have f4:(x.toList == s.toList)=true:=beq_iff_eq.2 t4
         clear t4
         have HV:=hid (show bv=true from by rw [HB.out,f0,f1,f2,f3,f4];rfl)
         go_wp2_with fail
         go_ret
         exact ⟨by rw [HV.out];rfl,HK.out⟩
        ·have f4:(x.toList == s.toList)=false:=bF.2 t4
         have HV:=hid (show bv=false from by rw [HB.out,f4];simp)
         clear t4
         go_wp2_with fail
         go_ret
         exact ⟨by rw [HV.out];rfl,HK.out⟩
       ·have f3:(k == 6)=false:=bF.2 t3
        have HV:=hid (show bv=false from by rw [HB.out,f3];simp)
        clear t3
        go_wp2_with fail
        go_ret
        exact ⟨by rw [HV.out];rfl,HK.out⟩
      ·have f2:(te == (s.size:Int))=false:=bF.2 t2
       have HV:=hid (show bv=false from by rw [HB.out,f2];simp)
       clear t2
       go_wp2_with fail
       go_ret
       exact ⟨by rw [HV.out];rfl,HK.out⟩
     ·have f1:(ta == 0)=false:=bF.2 t1
      have HV:=hid (show bv=false from by rw [HB.out,f1];simp)
      clear t1
      go_wp2_with fail
      go_ret
      exact ⟨by rw [HV.out];rfl,HK.out⟩
    ·have f0:(tk == 9)=false:=bF.2 t0
     have HV:=hid (show bv=false from by rw [HB.out,f0];simp)
     clear t0
     go_wp2_with fail
     go_ret
     exact ⟨by rw [HV.out];rfl,HK.out⟩
end Go.Proofs.YtonnikipeokkaaaGreatDoor
