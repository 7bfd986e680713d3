/-
  The document's lex: Blank, ends, two, Skip, Char, value, hex
-/
import Derived.Test.YtonnikipeokkaaaGreatDoorPaLx
import Derived.Laws.BitsAllLaws
namespace Go.Proofs.YtonnikipeokkaaaGreatDoor
set_option maxRecDepth 100000
set_option maxHeartbeats 8000000
open Go.Lib (hid)
open Go.RowKit Go.Lib
theorem bY (b:UInt8) (w:World):Calls Tryz.prog 61 #[.int .u8 (b.toNat:Int)] w fun e w'=>e=.returned (.bool (bO b))/\w=w':=by
 by_cases h9:b=9
 ·subst h9
  go_enter Tryz.func61,Tryz.ntmps61
  go_wp2_with fail
  go_ret
  exact ⟨rfl,rfl⟩
 by_cases h10:b=10
 ·subst h10
  go_enter Tryz.func61,Tryz.ntmps61
  go_wp2_with fail
  go_ret
  exact ⟨rfl,rfl⟩
 by_cases h12:b=12
 ·subst h12
  go_enter Tryz.func61,Tryz.ntmps61
  go_wp2_with fail
  go_ret
  exact ⟨rfl,rfl⟩
 by_cases h13:b=13
 ·subst h13
  go_enter Tryz.func61,Tryz.ntmps61
  go_wp2_with fail
  go_ret
  exact ⟨rfl,rfl⟩
 by_cases h32:b=32
 ·subst h32
  go_enter Tryz.func61,Tryz.ntmps61
  go_wp2_with fail
  go_ret
  exact ⟨rfl,rfl⟩
 have hb:bO b=false:=by unfold bO;simp [h9,h10,h12,h13,h32]
 rw [hb]
 have e9:((b.toNat:Int) == 9)=false:=by rw [show ((b.toNat:Int) == 9)=(b == 9) from aY b 9];simpa using h9
 have e10:((b.toNat:Int) == 10)=false:=by rw [show ((b.toNat:Int) == 10)=(b == 10) from aY b 10];simpa using h10
 have e12:((b.toNat:Int) == 12)=false:=by rw [show ((b.toNat:Int) == 12)=(b == 12) from aY b 12];simpa using h12
 have e13:((b.toNat:Int) == 13)=false:=by rw [show ((b.toNat:Int) == 13)=(b == 13) from aY b 13];simpa using h13
 have e32:((b.toNat:Int) == 32)=false:=by rw [show ((b.toNat:Int) == 32)=(b == 32) from aY b 32];simpa using h32
 obtain ⟨d,hd⟩:∃ d,d=(b.toNat:Int):=⟨_,rfl⟩
 rw [<- hd] at e9 e10 e12 e13 e32 ⊢
 clear h9 h10 h12 h13 h32 hb hd
 go_enter Tryz.func61,Tryz.ntmps61
 go_wp2_with fail
 go_ret
 exact ⟨rfl,rfl⟩
theorem nD (s:ByteArray) (a:Nat) (w:World):Calls Tryz.prog 64 #[.string s,.int .i64 (a:Int)] w fun e w'=>e=.returned (.bool (decide (s.size<=a) || aX (s.data.toList.getD a 0)))/\w=w':=by
 have hz:s.data.toList.length=s.size:=(Lib.size_eq s).symm
 by_cases h:s.size<=a
 ·rw [dT h]
  have h1:decide ((s.size:Int)<=(a:Int))=true:=dT (by omega)
  clear hz
  go_enter Tryz.func64,Tryz.ntmps64
  go_wp2_with fail
  go_ret
  exact ⟨rfl,rfl⟩
 rw [dF h,Bool.false_or]
 have h1:decide ((s.size:Int)<=(a:Int))=false:=dF (by omega)
 have h2:decide (s.size<=a)=false:=dF h
 have hx:=aK s a (by omega) _ rfl
 obtain ⟨c,hc⟩:∃ c,c=s.data.toList.getD a 0:=⟨_,rfl⟩
 rw [<- hc] at hx ⊢
 clear hc hz h
 cases hb:bO c with
 | true=>
  have HB:=hid hb
  have hd:aX c=true:=by unfold aX;rw [hb];rfl
  rw [hd]
  clear hb hd
  go_enter Tryz.func64,Tryz.ntmps64
  go_wp2_with fail
  refine (bY c _).mono ?_
  rintro e w1 ⟨rfl,rfl⟩
  rw [HB.out]
  try dsimp only
  go_wp2_with fail
  go_ret
  exact ⟨rfl,rfl⟩
 | false=>
  have HB:=hid hb
  have hd:aX c=[40,41,91,93,34,59,39,96,44].contains c:=by unfold aX;rw [hb];rfl
  rw [hd]
  clear hb hd
  by_cases h40:c=40
  ·subst h40
   go_enter Tryz.func64,Tryz.ntmps64
   go_wp2_with fail
   refine (bY 40 _).mono ?_
   rintro e w1 ⟨rfl,rfl⟩
   rw [HB.out]
   try dsimp only
   go_wp2_with fail
   go_ret
   exact ⟨rfl,rfl⟩
  by_cases h41:c=41
  ·subst h41
   clear h40
   go_enter Tryz.func64,Tryz.ntmps64
   go_wp2_with fail
   refine (bY 41 _).mono ?_
   rintro e w1 ⟨rfl,rfl⟩
   rw [HB.out]
   try dsimp only
   go_wp2_with fail
   go_ret
   exact ⟨rfl,rfl⟩
  by_cases h91:c=91
  ·subst h91
   clear h40 h41
   go_enter Tryz.func64,Tryz.ntmps64
   go_wp2_with fail
   refine (bY 91 _).mono ?_
   rintro e w1 ⟨rfl,rfl⟩
   rw [HB.out]
   try dsimp only
   go_wp2_with fail
   go_ret
   exact ⟨rfl,rfl⟩
  by_cases h93:c=93
  ·subst h93
   clear h40 h41 h91
   go_enter Tryz.func64,Tryz.ntmps64
   go_wp2_with fail
   refine (bY 93 _).mono ?_
   rintro e w1 ⟨rfl,rfl⟩
   rw [HB.out]
   try dsimp only
   go_wp2_with fail
   go_ret
   exact ⟨rfl,rfl⟩
  by_cases h34:c=34
  ·subst h34
   clear h40 h41 h91 h93
   go_enter Tryz.func64,Tryz.ntmps64
   go_wp2_with fail
   refine (bY 34 _).mono ?_
   rintro e w1 ⟨rfl,rfl⟩
   rw [HB.out]
   try dsimp only
   go_wp2_with fail
   go_ret
   exact ⟨rfl,rfl⟩
  by_cases h59:c=59
  ·subst h59
   clear h40 h41 h91 h93 h34
   go_enter Tryz.func64,Tryz.ntmps64
   go_wp2_with fail
   refine (bY 59 _).mono ?_
   rintro e w1 ⟨rfl,rfl⟩
   rw [HB.out]
   try dsimp only
   go_wp2_with fail
   go_ret
   exact ⟨rfl,rfl⟩
  by_cases h39:c=39
  ·subst h39
   clear h40 h41 h91 h93 h34 h59
   go_enter Tryz.func64,Tryz.ntmps64
   go_wp2_with fail
   refine (bY 39 _).mono ?_
   rintro e w1 ⟨rfl,rfl⟩
   rw [HB.out]
   try dsimp only
   go_wp2_with fail
   go_ret
   exact ⟨rfl,rfl⟩
  by_cases h96:c=96
  ·subst h96
   clear h40 h41 h91 h93 h34 h59 h39
   go_enter Tryz.func64,Tryz.ntmps64
   go_wp2_with fail
   refine (bY 96 _).mono ?_
   rintro e w1 ⟨rfl,rfl⟩
   rw [HB.out]
   try dsimp only
   go_wp2_with fail
   go_ret
   exact ⟨rfl,rfl⟩
  by_cases h44:c=44
  ·subst h44
   clear h40 h41 h91 h93 h34 h59 h39 h96
   go_enter Tryz.func64,Tryz.ntmps64
   go_wp2_with fail
   refine (bY 44 _).mono ?_
   rintro e w1 ⟨rfl,rfl⟩
   rw [HB.out]
   try dsimp only
   go_wp2_with fail
   go_ret
   exact ⟨rfl,rfl⟩
  have hd:[40,41,91,93,34,59,39,96,44].contains c=false:=by simp [h40,h41,h91,h93,h34,h59,h39,h96,h44]
  rw [hd]
  have e40:((c.toNat:Int) == 40)=false:=by rw [show ((c.toNat:Int) == 40)=(c == 40) from aY c 40];simpa using h40
  have e41:((c.toNat:Int) == 41)=false:=by rw [show ((c.toNat:Int) == 41)=(c == 41) from aY c 41];simpa using h41
  have e91:((c.toNat:Int) == 91)=false:=by rw [show ((c.toNat:Int) == 91)=(c == 91) from aY c 91];simpa using h91
  have e93:((c.toNat:Int) == 93)=false:=by rw [show ((c.toNat:Int) == 93)=(c == 93) from aY c 93];simpa using h93
  have e34:((c.toNat:Int) == 34)=false:=by rw [show ((c.toNat:Int) == 34)=(c == 34) from aY c 34];simpa using h34
  have e59:((c.toNat:Int) == 59)=false:=by rw [show ((c.toNat:Int) == 59)=(c == 59) from aY c 59];simpa using h59
  have e39:((c.toNat:Int) == 39)=false:=by rw [show ((c.toNat:Int) == 39)=(c == 39) from aY c 39];simpa using h39
  have e96:((c.toNat:Int) == 96)=false:=by rw [show ((c.toNat:Int) == 96)=(c == 96) from aY c 96];simpa using h96
  have e44:((c.toNat:Int) == 44)=false:=by rw [show ((c.toNat:Int) == 44)=(c == 44) from aY c 44];simpa using h44
  have HBL:=hid (fun w=>bY c w)
  rw [HB.out] at HBL
  obtain ⟨d,hdd⟩:∃ d,d=(c.toNat:Int):=⟨_,rfl⟩
  rw [<- hdd] at hx HBL e40 e41 e91 e93 e34 e59 e39 e96 e44
  clear hd hdd h40 h41 h91 h93 h34 h59 h39 h96 h44
  go_enter Tryz.func64,Tryz.ntmps64
  go_wp2_with fail
  refine (HBL.out _).mono ?_
  rintro e w1 ⟨rfl,rfl⟩
  try dsimp only
  go_wp2_with fail
  go_ret
  exact ⟨rfl,rfl⟩
theorem cz (s:ByteArray) (a:Nat) (x y:UInt8) (w:World) (hs:s.size<=1000000) (ha:a<=s.size):Calls Tryz.prog 37 #[.string s,.int .i64 (a:Int),.int .u8 (x.toNat:Int),.int .u8 (y.toNat:Int)] w fun e w'=>e=.returned (.bool (decide (a+1<s.size/\s.data.toList.getD a 0=x/\s.data.toList.getD (a+1) 0=y)))/\w=w':=by
 have hz:s.data.toList.length=s.size:=(Lib.size_eq s).symm
 by_cases h:a+1<s.size
 ·have h1:decide ((a:Int)+1<(s.size:Int))=true:=dT (by omega)
  have hx1:=aK s a (by omega) _ rfl
  have hx2:=aK s (a+1) (by omega) _ rfl
  obtain ⟨c,hc⟩:∃ c,c=s.data.toList.getD a 0:=⟨_,rfl⟩
  obtain ⟨d,hd⟩:∃ d,d=s.data.toList.getD (a+1) 0:=⟨_,rfl⟩
  rw [<- hc] at hx1 ⊢
  rw [<- hd] at hx2 ⊢
  have hx3:∀ W:World,(Instr.index 9 (.string s) (.int .i64 ((a:Int)+1))).run Tryz.prog W=.ok (.int .u8 (d.toNat:Int)) W:=hx2
  have e1:((c.toNat:Int) == (x.toNat:Int))=(c == x):=aY c x
  have e2:((d.toNat:Int) == (y.toNat:Int))=(d == y):=aY d y
  have hr:decide (a+1<s.size/\c=x/\d=y)=(c == x && d == y):=by
   rw [Bool.eq_iff_iff];simp [h]
  rw [hr]
  clear hr hx2 hc hd hz
  cases h3:c == x with
  | true=>
   rw [h3] at e1
   have HH:=hid h3
   clear h3
   rw [Bool.true_and]
   cases h4:d == y with
   | true=>
    rw [h4] at e2
    have HH2:=hid h4
    clear h4
    go_enter Tryz.func37,Tryz.ntmps37
    go_wp2_with fail
    go_ret
    exact ⟨rfl,rfl⟩
   | false=>
    rw [h4] at e2
    have HH2:=hid h4
    clear h4
    go_enter Tryz.func37,Tryz.ntmps37
    go_wp2_with fail
    go_ret
    exact ⟨rfl,rfl⟩
  | false=>
   rw [h3] at e1
   have HH:=hid h3
   clear h3 e2
   rw [Bool.false_and]
   go_enter Tryz.func37,Tryz.ntmps37
   go_wp2_with fail
   go_ret
   exact ⟨rfl,rfl⟩
 ·rw [dF (fun g=>h g.1)]
  have h1:decide ((a:Int)+1<(s.size:Int))=false:=dF (by omega)
  have h2:decide (a+1<s.size)=false:=dF h
  clear h hz
  go_enter Tryz.func37,Tryz.ntmps37
  go_wp2_with fail
  go_ret
  exact ⟨rfl,rfl⟩
def eH:Except Nat Nat->Int
 | .ok j=>(j:Int)
 | .error p=>-1 - (p:Int)
def yt (l:List UInt8) (a d i:Nat):Prop:=∃ j,i=a+2+j/\d<=j+1/\((1<=d/\bZ 1 (l.drop (a+2))=(bZ d (l.drop i)).map (· + j))\/(d=0/\bZ 1 (l.drop (a+2))=some j))
theorem bM (s:ByteArray) (a:Nat) (w:World) (ha:a<=s.size) (hs:s.size<=100000) :
 Calls Tryz.prog 36 #[.string s,.int .i64 (a:Int)] w fun e w'=>e=.returned (.int .i64 (eH (aC s.data.toList a)))/\w=w':=by
 have hz:s.data.toList.length=s.size:=(Lib.size_eq s).symm
 have HAT:=hid (fun (k:Nat) (hk:k<s.size)=>aK s k (by rw [hz];exact hk) _ rfl)
 have HTW:=hid (fun (k:Nat) (hk:k<=s.size) (x y:UInt8) (w:World)=>cz s k x y w (by omega) hk)
 obtain ⟨l,hl⟩:∃ l,l=s.data.toList:=⟨_,rfl⟩
 rw [<- hl] at hz HAT HTW ⊢
 have HZ:=hid hz
 clear hl hz
 go_enter Tryz.func36,Tryz.ntmps36
 go_wp2_with fail
 go_loop [1] (fun av=>∃ k:Nat,k<=s.size/\av=.int .i64 (k:Int)/\aC l k=aC l a) (fun av=>s.size - (intOf av).toNat)
 case atStart=>exact ⟨a,ha,rfl,rfl⟩
 case round=>
  obtain ⟨k,hk,rfl,hsk⟩:=hrel
  have HS:=hid hsk
  clear hsk
  by_cases hlt:k<s.size
  ·have hx:=HAT.out k hlt
   have h0:decide ((k:Int)<(s.size:Int))=true:=dT (by omega)
   obtain ⟨c,hc⟩:∃ c,c=l.getD k 0:=⟨_,rfl⟩
   rw [<- hc] at hx
   have HC:=hid hc
   clear hc
   go_wp2_with fail
   refine (bY c _).mono ?_
   rintro e w1 ⟨rfl,rfl⟩
   cases hb:bO c with
   | true=>
    have HB:=hid hb
    clear hb
    try dsimp only
    go_wp2_with fail
    go_round
    case rel=>exact ⟨k+1,by omega,by go_num,(io (by rw [HZ.out];exact hlt) (by rw [<- HC.out];exact HB.out)).symm.trans HS.out⟩
    case measure=>simp [intOf];omega
   | false=>
    have HB:=hid hb
    clear hb
    have e59:((c.toNat:Int) == 59)=(c == 59):=aY c 59
    cases hm:c == 59 with
    | true=>
     rw [hm] at e59
     have HM:=hid hm
     clear hm
     try dsimp only
     go_wp2_with fail
     clear hx
     go_loop [1] (fun av=>∃ m:Nat,k<=m/\m<=s.size/\av=.int .i64 (m:Int)/\bS (fun b=>b != 10) l m=bS (fun b=>b != 10) l k) (fun av=>s.size - (intOf av).toNat)
     case atStart=>exact ⟨k,Nat.le_refl _,hk,rfl,rfl⟩
     case round=>
      obtain ⟨m,hkm,hm,rfl,hsc⟩:=hrel
      have HSC:=hid hsc
      have HFIN:=hid (fun (he:bS (fun b=>b != 10) l k=m)=>show k<m/\aC l m=aC l a from by
       have c59:l.getD k 0=59:=by have:=HM.out;rw [HC.out] at this;simpa using this
       refine ⟨?_,?_⟩
       ·rw [<- he,<- dA (by rw [HZ.out];exact hlt) (by rw [c59];decide)]
        exact pP _ _ _
       ·rw [<- he,<- je (by rw [HZ.out];exact hlt) c59];exact HS.out)
      clear hsc
      by_cases hltm:m<s.size
      ·have hx:=HAT.out m hltm
       have h1:decide ((m:Int)<(s.size:Int))=true:=dT (by omega)
       obtain ⟨c2,hc2⟩:∃ c,c=l.getD m 0:=⟨_,rfl⟩
       rw [<- hc2] at hx
       have HC2:=hid hc2
       clear hc2
       have e10:((c2.toNat:Int) != 10)=(c2 != 10):=by unfold bne;rw [show ((c2.toNat:Int) == 10)=(c2 == 10) from aY c2 10]
       cases hn:c2 != 10 with
       | true=>
        rw [hn] at e10
        have HN:=hid hn
        clear hn
        go_wp2_with fail
        go_round
        case rel=>exact ⟨m+1,by omega,by omega,by go_num,(dA (by rw [HZ.out];exact hltm) (by rw [<- HC2.out];exact HN.out)).trans HSC.out⟩
        case measure=>simp [intOf];omega
       | false=>
        rw [hn] at e10
        have HN:=hid hn
        clear hn
        have hfin:=HFIN.out (HSC.out.symm.trans (eM (by rw [HZ.out];exact hltm) (by rw [<- HC2.out];exact HN.out)))
        have HF:=hid hfin
        have hlt2:=hfin.1
        clear hfin
        go_wp2_with fail
        go_round
        case rel=>exact ⟨m,hm,rfl,HF.out.2⟩
        case measure=>simp [intOf];omega
      ·have h1:decide ((m:Int)<(s.size:Int))=false:=dF (by omega)
       have h2:decide (m<s.size)=false:=dF (by omega)
       have hfin:=HFIN.out (HSC.out.symm.trans (gd (by rw [HZ.out];omega)))
       have HF:=hid hfin
       have hlt2:=hfin.1
       clear hfin
       go_wp2_with fail
       go_round
       case rel=>exact ⟨m,hm,rfl,HF.out.2⟩
       case measure=>simp [intOf];omega
    | false=>
     rw [hm] at e59
     have HM:=hid hm
     clear hm
     try dsimp only
     go_wp2_with fail
     refine (HTW.out k hk 35 124 _).mono ?_
     rintro e w1 ⟨rfl,rfl⟩
     by_cases hp:k+1<s.size/\l.getD k 0=35/\l.getD (k+1) 0=124
     ·rw [dT hp]
      have HPP:=hid hp
      have hk1:=hp.1
      clear hp hx e59
      try dsimp only
      go_wp2_with fail
      go_loop [1,6] (fun iv dv=>∃ d i:Nat,k<i/\i<=s.size/\d<=s.size/\iv=.int .i64 (i:Int)/\dv=.int .i64 (d:Int)/\yt l k d i) (fun iv _=>s.size - (intOf iv).toNat)
      case atStart=>
       refine ⟨1,k+2,by omega,by omega,by omega,by go_num,by rfl,0,rfl,by omega,.inl ⟨by omega,?_⟩⟩
       cases bZ 1 (l.drop (k+2))<;>rfl
      case round=>
       obtain ⟨d,i,hki,hi,hd,rfl,rfl,j,hij,hdj,hr⟩:=hrel
       rcases hr with ⟨hd1,hR⟩ | ⟨rfl,hR⟩
       ·have HR:=hid hR
        have HIJ:=hid hij
        have dp:decide ((0:Int)<(d:Int))=true:=dT (by omega)
        have dp2:decide (0<d)=true:=dT (by omega)
        clear hR hij
        by_cases hlt2:i+1<s.size
        ·have h1:decide ((s.size:Int)<=(i:Int)+1)=false:=dF (by omega)
         have h2:decide (s.size<=i+1)=false:=dF (by omega)
         have hdrop:l.drop i=l.getD i 0 :: l.getD (i+1) 0 :: l.drop (i+2):=by rw [ap (by rw [HZ.out];omega),ap (l:=l) (i:=i+1) (by rw [HZ.out];omega)]
         have HD:=hid hdrop
         clear hdrop
         go_wp2_with fail
         refine (HTW.out i hi 35 124 _).mono ?_
         rintro e w1 ⟨rfl,rfl⟩
         by_cases c1:l.getD i 0=35/\l.getD (i+1) 0=124
         ·rw [dT (show i+1<s.size/\l.getD i 0=35/\l.getD (i+1) 0=124 from ⟨hlt2,c1⟩)]
          have HC1:=hid c1
          clear c1
          try dsimp only
          go_wp2_with fail
          go_round
          case rel=>
           refine ⟨d+1,i+2,by omega,by omega,by have:=HIJ.out;omega,by go_num,by go_num,j+2,by have:=HIJ.out;omega,by omega,.inl ⟨by omega,?_⟩⟩
           rw [HR.out,HD.out,bZ,if_pos HC1.out]
           cases bZ (d+1) (l.drop (i+2))<;>simp<;>omega
          case measure=>simp [intOf];omega
         rw [dF (fun g:i+1<s.size/\l.getD i 0=35/\l.getD (i+1) 0=124=>c1 g.2)]
         have HC1:=hid c1
         clear c1
         try dsimp only
         go_wp2_with fail
         refine (HTW.out i hi 124 35 _).mono ?_
         rintro e w1 ⟨rfl,rfl⟩
         by_cases c2:l.getD i 0=124/\l.getD (i+1) 0=35
         ·rw [dT (show i+1<s.size/\l.getD i 0=124/\l.getD (i+1) 0=35 from ⟨hlt2,c2⟩)]
          have HC2:=hid c2
          clear c2
          have hd1i:(1:Int)<=(d:Int):=by omega
          try dsimp only
          go_wp2_with fail
          go_round
          case rel=>
           by_cases hd2:d=1
           ·subst hd2
            refine ⟨0,i+2,by omega,by omega,by omega,by go_num,by rfl,j+2,by have:=HIJ.out;omega,by omega,.inr ⟨rfl,?_⟩⟩
            rw [HR.out,HD.out,bZ,if_neg HC1.out,if_pos HC2.out,if_pos (Nat.le_refl 1)]
            simp;omega
           ·refine ⟨d - 1,i+2,by omega,by omega,by omega,by go_num,by go_num,j+2,by have:=HIJ.out;omega,by omega,.inl ⟨by omega,?_⟩⟩
            rw [HR.out,HD.out,bZ,if_neg HC1.out,if_pos HC2.out,if_neg (by omega)]
            cases bZ (d - 1) (l.drop (i+2))<;>simp<;>omega
          case measure=>simp [intOf];omega
         rw [dF (fun g:i+1<s.size/\l.getD i 0=124/\l.getD (i+1) 0=35=>c2 g.2)]
         have HC2:=hid c2
         clear c2
         try dsimp only
         go_wp2_with fail
         go_round
         case rel=>
          refine ⟨d,i+1,by omega,by omega,by omega,by go_num,rfl,j+1,by have:=HIJ.out;omega,by omega,.inl ⟨hd1,?_⟩⟩
          rw [HR.out,HD.out,bZ,if_neg HC1.out,if_neg HC2.out,ap (l:=l) (i:=i+1) (by rw [HZ.out];omega)]
          cases bZ d (l.getD (i+1) 0 :: l.drop (i+1+1))<;>simp<;>omega
         case measure=>simp [intOf];omega
        ·have h1:decide ((s.size:Int)<=(i:Int)+1)=true:=dT (by omega)
         have hn:bZ d (l.drop i)=none:=by
          have hlen:(l.drop i).length<2:=by rw [List.length_drop,HZ.out];omega
          generalize l.drop i=x at hlen
          cases x with
          | nil=>rfl
          | cons x t=>
           cases t with
           | nil=>rfl
           | cons y t=>simp only [List.length_cons] at hlen;omega
         have HN:=hid hn
         have kb:(k:Int)<=100000:=by omega
         clear hn
         go_wp2_with fail
         go_ret
         refine ⟨?_,rfl⟩
         have hc:bZ 1 (l.drop (k+2))=none:=by rw [HR.out,HN.out];rfl
         rw [<- HS.out,jd (by rw [HZ.out];exact hk1) HPP.out.2.1 HPP.out.2.2 hc]
         rfl
       ·have HR:=hid hR
        have HIJ:=hid hij
        have dp:decide ((0:Int)<((0:Nat):Int))=false:=rfl
        clear hR hij
        go_wp2_with fail
        go_round
        case rel=>exact ⟨i,hi,rfl,by rw [HIJ.out];exact (jP (by rw [HZ.out];exact hk1) HPP.out.2.1 HPP.out.2.2 HR.out).symm.trans HS.out⟩
        case measure=>simp [intOf];omega
     ·rw [dF hp]
      have HPP:=hid hp
      clear hp
      try dsimp only
      go_wp2_with fail
      go_ret
      refine ⟨?_,rfl⟩
      rw [<- HS.out,jc (by rw [HZ.out];exact hlt) (by rw [<- HC.out];exact HB.out) (by rw [<- HC.out];have:=HM.out;simpa using this) (by rw [HZ.out];exact HPP.out)]
      rfl
  ·have h0:decide ((k:Int)<(s.size:Int))=false:=dF (by omega)
   have h1:decide (k<s.size)=false:=dF (by omega)
   go_wp2_with fail
   obtain rfl:k=s.size:=by omega
   go_ret
   refine ⟨?_,rfl⟩
   rw [<- HS.out,<- HZ.out,jO]
   rfl
theorem eP (n:Nat) (N:Int) (hN:N=(n:Int)) (w:World):Calls Tryz.prog 75 #[.int .i32 N] w fun e w'=>e=.returned (.bool (bn n))/\w=w':=by
 have h0:decide (0<=N)=true:=dT (by omega)
 have hc:bn n=(decide (N<=1114111) && (decide (N<55296) || decide (57343<N))):=by
  unfold bn
  rw [Bool.eq_iff_iff]
  simp only [decide_eq_true_eq,Bool.and_eq_true,Bool.or_eq_true]
  omega
 rw [hc]
 clear hN hc
 cases h1:decide (N<=1114111) with
 | false=>
  rw [Bool.false_and]
  go_enter Tryz.func75,Tryz.ntmps75
  go_wp2_with fail
  go_ret
  exact ⟨rfl,rfl⟩
 | true=>
  cases h2:decide (N<55296) with
  | true=>
   rw [Bool.true_or,Bool.true_and]
   go_enter Tryz.func75,Tryz.ntmps75
   go_wp2_with fail
   go_ret
   exact ⟨rfl,rfl⟩
  | false=>
   rw [Bool.false_or,Bool.true_and]
   cases h3:decide (57343<N) with
   | true=>
    go_enter Tryz.func75,Tryz.ntmps75
    go_wp2_with fail
    go_ret
    exact ⟨rfl,rfl⟩
   | false=>
    go_enter Tryz.func75,Tryz.ntmps75
    go_wp2_with fail
    go_ret
    exact ⟨rfl,rfl⟩
def iV (b:UInt8):Int:=match ga b with | some v=>(v:Int) | none=>-1
theorem jS (c:UInt8) (w:World):Calls Tryz.prog 95 #[.int .u8 (c.toNat:Int)] w fun e w'=>e=.returned (.int .i64 (iV c))/\w=w':=by
 by_cases g1:48<=c.toNat/\c.toNat<=57
 ·obtain ⟨v,hv⟩:∃ v,c.toNat=48+v:=⟨c.toNat - 48,by omega⟩
  have hxv:iV c=(v:Int):=by unfold iV ga;rw [if_pos g1];simp;omega
  rw [hxv,hv]
  have hv9:v<=9:=by omega
  clear g1 hv hxv
  go_enter Tryz.func95,Tryz.ntmps95
  go_wp2_with fail
  go_ret
  exact ⟨by simp;omega,rfl⟩
 by_cases g2:97<=c.toNat/\c.toNat<=102
 ·obtain ⟨v,hv⟩:∃ v,c.toNat=97+v:=⟨c.toNat - 97,by omega⟩
  have hxv:iV c=((v+10:Nat):Int):=by unfold iV ga;rw [if_neg g1,if_pos g2];simp;omega
  rw [hxv,hv]
  have hv9:v<=5:=by omega
  clear g1 g2 hv hxv
  go_enter Tryz.func95,Tryz.ntmps95
  go_wp2_with fail
  go_ret
  exact ⟨by simp;omega,rfl⟩
 by_cases g3:65<=c.toNat/\c.toNat<=70
 ·obtain ⟨v,hv⟩:∃ v,c.toNat=65+v:=⟨c.toNat - 65,by omega⟩
  have hxv:iV c=((v+10:Nat):Int):=by unfold iV ga;rw [if_neg g1,if_neg g2,if_pos g3];simp;omega
  rw [hxv,hv]
  have hv9:v<=5:=by omega
  clear g1 g2 g3 hv hxv
  go_enter Tryz.func95,Tryz.ntmps95
  go_wp2_with fail
  go_ret
  exact ⟨by simp;omega,rfl⟩
 have hxv:iV c=-1:=by unfold iV ga;rw [if_neg g1,if_neg g2,if_neg g3]
 rw [hxv]
 obtain ⟨d,hd⟩:∃ d,d=c.toNat:=⟨_,rfl⟩
 rw [<- hd] at g1 g2 g3 ⊢
 have key:(decide ((48:Int)<=(d:Int))=true->decide ((d:Int)<=57)=false)/\(decide ((97:Int)<=(d:Int))=true->decide ((d:Int)<=102)=false)/\(decide ((65:Int)<=(d:Int))=true->decide ((d:Int)<=70)=false):=by
  refine ⟨fun h=>?_,fun h=>?_,fun h=>?_⟩<;>(have:=of_decide_eq_true h;exact dF (by omega))
 clear g1 g2 g3 hxv hd
 obtain ⟨k1,k2,k3⟩:=key
 cases q1:decide ((48:Int)<=(d:Int))<;>cases q2:decide ((97:Int)<=(d:Int))<;>cases q3:decide ((65:Int)<=(d:Int))
 all_goals
  simp only [q1,q2,q3,true_implies,reduceCtorEq,false_implies] at k1 k2 k3
  go_enter Tryz.func95,Tryz.ntmps95
  go_wp2_with fail
  go_ret
  exact ⟨rfl,rfl⟩
def wA (l:List UInt8) (w:World) (e:Ending) (w':World):Prop:=
 ∃ n:Nat,n<16777216/\e=.returned (.tuple #[.int .i32 (n:Int),.bool (df l).isSome])/\(∀ r,df l=some r->r=n)/\w=w'
theorem mZ (s:ByteArray) (w:World) (hs:s.size<=1000000) :
 Calls Tryz.prog 62 #[.string s] w (wA s.data.toList w):=by
 have hz:s.data.toList.length=s.size:=(Lib.size_eq s).symm
 by_cases h0:s.size<1
 ·have t1:decide ((s.size:Int)<1)=true:=dT (by omega)
  have hx:df s.data.toList=none:=by unfold df;rw [if_pos (by omega)]
  have HX:=hid hx
  clear hx
  go_enter Tryz.func62,Tryz.ntmps62
  go_wp2_with fail
  go_ret2
  refine ⟨0,by omega,?_,?_,rfl⟩
  ·rw [HX.out];rfl
  ·intro r hr;rw [HX.out] at hr;cases hr
 ·have t1:decide ((s.size:Int)<1)=false:=dF (by omega)
  by_cases h6:6<s.size
  ·have t2:decide ((6:Int)<(s.size:Int))=true:=dT (by omega)
   have hx:df s.data.toList=none:=by unfold df;rw [if_pos (by omega)]
   have HX:=hid hx
   clear hx
   go_enter Tryz.func62,Tryz.ntmps62
   go_wp2_with fail
   go_ret2
   refine ⟨0,by omega,?_,?_,rfl⟩
   ·rw [HX.out];rfl
   ·intro r hr;rw [HX.out] at hr;cases hr
  ·have t2:decide ((6:Int)<(s.size:Int))=false:=dF (by omega)
   have HAT:=hid (fun (k:Nat) (hk:k<s.size)=>aK s k (by rw [hz];exact hk) _ rfl)
   have HZ:=hid hz
   clear hz
   go_enter Tryz.func62,Tryz.ntmps62
   go_wp2_with fail
   go_loop [4,5] (fun nv iv=>∃ k n:Nat,k<=s.size/\n<16 ^ k/\(∃ N:Int,nv=.int .i64 N/\N=(n:Int))/\iv=.int .i64 (k:Int)/\ib s.data.toList 0=ib (s.data.toList.drop k) n) (fun _ iv=>s.size - (intOf iv).toNat)
   case atStart=>exact ⟨0,0,Nat.zero_le _,by omega,⟨0,rfl,rfl⟩,rfl,rfl⟩
   case round=>
    obtain ⟨k,n,hk,hn,⟨N,rfl,hN⟩,rfl,hx⟩:=hrel
    have HX:=hid hx
    have HN:=hid hn
    have HNN:=hid hN
    clear hx hn hN
    by_cases hlt:k<s.size
    ·have b0:0<=N:=by rw [HNN.out];omega
     have b1:N<=1048575:=by
      have h1:=mc HN.out (by omega)
      have h3:=HNN.out
      omega
     have hcell:=HAT.out k hlt
     obtain ⟨c,hc⟩:∃ c,c=s.data.toList.getD k 0:=⟨_,rfl⟩
     rw [<- hc] at hcell
     have HC:=hid hc
     have d0:decide ((k:Int)<(s.size:Int))=true:=dT (by omega)
     clear hc
     cases hxv:ga c with
     | some v=>
      have hv16:=vU hxv
      have HV:=hid (show iV c=(v:Int) by unfold iV;rw [hxv])
      have HXV:=hid hxv
      have dv:decide ((v:Int)<0)=false:=dF (by omega)
      clear hxv
      go_wp2_with fail
      refine (jS c _).mono ?_
      rintro e w1 ⟨rfl,rfl⟩
      rw [HV.out]
      try dsimp only
      go_wp2_with fail
      go_round
      case rel=>
       refine ⟨k+1,n * 16+v,by omega,iB HN.out hv16,⟨_,rfl,?_⟩,by go_num,gO (by rw [HZ.out];omega) HC.out HXV.out HX.out⟩
       rw [HNN.out];omega
      case measure=>simp [intOf];omega
     | none=>
      have HV:=hid (show iV c=-1 by unfold iV;rw [hxv])
      have hx:df s.data.toList=none:=by unfold df;rw [if_neg (by rw [HZ.out];omega),HX.out,ap (by rw [HZ.out];omega),<- HC.out,ib,hxv]
      have HXX:=hid hx
      clear hxv hx
      go_wp2_with fail
      refine (jS c _).mono ?_
      rintro e w1 ⟨rfl,rfl⟩
      rw [HV.out]
      try dsimp only
      go_wp2_with fail
      go_ret2
      refine ⟨0,by omega,?_,?_,rfl⟩
      ·rw [HXX.out];rfl
      ·intro r hr;rw [HXX.out] at hr;cases hr
    ·have d0:decide ((k:Int)<(s.size:Int))=false:=dF (by omega)
     have d1:decide (k<s.size)=false:=dF (by omega)
     have hx:df s.data.toList=if bn n then some n else none:=by
      unfold df
      rw [if_neg (by rw [HZ.out];omega),HX.out,List.drop_of_length_le (by rw [HZ.out];omega),ib]
     have HXX:=hid hx
     have hn6:=pR HN.out (by omega)
     have b0:0<=N:=by rw [HNN.out];omega
     have b1:N<=16777215:=by have:=HNN.out;omega
     have HN6:=hid hn6
     clear hx hn6
     go_wp2_with fail
     refine (eP n N HNN.out _).mono ?_
     rintro e w1 ⟨rfl,rfl⟩
     obtain ⟨cb,hcb⟩:∃ cb,cb=bn n:=⟨_,rfl⟩
     rw [<- hcb]
     have HCB:=hid hcb
     clear hcb
     try dsimp only
     go_wp2_with fail
     go_ret2
     refine ⟨n,HN6.out,?_,?_,rfl⟩
     ·rw [HXX.out,<- HCB.out,<- HNN.out]
      cases cb<;>rfl
     ·intro r hr
      rw [HXX.out,<- HCB.out] at hr
      cases cb
      ·cases hr
      ·injection hr with hr;exact hr.symm
theorem lF (x:Int) (h0:0<=x) (h1:x<2147483648):bits .and .i32 x 63=x % 64:=
 bits_mask .i32 31 (by decide) wraps_i32 6 (by decide) x h0 (by omega)
theorem lk (x:Int) (h0:0<=x) (h1:x<=63):bits .or .i32 128 x=128+x:=
 bits_join .i32 31 (by decide) wraps_i32 6 128 x (by omega) (by omega) (by omega) h0 (by omega) (by omega)
def dK (n:Nat) (w:World) (e:Ending) (w':World):Prop:=
 e=.returned (.slice (some ⟨w.heap.size,0,none⟩) (aI n).length (aI n).length)/\w'=w.alloc (.cells (Lib.byteCells (aI n)).toArray 5)
theorem eo (x:Nat) (h:x<256):((UInt8.ofNat x).toNat:Int)=(x:Int):=by
 rw [UInt8.toNat_ofNat'];congr 1;omega
theorem wU (n:Nat) (w:World) (h1:0<=n) (h2:n<=127):Calls Tryz.prog 49 #[.int .i32 (n:Int)] w (dK n w):=by
 obtain ⟨N,hN⟩:∃ N:Int,N=(n:Int):=⟨_,rfl⟩
 rw [<- hN]
 have b0:0<=N:=by omega
 have b1:N<=127:=by omega
 have d1:decide (N<128)=true:=dT (by omega)
 have hu:(aI n).length=1/\Lib.byteCells (aI n)=[.int .u8 (N)]:=by
  unfold aI
  rw [if_pos (by omega)]
  refine ⟨rfl,?_⟩
  unfold Lib.byteCells
  simp only [List.map_cons,List.map_nil]
  rw [eo _ (by omega)]
  rw [hN]
 have HU:=hid hu
 have HN:=hid hN
 clear hu hN h1 h2
 go_enter Tryz.func49,Tryz.ntmps49
 go_wp2_with fail
 refine bodyPost_ret (v:=.slice (some ⟨w.heap.size,0,none⟩) 1 1) (by simp [results,Tryz.results49,go_sem]) rfl ?_
 unfold dK
 rw [HU.out.1,HU.out.2]
 exact ⟨rfl,rfl⟩
theorem wT (n:Nat) (w:World) (h1:128<=n) (h2:n<=2047):Calls Tryz.prog 49 #[.int .i32 (n:Int)] w (dK n w):=by
 obtain ⟨N,hN⟩:∃ N:Int,N=(n:Int):=⟨_,rfl⟩
 rw [<- hN]
 have b0:0<=N:=by omega
 have b1:N<=2047:=by omega
 have d1:decide (N<128)=false:=dF (by omega)
 have d2:decide (N<2048)=true:=dT (by omega)
 obtain ⟨X0,hX0⟩:∃ X:Int,X=N % 64:=⟨_,rfl⟩
 have a0:bits .and .i32 N 63=X0:=by rw [hX0];exact lF _ (by omega) (by omega)
 have p0:0<=X0:=by omega
 have q0:X0<=63:=by omega
 have o0:bits .or .i32 128 X0=128+X0:=lk _ p0 q0
 obtain ⟨Y,hY⟩:∃ Y:Int,Y=N / 64:=⟨_,rfl⟩
 have y0:0<=Y:=by omega
 have y1:Y<=31:=by omega
 have HY:=hid hY
 have HX0:=hid hX0
 have hu:(aI n).length=2/\Lib.byteCells (aI n)=[.int .u8 (192+N / 64),.int .u8 (128+X0)]:=by
  unfold aI
  rw [if_neg (by omega),if_pos (by omega)]
  refine ⟨rfl,?_⟩
  unfold Lib.byteCells
  simp only [List.map_cons,List.map_nil]
  rw [eo _ (by omega),eo _ (by omega)]
  rw [show ((192+n / 64:Nat):Int)=192+N / 64 by omega,show ((128+n % 64:Nat):Int)=128+X0 by omega]
 have HU:=hid hu
 have HN:=hid hN
 clear hu hN h1 h2 hY hX0
 go_enter Tryz.func49,Tryz.ntmps49
 go_wp2_with fail
 refine bodyPost_ret (v:=.slice (some ⟨w.heap.size,0,none⟩) 2 2) (by simp [results,Tryz.results49,go_sem]) rfl ?_
 unfold dK
 rw [HU.out.1,HU.out.2]
 exact ⟨rfl,rfl⟩
theorem wS (n:Nat) (w:World) (h1:2048<=n) (h2:n<=65535):Calls Tryz.prog 49 #[.int .i32 (n:Int)] w (dK n w):=by
 obtain ⟨N,hN⟩:∃ N:Int,N=(n:Int):=⟨_,rfl⟩
 rw [<- hN]
 have b0:0<=N:=by omega
 have b1:N<=65535:=by omega
 have d1:decide (N<128)=false:=dF (by omega)
 have d2:decide (N<2048)=false:=dF (by omega)
 have d3:decide (N<65536)=true:=dT (by omega)
 obtain ⟨X0,hX0⟩:∃ X:Int,X=(N / 64) % 64:=⟨_,rfl⟩
 have a0:bits .and .i32 (N / 64) 63=X0:=by rw [hX0];exact lF _ (by omega) (by omega)
 have p0:0<=X0:=by omega
 have q0:X0<=63:=by omega
 have o0:bits .or .i32 128 X0=128+X0:=lk _ p0 q0
 obtain ⟨X1,hX1⟩:∃ X:Int,X=N % 64:=⟨_,rfl⟩
 have a1:bits .and .i32 N 63=X1:=by rw [hX1];exact lF _ (by omega) (by omega)
 have p1:0<=X1:=by omega
 have q1:X1<=63:=by omega
 have o1:bits .or .i32 128 X1=128+X1:=lk _ p1 q1
 obtain ⟨Y,hY⟩:∃ Y:Int,Y=N / 4096:=⟨_,rfl⟩
 have y0:0<=Y:=by omega
 have y1:Y<=15:=by omega
 have HY:=hid hY
 have yo:bits .or .i32 224 (N / 4096)=224+N / 4096:=bits_join .i32 31 (by decide) wraps_i32 4 224 (N / 4096) (by omega) (by omega) (by omega) (by omega) (by omega) (by omega)
 have HX0:=hid hX0
 have HX1:=hid hX1
 have hu:(aI n).length=3/\Lib.byteCells (aI n)=[.int .u8 (224+N / 4096),.int .u8 (128+X0),.int .u8 (128+X1)]:=by
  unfold aI
  rw [if_neg (by omega),if_neg (by omega),if_pos (by omega)]
  refine ⟨rfl,?_⟩
  unfold Lib.byteCells
  simp only [List.map_cons,List.map_nil]
  rw [eo _ (by omega),eo _ (by omega),eo _ (by omega)]
  rw [show ((224+n / 4096:Nat):Int)=224+N / 4096 by omega,show ((128+n / 64 % 64:Nat):Int)=128+X0 by omega,show ((128+n % 64:Nat):Int)=128+X1 by omega]
 have HU:=hid hu
 have HN:=hid hN
 clear hu hN h1 h2 hY hX0 hX1
 go_enter Tryz.func49,Tryz.ntmps49
 go_wp2_with fail
 refine bodyPost_ret (v:=.slice (some ⟨w.heap.size,0,none⟩) 3 3) (by simp [results,Tryz.results49,go_sem]) rfl ?_
 unfold dK
 rw [HU.out.1,HU.out.2]
 exact ⟨rfl,rfl⟩
theorem wR (n:Nat) (w:World) (h1:65536<=n) (h2:n<=1114111):Calls Tryz.prog 49 #[.int .i32 (n:Int)] w (dK n w):=by
 obtain ⟨N,hN⟩:∃ N:Int,N=(n:Int):=⟨_,rfl⟩
 rw [<- hN]
 have b0:0<=N:=by omega
 have b1:N<=1114111:=by omega
 have d1:decide (N<128)=false:=dF (by omega)
 have d2:decide (N<2048)=false:=dF (by omega)
 have d3:decide (N<65536)=false:=dF (by omega)
 obtain ⟨X0,hX0⟩:∃ X:Int,X=(N / 4096) % 64:=⟨_,rfl⟩
 have a0:bits .and .i32 (N / 4096) 63=X0:=by rw [hX0];exact lF _ (by omega) (by omega)
 have p0:0<=X0:=by omega
 have q0:X0<=63:=by omega
 have o0:bits .or .i32 128 X0=128+X0:=lk _ p0 q0
 obtain ⟨X1,hX1⟩:∃ X:Int,X=(N / 64) % 64:=⟨_,rfl⟩
 have a1:bits .and .i32 (N / 64) 63=X1:=by rw [hX1];exact lF _ (by omega) (by omega)
 have p1:0<=X1:=by omega
 have q1:X1<=63:=by omega
 have o1:bits .or .i32 128 X1=128+X1:=lk _ p1 q1
 obtain ⟨X2,hX2⟩:∃ X:Int,X=N % 64:=⟨_,rfl⟩
 have a2:bits .and .i32 N 63=X2:=by rw [hX2];exact lF _ (by omega) (by omega)
 have p2:0<=X2:=by omega
 have q2:X2<=63:=by omega
 have o2:bits .or .i32 128 X2=128+X2:=lk _ p2 q2
 obtain ⟨Y,hY⟩:∃ Y:Int,Y=N / 262144:=⟨_,rfl⟩
 have y0:0<=Y:=by omega
 have y1:Y<=4:=by omega
 have HY:=hid hY
 have yo:bits .or .i32 240 (N / 262144)=240+N / 262144:=bits_join .i32 31 (by decide) wraps_i32 3 240 (N / 262144) (by omega) (by omega) (by omega) (by omega) (by omega) (by omega)
 have HX0:=hid hX0
 have HX1:=hid hX1
 have HX2:=hid hX2
 have hu:(aI n).length=4/\Lib.byteCells (aI n)=[.int .u8 (240+N / 262144),.int .u8 (128+X0),.int .u8 (128+X1),.int .u8 (128+X2)]:=by
  unfold aI
  rw [if_neg (by omega),if_neg (by omega),if_neg (by omega)]
  refine ⟨rfl,?_⟩
  unfold Lib.byteCells
  simp only [List.map_cons,List.map_nil]
  rw [eo _ (by omega),eo _ (by omega),eo _ (by omega),eo _ (by omega)]
  rw [show ((240+n / 262144:Nat):Int)=240+N / 262144 by omega,show ((128+n / 4096 % 64:Nat):Int)=128+X0 by omega,show ((128+n / 64 % 64:Nat):Int)=128+X1 by omega,show ((128+n % 64:Nat):Int)=128+X2 by omega]
 have HU:=hid hu
 have HN:=hid hN
 clear hu hN h1 h2 hY hX0 hX1 hX2
 go_enter Tryz.func49,Tryz.ntmps49
 go_wp2_with fail
 refine bodyPost_ret (v:=.slice (some ⟨w.heap.size,0,none⟩) 4 4) (by simp [results,Tryz.results49,go_sem]) rfl ?_
 unfold dK
 rw [HU.out.1,HU.out.2]
 exact ⟨rfl,rfl⟩
theorem ge (n:Nat) (w:World) (h:bn n=true):Calls Tryz.prog 49 #[.int .i32 (n:Int)] w (dK n w):=by
 have h:=of_decide_eq_true h
 by_cases h1:n<=127
 ·exact wU n w (by omega) h1
 by_cases h2:n<=2047
 ·exact wT n w (by omega) h2
 by_cases h3:n<=65535
 ·exact wS n w (by omega) h3
 ·exact wR n w (by omega) (by omega)
end Go.Proofs.YtonnikipeokkaaaGreatDoor
