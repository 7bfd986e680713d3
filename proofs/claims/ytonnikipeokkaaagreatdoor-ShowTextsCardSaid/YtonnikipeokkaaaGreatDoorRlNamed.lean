/-
  The document's lex: named, Number.
-/
import Derived.Test.YtonnikipeokkaaaGreatDoorRlRunes
import Derived.Test.YtonnikipeokkaaaGreatDoorLxNum
namespace Go.Proofs.YtonnikipeokkaaaGreatDoor
set_option maxRecDepth 100000
set_option maxHeartbeats 8000000
open Go.Lib (hid)
open Go.RowKit Go.Lib
def cC (l:List UInt8):Int:=match aN l with | some v=>(v:Int) | none=>-1
theorem eK {s:ByteArray} (l:List UInt8) (h:s.data.toList=l):(l == s.toList)=true:=by
 rw [Lib.toList_data,h];simp
theorem aB {s:ByteArray} (l:List UInt8) (h:¬ s.data.toList=l):(l == s.toList)=false:=by
 rw [Lib.toList_data];simpa using fun e=>h e.symm
theorem oB (s:ByteArray) (w:World) :
 Calls Tryz.prog 65 #[.string s] w fun e w'=>e=.returned (.int .i64 (cC s.data.toList))/\K0 w w':=by
 have HK:=hid (show K0 w ((w.alloc (.cells #[.string ⟨#[110,117,108]⟩,.string ⟨#[97,108,97,114,109]⟩,.string ⟨#[98,97,99,107,115,112,97,99,101]⟩,.string ⟨#[116,97,98]⟩,.string ⟨#[110,101,119,108,105,110,101]⟩,.string ⟨#[114,101,116,117,114,110]⟩,.string ⟨#[101,115,99,97,112,101]⟩,.string ⟨#[115,112,97,99,101]⟩,.string ⟨#[100,101,108,101,116,101]⟩] 9)).alloc (.cells #[.int .i64 0,.int .i64 7,.int .i64 8,.int .i64 9,.int .i64 10,.int .i64 13,.int .i64 27,.int .i64 32,.int .i64 127] 3)) from (kR.alloc _).alloc _)
 by_cases h0:s.data.toList=[110,117,108]
 ·have hv:cC s.data.toList=0:=by unfold cC aN;rw [if_pos h0];rfl
  rw [hv]
  have e0:=eK [110,117,108] h0
  clear hv h0
  go_enter Tryz.func65,Tryz.ntmps65
  go_wp2_with fail
  refine wp_loop_rounds 10 ?_
  rw [rounds_succ]
  go_wp2_with fail
  go_ret
  exact ⟨rfl,HK.out⟩
 by_cases h1:s.data.toList=[97,108,97,114,109]
 ·have hv:cC s.data.toList=7:=by unfold cC aN;rw [if_neg h0,if_pos h1];rfl
  rw [hv]
  have e0:=aB [110,117,108] h0
  have e1:=eK [97,108,97,114,109] h1
  clear hv h0 h1
  go_enter Tryz.func65,Tryz.ntmps65
  go_wp2_with fail
  refine wp_loop_rounds 10 ?_
  rw [rounds_succ]
  go_wp2_with fail
  rw [rounds_succ]
  go_wp2_with fail
  go_ret
  exact ⟨rfl,HK.out⟩
 by_cases h2:s.data.toList=[98,97,99,107,115,112,97,99,101]
 ·have hv:cC s.data.toList=8:=by unfold cC aN;rw [if_neg h0,if_neg h1,if_pos h2];rfl
  rw [hv]
  have e0:=aB [110,117,108] h0
  have e1:=aB [97,108,97,114,109] h1
  have e2:=eK [98,97,99,107,115,112,97,99,101] h2
  clear hv h0 h1 h2
  go_enter Tryz.func65,Tryz.ntmps65
  go_wp2_with fail
  refine wp_loop_rounds 10 ?_
  rw [rounds_succ]
  go_wp2_with fail
  rw [rounds_succ]
  go_wp2_with fail
  rw [rounds_succ]
  go_wp2_with fail
  go_ret
  exact ⟨rfl,HK.out⟩
 by_cases h3:s.data.toList=[116,97,98]
 ·have hv:cC s.data.toList=9:=by unfold cC aN;rw [if_neg h0,if_neg h1,if_neg h2,if_pos h3];rfl
  rw [hv]
  have e0:=aB [110,117,108] h0
  have e1:=aB [97,108,97,114,109] h1
  have e2:=aB [98,97,99,107,115,112,97,99,101] h2
  have e3:=eK [116,97,98] h3
  clear hv h0 h1 h2 h3
  go_enter Tryz.func65,Tryz.ntmps65
  go_wp2_with fail
  refine wp_loop_rounds 10 ?_
  rw [rounds_succ]
  go_wp2_with fail
  rw [rounds_succ]
  go_wp2_with fail
  rw [rounds_succ]
  go_wp2_with fail
  rw [rounds_succ]
  go_wp2_with fail
  go_ret
  exact ⟨rfl,HK.out⟩
 by_cases h4:s.data.toList=[110,101,119,108,105,110,101]
 ·have hv:cC s.data.toList=10:=by unfold cC aN;rw [if_neg h0,if_neg h1,if_neg h2,if_neg h3,if_pos h4];rfl
  rw [hv]
  have e0:=aB [110,117,108] h0
  have e1:=aB [97,108,97,114,109] h1
  have e2:=aB [98,97,99,107,115,112,97,99,101] h2
  have e3:=aB [116,97,98] h3
  have e4:=eK [110,101,119,108,105,110,101] h4
  clear hv h0 h1 h2 h3 h4
  go_enter Tryz.func65,Tryz.ntmps65
  go_wp2_with fail
  refine wp_loop_rounds 10 ?_
  rw [rounds_succ]
  go_wp2_with fail
  rw [rounds_succ]
  go_wp2_with fail
  rw [rounds_succ]
  go_wp2_with fail
  rw [rounds_succ]
  go_wp2_with fail
  rw [rounds_succ]
  go_wp2_with fail
  go_ret
  exact ⟨rfl,HK.out⟩
 by_cases h5:s.data.toList=[114,101,116,117,114,110]
 ·have hv:cC s.data.toList=13:=by unfold cC aN;rw [if_neg h0,if_neg h1,if_neg h2,if_neg h3,if_neg h4,if_pos h5];rfl
  rw [hv]
  have e0:=aB [110,117,108] h0
  have e1:=aB [97,108,97,114,109] h1
  have e2:=aB [98,97,99,107,115,112,97,99,101] h2
  have e3:=aB [116,97,98] h3
  have e4:=aB [110,101,119,108,105,110,101] h4
  have e5:=eK [114,101,116,117,114,110] h5
  clear hv h0 h1 h2 h3 h4 h5
  go_enter Tryz.func65,Tryz.ntmps65
  go_wp2_with fail
  refine wp_loop_rounds 10 ?_
  rw [rounds_succ]
  go_wp2_with fail
  rw [rounds_succ]
  go_wp2_with fail
  rw [rounds_succ]
  go_wp2_with fail
  rw [rounds_succ]
  go_wp2_with fail
  rw [rounds_succ]
  go_wp2_with fail
  rw [rounds_succ]
  go_wp2_with fail
  go_ret
  exact ⟨rfl,HK.out⟩
 by_cases h6:s.data.toList=[101,115,99,97,112,101]
 ·have hv:cC s.data.toList=27:=by unfold cC aN;rw [if_neg h0,if_neg h1,if_neg h2,if_neg h3,if_neg h4,if_neg h5,if_pos h6];rfl
  rw [hv]
  have e0:=aB [110,117,108] h0
  have e1:=aB [97,108,97,114,109] h1
  have e2:=aB [98,97,99,107,115,112,97,99,101] h2
  have e3:=aB [116,97,98] h3
  have e4:=aB [110,101,119,108,105,110,101] h4
  have e5:=aB [114,101,116,117,114,110] h5
  have e6:=eK [101,115,99,97,112,101] h6
  clear hv h0 h1 h2 h3 h4 h5 h6
  go_enter Tryz.func65,Tryz.ntmps65
  go_wp2_with fail
  refine wp_loop_rounds 10 ?_
  rw [rounds_succ]
  go_wp2_with fail
  rw [rounds_succ]
  go_wp2_with fail
  rw [rounds_succ]
  go_wp2_with fail
  rw [rounds_succ]
  go_wp2_with fail
  rw [rounds_succ]
  go_wp2_with fail
  rw [rounds_succ]
  go_wp2_with fail
  rw [rounds_succ]
  go_wp2_with fail
  go_ret
  exact ⟨rfl,HK.out⟩
 by_cases h7:s.data.toList=[115,112,97,99,101]
 ·have hv:cC s.data.toList=32:=by unfold cC aN;rw [if_neg h0,if_neg h1,if_neg h2,if_neg h3,if_neg h4,if_neg h5,if_neg h6,if_pos h7];rfl
  rw [hv]
  have e0:=aB [110,117,108] h0
  have e1:=aB [97,108,97,114,109] h1
  have e2:=aB [98,97,99,107,115,112,97,99,101] h2
  have e3:=aB [116,97,98] h3
  have e4:=aB [110,101,119,108,105,110,101] h4
  have e5:=aB [114,101,116,117,114,110] h5
  have e6:=aB [101,115,99,97,112,101] h6
  have e7:=eK [115,112,97,99,101] h7
  clear hv h0 h1 h2 h3 h4 h5 h6 h7
  go_enter Tryz.func65,Tryz.ntmps65
  go_wp2_with fail
  refine wp_loop_rounds 10 ?_
  rw [rounds_succ]
  go_wp2_with fail
  rw [rounds_succ]
  go_wp2_with fail
  rw [rounds_succ]
  go_wp2_with fail
  rw [rounds_succ]
  go_wp2_with fail
  rw [rounds_succ]
  go_wp2_with fail
  rw [rounds_succ]
  go_wp2_with fail
  rw [rounds_succ]
  go_wp2_with fail
  rw [rounds_succ]
  go_wp2_with fail
  go_ret
  exact ⟨rfl,HK.out⟩
 by_cases h8:s.data.toList=[100,101,108,101,116,101]
 ·have hv:cC s.data.toList=127:=by unfold cC aN;rw [if_neg h0,if_neg h1,if_neg h2,if_neg h3,if_neg h4,if_neg h5,if_neg h6,if_neg h7,if_pos h8];rfl
  rw [hv]
  have e0:=aB [110,117,108] h0
  have e1:=aB [97,108,97,114,109] h1
  have e2:=aB [98,97,99,107,115,112,97,99,101] h2
  have e3:=aB [116,97,98] h3
  have e4:=aB [110,101,119,108,105,110,101] h4
  have e5:=aB [114,101,116,117,114,110] h5
  have e6:=aB [101,115,99,97,112,101] h6
  have e7:=aB [115,112,97,99,101] h7
  have e8:=eK [100,101,108,101,116,101] h8
  clear hv h0 h1 h2 h3 h4 h5 h6 h7 h8
  go_enter Tryz.func65,Tryz.ntmps65
  go_wp2_with fail
  refine wp_loop_rounds 10 ?_
  rw [rounds_succ]
  go_wp2_with fail
  rw [rounds_succ]
  go_wp2_with fail
  rw [rounds_succ]
  go_wp2_with fail
  rw [rounds_succ]
  go_wp2_with fail
  rw [rounds_succ]
  go_wp2_with fail
  rw [rounds_succ]
  go_wp2_with fail
  rw [rounds_succ]
  go_wp2_with fail
  rw [rounds_succ]
  go_wp2_with fail
  rw [rounds_succ]
  go_wp2_with fail
  go_ret
  exact ⟨rfl,HK.out⟩
 have hv:cC s.data.toList=-1:=by unfold cC aN;rw [if_neg h0,if_neg h1,if_neg h2,if_neg h3,if_neg h4,if_neg h5,if_neg h6,if_neg h7,if_neg h8]
 rw [hv]
 have e0:=aB [110,117,108] h0
 have e1:=aB [97,108,97,114,109] h1
 have e2:=aB [98,97,99,107,115,112,97,99,101] h2
 have e3:=aB [116,97,98] h3
 have e4:=aB [110,101,119,108,105,110,101] h4
 have e5:=aB [114,101,116,117,114,110] h5
 have e6:=aB [101,115,99,97,112,101] h6
 have e7:=aB [115,112,97,99,101] h7
 have e8:=aB [100,101,108,101,116,101] h8
 clear hv h0 h1 h2 h3 h4 h5 h6 h7 h8
 go_enter Tryz.func65,Tryz.ntmps65
 go_wp2_with fail
 refine wp_loop_rounds 10 ?_
 rw [rounds_succ]
 go_wp2_with fail
 rw [rounds_succ]
 go_wp2_with fail
 rw [rounds_succ]
 go_wp2_with fail
 rw [rounds_succ]
 go_wp2_with fail
 rw [rounds_succ]
 go_wp2_with fail
 rw [rounds_succ]
 go_wp2_with fail
 rw [rounds_succ]
 go_wp2_with fail
 rw [rounds_succ]
 go_wp2_with fail
 rw [rounds_succ]
 go_wp2_with fail
 rw [rounds_succ]
 go_wp2_with fail
 go_ret
 exact ⟨rfl,HK.out⟩
theorem mY (s:ByteArray) (w:World) (hne:s.data.toList ≠ []) (hs:s.size<=1000000) :
 Calls Tryz.prog 66 #[.string s] w fun e w'=>e=.returned (.bool (aJ s.data.toList).isSome)/\w=w':=by
 have hz:s.data.toList.length=s.size:=(Lib.size_eq s).symm
 have h0:0<s.data.toList.length:=List.length_pos_iff.2 hne
 have HAT:=hid (fun (k:Nat) (hk:k<s.size)=>aK s k (by rw [hz];exact hk) _ rfl)
 have hx:∀ W:World,(Instr.index 9 (.string s) (.int .i64 0)).run Tryz.prog W=.ok (.int .u8 ((s.data.toList.getD 0 0).toNat:Int)) W:=aK s 0 h0 _ rfl
 have p0:decide ((0:Int)<(s.size:Int))=true:=dT (by omega)
 have p1:decide (0<s.size)=true:=dT (by omega)
 obtain ⟨c,hc⟩:∃ c,c=s.data.toList.getD 0 0:=⟨_,rfl⟩
 rw [<- hc] at hx
 rw [j7]
 have main:∀ (q:Nat),q<=s.size->aZ s.data.toList=s.data.toList.drop q->∀ k,q<=k->(∀ j,q<=j->j<k->eC (s.data.toList.getD j 0)=true)->(k=s.size->q<s.size->(!(decide (aZ s.data.toList=[])) && (aZ s.data.toList).all eC)=true)/\(k<s.size->eC (s.data.toList.getD k 0)=false->(!(decide (aZ s.data.toList=[])) && (aZ s.data.toList).all eC)=false):=by
  intro q hq hb k hk hd
  rw [hb]
  refine ⟨fun he hqs=>?_,fun hks hbad=>?_⟩
  ·have h1:s.data.toList.drop q ≠ []:=by rw [ap (by omega)];simp
   rw [dF h1]
   simp only [Bool.not_false,Bool.true_and,List.all_eq_true]
   intro x hx
   obtain ⟨j,hj,rfl⟩:=List.mem_iff_getElem.1 hx
   rw [List.length_drop] at hj
   have:=hd (q+j) (by omega) (by omega)
   rw [List.getElem_drop]
   rwa [gD,gE (by omega)] at this
  ·have h2:(s.data.toList.drop q).all eC=false:=by
    rw [List.all_eq_false]
    refine ⟨s.data.toList.getD k 0,?_,by rw [hbad];decide⟩
    rw [List.mem_iff_getElem]
    refine ⟨k - q,by rw [List.length_drop];omega,?_⟩
    rw [List.getElem_drop,gD,gE (by omega)]
    simp [show q+(k - q)=k by omega]
   rw [h2,Bool.and_false]
 have HM:=hid main
 have HZ:=hid hz
 clear main
 obtain ⟨R,hR⟩:∃ R,R=(!(decide (aZ s.data.toList=[])) && (aZ s.data.toList).all eC):=⟨_,rfl⟩
 rw [<- hR]
 have HRR:=hid hR
 clear hR
 by_cases hc1:c=43\/c=45
 ·have hb:aZ s.data.toList=s.data.toList.drop 1:=iY hne (by rw [<- hc];exact hc1)
  have HBD:=hid hb
  have hempty:s.size=1->R=false:=by
   intro h1
   rw [HRR.out,hb,List.drop_of_length_le (by omega)]
   rfl
  have HEM:=hid hempty
  clear hempty hb hz hne h0
  by_cases h1:s.size=1
  ·have hr:=HEM.out h1
   rw [hr]
   have e1:((1:Int) == (s.size:Int))=true:=by simp;omega
   have HH:=hid h1
   rcases hc1 with rfl | rfl
   all_goals
    clear hc h1
    go_enter Tryz.func66,Tryz.ntmps66
    go_wp2_with fail
    go_ret
    exact ⟨rfl,rfl⟩
  ·have e1:((1:Int) == (s.size:Int))=false:=by simp;omega
   have hz2:1<s.size:=by have:=of_decide_eq_true p1;omega
   clear h1
   rcases hc1 with rfl | rfl
   all_goals
    clear hc
    go_enter Tryz.func66,Tryz.ntmps66
    go_wp2_with fail
    go_loop [4] (fun iv=>∃ k:Nat,1<=k/\k<=s.size/\iv=.int .i64 (k:Int)/\(∀ j,1<=j->j<k->eC (s.data.toList.getD j 0)=true)) (fun iv=>s.size - (intOf iv).toNat)
    case atStart=>exact ⟨1,by omega,by omega,rfl,fun j h1 h2=>by omega⟩
    case round=>
     obtain ⟨k,hk1,hk,rfl,hd⟩:=hrel
     have HD:=hid hd
     clear hd
     by_cases hlt:k<s.size
     ·have hxk:=HAT.out k hlt
      have t0:decide ((k:Int)<(s.size:Int))=true:=dT (by omega)
      obtain ⟨b,hb⟩:∃ b,b=s.data.toList.getD k 0:=⟨_,rfl⟩
      rw [<- hb] at hxk
      have HB:=hid hb
      clear hb
      cases hdg:eC b with
      | true=>
       have h1:=(cI b).1 hdg
       have u1:decide ((b.toNat:Int)<48)=false:=dF (by omega)
       have u1n:decide (b.toNat<48)=false:=dF (by omega)
       have u2:decide ((57:Int)<(b.toNat:Int))=false:=dF (by omega)
       have HDG:=hid hdg
       clear hdg h1
       go_wp2_with fail
       go_round
       case rel=>exact ⟨k+1,by omega,by omega,by go_num,fun j hj1 hj2=>by
        rcases Nat.lt_or_eq_of_le (Nat.le_of_lt_succ hj2) with h | h
        ·exact HD.out j hj1 h
        ·rw [h,<- HB.out];exact HDG.out⟩
       case measure=>simp [intOf];omega
      | false=>
       have hbad:=(HM.out 1 (by omega) HBD.out k (by omega) HD.out).2 hlt (by rw [<- HB.out];exact hdg)
       rw [<- HRR.out] at hbad
       have HBAD:=hid hbad
       have h1:¬ (48<=b.toNat/\b.toNat<=57):=fun h=>by rw [(cI b).2 h] at hdg;cases hdg
       by_cases u:b.toNat<48
       ·have u1:decide ((b.toNat:Int)<48)=true:=dT (by omega)
        clear hdg h1 u hbad
        go_wp2_with fail
        go_ret
        exact ⟨by rw [HBAD.out];rfl,rfl⟩
       ·have u1:decide ((b.toNat:Int)<48)=false:=dF (by omega)
        have u1n:decide (b.toNat<48)=false:=dF u
        have u2:decide ((57:Int)<(b.toNat:Int))=true:=dT (by omega)
        clear hdg h1 u hbad
        go_wp2_with fail
        go_ret
        exact ⟨by rw [HBAD.out];rfl,rfl⟩
     ·have t0:decide ((k:Int)<(s.size:Int))=false:=dF (by omega)
      have t1:decide (k<s.size)=false:=dF hlt
      have hgood:=(HM.out 1 (by omega) HBD.out k (by omega) HD.out).1 (by omega) hz2
      rw [<- HRR.out] at hgood
      have HG:=hid hgood
      clear hgood
      go_wp2_with fail
      go_ret
      exact ⟨by rw [HG.out];rfl,rfl⟩
 ·have n1:c ≠ 43:=fun h=>hc1 (.inl h)
  have n2:c ≠ 45:=fun h=>hc1 (.inr h)
  have hb:aZ s.data.toList=s.data.toList.drop 0:=by rw [List.drop_zero];exact lC (by rw [<- hc];exact n1) (by rw [<- hc];exact n2)
  have HBD:=hid hb
  have e43:((c.toNat:Int) == 43)=false:=aH n1
  have e45:((c.toNat:Int) == 45)=false:=aH n2
  have e1:((0:Int) == (s.size:Int))=false:=by simp;omega
  have hz2:0<s.size:=by omega
  obtain ⟨d,hdd⟩:∃ d,d=(c.toNat:Int):=⟨_,rfl⟩
  rw [<- hdd] at hx e43 e45
  clear hb hz hne h0 n1 n2 hc1 hc hdd
  go_enter Tryz.func66,Tryz.ntmps66
  go_wp2_with fail
  go_loop [4] (fun iv=>∃ k:Nat,0<=k/\k<=s.size/\iv=.int .i64 (k:Int)/\(∀ j,0<=j->j<k->eC (s.data.toList.getD j 0)=true)) (fun iv=>s.size - (intOf iv).toNat)
  case atStart=>exact ⟨0,by omega,by omega,rfl,fun j h1 h2=>by omega⟩
  case round=>
   obtain ⟨k,hk1,hk,rfl,hd⟩:=hrel
   have HD:=hid hd
   clear hd
   by_cases hlt:k<s.size
   ·have hxk:=HAT.out k hlt
    have t0:decide ((k:Int)<(s.size:Int))=true:=dT (by omega)
    obtain ⟨b,hb⟩:∃ b,b=s.data.toList.getD k 0:=⟨_,rfl⟩
    rw [<- hb] at hxk
    have HB:=hid hb
    clear hb
    cases hdg:eC b with
    | true=>
     have h1:=(cI b).1 hdg
     have u1:decide ((b.toNat:Int)<48)=false:=dF (by omega)
     have u1n:decide (b.toNat<48)=false:=dF (by omega)
     have u2:decide ((57:Int)<(b.toNat:Int))=false:=dF (by omega)
     have HDG:=hid hdg
     clear hdg h1
     go_wp2_with fail
     go_round
     case rel=>exact ⟨k+1,by omega,by omega,by go_num,fun j hj1 hj2=>by
      rcases Nat.lt_or_eq_of_le (Nat.le_of_lt_succ hj2) with h | h
      ·exact HD.out j hj1 h
      ·rw [h,<- HB.out];exact HDG.out⟩
     case measure=>simp [intOf];omega
    | false=>
     have hbad:=(HM.out 0 (by omega) HBD.out k (by omega) HD.out).2 hlt (by rw [<- HB.out];exact hdg)
     rw [<- HRR.out] at hbad
     have HBAD:=hid hbad
     have h1:¬ (48<=b.toNat/\b.toNat<=57):=fun h=>by rw [(cI b).2 h] at hdg;cases hdg
     by_cases u:b.toNat<48
     ·have u1:decide ((b.toNat:Int)<48)=true:=dT (by omega)
      clear hdg h1 u hbad
      go_wp2_with fail
      go_ret
      exact ⟨by rw [HBAD.out];rfl,rfl⟩
     ·have u1:decide ((b.toNat:Int)<48)=false:=dF (by omega)
      have u1n:decide (b.toNat<48)=false:=dF u
      have u2:decide ((57:Int)<(b.toNat:Int))=true:=dT (by omega)
      clear hdg h1 u hbad
      go_wp2_with fail
      go_ret
      exact ⟨by rw [HBAD.out];rfl,rfl⟩
   ·have t0:decide ((k:Int)<(s.size:Int))=false:=dF (by omega)
    have t1:decide (k<s.size)=false:=dF hlt
    have hgood:=(HM.out 0 (by omega) HBD.out k (by omega) HD.out).1 (by omega) hz2
    rw [<- HRR.out] at hgood
    have HG:=hid hgood
    clear hgood
    go_wp2_with fail
    go_ret
    exact ⟨by rw [HG.out];rfl,rfl⟩
end Go.Proofs.YtonnikipeokkaaaGreatDoor
