/-
  lex: named, number.
-/
import Derived.Test.YtonnikipeokkaaaGreatDoorLxTok
namespace Go.Proofs.YtonnikipeokkaaaGreatDoor
set_option maxRecDepth 100000
set_option maxHeartbeats 4000000
open Go.Lib (hid)
open Go.RowKit Go.Lib
theorem cf {s:ByteArray} (l:List UInt8) (h:s.data.toList=l):(s.toList == l)=true:=by
 rw [Lib.toList_data,h];simp
theorem aj {s:ByteArray} (l:List UInt8) (h:¬ s.data.toList=l):(s.toList == l)=false:=by
 rw [Lib.toList_data];simpa using h
theorem gL (s:ByteArray) (w:World) :
 Calls Tryz.prog 126 #[.string s] w fun e w'=>e=.returned (.tuple #[.int .i32 (((aN s.data.toList).getD 0:Nat):Int),.bool (aN s.data.toList).isSome])/\w=w':=by
 by_cases h0:s.data.toList=[110,117,108]
 ·have hv:aN s.data.toList=some 0:=by unfold aN;rw [if_pos h0]
  rw [hv]
  have e0:=cf [110,117,108] h0
  clear hv h0
  go_enter Tryz.func126,Tryz.ntmps126
  go_wp2_with fail
  go_ret2
  exact ⟨rfl,rfl⟩
 by_cases h1:s.data.toList=[97,108,97,114,109]
 ·have hv:aN s.data.toList=some 7:=by unfold aN;rw [if_neg h0,if_pos h1]
  rw [hv]
  have e0:=aj [110,117,108] h0
  have e1:=cf [97,108,97,114,109] h1
  clear hv h0 h1
  go_enter Tryz.func126,Tryz.ntmps126
  go_wp2_with fail
  go_ret2
  exact ⟨rfl,rfl⟩
 by_cases h2:s.data.toList=[98,97,99,107,115,112,97,99,101]
 ·have hv:aN s.data.toList=some 8:=by unfold aN;rw [if_neg h0,if_neg h1,if_pos h2]
  rw [hv]
  have e0:=aj [110,117,108] h0
  have e1:=aj [97,108,97,114,109] h1
  have e2:=cf [98,97,99,107,115,112,97,99,101] h2
  clear hv h0 h1 h2
  go_enter Tryz.func126,Tryz.ntmps126
  go_wp2_with fail
  go_ret2
  exact ⟨rfl,rfl⟩
 by_cases h3:s.data.toList=[116,97,98]
 ·have hv:aN s.data.toList=some 9:=by unfold aN;rw [if_neg h0,if_neg h1,if_neg h2,if_pos h3]
  rw [hv]
  have e0:=aj [110,117,108] h0
  have e1:=aj [97,108,97,114,109] h1
  have e2:=aj [98,97,99,107,115,112,97,99,101] h2
  have e3:=cf [116,97,98] h3
  clear hv h0 h1 h2 h3
  go_enter Tryz.func126,Tryz.ntmps126
  go_wp2_with fail
  go_ret2
  exact ⟨rfl,rfl⟩
 by_cases h4:s.data.toList=[110,101,119,108,105,110,101]
 ·have hv:aN s.data.toList=some 10:=by unfold aN;rw [if_neg h0,if_neg h1,if_neg h2,if_neg h3,if_pos h4]
  rw [hv]
  have e0:=aj [110,117,108] h0
  have e1:=aj [97,108,97,114,109] h1
  have e2:=aj [98,97,99,107,115,112,97,99,101] h2
  have e3:=aj [116,97,98] h3
  have e4:=cf [110,101,119,108,105,110,101] h4
  clear hv h0 h1 h2 h3 h4
  go_enter Tryz.func126,Tryz.ntmps126
  go_wp2_with fail
  go_ret2
  exact ⟨rfl,rfl⟩
 by_cases h5:s.data.toList=[114,101,116,117,114,110]
 ·have hv:aN s.data.toList=some 13:=by unfold aN;rw [if_neg h0,if_neg h1,if_neg h2,if_neg h3,if_neg h4,if_pos h5]
  rw [hv]
  have e0:=aj [110,117,108] h0
  have e1:=aj [97,108,97,114,109] h1
  have e2:=aj [98,97,99,107,115,112,97,99,101] h2
  have e3:=aj [116,97,98] h3
  have e4:=aj [110,101,119,108,105,110,101] h4
  have e5:=cf [114,101,116,117,114,110] h5
  clear hv h0 h1 h2 h3 h4 h5
  go_enter Tryz.func126,Tryz.ntmps126
  go_wp2_with fail
  go_ret2
  exact ⟨rfl,rfl⟩
 by_cases h6:s.data.toList=[101,115,99,97,112,101]
 ·have hv:aN s.data.toList=some 27:=by unfold aN;rw [if_neg h0,if_neg h1,if_neg h2,if_neg h3,if_neg h4,if_neg h5,if_pos h6]
  rw [hv]
  have e0:=aj [110,117,108] h0
  have e1:=aj [97,108,97,114,109] h1
  have e2:=aj [98,97,99,107,115,112,97,99,101] h2
  have e3:=aj [116,97,98] h3
  have e4:=aj [110,101,119,108,105,110,101] h4
  have e5:=aj [114,101,116,117,114,110] h5
  have e6:=cf [101,115,99,97,112,101] h6
  clear hv h0 h1 h2 h3 h4 h5 h6
  go_enter Tryz.func126,Tryz.ntmps126
  go_wp2_with fail
  go_ret2
  exact ⟨rfl,rfl⟩
 by_cases h7:s.data.toList=[115,112,97,99,101]
 ·have hv:aN s.data.toList=some 32:=by unfold aN;rw [if_neg h0,if_neg h1,if_neg h2,if_neg h3,if_neg h4,if_neg h5,if_neg h6,if_pos h7]
  rw [hv]
  have e0:=aj [110,117,108] h0
  have e1:=aj [97,108,97,114,109] h1
  have e2:=aj [98,97,99,107,115,112,97,99,101] h2
  have e3:=aj [116,97,98] h3
  have e4:=aj [110,101,119,108,105,110,101] h4
  have e5:=aj [114,101,116,117,114,110] h5
  have e6:=aj [101,115,99,97,112,101] h6
  have e7:=cf [115,112,97,99,101] h7
  clear hv h0 h1 h2 h3 h4 h5 h6 h7
  go_enter Tryz.func126,Tryz.ntmps126
  go_wp2_with fail
  go_ret2
  exact ⟨rfl,rfl⟩
 by_cases h8:s.data.toList=[100,101,108,101,116,101]
 ·have hv:aN s.data.toList=some 127:=by unfold aN;rw [if_neg h0,if_neg h1,if_neg h2,if_neg h3,if_neg h4,if_neg h5,if_neg h6,if_neg h7,if_pos h8]
  rw [hv]
  have e0:=aj [110,117,108] h0
  have e1:=aj [97,108,97,114,109] h1
  have e2:=aj [98,97,99,107,115,112,97,99,101] h2
  have e3:=aj [116,97,98] h3
  have e4:=aj [110,101,119,108,105,110,101] h4
  have e5:=aj [114,101,116,117,114,110] h5
  have e6:=aj [101,115,99,97,112,101] h6
  have e7:=aj [115,112,97,99,101] h7
  have e8:=cf [100,101,108,101,116,101] h8
  clear hv h0 h1 h2 h3 h4 h5 h6 h7 h8
  go_enter Tryz.func126,Tryz.ntmps126
  go_wp2_with fail
  go_ret2
  exact ⟨rfl,rfl⟩
 have hv:aN s.data.toList=none:=by unfold aN;rw [if_neg h0,if_neg h1,if_neg h2,if_neg h3,if_neg h4,if_neg h5,if_neg h6,if_neg h7,if_neg h8]
 rw [hv]
 have e0:=aj [110,117,108] h0
 have e1:=aj [97,108,97,114,109] h1
 have e2:=aj [98,97,99,107,115,112,97,99,101] h2
 have e3:=aj [116,97,98] h3
 have e4:=aj [110,101,119,108,105,110,101] h4
 have e5:=aj [114,101,116,117,114,110] h5
 have e6:=aj [101,115,99,97,112,101] h6
 have e7:=aj [115,112,97,99,101] h7
 have e8:=aj [100,101,108,101,116,101] h8
 clear hv h0 h1 h2 h3 h4 h5 h6 h7 h8
 go_enter Tryz.func126,Tryz.ntmps126
 go_wp2_with fail
 go_ret2
 exact ⟨rfl,rfl⟩
theorem lC {l:List UInt8} (h1:¬ l.getD 0 0=43) (h2:¬ l.getD 0 0=45):aZ l=l:=by
 unfold aZ ip
 cases l with
 | nil=>rfl
 | cons c t=>
  have g1:Lib.hasPrefix (c :: t) [45]=false:=by
   unfold Lib.hasPrefix;simp only [List.isPrefixOf,Bool.and_true,bF,ne_eq];exact fun e=>h2 e.symm
  have g2:Lib.hasPrefix (c :: t) [43]=false:=by
   unfold Lib.hasPrefix;simp only [List.isPrefixOf,Bool.and_true,bF,ne_eq];exact fun e=>h1 e.symm
  rw [g1,g2];rfl
theorem iY {l:List UInt8} (hne:l ≠ []) (h:l.getD 0 0=43\/l.getD 0 0=45):aZ l=l.drop 1:=by
 unfold aZ ip
 cases l with
 | nil=>exact absurd rfl hne
 | cons c t=>
  have h:c=43\/c=45:=h
  rcases h with rfl | rfl<;>rfl
theorem j7 (l:List UInt8):(aJ l).isSome=(!(decide (aZ l=[])) && (aZ l).all eC):=by
 unfold aJ
 by_cases h1:aZ l=[]
 ·rw [if_pos (.inl h1),dT h1];rfl
 ·rw [dF h1]
  cases h2:(aZ l).all eC with
  | true=>rw [if_neg (by rintro (h | h);exact h1 h;cases h)];rfl
  | false=>rw [if_pos (.inr rfl)];rfl
theorem jG (t:ByteArray):(⟨(Lib.trimS t.data.toList [48,49,50,51,52,53,54,55,56,57]).toArray⟩:ByteArray).toList.isEmpty=t.data.toList.all eC:=by
 rw [Lib.toList_data]
 show (Lib.trimS t.data.toList [48,49,50,51,52,53,54,55,56,57]).isEmpty=_
 rw [Bool.eq_iff_iff,List.isEmpty_iff,du]
theorem fS (s:ByteArray) (w:World) (hne:s.data.toList ≠ []) (hs:s.size<=1000000) :
 Calls Tryz.prog 128 #[.string s] w fun e w'=>e=.returned (.bool (aJ s.data.toList).isSome)/\K0 w w':=by
 have hz:s.data.toList.length=s.size:=(Lib.size_eq s).symm
 have h0:0<s.data.toList.length:=List.length_pos_iff.2 hne
 have hx:=aK s 0 h0 _ rfl
 have hx:∀ W:World,(Instr.index 9 (.string s) (.int .i64 0)).run Tryz.prog W=.ok (.int .u8 ((s.data.toList.getD 0 0).toNat:Int)) W:=hx
 obtain ⟨c,hc⟩:∃ c,c=s.data.toList.getD 0 0:=⟨_,rfl⟩
 rw [<- hc] at hx
 have HK:=hid (ah.refl (fun _=>False) w)
 rw [j7]
 have b0:(1:Int)<=(s.size:Int):=by omega
 by_cases hc1:c=43\/c=45
 ·have hb:aZ s.data.toList=(s.extract 1 s.size).data.toList:=by
   rw [iY hne (by rw [<- hc];exact hc1),Lib.extract_data,List.take_of_length_le (by rw [List.length_drop];omega)]
  rw [hb]
  have hsz:(s.extract 1 s.size).size<=9223372036854775807:=by rw [Lib.size_eq,<- hb,iY hne (by rw [<- hc];exact hc1),List.length_drop];omega
  have HSZ:=hid hsz
  have HTE:=hid (jG (s.extract 1 s.size))
  have hemp:(s.extract 1 s.size).toList.isEmpty=decide ((s.extract 1 s.size).data.toList=[]):=by
   rw [Lib.toList_data];cases (s.extract 1 s.size).data.toList<;>simp
  clear hb hsz hz h0 hne
  cases he:decide ((s.extract 1 s.size).data.toList=[]) with
  | true=>
   rw [he] at hemp
   clear he
   rcases hc1 with rfl | rfl
   all_goals
    clear hc
    go_enter Tryz.func128,Tryz.ntmps128
    go_wp2_with fail
    go_ret
    exact ⟨rfl,HK.out⟩
  | false=>
   rw [he] at hemp
   clear he
   obtain ⟨r,hr⟩:∃ r,r=(s.extract 1 s.size).data.toList.all eC:=⟨_,rfl⟩
   rw [<- hr] at HTE ⊢
   clear hr
   rcases hc1 with rfl | rfl
   all_goals
    clear hc
    go_enter Tryz.func128,Tryz.ntmps128
    go_wp2_with fail
    refine (bQ (s.extract 1 s.size) _ HSZ.out).mono ?_
    rintro e w2 ⟨rfl,k2⟩
    have hte:=HTE.out
    have HK2:=hid (HK.out.trans k2)
    clear k2
    obtain ⟨t,ht⟩:∃ t:ByteArray,t=⟨(Lib.trimS (s.extract 1 s.size).data.toList [48,49,50,51,52,53,54,55,56,57]).toArray⟩:=⟨_,rfl⟩
    rw [<- ht] at hte ⊢
    clear ht
    cases r
    all_goals
     try dsimp only
     go_wp2_with fail
     go_ret
     exact ⟨rfl,HK2.out⟩
 ·have n1:c ≠ 43:=fun h=>hc1 (.inl h)
  have n2:c ≠ 45:=fun h=>hc1 (.inr h)
  have hb:aZ s.data.toList=s.data.toList:=lC (by rw [<- hc];exact n1) (by rw [<- hc];exact n2)
  rw [hb,dF hne]
  have HSZ:=hid (show s.size<=9223372036854775807 by omega)
  have HTE:=hid (jG s)
  have hemp:s.toList.isEmpty=false:=by rw [Lib.toList_data];cases h:s.data.toList with | nil=>exact absurd h hne | cons=>rfl
  have e43:((c.toNat:Int) == 43)=false:=aH n1
  have e45:((c.toNat:Int) == 45)=false:=aH n2
  obtain ⟨r,hr⟩:∃ r,r=s.data.toList.all eC:=⟨_,rfl⟩
  rw [<- hr] at HTE ⊢
  clear hb hz h0 hne hr n1 n2 hc1 hc
  go_enter Tryz.func128,Tryz.ntmps128
  go_wp2_with fail
  refine (bQ s _ HSZ.out).mono ?_
  rintro e w2 ⟨rfl,k2⟩
  have hte:=HTE.out
  have HK2:=hid (HK.out.trans k2)
  clear k2
  obtain ⟨t,ht⟩:∃ t:ByteArray,t=⟨(Lib.trimS s.data.toList [48,49,50,51,52,53,54,55,56,57]).toArray⟩:=⟨_,rfl⟩
  rw [<- ht] at hte ⊢
  clear ht
  cases r
  all_goals
   try dsimp only
   go_wp2_with fail
   go_ret
   exact ⟨rfl,HK2.out⟩
end Go.Proofs.YtonnikipeokkaaaGreatDoor
