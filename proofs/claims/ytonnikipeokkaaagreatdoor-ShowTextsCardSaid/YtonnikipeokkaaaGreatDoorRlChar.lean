/-
  The document's lex: char.
-/
import Derived.Test.YtonnikipeokkaaaGreatDoorRlText
import Derived.Test.YtonnikipeokkaaaGreatDoorRlNamed
import Derived.Test.YtonnikipeokkaaaGreatDoorLxChar
namespace Go.Proofs.YtonnikipeokkaaaGreatDoor
set_option maxRecDepth 100000
set_option maxHeartbeats 1500000
open Go.Lib (hid)
open Go.RowKit Go.Lib
def pZ (r:Except (Nat × Nat) Tk) (a:Nat) (w:World) (e:Ending) (w':World):Prop:=
 match r with
 | .ok t=>∃ (k c:Int) (neg:Bool) (A:Option Addr) (n cp:Nat) (x:ByteArray),e=.returned (.tuple #[aU t.kind a ((a+t.len:Nat):Int) t.sq k c neg A n cp x,.int .i64 0,.int .i64 0])/\dY w' t.d k c neg A n cp x/\K0 w w'
 | .error (p,c)=>e=.returned (.tuple #[.agg ag,.int .i64 ((a+p:Nat):Int),.int .i64 (c:Int)])/\K0 w w'
theorem np {t:List UInt8} {k x:Nat} (h1:1<=k) (hk:k<=t.length):au (t.take k)=some [x] ↔ decodeL t=(x,k)/\¬ (x=65533/\k=1):=by
 have hne:t.take k ≠ []:=by
  intro e
  have:=congrArg List.length e
  rw [List.length_take,Nat.min_eq_left hk] at this;simp only [List.length_nil] at this;omega
 have htne:t ≠ []:=by rintro rfl;simp at hk;omega
 have hlen:(t.take k).length=k:=by rw [List.length_take];omega
 constructor
 ·intro h
  rw [dx _ hne] at h
  split at h
  ·cases h
  ·rename_i hg
   cases hx:au ((t.take k).drop (decodeL (t.take k)).2) with
   | none=>rw [hx] at h;cases h
   | some u=>
    rw [hx] at h
    injection h with h
    injection h with h2 h3
    have hz:=(jT hx).1 (by rw [h3];rfl)
    have hz2:=congrArg List.length hz
    rw [List.length_drop,hlen] at hz2
    have hw:=bo hne
    rw [hlen] at hw
    have hwd:(decodeL (t.take k)).2=k:=by simp at hz2;omega
    have:=gX (z:=t) hne hg (by rw [hwd,List.take_take,Nat.min_self])
    rw [this]
    rw [hwd,h2] at hg
    exact ⟨Prod.ext h2 hwd,hg⟩
 ·rintro ⟨hd,hg⟩
  have:=gX (x:=t) (z:=t.take k) htne (by rw [hd];exact hg) (by rw [hd];simp [List.take_take])
  rw [dx _ hne,this,hd]
  simp only
  rw [if_neg hg,List.drop_of_length_le (by omega),eU]
  rfl
theorem md (n b0 b1 b2 b3:Nat):(decodeN n b0 b1 b2 b3).2<=4:=by
 unfold decodeN
 repeat' split
 all_goals simp
theorem me (x:List UInt8):(decodeL x).2<=4:=by rw [decodeL_N];exact md _ _ _ _ _
def mu (t:List UInt8) (k z c:Nat):Prop:=
 (z=0/\1<=k/\k<=5/\c=0 /\ ∀ j x,j<k->decodeL t=(x,j)->x=65533/\j=1) \/
 (1<=z/\z<=4/\z<=t.length/\k=z+1/\decodeL t=(c,z)/\¬ (c=65533/\z=1))
theorem mu.no {t:List UInt8} {k:Nat} (h:mu t k 0 0) (h1:¬ (k<=4/\k<=t.length)) (hne:t ≠ []):dN t=.error (0,9):=by
 rcases h with ⟨_,h2,h3,_,h4⟩ | ⟨h2,_⟩
 ·have hw:=bo hne
  have h5:=me t
  have:=h4 (decodeL t).2 (decodeL t).1 (by omega) rfl
  unfold dN gp
  rw [if_neg hne,if_pos this]
 ·omega
theorem mu.bad {t:List UInt8} {k:Nat} (h:mu t k 0 0) (hk:k<=4) (hl:k<=t.length) (h1:∀ x,au (t.take k) ≠ some [x]):mu t (k+1) 0 0:=by
 rcases h with ⟨_,h2,h3,_,h4⟩ | ⟨h2,_⟩
 ·refine .inl ⟨rfl,by omega,by omega,rfl,?_⟩
  intro j x hj hd
  by_cases hjk:j<k
  ·exact h4 j x hjk hd
  ·obtain rfl:j=k:=by omega
   by_cases hg:x=65533/\j=1
   ·exact hg
   ·exact absurd ((np h2 hl).2 ⟨hd,hg⟩) (h1 x)
 ·omega
theorem mu.good {t:List UInt8} {k x:Nat} (h:mu t k 0 0) (hk:k<=4) (hl:k<=t.length) (h1:au (t.take k)=some [x]):mu t (k+1) k x:=by
 rcases h with ⟨_,h2,h3,_,h4⟩ | ⟨h2,_⟩
 ·obtain ⟨hd,hg⟩:=(np h2 hl).1 h1
  exact .inr ⟨h2,hk,hl,rfl,hd,hg⟩
 ·omega
theorem wh:dN []=.error (0,11):=rfl
section
variable {t:List UInt8} {c z M:Nat} (hne:t ≠ []) (hd:decodeL t=(c,z)) (hg:¬ (c=65533/\z=1)) (hM:M=((t.drop z).takeWhile (fun b=>!aX b)).length)
include hne hd hg hM
theorem we (h0:M=0):dN t=.ok ⟨9,2+(z+M),false,.chr c⟩:=by
 subst h0
 unfold dN gp
 rw [if_neg hne,hd,if_neg hg]
 simp only
 rw [if_pos hM.symm]
 rfl
theorem uG (h0:¬ M=0) {v:Nat} (hv:aN (t.take (z+M))=some v):dN t=.ok ⟨9,2+(z+M),false,.chr v⟩:=by
 unfold dN gp
 rw [if_neg hne,hd,if_neg hg]
 simp only
 rw [<- hM,if_neg h0,hv]
theorem wg (h0:¬ M=0) (hv:aN (t.take (z+M))=none) (hc:c=120) {r:Nat} (hx:df ((t.drop z).take M)=some r):dN t=.ok ⟨9,2+(z+M),false,.chr r⟩:=by
 unfold dN gp
 rw [if_neg hne,hd,if_neg hg]
 simp only
 rw [<- hM,if_neg h0,hv]
 simp only
 rw [if_pos hc,hx]
theorem rR (h0:¬ M=0) (hv:aN (t.take (z+M))=none) (hc:c=120) (hx:df ((t.drop z).take M)=none):dN t=.error (0,9):=by
 unfold dN gp
 rw [if_neg hne,hd,if_neg hg]
 simp only
 rw [<- hM,if_neg h0,hv]
 simp only
 rw [if_pos hc,hx]
theorem xv (h0:¬ M=0) (hv:aN (t.take (z+M))=none) (hc:¬ c=120):dN t=.error (0,9):=by
 unfold dN gp
 rw [if_neg hne,hd,if_neg hg]
 simp only
 rw [<- hM,if_neg h0,hv]
 simp only
 rw [if_neg hc]
end
theorem uc {l:List UInt8} {v:Nat} (h:aN l=some v):v<=127:=by
 unfold aN at h
 repeat (split at h;· (injection h with h;omega))
 cases h
theorem qI (s:ByteArray) (a:Nat) (w:World) (ha:a+2<=s.size) (hs:s.size<=1000000) :
 Calls Tryz.prog 40 #[.string s,.int .i64 (a:Int)] w (pZ (dN (s.data.toList.drop (a+2))) a w):=by
 have hz:s.data.toList.length=s.size:=(Lib.size_eq s).symm
 have hb:(w.alloc (.cells ag 29)).heap[w.heap.size]? = some (.cells ag 29 (0,0)):=hN w _
 have HB1:=hid hb
 have HK1:=hid (show K0 w (w.alloc (.cells ag 29)) from kR.alloc _)
 clear hb
 by_cases hge:s.size<=a+2
 ·have e0:decide ((s.size:Int)<=(a:Int)+2)=true:=dT (by omega)
  have HX:=hid (show s.data.toList.drop (a+2)=[] from List.drop_of_length_le (by omega))
  clear hge hz
  go_enter Tryz.func40,Tryz.ntmps40
  go_wp2_with fail
  refine bodyPost_ret (v:=.tuple #[.agg ag,.int .i64 (a:Int),.int .i64 11]) (by simp [results,Tryz.results40,go_sem]) rfl ?_
  rw [HX.out,wh]
  exact ⟨rfl,kR.alloc _⟩
 have hlt:a+2<s.size:=by omega
 clear hge
 have e0:decide ((s.size:Int)<=(a:Int)+2)=false:=dF (by omega)
 have HEXT:=hid (fun (i j:Nat)=>show (s.extract i j).data.toList=(s.data.toList.drop i).take (j - i) from Lib.extract_data s i j)
 have HEND:=hid (fun (m:Nat) (w:World)=>nD s m w)
 have HRN:=hid (fun (k:Nat) (w:World)=>bU (s.extract (a+2) (a+2+k)) w (by rw [Lib.size_eq,Lib.extract_data,List.length_take,List.length_drop];omega))
 obtain ⟨t,ht⟩:∃ t,t=s.data.toList.drop (a+2):=⟨_,rfl⟩
 have hR:∀ k,(s.extract (a+2) (a+2+k)).data.toList=t.take k:=fun k=>by rw [Lib.extract_data,<- ht,show a+2+k - (a+2)=k by omega]
 have HR0:=hid hR
 have HNE:=hid (show t ≠ [] by rw [ht,ap (by omega)];simp)
 have HTL:=hid (show t.length+(a+2)=s.size by rw [ht,List.length_drop];omega)
 have HT:=hid ht
 have HZ:=hid hz
 rw [<- ht]
 clear ht hR hz
 go_enter Tryz.func40,Tryz.ntmps40
 go_wp2_with fail
 go_loopw [7,8,9] (fun zv cv kv wr=>∃ k z c:Nat,zv=.int .i64 (z:Int)/\cv=.int .i32 (c:Int)/\kv=.int .i64 (k:Int)/\mu t k z c/\k<=5/\K0 (w.alloc (.cells ag 29)) wr) (fun _ _ kv _=>6 - (intOf kv).toNat)
 case atStart=>exact ⟨1,0,0,rfl,rfl,rfl,.inl ⟨rfl,by omega,by omega,rfl,fun j x hj hd=>by have:=bo HNE.out;rw [hd] at this;have:=this.1;simp only at this;omega⟩,by omega,kR⟩
 case round=>
  obtain ⟨k,z,c,rfl,rfl,rfl,hst,hk5,hkeep⟩:=hrel
  have HST:=hid hst
  have HKW:=hid hkeep
  clear hkeep
  by_cases hz0:z=0
  ·subst hz0
   obtain rfl:c=0:=by
    rcases hst with ⟨_,_,_,h,_⟩ | ⟨h,_⟩
    ·exact h
    ·omega
   have hk1:1<=k:=by
    rcases hst with ⟨_,h,_,_,_⟩ | ⟨h,_⟩
    ·exact h
    ·omega
   clear hst
   by_cases hin:k<=4/\a+2+k<=s.size
   ·obtain ⟨hk4,hks⟩:=hin
    have d0:decide ((k:Int)<=4)=true:=dT (by omega)
    have d1:decide ((a:Int)+2+(k:Int)<=(s.size:Int))=true:=dT (by omega)
    have HKL:=hid (show k<=t.length by have:=HTL.out;omega)
    go_wp2_with fail
    refine (HRN.out k _).mono ?_
    intro e w2 hres
    unfold aE at hres
    rw [HR0.out] at hres
    cases hR:au (t.take k) with
    | none=>
     rw [hR] at hres
     obtain ⟨rfl,k2⟩:=hres
     have HN:=hid (HST.out.bad hk4 HKL.out (fun x h=>by rw [hR] at h;cases h))
     have HK2:=hid (HKW.out.trans k2)
     clear k2 hR
     go_wp2_with fail
     go_roundw
     case rel=>exact ⟨k+1,0,0,rfl,rfl,by go_num,HN.out,by omega,HK2.out⟩
     case measure=>simp [intOf];omega
    | some r=>
     rw [hR] at hres
     obtain ⟨A,cp,rfl,own,k2⟩:=hres
     have HK2:=hid (HKW.out.trans k2)
     clear k2
     by_cases hr1:r.length=1
     ·obtain ⟨x,rfl⟩:∃ x,r=[x]:=List.length_eq_one_iff.1 hr1
      have HN:=hid (HST.out.good hk4 HKL.out hR)
      obtain ⟨bb,off,rfl,_,hcell⟩:=own.row.2 0 (by simp)
      have hcp:=own.cap
      rw [Nat.add_zero] at hcell
      have hcell:w2.cell? ⟨bb,off,none⟩=some (.int .i32 (x:Int)):=hcell
      clear own hR hr1
      try dsimp only [List.length_cons,List.length_nil] at hcp ⊢
      go_wp2_with fail
      go_roundw
      case rel=>exact ⟨k+1,k,x,rfl,rfl,by go_num,HN.out,by omega,HK2.out⟩
      case measure=>simp [intOf];omega
     ·have HN:=hid (HST.out.bad hk4 HKL.out (fun x h=>by rw [hR] at h;injection h with h;rw [h] at hr1;exact hr1 rfl))
      obtain ⟨n,hn⟩:∃ n:Nat,n=r.length:=⟨_,rfl⟩
      rw [<- hn] at hr1 ⊢
      have d3:((n:Int) == 1)=false:=by simp only [bF,ne_eq];omega
      clear own hR hn hr1
      go_wp2_with fail
      go_roundw
      case rel=>exact ⟨k+1,0,0,rfl,rfl,by go_num,HN.out,by omega,HK2.out⟩
      case measure=>simp [intOf];omega
   ·have HN:=hid (HST.out.no (by have:=HTL.out;omega) HNE.out)
    have HB2:=hid (HKW.out.heap HB1.out (by simp))
    have HK2:=hid (HK1.out.trans HKW.out)
    have hq:decide ((k:Int)<=4)=false\/(decide ((k:Int)<=4)=true/\decide ((a:Int)+2+(k:Int)<=(s.size:Int))=false):=by
     by_cases h:k<=4
     ·exact .inr ⟨dT (by omega),dF (by omega)⟩
     ·exact .inl (dF (by omega))
    clear hin
    rcases hq with d0 | ⟨d0,d1⟩
    all_goals
     obtain ⟨⟨c0,c1,c2,c3,c4,c5,c6,c7,c8,c9⟩,f0,f1,f2,f3,f4,f5,f6,f7,f8,f9⟩:=ab HB2.out
     have HE:=hid (af HK2.out (Nat.le_refl _) (.int .i64 0) (.int .i64 0) (.int .i64 0) (.bool false) (.int .i64 0) (.int .i32 0) (.bool false) (.slice none 0 0) (.string ⟨#[]⟩) (.slice none 0 0))
     have HR:=hid (ab (ac HB2.out (.int .i64 0) (.int .i64 0) (.int .i64 0) (.bool false) (.int .i64 0) (.int .i32 0) (.bool false) (.slice none 0 0) (.string ⟨#[]⟩) (.slice none 0 0))).1
     go_wp2_with fail
     refine bodyPost_ret (v:=.tuple #[.agg ag,.int .i64 (a:Int),.int .i64 9]) ?_ rfl ?_
     ·obtain ⟨e0,e1,e2,e3,e4,e5,e6,e7,e8,e9⟩:=HR.out
      simp [results,Tryz.results40,go_sem,e0,e1,e2,e3,e4,e5,e6,e7,e8,e9]
     ·rw [HN.out]
      exact ⟨rfl,HE.out⟩
  ·obtain ⟨hz1,hz4,hzt,hkz,hd,hg⟩:1<=z/\z<=4/\z<=t.length/\k=z+1/\decodeL t=(c,z)/\¬ (c=65533/\z=1):=by
    rcases hst with ⟨h,_⟩ | h
    ·exact absurd h hz0
    ·exact h
   have HD:=hid hd
   have HG:=hid hg
   have hzs:a+2+z<=s.size:=by have:=HTL.out;omega
   have HB2:=hid (HKW.out.heap HB1.out (by simp))
   have HK2:=hid (HK1.out.trans HKW.out)
   have hq:decide ((k:Int)<=4)=false\/(decide ((k:Int)<=4)=true/\decide ((a:Int)+2+(k:Int)<=(s.size:Int))=false)\/(decide ((k:Int)<=4)=true/\decide ((a:Int)+2+(k:Int)<=(s.size:Int))=true):=by
    by_cases h:k<=4
    ·by_cases h2:a+2+k<=s.size
     ·exact .inr (.inr ⟨dT (by omega),dT (by omega)⟩)
     ·exact .inr (.inl ⟨dT (by omega),dF (by omega)⟩)
    ·exact .inl (dF (by omega))
   have zz:((z:Int) == 0)=false:=by simp only [bF,ne_eq];omega
   clear hst hd hg hz0 hkz hzt
   rcases hq with d0 | ⟨d0,d1⟩ | ⟨d0,d1⟩
   all_goals
    go_wp2_with fail
    go_loop [12] (fun ev=>∃ m:Nat,a+2+z<=m/\m<=s.size/\ev=.int .i64 (m:Int)/\bS (fun b=>!aX b) s.data.toList m=bS (fun b=>!aX b) s.data.toList (a+2+z)) (fun ev=>s.size - (intOf ev).toNat)
    case atStart=>exact ⟨a+2+z,Nat.le_refl _,hzs,by go_num,rfl⟩
    case round=>
     obtain ⟨E,hE1,hE2,rfl,hsc⟩:=hrel
     have HSC:=hid hsc
     clear hsc
     go_wp2_with fail
     refine (HEND.out E _).mono ?_
     rintro e w7 ⟨rfl,rfl⟩
     obtain ⟨q,hq⟩:∃ q,q=(decide (s.size<=E) || aX (s.data.toList.getD E 0)):=⟨_,rfl⟩
     rw [<- hq]
     cases q with
     | false=>
      have hES:E<s.size/\aX (s.data.toList.getD E 0)=false:=by
       have:=hq.symm
       rw [Bool.or_eq_false_iff] at this
       exact ⟨by have:=of_decide_eq_false this.1;omega,this.2⟩
      obtain ⟨hlt2,hdl⟩:=hES
      have HDL:=hid hdl
      clear hq hdl
      go_wp2_with fail
      go_round
      case rel=>exact ⟨E+1,by omega,by omega,by go_num,(dA (by rw [HZ.out];exact hlt2) (by rw [HDL.out];rfl)).trans HSC.out⟩
      case measure=>simp [intOf];omega
     | true=>
      have hstop:bS (fun b=>!aX b) s.data.toList E=E:=by
       have:=hq.symm
       rw [Bool.or_eq_true] at this
       by_cases h:E<s.size
       ·rcases this with h2 | h2
        ·have:=of_decide_eq_true h2;omega
        ·exact eM (by rw [HZ.out];exact h) (by rw [h2];rfl)
       ·have:E=s.data.toList.length:=by rw [HZ.out];omega
        rw [this]
        exact gd (Nat.le_refl _)
      have hEM:E=a+2+z+((t.drop z).takeWhile (fun b=>!aX b)).length:=by
       rw [<- hstop,HSC.out,HT.out,List.drop_drop];rfl
      obtain ⟨M,hM⟩:∃ M,M=((t.drop z).takeWhile (fun b=>!aX b)).length:=⟨_,rfl⟩
      rw [<- hM] at hEM
      have HM:=hid hM
      have HEM:=hid hEM
      have HEQ:=hid (show E=a+(2+(z+M)) by omega)
      have htail:(s.extract (a+2+z) E).data.toList=(t.drop z).take M:=by rw [HEXT.out,HT.out,List.drop_drop,show E - (a+2+z)=M by omega]
      have hword:(s.extract (a+2) E).data.toList=t.take (z+M):=by rw [HEXT.out,HT.out,show E - (a+2)=z+M by omega]
      have HTAIL:=hid htail
      have HWORD:=hid hword
      have HXZ:=hid (show (s.extract (a+2+z) E).size<=1000000 by rw [Lib.size_eq,htail,List.length_take];omega)
      clear hq hstop hM hEM htail hword
      by_cases hM0:M=0
      ·have d5:decide ((a:Int)+2+(z:Int)<(E:Int))=false:=dF (by have:=HEQ.out;omega)
       have HF:=hid (we HNE.out HD.out HG.out HM.out hM0)
       clear hM0
       obtain ⟨⟨c0,c1,c2,c3,c4,c5,c6,c7,c8,c9⟩,f0,f1,f2,f3,f4,f5,f6,f7,f8,f9⟩:=ab HB2.out
       have HE:=hid (af HK2.out (Nat.le_refl _) (.int .i64 9) (.int .i64 (a:Int)) (.int .i64 (E:Int)) (.bool false) (.int .i64 3) (.int .i32 (c:Int)) (.bool false) (.slice none 0 0) (.string ⟨#[]⟩) (.slice none 0 0))
       have HR:=hid (ab (ac HB2.out (.int .i64 9) (.int .i64 (a:Int)) (.int .i64 (E:Int)) (.bool false) (.int .i64 3) (.int .i32 (c:Int)) (.bool false) (.slice none 0 0) (.string ⟨#[]⟩) (.slice none 0 0))).1
       try dsimp only
       go_wp2_with fail
       refine bodyPost_ret (v:=.tuple #[aU 9 (a:Int) (E:Int) false 3 (c:Int) false none 0 0 ⟨#[]⟩,.int .i64 0,.int .i64 0]) ?_ rfl ?_
       ·obtain ⟨e0,e1,e2,e3,e4,e5,e6,e7,e8,e9⟩:=HR.out
        simp [results,Tryz.results40,go_sem,e0,e1,e2,e3,e4,e5,e6,e7,e8,e9]
       ·rw [HF.out]
        exact ⟨3,_,false,none,0,0,⟨#[]⟩,by rw [HEQ.out];rfl,⟨rfl,rfl,rfl,rfl,rfl,rfl,rfl⟩,HE.out⟩
      ·have d5:decide ((a:Int)+2+(z:Int)<(E:Int))=true:=dT (by have:=HEQ.out;omega)
       have HM0:=hid hM0
       clear hM0
       go_wp2_with fail
       refine (mZ (s.extract (a+2+z) E) _ HXZ.out).mono ?_
       rintro e w8 ⟨r0,hr0,rfl,hr,rfl⟩
       rw [HTAIL.out] at hr ⊢
       obtain ⟨ho,hho⟩:∃ ho,ho=df ((t.drop z).take M):=⟨_,rfl⟩
       rw [<- hho] at hr ⊢
       have HHO:=hid hho
       have HR2:=hid hr
       clear hho hr
       go_wp2_with fail
       refine (oB (s.extract (a+2) E) _).mono ?_
       rintro e w8 ⟨rfl,k8⟩
       have HB8:=hid (k8.heap HB2.out (by simp))
       have HK8:=hid (HK2.out.trans k8)
       clear k8
       rw [HWORD.out]
       unfold cC
       cases hv:aN (t.take (z+M)) with
       | some v=>
        have hv127:=uc hv
        have HF:=hid (uG HNE.out HD.out HG.out HM.out HM0.out hv)
        have b0:decide ((0:Int)<=(v:Int))=true:=dT (by omega)
        have b1:(v:Int)<=127:=by omega
        have b2:(0:Int)<=(v:Int):=by omega
        clear hv hv127 hr0
        try dsimp only
        obtain ⟨⟨c0,c1,c2,c3,c4,c5,c6,c7,c8,c9⟩,f0,f1,f2,f3,f4,f5,f6,f7,f8,f9⟩:=ab HB8.out
        have HE:=hid (af HK8.out (Nat.le_refl _) (.int .i64 9) (.int .i64 (a:Int)) (.int .i64 (E:Int)) (.bool false) (.int .i64 3) (.int .i32 (v:Int)) (.bool false) (.slice none 0 0) (.string ⟨#[]⟩) (.slice none 0 0))
        have HR:=hid (ab (ac HB8.out (.int .i64 9) (.int .i64 (a:Int)) (.int .i64 (E:Int)) (.bool false) (.int .i64 3) (.int .i32 (v:Int)) (.bool false) (.slice none 0 0) (.string ⟨#[]⟩) (.slice none 0 0))).1
        try dsimp only
        go_wp2_with fail
        refine bodyPost_ret (v:=.tuple #[aU 9 (a:Int) (E:Int) false 3 (v:Int) false none 0 0 ⟨#[]⟩,.int .i64 0,.int .i64 0]) ?_ rfl ?_
        ·obtain ⟨e0,e1,e2,e3,e4,e5,e6,e7,e8,e9⟩:=HR.out
         simp [results,Tryz.results40,go_sem,e0,e1,e2,e3,e4,e5,e6,e7,e8,e9]
        ·rw [HF.out]
         exact ⟨3,_,false,none,0,0,⟨#[]⟩,by rw [HEQ.out];rfl,⟨rfl,rfl,rfl,rfl,rfl,rfl,rfl⟩,HE.out⟩
       | none=>
        have HV:=hid hv
        clear hv
        try dsimp only
        by_cases hc:c=120
        ·have e120:((c:Int) == 120)=true:=by simp;omega
         have HC:=hid hc
         clear hc
         cases ho with
         | some r=>
          obtain rfl:=HR2.out r rfl
          have HF:=hid (wg HNE.out HD.out HG.out HM.out HM0.out HV.out HC.out HHO.out.symm)
          clear hr0
          try dsimp only [Option.isSome]
          obtain ⟨⟨c0,c1,c2,c3,c4,c5,c6,c7,c8,c9⟩,f0,f1,f2,f3,f4,f5,f6,f7,f8,f9⟩:=ab HB8.out
          have HE:=hid (af HK8.out (Nat.le_refl _) (.int .i64 9) (.int .i64 (a:Int)) (.int .i64 (E:Int)) (.bool false) (.int .i64 3) (.int .i32 (r:Int)) (.bool false) (.slice none 0 0) (.string ⟨#[]⟩) (.slice none 0 0))
          have HR:=hid (ab (ac HB8.out (.int .i64 9) (.int .i64 (a:Int)) (.int .i64 (E:Int)) (.bool false) (.int .i64 3) (.int .i32 (r:Int)) (.bool false) (.slice none 0 0) (.string ⟨#[]⟩) (.slice none 0 0))).1
          try dsimp only
          go_wp2_with fail
          refine bodyPost_ret (v:=.tuple #[aU 9 (a:Int) (E:Int) false 3 (r:Int) false none 0 0 ⟨#[]⟩,.int .i64 0,.int .i64 0]) ?_ rfl ?_
          ·obtain ⟨e0,e1,e2,e3,e4,e5,e6,e7,e8,e9⟩:=HR.out
           simp [results,Tryz.results40,go_sem,e0,e1,e2,e3,e4,e5,e6,e7,e8,e9]
          ·rw [HF.out]
           exact ⟨3,_,false,none,0,0,⟨#[]⟩,by rw [HEQ.out];rfl,⟨rfl,rfl,rfl,rfl,rfl,rfl,rfl⟩,HE.out⟩
         | none=>
          have HF:=hid (rR HNE.out HD.out HG.out HM.out HM0.out HV.out HC.out HHO.out.symm)
          clear hr0
          try dsimp only [Option.isSome]
          obtain ⟨⟨c0,c1,c2,c3,c4,c5,c6,c7,c8,c9⟩,f0,f1,f2,f3,f4,f5,f6,f7,f8,f9⟩:=ab HB8.out
          have HE:=hid (af HK8.out (Nat.le_refl _) (.int .i64 0) (.int .i64 0) (.int .i64 0) (.bool false) (.int .i64 0) (.int .i32 0) (.bool false) (.slice none 0 0) (.string ⟨#[]⟩) (.slice none 0 0))
          have HR:=hid (ab (ac HB8.out (.int .i64 0) (.int .i64 0) (.int .i64 0) (.bool false) (.int .i64 0) (.int .i32 0) (.bool false) (.slice none 0 0) (.string ⟨#[]⟩) (.slice none 0 0))).1
          go_wp2_with fail
          refine bodyPost_ret (v:=.tuple #[.agg ag,.int .i64 (a:Int),.int .i64 9]) ?_ rfl ?_
          ·obtain ⟨e0,e1,e2,e3,e4,e5,e6,e7,e8,e9⟩:=HR.out
           simp [results,Tryz.results40,go_sem,e0,e1,e2,e3,e4,e5,e6,e7,e8,e9]
          ·rw [HF.out]
           exact ⟨rfl,HE.out⟩
        ·have e120:((c:Int) == 120)=false:=by simp;omega
         have HF:=hid (xv HNE.out HD.out HG.out HM.out HM0.out HV.out hc)
         clear hc hr0
         obtain ⟨q,hq⟩:∃ q,q=ho.isSome:=⟨_,rfl⟩
         rw [<- hq]
         clear hq
         cases q
         all_goals
          try dsimp only
          obtain ⟨⟨c0,c1,c2,c3,c4,c5,c6,c7,c8,c9⟩,f0,f1,f2,f3,f4,f5,f6,f7,f8,f9⟩:=ab HB8.out
          have HE:=hid (af HK8.out (Nat.le_refl _) (.int .i64 0) (.int .i64 0) (.int .i64 0) (.bool false) (.int .i64 0) (.int .i32 0) (.bool false) (.slice none 0 0) (.string ⟨#[]⟩) (.slice none 0 0))
          have HR:=hid (ab (ac HB8.out (.int .i64 0) (.int .i64 0) (.int .i64 0) (.bool false) (.int .i64 0) (.int .i32 0) (.bool false) (.slice none 0 0) (.string ⟨#[]⟩) (.slice none 0 0))).1
          go_wp2_with fail
          refine bodyPost_ret (v:=.tuple #[.agg ag,.int .i64 (a:Int),.int .i64 9]) ?_ rfl ?_
          ·obtain ⟨e0,e1,e2,e3,e4,e5,e6,e7,e8,e9⟩:=HR.out
           simp [results,Tryz.results40,go_sem,e0,e1,e2,e3,e4,e5,e6,e7,e8,e9]
          ·rw [HF.out]
           exact ⟨rfl,HE.out⟩
end Go.Proofs.YtonnikipeokkaaaGreatDoor
