/-
  May a symbol stand as its bytes: the program's bare. (Printe
-/
import Derived.Test.YtonnikipeokkaaaGreatDoorSwY
import Derived.Test.YtonnikipeokkaaaGreatDoorSwR
import Derived.Test.YtonnikipeokkaaaGreatDoorSwU
namespace Go.Proofs.YtonnikipeokkaaaGreatDoor
set_option maxRecDepth 100000
set_option maxHeartbeats 8000000
open Go.Lib (hid)
open Go.RowKit Go.Lib
def iA (c:Nat):Bool:=decide (c<32) || c == 127
theorem ry (s:ByteArray):∀ (f pos:Nat) (rest:List Nat),au (s.data.toList.drop pos)=some rest->s.size<=pos+f->(idxFuncFrom iA true s f pos<0 ↔ rest.any iA=false):=by
 intro f
 induction f with
 | zero=>
  intro pos rest h hf
  have hz:s.data.toList.length=s.size:=(Lib.size_eq s).symm
  rw [List.drop_of_length_le (by omega)] at h
  injection h with h
  subst h
  unfold idxFuncFrom
  simp
 | succ f ih=>
  intro pos rest h hf
  have hz:s.data.toList.length=s.size:=(Lib.size_eq s).symm
  by_cases hp:pos<s.size
  ·obtain ⟨q,rfl,hq,_,hk⟩:=iT s pos rest hp h
   unfold idxFuncFrom
   rw [if_pos hp,List.any_cons]
   by_cases hc:iA (Utf8.decode s pos).1=true
   ·rw [if_pos hc,hc]
    simp
   ·rw [if_neg hc,ih _ q hq (by omega),Bool.not_eq_true _ |>.mp hc]
    simp
  ·rw [List.drop_of_length_le (by omega)] at h
   injection h with h
   subst h
   unfold idxFuncFrom
   rw [if_neg hp]
   simp
theorem vK {c:Nat} (hc:bn c=true):(aI c).any fy=iA c:=by
 by_cases h:c<128
 ·rw [va h,List.any_cons,List.any_nil,Bool.or_false]
  unfold fy iA
  rw [gh (by omega)]
  congr 1
  rw [Bool.eq_iff_iff,beq_iff_eq,beq_iff_eq]
  constructor
  ·intro e
   have:=congrArg UInt8.toNat e
   rw [gh (by omega)] at this
   exact this
  ·rintro rfl;rfl
 ·have h2:=sf h (uF hc)
  have e1:iA c=false:=by unfold iA;rw [dF (by omega),bF.2 (by omega)];rfl
  rw [e1,List.any_eq_false]
  intro b hb
  have:=h2 b hb
  unfold fy
  rw [dF (by omega),Bool.false_or]
  simp only [beq_iff_eq]
  rintro rfl
  revert this
  decide
theorem qK (s:ByteArray) (r:List Nat) (h:au s.data.toList=some r):(idxFunc iA true s<0) ↔ s.data.toList.any fy=false:=by
 obtain ⟨h1,h2⟩:=dL _ _ r (Nat.le_refl _) h
 have h3:s.data.toList.any fy=r.any iA:=by
  rw [<- h1]
  clear h h1
  induction r with
  | nil=>rfl
  | cons c r ih=>
   rw [List.flatMap_cons,List.any_append,List.any_cons,vK (h2 c (by simp)),ih (fun d hd=>h2 d (by simp [hd]))]
 rw [h3]
 exact ry s s.size 0 r (by rw [List.drop_zero];exact h) (by omega)
theorem tr (w:World):PredAt Tryz.prog 147 #[] encR iA w:=by
 intro W x _
 refine (eh (x:Int) W).mono ?_
 rintro e w' ⟨rfl,rfl⟩
 refine ⟨?_,0,rfl⟩
 unfold iA
 rw [show (decide ((x:Int)<32))=decide (x<32) from by rw [Bool.eq_iff_iff,decide_eq_true_iff,decide_eq_true_iff];omega,show ((x:Int) == 127)=(x == 127) from by rw [Bool.eq_iff_iff,beq_iff_eq,beq_iff_eq];omega]
theorem uu:∀ args w,(callFunc 147 args).run Tryz.prog w=.ok (.enter 147 args) w:=enters_of Tryz.func147 (by kernel_rfl) rfl
theorem un (s:ByteArray) (w:World):Calls Tryz.prog 149 #[.string s,.func (.func 147) #[] #[]] w fun e w'=>e=.returned (.int .i64 (idxFunc iA true s))/\K0 w w':=
 (Tryz.strings_IndexFunc 147 #[] uu iA s w (tr w)).mono fun _ _ h=>⟨h.1,ah.of_below h.2⟩
theorem nU (s:ByteArray) (w:World) (r:List Nat) (hr:au s.data.toList=some r) (hT:bE w):Calls Tryz.prog 111 #[.string s] w (BoolPost (dI s.data.toList) w):=by
 have HN:=hid (nx s 0 w hT)
 have HI:=hid (fun W:World=>un s W)
 have HRB:=hid (qK s r hr)
 obtain ⟨z,hz⟩:∃ z,z=idxFunc iA true s:=⟨_,rfl⟩
 rw [<- hz] at HI HRB
 obtain ⟨bv,hbv⟩:∃ b,b=dI s.data.toList:=⟨_,rfl⟩
 rw [<- hbv]
 have HBV:=hid hbv
 clear hbv hz hT hr
 go_enter Tryz.func111,Tryz.ntmps111
 go_wp2_with fail
 refine HN.out.mono ?_
 rintro e w2 hp
 cases hn:fX s.data.toList 0 with
 | error x=>
  rw [hn] at hp
  obtain ⟨p,q⟩:=x
  obtain ⟨rfl,k2⟩:=hp
  have HK2:=hid k2
  have HQ:=hid (show bv=false from by rw [HBV.out,nT hn])
  have hq0:=ln hn
  have q1:((q:Int) == 0)=false:=bF.2 (by omega)
  clear hn k2 hq0
  try dsimp only
  go_wp2_with fail
  go_ret
  exact ⟨by rw [HQ.out];rfl,HK2.out.alloc _⟩
 | ok y=>
  rw [hn] at hp
  obtain ⟨j,t⟩:=y
  obtain ⟨k,c,neg,A,n,cp,x,rfl,hl,k2⟩:=hp
  have hB:=pV hn hl
  generalize (t.kind:Int)=tk at hB ⊢
  generalize ((j+t.len:Nat):Int)=te at hB ⊢
  generalize (j:Int)=ta at hB ⊢
  generalize t.sq=tq
  have HB:=hid (show bv=(!s.data.toList.any fy && (tk == 9 && ta == 0 && te == (s.size:Int) && k == 6 && x.toList == s.toList)) from by rw [HBV.out,hB])
  have HK:=hid (k2.alloc (.cells ((tkC tk ta te tq k c neg A n cp x none 0 0)) 29))
  obtain ⟨⟨a0,a1,a2,a3,a4,a5,a6,a7,a8,a9⟩,_⟩:=ab (hN w2 (.cells ((tkC tk ta te tq k c neg A n cp x none 0 0)) 29))
  clear hB hn hl k2
  try dsimp only
  by_cases t0:ta=0
  ·have f0:(ta == 0)=true:=beq_iff_eq.2 t0
   clear t0
   by_cases t1:te=(s.size:Int)
   ·have f1:(te == (s.size:Int))=true:=beq_iff_eq.2 t1
    clear t1
    by_cases t2:tk=9
    ·have f2:(tk == 9)=true:=beq_iff_eq.2 t2
     clear t2
     by_cases t3:k=6
     ·have f3:(k == 6)=true:=beq_iff_eq.2 t3
      clear t3
      by_cases t4:x.toList=s.toList
      ·have f4:(x.toList == s.toList)=true:=beq_iff_eq.2 t4
       clear t4
       have HV:=hid (show bv=!s.data.toList.any fy from by rw [HB.out,f0,f1,f2,f3,f4];simp)
       go_wp2_with fail
       refine (HI.out _).mono ?_
       rintro e w3 ⟨rfl,k3⟩
       have HK3:=hid (HK.out.trans k3)
       clear k3
       by_cases hz0:z<0
       ·have HW:=hid (show bv=true from by rw [HV.out,HRB.out.1 hz0];rfl)
        try dsimp only
        go_wp2_with fail
        go_ret
        exact ⟨by rw [HW.out];rfl,HK3.out⟩
       ·have HW:=hid (show bv=false from by
         rw [HV.out]
         cases hra:s.data.toList.any fy with
         | true=>rfl
         | false=>exact absurd (HRB.out.2 hra) hz0)
        have z1:decide (z<0)=false:=dF hz0
        clear hz0
        try dsimp only
        go_wp2_with fail
        go_ret
        exact ⟨by rw [HW.out];rfl,HK3.out⟩
      ·have f4:(x.toList == s.toList)=false:=bF.2 t4
       have HV:=hid (show bv=false from by rw [HB.out,f4];simp)
       clear t4
       go_wp2_with fail
       go_ret
       exact ⟨by rw [HV.out];rfl,HK.out⟩
     ·have f3:(k == 6)=false:=bF.2 t3
      have HV:=hid (show bv=false from by rw [HB.out,f3];simp)
      clear t3
      go_wp2_with fail
      go_ret
      exact ⟨by rw [HV.out];rfl,HK.out⟩
    ·have f2:(tk == 9)=false:=bF.2 t2
     have HV:=hid (show bv=false from by rw [HB.out,f2];simp)
     clear t2
     go_wp2_with fail
     go_ret
     exact ⟨by rw [HV.out];rfl,HK.out⟩
   ·have f1:(te == (s.size:Int))=false:=bF.2 t1
    have HV:=hid (show bv=false from by rw [HB.out,f1];simp)
    clear t1
    go_wp2_with fail
    go_ret
    exact ⟨by rw [HV.out];rfl,HK.out⟩
  ·have f0:(ta == 0)=false:=bF.2 t0
   have HV:=hid (show bv=false from by rw [HB.out,f0];simp)
   clear t0
   go_wp2_with fail
   go_ret
   exact ⟨by rw [HV.out];rfl,HK.out⟩
end Go.Proofs.YtonnikipeokkaaaGreatDoor
