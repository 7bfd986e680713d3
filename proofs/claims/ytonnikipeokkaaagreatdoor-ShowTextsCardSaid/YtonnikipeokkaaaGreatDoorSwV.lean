/-
  Data that are written alike are the same: all data. Plain Le
-/
import Derived.Test.YtonnikipeokkaaaGreatDoorSwU
import Derived.Test.YtonnikipeokkaaaGreatDoorSwNum
namespace Go.Proofs.YtonnikipeokkaaaGreatDoor
open Go.Lib (hid)
open Go.RowKit Go.Lib
namespace Alike
inductive WellR:Raw->Prop
 | atom {k:Int} (h:k=0\/k=1\/k=2\/k=9\/k=10):WellR (.mk k 0 false [] ⟨#[]⟩ [])
 | chr {c:Nat} (h:bn c=true):WellR (.mk 3 (c:Int) false [] ⟨#[]⟩ [])
 | int {x:Int} (h:(aA x.natAbs).length<=48):WellR (.mk 4 0 (decide (x<0)) (aA x.natAbs) ⟨#[]⟩ [])
 | str {t:ByteArray} {r:List Nat} (h:au t.data.toList=some r) (hr:r.length<=62):WellR (.mk 5 0 false [] t [])
 | sym {t:ByteArray} {r:List Nat} (h:au t.data.toList=some r) (hr:r.length<=62) (h0:0<r.length):WellR (.mk 6 0 false [] t [])
 | pair {a d:Raw} (ha:WellR a) (hd:WellR d):WellR (.mk 7 0 false [] ⟨#[]⟩ [a,d])
 | vec {l:List Raw} (hl:l.length<=62) (h:∀ i (hi:i<l.length),WellR l[i]):WellR (.mk 8 0 false [] ⟨#[]⟩ l)
theorem bare_out {c1 c2 c4 c8:Bool} {r:Raw} (h:ar c1 c2 c4 c8 r=true):(c1=false->r.c=0)/\(c2=false->r.neg=false/\r.mag=[])/\(c4=false->r.t=⟨#[]⟩)/\(c8=false->r.l=[]):=by
 unfold ar at h
 rw [Bool.and_eq_true,Bool.and_eq_true,Bool.and_eq_true] at h
 obtain ⟨h1,h2,h3,h4⟩:=h
 refine ⟨?_,?_,?_,?_⟩
 ·rintro rfl;simpa using h1
 ·rintro rfl;simpa using h2
 ·rintro rfl;simpa using h3
 ·rintro rfl;simpa using h4
theorem text_out {t:List UInt8} {b:Bool} (h:fv (au t) b=true):∃ r,au t=some r/\r.length<=62/\(b=true->0<r.length):=by
 unfold fv at h
 split at h
 ·rename_i r e
  rw [Bool.and_eq_true] at h
  refine ⟨r,e,of_decide_eq_true h.1,?_⟩
  rintro rfl
  simpa using h.2
 ·cases h
mutual
theorem well_of:∀ r:Raw,aS r=true->WellR r
 | .mk k c neg mag t l,h=>by
  have hl:=wellL_of l
  rw [aS] at h
  split at h
  ·rename_i hk
   obtain ⟨h1,h2,h3,h4⟩:=bare_out h
   obtain rfl:c=0:=h1 rfl
   obtain ⟨rfl,rfl⟩:neg=false/\mag=[]:=h2 rfl
   obtain rfl:t=⟨#[]⟩:=h3 rfl
   obtain rfl:l=[]:=h4 rfl
   exact .atom hk
  split at h
  ·rename_i hk
   subst hk
   rw [Bool.and_eq_true] at h
   obtain ⟨h1,h2,h3,h4⟩:=bare_out h.1
   obtain ⟨rfl,rfl⟩:neg=false/\mag=[]:=h2 rfl
   obtain rfl:t=⟨#[]⟩:=h3 rfl
   obtain rfl:l=[]:=h4 rfl
   have hc:=h.2
   unfold gr at hc
   rw [Bool.and_eq_true] at hc
   obtain ⟨n,rfl⟩:=Int.eq_ofNat_of_zero_le (of_decide_eq_true hc.1)
   exact .chr hc.2
  split at h
  ·rename_i hk
   subst hk
   rw [Bool.and_eq_true] at h
   obtain ⟨h1,h2,h3,h4⟩:=bare_out h.1
   obtain rfl:c=0:=h1 rfl
   obtain rfl:t=⟨#[]⟩:=h3 rfl
   obtain rfl:l=[]:=h4 rfl
   obtain ⟨f,p,q⟩:=of_decide_eq_true h.2
   have e:Raw.mk 4 0 neg mag ⟨#[]⟩ []=.mk 4 0 (decide (ci neg mag<0)) (aA (ci neg mag).natAbs) ⟨#[]⟩ []:=by
    rw [<- p,dP,<- q]
   rw [e]
   exact .int f
  split at h
  ·rename_i hk
   subst hk
   rw [Bool.and_eq_true] at h
   obtain ⟨h1,h2,h3,h4⟩:=bare_out h.1
   obtain rfl:c=0:=h1 rfl
   obtain ⟨rfl,rfl⟩:neg=false/\mag=[]:=h2 rfl
   obtain rfl:l=[]:=h4 rfl
   obtain ⟨r,e,e1,_⟩:=text_out h.2
   exact .str e e1
  split at h
  ·rename_i hk
   subst hk
   rw [Bool.and_eq_true] at h
   obtain ⟨h1,h2,h3,h4⟩:=bare_out h.1
   obtain rfl:c=0:=h1 rfl
   obtain ⟨rfl,rfl⟩:neg=false/\mag=[]:=h2 rfl
   obtain rfl:l=[]:=h4 rfl
   obtain ⟨r,e,e1,e2⟩:=text_out h.2
   exact .sym e e1 (e2 rfl)
  split at h
  ·rename_i hk
   subst hk
   rw [Bool.and_eq_true,Bool.and_eq_true] at h
   obtain ⟨h1,h2,h3,h4⟩:=bare_out h.1.1
   obtain rfl:c=0:=h1 rfl
   obtain ⟨rfl,rfl⟩:neg=false/\mag=[]:=h2 rfl
   obtain rfl:t=⟨#[]⟩:=h3 rfl
   have h5:=hl h.2
   have h6:=of_decide_eq_true h.1.2
   match l,h6,h5 with
   | [a,d],_,h5=>exact .pair (h5 0 (by simp)) (h5 1 (by simp))
  split at h
  ·rename_i hk
   subst hk
   rw [Bool.and_eq_true,Bool.and_eq_true] at h
   obtain ⟨h1,h2,h3,h4⟩:=bare_out h.1.1
   obtain rfl:c=0:=h1 rfl
   obtain ⟨rfl,rfl⟩:neg=false/\mag=[]:=h2 rfl
   obtain rfl:t=⟨#[]⟩:=h3 rfl
   exact .vec (of_decide_eq_true h.1.2) (hl h.2)
  ·cases h
theorem wellL_of:∀ l:List Raw,bG l=true->∀ i (hi:i<l.length),WellR l[i]
 | [],_,_,hi=>absurd hi (Nat.not_lt_zero _)
 | x :: l,h,i,hi=>by
  rw [bG,Bool.and_eq_true] at h
  cases i with
  | zero=>exact well_of x h.1
  | succ i=>exact wellL_of l h.2 i (by simpa using hi)
end
end Alike
end Go.Proofs.YtonnikipeokkaaaGreatDoor
