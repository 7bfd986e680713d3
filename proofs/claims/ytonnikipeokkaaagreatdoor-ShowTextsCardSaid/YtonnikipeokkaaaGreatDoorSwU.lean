/-
  Data that are written alike are the same: plain Lean, no pro
-/
import Derived.Test.YtonnikipeokkaaaGreatDoorSwR
import Derived.Test.YtonnikipeokkaaaGreatDoorPnMay
import Derived.Lib.RuneBytes
import Derived.Lib.MapLaws
namespace Go.Proofs.YtonnikipeokkaaaGreatDoor
open Go.Lib (hid)
open Go.RowKit Go.Lib
theorem gh {n:Nat} (h:n<256):(UInt8.ofNat n).toNat=n:=by
 simp only [UInt8.toNat_ofNat']
 omega
theorem va {c:Nat} (h:c<128):aI c=[UInt8.ofNat c]:=by unfold aI;rw [if_pos h]
theorem sf {c:Nat} (h:¬ c<128) (h2:c<1114112):∀ b ∈ aI c,128<=b.toNat:=by
 unfold aI
 rw [if_neg h]
 split
 ·intro b hb
  simp only [List.mem_cons,List.not_mem_nil,or_false] at hb
  rcases hb with rfl | rfl<;>rw [gh (by omega)]<;>omega
 ·split
  ·intro b hb
   simp only [List.mem_cons,List.not_mem_nil,or_false] at hb
   rcases hb with rfl | rfl | rfl<;>rw [gh (by omega)]<;>omega
  ·intro b hb
   simp only [List.mem_cons,List.not_mem_nil,or_false] at hb
   rcases hb with rfl | rfl | rfl | rfl<;>rw [gh (by omega)]<;>omega
theorem uF {c:Nat} (h:bn c=true):c<1114112:=by have:=of_decide_eq_true h;omega
theorem sL {c:Nat} (h:bn c=true):encodeRune (c:Int)=aI c:=by
 have hc:=of_decide_eq_true h
 unfold encodeRune aI
 by_cases c0:c<0x80
 ·rw [if_pos c0,encodeRuneZ_one (by omega) (by omega)]
  rfl
 rw [if_neg c0]
 by_cases c1:c<0x800
 ·rw [if_pos c1,encodeRuneZ_two (by omega) (by omega)]
  have e1:(192+(c:Int) / 64).toNat=0xC0+c / 64:=by omega
  have e2:(128+(c:Int) % 64).toNat=0x80+c % 64:=by omega
  simp only [List.map_cons,List.map_nil,e1,e2]
 rw [if_neg c1]
 by_cases c2:c<0x10000
 ·rw [if_pos c2,encodeRuneZ_three (by omega)]
  have e1:(224+(c:Int) / 4096).toNat=0xE0+c / 4096:=by omega
  have e2:(128+(c:Int) / 64 % 64).toNat=0x80+c / 64 % 64:=by omega
  have e3:(128+(c:Int) % 64).toNat=0x80+c % 64:=by omega
  simp only [List.map_cons,List.map_nil,e1,e2,e3]
 ·rw [if_neg c2,encodeRuneZ_four (by omega) (by omega)]
  have e1:(240+(c:Int) / 262144).toNat=0xF0+c / 262144:=by omega
  have e2:(128+(c:Int) / 4096 % 64).toNat=0x80+c / 4096 % 64:=by omega
  have e3:(128+(c:Int) / 64 % 64).toNat=0x80+c / 64 % 64:=by omega
  have e4:(128+(c:Int) % 64).toNat=0x80+c % 64:=by omega
  simp only [List.map_cons,List.map_nil,e1,e2,e3,e4]
theorem dL:∀ (m:Nat) (l:List UInt8) (r:List Nat),l.length<=m->au l=some r->r.flatMap aI=l /\ ∀ c ∈ r,bn c=true:=by
 intro m
 induction m with
 | zero=>
  intro l r h hr
  obtain rfl:l=[]:=List.eq_nil_of_length_eq_zero (by omega)
  rw [eU] at hr
  injection hr with hr
  subst hr
  exact ⟨rfl,fun c hc=>by cases hc⟩
 | succ m ih=>
  intro l r h hr
  by_cases hl:l=[]
  ·subst hl
   rw [eU] at hr
   injection hr with hr
   subst hr
   exact ⟨rfl,fun c hc=>by cases hc⟩
  ·rw [dx _ hl] at hr
   split at hr
   ·cases hr
   ·rename_i hg
    cases hx:au (l.drop (decodeL l).2) with
    | none=>rw [hx] at hr;cases hr
    | some q=>
     rw [hx] at hr
     injection hr with hr
     have hw:=bo hl
     obtain ⟨h1,h2⟩:=ih (l.drop (decodeL l).2) q (by rw [List.length_drop];omega) hx
     have hc:=jp l
     have he:=encode_decode l hl hg
     rw [sL hc] at he
     subst hr
     refine ⟨?_,fun c hm=>?_⟩
     ·rw [List.flatMap_cons,h1,he,List.take_append_drop]
     ·rcases List.mem_cons.1 hm with rfl | hm
      ·exact hc
      ·exact h2 c hm
end Go.Proofs.YtonnikipeokkaaaGreatDoor
