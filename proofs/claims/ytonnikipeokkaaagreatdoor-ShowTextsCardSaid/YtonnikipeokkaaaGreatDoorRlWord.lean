/-
  The document's lex: word.
-/
import Derived.Test.YtonnikipeokkaaaGreatDoorRlChar
import Derived.Test.YtonnikipeokkaaaGreatDoorN3
namespace Go.Proofs.YtonnikipeokkaaaGreatDoor
set_option maxRecDepth 100000
set_option maxHeartbeats 3000000
open Go.Lib (hid)
open Go.RowKit Go.Lib
theorem rD:dG 0:=by unfold dG aA;rw [show (0:Int).natAbs=0 from rfl,bi];exact Nat.zero_le _
theorem vO (w:World):Calls Tryz.prog 68 #[al false none 0 0] w fun e w'=>K0 w w'/\∃ (z:Bool) (A:Option Addr) (n c:Nat),e=.returned (.tuple #[al z A n c,.int .i64 0]):=by
 refine (lX 0 none 0 0 w ⟨?_,?_,Nat.le_refl _,Nat.zero_le _⟩).mono ?_
 ·unfold ai;rw [show (0:Int).natAbs=0 from rfl,bi];exact cT.nil _ _ _
 ·unfold ai;rw [show (0:Int).natAbs=0 from rfl,bi];exact Low.nil 2
 ·intro e w' h
  obtain ⟨k,A,n,c,he,_⟩:=h.fits rD
  exact ⟨k,_,A,n,c,he⟩
section
variable {W:List UInt8}
theorem wI (h:W=[46]):de W=.ok ⟨8,W.length,false,.no⟩:=by unfold de fs;rw [if_pos h]
theorem yb (h0:¬ W=[46]) (h:W=[35,116]\/W=[35,116,114,117,101]):de W=.ok ⟨9,W.length,false,.tru⟩:=by unfold de fs;rw [if_neg h0,if_pos h]
theorem yd (h0:¬ W=[46]) (h1:¬ (W=[35,116]\/W=[35,116,114,117,101])) (h:W=[35,102]\/W=[35,102,97,108,115,101]):de W=.ok ⟨9,W.length,false,.fls⟩:=by unfold de fs;rw [if_neg h0,if_neg h1,if_pos h]
theorem se (h0:¬ W=[46]) (h1:¬ (W=[35,116]\/W=[35,116,114,117,101])) (h2:¬ (W=[35,102]\/W=[35,102,97,108,115,101])) (h:W.head? = some 35):de W=.error (0,9):=by unfold de fs;rw [if_neg h0,if_neg h1,if_neg h2,if_pos h]
theorem wH (h0:¬ W=[46]) (h1:¬ (W=[35,116]\/W=[35,116,114,117,101])) (h2:¬ (W=[35,102]\/W=[35,102,97,108,115,101])) (h:¬ W.head? = some 35) {x:Int} (hp:aJ W=some x) (hf:dG x):de W=.ok ⟨9,W.length,false,.int x⟩:=by unfold de fs;rw [if_neg h0,if_neg h1,if_neg h2,if_neg h,hp];simp only;rw [if_pos (show (aA x.natAbs).length<=48 from hf)]
theorem wJ (h0:¬ W=[46]) (h1:¬ (W=[35,116]\/W=[35,116,114,117,101])) (h2:¬ (W=[35,102]\/W=[35,102,97,108,115,101])) (h:¬ W.head? = some 35) {x:Int} (hp:aJ W=some x) (hf:¬ dG x):de W=.error (0,6):=by unfold de fs;rw [if_neg h0,if_neg h1,if_neg h2,if_neg h,hp];simp only;rw [if_neg (show ¬ (aA x.natAbs).length<=48 from hf)]
theorem wG (h0:¬ W=[46]) (h1:¬ (W=[35,116]\/W=[35,116,114,117,101])) (h2:¬ (W=[35,102]\/W=[35,102,97,108,115,101])) (h:¬ W.head? = some 35) (hp:aJ W=none) {d:ig} (hd:cA true W=.ok d):de W=.ok ⟨9,W.length,false,d⟩:=by unfold de fs;rw [if_neg h0,if_neg h1,if_neg h2,if_neg h,hp];simp only;rw [hd]
theorem yc (h0:¬ W=[46]) (h1:¬ (W=[35,116]\/W=[35,116,114,117,101])) (h2:¬ (W=[35,102]\/W=[35,102,97,108,115,101])) (h:¬ W.head? = some 35) (hp:aJ W=none) {q:Nat} (hd:cA true W=.error q):de W=.error (0,q):=by unfold de fs;rw [if_neg h0,if_neg h1,if_neg h2,if_neg h,hp];simp only;rw [hd]
end
theorem mG {W:List UInt8} {sym:Bool} {q:Nat} (h:cA sym W=.error q):q=9\/q=6:=by
 unfold cA at h
 split at h
 ·injection h with h;exact .inl h.symm
 split at h
 ·injection h with h;exact .inl h.symm
 split at h
 ·injection h with h;exact .inr h.symm
 ·cases h
theorem ql (s:ByteArray) (a:Nat) (w:World) (ha:a<=s.size) (hs:s.size<=1000000) (hne:(s.data.toList.drop a).takeWhile bh ≠ []) :
 Calls Tryz.prog 41 #[.string s,.int .i64 (a:Int)] w (pZ (de ((s.data.toList.drop a).takeWhile bh)) a w):=by
 have hz:s.data.toList.length=s.size:=(Lib.size_eq s).symm
 have hb:(w.alloc (.cells ag 29)).heap[w.heap.size]? = some (.cells ag 29 (0,0)):=hN w _
 have HB1:=hid hb
 have HK1:=hid (show K0 w (w.alloc (.cells ag 29)) from kR.alloc _)
 have HEND:=hid (fun (m:Nat) (w:World)=>nD s m w)
 have HAT:=hid (fun (k:Nat) (hk:k<s.size)=>aK s k (by rw [hz];exact hk) _ rfl)
 have hw:=jE s a w ha
 obtain ⟨W,hW⟩:∃ W,W=(s.data.toList.drop a).takeWhile bh:=⟨_,rfl⟩
 rw [<- hW] at hw hne ⊢
 have HNE:=hid hne
 have HW:=hid hw
 have HZ:=hid hz
 clear hb hW hw hne hz
 go_enter Tryz.func41,Tryz.ntmps41
 go_wp2_with fail
 generalize w.alloc (.cells ag 29)=w1 at *
 go_loop [7] (fun ev=>∃ m:Nat,a<=m/\m<=s.size/\ev=.int .i64 (m:Int)/\bS bh s.data.toList m=bS bh s.data.toList a) (fun ev=>s.size - (intOf ev).toNat)
 case atStart=>exact ⟨a,Nat.le_refl _,ha,rfl,rfl⟩
 case round=>
  obtain ⟨E,hE1,hE2,rfl,hsc⟩:=hrel
  have HSC:=hid hsc
  clear hsc
  by_cases hgo:E<s.size/\bh (s.data.toList.getD E 0)=true
  ·obtain ⟨hlt,hwb⟩:=hgo
   have hx:=HAT.out E hlt
   have HWB:=hid hwb
   unfold bh at hwb
   rw [Bool.and_eq_true] at hwb
   have hd:(decide (s.size<=E) || aX (s.data.toList.getD E 0))=false:=by
    rw [Bool.or_eq_false_iff]
    exact ⟨dF (by omega),by simpa using hwb.1⟩
   have e124:(((s.data.toList.getD E 0).toNat:Int) != 124)=true:=by
    unfold bne
    rw [show (((s.data.toList.getD E 0).toNat:Int) == 124)=(s.data.toList.getD E 0 == 124) from aY _ 124]
    exact hwb.2
   have HD:=hid hd
   obtain ⟨bb,hbb⟩:∃ bb,bb=((s.data.toList.getD E 0).toNat:Int):=⟨_,rfl⟩
   rw [<- hbb] at hx e124
   clear hwb hd hbb
   go_wp2_with fail
   refine (HEND.out E _).mono ?_
   rintro e w7 ⟨rfl,rfl⟩
   rw [HD.out]
   go_wp2_with fail
   go_round
   case rel=>exact ⟨E+1,by omega,by omega,by go_num,(dA (by rw [HZ.out];exact hlt) HWB.out).trans HSC.out⟩
   case measure=>simp [intOf];omega
  ·have hstop:bS bh s.data.toList E=E:=by
    by_cases h:E<s.size
    ·exact eM (by rw [HZ.out];exact h) (by
      cases hc:bh (s.data.toList.getD E 0) with
      | true=>exact absurd ⟨h,hc⟩ hgo
      | false=>rfl)
    ·exact gd (by rw [HZ.out];omega)
   have hq:((decide (s.size<=E) || aX (s.data.toList.getD E 0))=true)\/((decide (s.size<=E) || aX (s.data.toList.getD E 0))=false /\ ∀ W':World,(Instr.index 9 (.string s) (.int .i64 (E:Int))).run Tryz.prog W'=.ok (.int .u8 124) W'):=by
    by_cases h:E<s.size
    ·cases hd:aX (s.data.toList.getD E 0) with
     | true=>left;rw [Bool.or_true]
     | false=>
      right
      refine ⟨by rw [Bool.or_false];exact dF (by omega),?_⟩
      have h124:s.data.toList.getD E 0=124:=by
       have:¬ bh (s.data.toList.getD E 0)=true:=fun hc=>hgo ⟨h,hc⟩
       unfold bh at this
       rw [hd] at this
       simpa using this
      intro W'
      rw [HAT.out E h W',h124];rfl
    ·left;rw [dT (by omega),Bool.true_or]
   have hEE:E=bS bh s.data.toList a:=hstop.symm.trans HSC.out
   have hwe:=HW.out.e
   have htl:=HW.out.t
   rw [<- hEE] at hwe htl
   have HTL:=hid htl
   have HEQ:=hid hwe
   have HX0:=hid (show ∀ W':World,(Instr.index 9 (.string (s.extract a E)) (.int .i64 0)).run Tryz.prog W'=.ok (.int .u8 ((W.getD 0 0).toNat:Int)) W' from aK (s.extract a E) 0 (by rw [htl];exact List.length_pos_iff.2 HNE.out) (W.getD 0 0) (by rw [htl]))
   have hnm:W.head? = some 35 ↔ W.getD 0 0=35:=by
    cases W with
    | nil=>exact absurd rfl HNE.out
    | cons c u=>simp
   have HSZ:=hid (show (s.extract a E).size<=1000000 by rw [Lib.size_eq,Lib.extract_data];have:=List.length_take_le (E - a) (s.data.toList.drop a);omega)
   have HTXT:=hid (fun w=>(show Calls Tryz.prog 39 #[.int .i64 6,.string (s.extract a E),.int .i64 (a:Int),.int .i64 (E:Int)] w (gT (cA true (s.extract a E).data.toList) true (s.extract a E) a E w) from gg true (s.extract a E) a E w HSZ.out))
   clear hgo hstop hEE hwe htl
   rcases hq with hq | ⟨hq,hx⟩
   all_goals
    have HQ:=hid hq
    clear hq
    go_wp2_with fail
    refine (HEND.out E _).mono ?_
    rintro e w7 ⟨rfl,rfl⟩
    rw [HQ.out]
    try dsimp only
    by_cases h0:W=[46]
    ·have HF:=hid (wI h0)
     have q0:((s.extract a E).toList == [46])=true:=cf _ (by rw [HTL.out];exact h0)
     clear h0
     clear hnm
     obtain ⟨⟨c0,c1,c2,c3,c4,c5,c6,c7,c8,c9⟩,f0,f1,f2,f3,f4,f5,f6,f7,f8,f9⟩:=ab HB1.out
     have HE:=hid (af HK1.out (Nat.le_refl _) (.int .i64 8) (.int .i64 (a:Int)) (.int .i64 (E:Int)) (.bool false) (.int .i64 0) (.int .i32 0) (.bool false) (.slice none 0 0) (.string ⟨#[]⟩) (.slice none 0 0))
     have HR:=hid (ab (ac HB1.out (.int .i64 8) (.int .i64 (a:Int)) (.int .i64 (E:Int)) (.bool false) (.int .i64 0) (.int .i32 0) (.bool false) (.slice none 0 0) (.string ⟨#[]⟩) (.slice none 0 0))).1
     try dsimp only
     go_wp2_with fail
     refine bodyPost_ret (v:=.tuple #[aU 8 (a:Int) (E:Int) false 0 0 false none 0 0 ⟨#[]⟩,.int .i64 0,.int .i64 0]) ?_ rfl ?_
     ·obtain ⟨e0,e1,e2,e3,e4,e5,e6,e7,e8,e9⟩:=HR.out
      simp [results,Tryz.results41,go_sem,e0,e1,e2,e3,e4,e5,e6,e7,e8,e9]
     ·rw [HF.out]
      exact ⟨0,0,false,none,0,0,⟨#[]⟩,by rw [HEQ.out];rfl,⟨rfl,rfl,rfl,rfl,rfl,rfl,rfl⟩,HE.out⟩
    by_cases h1:W=[35,116]
    ·have HF:=hid (yb h0 (.inl h1))
     have q0:((s.extract a E).toList == [46])=false:=aj _ (by rw [HTL.out];exact h0)
     have q1:((s.extract a E).toList == [35,116])=true:=cf _ (by rw [HTL.out];exact h1)
     clear h0 h1
     clear hnm
     obtain ⟨⟨c0,c1,c2,c3,c4,c5,c6,c7,c8,c9⟩,f0,f1,f2,f3,f4,f5,f6,f7,f8,f9⟩:=ab HB1.out
     have HE:=hid (af HK1.out (Nat.le_refl _) (.int .i64 9) (.int .i64 (a:Int)) (.int .i64 (E:Int)) (.bool false) (.int .i64 1) (.int .i32 0) (.bool false) (.slice none 0 0) (.string ⟨#[]⟩) (.slice none 0 0))
     have HR:=hid (ab (ac HB1.out (.int .i64 9) (.int .i64 (a:Int)) (.int .i64 (E:Int)) (.bool false) (.int .i64 1) (.int .i32 0) (.bool false) (.slice none 0 0) (.string ⟨#[]⟩) (.slice none 0 0))).1
     try dsimp only
     go_wp2_with fail
     refine bodyPost_ret (v:=.tuple #[aU 9 (a:Int) (E:Int) false 1 0 false none 0 0 ⟨#[]⟩,.int .i64 0,.int .i64 0]) ?_ rfl ?_
     ·obtain ⟨e0,e1,e2,e3,e4,e5,e6,e7,e8,e9⟩:=HR.out
      simp [results,Tryz.results41,go_sem,e0,e1,e2,e3,e4,e5,e6,e7,e8,e9]
     ·rw [HF.out]
      exact ⟨1,0,false,none,0,0,⟨#[]⟩,by rw [HEQ.out];rfl,⟨rfl,rfl,rfl,rfl,rfl,rfl,rfl⟩,HE.out⟩
    by_cases h2:W=[35,116,114,117,101]
    ·have HF:=hid (yb h0 (.inr h2))
     have q0:((s.extract a E).toList == [46])=false:=aj _ (by rw [HTL.out];exact h0)
     have q1:((s.extract a E).toList == [35,116])=false:=aj _ (by rw [HTL.out];exact h1)
     have q2:((s.extract a E).toList == [35,116,114,117,101])=true:=cf _ (by rw [HTL.out];exact h2)
     clear h0 h1 h2
     clear hnm
     obtain ⟨⟨c0,c1,c2,c3,c4,c5,c6,c7,c8,c9⟩,f0,f1,f2,f3,f4,f5,f6,f7,f8,f9⟩:=ab HB1.out
     have HE:=hid (af HK1.out (Nat.le_refl _) (.int .i64 9) (.int .i64 (a:Int)) (.int .i64 (E:Int)) (.bool false) (.int .i64 1) (.int .i32 0) (.bool false) (.slice none 0 0) (.string ⟨#[]⟩) (.slice none 0 0))
     have HR:=hid (ab (ac HB1.out (.int .i64 9) (.int .i64 (a:Int)) (.int .i64 (E:Int)) (.bool false) (.int .i64 1) (.int .i32 0) (.bool false) (.slice none 0 0) (.string ⟨#[]⟩) (.slice none 0 0))).1
     try dsimp only
     go_wp2_with fail
     refine bodyPost_ret (v:=.tuple #[aU 9 (a:Int) (E:Int) false 1 0 false none 0 0 ⟨#[]⟩,.int .i64 0,.int .i64 0]) ?_ rfl ?_
     ·obtain ⟨e0,e1,e2,e3,e4,e5,e6,e7,e8,e9⟩:=HR.out
      simp [results,Tryz.results41,go_sem,e0,e1,e2,e3,e4,e5,e6,e7,e8,e9]
     ·rw [HF.out]
      exact ⟨1,0,false,none,0,0,⟨#[]⟩,by rw [HEQ.out];rfl,⟨rfl,rfl,rfl,rfl,rfl,rfl,rfl⟩,HE.out⟩
    by_cases h3:W=[35,102]
    ·have HF:=hid (yd h0 (fun h=>h.elim h1 h2) (.inl h3))
     have q0:((s.extract a E).toList == [46])=false:=aj _ (by rw [HTL.out];exact h0)
     have q1:((s.extract a E).toList == [35,116])=false:=aj _ (by rw [HTL.out];exact h1)
     have q2:((s.extract a E).toList == [35,116,114,117,101])=false:=aj _ (by rw [HTL.out];exact h2)
     have q3:((s.extract a E).toList == [35,102])=true:=cf _ (by rw [HTL.out];exact h3)
     clear h0 h1 h2 h3
     clear hnm
     obtain ⟨⟨c0,c1,c2,c3,c4,c5,c6,c7,c8,c9⟩,f0,f1,f2,f3,f4,f5,f6,f7,f8,f9⟩:=ab HB1.out
     have HE:=hid (af HK1.out (Nat.le_refl _) (.int .i64 9) (.int .i64 (a:Int)) (.int .i64 (E:Int)) (.bool false) (.int .i64 2) (.int .i32 0) (.bool false) (.slice none 0 0) (.string ⟨#[]⟩) (.slice none 0 0))
     have HR:=hid (ab (ac HB1.out (.int .i64 9) (.int .i64 (a:Int)) (.int .i64 (E:Int)) (.bool false) (.int .i64 2) (.int .i32 0) (.bool false) (.slice none 0 0) (.string ⟨#[]⟩) (.slice none 0 0))).1
     try dsimp only
     go_wp2_with fail
     refine bodyPost_ret (v:=.tuple #[aU 9 (a:Int) (E:Int) false 2 0 false none 0 0 ⟨#[]⟩,.int .i64 0,.int .i64 0]) ?_ rfl ?_
     ·obtain ⟨e0,e1,e2,e3,e4,e5,e6,e7,e8,e9⟩:=HR.out
      simp [results,Tryz.results41,go_sem,e0,e1,e2,e3,e4,e5,e6,e7,e8,e9]
     ·rw [HF.out]
      exact ⟨2,0,false,none,0,0,⟨#[]⟩,by rw [HEQ.out];rfl,⟨rfl,rfl,rfl,rfl,rfl,rfl,rfl⟩,HE.out⟩
    by_cases h4:W=[35,102,97,108,115,101]
    ·have HF:=hid (yd h0 (fun h=>h.elim h1 h2) (.inr h4))
     have q0:((s.extract a E).toList == [46])=false:=aj _ (by rw [HTL.out];exact h0)
     have q1:((s.extract a E).toList == [35,116])=false:=aj _ (by rw [HTL.out];exact h1)
     have q2:((s.extract a E).toList == [35,116,114,117,101])=false:=aj _ (by rw [HTL.out];exact h2)
     have q3:((s.extract a E).toList == [35,102])=false:=aj _ (by rw [HTL.out];exact h3)
     have q4:((s.extract a E).toList == [35,102,97,108,115,101])=true:=cf _ (by rw [HTL.out];exact h4)
     clear h0 h1 h2 h3 h4
     clear hnm
     obtain ⟨⟨c0,c1,c2,c3,c4,c5,c6,c7,c8,c9⟩,f0,f1,f2,f3,f4,f5,f6,f7,f8,f9⟩:=ab HB1.out
     have HE:=hid (af HK1.out (Nat.le_refl _) (.int .i64 9) (.int .i64 (a:Int)) (.int .i64 (E:Int)) (.bool false) (.int .i64 2) (.int .i32 0) (.bool false) (.slice none 0 0) (.string ⟨#[]⟩) (.slice none 0 0))
     have HR:=hid (ab (ac HB1.out (.int .i64 9) (.int .i64 (a:Int)) (.int .i64 (E:Int)) (.bool false) (.int .i64 2) (.int .i32 0) (.bool false) (.slice none 0 0) (.string ⟨#[]⟩) (.slice none 0 0))).1
     try dsimp only
     go_wp2_with fail
     refine bodyPost_ret (v:=.tuple #[aU 9 (a:Int) (E:Int) false 2 0 false none 0 0 ⟨#[]⟩,.int .i64 0,.int .i64 0]) ?_ rfl ?_
     ·obtain ⟨e0,e1,e2,e3,e4,e5,e6,e7,e8,e9⟩:=HR.out
      simp [results,Tryz.results41,go_sem,e0,e1,e2,e3,e4,e5,e6,e7,e8,e9]
     ·rw [HF.out]
      exact ⟨2,0,false,none,0,0,⟨#[]⟩,by rw [HEQ.out];rfl,⟨rfl,rfl,rfl,rfl,rfl,rfl,rfl⟩,HE.out⟩
    have q0:((s.extract a E).toList == [46])=false:=aj _ (by rw [HTL.out];exact h0)
    have q1:((s.extract a E).toList == [35,116])=false:=aj _ (by rw [HTL.out];exact h1)
    have q2:((s.extract a E).toList == [35,116,114,117,101])=false:=aj _ (by rw [HTL.out];exact h2)
    have q3:((s.extract a E).toList == [35,102])=false:=aj _ (by rw [HTL.out];exact h3)
    have q4:((s.extract a E).toList == [35,102,97,108,115,101])=false:=aj _ (by rw [HTL.out];exact h4)
    have HF1:=hid h0
    have HF2:=hid (show ¬ (W=[35,116]\/W=[35,116,114,117,101]) from (fun h=>h.elim h1 h2))
    have HF3:=hid (show ¬ (W=[35,102]\/W=[35,102,97,108,115,101]) from (fun h=>h.elim h3 h4))
    clear h0 h1 h2 h3 h4
    by_cases hash:W.head? = some 35
    ·have HF:=hid (se HF1.out HF2.out HF3.out hash)
     have hh:∀ W':World,(Instr.index 9 (.string (s.extract a E)) (.int .i64 0)).run Tryz.prog W'=.ok (.int .u8 35) W':=by
      intro W';rw [HX0.out W',hnm.1 hash];rfl
     clear hash hnm
     obtain ⟨⟨c0,c1,c2,c3,c4,c5,c6,c7,c8,c9⟩,f0,f1,f2,f3,f4,f5,f6,f7,f8,f9⟩:=ab HB1.out
     have HE:=hid (af HK1.out (Nat.le_refl _) (.int .i64 0) (.int .i64 0) (.int .i64 0) (.bool false) (.int .i64 0) (.int .i32 0) (.bool false) (.slice none 0 0) (.string ⟨#[]⟩) (.slice none 0 0))
     have HR:=hid (ab (ac HB1.out (.int .i64 0) (.int .i64 0) (.int .i64 0) (.bool false) (.int .i64 0) (.int .i32 0) (.bool false) (.slice none 0 0) (.string ⟨#[]⟩) (.slice none 0 0))).1
     try dsimp only
     go_wp2_with fail
     refine bodyPost_ret (v:=.tuple #[.agg ag,.int .i64 (a:Int),.int .i64 9]) ?_ rfl ?_
     ·obtain ⟨e0,e1,e2,e3,e4,e5,e6,e7,e8,e9⟩:=HR.out
      simp [results,Tryz.results41,go_sem,e0,e1,e2,e3,e4,e5,e6,e7,e8,e9]
     ·rw [HF.out]
      exact ⟨rfl,HE.out⟩
    have e35:(((W.getD 0 0).toNat:Int) == 35)=false:=aH (fun h=>hash (hnm.2 h))
    have hx0:=HX0.out
    obtain ⟨cc,hcc⟩:∃ c,c=((W.getD 0 0).toNat:Int):=⟨_,rfl⟩
    rw [<- hcc] at e35 hx0
    have HH:=hid hash
    clear hash hcc hnm
    go_wp2_with fail
    refine (mY (s.extract a E) _ (by rw [HTL.out];exact HNE.out) HSZ.out).mono ?_
    rintro e w2 ⟨rfl,rfl⟩
    rw [HTL.out]
    cases hp:aJ W with
    | some x=>
     try dsimp only [Option.isSome]
     have HP:=hid hp
     clear hp
     go_wp2_with fail
     refine (oA (s.extract a E) _ HSZ.out).mono ?_
     intro e w3 hres
     unfold cx at hres
     rw [HTL.out,HP.out] at hres
     by_cases hf:dG x
     ·have HF:=hid (wH HF1.out HF2.out HF3.out HH.out HP.out hf)
      have HFI:=hid hf
      obtain ⟨_,A,n,cp,rfl,hbits,k3⟩ | ⟨hn,_⟩:=hres
      case inr=>exact absurd hf hn
      clear hf
      obtain ⟨z,hzz⟩:∃ z,z=decide (x<0):=⟨_,rfl⟩
      have HNA:=hid (fun (w:World) (h:bg w A n cp (ai x.natAbs))=>lX x A n cp w h)
      rw [<- hzz] at HNA ⊢
      have HZZ:=hid hzz
      clear hzz
      have k4:=k3.alloc (.cells #[.bool z,.slice A n cp] 90)
      have HBI:=hid (hbits.keep0 (kR.alloc (.cells #[.bool z,.slice A n cp] 90)))
      have HB3:=hid (k4.heap HB1.out (by simp))
      have HK3:=hid (HK1.out.trans k4)
      clear k3 k4 hbits
      try dsimp only
      go_wp2_with fail
      refine (HNA.out _ HBI.out).mono ?_
      intro e w4 hres
      obtain ⟨k4,A2,n2,cp2,rfl,hL,hn⟩:=hres.fits HFI.out
      rw [<- HZZ.out]
      clear hres
      have k5:=k4.alloc (.cells #[.bool z,.slice A2 n2 cp2] 24)
      have HL:=hid (hL.keep0 (kR.alloc (.cells #[.bool z,.slice A2 n2 cp2] 24)))
      have HN:=hid hn
      have HB5:=hid (k5.heap HB3.out (by simp))
      have HK5:=hid (HK3.out.trans k5)
      clear k4 k5 hL hn
      try dsimp only
      obtain ⟨⟨c0,c1,c2,c3,c4,c5,c6,c7,c8,c9⟩,f0,f1,f2,f3,f4,f5,f6,f7,f8,f9⟩:=ab HB5.out
      have HE:=hid (af HK5.out (Nat.le_refl _) (.int .i64 9) (.int .i64 (a:Int)) (.int .i64 (E:Int)) (.bool false) (.int .i64 4) (.int .i32 0) (.bool z) (.slice A2 n2 cp2) (.string ⟨#[]⟩) (.slice none 0 0))
      have HR:=hid (ab (ac HB5.out (.int .i64 9) (.int .i64 (a:Int)) (.int .i64 (E:Int)) (.bool false) (.int .i64 4) (.int .i32 0) (.bool z) (.slice A2 n2 cp2) (.string ⟨#[]⟩) (.slice none 0 0))).1
      try dsimp only
      go_wp2_with fail
      refine bodyPost_ret (v:=.tuple #[aU 9 (a:Int) (E:Int) false 4 0 z A2 n2 cp2 ⟨#[]⟩,.int .i64 0,.int .i64 0]) ?_ rfl ?_
      ·obtain ⟨e0,e1,e2,e3,e4,e5,e6,e7,e8,e9⟩:=HR.out
       simp [results,Tryz.results41,go_sem,e0,e1,e2,e3,e4,e5,e6,e7,e8,e9]
      ·rw [HF.out]
       refine ⟨4,0,z,A2,n2,cp2,⟨#[]⟩,by rw [HEQ.out];rfl,⟨rfl,rfl,HZZ.out,?_,HN.out,rfl⟩,HE.out⟩
       exact gN HL.out HB5.out (ba _ _ _ _ _ _ _ _ _ _ _ _)
     ·have HF:=hid (wJ HF1.out HF2.out HF3.out HH.out HP.out hf)
      obtain ⟨hn,_⟩ | ⟨_,rfl,k3⟩:=hres
      case inl=>exact absurd hn hf
      clear hf
      have k4:=k3.alloc (.cells #[.bool false,.slice none 0 0] 90)
      have HB3:=hid (k4.heap HB1.out (by simp))
      have HK3:=hid (HK1.out.trans k4)
      clear k3 k4
      try dsimp only
      go_wp2_with fail
      refine (vO _).mono ?_
      rintro e w4 ⟨k4,z,A2,n2,cp2,rfl⟩
      have k5:=k4.alloc (.cells #[.bool z,.slice A2 n2 cp2] 24)
      have HB5:=hid (k5.heap HB3.out (by simp))
      have HK5:=hid (HK3.out.trans k5)
      clear k4 k5
      try dsimp only
      obtain ⟨⟨c0,c1,c2,c3,c4,c5,c6,c7,c8,c9⟩,f0,f1,f2,f3,f4,f5,f6,f7,f8,f9⟩:=ab HB5.out
      have HE:=hid (af HK5.out (Nat.le_refl _) (.int .i64 0) (.int .i64 0) (.int .i64 0) (.bool false) (.int .i64 0) (.int .i32 0) (.bool false) (.slice none 0 0) (.string ⟨#[]⟩) (.slice none 0 0))
      have HR:=hid (ab (ac HB5.out (.int .i64 0) (.int .i64 0) (.int .i64 0) (.bool false) (.int .i64 0) (.int .i32 0) (.bool false) (.slice none 0 0) (.string ⟨#[]⟩) (.slice none 0 0))).1
      try dsimp only
      go_wp2_with fail
      refine bodyPost_ret (v:=.tuple #[.agg ag,.int .i64 (a:Int),.int .i64 6]) ?_ rfl ?_
      ·obtain ⟨e0,e1,e2,e3,e4,e5,e6,e7,e8,e9⟩:=HR.out
       simp [results,Tryz.results41,go_sem,e0,e1,e2,e3,e4,e5,e6,e7,e8,e9]
      ·rw [HF.out]
       exact ⟨rfl,HE.out⟩
    | none=>
     try dsimp only [Option.isSome]
     have HP:=hid hp
     clear hp
     go_wp2_with fail
     refine (HTXT.out _).mono ?_
     intro e w3 hres
     rw [HTL.out] at hres
     cases hd:cA true W with
     | ok d=>
      rw [hd] at hres
      obtain ⟨rfl,k3⟩:=hres
      have HF:=hid (wG HF1.out HF2.out HF3.out HH.out HP.out hd)
      have HD:=hid hd
      have HB3:=hid (k3.heap HB1.out (by simp))
      have HK3:=hid (HK1.out.trans k3)
      clear k3 hd
      try dsimp only
      obtain ⟨⟨c0,c1,c2,c3,c4,c5,c6,c7,c8,c9⟩,f0,f1,f2,f3,f4,f5,f6,f7,f8,f9⟩:=ab HB3.out
      have HE:=hid (af HK3.out (Nat.le_refl _) (.int .i64 9) (.int .i64 (a:Int)) (.int .i64 (E:Int)) (.bool false) (.int .i64 6) (.int .i32 0) (.bool false) (.slice none 0 0) (.string (s.extract a E)) (.slice none 0 0))
      have HR:=hid (ab (ac HB3.out (.int .i64 9) (.int .i64 (a:Int)) (.int .i64 (E:Int)) (.bool false) (.int .i64 6) (.int .i32 0) (.bool false) (.slice none 0 0) (.string (s.extract a E)) (.slice none 0 0))).1
      try dsimp only
      go_wp2_with fail
      refine bodyPost_ret (v:=.tuple #[aU 9 (a:Int) (E:Int) false 6 0 false none 0 0 (s.extract a E),.int .i64 0,.int .i64 0]) ?_ rfl ?_
      ·obtain ⟨e0,e1,e2,e3,e4,e5,e6,e7,e8,e9⟩:=HR.out
       simp [results,Tryz.results41,go_sem,e0,e1,e2,e3,e4,e5,e6,e7,e8,e9]
      ·rw [HF.out]
       refine ⟨6,0,false,none,0,0,(s.extract a E),by rw [HEQ.out];rfl,?_,HE.out⟩
       rw [mN HD.out]
       exact ⟨rfl,rfl,rfl,rfl,rfl,rfl,by rw [<- HTL.out]⟩
     | error q=>
      rw [hd] at hres
      have hqq:=mG hd
      obtain ⟨rfl,k3⟩:=hres
      have HF:=hid (yc HF1.out HF2.out HF3.out HH.out HP.out hd)
      have HB3:=hid (k3.heap HB1.out (by simp))
      have HK3:=hid (HK1.out.trans k3)
      clear k3 hd
      rcases hqq with rfl | rfl
      ·try dsimp only
       obtain ⟨⟨c0,c1,c2,c3,c4,c5,c6,c7,c8,c9⟩,f0,f1,f2,f3,f4,f5,f6,f7,f8,f9⟩:=ab HB3.out
       have HE:=hid (af HK3.out (Nat.le_refl _) (.int .i64 0) (.int .i64 0) (.int .i64 0) (.bool false) (.int .i64 0) (.int .i32 0) (.bool false) (.slice none 0 0) (.string ⟨#[]⟩) (.slice none 0 0))
       have HR:=hid (ab (ac HB3.out (.int .i64 0) (.int .i64 0) (.int .i64 0) (.bool false) (.int .i64 0) (.int .i32 0) (.bool false) (.slice none 0 0) (.string ⟨#[]⟩) (.slice none 0 0))).1
       try dsimp only
       go_wp2_with fail
       refine bodyPost_ret (v:=.tuple #[.agg ag,.int .i64 (a:Int),.int .i64 9]) ?_ rfl ?_
       ·obtain ⟨e0,e1,e2,e3,e4,e5,e6,e7,e8,e9⟩:=HR.out
        simp [results,Tryz.results41,go_sem,e0,e1,e2,e3,e4,e5,e6,e7,e8,e9]
       ·rw [HF.out]
        exact ⟨rfl,HE.out⟩
      ·try dsimp only
       obtain ⟨⟨c0,c1,c2,c3,c4,c5,c6,c7,c8,c9⟩,f0,f1,f2,f3,f4,f5,f6,f7,f8,f9⟩:=ab HB3.out
       have HE:=hid (af HK3.out (Nat.le_refl _) (.int .i64 0) (.int .i64 0) (.int .i64 0) (.bool false) (.int .i64 0) (.int .i32 0) (.bool false) (.slice none 0 0) (.string ⟨#[]⟩) (.slice none 0 0))
       have HR:=hid (ab (ac HB3.out (.int .i64 0) (.int .i64 0) (.int .i64 0) (.bool false) (.int .i64 0) (.int .i32 0) (.bool false) (.slice none 0 0) (.string ⟨#[]⟩) (.slice none 0 0))).1
       try dsimp only
       go_wp2_with fail
       refine bodyPost_ret (v:=.tuple #[.agg ag,.int .i64 (a:Int),.int .i64 6]) ?_ rfl ?_
       ·obtain ⟨e0,e1,e2,e3,e4,e5,e6,e7,e8,e9⟩:=HR.out
        simp [results,Tryz.results41,go_sem,e0,e1,e2,e3,e4,e5,e6,e7,e8,e9]
       ·rw [HF.out]
        exact ⟨rfl,HE.out⟩
end Go.Proofs.YtonnikipeokkaaaGreatDoor
