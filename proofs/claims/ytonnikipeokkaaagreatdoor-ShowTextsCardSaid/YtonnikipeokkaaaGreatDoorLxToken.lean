/-
  lex: token.
-/
import Derived.Test.YtonnikipeokkaaaGreatDoorLxChar
namespace Go.Proofs.YtonnikipeokkaaaGreatDoor
set_option maxRecDepth 100000
set_option maxHeartbeats 4000000
open Go.Lib (hid)
open Go.RowKit Go.Lib
theorem wN (s:ByteArray) (a:Nat) (w:World) (hT:bE w) (ha:a<s.size) (hs:s.size<=1000000) (hc:s.data.toList.getD a 0=91)  :
 Calls Tryz.prog 56 #[.string s,.int .i64 (a:Int)] w (bj (.ok ⟨1,1,true,.no⟩) a w):=by
 have HT:=hid hT
 have hz:s.data.toList.length=s.size:=(Lib.size_eq s).symm
 have hx:∀ W:World,(Instr.index 9 (.string s) (.int .i64 (a:Int))).run Tryz.prog W=.ok (.int .u8 91) W:=aK s a (by rw [hz];exact ha) 91 hc.symm
 clear hc hz
 clear hT
 go_enter Tryz.func56,Tryz.ntmps56
 go_wp2_with fail
 refine bodyPost_ret (v:=.tuple #[aU 1 (a:Int) ((a+1:Nat):Int) true 0 0 false none 0 0 ⟨#[]⟩,.nilIface]) (by simp [results,Tryz.results56,go_sem]) rfl ?_
 exact ⟨0,0,false,none,0,0,⟨#[]⟩,rfl,⟨rfl,rfl,rfl,rfl,rfl,rfl,rfl⟩,(kR.alloc _).alloc _⟩
theorem wP (s:ByteArray) (a:Nat) (w:World) (hT:bE w) (ha:a<s.size) (hs:s.size<=1000000) (hc:s.data.toList.getD a 0=40)  :
 Calls Tryz.prog 56 #[.string s,.int .i64 (a:Int)] w (bj (.ok ⟨1,1,false,.no⟩) a w):=by
 have HT:=hid hT
 have hz:s.data.toList.length=s.size:=(Lib.size_eq s).symm
 have hx:∀ W:World,(Instr.index 9 (.string s) (.int .i64 (a:Int))).run Tryz.prog W=.ok (.int .u8 40) W:=aK s a (by rw [hz];exact ha) 40 hc.symm
 clear hc hz
 clear hT
 go_enter Tryz.func56,Tryz.ntmps56
 go_wp2_with fail
 refine bodyPost_ret (v:=.tuple #[aU 1 (a:Int) ((a+1:Nat):Int) false 0 0 false none 0 0 ⟨#[]⟩,.nilIface]) (by simp [results,Tryz.results56,go_sem]) rfl ?_
 exact ⟨0,0,false,none,0,0,⟨#[]⟩,rfl,⟨rfl,rfl,rfl,rfl,rfl,rfl,rfl⟩,(kR.alloc _).alloc _⟩
theorem wM (s:ByteArray) (a:Nat) (w:World) (hT:bE w) (ha:a<s.size) (hs:s.size<=1000000) (hc:s.data.toList.getD a 0=93)  :
 Calls Tryz.prog 56 #[.string s,.int .i64 (a:Int)] w (bj (.ok ⟨2,1,true,.no⟩) a w):=by
 have HT:=hid hT
 have hz:s.data.toList.length=s.size:=(Lib.size_eq s).symm
 have hx:∀ W:World,(Instr.index 9 (.string s) (.int .i64 (a:Int))).run Tryz.prog W=.ok (.int .u8 93) W:=aK s a (by rw [hz];exact ha) 93 hc.symm
 clear hc hz
 clear hT
 go_enter Tryz.func56,Tryz.ntmps56
 go_wp2_with fail
 refine bodyPost_ret (v:=.tuple #[aU 2 (a:Int) ((a+1:Nat):Int) true 0 0 false none 0 0 ⟨#[]⟩,.nilIface]) (by simp [results,Tryz.results56,go_sem]) rfl ?_
 exact ⟨0,0,false,none,0,0,⟨#[]⟩,rfl,⟨rfl,rfl,rfl,rfl,rfl,rfl,rfl⟩,(kR.alloc _).alloc _⟩
theorem wO (s:ByteArray) (a:Nat) (w:World) (hT:bE w) (ha:a<s.size) (hs:s.size<=1000000) (hc:s.data.toList.getD a 0=41)  :
 Calls Tryz.prog 56 #[.string s,.int .i64 (a:Int)] w (bj (.ok ⟨2,1,false,.no⟩) a w):=by
 have HT:=hid hT
 have hz:s.data.toList.length=s.size:=(Lib.size_eq s).symm
 have hx:∀ W:World,(Instr.index 9 (.string s) (.int .i64 (a:Int))).run Tryz.prog W=.ok (.int .u8 41) W:=aK s a (by rw [hz];exact ha) 41 hc.symm
 clear hc hz
 clear hT
 go_enter Tryz.func56,Tryz.ntmps56
 go_wp2_with fail
 refine bodyPost_ret (v:=.tuple #[aU 2 (a:Int) ((a+1:Nat):Int) false 0 0 false none 0 0 ⟨#[]⟩,.nilIface]) (by simp [results,Tryz.results56,go_sem]) rfl ?_
 exact ⟨0,0,false,none,0,0,⟨#[]⟩,rfl,⟨rfl,rfl,rfl,rfl,rfl,rfl,rfl⟩,(kR.alloc _).alloc _⟩
theorem wQ (s:ByteArray) (a:Nat) (w:World) (hT:bE w) (ha:a<s.size) (hs:s.size<=1000000) (hc:s.data.toList.getD a 0=39)  :
 Calls Tryz.prog 56 #[.string s,.int .i64 (a:Int)] w (bj (.ok ⟨4,1,false,.no⟩) a w):=by
 have HT:=hid hT
 have hz:s.data.toList.length=s.size:=(Lib.size_eq s).symm
 have hx:∀ W:World,(Instr.index 9 (.string s) (.int .i64 (a:Int))).run Tryz.prog W=.ok (.int .u8 39) W:=aK s a (by rw [hz];exact ha) 39 hc.symm
 clear hc hz
 clear hT
 go_enter Tryz.func56,Tryz.ntmps56
 go_wp2_with fail
 refine bodyPost_ret (v:=.tuple #[aU 4 (a:Int) ((a+1:Nat):Int) false 0 0 false none 0 0 ⟨#[]⟩,.nilIface]) (by simp [results,Tryz.results56,go_sem]) rfl ?_
 exact ⟨0,0,false,none,0,0,⟨#[]⟩,rfl,⟨rfl,rfl,rfl,rfl,rfl,rfl,rfl⟩,(kR.alloc _).alloc _⟩
theorem wL (s:ByteArray) (a:Nat) (w:World) (hT:bE w) (ha:a<s.size) (hs:s.size<=1000000) (hc:s.data.toList.getD a 0=96)  :
 Calls Tryz.prog 56 #[.string s,.int .i64 (a:Int)] w (bj (.ok ⟨5,1,false,.no⟩) a w):=by
 have HT:=hid hT
 have hz:s.data.toList.length=s.size:=(Lib.size_eq s).symm
 have hx:∀ W:World,(Instr.index 9 (.string s) (.int .i64 (a:Int))).run Tryz.prog W=.ok (.int .u8 96) W:=aK s a (by rw [hz];exact ha) 96 hc.symm
 clear hc hz
 clear hT
 go_enter Tryz.func56,Tryz.ntmps56
 go_wp2_with fail
 refine bodyPost_ret (v:=.tuple #[aU 5 (a:Int) ((a+1:Nat):Int) false 0 0 false none 0 0 ⟨#[]⟩,.nilIface]) (by simp [results,Tryz.results56,go_sem]) rfl ?_
 exact ⟨0,0,false,none,0,0,⟨#[]⟩,rfl,⟨rfl,rfl,rfl,rfl,rfl,rfl,rfl⟩,(kR.alloc _).alloc _⟩
theorem ve (s:ByteArray) (a:Nat) (w:World) (hT:bE w) (ha:a<s.size) (hs:s.size<=1000000) (hc:s.data.toList.getD a 0=44) (h1:a+1<s.size) (h2:s.data.toList.getD (a+1) 0=64) :
 Calls Tryz.prog 56 #[.string s,.int .i64 (a:Int)] w (bj (.ok ⟨7,2,false,.no⟩) a w):=by
 have HT:=hid hT
 have hz:s.data.toList.length=s.size:=(Lib.size_eq s).symm
 have hx:∀ W:World,(Instr.index 9 (.string s) (.int .i64 (a:Int))).run Tryz.prog W=.ok (.int .u8 44) W:=aK s a (by rw [hz];exact ha) 44 hc.symm
 have hp:Lib.hasPrefix (s.extract a s.size).data.toList [44,64]=true:=by
  rw [cH s a 44 64 ha]
  exact dT ⟨h1,hc,h2⟩
 have Hhp:=hid hp
 clear hp h1 h2
 clear hc hz
 clear hT
 go_enter Tryz.func56,Tryz.ntmps56
 go_wp2_with fail
 refine (Tryz.strings_HasPrefix _ _ _).mono ?_
 rintro e w1 ⟨rfl,rfl⟩
 rw [show Lib.hasPrefix (s.extract a s.size).data.toList (⟨#[44,64]⟩:ByteArray).data.toList=_ from Hhp.out]
 try dsimp only
 go_wp2_with fail
 refine bodyPost_ret (v:=.tuple #[aU 7 (a:Int) ((a+2:Nat):Int) false 0 0 false none 0 0 ⟨#[]⟩,.nilIface]) (by simp [results,Tryz.results56,go_sem]) rfl ?_
 exact ⟨0,0,false,none,0,0,⟨#[]⟩,rfl,⟨rfl,rfl,rfl,rfl,rfl,rfl,rfl⟩,(kR.alloc _).alloc _⟩
theorem vf (s:ByteArray) (a:Nat) (w:World) (hT:bE w) (ha:a<s.size) (hs:s.size<=1000000) (hc:s.data.toList.getD a 0=44) (hno:¬ (a+1<s.size/\s.data.toList.getD (a+1) 0=64)) :
 Calls Tryz.prog 56 #[.string s,.int .i64 (a:Int)] w (bj (.ok ⟨6,1,false,.no⟩) a w):=by
 have HT:=hid hT
 have hz:s.data.toList.length=s.size:=(Lib.size_eq s).symm
 have hx:∀ W:World,(Instr.index 9 (.string s) (.int .i64 (a:Int))).run Tryz.prog W=.ok (.int .u8 44) W:=aK s a (by rw [hz];exact ha) 44 hc.symm
 have hp:Lib.hasPrefix (s.extract a s.size).data.toList [44,64]=false:=by
  rw [cH s a 44 64 ha]
  exact dF (fun h=>hno ⟨h.1,h.2.2⟩)
 have Hhp:=hid hp
 clear hp hno
 clear hc hz
 clear hT
 go_enter Tryz.func56,Tryz.ntmps56
 go_wp2_with fail
 refine (Tryz.strings_HasPrefix _ _ _).mono ?_
 rintro e w1 ⟨rfl,rfl⟩
 rw [show Lib.hasPrefix (s.extract a s.size).data.toList (⟨#[44,64]⟩:ByteArray).data.toList=_ from Hhp.out]
 try dsimp only
 go_wp2_with fail
 refine bodyPost_ret (v:=.tuple #[aU 6 (a:Int) ((a+1:Nat):Int) false 0 0 false none 0 0 ⟨#[]⟩,.nilIface]) (by simp [results,Tryz.results56,go_sem]) rfl ?_
 exact ⟨0,0,false,none,0,0,⟨#[]⟩,rfl,⟨rfl,rfl,rfl,rfl,rfl,rfl,rfl⟩,(kR.alloc _).alloc _⟩
theorem vd (s:ByteArray) (a:Nat) (w:World) (hT:bE w) (ha:a<s.size) (hs:s.size<=1000000) (hc:s.data.toList.getD a 0=35) (h1:a+1<s.size) (h2:s.data.toList.getD (a+1) 0=40) :
 Calls Tryz.prog 56 #[.string s,.int .i64 (a:Int)] w (bj (.ok ⟨3,2,false,.no⟩) a w):=by
 have HT:=hid hT
 have hz:s.data.toList.length=s.size:=(Lib.size_eq s).symm
 have hx:∀ W:World,(Instr.index 9 (.string s) (.int .i64 (a:Int))).run Tryz.prog W=.ok (.int .u8 35) W:=aK s a (by rw [hz];exact ha) 35 hc.symm
 have hp:Lib.hasPrefix (s.extract a s.size).data.toList [35,40]=true:=by
  rw [cH s a 35 40 ha]
  exact dT ⟨h1,hc,h2⟩
 have Hhp:=hid hp
 clear hp h1 h2
 clear hc hz
 clear hT
 go_enter Tryz.func56,Tryz.ntmps56
 go_wp2_with fail
 refine (Tryz.strings_HasPrefix _ _ _).mono ?_
 rintro e w1 ⟨rfl,rfl⟩
 rw [show Lib.hasPrefix (s.extract a s.size).data.toList (⟨#[35,40]⟩:ByteArray).data.toList=_ from Hhp.out]
 try dsimp only
 go_wp2_with fail
 refine bodyPost_ret (v:=.tuple #[aU 3 (a:Int) ((a+2:Nat):Int) false 0 0 false none 0 0 ⟨#[]⟩,.nilIface]) (by simp [results,Tryz.results56,go_sem]) rfl ?_
 exact ⟨0,0,false,none,0,0,⟨#[]⟩,rfl,⟨rfl,rfl,rfl,rfl,rfl,rfl,rfl⟩,(kR.alloc _).alloc _⟩
theorem fC {w w':World} {d:ig} {k c:Int} {neg:Bool} {A:Option Addr} {n cp:Nat} {t:ByteArray} {B:Nat} (h:dY w d k c neg A n cp t) (hb:w.heap[B]? = some (.cells ag 29 (0,0))) (K:ah (fun b=>b=B) w w'):dY w' d k c neg A n cp t:=by
 cases d
 case int x=>exact ⟨h.1,h.2.1,h.2.2.1,gN h.2.2.2.1 hb K,h.2.2.2.2⟩
 all_goals exact h
theorem sm (s:ByteArray) (a:Nat) (w:World) (hT:bE w) (ha:a<s.size) (hs:s.size<=1000000) (hc:s.data.toList.getD a 0=35) (h1:a+1<s.size) (h2:s.data.toList.getD (a+1) 0=92) :
 Calls Tryz.prog 56 #[.string s,.int .i64 (a:Int)] w (bj (dN (s.data.toList.drop (a+2))) a w):=by
 have HT:=hid hT
 have hz:s.data.toList.length=s.size:=(Lib.size_eq s).symm
 have hx:∀ W:World,(Instr.index 9 (.string s) (.int .i64 (a:Int))).run Tryz.prog W=.ok (.int .u8 35) W:=aK s a (by rw [hz];exact ha) 35 hc.symm
 have hp1:Lib.hasPrefix (s.extract a s.size).data.toList [35,40]=false:=by
  rw [cH s a 35 40 ha]
  exact dF (fun h=>by rw [h2] at h;exact absurd h.2.2 (by decide))
 have hp2:Lib.hasPrefix (s.extract a s.size).data.toList [35,92]=true:=by
  rw [cH s a 35 92 ha]
  exact dT ⟨h1,hc,h2⟩
 have Hhp1:=hid hp1
 have Hhp2:=hid hp2
 have HCH:=hid (fun w hT=>uE s a w hT (by omega) hs)
 obtain ⟨R,hRR⟩:∃ R,R=dN (s.data.toList.drop (a+2)):=⟨_,rfl⟩
 rw [<- hRR] at HCH ⊢
 clear hp1 hp2 hRR h1 h2 hc hz
 have hb:(w.alloc (.cells ag 29)).heap[w.heap.size]? = some (.cells ag 29 (0,0)):=hN w _
 have hb2:((w.alloc (.cells ag 29)).alloc (.cells (tkC 0 (a:Int) ((a:Int)+1) false 0 0 false none 0 0 ⟨#[]⟩ none 0 0) 29)).heap[w.heap.size]? = some (.cells ag 29 (0,0)):=by
  rw [Below.heap_alloc _ _ _ (by simp)];exact hb
 have HB1:=hid hb2
 have HK1:=hid (show K0 w ((w.alloc (.cells ag 29)).alloc (.cells (tkC 0 (a:Int) ((a:Int)+1) false 0 0 false none 0 0 ⟨#[]⟩ none 0 0) 29)) from (kR.alloc _).alloc _)
 clear hb hb2
 clear hT
 go_enter Tryz.func56,Tryz.ntmps56
 go_wp2_with fail
 refine (Tryz.strings_HasPrefix _ _ _).mono ?_
 rintro e w1 ⟨rfl,rfl⟩
 rw [show Lib.hasPrefix (s.extract a s.size).data.toList (⟨#[35,40]⟩:ByteArray).data.toList=_ from Hhp1.out]
 try dsimp only
 go_wp2_with fail
 refine (Tryz.strings_HasPrefix _ _ _).mono ?_
 rintro e w1 ⟨rfl,rfl⟩
 rw [show Lib.hasPrefix (s.extract a s.size).data.toList (⟨#[35,92]⟩:ByteArray).data.toList=_ from Hhp2.out]
 try dsimp only
 go_wp2_with fail
 refine (HCH.out _ (HT.out.keep HK1.out)).mono ?_
 intro e w2 hres
 cases hR:R with
 | ok t=>
  rw [hR] at hres
  obtain ⟨k,c,neg,A,n,cp,x,he,hl,k2⟩:=hres
  obtain ⟨tk,htk⟩:∃ z:Int,z=(t.kind:Int):=⟨_,rfl⟩
  obtain ⟨te,hte⟩:∃ z:Int,z=((a+t.len:Nat):Int):=⟨_,rfl⟩
  obtain ⟨ts,hts⟩:∃ z:Bool,z=t.sq:=⟨_,rfl⟩
  rw [<- htk,<- hte,<- hts] at he
  subst he
  have HEND:=hid (show aU tk (a:Int) te ts k c neg A n cp x=aU t.kind (a:Int) ((a+t.len:Nat):Int) t.sq k c neg A n cp x by rw [htk,hte,hts])
  have HB2:=hid (k2.heap HB1.out (by simp))
  have HK2:=hid (HK1.out.trans k2)
  have HLF:=hid hl
  obtain ⟨⟨c0,c1,c2,c3,c4,c5,c6,c7,c8,c9⟩,f0,f1,f2,f3,f4,f5,f6,f7,f8,f9⟩:=ab HB2.out
  have HE:=hid (af HK2.out (Nat.le_refl _) (.int .i64 tk) (.int .i64 (a:Int)) (.int .i64 te) (.bool ts) (.int .i64 k) (.int .i32 c) (.bool neg) (.slice A n cp) (.string x) (.slice none 0 0))
  have HR:=hid (ab (ac HB2.out (.int .i64 tk) (.int .i64 (a:Int)) (.int .i64 te) (.bool ts) (.int .i64 k) (.int .i32 c) (.bool neg) (.slice A n cp) (.string x) (.slice none 0 0))).1
  have HRQ:=hid hR
  clear hl k2 htk hte hts hR
  try dsimp only
  go_wp2_with fail
  refine bodyPost_ret (v:=.tuple #[aU tk (a:Int) te ts k c neg A n cp x,.nilIface]) ?_ rfl ?_
  ·obtain ⟨e0,e1,e2,e3,e4,e5,e6,e7,e8,e9⟩:=HR.out
   simp [results,Tryz.results56,go_sem,e0,e1,e2,e3,e4,e5,e6,e7,e8,e9]
  ·rw [HRQ.out]
   exact ⟨k,c,neg,A,n,cp,x,by rw [HEND.out],fC HLF.out HB2.out (ba _ _ _ _ _ _ _ _ _ _ _ _),HE.out⟩
 | error q=>
  obtain ⟨p,c⟩:=q
  rw [hR] at hres
  obtain ⟨v,rfl,he,k2⟩:=hres
  have HB2:=hid (k2.heap HB1.out (by simp))
  obtain ⟨⟨c0,c1,c2,c3,c4,c5,c6,c7,c8,c9⟩,f0,f1,f2,f3,f4,f5,f6,f7,f8,f9⟩:=ab HB2.out
  have HE:=hid (aG (HK1.out.trans k2) (Nat.le_refl _) HB2.out he (.int .i64 0) (.int .i64 0) (.int .i64 0) (.bool false) (.int .i64 0) (.int .i32 0) (.bool false) (.slice none 0 0) (.string ⟨#[]⟩) (.slice none 0 0))
  have HR:=hid (ab (ac HB2.out (.int .i64 0) (.int .i64 0) (.int .i64 0) (.bool false) (.int .i64 0) (.int .i32 0) (.bool false) (.slice none 0 0) (.string ⟨#[]⟩) (.slice none 0 0))).1
  have HRQ:=hid hR
  clear he k2 hR
  try dsimp only
  go_wp2_with fail
  refine bodyPost_ret (v:=.tuple #[.agg ag,v]) ?_ rfl (by rw [HRQ.out];exact ⟨v,rfl,HE.out⟩)
  obtain ⟨e0,e1,e2,e3,e4,e5,e6,e7,e8,e9⟩:=HR.out
  simp [results,Tryz.results56,go_sem,e0,e1,e2,e3,e4,e5,e6,e7,e8,e9]
theorem sk (s:ByteArray) (a:Nat) (w:World) (hT:bE w) (ha:a<s.size) (hs:s.size<=1000000) (hw:[91,93,40,41,39,96,44,34,124].all (fun x=>decide (s.data.toList.getD a 0 ≠ x))=true) (h4:¬ (a+1<s.size/\s.data.toList.getD a 0=35/\s.data.toList.getD (a+1) 0=40)) (h5:¬ (a+1<s.size/\s.data.toList.getD a 0=35/\s.data.toList.getD (a+1) 0=92)) (hne:(s.data.toList.drop a).takeWhile bh ≠ []) :
 Calls Tryz.prog 56 #[.string s,.int .i64 (a:Int)] w (bj (de ((s.data.toList.drop a).takeWhile bh)) a w):=by
 have HT:=hid hT
 have hz:s.data.toList.length=s.size:=(Lib.size_eq s).symm
 obtain ⟨c,hcc⟩:∃ c,c=s.data.toList.getD a 0:=⟨_,rfl⟩
 have hx:∀ W:World,(Instr.index 9 (.string s) (.int .i64 (a:Int))).run Tryz.prog W=.ok (.int .u8 (c.toNat:Int)) W:=aK s a (by rw [hz];exact ha) c hcc
 rw [<- hcc] at hw h4 h5
 have hc0:[91,93,40,41,39,96,44,34,124].all (fun x=>decide (c ≠ x))=true:=hw
 have g91:((c.toNat:Int) == 91)=false:=aH (by simp at hc0;exact hc0.1)
 have g93:((c.toNat:Int) == 93)=false:=aH (by simp at hc0;exact hc0.2.1)
 have g40:((c.toNat:Int) == 40)=false:=aH (by simp at hc0;exact hc0.2.2.1)
 have g41:((c.toNat:Int) == 41)=false:=aH (by simp at hc0;exact hc0.2.2.2.1)
 have g39:((c.toNat:Int) == 39)=false:=aH (by simp at hc0;exact hc0.2.2.2.2.1)
 have g96:((c.toNat:Int) == 96)=false:=aH (by simp at hc0;exact hc0.2.2.2.2.2.1)
 have g44:((c.toNat:Int) == 44)=false:=aH (by simp at hc0;exact hc0.2.2.2.2.2.2.1)
 have g34:((c.toNat:Int) == 34)=false:=aH (by simp at hc0;exact hc0.2.2.2.2.2.2.2.1)
 have g124:((c.toNat:Int) == 124)=false:=aH (by simp at hc0;exact hc0.2.2.2.2.2.2.2.2)
 have hp1:Lib.hasPrefix (s.extract a s.size).data.toList [35,40]=false:=by
  rw [cH s a 35 40 ha,<- hcc]
  exact dF (fun h=>h4 ⟨h.1,h.2.1,h.2.2⟩)
 have hp2:Lib.hasPrefix (s.extract a s.size).data.toList [35,92]=false:=by
  rw [cH s a 35 92 ha,<- hcc]
  exact dF (fun h=>h5 ⟨h.1,h.2.1,h.2.2⟩)
 have Hhp1:=hid hp1
 have Hhp2:=hid hp2
 have HWD:=hid (fun w hT=>sd s a w hT (by omega) hs hne)
 obtain ⟨R,hRR⟩:∃ R,R=de ((s.data.toList.drop a).takeWhile bh):=⟨_,rfl⟩
 rw [<- hRR] at HWD ⊢
 obtain ⟨d,hd⟩:∃ d,d=(c.toNat:Int):=⟨_,rfl⟩
 rw [<- hd] at hx g91 g93 g40 g41 g39 g96 g44 g34 g124
 clear hp1 hp2 hRR hc0 hcc hz hw h4 h5 hd hne
 have hb:(w.alloc (.cells ag 29)).heap[w.heap.size]? = some (.cells ag 29 (0,0)):=hN w _
 have hb2:((w.alloc (.cells ag 29)).alloc (.cells (tkC 0 (a:Int) ((a:Int)+1) false 0 0 false none 0 0 ⟨#[]⟩ none 0 0) 29)).heap[w.heap.size]? = some (.cells ag 29 (0,0)):=by
  rw [Below.heap_alloc _ _ _ (by simp)];exact hb
 have HB1:=hid hb2
 have HK1:=hid (show K0 w ((w.alloc (.cells ag 29)).alloc (.cells (tkC 0 (a:Int) ((a:Int)+1) false 0 0 false none 0 0 ⟨#[]⟩ none 0 0) 29)) from (kR.alloc _).alloc _)
 clear hb hb2
 clear hT
 go_enter Tryz.func56,Tryz.ntmps56
 go_wp2_with fail
 refine (Tryz.strings_HasPrefix _ _ _).mono ?_
 rintro e w1 ⟨rfl,rfl⟩
 rw [show Lib.hasPrefix (s.extract a s.size).data.toList (⟨#[35,40]⟩:ByteArray).data.toList=_ from Hhp1.out]
 try dsimp only
 go_wp2_with fail
 refine (Tryz.strings_HasPrefix _ _ _).mono ?_
 rintro e w1 ⟨rfl,rfl⟩
 rw [show Lib.hasPrefix (s.extract a s.size).data.toList (⟨#[35,92]⟩:ByteArray).data.toList=_ from Hhp2.out]
 try dsimp only
 go_wp2_with fail
 refine (HWD.out _ (HT.out.keep HK1.out)).mono ?_
 intro e w2 hres
 cases hR:R with
 | ok t=>
  rw [hR] at hres
  obtain ⟨k,c,neg,A,n,cp,x,he,hl,k2⟩:=hres
  obtain ⟨tk,htk⟩:∃ z:Int,z=(t.kind:Int):=⟨_,rfl⟩
  obtain ⟨te,hte⟩:∃ z:Int,z=((a+t.len:Nat):Int):=⟨_,rfl⟩
  obtain ⟨ts,hts⟩:∃ z:Bool,z=t.sq:=⟨_,rfl⟩
  rw [<- htk,<- hte,<- hts] at he
  subst he
  have HEND:=hid (show aU tk (a:Int) te ts k c neg A n cp x=aU t.kind (a:Int) ((a+t.len:Nat):Int) t.sq k c neg A n cp x by rw [htk,hte,hts])
  have HB2:=hid (k2.heap HB1.out (by simp))
  have HK2:=hid (HK1.out.trans k2)
  have HLF:=hid hl
  obtain ⟨⟨c0,c1,c2,c3,c4,c5,c6,c7,c8,c9⟩,f0,f1,f2,f3,f4,f5,f6,f7,f8,f9⟩:=ab HB2.out
  have HE:=hid (af HK2.out (Nat.le_refl _) (.int .i64 tk) (.int .i64 (a:Int)) (.int .i64 te) (.bool ts) (.int .i64 k) (.int .i32 c) (.bool neg) (.slice A n cp) (.string x) (.slice none 0 0))
  have HR:=hid (ab (ac HB2.out (.int .i64 tk) (.int .i64 (a:Int)) (.int .i64 te) (.bool ts) (.int .i64 k) (.int .i32 c) (.bool neg) (.slice A n cp) (.string x) (.slice none 0 0))).1
  have HRQ:=hid hR
  clear hl k2 htk hte hts hR
  try dsimp only
  go_wp2_with fail
  refine bodyPost_ret (v:=.tuple #[aU tk (a:Int) te ts k c neg A n cp x,.nilIface]) ?_ rfl ?_
  ·obtain ⟨e0,e1,e2,e3,e4,e5,e6,e7,e8,e9⟩:=HR.out
   simp [results,Tryz.results56,go_sem,e0,e1,e2,e3,e4,e5,e6,e7,e8,e9]
  ·rw [HRQ.out]
   exact ⟨k,c,neg,A,n,cp,x,by rw [HEND.out],fC HLF.out HB2.out (ba _ _ _ _ _ _ _ _ _ _ _ _),HE.out⟩
 | error q=>
  obtain ⟨p,c⟩:=q
  rw [hR] at hres
  obtain ⟨v,rfl,he,k2⟩:=hres
  have HB2:=hid (k2.heap HB1.out (by simp))
  obtain ⟨⟨c0,c1,c2,c3,c4,c5,c6,c7,c8,c9⟩,f0,f1,f2,f3,f4,f5,f6,f7,f8,f9⟩:=ab HB2.out
  have HE:=hid (aG (HK1.out.trans k2) (Nat.le_refl _) HB2.out he (.int .i64 0) (.int .i64 0) (.int .i64 0) (.bool false) (.int .i64 0) (.int .i32 0) (.bool false) (.slice none 0 0) (.string ⟨#[]⟩) (.slice none 0 0))
  have HR:=hid (ab (ac HB2.out (.int .i64 0) (.int .i64 0) (.int .i64 0) (.bool false) (.int .i64 0) (.int .i32 0) (.bool false) (.slice none 0 0) (.string ⟨#[]⟩) (.slice none 0 0))).1
  have HRQ:=hid hR
  clear he k2 hR
  try dsimp only
  go_wp2_with fail
  refine bodyPost_ret (v:=.tuple #[.agg ag,v]) ?_ rfl (by rw [HRQ.out];exact ⟨v,rfl,HE.out⟩)
  obtain ⟨e0,e1,e2,e3,e4,e5,e6,e7,e8,e9⟩:=HR.out
  simp [results,Tryz.results56,go_sem,e0,e1,e2,e3,e4,e5,e6,e7,e8,e9]
end Go.Proofs.YtonnikipeokkaaaGreatDoor
