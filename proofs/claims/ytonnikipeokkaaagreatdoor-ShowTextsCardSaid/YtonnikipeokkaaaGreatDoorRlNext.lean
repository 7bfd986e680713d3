/-
  The document's lex: Next.
-/
import Derived.Test.YtonnikipeokkaaaGreatDoorRlWord
import Derived.Test.YtonnikipeokkaaaGreatDoorRlConv
import Derived.Test.YtonnikipeokkaaaGreatDoorLxTop
namespace Go.Proofs.YtonnikipeokkaaaGreatDoor
set_option maxRecDepth 100000
set_option maxHeartbeats 3000000
open Go.Lib (hid)
open Go.RowKit Go.Lib
theorem oh {l:List UInt8} {a p:Nat} (ha:a<=l.length) (h:aC l a=.error p):p<l.length:=by
 unfold aC at h
 cases hs:aV 0 (l.drop a) with
 | ok m=>rw [hs] at h;cases h
 | error m=>
  rw [hs] at h
  have:=il _ _ _ (Nat.zero_le _) hs
  rw [List.length_drop] at this
  injection h with h
  omega
theorem p6 {c:UInt8} (hb:bO c=false) (h59:c ≠ 59) (h1:¬ (c=40\/c=91)) (h2:¬ (c=41\/c=93)) (h3:¬ c=39) (h4:¬ c=96) (h5:¬ c=44) (h6:¬ (c=34\/c=124)):bh c=true:=by
 unfold bh aX
 rw [hb]
 simp only [not_or] at h1 h2 h6
 simp [h1,h2,h3,h4,h5,h6,h59]
theorem oL (s:ByteArray) (at_:Int) (w:World) (h:4096<s.size) :
 Calls Tryz.prog 14 #[.string s,.int .i64 at_] w (bd (.error (0,12)) w):=by
 have h1:decide ((4096:Int)<(s.size:Int))=true:=dT (by omega)
 clear h
 go_enter Tryz.func14,Tryz.ntmps14
 go_wp2_with fail
 exact bodyPost_ret (v:=.tuple #[.agg ag,.int .i64 0,.int .i64 12]) (by simp [results,Tryz.results14,go_sem]) rfl ⟨rfl,kR.alloc _⟩
theorem qO (s:ByteArray) (at_:Int) (w:World) (h:¬ 4096<s.size) (ha:at_<0\/(s.size:Int)<at_) :
 Calls Tryz.prog 14 #[.string s,.int .i64 at_] w (bd (.error (0,1)) w):=by
 have h1:decide ((4096:Int)<(s.size:Int))=false:=dF (by omega)
 have h2:decide (4096<s.size)=false:=dF h
 clear h
 by_cases h0:at_<0
 ·have h3:decide (at_<0)=true:=dT h0
  clear ha h0
  go_enter Tryz.func14,Tryz.ntmps14
  go_wp2_with fail
  exact bodyPost_ret (v:=.tuple #[.agg ag,.int .i64 0,.int .i64 1]) (by simp [results,Tryz.results14,go_sem]) rfl ⟨rfl,kR.alloc _⟩
 ·have h3:decide (at_<0)=false:=dF h0
  have h4:decide ((s.size:Int)<at_)=true:=dT (by omega)
  clear ha h0
  go_enter Tryz.func14,Tryz.ntmps14
  go_wp2_with fail
  exact bodyPost_ret (v:=.tuple #[.agg ag,.int .i64 0,.int .i64 1]) (by simp [results,Tryz.results14,go_sem]) rfl ⟨rfl,kR.alloc _⟩
theorem oK (s:ByteArray) (a j:Nat) (w:World) (h:¬ 4096<s.size) (ha:a<=s.size) (hj:aC s.data.toList a=.error j) (hjs:j<s.size) :
 Calls Tryz.prog 14 #[.string s,.int .i64 (a:Int)] w (bd (.error (j,11)) w):=by
 have h1:decide ((4096:Int)<(s.size:Int))=false:=dF (by omega)
 have h2:decide (4096<s.size)=false:=dF h
 have h3:decide ((s.size:Int)<(a:Int))=false:=dF (by omega)
 have h4:decide (s.size<a)=false:=dF (by omega)
 have h5:decide ((a:Int)<0)=false:=dF (by omega)
 have hz:s.data.toList.length=s.size:=(Lib.size_eq s).symm
 have HSK:=hid (fun w=>bM s a w ha (by omega))
 have HJ:=hid hj
 have hb:(w.alloc (.cells ag 29)).heap[w.heap.size]? = some (.cells ag 29 (0,0)):=hN w _
 have HB1:=hid hb
 have HK1:=hid (show K0 w (w.alloc (.cells ag 29)) from kR.alloc _)
 have g1:decide ((-1:Int) - (j:Int)<0)=true:=dT (by omega)
 have b1:(-1:Int) - (-1 - (j:Int))=(j:Int):=by omega
 clear hb hj
 go_enter Tryz.func14,Tryz.ntmps14
 go_wp2_with fail
 generalize w.alloc (.cells ag 29)=w1 at *
 refine (HSK.out _).mono ?_
 rintro e w2 ⟨rfl,rfl⟩
 rw [HJ.out]
 unfold eH
 try dsimp only
 obtain ⟨⟨c0,c1,c2,c3,c4,c5,c6,c7,c8,c9⟩,f0,f1,f2,f3,f4,f5,f6,f7,f8,f9⟩:=ab HB1.out
 have HE:=hid (af HK1.out (Nat.le_refl _) (.int .i64 0) (.int .i64 0) (.int .i64 0) (.bool false) (.int .i64 0) (.int .i32 0) (.bool false) (.slice none 0 0) (.string ⟨#[]⟩) (.slice none 0 0))
 have HR:=hid (ab (ac HB1.out (.int .i64 0) (.int .i64 0) (.int .i64 0) (.bool false) (.int .i64 0) (.int .i32 0) (.bool false) (.slice none 0 0) (.string ⟨#[]⟩) (.slice none 0 0))).1
 try dsimp only
 go_wp2_with fail
 refine bodyPost_ret (v:=.tuple #[.agg ag,.int .i64 (j:Int),.int .i64 11]) ?_ rfl ?_
 ·obtain ⟨e0,e1,e2,e3,e4,e5,e6,e7,e8,e9⟩:=HR.out
  simp [results,Tryz.results14,go_sem,e0,e1,e2,e3,e4,e5,e6,e7,e8,e9]
 ·exact ⟨rfl,HE.out⟩
theorem qN (s:ByteArray) (a j:Nat) (w:World) (h:¬ 4096<s.size) (ha:a<=s.size) (hj:aC s.data.toList a=.ok j) (hjs:j=s.size) :
 Calls Tryz.prog 14 #[.string s,.int .i64 (a:Int)] w (bd (.ok (j,⟨0,0,false,.no⟩)) w):=by
 have h1:decide ((4096:Int)<(s.size:Int))=false:=dF (by omega)
 have h2:decide (4096<s.size)=false:=dF h
 have h3:decide ((s.size:Int)<(a:Int))=false:=dF (by omega)
 have h4:decide (s.size<a)=false:=dF (by omega)
 have h5:decide ((a:Int)<0)=false:=dF (by omega)
 have hz:s.data.toList.length=s.size:=(Lib.size_eq s).symm
 have HSK:=hid (fun w=>bM s a w ha (by omega))
 have HJ:=hid hj
 have hb:(w.alloc (.cells ag 29)).heap[w.heap.size]? = some (.cells ag 29 (0,0)):=hN w _
 have HB1:=hid hb
 have HK1:=hid (show K0 w (w.alloc (.cells ag 29)) from kR.alloc _)
 have g1:decide ((j:Int)<0)=false:=dF (by omega)
 have g2:((j:Int) == (s.size:Int))=true:=by simp;omega
 clear hjs
 clear hb hj
 go_enter Tryz.func14,Tryz.ntmps14
 go_wp2_with fail
 generalize w.alloc (.cells ag 29)=w1 at *
 refine (HSK.out _).mono ?_
 rintro e w2 ⟨rfl,rfl⟩
 rw [HJ.out]
 unfold eH
 try dsimp only
 obtain ⟨⟨c0,c1,c2,c3,c4,c5,c6,c7,c8,c9⟩,f0,f1,f2,f3,f4,f5,f6,f7,f8,f9⟩:=ab HB1.out
 have HE:=hid (af HK1.out (Nat.le_refl _) (.int .i64 0) (.int .i64 (j:Int)) (.int .i64 (j:Int)) (.bool false) (.int .i64 0) (.int .i32 0) (.bool false) (.slice none 0 0) (.string ⟨#[]⟩) (.slice none 0 0))
 have HR:=hid (ab (ac HB1.out (.int .i64 0) (.int .i64 (j:Int)) (.int .i64 (j:Int)) (.bool false) (.int .i64 0) (.int .i32 0) (.bool false) (.slice none 0 0) (.string ⟨#[]⟩) (.slice none 0 0))).1
 try dsimp only
 go_wp2_with fail
 refine bodyPost_ret (v:=.tuple #[aU 0 (j:Int) (j:Int) false 0 0 false none 0 0 ⟨#[]⟩,.int .i64 0,.int .i64 0]) ?_ rfl ?_
 ·obtain ⟨e0,e1,e2,e3,e4,e5,e6,e7,e8,e9⟩:=HR.out
  simp [results,Tryz.results14,go_sem,e0,e1,e2,e3,e4,e5,e6,e7,e8,e9]
 ·exact ⟨0,0,false,none,0,0,⟨#[]⟩,by rfl,⟨rfl,rfl,rfl,rfl,rfl,rfl,rfl⟩,HE.out⟩
theorem tB (s:ByteArray) (a j:Nat) (w:World) (h:¬ 4096<s.size) (ha:a<=s.size) (hj:aC s.data.toList a=.ok j) (hjs:j<s.size) (hc:s.data.toList.getD j 0=40) :
 Calls Tryz.prog 14 #[.string s,.int .i64 (a:Int)] w (bd (.ok (j,⟨1,1,false,.no⟩)) w):=by
 have h1:decide ((4096:Int)<(s.size:Int))=false:=dF (by omega)
 have h2:decide (4096<s.size)=false:=dF h
 have h3:decide ((s.size:Int)<(a:Int))=false:=dF (by omega)
 have h4:decide (s.size<a)=false:=dF (by omega)
 have h5:decide ((a:Int)<0)=false:=dF (by omega)
 have hz:s.data.toList.length=s.size:=(Lib.size_eq s).symm
 have HSK:=hid (fun w=>bM s a w ha (by omega))
 have HJ:=hid hj
 have hb:(w.alloc (.cells ag 29)).heap[w.heap.size]? = some (.cells ag 29 (0,0)):=hN w _
 have HB1:=hid hb
 have HK1:=hid (show K0 w (w.alloc (.cells ag 29)) from kR.alloc _)
 have g1:decide ((j:Int)<0)=false:=dF (by omega)
 have g2:((j:Int) == (s.size:Int))=false:=by simp;omega
 have j1:(j:Int)<(s.size:Int):=by omega
 have hx0:=aK s j (by omega) 40 hc.symm
 have hx:∀ W:World,(Instr.index 9 (.string s) (.int .i64 (j:Int))).run Tryz.prog W=.ok (.int .u8 40) W:=hx0
 clear hx0
 clear hc
 clear hb hj
 go_enter Tryz.func14,Tryz.ntmps14
 go_wp2_with fail
 generalize w.alloc (.cells ag 29)=w1 at *
 refine (HSK.out _).mono ?_
 rintro e w2 ⟨rfl,rfl⟩
 rw [HJ.out]
 unfold eH
 try dsimp only
 obtain ⟨⟨c0,c1,c2,c3,c4,c5,c6,c7,c8,c9⟩,f0,f1,f2,f3,f4,f5,f6,f7,f8,f9⟩:=ab HB1.out
 have HE:=hid (af HK1.out (Nat.le_refl _) (.int .i64 1) (.int .i64 (j:Int)) (.int .i64 ((j:Int)+1:Int)) (.bool false) (.int .i64 0) (.int .i32 0) (.bool false) (.slice none 0 0) (.string ⟨#[]⟩) (.slice none 0 0))
 have HR:=hid (ab (ac HB1.out (.int .i64 1) (.int .i64 (j:Int)) (.int .i64 ((j:Int)+1:Int)) (.bool false) (.int .i64 0) (.int .i32 0) (.bool false) (.slice none 0 0) (.string ⟨#[]⟩) (.slice none 0 0))).1
 try dsimp only
 go_wp2_with fail
 refine bodyPost_ret (v:=.tuple #[aU 1 (j:Int) ((j:Int)+1:Int) false 0 0 false none 0 0 ⟨#[]⟩,.int .i64 0,.int .i64 0]) ?_ rfl ?_
 ·obtain ⟨e0,e1,e2,e3,e4,e5,e6,e7,e8,e9⟩:=HR.out
  simp [results,Tryz.results14,go_sem,e0,e1,e2,e3,e4,e5,e6,e7,e8,e9]
 ·exact ⟨0,0,false,none,0,0,⟨#[]⟩,by rfl,⟨rfl,rfl,rfl,rfl,rfl,rfl,rfl⟩,HE.out⟩
theorem tw (s:ByteArray) (a j:Nat) (w:World) (h:¬ 4096<s.size) (ha:a<=s.size) (hj:aC s.data.toList a=.ok j) (hjs:j<s.size) (hc:s.data.toList.getD j 0=91) :
 Calls Tryz.prog 14 #[.string s,.int .i64 (a:Int)] w (bd (.ok (j,⟨1,1,true,.no⟩)) w):=by
 have h1:decide ((4096:Int)<(s.size:Int))=false:=dF (by omega)
 have h2:decide (4096<s.size)=false:=dF h
 have h3:decide ((s.size:Int)<(a:Int))=false:=dF (by omega)
 have h4:decide (s.size<a)=false:=dF (by omega)
 have h5:decide ((a:Int)<0)=false:=dF (by omega)
 have hz:s.data.toList.length=s.size:=(Lib.size_eq s).symm
 have HSK:=hid (fun w=>bM s a w ha (by omega))
 have HJ:=hid hj
 have hb:(w.alloc (.cells ag 29)).heap[w.heap.size]? = some (.cells ag 29 (0,0)):=hN w _
 have HB1:=hid hb
 have HK1:=hid (show K0 w (w.alloc (.cells ag 29)) from kR.alloc _)
 have g1:decide ((j:Int)<0)=false:=dF (by omega)
 have g2:((j:Int) == (s.size:Int))=false:=by simp;omega
 have j1:(j:Int)<(s.size:Int):=by omega
 have hx0:=aK s j (by omega) 91 hc.symm
 have hx:∀ W:World,(Instr.index 9 (.string s) (.int .i64 (j:Int))).run Tryz.prog W=.ok (.int .u8 91) W:=hx0
 clear hx0
 clear hc
 clear hb hj
 go_enter Tryz.func14,Tryz.ntmps14
 go_wp2_with fail
 generalize w.alloc (.cells ag 29)=w1 at *
 refine (HSK.out _).mono ?_
 rintro e w2 ⟨rfl,rfl⟩
 rw [HJ.out]
 unfold eH
 try dsimp only
 obtain ⟨⟨c0,c1,c2,c3,c4,c5,c6,c7,c8,c9⟩,f0,f1,f2,f3,f4,f5,f6,f7,f8,f9⟩:=ab HB1.out
 have HE:=hid (af HK1.out (Nat.le_refl _) (.int .i64 1) (.int .i64 (j:Int)) (.int .i64 ((j:Int)+1:Int)) (.bool true) (.int .i64 0) (.int .i32 0) (.bool false) (.slice none 0 0) (.string ⟨#[]⟩) (.slice none 0 0))
 have HR:=hid (ab (ac HB1.out (.int .i64 1) (.int .i64 (j:Int)) (.int .i64 ((j:Int)+1:Int)) (.bool true) (.int .i64 0) (.int .i32 0) (.bool false) (.slice none 0 0) (.string ⟨#[]⟩) (.slice none 0 0))).1
 try dsimp only
 go_wp2_with fail
 refine bodyPost_ret (v:=.tuple #[aU 1 (j:Int) ((j:Int)+1:Int) true 0 0 false none 0 0 ⟨#[]⟩,.int .i64 0,.int .i64 0]) ?_ rfl ?_
 ·obtain ⟨e0,e1,e2,e3,e4,e5,e6,e7,e8,e9⟩:=HR.out
  simp [results,Tryz.results14,go_sem,e0,e1,e2,e3,e4,e5,e6,e7,e8,e9]
 ·exact ⟨0,0,false,none,0,0,⟨#[]⟩,by rfl,⟨rfl,rfl,rfl,rfl,rfl,rfl,rfl⟩,HE.out⟩
theorem tz (s:ByteArray) (a j:Nat) (w:World) (h:¬ 4096<s.size) (ha:a<=s.size) (hj:aC s.data.toList a=.ok j) (hjs:j<s.size) (hc:s.data.toList.getD j 0=41) :
 Calls Tryz.prog 14 #[.string s,.int .i64 (a:Int)] w (bd (.ok (j,⟨2,1,false,.no⟩)) w):=by
 have h1:decide ((4096:Int)<(s.size:Int))=false:=dF (by omega)
 have h2:decide (4096<s.size)=false:=dF h
 have h3:decide ((s.size:Int)<(a:Int))=false:=dF (by omega)
 have h4:decide (s.size<a)=false:=dF (by omega)
 have h5:decide ((a:Int)<0)=false:=dF (by omega)
 have hz:s.data.toList.length=s.size:=(Lib.size_eq s).symm
 have HSK:=hid (fun w=>bM s a w ha (by omega))
 have HJ:=hid hj
 have hb:(w.alloc (.cells ag 29)).heap[w.heap.size]? = some (.cells ag 29 (0,0)):=hN w _
 have HB1:=hid hb
 have HK1:=hid (show K0 w (w.alloc (.cells ag 29)) from kR.alloc _)
 have g1:decide ((j:Int)<0)=false:=dF (by omega)
 have g2:((j:Int) == (s.size:Int))=false:=by simp;omega
 have j1:(j:Int)<(s.size:Int):=by omega
 have hx0:=aK s j (by omega) 41 hc.symm
 have hx:∀ W:World,(Instr.index 9 (.string s) (.int .i64 (j:Int))).run Tryz.prog W=.ok (.int .u8 41) W:=hx0
 clear hx0
 clear hc
 clear hb hj
 go_enter Tryz.func14,Tryz.ntmps14
 go_wp2_with fail
 generalize w.alloc (.cells ag 29)=w1 at *
 refine (HSK.out _).mono ?_
 rintro e w2 ⟨rfl,rfl⟩
 rw [HJ.out]
 unfold eH
 try dsimp only
 obtain ⟨⟨c0,c1,c2,c3,c4,c5,c6,c7,c8,c9⟩,f0,f1,f2,f3,f4,f5,f6,f7,f8,f9⟩:=ab HB1.out
 have HE:=hid (af HK1.out (Nat.le_refl _) (.int .i64 2) (.int .i64 (j:Int)) (.int .i64 ((j:Int)+1:Int)) (.bool false) (.int .i64 0) (.int .i32 0) (.bool false) (.slice none 0 0) (.string ⟨#[]⟩) (.slice none 0 0))
 have HR:=hid (ab (ac HB1.out (.int .i64 2) (.int .i64 (j:Int)) (.int .i64 ((j:Int)+1:Int)) (.bool false) (.int .i64 0) (.int .i32 0) (.bool false) (.slice none 0 0) (.string ⟨#[]⟩) (.slice none 0 0))).1
 try dsimp only
 go_wp2_with fail
 refine bodyPost_ret (v:=.tuple #[aU 2 (j:Int) ((j:Int)+1:Int) false 0 0 false none 0 0 ⟨#[]⟩,.int .i64 0,.int .i64 0]) ?_ rfl ?_
 ·obtain ⟨e0,e1,e2,e3,e4,e5,e6,e7,e8,e9⟩:=HR.out
  simp [results,Tryz.results14,go_sem,e0,e1,e2,e3,e4,e5,e6,e7,e8,e9]
 ·exact ⟨0,0,false,none,0,0,⟨#[]⟩,by rfl,⟨rfl,rfl,rfl,rfl,rfl,rfl,rfl⟩,HE.out⟩
theorem tu (s:ByteArray) (a j:Nat) (w:World) (h:¬ 4096<s.size) (ha:a<=s.size) (hj:aC s.data.toList a=.ok j) (hjs:j<s.size) (hc:s.data.toList.getD j 0=93) :
 Calls Tryz.prog 14 #[.string s,.int .i64 (a:Int)] w (bd (.ok (j,⟨2,1,true,.no⟩)) w):=by
 have h1:decide ((4096:Int)<(s.size:Int))=false:=dF (by omega)
 have h2:decide (4096<s.size)=false:=dF h
 have h3:decide ((s.size:Int)<(a:Int))=false:=dF (by omega)
 have h4:decide (s.size<a)=false:=dF (by omega)
 have h5:decide ((a:Int)<0)=false:=dF (by omega)
 have hz:s.data.toList.length=s.size:=(Lib.size_eq s).symm
 have HSK:=hid (fun w=>bM s a w ha (by omega))
 have HJ:=hid hj
 have hb:(w.alloc (.cells ag 29)).heap[w.heap.size]? = some (.cells ag 29 (0,0)):=hN w _
 have HB1:=hid hb
 have HK1:=hid (show K0 w (w.alloc (.cells ag 29)) from kR.alloc _)
 have g1:decide ((j:Int)<0)=false:=dF (by omega)
 have g2:((j:Int) == (s.size:Int))=false:=by simp;omega
 have j1:(j:Int)<(s.size:Int):=by omega
 have hx0:=aK s j (by omega) 93 hc.symm
 have hx:∀ W:World,(Instr.index 9 (.string s) (.int .i64 (j:Int))).run Tryz.prog W=.ok (.int .u8 93) W:=hx0
 clear hx0
 clear hc
 clear hb hj
 go_enter Tryz.func14,Tryz.ntmps14
 go_wp2_with fail
 generalize w.alloc (.cells ag 29)=w1 at *
 refine (HSK.out _).mono ?_
 rintro e w2 ⟨rfl,rfl⟩
 rw [HJ.out]
 unfold eH
 try dsimp only
 obtain ⟨⟨c0,c1,c2,c3,c4,c5,c6,c7,c8,c9⟩,f0,f1,f2,f3,f4,f5,f6,f7,f8,f9⟩:=ab HB1.out
 have HE:=hid (af HK1.out (Nat.le_refl _) (.int .i64 2) (.int .i64 (j:Int)) (.int .i64 ((j:Int)+1:Int)) (.bool true) (.int .i64 0) (.int .i32 0) (.bool false) (.slice none 0 0) (.string ⟨#[]⟩) (.slice none 0 0))
 have HR:=hid (ab (ac HB1.out (.int .i64 2) (.int .i64 (j:Int)) (.int .i64 ((j:Int)+1:Int)) (.bool true) (.int .i64 0) (.int .i32 0) (.bool false) (.slice none 0 0) (.string ⟨#[]⟩) (.slice none 0 0))).1
 try dsimp only
 go_wp2_with fail
 refine bodyPost_ret (v:=.tuple #[aU 2 (j:Int) ((j:Int)+1:Int) true 0 0 false none 0 0 ⟨#[]⟩,.int .i64 0,.int .i64 0]) ?_ rfl ?_
 ·obtain ⟨e0,e1,e2,e3,e4,e5,e6,e7,e8,e9⟩:=HR.out
  simp [results,Tryz.results14,go_sem,e0,e1,e2,e3,e4,e5,e6,e7,e8,e9]
 ·exact ⟨0,0,false,none,0,0,⟨#[]⟩,by rfl,⟨rfl,rfl,rfl,rfl,rfl,rfl,rfl⟩,HE.out⟩
theorem qL (s:ByteArray) (a j:Nat) (w:World) (h:¬ 4096<s.size) (ha:a<=s.size) (hj:aC s.data.toList a=.ok j) (hjs:j<s.size) (hc:s.data.toList.getD j 0=35) (hnx:j+1<s.size/\s.data.toList.getD (j+1) 0=40) :
 Calls Tryz.prog 14 #[.string s,.int .i64 (a:Int)] w (bd (.ok (j,⟨3,2,false,.no⟩)) w):=by
 have h1:decide ((4096:Int)<(s.size:Int))=false:=dF (by omega)
 have h2:decide (4096<s.size)=false:=dF h
 have h3:decide ((s.size:Int)<(a:Int))=false:=dF (by omega)
 have h4:decide (s.size<a)=false:=dF (by omega)
 have h5:decide ((a:Int)<0)=false:=dF (by omega)
 have hz:s.data.toList.length=s.size:=(Lib.size_eq s).symm
 have HSK:=hid (fun w=>bM s a w ha (by omega))
 have HJ:=hid hj
 have hb:(w.alloc (.cells ag 29)).heap[w.heap.size]? = some (.cells ag 29 (0,0)):=hN w _
 have HB1:=hid hb
 have HK1:=hid (show K0 w (w.alloc (.cells ag 29)) from kR.alloc _)
 have g1:decide ((j:Int)<0)=false:=dF (by omega)
 have g2:((j:Int) == (s.size:Int))=false:=by simp;omega
 have j1:(j:Int)<(s.size:Int):=by omega
 have hx0:=aK s j (by omega) 35 hc.symm
 have hx:∀ W:World,(Instr.index 9 (.string s) (.int .i64 (j:Int))).run Tryz.prog W=.ok (.int .u8 35) W:=hx0
 clear hx0
 have HT1:=hid (fun w=>(show Calls Tryz.prog 37 #[.string s,.int .i64 (j:Int),.int .u8 35,.int .u8 40] w (fun e w'=>e=.returned (.bool true)/\w=w') from by
  have:=cz s j 35 40 w (by omega) (by omega)
  rw [show (decide (j+1<s.size/\s.data.toList.getD j 0=35/\s.data.toList.getD (j+1) 0=40))=true from dT ⟨hnx.1,hc,hnx.2⟩] at this
  exact this))
 clear hc hnx
 clear hb hj
 go_enter Tryz.func14,Tryz.ntmps14
 go_wp2_with fail
 generalize w.alloc (.cells ag 29)=w1 at *
 refine (HSK.out _).mono ?_
 rintro e w2 ⟨rfl,rfl⟩
 rw [HJ.out]
 unfold eH
 try dsimp only
 go_wp2_with fail
 refine (HT1.out _).mono ?_
 rintro e w3 ⟨rfl,rfl⟩
 try dsimp only
 obtain ⟨⟨c0,c1,c2,c3,c4,c5,c6,c7,c8,c9⟩,f0,f1,f2,f3,f4,f5,f6,f7,f8,f9⟩:=ab HB1.out
 have HE:=hid (af HK1.out (Nat.le_refl _) (.int .i64 3) (.int .i64 (j:Int)) (.int .i64 ((j:Int)+2:Int)) (.bool false) (.int .i64 0) (.int .i32 0) (.bool false) (.slice none 0 0) (.string ⟨#[]⟩) (.slice none 0 0))
 have HR:=hid (ab (ac HB1.out (.int .i64 3) (.int .i64 (j:Int)) (.int .i64 ((j:Int)+2:Int)) (.bool false) (.int .i64 0) (.int .i32 0) (.bool false) (.slice none 0 0) (.string ⟨#[]⟩) (.slice none 0 0))).1
 try dsimp only
 go_wp2_with fail
 refine bodyPost_ret (v:=.tuple #[aU 3 (j:Int) ((j:Int)+2:Int) false 0 0 false none 0 0 ⟨#[]⟩,.int .i64 0,.int .i64 0]) ?_ rfl ?_
 ·obtain ⟨e0,e1,e2,e3,e4,e5,e6,e7,e8,e9⟩:=HR.out
  simp [results,Tryz.results14,go_sem,e0,e1,e2,e3,e4,e5,e6,e7,e8,e9]
 ·exact ⟨0,0,false,none,0,0,⟨#[]⟩,by rfl,⟨rfl,rfl,rfl,rfl,rfl,rfl,rfl⟩,HE.out⟩
theorem tC (s:ByteArray) (a j:Nat) (w:World) (h:¬ 4096<s.size) (ha:a<=s.size) (hj:aC s.data.toList a=.ok j) (hjs:j<s.size) (hc:s.data.toList.getD j 0=39) :
 Calls Tryz.prog 14 #[.string s,.int .i64 (a:Int)] w (bd (.ok (j,⟨4,1,false,.no⟩)) w):=by
 have h1:decide ((4096:Int)<(s.size:Int))=false:=dF (by omega)
 have h2:decide (4096<s.size)=false:=dF h
 have h3:decide ((s.size:Int)<(a:Int))=false:=dF (by omega)
 have h4:decide (s.size<a)=false:=dF (by omega)
 have h5:decide ((a:Int)<0)=false:=dF (by omega)
 have hz:s.data.toList.length=s.size:=(Lib.size_eq s).symm
 have HSK:=hid (fun w=>bM s a w ha (by omega))
 have HJ:=hid hj
 have hb:(w.alloc (.cells ag 29)).heap[w.heap.size]? = some (.cells ag 29 (0,0)):=hN w _
 have HB1:=hid hb
 have HK1:=hid (show K0 w (w.alloc (.cells ag 29)) from kR.alloc _)
 have g1:decide ((j:Int)<0)=false:=dF (by omega)
 have g2:((j:Int) == (s.size:Int))=false:=by simp;omega
 have j1:(j:Int)<(s.size:Int):=by omega
 have hx0:=aK s j (by omega) 39 hc.symm
 have hx:∀ W:World,(Instr.index 9 (.string s) (.int .i64 (j:Int))).run Tryz.prog W=.ok (.int .u8 39) W:=hx0
 clear hx0
 have HT1:=hid (fun w=>(show Calls Tryz.prog 37 #[.string s,.int .i64 (j:Int),.int .u8 35,.int .u8 40] w (fun e w'=>e=.returned (.bool false)/\w=w') from by
  have:=cz s j 35 40 w (by omega) (by omega)
  rw [show (decide (j+1<s.size/\s.data.toList.getD j 0=35/\s.data.toList.getD (j+1) 0=40))=false from dF (fun h=>by have:=h.2.1;rw [hc] at this;revert this;decide)] at this
  exact this))
 clear hc
 clear hb hj
 go_enter Tryz.func14,Tryz.ntmps14
 go_wp2_with fail
 generalize w.alloc (.cells ag 29)=w1 at *
 refine (HSK.out _).mono ?_
 rintro e w2 ⟨rfl,rfl⟩
 rw [HJ.out]
 unfold eH
 try dsimp only
 go_wp2_with fail
 refine (HT1.out _).mono ?_
 rintro e w3 ⟨rfl,rfl⟩
 try dsimp only
 obtain ⟨⟨c0,c1,c2,c3,c4,c5,c6,c7,c8,c9⟩,f0,f1,f2,f3,f4,f5,f6,f7,f8,f9⟩:=ab HB1.out
 have HE:=hid (af HK1.out (Nat.le_refl _) (.int .i64 4) (.int .i64 (j:Int)) (.int .i64 ((j:Int)+1:Int)) (.bool false) (.int .i64 0) (.int .i32 0) (.bool false) (.slice none 0 0) (.string ⟨#[]⟩) (.slice none 0 0))
 have HR:=hid (ab (ac HB1.out (.int .i64 4) (.int .i64 (j:Int)) (.int .i64 ((j:Int)+1:Int)) (.bool false) (.int .i64 0) (.int .i32 0) (.bool false) (.slice none 0 0) (.string ⟨#[]⟩) (.slice none 0 0))).1
 try dsimp only
 go_wp2_with fail
 refine bodyPost_ret (v:=.tuple #[aU 4 (j:Int) ((j:Int)+1:Int) false 0 0 false none 0 0 ⟨#[]⟩,.int .i64 0,.int .i64 0]) ?_ rfl ?_
 ·obtain ⟨e0,e1,e2,e3,e4,e5,e6,e7,e8,e9⟩:=HR.out
  simp [results,Tryz.results14,go_sem,e0,e1,e2,e3,e4,e5,e6,e7,e8,e9]
 ·exact ⟨0,0,false,none,0,0,⟨#[]⟩,by rfl,⟨rfl,rfl,rfl,rfl,rfl,rfl,rfl⟩,HE.out⟩
theorem tt (s:ByteArray) (a j:Nat) (w:World) (h:¬ 4096<s.size) (ha:a<=s.size) (hj:aC s.data.toList a=.ok j) (hjs:j<s.size) (hc:s.data.toList.getD j 0=96) :
 Calls Tryz.prog 14 #[.string s,.int .i64 (a:Int)] w (bd (.ok (j,⟨5,1,false,.no⟩)) w):=by
 have h1:decide ((4096:Int)<(s.size:Int))=false:=dF (by omega)
 have h2:decide (4096<s.size)=false:=dF h
 have h3:decide ((s.size:Int)<(a:Int))=false:=dF (by omega)
 have h4:decide (s.size<a)=false:=dF (by omega)
 have h5:decide ((a:Int)<0)=false:=dF (by omega)
 have hz:s.data.toList.length=s.size:=(Lib.size_eq s).symm
 have HSK:=hid (fun w=>bM s a w ha (by omega))
 have HJ:=hid hj
 have hb:(w.alloc (.cells ag 29)).heap[w.heap.size]? = some (.cells ag 29 (0,0)):=hN w _
 have HB1:=hid hb
 have HK1:=hid (show K0 w (w.alloc (.cells ag 29)) from kR.alloc _)
 have g1:decide ((j:Int)<0)=false:=dF (by omega)
 have g2:((j:Int) == (s.size:Int))=false:=by simp;omega
 have j1:(j:Int)<(s.size:Int):=by omega
 have hx0:=aK s j (by omega) 96 hc.symm
 have hx:∀ W:World,(Instr.index 9 (.string s) (.int .i64 (j:Int))).run Tryz.prog W=.ok (.int .u8 96) W:=hx0
 clear hx0
 have HT1:=hid (fun w=>(show Calls Tryz.prog 37 #[.string s,.int .i64 (j:Int),.int .u8 35,.int .u8 40] w (fun e w'=>e=.returned (.bool false)/\w=w') from by
  have:=cz s j 35 40 w (by omega) (by omega)
  rw [show (decide (j+1<s.size/\s.data.toList.getD j 0=35/\s.data.toList.getD (j+1) 0=40))=false from dF (fun h=>by have:=h.2.1;rw [hc] at this;revert this;decide)] at this
  exact this))
 clear hc
 clear hb hj
 go_enter Tryz.func14,Tryz.ntmps14
 go_wp2_with fail
 generalize w.alloc (.cells ag 29)=w1 at *
 refine (HSK.out _).mono ?_
 rintro e w2 ⟨rfl,rfl⟩
 rw [HJ.out]
 unfold eH
 try dsimp only
 go_wp2_with fail
 refine (HT1.out _).mono ?_
 rintro e w3 ⟨rfl,rfl⟩
 try dsimp only
 obtain ⟨⟨c0,c1,c2,c3,c4,c5,c6,c7,c8,c9⟩,f0,f1,f2,f3,f4,f5,f6,f7,f8,f9⟩:=ab HB1.out
 have HE:=hid (af HK1.out (Nat.le_refl _) (.int .i64 5) (.int .i64 (j:Int)) (.int .i64 ((j:Int)+1:Int)) (.bool false) (.int .i64 0) (.int .i32 0) (.bool false) (.slice none 0 0) (.string ⟨#[]⟩) (.slice none 0 0))
 have HR:=hid (ab (ac HB1.out (.int .i64 5) (.int .i64 (j:Int)) (.int .i64 ((j:Int)+1:Int)) (.bool false) (.int .i64 0) (.int .i32 0) (.bool false) (.slice none 0 0) (.string ⟨#[]⟩) (.slice none 0 0))).1
 try dsimp only
 go_wp2_with fail
 refine bodyPost_ret (v:=.tuple #[aU 5 (j:Int) ((j:Int)+1:Int) false 0 0 false none 0 0 ⟨#[]⟩,.int .i64 0,.int .i64 0]) ?_ rfl ?_
 ·obtain ⟨e0,e1,e2,e3,e4,e5,e6,e7,e8,e9⟩:=HR.out
  simp [results,Tryz.results14,go_sem,e0,e1,e2,e3,e4,e5,e6,e7,e8,e9]
 ·exact ⟨0,0,false,none,0,0,⟨#[]⟩,by rfl,⟨rfl,rfl,rfl,rfl,rfl,rfl,rfl⟩,HE.out⟩
theorem qQ (s:ByteArray) (a j:Nat) (w:World) (h:¬ 4096<s.size) (ha:a<=s.size) (hj:aC s.data.toList a=.ok j) (hjs:j<s.size) (hc:s.data.toList.getD j 0=44) (hnx:j+1<s.size/\s.data.toList.getD (j+1) 0=64) :
 Calls Tryz.prog 14 #[.string s,.int .i64 (a:Int)] w (bd (.ok (j,⟨7,2,false,.no⟩)) w):=by
 have h1:decide ((4096:Int)<(s.size:Int))=false:=dF (by omega)
 have h2:decide (4096<s.size)=false:=dF h
 have h3:decide ((s.size:Int)<(a:Int))=false:=dF (by omega)
 have h4:decide (s.size<a)=false:=dF (by omega)
 have h5:decide ((a:Int)<0)=false:=dF (by omega)
 have hz:s.data.toList.length=s.size:=(Lib.size_eq s).symm
 have HSK:=hid (fun w=>bM s a w ha (by omega))
 have HJ:=hid hj
 have hb:(w.alloc (.cells ag 29)).heap[w.heap.size]? = some (.cells ag 29 (0,0)):=hN w _
 have HB1:=hid hb
 have HK1:=hid (show K0 w (w.alloc (.cells ag 29)) from kR.alloc _)
 have g1:decide ((j:Int)<0)=false:=dF (by omega)
 have g2:((j:Int) == (s.size:Int))=false:=by simp;omega
 have j1:(j:Int)<(s.size:Int):=by omega
 have hx0:=aK s j (by omega) 44 hc.symm
 have hx:∀ W:World,(Instr.index 9 (.string s) (.int .i64 (j:Int))).run Tryz.prog W=.ok (.int .u8 44) W:=hx0
 clear hx0
 have HT1:=hid (fun w=>(show Calls Tryz.prog 37 #[.string s,.int .i64 (j:Int),.int .u8 35,.int .u8 40] w (fun e w'=>e=.returned (.bool false)/\w=w') from by
  have:=cz s j 35 40 w (by omega) (by omega)
  rw [show (decide (j+1<s.size/\s.data.toList.getD j 0=35/\s.data.toList.getD (j+1) 0=40))=false from dF (fun h=>by have:=h.2.1;rw [hc] at this;revert this;decide)] at this
  exact this))
 have HT2:=hid (fun w=>(show Calls Tryz.prog 37 #[.string s,.int .i64 (j:Int),.int .u8 44,.int .u8 64] w (fun e w'=>e=.returned (.bool true)/\w=w') from by
  have:=cz s j 44 64 w (by omega) (by omega)
  rw [show (decide (j+1<s.size/\s.data.toList.getD j 0=44/\s.data.toList.getD (j+1) 0=64))=true from dT ⟨hnx.1,hc,hnx.2⟩] at this
  exact this))
 clear hc hnx
 clear hb hj
 go_enter Tryz.func14,Tryz.ntmps14
 go_wp2_with fail
 generalize w.alloc (.cells ag 29)=w1 at *
 refine (HSK.out _).mono ?_
 rintro e w2 ⟨rfl,rfl⟩
 rw [HJ.out]
 unfold eH
 try dsimp only
 go_wp2_with fail
 refine (HT1.out _).mono ?_
 rintro e w3 ⟨rfl,rfl⟩
 try dsimp only
 go_wp2_with fail
 refine (HT2.out _).mono ?_
 rintro e w3 ⟨rfl,rfl⟩
 try dsimp only
 obtain ⟨⟨c0,c1,c2,c3,c4,c5,c6,c7,c8,c9⟩,f0,f1,f2,f3,f4,f5,f6,f7,f8,f9⟩:=ab HB1.out
 have HE:=hid (af HK1.out (Nat.le_refl _) (.int .i64 7) (.int .i64 (j:Int)) (.int .i64 ((j:Int)+2:Int)) (.bool false) (.int .i64 0) (.int .i32 0) (.bool false) (.slice none 0 0) (.string ⟨#[]⟩) (.slice none 0 0))
 have HR:=hid (ab (ac HB1.out (.int .i64 7) (.int .i64 (j:Int)) (.int .i64 ((j:Int)+2:Int)) (.bool false) (.int .i64 0) (.int .i32 0) (.bool false) (.slice none 0 0) (.string ⟨#[]⟩) (.slice none 0 0))).1
 try dsimp only
 go_wp2_with fail
 refine bodyPost_ret (v:=.tuple #[aU 7 (j:Int) ((j:Int)+2:Int) false 0 0 false none 0 0 ⟨#[]⟩,.int .i64 0,.int .i64 0]) ?_ rfl ?_
 ·obtain ⟨e0,e1,e2,e3,e4,e5,e6,e7,e8,e9⟩:=HR.out
  simp [results,Tryz.results14,go_sem,e0,e1,e2,e3,e4,e5,e6,e7,e8,e9]
 ·exact ⟨0,0,false,none,0,0,⟨#[]⟩,by rfl,⟨rfl,rfl,rfl,rfl,rfl,rfl,rfl⟩,HE.out⟩
theorem qR (s:ByteArray) (a j:Nat) (w:World) (h:¬ 4096<s.size) (ha:a<=s.size) (hj:aC s.data.toList a=.ok j) (hjs:j<s.size) (hc:s.data.toList.getD j 0=44) (hnx:¬ (j+1<s.size/\s.data.toList.getD (j+1) 0=64)) :
 Calls Tryz.prog 14 #[.string s,.int .i64 (a:Int)] w (bd (.ok (j,⟨6,1,false,.no⟩)) w):=by
 have h1:decide ((4096:Int)<(s.size:Int))=false:=dF (by omega)
 have h2:decide (4096<s.size)=false:=dF h
 have h3:decide ((s.size:Int)<(a:Int))=false:=dF (by omega)
 have h4:decide (s.size<a)=false:=dF (by omega)
 have h5:decide ((a:Int)<0)=false:=dF (by omega)
 have hz:s.data.toList.length=s.size:=(Lib.size_eq s).symm
 have HSK:=hid (fun w=>bM s a w ha (by omega))
 have HJ:=hid hj
 have hb:(w.alloc (.cells ag 29)).heap[w.heap.size]? = some (.cells ag 29 (0,0)):=hN w _
 have HB1:=hid hb
 have HK1:=hid (show K0 w (w.alloc (.cells ag 29)) from kR.alloc _)
 have g1:decide ((j:Int)<0)=false:=dF (by omega)
 have g2:((j:Int) == (s.size:Int))=false:=by simp;omega
 have j1:(j:Int)<(s.size:Int):=by omega
 have hx0:=aK s j (by omega) 44 hc.symm
 have hx:∀ W:World,(Instr.index 9 (.string s) (.int .i64 (j:Int))).run Tryz.prog W=.ok (.int .u8 44) W:=hx0
 clear hx0
 have HT1:=hid (fun w=>(show Calls Tryz.prog 37 #[.string s,.int .i64 (j:Int),.int .u8 35,.int .u8 40] w (fun e w'=>e=.returned (.bool false)/\w=w') from by
  have:=cz s j 35 40 w (by omega) (by omega)
  rw [show (decide (j+1<s.size/\s.data.toList.getD j 0=35/\s.data.toList.getD (j+1) 0=40))=false from dF (fun h=>by have:=h.2.1;rw [hc] at this;revert this;decide)] at this
  exact this))
 have HT2:=hid (fun w=>(show Calls Tryz.prog 37 #[.string s,.int .i64 (j:Int),.int .u8 44,.int .u8 64] w (fun e w'=>e=.returned (.bool false)/\w=w') from by
  have:=cz s j 44 64 w (by omega) (by omega)
  rw [show (decide (j+1<s.size/\s.data.toList.getD j 0=44/\s.data.toList.getD (j+1) 0=64))=false from dF (fun h=>hnx ⟨h.1,h.2.2⟩)] at this
  exact this))
 clear hc hnx
 clear hb hj
 go_enter Tryz.func14,Tryz.ntmps14
 go_wp2_with fail
 generalize w.alloc (.cells ag 29)=w1 at *
 refine (HSK.out _).mono ?_
 rintro e w2 ⟨rfl,rfl⟩
 rw [HJ.out]
 unfold eH
 try dsimp only
 go_wp2_with fail
 refine (HT1.out _).mono ?_
 rintro e w3 ⟨rfl,rfl⟩
 try dsimp only
 go_wp2_with fail
 refine (HT2.out _).mono ?_
 rintro e w3 ⟨rfl,rfl⟩
 try dsimp only
 obtain ⟨⟨c0,c1,c2,c3,c4,c5,c6,c7,c8,c9⟩,f0,f1,f2,f3,f4,f5,f6,f7,f8,f9⟩:=ab HB1.out
 have HE:=hid (af HK1.out (Nat.le_refl _) (.int .i64 6) (.int .i64 (j:Int)) (.int .i64 ((j:Int)+1:Int)) (.bool false) (.int .i64 0) (.int .i32 0) (.bool false) (.slice none 0 0) (.string ⟨#[]⟩) (.slice none 0 0))
 have HR:=hid (ab (ac HB1.out (.int .i64 6) (.int .i64 (j:Int)) (.int .i64 ((j:Int)+1:Int)) (.bool false) (.int .i64 0) (.int .i32 0) (.bool false) (.slice none 0 0) (.string ⟨#[]⟩) (.slice none 0 0))).1
 try dsimp only
 go_wp2_with fail
 refine bodyPost_ret (v:=.tuple #[aU 6 (j:Int) ((j:Int)+1:Int) false 0 0 false none 0 0 ⟨#[]⟩,.int .i64 0,.int .i64 0]) ?_ rfl ?_
 ·obtain ⟨e0,e1,e2,e3,e4,e5,e6,e7,e8,e9⟩:=HR.out
  simp [results,Tryz.results14,go_sem,e0,e1,e2,e3,e4,e5,e6,e7,e8,e9]
 ·exact ⟨0,0,false,none,0,0,⟨#[]⟩,by rfl,⟨rfl,rfl,rfl,rfl,rfl,rfl,rfl⟩,HE.out⟩
def atR (j:Nat):Except (Nat × Nat) Tk->Except (Nat × Nat) (Nat × Tk)
 | .ok t=>.ok (j,t)
 | .error (p,c)=>.error (j+p,c)
theorem oM (s:ByteArray) (a j:Nat) (w:World) (h:¬ 4096<s.size) (ha:a<=s.size) (hj:aC s.data.toList a=.ok j) (_hjs:j<s.size) (hc:s.data.toList.getD j 0=35) (hnx:j+1<s.size/\s.data.toList.getD (j+1) 0=92) :
 Calls Tryz.prog 14 #[.string s,.int .i64 (a:Int)] w (bd (atR j (dN (s.data.toList.drop (j+2)))) w):=by
 have h1:decide ((4096:Int)<(s.size:Int))=false:=dF (by omega)
 have h2:decide (4096<s.size)=false:=dF h
 have h3:decide ((s.size:Int)<(a:Int))=false:=dF (by omega)
 have h4:decide (s.size<a)=false:=dF (by omega)
 have h5:decide ((a:Int)<0)=false:=dF (by omega)
 have hz:s.data.toList.length=s.size:=(Lib.size_eq s).symm
 have HSK:=hid (fun w=>bM s a w ha (by omega))
 have HJ:=hid hj
 have hb:(w.alloc (.cells ag 29)).heap[w.heap.size]? = some (.cells ag 29 (0,0)):=hN w _
 have HB1:=hid hb
 have HK1:=hid (show K0 w (w.alloc (.cells ag 29)) from kR.alloc _)
 have g1:decide ((j:Int)<0)=false:=dF (by omega)
 have g2:((j:Int) == (s.size:Int))=false:=by simp;omega
 have j1:(j:Int)<(s.size:Int):=by omega
 have hx0:=aK s j (by omega) 35 hc.symm
 have hx:∀ W:World,(Instr.index 9 (.string s) (.int .i64 (j:Int))).run Tryz.prog W=.ok (.int .u8 35) W:=hx0
 clear hx0
 have HT1:=hid (fun w=>(show Calls Tryz.prog 37 #[.string s,.int .i64 (j:Int),.int .u8 35,.int .u8 40] w (fun e w'=>e=.returned (.bool false)/\w=w') from by
  have:=cz s j 35 40 w (by omega) (by omega)
  rw [show (decide (j+1<s.size/\s.data.toList.getD j 0=35/\s.data.toList.getD (j+1) 0=40))=false from dF (fun h=>by have:=h.2.2;rw [hnx.2] at this;revert this;decide)] at this
  exact this))
 have HT2:=hid (fun w=>(show Calls Tryz.prog 37 #[.string s,.int .i64 (j:Int),.int .u8 44,.int .u8 64] w (fun e w'=>e=.returned (.bool false)/\w=w') from by
  have:=cz s j 44 64 w (by omega) (by omega)
  rw [show (decide (j+1<s.size/\s.data.toList.getD j 0=44/\s.data.toList.getD (j+1) 0=64))=false from dF (fun h=>by have:=h.2.1;rw [hc] at this;revert this;decide)] at this
  exact this))
 have HT3:=hid (fun w=>(show Calls Tryz.prog 37 #[.string s,.int .i64 (j:Int),.int .u8 35,.int .u8 92] w (fun e w'=>e=.returned (.bool true)/\w=w') from by
  have:=cz s j 35 92 w (by omega) (by omega)
  rw [show (decide (j+1<s.size/\s.data.toList.getD j 0=35/\s.data.toList.getD (j+1) 0=92))=true from dT ⟨hnx.1,hc,hnx.2⟩] at this
  exact this))
 have HC:=hid (fun w=>qI s j w (by omega) (by omega))
 clear hc hnx
 clear hb hj
 go_enter Tryz.func14,Tryz.ntmps14
 go_wp2_with fail
 generalize w.alloc (.cells ag 29)=w1 at *
 refine (HSK.out _).mono ?_
 rintro e w2 ⟨rfl,rfl⟩
 rw [HJ.out]
 unfold eH
 try dsimp only
 go_wp2_with fail
 refine (HT1.out _).mono ?_
 rintro e w3 ⟨rfl,rfl⟩
 try dsimp only
 go_wp2_with fail
 refine (HT2.out _).mono ?_
 rintro e w3 ⟨rfl,rfl⟩
 try dsimp only
 go_wp2_with fail
 refine (HT3.out _).mono ?_
 rintro e w3 ⟨rfl,rfl⟩
 try dsimp only
 go_wp2_with fail
 refine (HC.out _).mono ?_
 intro e w4 hres
 cases hR:dN (s.data.toList.drop (j+2)) with
 | ok t=>
  rw [hR] at hres
  obtain ⟨k,c,neg,A,n,cp,x,he,hlf,k4⟩:=hres
  obtain ⟨tk,htk⟩:∃ z:Int,z=(t.kind:Int):=⟨_,rfl⟩
  obtain ⟨te,hte⟩:∃ z:Int,z=((j+t.len:Nat):Int):=⟨_,rfl⟩
  obtain ⟨ts,hts⟩:∃ z:Bool,z=t.sq:=⟨_,rfl⟩
  rw [<- htk,<- hte,<- hts] at he
  subst he
  have HEND:=hid (show aU tk (j:Int) te ts k c neg A n cp x=aU t.kind (j:Int) ((j+t.len:Nat):Int) t.sq k c neg A n cp x by rw [htk,hte,hts])
  have HQR:=hid hR
  have HB4:=hid (k4.heap HB1.out (by simp))
  have HK4:=hid (HK1.out.trans k4)
  have HL:=hid (fC hlf HB4.out (ba w4 w.heap.size (.int .i64 tk) (.int .i64 (j:Int)) (.int .i64 te) (.bool ts) (.int .i64 k) (.int .i32 c) (.bool neg) (.slice A n cp) (.string x) (.slice none 0 0)))
  clear hlf k4 htk hte hts hR
  obtain ⟨⟨c0,c1,c2,c3,c4,c5,c6,c7,c8,c9⟩,f0,f1,f2,f3,f4,f5,f6,f7,f8,f9⟩:=ab HB4.out
  have HE:=hid (af HK4.out (Nat.le_refl _) (.int .i64 tk) (.int .i64 (j:Int)) (.int .i64 te) (.bool ts) (.int .i64 k) (.int .i32 c) (.bool neg) (.slice A n cp) (.string x) (.slice none 0 0))
  have HR:=hid (ab (ac HB4.out (.int .i64 tk) (.int .i64 (j:Int)) (.int .i64 te) (.bool ts) (.int .i64 k) (.int .i32 c) (.bool neg) (.slice A n cp) (.string x) (.slice none 0 0))).1
  try dsimp only
  go_wp2_with fail
  refine bodyPost_ret (v:=.tuple #[aU tk (j:Int) te ts k c neg A n cp x,.int .i64 0,.int .i64 0]) ?_ rfl ?_
  ·obtain ⟨e0,e1,e2,e3,e4,e5,e6,e7,e8,e9⟩:=HR.out
   simp [results,Tryz.results14,go_sem,e0,e1,e2,e3,e4,e5,e6,e7,e8,e9]
  ·rw [HQR.out]
   exact ⟨k,c,neg,A,n,cp,x,by rw [HEND.out],HL.out,HE.out⟩
 | error q=>
  obtain ⟨p,q⟩:=q
  rw [hR] at hres
  obtain ⟨rfl,k4⟩:=hres
  obtain ⟨pp,hpp⟩:∃ z:Int,z=((j+p:Nat):Int):=⟨_,rfl⟩
  obtain ⟨qq,hqq⟩:∃ z:Int,z=(q:Int):=⟨_,rfl⟩
  rw [<- hpp,<- hqq]
  have HPP:=hid hpp
  have HQQ:=hid hqq
  have HQR:=hid hR
  have HB4:=hid (k4.heap HB1.out (by simp))
  have HK4:=hid (HK1.out.trans k4)
  clear k4 hR hpp hqq
  obtain ⟨⟨c0,c1,c2,c3,c4,c5,c6,c7,c8,c9⟩,f0,f1,f2,f3,f4,f5,f6,f7,f8,f9⟩:=ab HB4.out
  have HE:=hid (af HK4.out (Nat.le_refl _) (.int .i64 0) (.int .i64 0) (.int .i64 0) (.bool false) (.int .i64 0) (.int .i32 0) (.bool false) (.slice none 0 0) (.string ⟨#[]⟩) (.slice none 0 0))
  have HR:=hid (ab (ac HB4.out (.int .i64 0) (.int .i64 0) (.int .i64 0) (.bool false) (.int .i64 0) (.int .i32 0) (.bool false) (.slice none 0 0) (.string ⟨#[]⟩) (.slice none 0 0))).1
  try dsimp only
  go_wp2_with fail
  refine bodyPost_ret (v:=.tuple #[.agg ag,.int .i64 pp,.int .i64 qq]) ?_ rfl ?_
  ·obtain ⟨e0,e1,e2,e3,e4,e5,e6,e7,e8,e9⟩:=HR.out
   simp [results,Tryz.results14,go_sem,e0,e1,e2,e3,e4,e5,e6,e7,e8,e9]
  ·rw [HQR.out,HPP.out,HQQ.out]
   exact ⟨rfl,HE.out⟩
theorem oJ (s:ByteArray) (a j:Nat) (w:World) (h:¬ 4096<s.size) (ha:a<=s.size) (hj:aC s.data.toList a=.ok j) (hjs:j<s.size) (hn40:¬ s.data.toList.getD j 0=40) (hn91:¬ s.data.toList.getD j 0=91) (hn41:¬ s.data.toList.getD j 0=41) (hn93:¬ s.data.toList.getD j 0=93) (hn39:¬ s.data.toList.getD j 0=39) (hn96:¬ s.data.toList.getD j 0=96) (hn44:¬ s.data.toList.getD j 0=44) (hn34:¬ s.data.toList.getD j 0=34) (hn124:¬ s.data.toList.getD j 0=124) (hv:¬ (s.data.toList.getD j 0=35/\j+1<s.size/\s.data.toList.getD (j+1) 0=40)) (hch:¬ (s.data.toList.getD j 0=35/\j+1<s.size/\s.data.toList.getD (j+1) 0=92)) (hne:(s.data.toList.drop j).takeWhile bh ≠ []) :
 Calls Tryz.prog 14 #[.string s,.int .i64 (a:Int)] w (bd (atR j (de ((s.data.toList.drop j).takeWhile bh))) w):=by
 have h1:decide ((4096:Int)<(s.size:Int))=false:=dF (by omega)
 have h2:decide (4096<s.size)=false:=dF h
 have h3:decide ((s.size:Int)<(a:Int))=false:=dF (by omega)
 have h4:decide (s.size<a)=false:=dF (by omega)
 have h5:decide ((a:Int)<0)=false:=dF (by omega)
 have hz:s.data.toList.length=s.size:=(Lib.size_eq s).symm
 have HSK:=hid (fun w=>bM s a w ha (by omega))
 have HJ:=hid hj
 have hb:(w.alloc (.cells ag 29)).heap[w.heap.size]? = some (.cells ag 29 (0,0)):=hN w _
 have HB1:=hid hb
 have HK1:=hid (show K0 w (w.alloc (.cells ag 29)) from kR.alloc _)
 have g1:decide ((j:Int)<0)=false:=dF (by omega)
 have g2:((j:Int) == (s.size:Int))=false:=by simp;omega
 have j1:(j:Int)<(s.size:Int):=by omega
 have HT1:=hid (fun w=>(show Calls Tryz.prog 37 #[.string s,.int .i64 (j:Int),.int .u8 35,.int .u8 40] w (fun e w'=>e=.returned (.bool false)/\w=w') from by
  have:=cz s j 35 40 w (by omega) (by omega)
  rw [show (decide (j+1<s.size/\s.data.toList.getD j 0=35/\s.data.toList.getD (j+1) 0=40))=false from dF (fun h=>hv ⟨h.2.1,h.1,h.2.2⟩)] at this
  exact this))
 have HT2:=hid (fun w=>(show Calls Tryz.prog 37 #[.string s,.int .i64 (j:Int),.int .u8 44,.int .u8 64] w (fun e w'=>e=.returned (.bool false)/\w=w') from by
  have:=cz s j 44 64 w (by omega) (by omega)
  rw [show (decide (j+1<s.size/\s.data.toList.getD j 0=44/\s.data.toList.getD (j+1) 0=64))=false from dF (fun h=>hn44 h.2.1)] at this
  exact this))
 have HT3:=hid (fun w=>(show Calls Tryz.prog 37 #[.string s,.int .i64 (j:Int),.int .u8 35,.int .u8 92] w (fun e w'=>e=.returned (.bool false)/\w=w') from by
  have:=cz s j 35 92 w (by omega) (by omega)
  rw [show (decide (j+1<s.size/\s.data.toList.getD j 0=35/\s.data.toList.getD (j+1) 0=92))=false from dF (fun h=>hch ⟨h.2.1,h.1,h.2.2⟩)] at this
  exact this))
 have HC:=hid (fun w=>ql s j w (by omega) (by omega) hne)
 have hx:=aK s j (by omega) _ rfl
 have w40:(((s.data.toList.getD j 0).toNat:Int) == 40)=false:=aH hn40
 have w91:(((s.data.toList.getD j 0).toNat:Int) == 91)=false:=aH hn91
 have w41:(((s.data.toList.getD j 0).toNat:Int) == 41)=false:=aH hn41
 have w93:(((s.data.toList.getD j 0).toNat:Int) == 93)=false:=aH hn93
 have w39:(((s.data.toList.getD j 0).toNat:Int) == 39)=false:=aH hn39
 have w96:(((s.data.toList.getD j 0).toNat:Int) == 96)=false:=aH hn96
 have w44:(((s.data.toList.getD j 0).toNat:Int) == 44)=false:=aH hn44
 have w34:(((s.data.toList.getD j 0).toNat:Int) == 34)=false:=aH hn34
 have w124:(((s.data.toList.getD j 0).toNat:Int) == 124)=false:=aH hn124
 obtain ⟨dd,hdd⟩:∃ x,x=((s.data.toList.getD j 0).toNat:Int):=⟨_,rfl⟩
 rw [<- hdd] at hx w40 w91 w41 w93 w39 w96 w44 w34 w124
 clear hdd hv hch hne hn40 hn91 hn41 hn93 hn39 hn96 hn44 hn34 hn124
 clear hb hj
 go_enter Tryz.func14,Tryz.ntmps14
 go_wp2_with fail
 generalize w.alloc (.cells ag 29)=w1 at *
 refine (HSK.out _).mono ?_
 rintro e w2 ⟨rfl,rfl⟩
 rw [HJ.out]
 unfold eH
 try dsimp only
 go_wp2_with fail
 refine (HT1.out _).mono ?_
 rintro e w3 ⟨rfl,rfl⟩
 try dsimp only
 go_wp2_with fail
 refine (HT2.out _).mono ?_
 rintro e w3 ⟨rfl,rfl⟩
 try dsimp only
 go_wp2_with fail
 refine (HT3.out _).mono ?_
 rintro e w3 ⟨rfl,rfl⟩
 try dsimp only
 go_wp2_with fail
 refine (HC.out _).mono ?_
 intro e w4 hres
 cases hR:de ((s.data.toList.drop j).takeWhile bh) with
 | ok t=>
  rw [hR] at hres
  obtain ⟨k,c,neg,A,n,cp,x,he,hlf,k4⟩:=hres
  obtain ⟨tk,htk⟩:∃ z:Int,z=(t.kind:Int):=⟨_,rfl⟩
  obtain ⟨te,hte⟩:∃ z:Int,z=((j+t.len:Nat):Int):=⟨_,rfl⟩
  obtain ⟨ts,hts⟩:∃ z:Bool,z=t.sq:=⟨_,rfl⟩
  rw [<- htk,<- hte,<- hts] at he
  subst he
  have HEND:=hid (show aU tk (j:Int) te ts k c neg A n cp x=aU t.kind (j:Int) ((j+t.len:Nat):Int) t.sq k c neg A n cp x by rw [htk,hte,hts])
  have HQR:=hid hR
  have HB4:=hid (k4.heap HB1.out (by simp))
  have HK4:=hid (HK1.out.trans k4)
  have HL:=hid (fC hlf HB4.out (ba w4 w.heap.size (.int .i64 tk) (.int .i64 (j:Int)) (.int .i64 te) (.bool ts) (.int .i64 k) (.int .i32 c) (.bool neg) (.slice A n cp) (.string x) (.slice none 0 0)))
  clear hlf k4 htk hte hts hR
  obtain ⟨⟨c0,c1,c2,c3,c4,c5,c6,c7,c8,c9⟩,f0,f1,f2,f3,f4,f5,f6,f7,f8,f9⟩:=ab HB4.out
  have HE:=hid (af HK4.out (Nat.le_refl _) (.int .i64 tk) (.int .i64 (j:Int)) (.int .i64 te) (.bool ts) (.int .i64 k) (.int .i32 c) (.bool neg) (.slice A n cp) (.string x) (.slice none 0 0))
  have HR:=hid (ab (ac HB4.out (.int .i64 tk) (.int .i64 (j:Int)) (.int .i64 te) (.bool ts) (.int .i64 k) (.int .i32 c) (.bool neg) (.slice A n cp) (.string x) (.slice none 0 0))).1
  try dsimp only
  go_wp2_with fail
  refine bodyPost_ret (v:=.tuple #[aU tk (j:Int) te ts k c neg A n cp x,.int .i64 0,.int .i64 0]) ?_ rfl ?_
  ·obtain ⟨e0,e1,e2,e3,e4,e5,e6,e7,e8,e9⟩:=HR.out
   simp [results,Tryz.results14,go_sem,e0,e1,e2,e3,e4,e5,e6,e7,e8,e9]
  ·rw [HQR.out]
   exact ⟨k,c,neg,A,n,cp,x,by rw [HEND.out],HL.out,HE.out⟩
 | error q=>
  obtain ⟨p,q⟩:=q
  rw [hR] at hres
  obtain ⟨rfl,k4⟩:=hres
  obtain ⟨pp,hpp⟩:∃ z:Int,z=((j+p:Nat):Int):=⟨_,rfl⟩
  obtain ⟨qq,hqq⟩:∃ z:Int,z=(q:Int):=⟨_,rfl⟩
  rw [<- hpp,<- hqq]
  have HPP:=hid hpp
  have HQQ:=hid hqq
  have HQR:=hid hR
  have HB4:=hid (k4.heap HB1.out (by simp))
  have HK4:=hid (HK1.out.trans k4)
  clear k4 hR hpp hqq
  obtain ⟨⟨c0,c1,c2,c3,c4,c5,c6,c7,c8,c9⟩,f0,f1,f2,f3,f4,f5,f6,f7,f8,f9⟩:=ab HB4.out
  have HE:=hid (af HK4.out (Nat.le_refl _) (.int .i64 0) (.int .i64 0) (.int .i64 0) (.bool false) (.int .i64 0) (.int .i32 0) (.bool false) (.slice none 0 0) (.string ⟨#[]⟩) (.slice none 0 0))
  have HR:=hid (ab (ac HB4.out (.int .i64 0) (.int .i64 0) (.int .i64 0) (.bool false) (.int .i64 0) (.int .i32 0) (.bool false) (.slice none 0 0) (.string ⟨#[]⟩) (.slice none 0 0))).1
  try dsimp only
  go_wp2_with fail
  refine bodyPost_ret (v:=.tuple #[.agg ag,.int .i64 pp,.int .i64 qq]) ?_ rfl ?_
  ·obtain ⟨e0,e1,e2,e3,e4,e5,e6,e7,e8,e9⟩:=HR.out
   simp [results,Tryz.results14,go_sem,e0,e1,e2,e3,e4,e5,e6,e7,e8,e9]
  ·rw [HQR.out,HPP.out,HQQ.out]
   exact ⟨rfl,HE.out⟩
theorem m9 (s:ByteArray) (a j:Nat) (w:World) (h:¬ 4096<s.size) (ha:a<=s.size) (hj:aC s.data.toList a=.ok j) (hjs:j<s.size) (hc:s.data.toList.getD j 0=34) :
 Calls Tryz.prog 14 #[.string s,.int .i64 (a:Int)] w (bd (atR j (fA 34 (s.data.toList.drop (j+1)))) w):=by
 have h1:decide ((4096:Int)<(s.size:Int))=false:=dF (by omega)
 have h2:decide (4096<s.size)=false:=dF h
 have h3:decide ((s.size:Int)<(a:Int))=false:=dF (by omega)
 have h4:decide (s.size<a)=false:=dF (by omega)
 have h5:decide ((a:Int)<0)=false:=dF (by omega)
 have hz:s.data.toList.length=s.size:=(Lib.size_eq s).symm
 have HSK:=hid (fun w=>bM s a w ha (by omega))
 have HJ:=hid hj
 have hb:(w.alloc (.cells ag 29)).heap[w.heap.size]? = some (.cells ag 29 (0,0)):=hN w _
 have HB1:=hid hb
 have HK1:=hid (show K0 w (w.alloc (.cells ag 29)) from kR.alloc _)
 have g1:decide ((j:Int)<0)=false:=dF (by omega)
 have g2:((j:Int) == (s.size:Int))=false:=by simp;omega
 have j1:(j:Int)<(s.size:Int):=by omega
 have hx0:=aK s j (by omega) 34 hc.symm
 have hx:∀ W:World,(Instr.index 9 (.string s) (.int .i64 (j:Int))).run Tryz.prog W=.ok (.int .u8 34) W:=hx0
 clear hx0
 have HT1:=hid (fun w=>(show Calls Tryz.prog 37 #[.string s,.int .i64 (j:Int),.int .u8 35,.int .u8 40] w (fun e w'=>e=.returned (.bool false)/\w=w') from by
  have:=cz s j 35 40 w (by omega) (by omega)
  rw [show (decide (j+1<s.size/\s.data.toList.getD j 0=35/\s.data.toList.getD (j+1) 0=40))=false from dF (fun h=>by have:=h.2.1;rw [hc] at this;revert this;decide)] at this
  exact this))
 have HT2:=hid (fun w=>(show Calls Tryz.prog 37 #[.string s,.int .i64 (j:Int),.int .u8 44,.int .u8 64] w (fun e w'=>e=.returned (.bool false)/\w=w') from by
  have:=cz s j 44 64 w (by omega) (by omega)
  rw [show (decide (j+1<s.size/\s.data.toList.getD j 0=44/\s.data.toList.getD (j+1) 0=64))=false from dF (fun h=>by have:=h.2.1;rw [hc] at this;revert this;decide)] at this
  exact this))
 have HQ:=hid (fun w=>(show Calls Tryz.prog 38 #[.string s,.int .i64 (j:Int)] w (kH ((dj 34 0 (s.data.toList.drop (j+1))).up [] (j+1)) j w) from jk s j 34 w hjs (by omega) hc.symm))
 have HTX:=hid (fun (x:ByteArray) (b:Nat) (w:World) (hx:x.size<=1000000)=>(show Calls Tryz.prog 39 #[.int .i64 5,.string x,.int .i64 (j:Int),.int .i64 (b:Int)] w (gT (cA false x.data.toList) false x j b w) from gg false x j b w hx))
 have HLEN:=hid (show (s.data.toList.drop (j+1)).length<=100000 by rw [List.length_drop];omega)
 obtain ⟨y,hy⟩:∃ y,y=s.data.toList.drop (j+1):=⟨_,rfl⟩
 rw [<- hy] at HQ HLEN ⊢
 clear hc hy
 clear hb hj
 go_enter Tryz.func14,Tryz.ntmps14
 go_wp2_with fail
 generalize w.alloc (.cells ag 29)=w1 at *
 refine (HSK.out _).mono ?_
 rintro e w2 ⟨rfl,rfl⟩
 rw [HJ.out]
 unfold eH
 try dsimp only
 go_wp2_with fail
 refine (HT1.out _).mono ?_
 rintro e w3 ⟨rfl,rfl⟩
 try dsimp only
 go_wp2_with fail
 refine (HT2.out _).mono ?_
 rintro e w3 ⟨rfl,rfl⟩
 try dsimp only
 go_wp2_with fail
 refine (HQ.out _).mono ?_
 intro e w4 hres
 cases hR:dj 34 0 y with
 | open_=>
  rw [hR] at hres
  obtain ⟨rfl,k4⟩:=hres
  have HQR:=hid hR
  have k5:=k4.alloc (.cells #[.slice none 0 0,.int .i64 0,.int .i64 (j:Int),.int .i64 11] 72)
  have hb8:(w4.alloc (.cells #[.slice none 0 0,.int .i64 0,.int .i64 (j:Int),.int .i64 11] 72)).heap[w4.heap.size]? = some (.cells #[.slice none 0 0,.int .i64 0,.int .i64 (j:Int),.int .i64 11] 72 (0,0)):=hN w4 _
  have HB5:=hid (k5.heap HB1.out (by simp))
  have HK5:=hid (HK1.out.trans k5)
  have hlt:=az (k4.heap HB1.out (by simp))
  have HLT:=hid hlt
  have HB8:=hid hb8
  clear k4 k5 hR hb8 hlt
  try dsimp only
  go_wp2_with fail
  generalize (w4.alloc (.cells #[.slice none 0 0,.int .i64 0,.int .i64 (j:Int),.int .i64 11] 72))=w5 at *
  have n2:¬ w4.heap.size=w.heap.size:=by have:=HLT.out;omega
  generalize hB0:w.heap.size=B0 at *
  generalize w4.heap.size=B4 at *
  obtain ⟨⟨c0,c1,c2,c3,c4,c5,c6,c7,c8,c9⟩,f0,f1,f2,f3,f4,f5,f6,f7,f8,f9⟩:=ab HB5.out
  have HE:=hid (af HK5.out (by rw [hB0];exact Nat.le_refl _) (.int .i64 0) (.int .i64 0) (.int .i64 0) (.bool false) (.int .i64 0) (.int .i32 0) (.bool false) (.slice none 0 0) (.string ⟨#[]⟩) (.slice none 0 0))
  have HR:=hid (ab (ac HB5.out (.int .i64 0) (.int .i64 0) (.int .i64 0) (.bool false) (.int .i64 0) (.int .i32 0) (.bool false) (.slice none 0 0) (.string ⟨#[]⟩) (.slice none 0 0))).1
  have g2:w5.cell? ⟨B4,2,none⟩=some (.int .i64 (j:Int)):=by rw [cell_of_row w5 _ _ _ _ _ HB8.out];rfl
  have g3:w5.cell? ⟨B4,3,none⟩=some (.int .i64 11):=by rw [cell_of_row w5 _ _ _ _ _ HB8.out];rfl
  have ks:=ba w5 B0 (.int .i64 0) (.int .i64 0) (.int .i64 0) (.bool false) (.int .i64 0) (.int .i32 0) (.bool false) (.slice none 0 0) (.string ⟨#[]⟩) (.slice none 0 0)
  have l2:=bL w5 _ g2
  have p2:=(ks.cell (p:=⟨B4,2,none⟩) l2 n2).trans g2
  have p3:=(ks.cell (p:=⟨B4,3,none⟩) l2 n2).trans g3
  dsimp only [cZ] at p2 p3
  clear ks l2
  go_wp2_with fail
  go_big_region
  go_wp2_with fail
  refine bodyPost_ret (v:=.tuple #[.agg ag,.int .i64 (j:Int),.int .i64 11]) ?_ rfl ?_
  ·obtain ⟨e0,e1,e2,e3,e4,e5,e6,e7,e8,e9⟩:=HR.out
   simp [results,Tryz.results14,go_sem,e0,e1,e2,e3,e4,e5,e6,e7,e8,e9]
  ·unfold fA
   rw [HQR.out]
   exact ⟨rfl,HE.out.drew⟩
 | bad i=>
  rw [hR] at hres
  obtain ⟨rfl,k4⟩:=hres
  obtain ⟨jj,hjj⟩:∃ jj,jj=j+1+i:=⟨_,rfl⟩
  have HJJ:=hid (show jj=j+(1+i) by omega)
  rw [<- hjj]
  clear hjj
  have HQR:=hid hR
  have k5:=k4.alloc (.cells #[.slice none 0 0,.int .i64 0,.int .i64 (jj:Int),.int .i64 9] 72)
  have hb8:(w4.alloc (.cells #[.slice none 0 0,.int .i64 0,.int .i64 (jj:Int),.int .i64 9] 72)).heap[w4.heap.size]? = some (.cells #[.slice none 0 0,.int .i64 0,.int .i64 (jj:Int),.int .i64 9] 72 (0,0)):=hN w4 _
  have HB5:=hid (k5.heap HB1.out (by simp))
  have HK5:=hid (HK1.out.trans k5)
  have hlt:=az (k4.heap HB1.out (by simp))
  have HLT:=hid hlt
  have HB8:=hid hb8
  clear k4 k5 hR hb8 hlt
  try dsimp only
  go_wp2_with fail
  generalize (w4.alloc (.cells #[.slice none 0 0,.int .i64 0,.int .i64 (jj:Int),.int .i64 9] 72))=w5 at *
  have n2:¬ w4.heap.size=w.heap.size:=by have:=HLT.out;omega
  generalize hB0:w.heap.size=B0 at *
  generalize w4.heap.size=B4 at *
  obtain ⟨⟨c0,c1,c2,c3,c4,c5,c6,c7,c8,c9⟩,f0,f1,f2,f3,f4,f5,f6,f7,f8,f9⟩:=ab HB5.out
  have HE:=hid (af HK5.out (by rw [hB0];exact Nat.le_refl _) (.int .i64 0) (.int .i64 0) (.int .i64 0) (.bool false) (.int .i64 0) (.int .i32 0) (.bool false) (.slice none 0 0) (.string ⟨#[]⟩) (.slice none 0 0))
  have HR:=hid (ab (ac HB5.out (.int .i64 0) (.int .i64 0) (.int .i64 0) (.bool false) (.int .i64 0) (.int .i32 0) (.bool false) (.slice none 0 0) (.string ⟨#[]⟩) (.slice none 0 0))).1
  have g2:w5.cell? ⟨B4,2,none⟩=some (.int .i64 (jj:Int)):=by rw [cell_of_row w5 _ _ _ _ _ HB8.out];rfl
  have g3:w5.cell? ⟨B4,3,none⟩=some (.int .i64 9):=by rw [cell_of_row w5 _ _ _ _ _ HB8.out];rfl
  have ks:=ba w5 B0 (.int .i64 0) (.int .i64 0) (.int .i64 0) (.bool false) (.int .i64 0) (.int .i32 0) (.bool false) (.slice none 0 0) (.string ⟨#[]⟩) (.slice none 0 0)
  have l2:=bL w5 _ g2
  have p2:=(ks.cell (p:=⟨B4,2,none⟩) l2 n2).trans g2
  have p3:=(ks.cell (p:=⟨B4,3,none⟩) l2 n2).trans g3
  dsimp only [cZ] at p2 p3
  clear ks l2
  go_wp2_with fail
  go_big_region
  go_wp2_with fail
  refine bodyPost_ret (v:=.tuple #[.agg ag,.int .i64 (jj:Int),.int .i64 9]) ?_ rfl ?_
  ·obtain ⟨e0,e1,e2,e3,e4,e5,e6,e7,e8,e9⟩:=HR.out
   simp [results,Tryz.results14,go_sem,e0,e1,e2,e3,e4,e5,e6,e7,e8,e9]
  ·unfold fA
   rw [HQR.out]
   show _=_/\_
   rw [HJJ.out]
   exact ⟨rfl,HE.out.drew⟩
 | ok out n=>
  rw [hR] at hres
  obtain ⟨A,m,cp,rfl,hby,k4⟩:=hres
  rw [List.nil_append] at hby
  have hol:=fP 34 _ _ _ _ hR
  have HXS:=hid (show (⟨out.toArray⟩:ByteArray).size<=1000000 by rw [Lib.size_eq];have:=HLEN.out;have:=jA hR;simp only;omega)
  have HQR:=hid hR
  clear hR hol
  obtain ⟨en,hen⟩:∃ en,en=j+1+n:=⟨_,rfl⟩
  rw [<- hen]
  have HEN:=hid (show en=j+(1+n) by omega)
  clear hen
  obtain ⟨xs,hxs⟩:∃ xs:ByteArray,xs=⟨out.toArray⟩:=⟨_,rfl⟩
  have hcv:∀ W:World,K0 w4 W->(convert 70 9 (.slice A m cp)).run Tryz.prog W=.ok (.string xs) W:=fun W K=>by rw [hxs];exact kE (hby.keep K (fun _ h=>h.elim))
  rw [<- hxs] at HXS
  have HO:=hid (show xs.data.toList=out by rw [hxs])
  have k5:=k4.alloc (.cells #[.slice A m cp,.int .i64 (en:Int),.int .i64 0,.int .i64 0] 72)
  have hcv:=hcv _ (kR.alloc (.cells #[.slice A m cp,.int .i64 (en:Int),.int .i64 0,.int .i64 0] 72))
  have HB5:=hid (k5.heap HB1.out (by simp))
  have HK5:=hid (HK1.out.trans k5)
  clear hxs k4 k5 hby
  try dsimp only
  go_wp2_with fail
  refine (HTX.out xs en _ HXS.out).mono ?_
  rw [HO.out]
  intro e w6 hres
  cases hR:cA false out with
  | ok d=>
   rw [hR] at hres
   have hres:e=.returned (.tuple #[aU 9 (j:Int) (en:Int) false 5 0 false none 0 0 xs,.int .i64 0,.int .i64 0])/\K0 _ w6:=hres
   obtain ⟨rfl,k6⟩:=hres
   have HB6:=hid (k6.heap HB5.out (by simp))
   have HK6:=hid (HK5.out.trans k6)
   have HRQ:=hid hR
   clear k6 hR hcv
   obtain ⟨⟨c0,c1,c2,c3,c4,c5,c6,c7,c8,c9⟩,f0,f1,f2,f3,f4,f5,f6,f7,f8,f9⟩:=ab HB6.out
   have HE:=hid (af HK6.out (Nat.le_refl _) (.int .i64 9) (.int .i64 (j:Int)) (.int .i64 (en:Int)) (.bool false) (.int .i64 5) (.int .i32 0) (.bool false) (.slice none 0 0) (.string xs) (.slice none 0 0))
   have HR:=hid (ab (ac HB6.out (.int .i64 9) (.int .i64 (j:Int)) (.int .i64 (en:Int)) (.bool false) (.int .i64 5) (.int .i32 0) (.bool false) (.slice none 0 0) (.string xs) (.slice none 0 0))).1
   try dsimp only
   go_wp2_with fail
   refine bodyPost_ret (v:=.tuple #[aU 9 (j:Int) (en:Int) false 5 0 false none 0 0 xs,.int .i64 0,.int .i64 0]) ?_ rfl ?_
   ·obtain ⟨e0,e1,e2,e3,e4,e5,e6,e7,e8,e9⟩:=HR.out
    simp [results,Tryz.results14,go_sem,e0,e1,e2,e3,e4,e5,e6,e7,e8,e9]
   ·unfold fA
    rw [HQR.out]
    dsimp only
    rw [show ((34:UInt8) == 124)=false from rfl,HRQ.out]
    refine ⟨5,0,false,none,0,0,xs,by rw [HEN.out];rfl,?_,HE.out⟩
    rw [gy HRQ.out]
    exact ⟨rfl,rfl,rfl,rfl,rfl,rfl,by rw [<- HO.out]⟩
  | error q=>
   rw [hR] at hres
   obtain ⟨rfl,k6⟩:=hres
   obtain ⟨qq,hqq⟩:∃ z:Int,z=(q:Int):=⟨_,rfl⟩
   rw [<- hqq]
   have HQQ:=hid hqq
   have HB6:=hid (k6.heap HB5.out (by simp))
   have HK6:=hid (HK5.out.trans k6)
   have HRQ:=hid hR
   clear k6 hR hqq hcv
   obtain ⟨⟨c0,c1,c2,c3,c4,c5,c6,c7,c8,c9⟩,f0,f1,f2,f3,f4,f5,f6,f7,f8,f9⟩:=ab HB6.out
   have HE:=hid (af HK6.out (Nat.le_refl _) (.int .i64 0) (.int .i64 0) (.int .i64 0) (.bool false) (.int .i64 0) (.int .i32 0) (.bool false) (.slice none 0 0) (.string ⟨#[]⟩) (.slice none 0 0))
   have HR:=hid (ab (ac HB6.out (.int .i64 0) (.int .i64 0) (.int .i64 0) (.bool false) (.int .i64 0) (.int .i32 0) (.bool false) (.slice none 0 0) (.string ⟨#[]⟩) (.slice none 0 0))).1
   try dsimp only
   go_wp2_with fail
   refine bodyPost_ret (v:=.tuple #[.agg ag,.int .i64 (j:Int),.int .i64 qq]) ?_ rfl ?_
   ·obtain ⟨e0,e1,e2,e3,e4,e5,e6,e7,e8,e9⟩:=HR.out
    simp [results,Tryz.results14,go_sem,e0,e1,e2,e3,e4,e5,e6,e7,e8,e9]
   ·unfold fA
    rw [HQR.out]
    dsimp only
    rw [show ((34:UInt8) == 124)=false from rfl,HRQ.out,HQQ.out]
    exact ⟨rfl,HE.out⟩
theorem lV (s:ByteArray) (a j:Nat) (w:World) (h:¬ 4096<s.size) (ha:a<=s.size) (hj:aC s.data.toList a=.ok j) (hjs:j<s.size) (hc:s.data.toList.getD j 0=124) :
 Calls Tryz.prog 14 #[.string s,.int .i64 (a:Int)] w (bd (atR j (fA 124 (s.data.toList.drop (j+1)))) w):=by
 have h1:decide ((4096:Int)<(s.size:Int))=false:=dF (by omega)
 have h2:decide (4096<s.size)=false:=dF h
 have h3:decide ((s.size:Int)<(a:Int))=false:=dF (by omega)
 have h4:decide (s.size<a)=false:=dF (by omega)
 have h5:decide ((a:Int)<0)=false:=dF (by omega)
 have hz:s.data.toList.length=s.size:=(Lib.size_eq s).symm
 have HSK:=hid (fun w=>bM s a w ha (by omega))
 have HJ:=hid hj
 have hb:(w.alloc (.cells ag 29)).heap[w.heap.size]? = some (.cells ag 29 (0,0)):=hN w _
 have HB1:=hid hb
 have HK1:=hid (show K0 w (w.alloc (.cells ag 29)) from kR.alloc _)
 have g1:decide ((j:Int)<0)=false:=dF (by omega)
 have g2:((j:Int) == (s.size:Int))=false:=by simp;omega
 have j1:(j:Int)<(s.size:Int):=by omega
 have hx0:=aK s j (by omega) 124 hc.symm
 have hx:∀ W:World,(Instr.index 9 (.string s) (.int .i64 (j:Int))).run Tryz.prog W=.ok (.int .u8 124) W:=hx0
 clear hx0
 have HT1:=hid (fun w=>(show Calls Tryz.prog 37 #[.string s,.int .i64 (j:Int),.int .u8 35,.int .u8 40] w (fun e w'=>e=.returned (.bool false)/\w=w') from by
  have:=cz s j 35 40 w (by omega) (by omega)
  rw [show (decide (j+1<s.size/\s.data.toList.getD j 0=35/\s.data.toList.getD (j+1) 0=40))=false from dF (fun h=>by have:=h.2.1;rw [hc] at this;revert this;decide)] at this
  exact this))
 have HT2:=hid (fun w=>(show Calls Tryz.prog 37 #[.string s,.int .i64 (j:Int),.int .u8 44,.int .u8 64] w (fun e w'=>e=.returned (.bool false)/\w=w') from by
  have:=cz s j 44 64 w (by omega) (by omega)
  rw [show (decide (j+1<s.size/\s.data.toList.getD j 0=44/\s.data.toList.getD (j+1) 0=64))=false from dF (fun h=>by have:=h.2.1;rw [hc] at this;revert this;decide)] at this
  exact this))
 have HQ:=hid (fun w=>(show Calls Tryz.prog 38 #[.string s,.int .i64 (j:Int)] w (kH ((dj 124 0 (s.data.toList.drop (j+1))).up [] (j+1)) j w) from jk s j 124 w hjs (by omega) hc.symm))
 have HTX:=hid (fun (x:ByteArray) (b:Nat) (w:World) (hx:x.size<=1000000)=>(show Calls Tryz.prog 39 #[.int .i64 6,.string x,.int .i64 (j:Int),.int .i64 (b:Int)] w (gT (cA true x.data.toList) true x j b w) from gg true x j b w hx))
 have HLEN:=hid (show (s.data.toList.drop (j+1)).length<=100000 by rw [List.length_drop];omega)
 obtain ⟨y,hy⟩:∃ y,y=s.data.toList.drop (j+1):=⟨_,rfl⟩
 rw [<- hy] at HQ HLEN ⊢
 clear hc hy
 clear hb hj
 go_enter Tryz.func14,Tryz.ntmps14
 go_wp2_with fail
 generalize w.alloc (.cells ag 29)=w1 at *
 refine (HSK.out _).mono ?_
 rintro e w2 ⟨rfl,rfl⟩
 rw [HJ.out]
 unfold eH
 try dsimp only
 go_wp2_with fail
 refine (HT1.out _).mono ?_
 rintro e w3 ⟨rfl,rfl⟩
 try dsimp only
 go_wp2_with fail
 refine (HT2.out _).mono ?_
 rintro e w3 ⟨rfl,rfl⟩
 try dsimp only
 go_wp2_with fail
 refine (HQ.out _).mono ?_
 intro e w4 hres
 cases hR:dj 124 0 y with
 | open_=>
  rw [hR] at hres
  obtain ⟨rfl,k4⟩:=hres
  have HQR:=hid hR
  have k5:=k4.alloc (.cells #[.slice none 0 0,.int .i64 0,.int .i64 (j:Int),.int .i64 11] 72)
  have hb8:(w4.alloc (.cells #[.slice none 0 0,.int .i64 0,.int .i64 (j:Int),.int .i64 11] 72)).heap[w4.heap.size]? = some (.cells #[.slice none 0 0,.int .i64 0,.int .i64 (j:Int),.int .i64 11] 72 (0,0)):=hN w4 _
  have HB5:=hid (k5.heap HB1.out (by simp))
  have HK5:=hid (HK1.out.trans k5)
  have hlt:=az (k4.heap HB1.out (by simp))
  have HLT:=hid hlt
  have HB8:=hid hb8
  clear k4 k5 hR hb8 hlt
  try dsimp only
  go_wp2_with fail
  generalize (w4.alloc (.cells #[.slice none 0 0,.int .i64 0,.int .i64 (j:Int),.int .i64 11] 72))=w5 at *
  have n2:¬ w4.heap.size=w.heap.size:=by have:=HLT.out;omega
  generalize hB0:w.heap.size=B0 at *
  generalize w4.heap.size=B4 at *
  obtain ⟨⟨c0,c1,c2,c3,c4,c5,c6,c7,c8,c9⟩,f0,f1,f2,f3,f4,f5,f6,f7,f8,f9⟩:=ab HB5.out
  have HE:=hid (af HK5.out (by rw [hB0];exact Nat.le_refl _) (.int .i64 0) (.int .i64 0) (.int .i64 0) (.bool false) (.int .i64 0) (.int .i32 0) (.bool false) (.slice none 0 0) (.string ⟨#[]⟩) (.slice none 0 0))
  have HR:=hid (ab (ac HB5.out (.int .i64 0) (.int .i64 0) (.int .i64 0) (.bool false) (.int .i64 0) (.int .i32 0) (.bool false) (.slice none 0 0) (.string ⟨#[]⟩) (.slice none 0 0))).1
  have g2:w5.cell? ⟨B4,2,none⟩=some (.int .i64 (j:Int)):=by rw [cell_of_row w5 _ _ _ _ _ HB8.out];rfl
  have g3:w5.cell? ⟨B4,3,none⟩=some (.int .i64 11):=by rw [cell_of_row w5 _ _ _ _ _ HB8.out];rfl
  have ks:=ba w5 B0 (.int .i64 0) (.int .i64 0) (.int .i64 0) (.bool false) (.int .i64 0) (.int .i32 0) (.bool false) (.slice none 0 0) (.string ⟨#[]⟩) (.slice none 0 0)
  have l2:=bL w5 _ g2
  have p2:=(ks.cell (p:=⟨B4,2,none⟩) l2 n2).trans g2
  have p3:=(ks.cell (p:=⟨B4,3,none⟩) l2 n2).trans g3
  dsimp only [cZ] at p2 p3
  clear ks l2
  go_wp2_with fail
  go_big_region
  go_wp2_with fail
  refine bodyPost_ret (v:=.tuple #[.agg ag,.int .i64 (j:Int),.int .i64 11]) ?_ rfl ?_
  ·obtain ⟨e0,e1,e2,e3,e4,e5,e6,e7,e8,e9⟩:=HR.out
   simp [results,Tryz.results14,go_sem,e0,e1,e2,e3,e4,e5,e6,e7,e8,e9]
  ·unfold fA
   rw [HQR.out]
   exact ⟨rfl,HE.out.drew⟩
 | bad i=>
  rw [hR] at hres
  obtain ⟨rfl,k4⟩:=hres
  obtain ⟨jj,hjj⟩:∃ jj,jj=j+1+i:=⟨_,rfl⟩
  have HJJ:=hid (show jj=j+(1+i) by omega)
  rw [<- hjj]
  clear hjj
  have HQR:=hid hR
  have k5:=k4.alloc (.cells #[.slice none 0 0,.int .i64 0,.int .i64 (jj:Int),.int .i64 9] 72)
  have hb8:(w4.alloc (.cells #[.slice none 0 0,.int .i64 0,.int .i64 (jj:Int),.int .i64 9] 72)).heap[w4.heap.size]? = some (.cells #[.slice none 0 0,.int .i64 0,.int .i64 (jj:Int),.int .i64 9] 72 (0,0)):=hN w4 _
  have HB5:=hid (k5.heap HB1.out (by simp))
  have HK5:=hid (HK1.out.trans k5)
  have hlt:=az (k4.heap HB1.out (by simp))
  have HLT:=hid hlt
  have HB8:=hid hb8
  clear k4 k5 hR hb8 hlt
  try dsimp only
  go_wp2_with fail
  generalize (w4.alloc (.cells #[.slice none 0 0,.int .i64 0,.int .i64 (jj:Int),.int .i64 9] 72))=w5 at *
  have n2:¬ w4.heap.size=w.heap.size:=by have:=HLT.out;omega
  generalize hB0:w.heap.size=B0 at *
  generalize w4.heap.size=B4 at *
  obtain ⟨⟨c0,c1,c2,c3,c4,c5,c6,c7,c8,c9⟩,f0,f1,f2,f3,f4,f5,f6,f7,f8,f9⟩:=ab HB5.out
  have HE:=hid (af HK5.out (by rw [hB0];exact Nat.le_refl _) (.int .i64 0) (.int .i64 0) (.int .i64 0) (.bool false) (.int .i64 0) (.int .i32 0) (.bool false) (.slice none 0 0) (.string ⟨#[]⟩) (.slice none 0 0))
  have HR:=hid (ab (ac HB5.out (.int .i64 0) (.int .i64 0) (.int .i64 0) (.bool false) (.int .i64 0) (.int .i32 0) (.bool false) (.slice none 0 0) (.string ⟨#[]⟩) (.slice none 0 0))).1
  have g2:w5.cell? ⟨B4,2,none⟩=some (.int .i64 (jj:Int)):=by rw [cell_of_row w5 _ _ _ _ _ HB8.out];rfl
  have g3:w5.cell? ⟨B4,3,none⟩=some (.int .i64 9):=by rw [cell_of_row w5 _ _ _ _ _ HB8.out];rfl
  have ks:=ba w5 B0 (.int .i64 0) (.int .i64 0) (.int .i64 0) (.bool false) (.int .i64 0) (.int .i32 0) (.bool false) (.slice none 0 0) (.string ⟨#[]⟩) (.slice none 0 0)
  have l2:=bL w5 _ g2
  have p2:=(ks.cell (p:=⟨B4,2,none⟩) l2 n2).trans g2
  have p3:=(ks.cell (p:=⟨B4,3,none⟩) l2 n2).trans g3
  dsimp only [cZ] at p2 p3
  clear ks l2
  go_wp2_with fail
  go_big_region
  go_wp2_with fail
  refine bodyPost_ret (v:=.tuple #[.agg ag,.int .i64 (jj:Int),.int .i64 9]) ?_ rfl ?_
  ·obtain ⟨e0,e1,e2,e3,e4,e5,e6,e7,e8,e9⟩:=HR.out
   simp [results,Tryz.results14,go_sem,e0,e1,e2,e3,e4,e5,e6,e7,e8,e9]
  ·unfold fA
   rw [HQR.out]
   show _=_/\_
   rw [HJJ.out]
   exact ⟨rfl,HE.out.drew⟩
 | ok out n=>
  rw [hR] at hres
  obtain ⟨A,m,cp,rfl,hby,k4⟩:=hres
  rw [List.nil_append] at hby
  have hol:=fP 124 _ _ _ _ hR
  have HXS:=hid (show (⟨out.toArray⟩:ByteArray).size<=1000000 by rw [Lib.size_eq];have:=HLEN.out;have:=jA hR;simp only;omega)
  have HQR:=hid hR
  clear hR hol
  obtain ⟨en,hen⟩:∃ en,en=j+1+n:=⟨_,rfl⟩
  rw [<- hen]
  have HEN:=hid (show en=j+(1+n) by omega)
  clear hen
  obtain ⟨xs,hxs⟩:∃ xs:ByteArray,xs=⟨out.toArray⟩:=⟨_,rfl⟩
  have hcv:∀ W:World,K0 w4 W->(convert 70 9 (.slice A m cp)).run Tryz.prog W=.ok (.string xs) W:=fun W K=>by rw [hxs];exact kE (hby.keep K (fun _ h=>h.elim))
  rw [<- hxs] at HXS
  have HO:=hid (show xs.data.toList=out by rw [hxs])
  have k5:=k4.alloc (.cells #[.slice A m cp,.int .i64 (en:Int),.int .i64 0,.int .i64 0] 72)
  have hcv:=hcv _ (kR.alloc (.cells #[.slice A m cp,.int .i64 (en:Int),.int .i64 0,.int .i64 0] 72))
  have HB5:=hid (k5.heap HB1.out (by simp))
  have HK5:=hid (HK1.out.trans k5)
  clear hxs k4 k5 hby
  try dsimp only
  go_wp2_with fail
  refine (HTX.out xs en _ HXS.out).mono ?_
  rw [HO.out]
  intro e w6 hres
  cases hR:cA true out with
  | ok d=>
   rw [hR] at hres
   have hres:e=.returned (.tuple #[aU 9 (j:Int) (en:Int) false 6 0 false none 0 0 xs,.int .i64 0,.int .i64 0])/\K0 _ w6:=hres
   obtain ⟨rfl,k6⟩:=hres
   have HB6:=hid (k6.heap HB5.out (by simp))
   have HK6:=hid (HK5.out.trans k6)
   have HRQ:=hid hR
   clear k6 hR hcv
   obtain ⟨⟨c0,c1,c2,c3,c4,c5,c6,c7,c8,c9⟩,f0,f1,f2,f3,f4,f5,f6,f7,f8,f9⟩:=ab HB6.out
   have HE:=hid (af HK6.out (Nat.le_refl _) (.int .i64 9) (.int .i64 (j:Int)) (.int .i64 (en:Int)) (.bool false) (.int .i64 6) (.int .i32 0) (.bool false) (.slice none 0 0) (.string xs) (.slice none 0 0))
   have HR:=hid (ab (ac HB6.out (.int .i64 9) (.int .i64 (j:Int)) (.int .i64 (en:Int)) (.bool false) (.int .i64 6) (.int .i32 0) (.bool false) (.slice none 0 0) (.string xs) (.slice none 0 0))).1
   try dsimp only
   go_wp2_with fail
   refine bodyPost_ret (v:=.tuple #[aU 9 (j:Int) (en:Int) false 6 0 false none 0 0 xs,.int .i64 0,.int .i64 0]) ?_ rfl ?_
   ·obtain ⟨e0,e1,e2,e3,e4,e5,e6,e7,e8,e9⟩:=HR.out
    simp [results,Tryz.results14,go_sem,e0,e1,e2,e3,e4,e5,e6,e7,e8,e9]
   ·unfold fA
    rw [HQR.out]
    dsimp only
    rw [show ((124:UInt8) == 124)=true from rfl,HRQ.out]
    refine ⟨6,0,false,none,0,0,xs,by rw [HEN.out];rfl,?_,HE.out⟩
    rw [gy HRQ.out]
    exact ⟨rfl,rfl,rfl,rfl,rfl,rfl,by rw [<- HO.out]⟩
  | error q=>
   rw [hR] at hres
   obtain ⟨rfl,k6⟩:=hres
   obtain ⟨qq,hqq⟩:∃ z:Int,z=(q:Int):=⟨_,rfl⟩
   rw [<- hqq]
   have HQQ:=hid hqq
   have HB6:=hid (k6.heap HB5.out (by simp))
   have HK6:=hid (HK5.out.trans k6)
   have HRQ:=hid hR
   clear k6 hR hqq hcv
   obtain ⟨⟨c0,c1,c2,c3,c4,c5,c6,c7,c8,c9⟩,f0,f1,f2,f3,f4,f5,f6,f7,f8,f9⟩:=ab HB6.out
   have HE:=hid (af HK6.out (Nat.le_refl _) (.int .i64 0) (.int .i64 0) (.int .i64 0) (.bool false) (.int .i64 0) (.int .i32 0) (.bool false) (.slice none 0 0) (.string ⟨#[]⟩) (.slice none 0 0))
   have HR:=hid (ab (ac HB6.out (.int .i64 0) (.int .i64 0) (.int .i64 0) (.bool false) (.int .i64 0) (.int .i32 0) (.bool false) (.slice none 0 0) (.string ⟨#[]⟩) (.slice none 0 0))).1
   try dsimp only
   go_wp2_with fail
   refine bodyPost_ret (v:=.tuple #[.agg ag,.int .i64 (j:Int),.int .i64 qq]) ?_ rfl ?_
   ·obtain ⟨e0,e1,e2,e3,e4,e5,e6,e7,e8,e9⟩:=HR.out
    simp [results,Tryz.results14,go_sem,e0,e1,e2,e3,e4,e5,e6,e7,e8,e9]
   ·unfold fA
    rw [HQR.out]
    dsimp only
    rw [show ((124:UInt8) == 124)=true from rfl,HRQ.out,HQQ.out]
    exact ⟨rfl,HE.out⟩
theorem qM (s:ByteArray) (a j:Nat) (w:World) (h:¬ 4096<s.size) (ha:a<=s.size) (hj:aC s.data.toList a=.ok j) (hjs:j<s.size) (hb:bO (s.data.toList.getD j 0)=false) (h59:s.data.toList.getD j 0 ≠ 59) :
 Calls Tryz.prog 14 #[.string s,.int .i64 (a:Int)] w (bd (atR j (jr (s.data.toList.drop j))) w):=by
 have hz:s.data.toList.length=s.size:=(Lib.size_eq s).symm
 have hd:=ap (l:=s.data.toList) (i:=j) (by omega)
 have hh:∀ x,(s.data.toList.drop (j+1)).head? = some x ↔ j+1<s.size/\s.data.toList.getD (j+1) 0=x:=fun x=>by rw [fF,hz]
 have hwd:de ((s.data.toList.drop j).takeWhile bh)=de ((s.data.toList.getD j 0 :: s.data.toList.drop (j+1)).takeWhile bh):=by rw [hd]
 rw [hd,jr]
 by_cases h1:s.data.toList.getD j 0=40\/s.data.toList.getD j 0=91
 ·rw [if_pos h1]
  rcases h1 with h1 | h1
  ·rw [h1];exact tB s a j w h ha hj hjs h1
  ·rw [h1];exact tw s a j w h ha hj hjs h1
 rw [if_neg h1]
 by_cases h2:s.data.toList.getD j 0=41\/s.data.toList.getD j 0=93
 ·rw [if_pos h2]
  rcases h2 with h2 | h2
  ·rw [h2];exact tz s a j w h ha hj hjs h2
  ·rw [h2];exact tu s a j w h ha hj hjs h2
 rw [if_neg h2]
 by_cases h3:s.data.toList.getD j 0=39
 ·rw [if_pos h3];exact tC s a j w h ha hj hjs h3
 rw [if_neg h3]
 by_cases h4:s.data.toList.getD j 0=96
 ·rw [if_pos h4];exact tt s a j w h ha hj hjs h4
 rw [if_neg h4]
 by_cases h5:s.data.toList.getD j 0=44
 ·rw [if_pos h5]
  by_cases g:(s.data.toList.drop (j+1)).head? = some 64
  ·rw [if_pos g];exact qQ s a j w h ha hj hjs h5 ((hh 64).1 g)
  ·rw [if_neg g];exact qR s a j w h ha hj hjs h5 (fun h=>g ((hh 64).2 h))
 rw [if_neg h5]
 by_cases h6:s.data.toList.getD j 0=34\/s.data.toList.getD j 0=124
 ·rw [if_pos h6]
  rcases h6 with h6 | h6
  ·rw [h6];exact m9 s a j w h ha hj hjs h6
  ·rw [h6];exact lV s a j w h ha hj hjs h6
 rw [if_neg h6]
 by_cases h7:s.data.toList.getD j 0=35/\(s.data.toList.drop (j+1)).head? = some 40
 ·rw [if_pos h7];exact qL s a j w h ha hj hjs h7.1 ((hh 40).1 h7.2)
 rw [if_neg h7]
 by_cases h8:s.data.toList.getD j 0=35/\(s.data.toList.drop (j+1)).head? = some 92
 ·rw [if_pos h8,List.drop_drop];exact oM s a j w h ha hj hjs h8.1 ((hh 92).1 h8.2)
 rw [if_neg h8]
 have hne:(s.data.toList.drop j).takeWhile bh ≠ []:=by
  rw [hd,List.takeWhile_cons,if_pos]
  ·simp
  ·exact p6 hb h59 h1 h2 h3 h4 h5 h6
 have:=oJ s a j w h ha hj hjs (fun h=>h1 (.inl h)) (fun h=>h1 (.inr h)) (fun h=>h2 (.inl h)) (fun h=>h2 (.inr h)) h3 h4 h5 (fun h=>h6 (.inl h)) (fun h=>h6 (.inr h)) (fun g=>h7 ⟨g.1,(hh 40).2 g.2⟩) (fun g=>h8 ⟨g.1,(hh 92).2 g.2⟩) hne
 rw [hwd] at this
 exact this
theorem qP (s:ByteArray) (at_:Int) (w:World) :
 Calls Tryz.prog 14 #[.string s,.int .i64 at_] w (bd (fX s.data.toList at_) w):=by
 have hz:s.data.toList.length=s.size:=(Lib.size_eq s).symm
 unfold fX
 rw [hz]
 by_cases h1:4096<s.size
 ·rw [if_pos h1];exact oL s at_ w h1
 rw [if_neg h1]
 by_cases h2:at_<0\/(s.size:Int)<at_
 ·rw [if_pos h2];exact qO s at_ w h1 h2
 rw [if_neg h2]
 obtain ⟨a,rfl⟩:=Int.eq_ofNat_of_zero_le (show 0<=at_ by omega)
 rw [Int.toNat_natCast]
 have ha:a<=s.size:=by omega
 unfold iE
 cases hsk:aC s.data.toList a with
 | error p=>exact oK s a p w h1 ha hsk (oh (by omega) hsk)
 | ok j=>
  obtain ⟨g1,g2,g3⟩:=im (by omega) hsk
  dsimp only
  by_cases hj:j=s.data.toList.length
  ·rw [if_pos hj]
   exact qN s a j w h1 ha hsk (by omega)
  ·rw [if_neg hj]
   have:=qM s a j w h1 ha hsk (by omega) (g3 (by omega)).1 (g3 (by omega)).2
   cases hk:jr (s.data.toList.drop j) with
   | ok t=>rw [hk] at this;exact this
   | error q=>obtain ⟨p,c⟩:=q;rw [hk] at this;exact this
end Go.Proofs.YtonnikipeokkaaaGreatDoor
