/-
  lex: word.
-/
import Derived.Test.YtonnikipeokkaaaGreatDoorLxNum
namespace Go.Proofs.YtonnikipeokkaaaGreatDoor
set_option maxRecDepth 100000
set_option maxHeartbeats 4000000
open Go.Lib (hid)
open Go.RowKit Go.Lib
structure gY (w:World) (A:Option Addr) (n c:Nat) (l:List Nat):Prop where
 lim:aq w A n c l
 typ:0<n->∀ b off,A=some ⟨b,off,none⟩->∃ X,w.heap[b]? = some (.cells X 126 (0,0))
theorem gY.keep {w w':World} {A:Option Addr} {n c:Nat} {l:List Nat} {S:Nat->Prop} (h:gY w A n c l) (k:ah S w w') (hs:∀ b,S b->∀ X,w.heap[b]? ≠ some (.cells X 126 (0,0))):gY w' A n c l:=by
 have hb:0<n->∀ b off,A=some ⟨b,off,none⟩->¬ S b:=fun hn b off e hS=>by
  obtain ⟨X,hX⟩:=h.typ hn b off e
  exact hs b hS X hX
 exact ⟨h.lim.keep k hb,fun hn b off e=>by
  obtain ⟨X,hX⟩:=h.typ hn b off e
  exact ⟨X,k.heap hX (hb hn b off e)⟩⟩
theorem gY.keep0 {w w':World} {A:Option Addr} {n c:Nat} {l:List Nat} (h:gY w A n c l) (k:K0 w w'):gY w' A n c l:=h.keep k (fun _ h=>h.elim)
def dY (w:World) (d:ig) (k c:Int) (neg:Bool) (A:Option Addr) (n cp:Nat) (t:ByteArray):Prop:=
 match d with
 | .no=>k=0/\c=0/\neg=false/\A=none/\n=0/\cp=0/\t=⟨#[]⟩
 | .tru=>k=1/\c=0/\neg=false/\A=none/\n=0/\cp=0/\t=⟨#[]⟩
 | .fls=>k=2/\c=0/\neg=false/\A=none/\n=0/\cp=0/\t=⟨#[]⟩
 | .chr v=>k=3/\c=(v:Int)/\neg=false/\A=none/\n=0/\cp=0/\t=⟨#[]⟩
 | .int x=>k=4/\c=0/\neg=decide (x<0)/\gY w A n cp (aA x.natAbs)/\n<=48/\t=⟨#[]⟩
 | .str l=>k=5/\c=0/\neg=false/\A=none/\n=0/\cp=0/\t=⟨l.toArray⟩
 | .sym l=>k=6/\c=0/\neg=false/\A=none/\n=0/\cp=0/\t=⟨l.toArray⟩
theorem dY.keep {w w':World} {d:ig} {k c:Int} {neg:Bool} {A:Option Addr} {n cp:Nat} {t:ByteArray} (h:dY w d k c neg A n cp t) (K:K0 w w'):dY w' d k c neg A n cp t:=by
 cases d
 case int x=>exact ⟨h.1,h.2.1,h.2.2.1,h.2.2.2.1.keep0 K,h.2.2.2.2⟩
 all_goals exact h
def bj (r:Except (Nat × Nat) Tk) (a:Nat) (w:World) (e:Ending) (w':World):Prop:=
 match r with
 | .ok t=>∃ (k c:Int) (neg:Bool) (A:Option Addr) (n cp:Nat) (x:ByteArray),e=.returned (.tuple #[aU t.kind a ((a+t.len:Nat):Int) t.sq k c neg A n cp x,.nilIface])/\dY w' t.d k c neg A n cp x/\K0 w w'
 | .error (p,c)=>∃ v,e=.returned (.tuple #[.agg ag,v])/\dZ w' v ((a+p:Nat):Int) c/\K0 w w'
def de (W:List UInt8):Except (Nat × Nat) Tk:=
 match fs W with
 | .ok (k,d)=>.ok ⟨k,W.length,false,d⟩
 | .error e=>.error (0,e)
structure fb (w:World) (s:ByteArray) (a:Nat) (W:List UInt8) (E:Nat) (t:ByteArray):Prop where
 t:t.data.toList=W
 e:E=a+W.length
 le:E<=s.size
theorem jE (s:ByteArray) (a:Nat) (w:World) (ha:a<=s.size):fb w s a ((s.data.toList.drop a).takeWhile bh) (bS bh s.data.toList a) (s.extract a (bS bh s.data.toList a)):=by
 have hz:s.data.toList.length=s.size:=(Lib.size_eq s).symm
 refine ⟨?_,rfl,by rw [<- hz];exact gF _ (by omega)⟩
 rw [Lib.extract_data]
 unfold bS
 rw [show a+((s.data.toList.drop a).takeWhile bh).length - a=((s.data.toList.drop a).takeWhile bh).length by omega,vc]
theorem gN {w w':World} {A:Option Addr} {n c:Nat} {l:List Nat} {B:Nat} {Y:Array Value} (h:gY w A n c l) (hb:w.heap[B]? = some (.cells Y 29 (0,0))) (k:ah (fun b=>b=B) w w'):gY w' A n c l:=by
 refine h.keep k ?_
 rintro b rfl X hX
 rw [hb] at hX
 injection hX with hX
 injection hX with _ hX
 cases hX
theorem dr.fits {x:Int} {w w':World} {e:Ending} (h:dr x w e w') (f:dG x):K0 w w'/\∃ (A:Option Addr) (n c:Nat),e=.returned (.tuple #[al (decide (x<0)) A n c,.int .i64 0])/\gY w' A n c (aA x.natAbs)/\n<=48:=by
 obtain ⟨k,⟨hn,_⟩ | ⟨A,n,c,_,he,own⟩⟩:=h
 ·exact absurd f hn
 ·refine ⟨k,A,n,c,he,⟨own.num f,?_⟩,by have:=own.len;unfold dG at f;omega⟩
  rintro hn b off rfl
  rcases own.2 with ⟨hv,h0⟩ | ⟨g,cap,cur,hv,hg,hh,h1,h2⟩
  ·omega
  ·injection hv with e1 _ _
   injection e1 with e1
   injection e1 with e1
   subst e1
   exact ⟨cur,hh⟩
theorem mN {W:List UInt8} {d:ig} (h:cA true W=.ok d):d=.sym W:=by
 unfold cA at h
 split at h
 ·cases h
 split at h
 ·cases h
 split at h
 ·cases h
 ·injection h with h;exact h.symm
theorem sa (s:ByteArray) (a:Nat) (w:World) (W:List UInt8) (E:Nat) (t:ByteArray) (hT:bE w) (ha:a<=s.size) (hs:s.size<=1000000) (hne:W ≠ []) (hE:E=bS bh s.data.toList a) (ht:t=s.extract a E) (hw:fb w s a W E t)  (h0:W=[46]) :
 Calls Tryz.prog 91 #[.string s,.int .i64 (a:Int)] w (bj (.ok ⟨8,W.length,false,.no⟩) a w):=by
 subst ht
 have HT:=hid hT
 have HW:=hid hw
 have HNE:=hid hne
 have b1:a<=E:=by have:=hw.e;omega
 have b2:=hw.le
 have htl:=hw.t
 have q0:((s.extract a E).toList == [46])=true:=cf _ (by rw [htl];exact h0)
 clear h0
 have HRUN:=hid (fun w=>da s a 124 w ha hs)
 have hb:(w.alloc (.cells ag 29)).heap[w.heap.size]? = some (.cells ag 29 (0,0)):=hN w _
 have HB1:=hid hb
 have HK1:=hid (show K0 w (w.alloc (.cells ag 29)) from kR.alloc _)
 have HEX:=hid hE
 have HTL:=hid htl
 clear hT hb hE hw htl hne
 go_enter Tryz.func91,Tryz.ntmps91
 go_wp2_with fail
 refine (HRUN.out _).mono ?_
 rintro e w1 ⟨rfl,rfl⟩
 rw [di,<- HEX.out]
 try dsimp only
 obtain ⟨⟨c0,c1,c2,c3,c4,c5,c6,c7,c8,c9⟩,f0,f1,f2,f3,f4,f5,f6,f7,f8,f9⟩:=ab HB1.out
 have HE:=hid (af HK1.out (Nat.le_refl _) (.int .i64 8) (.int .i64 (a:Int)) (.int .i64 (E:Int)) (.bool false) (.int .i64 0) (.int .i32 0) (.bool false) (.slice none 0 0) (.string ⟨#[]⟩) (.slice none 0 0))
 have HR:=hid (ab (ac HB1.out (.int .i64 8) (.int .i64 (a:Int)) (.int .i64 (E:Int)) (.bool false) (.int .i64 0) (.int .i32 0) (.bool false) (.slice none 0 0) (.string ⟨#[]⟩) (.slice none 0 0))).1
 generalize w.alloc (.cells ag 29)=w1 at *
 generalize w.heap.size=B at *
 go_wp2_with fail
 refine bodyPost_ret (v:=.tuple #[aU 8 (a:Int) (E:Int) false 0 0 false none 0 0 ⟨#[]⟩,.nilIface]) ?_ rfl ?_
 ·obtain ⟨e0,e1,e2,e3,e4,e5,e6,e7,e8,e9⟩:=HR.out
  simp [results,Tryz.results91,go_sem,e0,e1,e2,e3,e4,e5,e6,e7,e8,e9]
 ·exact ⟨0,0,false,none,0,0,⟨#[]⟩,by rw [<- HW.out.e];rfl,⟨rfl,rfl,rfl,rfl,rfl,rfl,rfl⟩,HE.out⟩
theorem uY (s:ByteArray) (a:Nat) (w:World) (W:List UInt8) (E:Nat) (t:ByteArray) (hT:bE w) (ha:a<=s.size) (hs:s.size<=1000000) (hne:W ≠ []) (hE:E=bS bh s.data.toList a) (ht:t=s.extract a E) (hw:fb w s a W E t) (h0:¬ W=[46]) (h1:W=[35,116]) :
 Calls Tryz.prog 91 #[.string s,.int .i64 (a:Int)] w (bj (.ok ⟨9,W.length,false,.tru⟩) a w):=by
 subst ht
 have HT:=hid hT
 have HW:=hid hw
 have HNE:=hid hne
 have b1:a<=E:=by have:=hw.e;omega
 have b2:=hw.le
 have htl:=hw.t
 have q0:((s.extract a E).toList == [46])=false:=aj _ (by rw [htl];exact h0)
 have q1:((s.extract a E).toList == [35,116])=true:=cf _ (by rw [htl];exact h1)
 clear h0 h1
 have HRUN:=hid (fun w=>da s a 124 w ha hs)
 have hb:(w.alloc (.cells ag 29)).heap[w.heap.size]? = some (.cells ag 29 (0,0)):=hN w _
 have HB1:=hid hb
 have HK1:=hid (show K0 w (w.alloc (.cells ag 29)) from kR.alloc _)
 have HEX:=hid hE
 have HTL:=hid htl
 clear hT hb hE hw htl hne
 go_enter Tryz.func91,Tryz.ntmps91
 go_wp2_with fail
 refine (HRUN.out _).mono ?_
 rintro e w1 ⟨rfl,rfl⟩
 rw [di,<- HEX.out]
 try dsimp only
 go_wp2_with fail
 refine (dJ 1 0 false none 0 0 ⟨#[]⟩ a E _).mono ?_
 rintro e w2 ⟨rfl,k2⟩
 have HB2:=hid (k2.heap HB1.out (by simp))
 have HK2:=hid (HK1.out.trans k2)
 clear k2
 obtain ⟨⟨c0,c1,c2,c3,c4,c5,c6,c7,c8,c9⟩,f0,f1,f2,f3,f4,f5,f6,f7,f8,f9⟩:=ab HB2.out
 have HE:=hid (af HK2.out (Nat.le_refl _) (.int .i64 9) (.int .i64 (a:Int)) (.int .i64 (E:Int)) (.bool false) (.int .i64 1) (.int .i32 0) (.bool false) (.slice none 0 0) (.string ⟨#[]⟩) (.slice none 0 0))
 have HR:=hid (ab (ac HB2.out (.int .i64 9) (.int .i64 (a:Int)) (.int .i64 (E:Int)) (.bool false) (.int .i64 1) (.int .i32 0) (.bool false) (.slice none 0 0) (.string ⟨#[]⟩) (.slice none 0 0))).1
 try dsimp only
 go_wp2_with fail
 refine bodyPost_ret (v:=.tuple #[aU 9 (a:Int) (E:Int) false 1 0 false none 0 0 ⟨#[]⟩,.nilIface]) ?_ rfl ?_
 ·obtain ⟨e0,e1,e2,e3,e4,e5,e6,e7,e8,e9⟩:=HR.out
  simp [results,Tryz.results91,go_sem,e0,e1,e2,e3,e4,e5,e6,e7,e8,e9]
 ·exact ⟨1,0,false,none,0,0,⟨#[]⟩,by rw [<- HW.out.e];rfl,⟨rfl,rfl,rfl,rfl,rfl,rfl,rfl⟩,HE.out⟩
theorem uX (s:ByteArray) (a:Nat) (w:World) (W:List UInt8) (E:Nat) (t:ByteArray) (hT:bE w) (ha:a<=s.size) (hs:s.size<=1000000) (hne:W ≠ []) (hE:E=bS bh s.data.toList a) (ht:t=s.extract a E) (hw:fb w s a W E t) (h0:¬ W=[46]) (h1:¬ W=[35,116]) (h2:W=[35,116,114,117,101]) :
 Calls Tryz.prog 91 #[.string s,.int .i64 (a:Int)] w (bj (.ok ⟨9,W.length,false,.tru⟩) a w):=by
 subst ht
 have HT:=hid hT
 have HW:=hid hw
 have HNE:=hid hne
 have b1:a<=E:=by have:=hw.e;omega
 have b2:=hw.le
 have htl:=hw.t
 have q0:((s.extract a E).toList == [46])=false:=aj _ (by rw [htl];exact h0)
 have q1:((s.extract a E).toList == [35,116])=false:=aj _ (by rw [htl];exact h1)
 have q2:((s.extract a E).toList == [35,116,114,117,101])=true:=cf _ (by rw [htl];exact h2)
 clear h0 h1 h2
 have HRUN:=hid (fun w=>da s a 124 w ha hs)
 have hb:(w.alloc (.cells ag 29)).heap[w.heap.size]? = some (.cells ag 29 (0,0)):=hN w _
 have HB1:=hid hb
 have HK1:=hid (show K0 w (w.alloc (.cells ag 29)) from kR.alloc _)
 have HEX:=hid hE
 have HTL:=hid htl
 clear hT hb hE hw htl hne
 go_enter Tryz.func91,Tryz.ntmps91
 go_wp2_with fail
 refine (HRUN.out _).mono ?_
 rintro e w1 ⟨rfl,rfl⟩
 rw [di,<- HEX.out]
 try dsimp only
 go_wp2_with fail
 refine (dJ 1 0 false none 0 0 ⟨#[]⟩ a E _).mono ?_
 rintro e w2 ⟨rfl,k2⟩
 have HB2:=hid (k2.heap HB1.out (by simp))
 have HK2:=hid (HK1.out.trans k2)
 clear k2
 obtain ⟨⟨c0,c1,c2,c3,c4,c5,c6,c7,c8,c9⟩,f0,f1,f2,f3,f4,f5,f6,f7,f8,f9⟩:=ab HB2.out
 have HE:=hid (af HK2.out (Nat.le_refl _) (.int .i64 9) (.int .i64 (a:Int)) (.int .i64 (E:Int)) (.bool false) (.int .i64 1) (.int .i32 0) (.bool false) (.slice none 0 0) (.string ⟨#[]⟩) (.slice none 0 0))
 have HR:=hid (ab (ac HB2.out (.int .i64 9) (.int .i64 (a:Int)) (.int .i64 (E:Int)) (.bool false) (.int .i64 1) (.int .i32 0) (.bool false) (.slice none 0 0) (.string ⟨#[]⟩) (.slice none 0 0))).1
 try dsimp only
 go_wp2_with fail
 refine bodyPost_ret (v:=.tuple #[aU 9 (a:Int) (E:Int) false 1 0 false none 0 0 ⟨#[]⟩,.nilIface]) ?_ rfl ?_
 ·obtain ⟨e0,e1,e2,e3,e4,e5,e6,e7,e8,e9⟩:=HR.out
  simp [results,Tryz.results91,go_sem,e0,e1,e2,e3,e4,e5,e6,e7,e8,e9]
 ·exact ⟨1,0,false,none,0,0,⟨#[]⟩,by rw [<- HW.out.e];rfl,⟨rfl,rfl,rfl,rfl,rfl,rfl,rfl⟩,HE.out⟩
theorem u6 (s:ByteArray) (a:Nat) (w:World) (W:List UInt8) (E:Nat) (t:ByteArray) (hT:bE w) (ha:a<=s.size) (hs:s.size<=1000000) (hne:W ≠ []) (hE:E=bS bh s.data.toList a) (ht:t=s.extract a E) (hw:fb w s a W E t) (h0:¬ W=[46]) (h1:¬ W=[35,116]) (h2:¬ W=[35,116,114,117,101]) (h3:W=[35,102]) :
 Calls Tryz.prog 91 #[.string s,.int .i64 (a:Int)] w (bj (.ok ⟨9,W.length,false,.fls⟩) a w):=by
 subst ht
 have HT:=hid hT
 have HW:=hid hw
 have HNE:=hid hne
 have b1:a<=E:=by have:=hw.e;omega
 have b2:=hw.le
 have htl:=hw.t
 have q0:((s.extract a E).toList == [46])=false:=aj _ (by rw [htl];exact h0)
 have q1:((s.extract a E).toList == [35,116])=false:=aj _ (by rw [htl];exact h1)
 have q2:((s.extract a E).toList == [35,116,114,117,101])=false:=aj _ (by rw [htl];exact h2)
 have q3:((s.extract a E).toList == [35,102])=true:=cf _ (by rw [htl];exact h3)
 clear h0 h1 h2 h3
 have HRUN:=hid (fun w=>da s a 124 w ha hs)
 have hb:(w.alloc (.cells ag 29)).heap[w.heap.size]? = some (.cells ag 29 (0,0)):=hN w _
 have HB1:=hid hb
 have HK1:=hid (show K0 w (w.alloc (.cells ag 29)) from kR.alloc _)
 have HEX:=hid hE
 have HTL:=hid htl
 clear hT hb hE hw htl hne
 go_enter Tryz.func91,Tryz.ntmps91
 go_wp2_with fail
 refine (HRUN.out _).mono ?_
 rintro e w1 ⟨rfl,rfl⟩
 rw [di,<- HEX.out]
 try dsimp only
 go_wp2_with fail
 refine (dJ 2 0 false none 0 0 ⟨#[]⟩ a E _).mono ?_
 rintro e w2 ⟨rfl,k2⟩
 have HB2:=hid (k2.heap HB1.out (by simp))
 have HK2:=hid (HK1.out.trans k2)
 clear k2
 obtain ⟨⟨c0,c1,c2,c3,c4,c5,c6,c7,c8,c9⟩,f0,f1,f2,f3,f4,f5,f6,f7,f8,f9⟩:=ab HB2.out
 have HE:=hid (af HK2.out (Nat.le_refl _) (.int .i64 9) (.int .i64 (a:Int)) (.int .i64 (E:Int)) (.bool false) (.int .i64 2) (.int .i32 0) (.bool false) (.slice none 0 0) (.string ⟨#[]⟩) (.slice none 0 0))
 have HR:=hid (ab (ac HB2.out (.int .i64 9) (.int .i64 (a:Int)) (.int .i64 (E:Int)) (.bool false) (.int .i64 2) (.int .i32 0) (.bool false) (.slice none 0 0) (.string ⟨#[]⟩) (.slice none 0 0))).1
 try dsimp only
 go_wp2_with fail
 refine bodyPost_ret (v:=.tuple #[aU 9 (a:Int) (E:Int) false 2 0 false none 0 0 ⟨#[]⟩,.nilIface]) ?_ rfl ?_
 ·obtain ⟨e0,e1,e2,e3,e4,e5,e6,e7,e8,e9⟩:=HR.out
  simp [results,Tryz.results91,go_sem,e0,e1,e2,e3,e4,e5,e6,e7,e8,e9]
 ·exact ⟨2,0,false,none,0,0,⟨#[]⟩,by rw [<- HW.out.e];rfl,⟨rfl,rfl,rfl,rfl,rfl,rfl,rfl⟩,HE.out⟩
theorem u5 (s:ByteArray) (a:Nat) (w:World) (W:List UInt8) (E:Nat) (t:ByteArray) (hT:bE w) (ha:a<=s.size) (hs:s.size<=1000000) (hne:W ≠ []) (hE:E=bS bh s.data.toList a) (ht:t=s.extract a E) (hw:fb w s a W E t) (h0:¬ W=[46]) (h1:¬ W=[35,116]) (h2:¬ W=[35,116,114,117,101]) (h3:¬ W=[35,102]) (h4:W=[35,102,97,108,115,101]) :
 Calls Tryz.prog 91 #[.string s,.int .i64 (a:Int)] w (bj (.ok ⟨9,W.length,false,.fls⟩) a w):=by
 subst ht
 have HT:=hid hT
 have HW:=hid hw
 have HNE:=hid hne
 have b1:a<=E:=by have:=hw.e;omega
 have b2:=hw.le
 have htl:=hw.t
 have q0:((s.extract a E).toList == [46])=false:=aj _ (by rw [htl];exact h0)
 have q1:((s.extract a E).toList == [35,116])=false:=aj _ (by rw [htl];exact h1)
 have q2:((s.extract a E).toList == [35,116,114,117,101])=false:=aj _ (by rw [htl];exact h2)
 have q3:((s.extract a E).toList == [35,102])=false:=aj _ (by rw [htl];exact h3)
 have q4:((s.extract a E).toList == [35,102,97,108,115,101])=true:=cf _ (by rw [htl];exact h4)
 clear h0 h1 h2 h3 h4
 have HRUN:=hid (fun w=>da s a 124 w ha hs)
 have hb:(w.alloc (.cells ag 29)).heap[w.heap.size]? = some (.cells ag 29 (0,0)):=hN w _
 have HB1:=hid hb
 have HK1:=hid (show K0 w (w.alloc (.cells ag 29)) from kR.alloc _)
 have HEX:=hid hE
 have HTL:=hid htl
 clear hT hb hE hw htl hne
 go_enter Tryz.func91,Tryz.ntmps91
 go_wp2_with fail
 refine (HRUN.out _).mono ?_
 rintro e w1 ⟨rfl,rfl⟩
 rw [di,<- HEX.out]
 try dsimp only
 go_wp2_with fail
 refine (dJ 2 0 false none 0 0 ⟨#[]⟩ a E _).mono ?_
 rintro e w2 ⟨rfl,k2⟩
 have HB2:=hid (k2.heap HB1.out (by simp))
 have HK2:=hid (HK1.out.trans k2)
 clear k2
 obtain ⟨⟨c0,c1,c2,c3,c4,c5,c6,c7,c8,c9⟩,f0,f1,f2,f3,f4,f5,f6,f7,f8,f9⟩:=ab HB2.out
 have HE:=hid (af HK2.out (Nat.le_refl _) (.int .i64 9) (.int .i64 (a:Int)) (.int .i64 (E:Int)) (.bool false) (.int .i64 2) (.int .i32 0) (.bool false) (.slice none 0 0) (.string ⟨#[]⟩) (.slice none 0 0))
 have HR:=hid (ab (ac HB2.out (.int .i64 9) (.int .i64 (a:Int)) (.int .i64 (E:Int)) (.bool false) (.int .i64 2) (.int .i32 0) (.bool false) (.slice none 0 0) (.string ⟨#[]⟩) (.slice none 0 0))).1
 try dsimp only
 go_wp2_with fail
 refine bodyPost_ret (v:=.tuple #[aU 9 (a:Int) (E:Int) false 2 0 false none 0 0 ⟨#[]⟩,.nilIface]) ?_ rfl ?_
 ·obtain ⟨e0,e1,e2,e3,e4,e5,e6,e7,e8,e9⟩:=HR.out
  simp [results,Tryz.results91,go_sem,e0,e1,e2,e3,e4,e5,e6,e7,e8,e9]
 ·exact ⟨2,0,false,none,0,0,⟨#[]⟩,by rw [<- HW.out.e];rfl,⟨rfl,rfl,rfl,rfl,rfl,rfl,rfl⟩,HE.out⟩
theorem nZ (s:ByteArray) (a:Nat) (w:World) (W:List UInt8) (E:Nat) (t:ByteArray) (hT:bE w) (ha:a<=s.size) (hs:s.size<=1000000) (hne:W ≠ []) (hE:E=bS bh s.data.toList a) (ht:t=s.extract a E) (hw:fb w s a W E t) (h0:¬ W=[46]) (h1:¬ W=[35,116]) (h2:¬ W=[35,116,114,117,101]) (h3:¬ W=[35,102]) (h4:¬ W=[35,102,97,108,115,101]) (hash:W.getD 0 0=35) :
 Calls Tryz.prog 91 #[.string s,.int .i64 (a:Int)] w (bj (.error (0,9)) a w):=by
 subst ht
 have HT:=hid hT
 have HW:=hid hw
 have HNE:=hid hne
 have b1:a<=E:=by have:=hw.e;omega
 have b2:=hw.le
 have htl:=hw.t
 have hx0:=aK (s.extract a E) 0 (by rw [htl];exact List.length_pos_iff.2 hne) (W.getD 0 0) (by rw [htl])
 have hx:∀ W':World,(Instr.index 9 (.string (s.extract a E)) (.int .i64 0)).run Tryz.prog W'=.ok (.int .u8 ((W.getD 0 0).toNat:Int)) W':=hx0
 have q0:((s.extract a E).toList == [46])=false:=aj _ (by rw [htl];exact h0)
 have q1:((s.extract a E).toList == [35,116])=false:=aj _ (by rw [htl];exact h1)
 have q2:((s.extract a E).toList == [35,116,114,117,101])=false:=aj _ (by rw [htl];exact h2)
 have q3:((s.extract a E).toList == [35,102])=false:=aj _ (by rw [htl];exact h3)
 have q4:((s.extract a E).toList == [35,102,97,108,115,101])=false:=aj _ (by rw [htl];exact h4)
 clear h0 h1 h2 h3 h4
 have hh:∀ W':World,(Instr.index 9 (.string (s.extract a E)) (.int .i64 0)).run Tryz.prog W'=.ok (.int .u8 35) W':=by
  intro W';rw [hx W',hash];rfl
 clear hx0 hx hash
 have HRUN:=hid (fun w=>da s a 124 w ha hs)
 have hb:(w.alloc (.cells ag 29)).heap[w.heap.size]? = some (.cells ag 29 (0,0)):=hN w _
 have HB1:=hid hb
 have HK1:=hid (show K0 w (w.alloc (.cells ag 29)) from kR.alloc _)
 have HEX:=hid hE
 have HTL:=hid htl
 clear hT hb hE hw htl hne
 go_enter Tryz.func91,Tryz.ntmps91
 go_wp2_with fail
 refine (HRUN.out _).mono ?_
 rintro e w1 ⟨rfl,rfl⟩
 rw [di,<- HEX.out]
 try dsimp only
 go_wp2_with fail
 refine (bK _ _ _ _).mono ?_
 rintro e w7 ⟨v,rfl,he,k7⟩
 have HB7:=hid (k7.heap HB1.out (by simp))
 obtain ⟨⟨c0,c1,c2,c3,c4,c5,c6,c7,c8,c9⟩,f0,f1,f2,f3,f4,f5,f6,f7,f8,f9⟩:=ab HB7.out
 have HE:=hid (aG (HK1.out.trans k7) (Nat.le_refl _) HB7.out he (.int .i64 0) (.int .i64 0) (.int .i64 0) (.bool false) (.int .i64 0) (.int .i32 0) (.bool false) (.slice none 0 0) (.string ⟨#[]⟩) (.slice none 0 0))
 have HR:=hid (ab (ac HB7.out (.int .i64 0) (.int .i64 0) (.int .i64 0) (.bool false) (.int .i64 0) (.int .i32 0) (.bool false) (.slice none 0 0) (.string ⟨#[]⟩) (.slice none 0 0))).1
 clear he k7
 try dsimp only
 go_wp2_with fail
 refine bodyPost_ret (v:=.tuple #[.agg ag,v]) ?_ rfl ?_
 ·obtain ⟨e0,e1,e2,e3,e4,e5,e6,e7,e8,e9⟩:=HR.out
  simp [results,Tryz.results91,go_sem,e0,e1,e2,e3,e4,e5,e6,e7,e8,e9]
 ·exact ⟨v,rfl,HE.out⟩
theorem sc (s:ByteArray) (a:Nat) (w:World) (W:List UInt8) (E:Nat) (t:ByteArray) (hT:bE w) (ha:a<=s.size) (hs:s.size<=1000000) (hne:W ≠ []) (hE:E=bS bh s.data.toList a) (ht:t=s.extract a E) (hw:fb w s a W E t) (h0:¬ W=[46]) (h1:¬ W=[35,116]) (h2:¬ W=[35,116,114,117,101]) (h3:¬ W=[35,102]) (h4:¬ W=[35,102,97,108,115,101]) (hash:¬ W.getD 0 0=35) (x:Int) (hp:aJ W=some x) (hf:¬ dG x) :
 Calls Tryz.prog 91 #[.string s,.int .i64 (a:Int)] w (bj (.error (0,6)) a w):=by
 subst ht
 have HT:=hid hT
 have HW:=hid hw
 have HNE:=hid hne
 have b1:a<=E:=by have:=hw.e;omega
 have b2:=hw.le
 have htl:=hw.t
 have hx0:=aK (s.extract a E) 0 (by rw [htl];exact List.length_pos_iff.2 hne) (W.getD 0 0) (by rw [htl])
 have hx:∀ W':World,(Instr.index 9 (.string (s.extract a E)) (.int .i64 0)).run Tryz.prog W'=.ok (.int .u8 ((W.getD 0 0).toNat:Int)) W':=hx0
 have q0:((s.extract a E).toList == [46])=false:=aj _ (by rw [htl];exact h0)
 have q1:((s.extract a E).toList == [35,116])=false:=aj _ (by rw [htl];exact h1)
 have q2:((s.extract a E).toList == [35,116,114,117,101])=false:=aj _ (by rw [htl];exact h2)
 have q3:((s.extract a E).toList == [35,102])=false:=aj _ (by rw [htl];exact h3)
 have q4:((s.extract a E).toList == [35,102,97,108,115,101])=false:=aj _ (by rw [htl];exact h4)
 clear h0 h1 h2 h3 h4
 have e35:(((W.getD 0 0).toNat:Int) == 35)=false:=aH hash
 obtain ⟨c,hcc⟩:∃ c,c=((W.getD 0 0).toNat:Int):=⟨_,rfl⟩
 rw [<- hcc] at hx e35
 clear hx0 hash hcc
 have HSZ:=hid (show (s.extract a E).size<=1000000 by rw [Lib.size_eq,Lib.extract_data];have:=List.length_take_le (E - a) (s.data.toList.drop a);have:=hw.le;omega)
 have HPV:=hid hp
 have HF:=hid hf
 clear hp hf
 have HRUN:=hid (fun w=>da s a 124 w ha hs)
 have hb:(w.alloc (.cells ag 29)).heap[w.heap.size]? = some (.cells ag 29 (0,0)):=hN w _
 have HB1:=hid hb
 have HK1:=hid (show K0 w (w.alloc (.cells ag 29)) from kR.alloc _)
 have HEX:=hid hE
 have HTL:=hid htl
 clear hT hb hE hw htl hne
 go_enter Tryz.func91,Tryz.ntmps91
 go_wp2_with fail
 refine (HRUN.out _).mono ?_
 rintro e w1 ⟨rfl,rfl⟩
 rw [di,<- HEX.out]
 try dsimp only
 go_wp2_with fail
 refine (fS (s.extract a E) _ (by rw [HTL.out];exact HNE.out) HSZ.out).mono ?_
 rintro e w2 ⟨rfl,k2⟩
 rw [HTL.out,HPV.out]
 have HB2:=hid (k2.heap HB1.out (by simp))
 have HK2:=hid (HK1.out.trans k2)
 clear k2
 try dsimp only [Option.isSome]
 go_wp2_with fail
 refine (li (s.extract a E) w2 HSZ.out).mono ?_
 intro e w3 hres
 unfold bp at hres
 rw [HTL.out,HPV.out] at hres
 have hres:dr x w2 e w3:=hres
 obtain ⟨k3,⟨_,rfl⟩ | ⟨A,n,cp,hx2,_⟩⟩:=hres
 case inr=>exact absurd hx2 HF.out
 have k4:=k3.alloc (.cells #[.bool false,.slice none 0 0] 24)
 have HB3:=hid (k4.heap HB2.out (by simp))
 have HK3:=hid (HK2.out.trans k4)
 clear k3 k4
 try dsimp only
 go_wp2_with fail
 refine (bK _ _ _ _).mono ?_
 rintro e w7 ⟨v,rfl,he,k7⟩
 have HB7:=hid (k7.heap HB3.out (by simp))
 obtain ⟨⟨c0,c1,c2,c3,c4,c5,c6,c7,c8,c9⟩,f0,f1,f2,f3,f4,f5,f6,f7,f8,f9⟩:=ab HB7.out
 have HE:=hid (aG (HK3.out.trans k7) (Nat.le_refl _) HB7.out he (.int .i64 0) (.int .i64 0) (.int .i64 0) (.bool false) (.int .i64 0) (.int .i32 0) (.bool false) (.slice none 0 0) (.string ⟨#[]⟩) (.slice none 0 0))
 have HR:=hid (ab (ac HB7.out (.int .i64 0) (.int .i64 0) (.int .i64 0) (.bool false) (.int .i64 0) (.int .i32 0) (.bool false) (.slice none 0 0) (.string ⟨#[]⟩) (.slice none 0 0))).1
 clear he k7
 try dsimp only
 go_wp2_with fail
 refine bodyPost_ret (v:=.tuple #[.agg ag,v]) ?_ rfl ?_
 ·obtain ⟨e0,e1,e2,e3,e4,e5,e6,e7,e8,e9⟩:=HR.out
  simp [results,Tryz.results91,go_sem,e0,e1,e2,e3,e4,e5,e6,e7,e8,e9]
 ·exact ⟨v,rfl,HE.out⟩
theorem r9 (s:ByteArray) (a:Nat) (w:World) (W:List UInt8) (E:Nat) (t:ByteArray) (hT:bE w) (ha:a<=s.size) (hs:s.size<=1000000) (hne:W ≠ []) (hE:E=bS bh s.data.toList a) (ht:t=s.extract a E) (hw:fb w s a W E t) (h0:¬ W=[46]) (h1:¬ W=[35,116]) (h2:¬ W=[35,116,114,117,101]) (h3:¬ W=[35,102]) (h4:¬ W=[35,102,97,108,115,101]) (hash:¬ W.getD 0 0=35) (x:Int) (hp:aJ W=some x) (hf:dG x) :
 Calls Tryz.prog 91 #[.string s,.int .i64 (a:Int)] w (bj (.ok ⟨9,W.length,false,.int x⟩) a w):=by
 subst ht
 have HT:=hid hT
 have HW:=hid hw
 have HNE:=hid hne
 have b1:a<=E:=by have:=hw.e;omega
 have b2:=hw.le
 have htl:=hw.t
 have hx0:=aK (s.extract a E) 0 (by rw [htl];exact List.length_pos_iff.2 hne) (W.getD 0 0) (by rw [htl])
 have hx:∀ W':World,(Instr.index 9 (.string (s.extract a E)) (.int .i64 0)).run Tryz.prog W'=.ok (.int .u8 ((W.getD 0 0).toNat:Int)) W':=hx0
 have q0:((s.extract a E).toList == [46])=false:=aj _ (by rw [htl];exact h0)
 have q1:((s.extract a E).toList == [35,116])=false:=aj _ (by rw [htl];exact h1)
 have q2:((s.extract a E).toList == [35,116,114,117,101])=false:=aj _ (by rw [htl];exact h2)
 have q3:((s.extract a E).toList == [35,102])=false:=aj _ (by rw [htl];exact h3)
 have q4:((s.extract a E).toList == [35,102,97,108,115,101])=false:=aj _ (by rw [htl];exact h4)
 clear h0 h1 h2 h3 h4
 have e35:(((W.getD 0 0).toNat:Int) == 35)=false:=aH hash
 obtain ⟨c,hcc⟩:∃ c,c=((W.getD 0 0).toNat:Int):=⟨_,rfl⟩
 rw [<- hcc] at hx e35
 clear hx0 hash hcc
 have HSZ:=hid (show (s.extract a E).size<=1000000 by rw [Lib.size_eq,Lib.extract_data];have:=List.length_take_le (E - a) (s.data.toList.drop a);have:=hw.le;omega)
 have HPV:=hid hp
 have HF:=hid hf
 clear hp hf
 have HRUN:=hid (fun w=>da s a 124 w ha hs)
 have hb:(w.alloc (.cells ag 29)).heap[w.heap.size]? = some (.cells ag 29 (0,0)):=hN w _
 have HB1:=hid hb
 have HK1:=hid (show K0 w (w.alloc (.cells ag 29)) from kR.alloc _)
 have HEX:=hid hE
 have HTL:=hid htl
 clear hT hb hE hw htl hne
 go_enter Tryz.func91,Tryz.ntmps91
 go_wp2_with fail
 refine (HRUN.out _).mono ?_
 rintro e w1 ⟨rfl,rfl⟩
 rw [di,<- HEX.out]
 try dsimp only
 go_wp2_with fail
 refine (fS (s.extract a E) _ (by rw [HTL.out];exact HNE.out) HSZ.out).mono ?_
 rintro e w2 ⟨rfl,k2⟩
 rw [HTL.out,HPV.out]
 have HB2:=hid (k2.heap HB1.out (by simp))
 have HK2:=hid (HK1.out.trans k2)
 clear k2
 try dsimp only [Option.isSome]
 go_wp2_with fail
 refine (li (s.extract a E) w2 HSZ.out).mono ?_
 intro e w3 hres
 unfold bp at hres
 rw [HTL.out,HPV.out] at hres
 have hres:dr x w2 e w3:=hres
 obtain ⟨k3,A,n,cp,rfl,hL,hn⟩:=hres.fits HF.out
 obtain ⟨z,hzz⟩:∃ z,z=decide (x<0):=⟨_,rfl⟩
 rw [<- hzz]
 have HZZ:=hid hzz
 clear hres hzz
 have k4:=k3.alloc (.cells #[.bool z,.slice A n cp] 24)
 have HL:=hid (hL.keep0 (kR.alloc (.cells #[.bool z,.slice A n cp] 24)))
 have HN:=hid hn
 have HB3:=hid (k4.heap HB2.out (by simp))
 have HK3:=hid (HK2.out.trans k4)
 clear k3 k4 hL hn
 try dsimp only
 go_wp2_with fail
 refine (dJ 4 0 z A n cp ⟨#[]⟩ a E _).mono ?_
 rintro e w5 ⟨rfl,k5⟩
 have HB5:=hid (k5.heap HB3.out (by simp))
 have HK5:=hid (HK3.out.trans k5)
 have HL5:=hid (HL.out.keep0 k5)
 clear k5
 obtain ⟨⟨c0,c1,c2,c3,c4,c5,c6,c7,c8,c9⟩,f0,f1,f2,f3,f4,f5,f6,f7,f8,f9⟩:=ab HB5.out
 have HE:=hid (af HK5.out (Nat.le_refl _) (.int .i64 9) (.int .i64 (a:Int)) (.int .i64 (E:Int)) (.bool false) (.int .i64 4) (.int .i32 0) (.bool z) (.slice A n cp) (.string ⟨#[]⟩) (.slice none 0 0))
 have HR:=hid (ab (ac HB5.out (.int .i64 9) (.int .i64 (a:Int)) (.int .i64 (E:Int)) (.bool false) (.int .i64 4) (.int .i32 0) (.bool z) (.slice A n cp) (.string ⟨#[]⟩) (.slice none 0 0))).1
 try dsimp only
 go_wp2_with fail
 refine bodyPost_ret (v:=.tuple #[aU 9 (a:Int) (E:Int) false 4 0 z A n cp ⟨#[]⟩,.nilIface]) ?_ rfl ?_
 ·obtain ⟨e0,e1,e2,e3,e4,e5,e6,e7,e8,e9⟩:=HR.out
  simp [results,Tryz.results91,go_sem,e0,e1,e2,e3,e4,e5,e6,e7,e8,e9]
 ·refine ⟨4,0,z,A,n,cp,⟨#[]⟩,by rw [<- HW.out.e];rfl,⟨rfl,rfl,HZZ.out,?_,HN.out,rfl⟩,HE.out⟩
  exact gN HL5.out HB5.out (ba _ _ _ _ _ _ _ _ _ _ _ _)
theorem r8 (s:ByteArray) (a:Nat) (w:World) (W:List UInt8) (E:Nat) (t:ByteArray) (hT:bE w) (ha:a<=s.size) (hs:s.size<=1000000) (hne:W ≠ []) (hE:E=bS bh s.data.toList a) (ht:t=s.extract a E) (hw:fb w s a W E t) (h0:¬ W=[46]) (h1:¬ W=[35,116]) (h2:¬ W=[35,116,114,117,101]) (h3:¬ W=[35,102]) (h4:¬ W=[35,102,97,108,115,101]) (hash:¬ W.getD 0 0=35) (hp:aJ W=none) (d:ig) (hd:cA true W=.ok d) :
 Calls Tryz.prog 91 #[.string s,.int .i64 (a:Int)] w (bj (.ok ⟨9,W.length,false,d⟩) a w):=by
 subst ht
 have HT:=hid hT
 have HW:=hid hw
 have HNE:=hid hne
 have b1:a<=E:=by have:=hw.e;omega
 have b2:=hw.le
 have htl:=hw.t
 have hx0:=aK (s.extract a E) 0 (by rw [htl];exact List.length_pos_iff.2 hne) (W.getD 0 0) (by rw [htl])
 have hx:∀ W':World,(Instr.index 9 (.string (s.extract a E)) (.int .i64 0)).run Tryz.prog W'=.ok (.int .u8 ((W.getD 0 0).toNat:Int)) W':=hx0
 have q0:((s.extract a E).toList == [46])=false:=aj _ (by rw [htl];exact h0)
 have q1:((s.extract a E).toList == [35,116])=false:=aj _ (by rw [htl];exact h1)
 have q2:((s.extract a E).toList == [35,116,114,117,101])=false:=aj _ (by rw [htl];exact h2)
 have q3:((s.extract a E).toList == [35,102])=false:=aj _ (by rw [htl];exact h3)
 have q4:((s.extract a E).toList == [35,102,97,108,115,101])=false:=aj _ (by rw [htl];exact h4)
 clear h0 h1 h2 h3 h4
 have e35:(((W.getD 0 0).toNat:Int) == 35)=false:=aH hash
 obtain ⟨c,hcc⟩:∃ c,c=((W.getD 0 0).toNat:Int):=⟨_,rfl⟩
 rw [<- hcc] at hx e35
 clear hx0 hash hcc
 have HSZ:=hid (show (s.extract a E).size<=1000000 by rw [Lib.size_eq,Lib.extract_data];have:=List.length_take_le (E - a) (s.data.toList.drop a);have:=hw.le;omega)
 have HPV:=hid hp
 have HTXT:=hid (fun w hT=>fN true (s.extract a E) a E w hT HSZ.out)
 clear hp
 have HD:=hid hd
 clear hd
 have HRUN:=hid (fun w=>da s a 124 w ha hs)
 have hb:(w.alloc (.cells ag 29)).heap[w.heap.size]? = some (.cells ag 29 (0,0)):=hN w _
 have HB1:=hid hb
 have HK1:=hid (show K0 w (w.alloc (.cells ag 29)) from kR.alloc _)
 have HEX:=hid hE
 have HTL:=hid htl
 clear hT hb hE hw htl hne
 go_enter Tryz.func91,Tryz.ntmps91
 go_wp2_with fail
 refine (HRUN.out _).mono ?_
 rintro e w1 ⟨rfl,rfl⟩
 rw [di,<- HEX.out]
 try dsimp only
 go_wp2_with fail
 refine (fS (s.extract a E) _ (by rw [HTL.out];exact HNE.out) HSZ.out).mono ?_
 rintro e w2 ⟨rfl,k2⟩
 rw [HTL.out,HPV.out]
 have HB2:=hid (k2.heap HB1.out (by simp))
 have HK2:=hid (HK1.out.trans k2)
 clear k2
 try dsimp only [Option.isSome]
 go_wp2_with fail
 refine (HTXT.out w2 (HT.out.keep HK2.out)).mono ?_
 intro e w3 hres
 rw [HTL.out,HD.out] at hres
 obtain ⟨rfl,k3⟩:=hres
 have HB3:=hid (k3.heap HB2.out (by simp))
 have HK3:=hid (HK2.out.trans k3)
 clear k3
 obtain ⟨⟨c0,c1,c2,c3,c4,c5,c6,c7,c8,c9⟩,f0,f1,f2,f3,f4,f5,f6,f7,f8,f9⟩:=ab HB3.out
 have HE:=hid (af HK3.out (Nat.le_refl _) (.int .i64 9) (.int .i64 (a:Int)) (.int .i64 (E:Int)) (.bool false) (.int .i64 6) (.int .i32 0) (.bool false) (.slice none 0 0) (.string (s.extract a E)) (.slice none 0 0))
 have HR:=hid (ab (ac HB3.out (.int .i64 9) (.int .i64 (a:Int)) (.int .i64 (E:Int)) (.bool false) (.int .i64 6) (.int .i32 0) (.bool false) (.slice none 0 0) (.string (s.extract a E)) (.slice none 0 0))).1
 try dsimp only
 go_wp2_with fail
 refine bodyPost_ret (v:=.tuple #[aU 9 (a:Int) (E:Int) false 6 0 false none 0 0 (s.extract a E),.nilIface]) ?_ rfl ?_
 ·obtain ⟨e0,e1,e2,e3,e4,e5,e6,e7,e8,e9⟩:=HR.out
  simp [results,Tryz.results91,go_sem,e0,e1,e2,e3,e4,e5,e6,e7,e8,e9]
 ·refine ⟨6,0,false,none,0,0,s.extract a E,by rw [<- HW.out.e];rfl,?_,HE.out⟩
  rw [mN HD.out]
  exact ⟨rfl,rfl,rfl,rfl,rfl,rfl,by rw [<- HTL.out]⟩
theorem uZ (s:ByteArray) (a:Nat) (w:World) (W:List UInt8) (E:Nat) (t:ByteArray) (hT:bE w) (ha:a<=s.size) (hs:s.size<=1000000) (hne:W ≠ []) (hE:E=bS bh s.data.toList a) (ht:t=s.extract a E) (hw:fb w s a W E t) (h0:¬ W=[46]) (h1:¬ W=[35,116]) (h2:¬ W=[35,116,114,117,101]) (h3:¬ W=[35,102]) (h4:¬ W=[35,102,97,108,115,101]) (hash:¬ W.getD 0 0=35) (hp:aJ W=none) (q:Nat) (hd:cA true W=.error q) :
 Calls Tryz.prog 91 #[.string s,.int .i64 (a:Int)] w (bj (.error (0,q)) a w):=by
 subst ht
 have HT:=hid hT
 have HW:=hid hw
 have HNE:=hid hne
 have b1:a<=E:=by have:=hw.e;omega
 have b2:=hw.le
 have htl:=hw.t
 have hx0:=aK (s.extract a E) 0 (by rw [htl];exact List.length_pos_iff.2 hne) (W.getD 0 0) (by rw [htl])
 have hx:∀ W':World,(Instr.index 9 (.string (s.extract a E)) (.int .i64 0)).run Tryz.prog W'=.ok (.int .u8 ((W.getD 0 0).toNat:Int)) W':=hx0
 have q0:((s.extract a E).toList == [46])=false:=aj _ (by rw [htl];exact h0)
 have q1:((s.extract a E).toList == [35,116])=false:=aj _ (by rw [htl];exact h1)
 have q2:((s.extract a E).toList == [35,116,114,117,101])=false:=aj _ (by rw [htl];exact h2)
 have q3:((s.extract a E).toList == [35,102])=false:=aj _ (by rw [htl];exact h3)
 have q4:((s.extract a E).toList == [35,102,97,108,115,101])=false:=aj _ (by rw [htl];exact h4)
 clear h0 h1 h2 h3 h4
 have e35:(((W.getD 0 0).toNat:Int) == 35)=false:=aH hash
 obtain ⟨c,hcc⟩:∃ c,c=((W.getD 0 0).toNat:Int):=⟨_,rfl⟩
 rw [<- hcc] at hx e35
 clear hx0 hash hcc
 have HSZ:=hid (show (s.extract a E).size<=1000000 by rw [Lib.size_eq,Lib.extract_data];have:=List.length_take_le (E - a) (s.data.toList.drop a);have:=hw.le;omega)
 have HPV:=hid hp
 have HTXT:=hid (fun w hT=>fN true (s.extract a E) a E w hT HSZ.out)
 clear hp
 have HD:=hid hd
 clear hd
 have HRUN:=hid (fun w=>da s a 124 w ha hs)
 have hb:(w.alloc (.cells ag 29)).heap[w.heap.size]? = some (.cells ag 29 (0,0)):=hN w _
 have HB1:=hid hb
 have HK1:=hid (show K0 w (w.alloc (.cells ag 29)) from kR.alloc _)
 have HEX:=hid hE
 have HTL:=hid htl
 clear hT hb hE hw htl hne
 go_enter Tryz.func91,Tryz.ntmps91
 go_wp2_with fail
 refine (HRUN.out _).mono ?_
 rintro e w1 ⟨rfl,rfl⟩
 rw [di,<- HEX.out]
 try dsimp only
 go_wp2_with fail
 refine (fS (s.extract a E) _ (by rw [HTL.out];exact HNE.out) HSZ.out).mono ?_
 rintro e w2 ⟨rfl,k2⟩
 rw [HTL.out,HPV.out]
 have HB2:=hid (k2.heap HB1.out (by simp))
 have HK2:=hid (HK1.out.trans k2)
 clear k2
 try dsimp only [Option.isSome]
 go_wp2_with fail
 refine (HTXT.out w2 (HT.out.keep HK2.out)).mono ?_
 intro e w3 hres
 rw [HTL.out,HD.out] at hres
 obtain ⟨v,rfl,he,k3⟩:=hres
 have HB3:=hid (k3.heap HB2.out (by simp))
 obtain ⟨⟨c0,c1,c2,c3,c4,c5,c6,c7,c8,c9⟩,f0,f1,f2,f3,f4,f5,f6,f7,f8,f9⟩:=ab HB3.out
 have HE:=hid (aG (HK2.out.trans k3) (Nat.le_refl _) HB3.out he (.int .i64 0) (.int .i64 0) (.int .i64 0) (.bool false) (.int .i64 0) (.int .i32 0) (.bool false) (.slice none 0 0) (.string ⟨#[]⟩) (.slice none 0 0))
 have HR:=hid (ab (ac HB3.out (.int .i64 0) (.int .i64 0) (.int .i64 0) (.bool false) (.int .i64 0) (.int .i32 0) (.bool false) (.slice none 0 0) (.string ⟨#[]⟩) (.slice none 0 0))).1
 clear he k3
 try dsimp only
 go_wp2_with fail
 refine bodyPost_ret (v:=.tuple #[.agg ag,v]) ?_ rfl ⟨v,rfl,HE.out⟩
 obtain ⟨e0,e1,e2,e3,e4,e5,e6,e7,e8,e9⟩:=HR.out
 simp [results,Tryz.results91,go_sem,e0,e1,e2,e3,e4,e5,e6,e7,e8,e9]
theorem sd (s:ByteArray) (a:Nat) (w:World) (hT:bE w) (ha:a<=s.size) (hs:s.size<=1000000) (hne:(s.data.toList.drop a).takeWhile bh ≠ []) :
 Calls Tryz.prog 91 #[.string s,.int .i64 (a:Int)] w (bj (de ((s.data.toList.drop a).takeWhile bh)) a w):=by
 have hw:=jE s a w ha
 obtain ⟨W,hW⟩:∃ W,W=(s.data.toList.drop a).takeWhile bh:=⟨_,rfl⟩
 rw [<- hW] at hw hne ⊢
 obtain ⟨E,hE⟩:∃ E,E=bS bh s.data.toList a:=⟨_,rfl⟩
 rw [<- hE] at hw
 obtain ⟨t,ht⟩:∃ t,t=s.extract a E:=⟨_,rfl⟩
 rw [<- ht] at hw
 have hgd:W.head? = some 35 ↔ W.getD 0 0=35:=by
  cases W with
  | nil=>exact absurd rfl hne
  | cons c u=>simp
 unfold de fs
 by_cases h0:W=[46]
 ·rw [if_pos h0];exact sa s a w W E t hT ha hs hne hE ht hw h0
 rw [if_neg h0]
 by_cases h1:W=[35,116]
 ·rw [if_pos (.inl h1)];exact uY s a w W E t hT ha hs hne hE ht hw h0 h1
 by_cases h2:W=[35,116,114,117,101]
 ·rw [if_pos (.inr h2)];exact uX s a w W E t hT ha hs hne hE ht hw h0 h1 h2
 rw [if_neg (by rintro (h | h);exact h1 h;exact h2 h)]
 by_cases h3:W=[35,102]
 ·rw [if_pos (.inl h3)];exact u6 s a w W E t hT ha hs hne hE ht hw h0 h1 h2 h3
 by_cases h4:W=[35,102,97,108,115,101]
 ·rw [if_pos (.inr h4)];exact u5 s a w W E t hT ha hs hne hE ht hw h0 h1 h2 h3 h4
 rw [if_neg (by rintro (h | h);exact h3 h;exact h4 h)]
 by_cases h5:W.head? = some 35
 ·rw [if_pos h5];exact nZ s a w W E t hT ha hs hne hE ht hw h0 h1 h2 h3 h4 (hgd.1 h5)
 rw [if_neg h5]
 have h6:¬ W.getD 0 0=35:=fun h=>h5 (hgd.2 h)
 cases hp:aJ W with
 | some x=>
  dsimp only
  by_cases hf:(aA x.natAbs).length<=48
  ·rw [if_pos hf];exact r9 s a w W E t hT ha hs hne hE ht hw h0 h1 h2 h3 h4 h6 x hp hf
  ·rw [if_neg hf];exact sc s a w W E t hT ha hs hne hE ht hw h0 h1 h2 h3 h4 h6 x hp hf
 | none=>
  dsimp only
  cases hd:cA true W with
  | ok d=>exact r8 s a w W E t hT ha hs hne hE ht hw h0 h1 h2 h3 h4 h6 hp d hd
  | error q=>exact uZ s a w W E t hT ha hs hne hE ht hw h0 h1 h2 h3 h4 h6 hp q hd
end Go.Proofs.YtonnikipeokkaaaGreatDoor
