/-
  lex: Next.
-/
import Derived.Test.YtonnikipeokkaaaGreatDoorLxNext
import Derived.Test.YtonnikipeokkaaaGreatDoorLxAs
import Derived.StillTailTactics
namespace Go.Proofs.YtonnikipeokkaaaGreatDoor
set_option maxRecDepth 100000
set_option maxHeartbeats 4000000
open Go.Lib (hid)
open Go.RowKit Go.Lib
theorem rx {w w':World} {d:ig} {k c:Int} {neg:Bool} {A:Option Addr} {n cp:Nat} {t:ByteArray} {B:Nat} {Y:Array Value} (h:dY w d k c neg A n cp t) (hb:w.heap[B]? = some (.cells Y 29 (0,0))) (K:ah (fun b=>b=B) w w') {X:Prop} (_:X):dY w' d k c neg A n cp t:=by
 cases d
 case int x=>exact ⟨h.1,h.2.1,h.2.2.1,gN h.2.2.2.1 hb K,h.2.2.2.2⟩
 all_goals exact h
def bd (r:Except (Nat × Nat) (Nat × Tk)) (w:World) (e:Ending) (w':World):Prop:=
 match r with
 | .ok (j,t)=>∃ (k c:Int) (neg:Bool) (A:Option Addr) (n cp:Nat) (x:ByteArray),e=.returned (.tuple #[aU t.kind j ((j+t.len:Nat):Int) t.sq k c neg A n cp x,.int .i64 0,.int .i64 0])/\dY w' t.d k c neg A n cp x/\K0 w w'
 | .error (p,c)=>e=.returned (.tuple #[.agg ag,.int .i64 p,.int .i64 c])/\K0 w w'
theorem l6 (s:ByteArray) (at_:Int) (w:World) (h:4096<s.size) :
 Calls Tryz.prog 13 #[.string s,.int .i64 at_] w (bd (.error (0,12)) w):=by
 have h1:decide ((4096:Int)<(s.size:Int))=true:=dT (by omega)
 clear h
 go_enter Tryz.func13,Tryz.ntmps13
 go_wp2_with fail
 exact bodyPost_ret (v:=.tuple #[.agg ag,.int .i64 0,.int .i64 12]) (by simp [results,Tryz.results13,go_sem]) rfl ⟨rfl,kR.alloc _⟩
theorem nw (s:ByteArray) (at_:Int) (w:World) (h:¬ 4096<s.size) (ha:at_<0\/(s.size:Int)<at_) :
 Calls Tryz.prog 13 #[.string s,.int .i64 at_] w (bd (.error (0,1)) w):=by
 have h1:decide ((4096:Int)<(s.size:Int))=false:=dF (by omega)
 have h2:decide (4096<s.size)=false:=dF h
 clear h
 by_cases h0:at_<0
 ·have h3:decide (at_<0)=true:=dT h0
  clear ha h0
  go_enter Tryz.func13,Tryz.ntmps13
  go_wp2_with fail
  exact bodyPost_ret (v:=.tuple #[.agg ag,.int .i64 0,.int .i64 1]) (by simp [results,Tryz.results13,go_sem]) rfl ⟨rfl,kR.alloc _⟩
 ·have h3:decide (at_<0)=false:=dF h0
  have h4:decide ((s.size:Int)<at_)=true:=dT (by omega)
  clear ha h0
  go_enter Tryz.func13,Tryz.ntmps13
  go_wp2_with fail
  exact bodyPost_ret (v:=.tuple #[.agg ag,.int .i64 0,.int .i64 1]) (by simp [results,Tryz.results13,go_sem]) rfl ⟨rfl,kR.alloc _⟩
theorem pg (s:ByteArray) (a:Nat) (w:World) (hT:bE w) (h:¬ 4096<s.size) (ha:a<=s.size) (j:Nat) (t:Tk) (hl:iE s.data.toList a=.ok (j,t)) :
 Calls Tryz.prog 13 #[.string s,.int .i64 (a:Int)] w (bd (.ok (j,t)) w):=by
 have h1:decide ((4096:Int)<(s.size:Int))=false:=dF (by omega)
 have h2:decide (4096<s.size)=false:=dF h
 have h3:decide ((s.size:Int)<(a:Int))=false:=dF (by omega)
 have h4:decide (s.size<a)=false:=dF (by omega)
 have HT:=hid hT
 have HNX:=hid (fun w hT=>ns s a w hT ha (by omega))
 rw [hl] at HNX
 have hb:(w.alloc (.cells ag 29)).heap[w.heap.size]? = some (.cells ag 29 (0,0)):=hN w _
 have HB1:=hid hb
 have HK1:=hid (show K0 w (w.alloc (.cells ag 29)) from kR.alloc _)
 have h5:decide ((a:Int)<0)=false:=dF (by omega)
 clear h hT hl hb
 go_enter Tryz.func13,Tryz.ntmps13
 go_wp2_with fail
 refine (HNX.out _ (HT.out.keep HK1.out)).mono ?_
 intro e w2 hres
 obtain ⟨k,c,neg,A,n,cp,x,he,hlf,k2⟩:=hres
 obtain ⟨tk,htk⟩:∃ z:Int,z=(t.kind:Int):=⟨_,rfl⟩
 obtain ⟨te,hte⟩:∃ z:Int,z=((j+t.len:Nat):Int):=⟨_,rfl⟩
 obtain ⟨ts,hts⟩:∃ z:Bool,z=t.sq:=⟨_,rfl⟩
 rw [<- htk,<- hte,<- hts] at he
 subst he
 have HEND:=hid (show aU tk (j:Int) te ts k c neg A n cp x=aU t.kind (j:Int) ((j+t.len:Nat):Int) t.sq k c neg A n cp x by rw [htk,hte,hts])
 have HB2:=hid (k2.heap HB1.out (by simp))
 have HK2:=hid (HK1.out.trans k2)
 have HLF:=hid hlf
 obtain ⟨⟨c0,c1,c2,c3,c4,c5,c6,c7,c8,c9⟩,f0,f1,f2,f3,f4,f5,f6,f7,f8,f9⟩:=ab HB2.out
 have HROW:=hid (ac HB2.out (.int .i64 tk) (.int .i64 (j:Int)) (.int .i64 te) (.bool ts) (.int .i64 k) (.int .i32 c) (.bool neg) (.slice A n cp) (.string x) (.slice none 0 0))
 have HKS:=hid (af HK2.out (Nat.le_refl _) (.int .i64 tk) (.int .i64 (j:Int)) (.int .i64 te) (.bool ts) (.int .i64 k) (.int .i32 c) (.bool neg) (.slice A n cp) (.string x) (.slice none 0 0))
 have HL2:=hid (fC HLF.out HB2.out (ba w2 w.heap.size (.int .i64 tk) (.int .i64 (j:Int)) (.int .i64 te) (.bool ts) (.int .i64 k) (.int .i32 c) (.bool neg) (.slice A n cp) (.string x) (.slice none 0 0)))
 clear hlf k2 htk hte hts
 try dsimp only
 go_wp2_with fail
 refine (Aslex.as_nil _ _).mono ?_
 rintro e w3 ⟨rfl,hw⟩
 have hlt:=az HB2.out
 have HB3:=hid (show w3.heap[w.heap.size]? = some (.cells (tkC tk (j:Int) te ts k c neg A n cp x none 0 0) 29 (0,0)) by
  rw [<- hw,Below.heap_alloc _ _ _ (az HROW.out)];exact HROW.out)
 have HK3:=hid (show K0 w w3 by rw [<- hw];exact HKS.out.alloc _)
 have HL3:=hid (show dY w3 t.d k c neg A n cp x by rw [<- hw];exact HL2.out.keep (kR.alloc _))
 clear hw c0 c1 c2 c3 c4 c5 c6 c7 c8 c9 f0 f1 f2 f3 f4 f5 f6 f7 f8 f9 hlt
 obtain ⟨⟨c0,c1,c2,c3,c4,c5,c6,c7,c8,c9⟩,f0,f1,f2,f3,f4,f5,f6,f7,f8,f9⟩:=ab HB3.out
 have HE:=hid (af HK3.out (Nat.le_refl _) (.int .i64 tk) (.int .i64 (j:Int)) (.int .i64 te) (.bool ts) (.int .i64 k) (.int .i32 c) (.bool neg) (.slice A n cp) (.string x) (.slice none 0 0))
 have HR:=hid (ab (ac HB3.out (.int .i64 tk) (.int .i64 (j:Int)) (.int .i64 te) (.bool ts) (.int .i64 k) (.int .i32 c) (.bool neg) (.slice A n cp) (.string x) (.slice none 0 0))).1
 have HLE:=hid (rx HL3.out HB3.out (ba w3 w.heap.size (.int .i64 tk) (.int .i64 (j:Int)) (.int .i64 te) (.bool ts) (.int .i64 k) (.int .i32 c) (.bool neg) (.slice A n cp) (.string x) (.slice none 0 0)) (ac HB3.out (.int .i64 tk) (.int .i64 (j:Int)) (.int .i64 te) (.bool ts) (.int .i64 k) (.int .i32 c) (.bool neg) (.slice A n cp) (.string x) (.slice none 0 0)))
 try dsimp only
 go_wp2_with fail
 refine bodyPost_ret (v:=.tuple #[aU tk (j:Int) te ts k c neg A n cp x,.int .i64 0,.int .i64 0]) ?_ rfl ?_
 ·obtain ⟨e0,e1,e2,e3,e4,e5,e6,e7,e8,e9⟩:=HR.out
  simp [results,Tryz.results13,go_sem,e0,e1,e2,e3,e4,e5,e6,e7,e8,e9]
 ·exact ⟨k,c,neg,A,n,cp,x,by rw [HEND.out],HLE.out,HE.out⟩
theorem nu (s:ByteArray) (a:Nat) (w:World) (hT:bE w) (h:¬ 4096<s.size) (ha:a<=s.size) (p q:Nat) (hl:iE s.data.toList a=.error (p,q)) :
 Calls Tryz.prog 13 #[.string s,.int .i64 (a:Int)] w (bd (.error (p,q)) w):=by
 have h1:decide ((4096:Int)<(s.size:Int))=false:=dF (by omega)
 have h2:decide (4096<s.size)=false:=dF h
 have h3:decide ((s.size:Int)<(a:Int))=false:=dF (by omega)
 have h4:decide (s.size<a)=false:=dF (by omega)
 have h5:decide ((a:Int)<0)=false:=dF (by omega)
 have HT:=hid hT
 have HNX:=hid (fun w hT=>ns s a w hT ha (by omega))
 rw [hl] at HNX
 have hb:(w.alloc (.cells ag 29)).heap[w.heap.size]? = some (.cells ag 29 (0,0)):=hN w _
 have HB1:=hid hb
 have HK1:=hid (show K0 w (w.alloc (.cells ag 29)) from kR.alloc _)
 clear h hT hl hb
 go_enter Tryz.func13,Tryz.ntmps13
 go_wp2_with fail
 refine (HNX.out _ (HT.out.keep HK1.out)).mono ?_
 rintro e w2 ⟨v,rfl,he,k2⟩
 have HB2:=hid (k2.heap HB1.out (by simp))
 have HK2:=hid (HK1.out.trans k2)
 obtain ⟨⟨c0,c1,c2,c3,c4,c5,c6,c7,c8,c9⟩,f0,f1,f2,f3,f4,f5,f6,f7,f8,f9⟩:=ab HB2.out
 have HROW:=hid (ac HB2.out (.int .i64 0) (.int .i64 0) (.int .i64 0) (.bool false) (.int .i64 0) (.int .i32 0) (.bool false) (.slice none 0 0) (.string ⟨#[]⟩) (.slice none 0 0))
 have HE:=hid (aG HK2.out (Nat.le_refl _) HB2.out he (.int .i64 0) (.int .i64 0) (.int .i64 0) (.bool false) (.int .i64 0) (.int .i32 0) (.bool false) (.slice none 0 0) (.string ⟨#[]⟩) (.slice none 0 0))
 clear he k2
 try dsimp only
 go_wp2_with fail
 have hsz:(cZ w2 w.heap.size (.int .i64 0) (.int .i64 0) (.int .i64 0) (.bool false) (.int .i64 0) (.int .i32 0) (.bool false) (.slice none 0 0) (.string ⟨#[]⟩) (.slice none 0 0)).heap.size=w2.heap.size:=by simp [cZ,World.setCell]
 obtain ⟨A,B,what,rfl,hB,hA⟩:=HE.out.1
 have lA:=az hA
 have lB:=az hB
 have lR:=az HROW.out
 have hB4:((cZ w2 w.heap.size (.int .i64 0) (.int .i64 0) (.int .i64 0) (.bool false) (.int .i64 0) (.int .i32 0) (.bool false) (.slice none 0 0) (.string ⟨#[]⟩) (.slice none 0 0)).alloc (.cells #[.pointer none] 63)).heap[B]? = some (.cells #[.string what,.iface 63 (.pointer (some ⟨A,0,none⟩))] 209 (0,0)):=by rw [Below.heap_alloc _ _ _ lB];exact hB
 have hA4:((cZ w2 w.heap.size (.int .i64 0) (.int .i64 0) (.int .i64 0) (.bool false) (.int .i64 0) (.int .i32 0) (.bool false) (.slice none 0 0) (.string ⟨#[]⟩) (.slice none 0 0)).alloc (.cells #[.pointer none] 63)).heap[A]? = some (.cells #[.int .i64 (p:Int),.int .i64 (q:Int)] 67 (0,0)):=by
  rw [Below.heap_alloc _ _ _ lA];exact hA
 have hR4:((cZ w2 w.heap.size (.int .i64 0) (.int .i64 0) (.int .i64 0) (.bool false) (.int .i64 0) (.int .i32 0) (.bool false) (.slice none 0 0) (.string ⟨#[]⟩) (.slice none 0 0)).alloc (.cells #[.pointer none] 63)).heap[w.heap.size]? = some (.cells ag 29 (0,0)):=by rw [Below.heap_alloc _ _ _ lR];exact HROW.out
 have ht4:((cZ w2 w.heap.size (.int .i64 0) (.int .i64 0) (.int .i64 0) (.bool false) (.int .i64 0) (.int .i32 0) (.bool false) (.slice none 0 0) (.string ⟨#[]⟩) (.slice none 0 0)).alloc (.cells #[.pointer none] 63)).heap[w2.heap.size]? = some (.cells #[.pointer none] 63 (0,0)):=by
  have:=hN (cZ w2 w.heap.size (.int .i64 0) (.int .i64 0) (.int .i64 0) (.bool false) (.int .i64 0) (.int .i32 0) (.bool false) (.slice none 0 0) (.string ⟨#[]⟩) (.slice none 0 0)) (.cells #[.pointer none] 63)
  rw [hsz] at this
  exact this
 have k4:K0 w ((cZ w2 w.heap.size (.int .i64 0) (.int .i64 0) (.int .i64 0) (.bool false) (.int .i64 0) (.int .i32 0) (.bool false) (.slice none 0 0) (.string ⟨#[]⟩) (.slice none 0 0)).alloc (.cells #[.pointer none] 63)):=HE.out.2.alloc _
 have hg4:=(HT.out.keep k4).err
 rw [hsz] at lA lR
 have HA4:=hid hA4
 have HR4:=hid hR4
 have HK4:=hid k4
 have HLT:=hid (And.intro lA lR)
 clear hA hB hA4 hR4 k4 lA lB lR c0 c1 c2 c3 c4 c5 c6 c7 c8 c9 f0 f1 f2 f3 f4 f5 f6 f7 f8 f9
 refine (Aslex.as_hit A B w2.heap.size what (.pointer none) #[] _ hg4 hB4 ht4).mono ?_
 rintro e w5 ⟨rfl,htb,k5⟩
 have hA5:=k5.heap HA4.out (by have:=HLT.out.1;omega)
 have hR5:=k5.heap HR4.out (by have:=HLT.out.2;omega)
 have hK5:K0 w w5:=HK4.out.into k5 (by rintro i rfl;have:=HLT.out.2;omega)
 obtain ⟨⟨c0,c1,c2,c3,c4,c5,c6,c7,c8,c9⟩,f0,f1,f2,f3,f4,f5,f6,f7,f8,f9⟩:=ab hR5
 have g0:w5.cell? ⟨w2.heap.size,0,none⟩=some (.pointer (some ⟨A,0,none⟩)):=by rw [cell_of_row w5 _ _ _ _ _ htb];rfl
 have g1:w5.cell? ⟨A,0,none⟩=some (.int .i64 (p:Int)):=by rw [cell_of_row w5 _ _ _ _ _ hA5];rfl
 have g2:w5.cell? ⟨A,1,none⟩=some (.int .i64 (q:Int)):=by rw [cell_of_row w5 _ _ _ _ _ hA5];rfl
 have n1:¬ A=w.heap.size:=by
  rintro rfl
  rw [hA5] at hR5;injection hR5 with hR5;injection hR5 with _ hR5;cases hR5
 have HR5:=hid (ab (ac hR5 (.int .i64 0) (.int .i64 0) (.int .i64 0) (.bool false) (.int .i64 0) (.int .i32 0) (.bool false) (.slice none 0 0) (.string ⟨#[]⟩) (.slice none 0 0))).1
 have HK5:=hid (af hK5 (Nat.le_refl _) (.int .i64 0) (.int .i64 0) (.int .i64 0) (.bool false) (.int .i64 0) (.int .i32 0) (.bool false) (.slice none 0 0) (.string ⟨#[]⟩) (.slice none 0 0))
 have n2:¬ w2.heap.size=w.heap.size:=by have:=HLT.out.2;omega
 clear hB4 ht4 hg4 hA5 hR5 hK5 htb k5 hsz
 try dsimp only
 go_wp2_with fail
 have ks:=ba w5 w.heap.size (.int .i64 0) (.int .i64 0) (.int .i64 0) (.bool false) (.int .i64 0) (.int .i32 0) (.bool false) (.slice none 0 0) (.string ⟨#[]⟩) (.slice none 0 0)
 have lA:=bL w5 _ g1
 have l2:=bL w5 _ g0
 have p0:=(ks.cell (p:=⟨w2.heap.size,0,none⟩) l2 n2).trans g0
 have p1:=(ks.cell (p:=⟨A,0,none⟩) lA n1).trans g1
 have p2:=(ks.cell (p:=⟨A,1,none⟩) lA n1).trans g2
 dsimp only [cZ] at p0 p1 p2
 clear ks lA l2
 generalize hB0:w.heap.size=B0 at *
 generalize w2.heap.size=B2 at *
 go_big_region
 go_wp2_with fail
 refine bodyPost_ret (v:=.tuple #[.agg ag,.int .i64 (p:Int),.int .i64 (q:Int)]) ?_ rfl ?_
 ·obtain ⟨e0,e1,e2,e3,e4,e5,e6,e7,e8,e9⟩:=HR5.out
  simp [results,Tryz.results13,go_sem,e0,e1,e2,e3,e4,e5,e6,e7,e8,e9]
 ·exact ⟨rfl,HK5.out.drew⟩
theorem nx (s:ByteArray) (at_:Int) (w:World) (hT:bE w) :
 Calls Tryz.prog 13 #[.string s,.int .i64 at_] w (bd (fX s.data.toList at_) w):=by
 have hz:s.data.toList.length=s.size:=(Lib.size_eq s).symm
 unfold fX
 rw [hz]
 by_cases h1:4096<s.size
 ·rw [if_pos h1];exact l6 s at_ w h1
 rw [if_neg h1]
 by_cases h2:at_<0\/(s.size:Int)<at_
 ·rw [if_pos h2];exact nw s at_ w h1 h2
 rw [if_neg h2]
 obtain ⟨a,rfl⟩:=Int.eq_ofNat_of_zero_le (show 0<=at_ by omega)
 rw [Int.toNat_natCast]
 cases hl:iE s.data.toList a with
 | ok r=>obtain ⟨j,t⟩:=r;exact pg s a w hT h1 (by omega) j t hl
 | error r=>obtain ⟨p,q⟩:=r;exact nu s a w hT h1 (by omega) p q hl
end Go.Proofs.YtonnikipeokkaaaGreatDoor
