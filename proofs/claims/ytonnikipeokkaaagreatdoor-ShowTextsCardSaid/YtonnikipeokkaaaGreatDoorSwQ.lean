/-
  The document's hex digits of a char.
  The document's name of a char. (Printed by gen_sname.py.)
  The document's text between two signs. (Printed by gen_squo.
  The document's Show: walks in cases. (Printed by gen_sshow.p
-/
import Derived.Test.YtonnikipeokkaaaGreatDoorSwNum
import Derived.Test.YtonnikipeokkaaaGreatDoorSwR
import Derived.Test.YtonnikipeokkaaaGreatDoorPaDoc
namespace Go.Proofs.YtonnikipeokkaaaGreatDoor
set_option maxRecDepth 100000
set_option maxHeartbeats 2000000
open Go.Lib (hid)
open Go.RowKit Go.Lib
theorem l7 (n:Nat) (hn:n<16):(ByteArray.extract ⟨#[48,49,50,51,52,53,54,55,56,57,97,98,99,100,101,102]⟩ n (n+1))=⟨#[fe n]⟩:=by
 have:∀ i:Fin 16,(ByteArray.extract ⟨#[48,49,50,51,52,53,54,55,56,57,97,98,99,100,101,102]⟩ i.val (i.val+1))=⟨#[fe i.val]⟩:=by decide
 exact this ⟨n,hn⟩
theorem eN (n:Nat) (w:World) (hn:n<256):Calls Tryz.prog 80 #[.int .i32 (n:Int)] w (ax (aD n) w):=by
 have HN:=hid hn
 by_cases h0:n=0
 ·subst h0
  clear hn
  go_enter Tryz.func80,Tryz.ntmps80
  go_wp2_with fail
  refine wp_loop_rounds 1 ?_
  rw [rounds_succ]
  go_wp2_with fail
  go_ret
  exact ⟨rfl,kR⟩
 ·by_cases h16:n<16
  ·obtain ⟨x,hx⟩:∃ x:Int,x=(n:Int):=⟨_,rfl⟩
   rw [<- hx]
   have x0:0<x:=by omega
   have x1:x<16:=by omega
   clear hn h0
   have HX:=hid hx
   clear hx h16
   go_enter Tryz.func80,Tryz.ntmps80
   go_wp2_with fail
   refine wp_loop_rounds 2 ?_
   rw [rounds_succ]
   go_wp2_with fail
   rw [show (x % 16).toNat=n from by have:=HX.out;omega,show (x % 16+1).toNat=n+1 from by have:=HX.out;omega,l7 n (by have:=HX.out;omega)]
   rw [show x / 16=0 from by omega,show ∀ h:UInt8,(⟨#[h]⟩:ByteArray)++⟨#[]⟩=⟨#[h]⟩ from fun _=>rfl]
   have HF:=hid (show aD n=[fe n] from by unfold aD;rw [if_pos (by have:=HX.out;omega)])
   generalize fe n=h at HF ⊢
   have he:((⟨#[h]⟩:ByteArray) == ⟨#[]⟩)=false:=rfl
   rw [rounds_succ]
   go_wp2_with fail
   go_ret
   exact ⟨by rw [HF.out];rfl,kR⟩
  ·obtain ⟨x,hx⟩:∃ x:Int,x=(n:Int):=⟨_,rfl⟩
   rw [<- hx]
   have x0:0<x:=by omega
   have x1:x<256:=by omega
   have HL:=hid (show 16<=n from by omega)
   clear hn h0
   have HX:=hid hx
   clear hx h16
   go_enter Tryz.func80,Tryz.ntmps80
   go_wp2_with fail
   refine wp_loop_rounds 3 ?_
   rw [rounds_succ]
   go_wp2_with fail
   obtain ⟨y,hy⟩:∃ y:Int,y=x / 16:=⟨_,rfl⟩
   rw [show (x % 16).toNat=n % 16 from by rw [HX.out];omega,show (x % 16+1).toNat=n % 16+1 from by rw [HX.out];omega,l7 (n % 16) (by omega)]
   rw [<- hy,show ∀ h:UInt8,(⟨#[h]⟩:ByteArray)++⟨#[]⟩=⟨#[h]⟩ from fun _=>rfl]
   have y0:0<y:=by have:=HL.out;have:=HX.out;omega
   have y1:y<16:=by omega
   have HY:=hid (show y=((n / 16:Nat):Int) from by rw [hy,HX.out];omega)
   have HF:=hid (show aD n=[fe (n / 16),fe (n % 16)] from by unfold aD;rw [if_neg (by have:=HL.out;omega)])
   clear hy
   generalize fe (n % 16)=h at HF ⊢
   rw [rounds_succ]
   go_wp2_with fail
   rw [show (y % 16).toNat=n / 16 from by have:=HY.out;omega,show (y % 16+1).toNat=n / 16+1 from by have:=HY.out;omega,l7 (n / 16) (by have:=HN.out;omega)]
   rw [show y / 16=0 from by omega,show ∀ g h:UInt8,(⟨#[g]⟩:ByteArray)++⟨#[h]⟩=⟨#[g,h]⟩ from fun _ _=>rfl]
   generalize fe (n / 16)=g at HF ⊢
   have he:((⟨#[g,h]⟩:ByteArray) == ⟨#[]⟩)=false:=rfl
   rw [rounds_succ]
   go_wp2_with fail
   go_ret
   exact ⟨by rw [HF.out];rfl,kR⟩
end Go.Proofs.YtonnikipeokkaaaGreatDoor

namespace Go.Proofs.YtonnikipeokkaaaGreatDoor
set_option maxRecDepth 100000
set_option maxHeartbeats 4000000
open Go.Lib (hid)
open Go.RowKit Go.Lib
theorem gc (n:Nat) (w:World):(convert 70 9 (.slice (some ⟨w.heap.size,0,none⟩) (aI n).length (aI n).length)).run Tryz.prog (w.alloc (.cells (Lib.byteCells (aI n)).toArray 5))=.ok (.string ⟨(aI n).toArray⟩) (w.alloc (.cells (Lib.byteCells (aI n)).toArray 5)):=by
 refine run_convert_bytes_back _ 70 9 5 ⟨w.heap.size,0,none⟩ _ (aI n) Tryz.underlying70 Tryz.underlying5 Tryz.underlying9 (fun j hj=>?_)
 rw [Addr.add_lit,Nat.zero_add,cell_of_row _ _ _ _ _ _ (hN w _)]
 unfold Lib.byteCells
 simp [gE hj]
theorem jF (n:Nat):(aI n).length<=4:=by
 unfold aI
 split
 ·simp
 ·split
  ·simp
  ·split<;>simp
theorem bV (a b:List UInt8):(⟨a.toArray⟩:ByteArray)++⟨b.toArray⟩=⟨(a++b).toArray⟩:=by
 apply ByteArray.ext
 simp
theorem eZ (n:Nat):(aD n).length<=2:=by
 unfold aD
 split<;>simp
theorem aR (l:List UInt8):(⟨l.toArray⟩:ByteArray).size=l.length:=by simp [ByteArray.size]
abbrev nmS:Array Value:=#[.string ⟨#[110,117,108]⟩,.string ⟨#[97,108,97,114,109]⟩,.string ⟨#[98,97,99,107,115,112,97,99,101]⟩,.string ⟨#[116,97,98]⟩,.string ⟨#[110,101,119,108,105,110,101]⟩,.string ⟨#[114,101,116,117,114,110]⟩,.string ⟨#[101,115,99,97,112,101]⟩,.string ⟨#[115,112,97,99,101]⟩,.string ⟨#[100,101,108,101,116,101]⟩]
abbrev nmI:Array Value:=#[.int .i32 0,.int .i32 7,.int .i32 8,.int .i32 9,.int .i32 10,.int .i32 13,.int .i32 27,.int .i32 32,.int .i32 127]
def yu (w:World) (B:Nat):Prop:=w.heap[B]? = some (.cells nmS 9 (0,0))/\w.heap[B+1]? = some (.cells nmI 21 (0,0))
theorem ea (w:World):yu ((w.alloc (.cells nmS 9)).alloc (.cells nmI 21)) w.heap.size:=⟨cw (hN _ _) _,by
 have:=hN (w.alloc (.cells nmS 9)) (.cells nmI 21)
 rwa [World.size_alloc] at this⟩
theorem dB (w:World):K0 w ((w.alloc (.cells nmS 9)).alloc (.cells nmI 21)):=(kR.alloc _).alloc _
theorem cO {w:World} {B:Nat} (h:yu w B):w.cell? ⟨B,0,none⟩=some (.string ⟨#[110,117,108]⟩)/\w.cell? ⟨B,1,none⟩=some (.string ⟨#[97,108,97,114,109]⟩)/\w.cell? ⟨B,2,none⟩=some (.string ⟨#[98,97,99,107,115,112,97,99,101]⟩)/\w.cell? ⟨B,3,none⟩=some (.string ⟨#[116,97,98]⟩)/\w.cell? ⟨B,4,none⟩=some (.string ⟨#[110,101,119,108,105,110,101]⟩)/\w.cell? ⟨B,5,none⟩=some (.string ⟨#[114,101,116,117,114,110]⟩)/\w.cell? ⟨B,6,none⟩=some (.string ⟨#[101,115,99,97,112,101]⟩)/\w.cell? ⟨B,7,none⟩=some (.string ⟨#[115,112,97,99,101]⟩)/\w.cell? ⟨B,8,none⟩=some (.string ⟨#[100,101,108,101,116,101]⟩)/\w.cell? ⟨B+1,0,none⟩=some (.int .i32 0)/\w.cell? ⟨B+1,1,none⟩=some (.int .i32 7)/\w.cell? ⟨B+1,2,none⟩=some (.int .i32 8)/\w.cell? ⟨B+1,3,none⟩=some (.int .i32 9)/\w.cell? ⟨B+1,4,none⟩=some (.int .i32 10)/\w.cell? ⟨B+1,5,none⟩=some (.int .i32 13)/\w.cell? ⟨B+1,6,none⟩=some (.int .i32 27)/\w.cell? ⟨B+1,7,none⟩=some (.int .i32 32)/\w.cell? ⟨B+1,8,none⟩=some (.int .i32 127):=by
 refine ⟨?_,?_,?_,?_,?_,?_,?_,?_,?_,?_,?_,?_,?_,?_,?_,?_,?_,?_⟩
 all_goals first
  | (rw [cell_of_row _ _ _ _ _ _ h.1];rfl)
  | (rw [cell_of_row _ _ _ _ _ _ h.2];rfl)
theorem vJ (w:World):Calls Tryz.prog 50 #[.int .i32 (0:Int)] w (ax (bH 0) w):=by
 have HN:=hid (ea w)
 have HK:=hid (dB w)
 go_enter Tryz.func50,Tryz.ntmps50
 go_wp2_with fail
 generalize ((w.alloc (.cells nmS 9)).alloc (.cells nmI 21))=w2 at *
 generalize w.heap.size=B0 at *
 obtain ⟨s0,s1,s2,s3,s4,s5,s6,s7,s8,c0,c1,c2,c3,c4,c5,c6,c7,c8⟩:=cO HN.out
 refine wp_loop_rounds 10 ?_
 iterate 1 (rw [rounds_succ];go_wp2_with fail)
 go_ret
 exact ⟨rfl,HK.out⟩
theorem vI (w:World):Calls Tryz.prog 50 #[.int .i32 (7:Int)] w (ax (bH 7) w):=by
 have HN:=hid (ea w)
 have HK:=hid (dB w)
 go_enter Tryz.func50,Tryz.ntmps50
 go_wp2_with fail
 generalize ((w.alloc (.cells nmS 9)).alloc (.cells nmI 21))=w2 at *
 generalize w.heap.size=B0 at *
 obtain ⟨s0,s1,s2,s3,s4,s5,s6,s7,s8,c0,c1,c2,c3,c4,c5,c6,c7,c8⟩:=cO HN.out
 refine wp_loop_rounds 10 ?_
 iterate 2 (rw [rounds_succ];go_wp2_with fail)
 go_ret
 exact ⟨rfl,HK.out⟩
theorem vH (w:World):Calls Tryz.prog 50 #[.int .i32 (8:Int)] w (ax (bH 8) w):=by
 have HN:=hid (ea w)
 have HK:=hid (dB w)
 go_enter Tryz.func50,Tryz.ntmps50
 go_wp2_with fail
 generalize ((w.alloc (.cells nmS 9)).alloc (.cells nmI 21))=w2 at *
 generalize w.heap.size=B0 at *
 obtain ⟨s0,s1,s2,s3,s4,s5,s6,s7,s8,c0,c1,c2,c3,c4,c5,c6,c7,c8⟩:=cO HN.out
 refine wp_loop_rounds 10 ?_
 iterate 3 (rw [rounds_succ];go_wp2_with fail)
 go_ret
 exact ⟨rfl,HK.out⟩
theorem vG (w:World):Calls Tryz.prog 50 #[.int .i32 (9:Int)] w (ax (bH 9) w):=by
 have HN:=hid (ea w)
 have HK:=hid (dB w)
 go_enter Tryz.func50,Tryz.ntmps50
 go_wp2_with fail
 generalize ((w.alloc (.cells nmS 9)).alloc (.cells nmI 21))=w2 at *
 generalize w.heap.size=B0 at *
 obtain ⟨s0,s1,s2,s3,s4,s5,s6,s7,s8,c0,c1,c2,c3,c4,c5,c6,c7,c8⟩:=cO HN.out
 refine wp_loop_rounds 10 ?_
 iterate 4 (rw [rounds_succ];go_wp2_with fail)
 go_ret
 exact ⟨rfl,HK.out⟩
theorem vE (w:World):Calls Tryz.prog 50 #[.int .i32 (10:Int)] w (ax (bH 10) w):=by
 have HN:=hid (ea w)
 have HK:=hid (dB w)
 go_enter Tryz.func50,Tryz.ntmps50
 go_wp2_with fail
 generalize ((w.alloc (.cells nmS 9)).alloc (.cells nmI 21))=w2 at *
 generalize w.heap.size=B0 at *
 obtain ⟨s0,s1,s2,s3,s4,s5,s6,s7,s8,c0,c1,c2,c3,c4,c5,c6,c7,c8⟩:=cO HN.out
 refine wp_loop_rounds 10 ?_
 iterate 5 (rw [rounds_succ];go_wp2_with fail)
 go_ret
 exact ⟨rfl,HK.out⟩
theorem vD (w:World):Calls Tryz.prog 50 #[.int .i32 (13:Int)] w (ax (bH 13) w):=by
 have HN:=hid (ea w)
 have HK:=hid (dB w)
 go_enter Tryz.func50,Tryz.ntmps50
 go_wp2_with fail
 generalize ((w.alloc (.cells nmS 9)).alloc (.cells nmI 21))=w2 at *
 generalize w.heap.size=B0 at *
 obtain ⟨s0,s1,s2,s3,s4,s5,s6,s7,s8,c0,c1,c2,c3,c4,c5,c6,c7,c8⟩:=cO HN.out
 refine wp_loop_rounds 10 ?_
 iterate 6 (rw [rounds_succ];go_wp2_with fail)
 go_ret
 exact ⟨rfl,HK.out⟩
theorem vC (w:World):Calls Tryz.prog 50 #[.int .i32 (27:Int)] w (ax (bH 27) w):=by
 have HN:=hid (ea w)
 have HK:=hid (dB w)
 go_enter Tryz.func50,Tryz.ntmps50
 go_wp2_with fail
 generalize ((w.alloc (.cells nmS 9)).alloc (.cells nmI 21))=w2 at *
 generalize w.heap.size=B0 at *
 obtain ⟨s0,s1,s2,s3,s4,s5,s6,s7,s8,c0,c1,c2,c3,c4,c5,c6,c7,c8⟩:=cO HN.out
 refine wp_loop_rounds 10 ?_
 iterate 7 (rw [rounds_succ];go_wp2_with fail)
 go_ret
 exact ⟨rfl,HK.out⟩
theorem vB (w:World):Calls Tryz.prog 50 #[.int .i32 (32:Int)] w (ax (bH 32) w):=by
 have HN:=hid (ea w)
 have HK:=hid (dB w)
 go_enter Tryz.func50,Tryz.ntmps50
 go_wp2_with fail
 generalize ((w.alloc (.cells nmS 9)).alloc (.cells nmI 21))=w2 at *
 generalize w.heap.size=B0 at *
 obtain ⟨s0,s1,s2,s3,s4,s5,s6,s7,s8,c0,c1,c2,c3,c4,c5,c6,c7,c8⟩:=cO HN.out
 refine wp_loop_rounds 10 ?_
 iterate 8 (rw [rounds_succ];go_wp2_with fail)
 go_ret
 exact ⟨rfl,HK.out⟩
theorem vA (w:World):Calls Tryz.prog 50 #[.int .i32 (127:Int)] w (ax (bH 127) w):=by
 have HN:=hid (ea w)
 have HK:=hid (dB w)
 go_enter Tryz.func50,Tryz.ntmps50
 go_wp2_with fail
 generalize ((w.alloc (.cells nmS 9)).alloc (.cells nmI 21))=w2 at *
 generalize w.heap.size=B0 at *
 obtain ⟨s0,s1,s2,s3,s4,s5,s6,s7,s8,c0,c1,c2,c3,c4,c5,c6,c7,c8⟩:=cO HN.out
 refine wp_loop_rounds 10 ?_
 iterate 9 (rw [rounds_succ];go_wp2_with fail)
 go_ret
 exact ⟨rfl,HK.out⟩
theorem oC (n:Nat) (x:Int) (w:World) (HX:Hid (x=(n:Int))) (n0:((0:Int) == x)=false) (n1:((7:Int) == x)=false) (n2:((8:Int) == x)=false) (n3:((9:Int) == x)=false) (n4:((10:Int) == x)=false) (n5:((13:Int) == x)=false) (n6:((27:Int) == x)=false) (n7:((32:Int) == x)=false) (n8:((127:Int) == x)=false) (hr:decide (x<32)=true) (HH:Hid (∀ W:World,Calls Tryz.prog 80 #[.int .i32 x] W (ax (aD n) W))):Calls Tryz.prog 50 #[.int .i32 x] w (ax (120 :: aD n) w):=by
 have HN:=hid (ea w)
 have HK:=hid (dB w)
 go_enter Tryz.func50,Tryz.ntmps50
 go_wp2_with fail
 generalize ((w.alloc (.cells nmS 9)).alloc (.cells nmI 21))=w2 at *
 generalize w.heap.size=B0 at *
 obtain ⟨s0,s1,s2,s3,s4,s5,s6,s7,s8,c0,c1,c2,c3,c4,c5,c6,c7,c8⟩:=cO HN.out
 refine wp_loop_rounds 10 ?_
 iterate 10 (rw [rounds_succ];go_wp2_with fail)
 refine (HH.out _).mono ?_
 rintro e w3 ⟨rfl,k3⟩
 have HK3:=hid (HK.out.trans k3)
 have hadd:=rA (P:=Tryz.prog) w3 ⟨#[120]⟩ ⟨(aD n).toArray⟩ (by have:=eZ n;have h2:=aR (aD n);have h1:(⟨#[120]⟩:ByteArray).size=1:=rfl;omega)
 have HC:=hid (bV [120] (aD n))
 generalize (⟨(aD n).toArray⟩:ByteArray)=h at *
 clear k3
 try dsimp only
 go_wp2_with fail
 go_ret
 exact ⟨by rw [show (120 :: aD n)=[120]++aD n from rfl,<- HC.out];rfl,HK3.out⟩
theorem oD (n:Nat) (x:Int) (w:World) (HX:Hid (x=(n:Int))) (n0:((0:Int) == x)=false) (n1:((7:Int) == x)=false) (n2:((8:Int) == x)=false) (n3:((9:Int) == x)=false) (n4:((10:Int) == x)=false) (n5:((13:Int) == x)=false) (n6:((27:Int) == x)=false) (n7:((32:Int) == x)=false) (n8:((127:Int) == x)=false) (hr:decide (x<32)=false) (h1:(127:Int)<=x) (h2:x<=159) (HH:Hid (∀ W:World,Calls Tryz.prog 80 #[.int .i32 x] W (ax (aD n) W))):Calls Tryz.prog 50 #[.int .i32 x] w (ax (120 :: aD n) w):=by
 have HN:=hid (ea w)
 have HK:=hid (dB w)
 go_enter Tryz.func50,Tryz.ntmps50
 go_wp2_with fail
 generalize ((w.alloc (.cells nmS 9)).alloc (.cells nmI 21))=w2 at *
 generalize w.heap.size=B0 at *
 obtain ⟨s0,s1,s2,s3,s4,s5,s6,s7,s8,c0,c1,c2,c3,c4,c5,c6,c7,c8⟩:=cO HN.out
 refine wp_loop_rounds 10 ?_
 iterate 10 (rw [rounds_succ];go_wp2_with fail)
 refine (HH.out _).mono ?_
 rintro e w3 ⟨rfl,k3⟩
 have HK3:=hid (HK.out.trans k3)
 have hadd:=rA (P:=Tryz.prog) w3 ⟨#[120]⟩ ⟨(aD n).toArray⟩ (by have:=eZ n;have h2:=aR (aD n);have h1:(⟨#[120]⟩:ByteArray).size=1:=rfl;omega)
 have HC:=hid (bV [120] (aD n))
 generalize (⟨(aD n).toArray⟩:ByteArray)=h at *
 clear k3
 try dsimp only
 go_wp2_with fail
 go_ret
 exact ⟨by rw [show (120 :: aD n)=[120]++aD n from rfl,<- HC.out];rfl,HK3.out⟩
theorem oE (n:Nat) (x:Int) (w:World) (HX:Hid (x=(n:Int))) (n0:((0:Int) == x)=false) (n1:((7:Int) == x)=false) (n2:((8:Int) == x)=false) (n3:((9:Int) == x)=false) (n4:((10:Int) == x)=false) (n5:((13:Int) == x)=false) (n6:((27:Int) == x)=false) (n7:((32:Int) == x)=false) (n8:((127:Int) == x)=false) (hr:decide (x<32)=false) (h1:decide ((127:Int)<=x)=false) (HU:Hid (∀ W:World,Calls Tryz.prog 49 #[.int .i32 x] W (dK n W))):Calls Tryz.prog 50 #[.int .i32 x] w (ax (aI n) w):=by
 have HN:=hid (ea w)
 have HK:=hid (dB w)
 go_enter Tryz.func50,Tryz.ntmps50
 go_wp2_with fail
 generalize ((w.alloc (.cells nmS 9)).alloc (.cells nmI 21))=w2 at *
 generalize w.heap.size=B0 at *
 obtain ⟨s0,s1,s2,s3,s4,s5,s6,s7,s8,c0,c1,c2,c3,c4,c5,c6,c7,c8⟩:=cO HN.out
 refine wp_loop_rounds 10 ?_
 iterate 10 (rw [rounds_succ];go_wp2_with fail)
 refine (HU.out _).mono ?_
 rintro e w3 ⟨rfl,rfl⟩
 have HK3:=hid (HK.out.alloc (.cells (Lib.byteCells (aI n)).toArray 5))
 have hcv:=gc n w2
 generalize w2.alloc (.cells (Lib.byteCells (aI n)).toArray 5)=w3 at *
 generalize (aI n).length=m at *
 try dsimp only
 go_wp2_with fail
 go_ret
 exact ⟨rfl,HK3.out⟩
theorem qA (n:Nat) (x:Int) (w:World) (HX:Hid (x=(n:Int))) (n0:((0:Int) == x)=false) (n1:((7:Int) == x)=false) (n2:((8:Int) == x)=false) (n3:((9:Int) == x)=false) (n4:((10:Int) == x)=false) (n5:((13:Int) == x)=false) (n6:((27:Int) == x)=false) (n7:((32:Int) == x)=false) (n8:((127:Int) == x)=false) (hr:decide (x<32)=false) (h1:(127:Int)<=x) (h2:decide (x<=159)=false) (HU:Hid (∀ W:World,Calls Tryz.prog 49 #[.int .i32 x] W (dK n W))):Calls Tryz.prog 50 #[.int .i32 x] w (ax (aI n) w):=by
 have HN:=hid (ea w)
 have HK:=hid (dB w)
 go_enter Tryz.func50,Tryz.ntmps50
 go_wp2_with fail
 generalize ((w.alloc (.cells nmS 9)).alloc (.cells nmI 21))=w2 at *
 generalize w.heap.size=B0 at *
 obtain ⟨s0,s1,s2,s3,s4,s5,s6,s7,s8,c0,c1,c2,c3,c4,c5,c6,c7,c8⟩:=cO HN.out
 refine wp_loop_rounds 10 ?_
 iterate 10 (rw [rounds_succ];go_wp2_with fail)
 refine (HU.out _).mono ?_
 rintro e w3 ⟨rfl,rfl⟩
 have HK3:=hid (HK.out.alloc (.cells (Lib.byteCells (aI n)).toArray 5))
 have hcv:=gc n w2
 generalize w2.alloc (.cells (Lib.byteCells (aI n)).toArray 5)=w3 at *
 generalize (aI n).length=m at *
 try dsimp only
 go_wp2_with fail
 go_ret
 exact ⟨rfl,HK3.out⟩
theorem qB (n:Nat) (h:bn n=true) (w:World):Calls Tryz.prog 50 #[.int .i32 (n:Int)] w (ax (bH n) w):=by
 by_cases h0:n=0
 ·subst h0;exact vJ w
 by_cases h1:n=7
 ·subst h1;exact vI w
 by_cases h2:n=8
 ·subst h2;exact vH w
 by_cases h3:n=9
 ·subst h3;exact vG w
 by_cases h4:n=10
 ·subst h4;exact vE w
 by_cases h5:n=13
 ·subst h5;exact vD w
 by_cases h6:n=27
 ·subst h6;exact vC w
 by_cases h7:n=32
 ·subst h7;exact vB w
 by_cases h8:n=127
 ·subst h8;exact vA w
 unfold bH
 rw [if_neg h0,if_neg h1,if_neg h2,if_neg h3,if_neg h4,if_neg h5,if_neg h6,if_neg h7,if_neg h8]
 have nb:∀ {c:Int},c ≠ (n:Int)->(c == (n:Int))=false:=fun h=>bF.2 h
 have e:∀ P:Prop,[Decidable P]->P->decide P=true:=fun P _ h=>dT h
 have f:∀ P:Prop,[Decidable P]->¬ P->decide P=false:=fun P _ h=>dF h
 have HU:=hid (fun W:World=>ge n W h)
 by_cases r:n<32
 ·rw [if_pos (.inl r)]
  exact oC n n w (hid rfl) (nb (by omega)) (nb (by omega)) (nb (by omega)) (nb (by omega)) (nb (by omega)) (nb (by omega)) (nb (by omega)) (nb (by omega)) (nb (by omega)) (e _ (by omega)) (hid (fun W=>eN n W (by omega)))
 ·by_cases r1:127<=n
  ·by_cases r2:n<=159
   ·rw [if_pos (.inr ⟨r1,r2⟩)]
    exact oD n n w (hid rfl) (nb (by omega)) (nb (by omega)) (nb (by omega)) (nb (by omega)) (nb (by omega)) (nb (by omega)) (nb (by omega)) (nb (by omega)) (nb (by omega)) (f _ (by omega)) (by omega) (by omega) (hid (fun W=>eN n W (by omega)))
   ·rw [if_neg (by omega)]
    exact qA n n w (hid rfl) (nb (by omega)) (nb (by omega)) (nb (by omega)) (nb (by omega)) (nb (by omega)) (nb (by omega)) (nb (by omega)) (nb (by omega)) (nb (by omega)) (f _ (by omega)) (by omega) (f _ (by omega)) HU
  ·rw [if_neg (by omega)]
   exact oE n n w (hid rfl) (nb (by omega)) (nb (by omega)) (nb (by omega)) (nb (by omega)) (nb (by omega)) (nb (by omega)) (nb (by omega)) (nb (by omega)) (nb (by omega)) (f _ (by omega)) (f _ (by omega)) HU
end Go.Proofs.YtonnikipeokkaaaGreatDoor

namespace Go.Proofs.YtonnikipeokkaaaGreatDoor
set_option maxRecDepth 100000
set_option maxHeartbeats 8000000
open Go.Lib (hid)
open Go.RowKit Go.Lib
theorem eD (l:List UInt8) (X:Array Value) (n c:Nat) (hX:X.toList=Lib.byteCells l) (hn:l.length=n) (w:World):(convert 70 9 (.slice (some ⟨w.heap.size,0,none⟩) n c)).run Tryz.prog (w.alloc (.cells X 5))=.ok (.string ⟨l.toArray⟩) (w.alloc (.cells X 5)):=by
 subst hn
 refine run_convert_bytes_back _ 70 9 5 ⟨w.heap.size,0,none⟩ _ l Tryz.underlying70 Tryz.underlying5 Tryz.underlying9 (fun j hj=>?_)
 rw [Addr.add_lit,Nat.zero_add,cell_of_row _ _ _ _ _ _ (hN w _),<- Array.getElem?_toList,hX]
 unfold Lib.byteCells
 simp [gE hj]
def qT (y:Nat) (r:List Nat) (i:Nat):List UInt8:=UInt8.ofNat y :: (r.take i).flatMap (bP y)
theorem qS (y:Nat) (r:List Nat) (i:Nat) (h:i<r.length):qT y r (i+1)=qT y r i++bP y r[i]:=by
 unfold qT
 rw [List.take_succ_eq_append_getElem h,List.flatMap_append]
 simp
theorem nc (y:Nat) (r:List Nat) (t:List UInt8) (h:au t=some r):ce y t=qT y r r.length++[UInt8.ofNat y]:=by
 unfold ce qT
 rw [h,List.take_length]
 rfl
theorem us (y c:Nat):(bP y c).length<=6:=by
 have h1:=jF c
 have h2:=eZ c
 unfold bP
 split
 ·simp;omega
 ·split
  ·simp
  ·split
   ·simp
   ·split
    ·simp
    ·split
     ·simp;omega
     ·omega
def kG (y:Nat) (r:List Nat) (i:Nat) (S:ByteArray):Prop:=S=⟨(qT y r i).toArray⟩/\S.size<=1+6 * i
theorem kG.next {y:Nat} {r:List Nat} {i c:Nat} {S:ByteArray} (h:kG y r i S) (hi:i<r.length) (hc:c=r.getD i 0) {K:ByteArray} (hK:K=⟨(bP y c).toArray⟩):kG y r (i+1) (S++K):=by
 have e:r[i]=c:=by rw [hc,gD,gE hi];rfl
 obtain ⟨h1,h2⟩:=h
 refine ⟨by rw [qS y r i hi,e,h1,hK,bV],?_⟩
 rw [sA]
 have h3:=us y c
 have h4:K.size=(bP y c).length:=by rw [hK,aR]
 omega
theorem vz (s:ByteArray) (r:List Nat) (w:World) (hs:s.size<=1000000) (hr:au s.data.toList=some r) (hn:r.length<=1000000) (hg:∀ c ∈ r,bn c=true):Calls Tryz.prog 53 #[.string s,.int .u8 34] w (ax (ce 34 s.data.toList) w):=by
 have HR:=hid (fun W:World=>bU s W hs)
 have HRR:=hid hr
 have HN:=hid hn
 have HG:=hid hg
 have hcv:=eD [34] #[.int .u8 34] 1 1 rfl rfl w
 have HK1:=hid (show K0 w (w.alloc (.cells #[.int .u8 34] 5)) from kR.alloc _)
 clear hr hs hn hg
 go_enter Tryz.func53,Tryz.ntmps53
 go_wp2_with fail
 generalize w.alloc (.cells #[.int .u8 34] 5)=w1 at *
 refine (HR.out _).mono ?_
 rintro e w2 hp
 unfold aE at hp
 rw [HRR.out] at hp
 obtain ⟨A,c,rfl,hown,k2⟩:=hp
 have HA:=hid hown.row
 have HK2:=hid (HK1.out.trans k2)
 obtain ⟨len,hlen⟩:∃ n,n=r.length:=⟨_,rfl⟩
 rw [<- hlen] at HA HN ⊢
 have HLEN:=hid hlen
 clear hown k2 hcv HR hlen
 try dsimp only
 go_wp2_with fail
 go_loopw [5,8,9,33,48,53,58,63] (fun sv iv _ _ _ _ _ _ wr=>∃ (i:Nat) (S:ByteArray),i<=len/\sv=.string S/\kG 34 r i S/\iv=.int .i64 (i:Int)/\K0 w2 wr) (fun _ iv _ _ _ _ _ _ _=>len - (intOf iv).toNat)
 case atStart=>exact ⟨0,⟨#[34]⟩,Nat.zero_le _,rfl,⟨rfl,by decide⟩,rfl,kR⟩
 case round=>
  obtain ⟨i,S,hi,rfl,hS,rfl,kr⟩:=hrel
  have HKR:=hid kr
  have HS:=hid hS
  have HSZ:=hid (show S.size<=7000000 from by have:=hS.2;have:=HN.out;omega)
  have HA2:=HA.out.keep0 kr
  clear kr hS
  by_cases h4:i<len
  ·obtain ⟨b,off,rfl,_,hcell⟩:=HA2.2 i h4
   obtain ⟨ch,hch⟩:∃ c,c=r.getD i 0:=⟨_,rfl⟩
   rw [<- hch] at hcell
   have HCH:=hid hch
   obtain ⟨x,hx⟩:∃ x:Int,x=(ch:Int):=⟨_,rfl⟩
   rw [<- hx] at hcell
   have HX:=hid hx
   have l1:(i:Int)<(len:Int):=by omega
   have l2:(0:Int)<=(i:Int):=by omega
   have l3:(i:Int)<=1000000:=by have:=HN.out;omega
   have HI:=hid h4
   have HU:=hid (fun W:World=>ge ch W (HG.out ch (by rw [hch,gD,gE (by rw [<- HLEN.out];exact h4)];exact List.getElem_mem _)))
   rw [<- hx] at HU
   have HNX:=hid (fun (K:ByteArray) (hK:K=⟨(bP 34 ch).toArray⟩)=>kG.next HS.out (by rw [<- HLEN.out];exact h4) hch hK)
   clear hx hch h4 HA2 hi
   by_cases cy:x=34
   ·subst cy
    have HCV:ch=34:=by have:=HX.out;omega
    have HF:=hid (HNX.out ⟨#[92,34]⟩ (by rw [HCV];rfl))
    clear HCV
    have hcv:=eD [92,34] #[.int .u8 92,.int .u8 34] 2 2 rfl rfl wr
    have hadd:=rA (P:=Tryz.prog) (wr.alloc (.cells #[.int .u8 92,.int .u8 34] 5)) S ⟨#[92,34]⟩ (by have:=HSZ.out;have h:(⟨#[92,34]⟩:ByteArray).size=2:=rfl;omega)
    have HK5:=hid (HKR.out.alloc (.cells #[.int .u8 92,.int .u8 34] 5))
    skip
    try dsimp only
    go_wp2_with fail
    go_roundw
    case rel=>exact ⟨i+1,_,by have:=HI.out;omega,rfl,HF.out,by go_num,HK5.out⟩
    case measure=>have:=HI.out;simp only [intOf];omega
   by_cases cb:x=92
   ·subst cb
    have e34:((92:Int) == 34)=false:=rfl
    have HCV:ch=92:=by have:=HX.out;omega
    have HF:=hid (HNX.out ⟨#[92,92]⟩ (by rw [HCV];rfl))
    clear HCV
    have hcv:=eD [92,92] #[.int .u8 92,.int .u8 92] 2 2 rfl rfl wr
    have hadd:=rA (P:=Tryz.prog) (wr.alloc (.cells #[.int .u8 92,.int .u8 92] 5)) S ⟨#[92,92]⟩ (by have:=HSZ.out;have h:(⟨#[92,92]⟩:ByteArray).size=2:=rfl;omega)
    have HK5:=hid (HKR.out.alloc (.cells #[.int .u8 92,.int .u8 92] 5))
    skip
    try dsimp only
    go_wp2_with fail
    go_roundw
    case rel=>exact ⟨i+1,_,by have:=HI.out;omega,rfl,HF.out,by go_num,HK5.out⟩
    case measure=>have:=HI.out;simp only [intOf];omega
   by_cases cn:x=10
   ·subst cn
    have e34:((10:Int) == 34)=false:=rfl
    have e92:((10:Int) == 92)=false:=rfl
    have HCV:ch=10:=by have:=HX.out;omega
    have HF:=hid (HNX.out ⟨#[92,110]⟩ (by rw [HCV];rfl))
    clear HCV
    have hadd:=rA (P:=Tryz.prog) wr S ⟨#[92,110]⟩ (by have:=HSZ.out;have h:(⟨#[92,110]⟩:ByteArray).size=2:=rfl;omega)
    try dsimp only
    go_wp2_with fail
    go_roundw
    case rel=>exact ⟨i+1,_,by have:=HI.out;omega,rfl,HF.out,by go_num,HKR.out⟩
    case measure=>have:=HI.out;simp only [intOf];omega
   by_cases ct:x=9
   ·subst ct
    have e34:((9:Int) == 34)=false:=rfl
    have e92:((9:Int) == 92)=false:=rfl
    have e10:((9:Int) == 10)=false:=rfl
    have HCV:ch=9:=by have:=HX.out;omega
    have HF:=hid (HNX.out ⟨#[92,116]⟩ (by rw [HCV];rfl))
    clear HCV
    have hadd:=rA (P:=Tryz.prog) wr S ⟨#[92,116]⟩ (by have:=HSZ.out;have h:(⟨#[92,116]⟩:ByteArray).size=2:=rfl;omega)
    try dsimp only
    go_wp2_with fail
    go_roundw
    case rel=>exact ⟨i+1,_,by have:=HI.out;omega,rfl,HF.out,by go_num,HKR.out⟩
    case measure=>have:=HI.out;simp only [intOf];omega
   by_cases cr:x=13
   ·subst cr
    have e34:((13:Int) == 34)=false:=rfl
    have e92:((13:Int) == 92)=false:=rfl
    have e10:((13:Int) == 10)=false:=rfl
    have e9:((13:Int) == 9)=false:=rfl
    have HCV:ch=13:=by have:=HX.out;omega
    have HF:=hid (HNX.out ⟨#[92,114]⟩ (by rw [HCV];rfl))
    clear HCV
    have hadd:=rA (P:=Tryz.prog) wr S ⟨#[92,114]⟩ (by have:=HSZ.out;have h:(⟨#[92,114]⟩:ByteArray).size=2:=rfl;omega)
    try dsimp only
    go_wp2_with fail
    go_roundw
    case rel=>exact ⟨i+1,_,by have:=HI.out;omega,rfl,HF.out,by go_num,HKR.out⟩
    case measure=>have:=HI.out;simp only [intOf];omega
   by_cases cl:x<32
   ·have e34:(x == 34)=false:=bF.2 (by omega)
    have e92:(x == 92)=false:=bF.2 (by omega)
    have e10:(x == 10)=false:=bF.2 (by omega)
    have e9:(x == 9)=false:=bF.2 (by omega)
    have e13:(x == 13)=false:=bF.2 (by omega)
    have HH:=hid (fun W:World=>eN ch W (by have:=HX.out;omega))
    rw [<- HX.out] at HH
    have HF:=hid (HNX.out _ rfl)
    have HEQ:=hid (show bP 34 ch=[92,120]++aD ch++[59] from by unfold bP;rw [if_neg (by have:=HX.out;omega),if_neg (by have:=HX.out;omega),if_neg (by have:=HX.out;omega),if_neg (by have:=HX.out;omega),if_pos (by have:=HX.out;omega)];rfl)
    have hadd:=rA (P:=Tryz.prog) wr S ⟨#[92,120]⟩ (by have:=HSZ.out;have h:(⟨#[92,120]⟩:ByteArray).size=2:=rfl;omega)
    try dsimp only
    go_wp2_with fail
    refine (HH.out _).mono ?_
    rintro e w5 ⟨rfl,k5⟩
    have HK5:=hid (HKR.out.trans k5)
    have hl2:=eZ ch
    have hz2:=aR (aD ch)
    have HCT:=hid (show S++⟨#[92,120]⟩++⟨(aD ch).toArray⟩++⟨#[59]⟩=S++⟨(bP 34 ch).toArray⟩ from by rw [HEQ.out,ByteArray.append_assoc,ByteArray.append_assoc,show (⟨#[92,120]⟩:ByteArray)=⟨[92,120].toArray⟩ from rfl,show (⟨#[59]⟩:ByteArray)=⟨[59].toArray⟩ from rfl,bV (aD ch) [59],bV [92,120] (aD ch++[59]),List.append_assoc])
    rw [<- HCT.out] at HF
    generalize (⟨(aD ch).toArray⟩:ByteArray)=h at *
    have HZ:=hid (show h.size<=2 from by omega)
    clear k5 hl2 hz2 hadd
    have hadd2:=rA (P:=Tryz.prog) w5 (S++⟨#[92,120]⟩) h (by have:=HSZ.out;have:=HZ.out;have h2:(⟨#[92,120]⟩:ByteArray).size=2:=rfl;rw [sA];omega)
    have hadd3:=rA (P:=Tryz.prog) w5 (S++⟨#[92,120]⟩++h) ⟨#[59]⟩ (by have:=HSZ.out;have:=HZ.out;have h2:(⟨#[92,120]⟩:ByteArray).size=2:=rfl;have h1:(⟨#[59]⟩:ByteArray).size=1:=rfl;rw [sA,sA];omega)
    try dsimp only
    go_wp2_with fail
    go_roundw
    case rel=>exact ⟨i+1,_,by have:=HI.out;omega,rfl,HF.out,by go_num,HK5.out⟩
    case measure=>have:=HI.out;simp only [intOf];omega
   by_cases cd:x=127
   ·have e34:(x == 34)=false:=bF.2 (by omega)
    have e92:(x == 92)=false:=bF.2 (by omega)
    have e10:(x == 10)=false:=bF.2 (by omega)
    have e9:(x == 9)=false:=bF.2 (by omega)
    have e13:(x == 13)=false:=bF.2 (by omega)
    subst cd
    have e127:((127:Int) == 127)=true:=rfl
    have d32:decide ((127:Int)<32)=false:=rfl
    have HH:=hid (fun W:World=>eN ch W (by have:=HX.out;omega))
    rw [<- HX.out] at HH
    have HF:=hid (HNX.out _ rfl)
    have HEQ:=hid (show bP 34 ch=[92,120]++aD ch++[59] from by unfold bP;rw [if_neg (by have:=HX.out;omega),if_neg (by have:=HX.out;omega),if_neg (by have:=HX.out;omega),if_neg (by have:=HX.out;omega),if_pos (by have:=HX.out;omega)];rfl)
    have hadd:=rA (P:=Tryz.prog) wr S ⟨#[92,120]⟩ (by have:=HSZ.out;have h:(⟨#[92,120]⟩:ByteArray).size=2:=rfl;omega)
    try dsimp only
    go_wp2_with fail
    refine (HH.out _).mono ?_
    rintro e w5 ⟨rfl,k5⟩
    have HK5:=hid (HKR.out.trans k5)
    have hl2:=eZ ch
    have hz2:=aR (aD ch)
    have HCT:=hid (show S++⟨#[92,120]⟩++⟨(aD ch).toArray⟩++⟨#[59]⟩=S++⟨(bP 34 ch).toArray⟩ from by rw [HEQ.out,ByteArray.append_assoc,ByteArray.append_assoc,show (⟨#[92,120]⟩:ByteArray)=⟨[92,120].toArray⟩ from rfl,show (⟨#[59]⟩:ByteArray)=⟨[59].toArray⟩ from rfl,bV (aD ch) [59],bV [92,120] (aD ch++[59]),List.append_assoc])
    rw [<- HCT.out] at HF
    generalize (⟨(aD ch).toArray⟩:ByteArray)=h at *
    have HZ:=hid (show h.size<=2 from by omega)
    clear k5 hl2 hz2 hadd
    have hadd2:=rA (P:=Tryz.prog) w5 (S++⟨#[92,120]⟩) h (by have:=HSZ.out;have:=HZ.out;have h2:(⟨#[92,120]⟩:ByteArray).size=2:=rfl;rw [sA];omega)
    have hadd3:=rA (P:=Tryz.prog) w5 (S++⟨#[92,120]⟩++h) ⟨#[59]⟩ (by have:=HSZ.out;have:=HZ.out;have h2:(⟨#[92,120]⟩:ByteArray).size=2:=rfl;have h1:(⟨#[59]⟩:ByteArray).size=1:=rfl;rw [sA,sA];omega)
    try dsimp only
    go_wp2_with fail
    go_roundw
    case rel=>exact ⟨i+1,_,by have:=HI.out;omega,rfl,HF.out,by go_num,HK5.out⟩
    case measure=>have:=HI.out;simp only [intOf];omega
   have e34:(x == 34)=false:=bF.2 (by omega)
   have e92:(x == 92)=false:=bF.2 (by omega)
   have e10:(x == 10)=false:=bF.2 (by omega)
   have e9:(x == 9)=false:=bF.2 (by omega)
   have e13:(x == 13)=false:=bF.2 (by omega)
   have e127:(x == 127)=false:=bF.2 (by omega)
   have d32:decide (x<32)=false:=dF (by omega)
   have HF:=hid (HNX.out _ rfl)
   have HEQ:=hid (show bP 34 ch=aI ch from by unfold bP;rw [if_neg (by have:=HX.out;omega),if_neg (by have:=HX.out;omega),if_neg (by have:=HX.out;omega),if_neg (by have:=HX.out;omega),if_neg (by have:=HX.out;omega)])
   rw [HEQ.out] at HF
   try dsimp only
   go_wp2_with fail
   refine (HU.out _).mono ?_
   rintro e w5 ⟨rfl,rfl⟩
   have HK5:=hid (HKR.out.alloc (.cells (Lib.byteCells (aI ch)).toArray 5))
   have hcv:=gc ch wr
   have hl2:=jF ch
   have hz2:=aR (aI ch)
   have hadd2:=rA (P:=Tryz.prog) (wr.alloc (.cells (Lib.byteCells (aI ch)).toArray 5)) S ⟨(aI ch).toArray⟩ (by have:=HSZ.out;omega)
   generalize wr.alloc (.cells (Lib.byteCells (aI ch)).toArray 5)=w5 at *
   generalize (aI ch).length=m at *
   generalize (⟨(aI ch).toArray⟩:ByteArray)=h at *
   clear hl2 hz2
   try dsimp only
   go_wp2_with fail
   go_roundw
   case rel=>exact ⟨i+1,_,by have:=HI.out;omega,rfl,HF.out,by go_num,HK5.out⟩
   case measure=>have:=HI.out;simp only [intOf];omega
  ·have hie:i=len:=by omega
   subst hie
   have l1:decide ((i:Int)<(i:Int))=false:=dF (by omega)
   have hcv:=eD [34] #[.int .u8 34] 1 1 rfl rfl wr
   have hadd:=rA (P:=Tryz.prog) (wr.alloc (.cells #[.int .u8 34] 5)) S ⟨#[34]⟩ (by have:=HSZ.out;have h:(⟨#[34]⟩:ByteArray).size=1:=rfl;omega)
   have HF:=hid (show S++⟨#[34]⟩=⟨(ce 34 s.data.toList).toArray⟩ from by rw [nc 34 r _ HRR.out,<- HLEN.out,<- bV,<- HS.out.1];rfl)
   have HK5:=hid (HK2.out.trans (HKR.out.alloc (.cells #[.int .u8 34] 5)))
   clear HA2 h4 hi
   try dsimp only
   go_wp2_with fail
   go_ret
   exact ⟨by rw [<- HF.out];rfl,HK5.out⟩
theorem td (s:ByteArray) (r:List Nat) (w:World) (hs:s.size<=1000000) (hr:au s.data.toList=some r) (hn:r.length<=1000000) (hg:∀ c ∈ r,bn c=true):Calls Tryz.prog 53 #[.string s,.int .u8 124] w (ax (ce 124 s.data.toList) w):=by
 have HR:=hid (fun W:World=>bU s W hs)
 have HRR:=hid hr
 have HN:=hid hn
 have HG:=hid hg
 have hcv:=eD [124] #[.int .u8 124] 1 1 rfl rfl w
 have HK1:=hid (show K0 w (w.alloc (.cells #[.int .u8 124] 5)) from kR.alloc _)
 clear hr hs hn hg
 go_enter Tryz.func53,Tryz.ntmps53
 go_wp2_with fail
 generalize w.alloc (.cells #[.int .u8 124] 5)=w1 at *
 refine (HR.out _).mono ?_
 rintro e w2 hp
 unfold aE at hp
 rw [HRR.out] at hp
 obtain ⟨A,c,rfl,hown,k2⟩:=hp
 have HA:=hid hown.row
 have HK2:=hid (HK1.out.trans k2)
 obtain ⟨len,hlen⟩:∃ n,n=r.length:=⟨_,rfl⟩
 rw [<- hlen] at HA HN ⊢
 have HLEN:=hid hlen
 clear hown k2 hcv HR hlen
 try dsimp only
 go_wp2_with fail
 go_loopw [5,8,9,33,48,53,58,63] (fun sv iv _ _ _ _ _ _ wr=>∃ (i:Nat) (S:ByteArray),i<=len/\sv=.string S/\kG 124 r i S/\iv=.int .i64 (i:Int)/\K0 w2 wr) (fun _ iv _ _ _ _ _ _ _=>len - (intOf iv).toNat)
 case atStart=>exact ⟨0,⟨#[124]⟩,Nat.zero_le _,rfl,⟨rfl,by decide⟩,rfl,kR⟩
 case round=>
  obtain ⟨i,S,hi,rfl,hS,rfl,kr⟩:=hrel
  have HKR:=hid kr
  have HS:=hid hS
  have HSZ:=hid (show S.size<=7000000 from by have:=hS.2;have:=HN.out;omega)
  have HA2:=HA.out.keep0 kr
  clear kr hS
  by_cases h4:i<len
  ·obtain ⟨b,off,rfl,_,hcell⟩:=HA2.2 i h4
   obtain ⟨ch,hch⟩:∃ c,c=r.getD i 0:=⟨_,rfl⟩
   rw [<- hch] at hcell
   have HCH:=hid hch
   obtain ⟨x,hx⟩:∃ x:Int,x=(ch:Int):=⟨_,rfl⟩
   rw [<- hx] at hcell
   have HX:=hid hx
   have l1:(i:Int)<(len:Int):=by omega
   have l2:(0:Int)<=(i:Int):=by omega
   have l3:(i:Int)<=1000000:=by have:=HN.out;omega
   have HI:=hid h4
   have HU:=hid (fun W:World=>ge ch W (HG.out ch (by rw [hch,gD,gE (by rw [<- HLEN.out];exact h4)];exact List.getElem_mem _)))
   rw [<- hx] at HU
   have HNX:=hid (fun (K:ByteArray) (hK:K=⟨(bP 124 ch).toArray⟩)=>kG.next HS.out (by rw [<- HLEN.out];exact h4) hch hK)
   clear hx hch h4 HA2 hi
   by_cases cy:x=124
   ·subst cy
    have HCV:ch=124:=by have:=HX.out;omega
    have HF:=hid (HNX.out ⟨#[92,124]⟩ (by rw [HCV];rfl))
    clear HCV
    have hcv:=eD [92,124] #[.int .u8 92,.int .u8 124] 2 2 rfl rfl wr
    have hadd:=rA (P:=Tryz.prog) (wr.alloc (.cells #[.int .u8 92,.int .u8 124] 5)) S ⟨#[92,124]⟩ (by have:=HSZ.out;have h:(⟨#[92,124]⟩:ByteArray).size=2:=rfl;omega)
    have HK5:=hid (HKR.out.alloc (.cells #[.int .u8 92,.int .u8 124] 5))
    skip
    try dsimp only
    go_wp2_with fail
    go_roundw
    case rel=>exact ⟨i+1,_,by have:=HI.out;omega,rfl,HF.out,by go_num,HK5.out⟩
    case measure=>have:=HI.out;simp only [intOf];omega
   by_cases cb:x=92
   ·subst cb
    have e124:((92:Int) == 124)=false:=rfl
    have HCV:ch=92:=by have:=HX.out;omega
    have HF:=hid (HNX.out ⟨#[92,92]⟩ (by rw [HCV];rfl))
    clear HCV
    have hcv:=eD [92,92] #[.int .u8 92,.int .u8 92] 2 2 rfl rfl wr
    have hadd:=rA (P:=Tryz.prog) (wr.alloc (.cells #[.int .u8 92,.int .u8 92] 5)) S ⟨#[92,92]⟩ (by have:=HSZ.out;have h:(⟨#[92,92]⟩:ByteArray).size=2:=rfl;omega)
    have HK5:=hid (HKR.out.alloc (.cells #[.int .u8 92,.int .u8 92] 5))
    skip
    try dsimp only
    go_wp2_with fail
    go_roundw
    case rel=>exact ⟨i+1,_,by have:=HI.out;omega,rfl,HF.out,by go_num,HK5.out⟩
    case measure=>have:=HI.out;simp only [intOf];omega
   by_cases cn:x=10
   ·subst cn
    have e124:((10:Int) == 124)=false:=rfl
    have e92:((10:Int) == 92)=false:=rfl
    have HCV:ch=10:=by have:=HX.out;omega
    have HF:=hid (HNX.out ⟨#[92,110]⟩ (by rw [HCV];rfl))
    clear HCV
    have hadd:=rA (P:=Tryz.prog) wr S ⟨#[92,110]⟩ (by have:=HSZ.out;have h:(⟨#[92,110]⟩:ByteArray).size=2:=rfl;omega)
    try dsimp only
    go_wp2_with fail
    go_roundw
    case rel=>exact ⟨i+1,_,by have:=HI.out;omega,rfl,HF.out,by go_num,HKR.out⟩
    case measure=>have:=HI.out;simp only [intOf];omega
   by_cases ct:x=9
   ·subst ct
    have e124:((9:Int) == 124)=false:=rfl
    have e92:((9:Int) == 92)=false:=rfl
    have e10:((9:Int) == 10)=false:=rfl
    have HCV:ch=9:=by have:=HX.out;omega
    have HF:=hid (HNX.out ⟨#[92,116]⟩ (by rw [HCV];rfl))
    clear HCV
    have hadd:=rA (P:=Tryz.prog) wr S ⟨#[92,116]⟩ (by have:=HSZ.out;have h:(⟨#[92,116]⟩:ByteArray).size=2:=rfl;omega)
    try dsimp only
    go_wp2_with fail
    go_roundw
    case rel=>exact ⟨i+1,_,by have:=HI.out;omega,rfl,HF.out,by go_num,HKR.out⟩
    case measure=>have:=HI.out;simp only [intOf];omega
   by_cases cr:x=13
   ·subst cr
    have e124:((13:Int) == 124)=false:=rfl
    have e92:((13:Int) == 92)=false:=rfl
    have e10:((13:Int) == 10)=false:=rfl
    have e9:((13:Int) == 9)=false:=rfl
    have HCV:ch=13:=by have:=HX.out;omega
    have HF:=hid (HNX.out ⟨#[92,114]⟩ (by rw [HCV];rfl))
    clear HCV
    have hadd:=rA (P:=Tryz.prog) wr S ⟨#[92,114]⟩ (by have:=HSZ.out;have h:(⟨#[92,114]⟩:ByteArray).size=2:=rfl;omega)
    try dsimp only
    go_wp2_with fail
    go_roundw
    case rel=>exact ⟨i+1,_,by have:=HI.out;omega,rfl,HF.out,by go_num,HKR.out⟩
    case measure=>have:=HI.out;simp only [intOf];omega
   by_cases cl:x<32
   ·have e124:(x == 124)=false:=bF.2 (by omega)
    have e92:(x == 92)=false:=bF.2 (by omega)
    have e10:(x == 10)=false:=bF.2 (by omega)
    have e9:(x == 9)=false:=bF.2 (by omega)
    have e13:(x == 13)=false:=bF.2 (by omega)
    have HH:=hid (fun W:World=>eN ch W (by have:=HX.out;omega))
    rw [<- HX.out] at HH
    have HF:=hid (HNX.out _ rfl)
    have HEQ:=hid (show bP 124 ch=[92,120]++aD ch++[59] from by unfold bP;rw [if_neg (by have:=HX.out;omega),if_neg (by have:=HX.out;omega),if_neg (by have:=HX.out;omega),if_neg (by have:=HX.out;omega),if_pos (by have:=HX.out;omega)];rfl)
    have hadd:=rA (P:=Tryz.prog) wr S ⟨#[92,120]⟩ (by have:=HSZ.out;have h:(⟨#[92,120]⟩:ByteArray).size=2:=rfl;omega)
    try dsimp only
    go_wp2_with fail
    refine (HH.out _).mono ?_
    rintro e w5 ⟨rfl,k5⟩
    have HK5:=hid (HKR.out.trans k5)
    have hl2:=eZ ch
    have hz2:=aR (aD ch)
    have HCT:=hid (show S++⟨#[92,120]⟩++⟨(aD ch).toArray⟩++⟨#[59]⟩=S++⟨(bP 124 ch).toArray⟩ from by rw [HEQ.out,ByteArray.append_assoc,ByteArray.append_assoc,show (⟨#[92,120]⟩:ByteArray)=⟨[92,120].toArray⟩ from rfl,show (⟨#[59]⟩:ByteArray)=⟨[59].toArray⟩ from rfl,bV (aD ch) [59],bV [92,120] (aD ch++[59]),List.append_assoc])
    rw [<- HCT.out] at HF
    generalize (⟨(aD ch).toArray⟩:ByteArray)=h at *
    have HZ:=hid (show h.size<=2 from by omega)
    clear k5 hl2 hz2 hadd
    have hadd2:=rA (P:=Tryz.prog) w5 (S++⟨#[92,120]⟩) h (by have:=HSZ.out;have:=HZ.out;have h2:(⟨#[92,120]⟩:ByteArray).size=2:=rfl;rw [sA];omega)
    have hadd3:=rA (P:=Tryz.prog) w5 (S++⟨#[92,120]⟩++h) ⟨#[59]⟩ (by have:=HSZ.out;have:=HZ.out;have h2:(⟨#[92,120]⟩:ByteArray).size=2:=rfl;have h1:(⟨#[59]⟩:ByteArray).size=1:=rfl;rw [sA,sA];omega)
    try dsimp only
    go_wp2_with fail
    go_roundw
    case rel=>exact ⟨i+1,_,by have:=HI.out;omega,rfl,HF.out,by go_num,HK5.out⟩
    case measure=>have:=HI.out;simp only [intOf];omega
   by_cases cd:x=127
   ·have e124:(x == 124)=false:=bF.2 (by omega)
    have e92:(x == 92)=false:=bF.2 (by omega)
    have e10:(x == 10)=false:=bF.2 (by omega)
    have e9:(x == 9)=false:=bF.2 (by omega)
    have e13:(x == 13)=false:=bF.2 (by omega)
    subst cd
    have e127:((127:Int) == 127)=true:=rfl
    have d32:decide ((127:Int)<32)=false:=rfl
    have HH:=hid (fun W:World=>eN ch W (by have:=HX.out;omega))
    rw [<- HX.out] at HH
    have HF:=hid (HNX.out _ rfl)
    have HEQ:=hid (show bP 124 ch=[92,120]++aD ch++[59] from by unfold bP;rw [if_neg (by have:=HX.out;omega),if_neg (by have:=HX.out;omega),if_neg (by have:=HX.out;omega),if_neg (by have:=HX.out;omega),if_pos (by have:=HX.out;omega)];rfl)
    have hadd:=rA (P:=Tryz.prog) wr S ⟨#[92,120]⟩ (by have:=HSZ.out;have h:(⟨#[92,120]⟩:ByteArray).size=2:=rfl;omega)
    try dsimp only
    go_wp2_with fail
    refine (HH.out _).mono ?_
    rintro e w5 ⟨rfl,k5⟩
    have HK5:=hid (HKR.out.trans k5)
    have hl2:=eZ ch
    have hz2:=aR (aD ch)
    have HCT:=hid (show S++⟨#[92,120]⟩++⟨(aD ch).toArray⟩++⟨#[59]⟩=S++⟨(bP 124 ch).toArray⟩ from by rw [HEQ.out,ByteArray.append_assoc,ByteArray.append_assoc,show (⟨#[92,120]⟩:ByteArray)=⟨[92,120].toArray⟩ from rfl,show (⟨#[59]⟩:ByteArray)=⟨[59].toArray⟩ from rfl,bV (aD ch) [59],bV [92,120] (aD ch++[59]),List.append_assoc])
    rw [<- HCT.out] at HF
    generalize (⟨(aD ch).toArray⟩:ByteArray)=h at *
    have HZ:=hid (show h.size<=2 from by omega)
    clear k5 hl2 hz2 hadd
    have hadd2:=rA (P:=Tryz.prog) w5 (S++⟨#[92,120]⟩) h (by have:=HSZ.out;have:=HZ.out;have h2:(⟨#[92,120]⟩:ByteArray).size=2:=rfl;rw [sA];omega)
    have hadd3:=rA (P:=Tryz.prog) w5 (S++⟨#[92,120]⟩++h) ⟨#[59]⟩ (by have:=HSZ.out;have:=HZ.out;have h2:(⟨#[92,120]⟩:ByteArray).size=2:=rfl;have h1:(⟨#[59]⟩:ByteArray).size=1:=rfl;rw [sA,sA];omega)
    try dsimp only
    go_wp2_with fail
    go_roundw
    case rel=>exact ⟨i+1,_,by have:=HI.out;omega,rfl,HF.out,by go_num,HK5.out⟩
    case measure=>have:=HI.out;simp only [intOf];omega
   have e124:(x == 124)=false:=bF.2 (by omega)
   have e92:(x == 92)=false:=bF.2 (by omega)
   have e10:(x == 10)=false:=bF.2 (by omega)
   have e9:(x == 9)=false:=bF.2 (by omega)
   have e13:(x == 13)=false:=bF.2 (by omega)
   have e127:(x == 127)=false:=bF.2 (by omega)
   have d32:decide (x<32)=false:=dF (by omega)
   have HF:=hid (HNX.out _ rfl)
   have HEQ:=hid (show bP 124 ch=aI ch from by unfold bP;rw [if_neg (by have:=HX.out;omega),if_neg (by have:=HX.out;omega),if_neg (by have:=HX.out;omega),if_neg (by have:=HX.out;omega),if_neg (by have:=HX.out;omega)])
   rw [HEQ.out] at HF
   try dsimp only
   go_wp2_with fail
   refine (HU.out _).mono ?_
   rintro e w5 ⟨rfl,rfl⟩
   have HK5:=hid (HKR.out.alloc (.cells (Lib.byteCells (aI ch)).toArray 5))
   have hcv:=gc ch wr
   have hl2:=jF ch
   have hz2:=aR (aI ch)
   have hadd2:=rA (P:=Tryz.prog) (wr.alloc (.cells (Lib.byteCells (aI ch)).toArray 5)) S ⟨(aI ch).toArray⟩ (by have:=HSZ.out;omega)
   generalize wr.alloc (.cells (Lib.byteCells (aI ch)).toArray 5)=w5 at *
   generalize (aI ch).length=m at *
   generalize (⟨(aI ch).toArray⟩:ByteArray)=h at *
   clear hl2 hz2
   try dsimp only
   go_wp2_with fail
   go_roundw
   case rel=>exact ⟨i+1,_,by have:=HI.out;omega,rfl,HF.out,by go_num,HK5.out⟩
   case measure=>have:=HI.out;simp only [intOf];omega
  ·have hie:i=len:=by omega
   subst hie
   have l1:decide ((i:Int)<(i:Int))=false:=dF (by omega)
   have hcv:=eD [124] #[.int .u8 124] 1 1 rfl rfl wr
   have hadd:=rA (P:=Tryz.prog) (wr.alloc (.cells #[.int .u8 124] 5)) S ⟨#[124]⟩ (by have:=HSZ.out;have h:(⟨#[124]⟩:ByteArray).size=1:=rfl;omega)
   have HF:=hid (show S++⟨#[124]⟩=⟨(ce 124 s.data.toList).toArray⟩ from by rw [nc 124 r _ HRR.out,<- HLEN.out,<- bV,<- HS.out.1];rfl)
   have HK5:=hid (HK2.out.trans (HKR.out.alloc (.cells #[.int .u8 124] 5)))
   clear HA2 h4 hi
   try dsimp only
   go_wp2_with fail
   go_ret
   exact ⟨by rw [<- HF.out];rfl,HK5.out⟩
end Go.Proofs.YtonnikipeokkaaaGreatDoor

namespace Go.Proofs.YtonnikipeokkaaaGreatDoor
set_option maxRecDepth 100000
set_option maxHeartbeats 8000000
open Go.Lib (hid)
open Go.RowKit Go.Lib
def d6 (S:ByteArray) (rest tot:List UInt8):Prop:=S.data.toList++rest=tot
theorem d6.size {S:ByteArray} {rest tot:List UInt8} (h:d6 S rest tot):S.size+rest.length=tot.length:=by
 rw [<- h,List.length_append,Lib.size_eq]
theorem d6.add {S K:ByteArray} {rest tot k:List UInt8} (h:d6 S (k++rest) tot) (hk:K=⟨k.toArray⟩):d6 (S++K) rest tot:=by
 unfold d6 at h ⊢
 rw [<- h,hk,ByteArray.data_append,Array.toList_append,List.append_assoc]
theorem d6.end {S:ByteArray} {tot:List UInt8} (h:d6 S [] tot):S=⟨tot.toArray⟩:=by
 unfold d6 at h
 rw [List.append_nil] at h
 rw [<- h]
theorem tc (r:Raw) (p:PV) (pl:Bool) (W:World) (s0:(r.k == 0)=true)  : Calls Tryz.prog 32 #[rawV r p,.bool pl] W (ax [40,41] W):=by
 have hb1:(W.alloc (.cells (rwC r.k r.c r.neg p.A p.n p.cp r.t p.B p.m p.cap) 27)).heap[W.heap.size]? = some (.cells (rwC r.k r.c r.neg p.A p.n p.cp r.t p.B p.m p.cap) 27 (0,0)):=hN W _
 have HB1:=hid hb1
 have HK1:=hid (show K0 W (W.alloc (.cells (rwC r.k r.c r.neg p.A p.n p.cp r.t p.B p.m p.cap) 27)) from kR.alloc _)
 obtain ⟨a0,a1,a2,a3,a4,a5⟩:=aa hb1
 clear hb1
 go_enter Tryz.func32,Tryz.ntmps32
 go_wp2_with fail
 go_ret
 exact ⟨rfl,HK1.out⟩
theorem sZ (r:Raw) (p:PV) (pl:Bool) (W:World) (s0:(r.k == 0)=false) (s1:(r.k == 1)=true)  : Calls Tryz.prog 32 #[rawV r p,.bool pl] W (ax [35,116] W):=by
 have hb1:(W.alloc (.cells (rwC r.k r.c r.neg p.A p.n p.cp r.t p.B p.m p.cap) 27)).heap[W.heap.size]? = some (.cells (rwC r.k r.c r.neg p.A p.n p.cp r.t p.B p.m p.cap) 27 (0,0)):=hN W _
 have HB1:=hid hb1
 have HK1:=hid (show K0 W (W.alloc (.cells (rwC r.k r.c r.neg p.A p.n p.cp r.t p.B p.m p.cap) 27)) from kR.alloc _)
 obtain ⟨a0,a1,a2,a3,a4,a5⟩:=aa hb1
 clear hb1
 go_enter Tryz.func32,Tryz.ntmps32
 go_wp2_with fail
 go_ret
 exact ⟨rfl,HK1.out⟩
theorem sY (r:Raw) (p:PV) (pl:Bool) (W:World) (s0:(r.k == 0)=false) (s1:(r.k == 1)=false) (s2:(r.k == 2)=true)  : Calls Tryz.prog 32 #[rawV r p,.bool pl] W (ax [35,102] W):=by
 have hb1:(W.alloc (.cells (rwC r.k r.c r.neg p.A p.n p.cp r.t p.B p.m p.cap) 27)).heap[W.heap.size]? = some (.cells (rwC r.k r.c r.neg p.A p.n p.cp r.t p.B p.m p.cap) 27 (0,0)):=hN W _
 have HB1:=hid hb1
 have HK1:=hid (show K0 W (W.alloc (.cells (rwC r.k r.c r.neg p.A p.n p.cp r.t p.B p.m p.cap) 27)) from kR.alloc _)
 obtain ⟨a0,a1,a2,a3,a4,a5⟩:=aa hb1
 clear hb1
 go_enter Tryz.func32,Tryz.ntmps32
 go_wp2_with fail
 go_ret
 exact ⟨rfl,HK1.out⟩
theorem sX (r:Raw) (p:PV) (pl:Bool) (W:World) (s0:(r.k == 0)=false) (s1:(r.k == 1)=false) (s2:(r.k == 2)=false) (s9:(r.k == 9)=true)  : Calls Tryz.prog 32 #[rawV r p,.bool pl] W (ax [35,60,118,111,105,100,62] W):=by
 have hb1:(W.alloc (.cells (rwC r.k r.c r.neg p.A p.n p.cp r.t p.B p.m p.cap) 27)).heap[W.heap.size]? = some (.cells (rwC r.k r.c r.neg p.A p.n p.cp r.t p.B p.m p.cap) 27 (0,0)):=hN W _
 have HB1:=hid hb1
 have HK1:=hid (show K0 W (W.alloc (.cells (rwC r.k r.c r.neg p.A p.n p.cp r.t p.B p.m p.cap) 27)) from kR.alloc _)
 obtain ⟨a0,a1,a2,a3,a4,a5⟩:=aa hb1
 clear hb1
 go_enter Tryz.func32,Tryz.ntmps32
 go_wp2_with fail
 go_ret
 exact ⟨rfl,HK1.out⟩
theorem qy (r:Raw) (p:PV) (pl:Bool) (W:World) (s0:(r.k == 0)=false) (s1:(r.k == 1)=false) (s2:(r.k == 2)=false) (s9:(r.k == 9)=false) (s10:(r.k == 10)=true)  : Calls Tryz.prog 32 #[rawV r p,.bool pl] W (ax [35,60,101,111,102,62] W):=by
 have hb1:(W.alloc (.cells (rwC r.k r.c r.neg p.A p.n p.cp r.t p.B p.m p.cap) 27)).heap[W.heap.size]? = some (.cells (rwC r.k r.c r.neg p.A p.n p.cp r.t p.B p.m p.cap) 27 (0,0)):=hN W _
 have HB1:=hid hb1
 have HK1:=hid (show K0 W (W.alloc (.cells (rwC r.k r.c r.neg p.A p.n p.cp r.t p.B p.m p.cap) 27)) from kR.alloc _)
 obtain ⟨a0,a1,a2,a3,a4,a5⟩:=aa hb1
 clear hb1
 go_enter Tryz.func32,Tryz.ntmps32
 go_wp2_with fail
 go_ret
 exact ⟨rfl,HK1.out⟩
theorem qw (r:Raw) (p:PV) (W:World) (s0:(r.k == 0)=false) (s1:(r.k == 1)=false) (s2:(r.k == 2)=false) (s9:(r.k == 9)=false) (s10:(r.k == 10)=false) (s3:(r.k == 3)=true) (n:Nat) (HU:Hid (∀ W:World,Calls Tryz.prog 49 #[.int .i32 r.c] W (dK n W))):Calls Tryz.prog 32 #[rawV r p,.bool true] W (ax (aI n) W):=by
 have hb1:(W.alloc (.cells (rwC r.k r.c r.neg p.A p.n p.cp r.t p.B p.m p.cap) 27)).heap[W.heap.size]? = some (.cells (rwC r.k r.c r.neg p.A p.n p.cp r.t p.B p.m p.cap) 27 (0,0)):=hN W _
 have HB1:=hid hb1
 have HK1:=hid (show K0 W (W.alloc (.cells (rwC r.k r.c r.neg p.A p.n p.cp r.t p.B p.m p.cap) 27)) from kR.alloc _)
 obtain ⟨a0,a1,a2,a3,a4,a5⟩:=aa hb1
 clear hb1
 go_enter Tryz.func32,Tryz.ntmps32
 go_wp2_with fail
 generalize W.alloc (.cells (rwC r.k r.c r.neg p.A p.n p.cp r.t p.B p.m p.cap) 27)=w1 at *
 refine (HU.out _).mono ?_
 rintro e w3 ⟨rfl,rfl⟩
 have HK3:=hid (HK1.out.alloc (.cells (Lib.byteCells (aI n)).toArray 5))
 have hcv:=gc n w1
 clear a0 a1 a2 a3 a4 a5
 generalize w1.alloc (.cells (Lib.byteCells (aI n)).toArray 5)=w3 at *
 generalize (aI n).length=m at *
 try dsimp only
 go_wp2_with fail
 go_ret
 exact ⟨rfl,HK3.out⟩
theorem qx (r:Raw) (p:PV) (W:World) (s0:(r.k == 0)=false) (s1:(r.k == 1)=false) (s2:(r.k == 2)=false) (s9:(r.k == 9)=false) (s10:(r.k == 10)=false) (s3:(r.k == 3)=true) (l:List UInt8) (hl:l.length<=100) (HU:Hid (∀ W:World,Calls Tryz.prog 50 #[.int .i32 r.c] W (ax l W))):Calls Tryz.prog 32 #[rawV r p,.bool false] W (ax (35 :: 92 :: l) W):=by
 have hb1:(W.alloc (.cells (rwC r.k r.c r.neg p.A p.n p.cp r.t p.B p.m p.cap) 27)).heap[W.heap.size]? = some (.cells (rwC r.k r.c r.neg p.A p.n p.cp r.t p.B p.m p.cap) 27 (0,0)):=hN W _
 have HB1:=hid hb1
 have HK1:=hid (show K0 W (W.alloc (.cells (rwC r.k r.c r.neg p.A p.n p.cp r.t p.B p.m p.cap) 27)) from kR.alloc _)
 obtain ⟨a0,a1,a2,a3,a4,a5⟩:=aa hb1
 clear hb1
 go_enter Tryz.func32,Tryz.ntmps32
 go_wp2_with fail
 generalize W.alloc (.cells (rwC r.k r.c r.neg p.A p.n p.cp r.t p.B p.m p.cap) 27)=w1 at *
 refine (HU.out _).mono ?_
 rintro e w3 ⟨rfl,k3⟩
 have HK3:=hid (HK1.out.trans k3)
 have hadd:=rA (P:=Tryz.prog) w3 ⟨#[35,92]⟩ ⟨l.toArray⟩ (by have h2:=aR l;have h1:(⟨#[35,92]⟩:ByteArray).size=2:=rfl;omega)
 have HC:=hid (bV [35,92] l)
 generalize (⟨l.toArray⟩:ByteArray)=h at *
 clear a0 a1 a2 a3 a4 a5 k3
 try dsimp only
 go_wp2_with fail
 go_ret
 exact ⟨by rw [show (35 :: 92 :: l)=[35,92]++l from rfl,<- HC.out];rfl,HK3.out⟩
theorem sW (w:World) (r:Raw) (p:PV) (pl:Bool) (W:World) (s0:(r.k == 0)=false) (s1:(r.k == 1)=false) (s2:(r.k == 2)=false) (s9:(r.k == 9)=false) (s10:(r.k == 10)=false) (s3:(r.k == 3)=false) (s4:(r.k == 4)=true) (l:List UInt8) (HV:Hid (∀ W:World,K0 w W->Calls Tryz.prog 52 #[al r.neg p.A p.n p.cp] W (fun e w2=>∃ (z:Bool) (A:Option Addr) (n c:Nat),e=.returned (al z A n c)/\K0 W w2/\Calls Tryz.prog 51 #[al z A n c] w2 (ax l w2)))) (HK0:Hid (K0 w W)):Calls Tryz.prog 32 #[rawV r p,.bool pl] W (ax l W):=by
 have hb1:(W.alloc (.cells (rwC r.k r.c r.neg p.A p.n p.cp r.t p.B p.m p.cap) 27)).heap[W.heap.size]? = some (.cells (rwC r.k r.c r.neg p.A p.n p.cp r.t p.B p.m p.cap) 27 (0,0)):=hN W _
 have HB1:=hid hb1
 have HK1:=hid (show K0 W (W.alloc (.cells (rwC r.k r.c r.neg p.A p.n p.cp r.t p.B p.m p.cap) 27)) from kR.alloc _)
 obtain ⟨a0,a1,a2,a3,a4,a5⟩:=aa hb1
 clear hb1
 go_enter Tryz.func32,Tryz.ntmps32
 go_wp2_with fail
 generalize W.alloc (.cells (rwC r.k r.c r.neg p.A p.n p.cp r.t p.B p.m p.cap) 27)=w1 at *
 refine (HV.out _ (HK0.out.trans HK1.out)).mono ?_
 rintro e w3 ⟨z,A,n,c,rfl,k3,hc⟩
 have HK3:=hid (HK1.out.trans k3)
 have HC:=hid hc
 clear a0 a1 a2 a3 a4 a5 k3 hc
 try dsimp only
 go_wp2_with fail
 refine HC.out.mono ?_
 rintro e w4 ⟨rfl,k4⟩
 have HK4:=hid (HK3.out.trans k4)
 clear k4
 try dsimp only
 go_wp2_with fail
 go_ret
 exact ⟨rfl,HK4.out⟩
theorem qu (r:Raw) (p:PV) (W:World) (s0:(r.k == 0)=false) (s1:(r.k == 1)=false) (s2:(r.k == 2)=false) (s9:(r.k == 9)=false) (s10:(r.k == 10)=false) (s3:(r.k == 3)=false) (s4:(r.k == 4)=false) (s5:(r.k == 5)=true)  : Calls Tryz.prog 32 #[rawV r p,.bool true] W (ax r.t.data.toList W):=by
 have hb1:(W.alloc (.cells (rwC r.k r.c r.neg p.A p.n p.cp r.t p.B p.m p.cap) 27)).heap[W.heap.size]? = some (.cells (rwC r.k r.c r.neg p.A p.n p.cp r.t p.B p.m p.cap) 27 (0,0)):=hN W _
 have HB1:=hid hb1
 have HK1:=hid (show K0 W (W.alloc (.cells (rwC r.k r.c r.neg p.A p.n p.cp r.t p.B p.m p.cap) 27)) from kR.alloc _)
 obtain ⟨a0,a1,a2,a3,a4,a5⟩:=aa hb1
 clear hb1
 go_enter Tryz.func32,Tryz.ntmps32
 go_wp2_with fail
 go_ret
 exact ⟨by rw [show (⟨r.t.data.toList.toArray⟩:ByteArray)=r.t from by cases r.t;simp];rfl,HK1.out⟩
theorem qv (r:Raw) (p:PV) (W:World) (s0:(r.k == 0)=false) (s1:(r.k == 1)=false) (s2:(r.k == 2)=false) (s9:(r.k == 9)=false) (s10:(r.k == 10)=false) (s3:(r.k == 3)=false) (s4:(r.k == 4)=false) (s5:(r.k == 5)=true) (l:List UInt8) (HQ:Hid (∀ W:World,Calls Tryz.prog 53 #[.string r.t,.int .u8 34] W (ax l W))):Calls Tryz.prog 32 #[rawV r p,.bool false] W (ax l W):=by
 have hb1:(W.alloc (.cells (rwC r.k r.c r.neg p.A p.n p.cp r.t p.B p.m p.cap) 27)).heap[W.heap.size]? = some (.cells (rwC r.k r.c r.neg p.A p.n p.cp r.t p.B p.m p.cap) 27 (0,0)):=hN W _
 have HB1:=hid hb1
 have HK1:=hid (show K0 W (W.alloc (.cells (rwC r.k r.c r.neg p.A p.n p.cp r.t p.B p.m p.cap) 27)) from kR.alloc _)
 obtain ⟨a0,a1,a2,a3,a4,a5⟩:=aa hb1
 clear hb1
 go_enter Tryz.func32,Tryz.ntmps32
 go_wp2_with fail
 generalize W.alloc (.cells (rwC r.k r.c r.neg p.A p.n p.cp r.t p.B p.m p.cap) 27)=w1 at *
 refine (HQ.out _).mono ?_
 rintro e w3 ⟨rfl,k3⟩
 have HK3:=hid (HK1.out.trans k3)
 clear a0 a1 a2 a3 a4 a5 k3
 try dsimp only
 go_wp2_with fail
 go_ret
 exact ⟨rfl,HK3.out⟩
theorem qp (r:Raw) (p:PV) (W:World) (s0:(r.k == 0)=false) (s1:(r.k == 1)=false) (s2:(r.k == 2)=false) (s9:(r.k == 9)=false) (s10:(r.k == 10)=false) (s3:(r.k == 3)=false) (s4:(r.k == 4)=false) (s5:(r.k == 5)=false) (s6:(r.k == 6)=true)  : Calls Tryz.prog 32 #[rawV r p,.bool true] W (ax r.t.data.toList W):=by
 have hb1:(W.alloc (.cells (rwC r.k r.c r.neg p.A p.n p.cp r.t p.B p.m p.cap) 27)).heap[W.heap.size]? = some (.cells (rwC r.k r.c r.neg p.A p.n p.cp r.t p.B p.m p.cap) 27 (0,0)):=hN W _
 have HB1:=hid hb1
 have HK1:=hid (show K0 W (W.alloc (.cells (rwC r.k r.c r.neg p.A p.n p.cp r.t p.B p.m p.cap) 27)) from kR.alloc _)
 obtain ⟨a0,a1,a2,a3,a4,a5⟩:=aa hb1
 clear hb1
 go_enter Tryz.func32,Tryz.ntmps32
 go_wp2_with fail
 go_ret
 exact ⟨by rw [show (⟨r.t.data.toList.toArray⟩:ByteArray)=r.t from by cases r.t;simp];rfl,HK1.out⟩
theorem qt (r:Raw) (p:PV) (W:World) (s0:(r.k == 0)=false) (s1:(r.k == 1)=false) (s2:(r.k == 2)=false) (s9:(r.k == 9)=false) (s10:(r.k == 10)=false) (s3:(r.k == 3)=false) (s4:(r.k == 4)=false) (s5:(r.k == 5)=false) (s6:(r.k == 6)=true) (HB:Hid (∀ W:World,Calls Tryz.prog 54 #[.string r.t] W (BoolPost true W))):Calls Tryz.prog 32 #[rawV r p,.bool false] W (ax r.t.data.toList W):=by
 have hb1:(W.alloc (.cells (rwC r.k r.c r.neg p.A p.n p.cp r.t p.B p.m p.cap) 27)).heap[W.heap.size]? = some (.cells (rwC r.k r.c r.neg p.A p.n p.cp r.t p.B p.m p.cap) 27 (0,0)):=hN W _
 have HB1:=hid hb1
 have HK1:=hid (show K0 W (W.alloc (.cells (rwC r.k r.c r.neg p.A p.n p.cp r.t p.B p.m p.cap) 27)) from kR.alloc _)
 obtain ⟨a0,a1,a2,a3,a4,a5⟩:=aa hb1
 clear hb1
 go_enter Tryz.func32,Tryz.ntmps32
 go_wp2_with fail
 generalize W.alloc (.cells (rwC r.k r.c r.neg p.A p.n p.cp r.t p.B p.m p.cap) 27)=w1 at *
 refine (HB.out _).mono ?_
 rintro e w2 ⟨rfl,k2⟩
 have HK2:=hid (HK1.out.trans k2)
 have HB2:=hid (k2.heap HB1.out id)
 clear a0 a1 a2 a3 a4 a5 k2
 obtain ⟨a0,a1,a2,a3,a4,a5⟩:=aa HB2.out
 try dsimp only
 go_wp2_with fail
 go_ret
 exact ⟨by rw [show (⟨r.t.data.toList.toArray⟩:ByteArray)=r.t from by cases r.t;simp];rfl,HK2.out⟩
theorem qr (r:Raw) (p:PV) (W:World) (s0:(r.k == 0)=false) (s1:(r.k == 1)=false) (s2:(r.k == 2)=false) (s9:(r.k == 9)=false) (s10:(r.k == 10)=false) (s3:(r.k == 3)=false) (s4:(r.k == 4)=false) (s5:(r.k == 5)=false) (s6:(r.k == 6)=true) (l:List UInt8) (HB:Hid (∀ W:World,Calls Tryz.prog 54 #[.string r.t] W (BoolPost false W))) (HQ:Hid (∀ W:World,Calls Tryz.prog 53 #[.string r.t,.int .u8 124] W (ax l W))):Calls Tryz.prog 32 #[rawV r p,.bool false] W (ax l W):=by
 have hb1:(W.alloc (.cells (rwC r.k r.c r.neg p.A p.n p.cp r.t p.B p.m p.cap) 27)).heap[W.heap.size]? = some (.cells (rwC r.k r.c r.neg p.A p.n p.cp r.t p.B p.m p.cap) 27 (0,0)):=hN W _
 have HB1:=hid hb1
 have HK1:=hid (show K0 W (W.alloc (.cells (rwC r.k r.c r.neg p.A p.n p.cp r.t p.B p.m p.cap) 27)) from kR.alloc _)
 obtain ⟨a0,a1,a2,a3,a4,a5⟩:=aa hb1
 clear hb1
 go_enter Tryz.func32,Tryz.ntmps32
 go_wp2_with fail
 generalize W.alloc (.cells (rwC r.k r.c r.neg p.A p.n p.cp r.t p.B p.m p.cap) 27)=w1 at *
 refine (HB.out _).mono ?_
 rintro e w2 ⟨rfl,k2⟩
 have HK2:=hid (HK1.out.trans k2)
 have HB2:=hid (k2.heap HB1.out id)
 clear a0 a1 a2 a3 a4 a5 k2
 obtain ⟨a0,a1,a2,a3,a4,a5⟩:=aa HB2.out
 try dsimp only
 go_wp2_with fail
 refine (HQ.out _).mono ?_
 rintro e w3 ⟨rfl,k3⟩
 have HK3:=hid (HK2.out.trans k3)
 clear a0 a1 a2 a3 a4 a5 k3
 try dsimp only
 go_wp2_with fail
 go_ret
 exact ⟨rfl,HK3.out⟩
theorem sU (w:World) (r:Raw) (p:PV) (pl:Bool) (W:World) (s0:(r.k == 0)=false) (s1:(r.k == 1)=false) (s2:(r.k == 2)=false) (s9:(r.k == 9)=false) (s10:(r.k == 10)=false) (s3:(r.k == 3)=false) (s4:(r.k == 4)=false) (s5:(r.k == 5)=false) (s6:(r.k == 6)=false) (s8:(r.k == 8)=true) (HK0:Hid (K0 w W)) (vs:Nat->PV) (HL:Hid (r.l.length=p.m)) (HM:Hid (p.m<=62)) (HROW:Hid (0<p.m->∃ b off,p.B=some ⟨b,off,.none⟩ /\ ∀ i (h:i<r.l.length),cV w b off i r.l[i] (vs i))) (HI:Hid (∀ i (h:i<r.l.length) (W':World),K0 w W'->Calls Tryz.prog 32 #[rawV r.l[i] (vs i),.bool pl] W' (ax (am pl r.l[i]) W'))) (HTOT:Hid ((am pl r).length<=1000000000)) (hk:Hid (r.k=8)):Calls Tryz.prog 32 #[rawV r p,.bool pl] W (ax (am pl r) W):=by
 have hb1:(W.alloc (.cells (rwC r.k r.c r.neg p.A p.n p.cp r.t p.B p.m p.cap) 27)).heap[W.heap.size]? = some (.cells (rwC r.k r.c r.neg p.A p.n p.cp r.t p.B p.m p.cap) 27 (0,0)):=hN W _
 have HB1:=hid hb1
 have HK1:=hid (show K0 W (W.alloc (.cells (rwC r.k r.c r.neg p.A p.n p.cp r.t p.B p.m p.cap) 27)) from kR.alloc _)
 obtain ⟨a0,a1,a2,a3,a4,a5⟩:=aa hb1
 clear hb1
 go_enter Tryz.func32,Tryz.ntmps32
 go_wp2_with fail
 generalize W.alloc (.cells (rwC r.k r.c r.neg p.A p.n p.cp r.t p.B p.m p.cap) 27)=w1 at *
 have HT0:=hid (show d6 ⟨#[35,40]⟩ (fE (r.l.map (am pl))++[41]) (am pl r) from by rw [iq pl hk.out];rfl)
 have hm62:(p.m:Int)<=62:=by have:=HM.out;omega
 have HKW:=hid (HK0.out.trans HK1.out)
 clear a0 a1 a2 a3 a4 a5
 go_loopw [5,6] (fun sv iv wr=>∃ (i:Nat) (S:ByteArray),i<=p.m/\sv=.string S/\d6 S ((if i=0 then fE (r.l.map (am pl)) else dO ((r.l.drop i).map (am pl)))++[41]) (am pl r)/\iv=.int .i64 (i:Int)/\K0 w1 wr) (fun _ iv _=>p.m - (intOf iv).toNat)
 case atStart=>exact ⟨0,⟨#[35,40]⟩,Nat.zero_le _,rfl,by rw [if_pos rfl];exact HT0.out,rfl,kR⟩
 case round=>
  obtain ⟨i,S,hi,rfl,hS,rfl,kr⟩:=hrel
  have HKR:=hid kr
  have HS:=hid hS
  have HSZ:=hid (show S.size<=1000000000 from by have:=hS.size;have:=HTOT.out;omega)
  obtain ⟨a0,a1,a2,a3,a4,a5⟩:=aa (kr.heap HB1.out id)
  clear kr hS
  by_cases h4:i<p.m
  ·have HIL:=hid (show i<r.l.length from by rw [HL.out];exact h4)
   obtain ⟨b,off,hB,hc⟩:=HROW.out (by omega)
   have hit:=(hc i HIL.out).keep (HKW.out.trans HKR.out) id
   have HC:=hid (HI.out i HIL.out)
   obtain ⟨x,hx⟩:∃ x,x=r.l[i]'HIL.out:=⟨_,rfl⟩
   rw [<- hx] at hit HC
   have HSUM:(if i=0 then fE (r.l.map (am pl)) else dO ((r.l.drop i).map (am pl)))=(if i=0 then [] else [32])++(am pl x++dO ((r.l.drop (i+1)).map (am pl))):=by
    have hd:(r.l.drop i).map (am pl)=am pl x :: (r.l.drop (i+1)).map (am pl):=by rw [hx,List.drop_eq_getElem_cons HIL.out];rfl
    by_cases h0:i=0
    ·subst h0
     rw [if_pos rfl,if_pos rfl]
     rw [List.drop_zero] at hd
     rw [hd];rfl
    ·rw [if_neg h0,if_neg h0,hd];rfl
   have HPA:=HS.out
   rw [HSUM,List.append_assoc,List.append_assoc] at HPA
   obtain ⟨v,hv⟩:∃ v,v=vs i:=⟨_,rfl⟩
   rw [<- hv] at hit HC
   obtain ⟨c0,c1,c2,c3,c4,c5⟩:=hit.cells
   rw [hB] at a5
   have hB2:=hid hB
   have HPP:=hid HPA
   have l1:(i:Int)<(p.m:Int):=by omega
   have l2:(0:Int)<=(i:Int):=by omega
   have HI4:=hid h4
   clear hi h4 hx hv hc hB HSUM HPA
   by_cases h0:i=0
   ·subst h0
    have HPQ:=hid (show d6 S (am pl x++(dO ((r.l.drop (0+1)).map (am pl))++[41])) (am pl r) from HPP.out)
    clear HPP
    simp only [Nat.zero_mul,Nat.add_zero] at c0 c1 c2 c3 c4 c5
    try dsimp only
    go_wp2_with fail
    refine (HC.out _ (HKW.out.trans HKR.out)).mono ?_
    rintro e w5 ⟨rfl,k5⟩
    have HK5:=hid (HKR.out.trans k5)
    have HPR:=hid (HPQ.out.add rfl)
    have hadd:=rA (P:=Tryz.prog) w5 S ⟨(am pl x).toArray⟩ (by have h1:=HPQ.out.size;have:=HTOT.out;rw [List.length_append] at h1;have h2:=aR (am pl x);omega)
    generalize (⟨(am pl x).toArray⟩:ByteArray)=h at *
    clear k5
    try dsimp only
    go_wp2_with fail
    go_roundw
    case rel=>exact ⟨0+1,_,by have:=HI4.out;omega,rfl,by rw [if_neg (by decide)];exact HPR.out,by go_num,HK5.out⟩
    case measure=>have:=HI4.out;simp only [intOf];omega
   ·have g1:(0:Int)<(i:Int):=by omega
    have HPQ:=hid (show d6 (S++⟨#[32]⟩) (am pl x++(dO ((r.l.drop (i+1)).map (am pl))++[41])) (am pl r) from (show d6 S ([32]++_) _ from by have:=HPP.out;rwa [if_neg h0] at this).add rfl)
    have H0:=hid h0
    have hadd0:=rA (P:=Tryz.prog) wr S ⟨#[32]⟩ (by have:=HSZ.out;have h:(⟨#[32]⟩:ByteArray).size=1:=rfl;omega)
    clear HPP h0
    try dsimp only
    go_wp2_with fail
    refine (HC.out _ (HKW.out.trans HKR.out)).mono ?_
    rintro e w5 ⟨rfl,k5⟩
    have HK5:=hid (HKR.out.trans k5)
    have HPR:=hid (HPQ.out.add rfl)
    have hadd:=rA (P:=Tryz.prog) w5 (S++⟨#[32]⟩) ⟨(am pl x).toArray⟩ (by have h1:=HPQ.out.size;have:=HTOT.out;rw [List.length_append] at h1;have h2:=aR (am pl x);omega)
    generalize (⟨(am pl x).toArray⟩:ByteArray)=h at *
    clear k5 hadd0
    try dsimp only
    go_wp2_with fail
    go_roundw
    case rel=>exact ⟨i+1,_,by have:=HI4.out;omega,rfl,by rw [if_neg (by omega)];exact HPR.out,by go_num,HK5.out⟩
    case measure=>have:=HI4.out;simp only [intOf];omega
  ·have hie:i=p.m:=by omega
   have l1:decide ((i:Int)<(p.m:Int))=false:=dF (by omega)
   have l3:decide (i<p.m)=false:=dF h4
   have hadd:=rA (P:=Tryz.prog) wr S ⟨#[41]⟩ (by have:=HSZ.out;have h:(⟨#[41]⟩:ByteArray).size=1:=rfl;omega)
   have HF:=hid (show S++⟨#[41]⟩=⟨(am pl r).toArray⟩ from by
    refine d6.end (d6.add (k:=[41]) ?_ rfl)
    have:=HS.out
    rw [show (if i=0 then fE (r.l.map (am pl)) else dO ((r.l.drop i).map (am pl)))=[] from by
     split
     ·have:r.l.length=0:=by rw [HL.out];omega
      rw [List.eq_nil_of_length_eq_zero this];rfl
     ·rw [List.drop_eq_nil_of_le (by rw [HL.out];omega)];rfl] at this
    exact this)
   have HK5:=hid (HK1.out.trans HKR.out)
   clear hie h4 hi
   try dsimp only
   go_wp2_with fail
   go_ret
   exact ⟨by rw [<- HF.out];rfl,HK5.out⟩
end Go.Proofs.YtonnikipeokkaaaGreatDoor
