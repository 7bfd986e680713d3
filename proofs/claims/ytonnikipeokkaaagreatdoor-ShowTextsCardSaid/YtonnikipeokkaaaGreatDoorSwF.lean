/-
  FormatInt to the base 16.
-/
import Derived.Test.YtonnikipeokkaaaGreatDoorSwNum
import Derived.Test.YtonnikipeokkaaaGreatDoorSwR
namespace Go.Proofs.YtonnikipeokkaaaGreatDoor
set_option maxRecDepth 100000
set_option maxHeartbeats 4000000
open Go.Lib (hid)
open Go.RowKit Go.Lib
theorem nA (w:World):Calls Tryz.prog 192 #[.int .i64 16] w (fun e w'=>e=.returned (.bool true)/\w=w'):=by
 go_enter Tryz.func192,Tryz.ntmps192
 go_wp2_with fail
 go_ret
 exact ⟨rfl,rfl⟩
theorem vb (w:World) (ht:w.cell? ⟨6,15,none⟩=some (.int .u8 4)):Calls Tryz.prog 198 #[.int .u64 16] w (fun e w'=>e=.returned (.int .i64 4)/\w=w'):=by
 have e1:IntKind.u64.wrap (-16)=18446744073709551600:=by decide
 have e2:bits BinOp.and IntKind.u64 16 18446744073709551600=16:=by decide
 have e3:IntKind.u64.wrap (16 * 285870213051353865)=4573923408821661840:=by decide
 have e4:(4573923408821661840:Int) / 288230376151711744=15:=by decide
 go_enter Tryz.func198,Tryz.ntmps198
 go_wp2_with fail
 go_ret
 exact ⟨rfl,rfl⟩
theorem ye (w:World) (ht:w.cell? ⟨6,15,none⟩=some (.int .u8 4)):Calls Tryz.prog 193 #[.int .u64 16] w (fun e w'=>e=.returned (.int .i64 4)/\w=w'):=by
 have HT:=hid (vb w ht)
 clear ht
 go_enter Tryz.func193,Tryz.ntmps193
 go_wp2_with fail
 refine HT.out.mono ?_
 rintro e w2 ⟨rfl,rfl⟩
 try dsimp only
 go_wp2_with fail
 go_ret
 exact ⟨rfl,rfl⟩
theorem rZ:Tryz.zeroCells249=Array.replicate 65 (Value.int .u8 0):=by kernel_rfl
theorem ly (Z:Array Value) (k:Nat) (l:List UInt8) (w:World) (n c:Nat) (hn:l.length=n) (h:Z.toList.drop k=byteCells l) :
 (convert 70 9 (.slice (some ⟨w.heap.size,k,none⟩) n c)).run Tryz.prog (w.alloc (.cells Z 249))=.ok (.string ⟨l.toArray⟩) (w.alloc (.cells Z 249)):=by
 subst hn
 refine run_convert_bytes_back _ 70 9 5 ⟨w.heap.size,k,none⟩ _ l Tryz.underlying70 Tryz.underlying5 Tryz.underlying9 (fun j hj=>?_)
 rw [Addr.add_lit,cell_of_row _ _ _ _ _ _ (hN w _),<- Array.getElem?_toList,<- List.getElem?_drop,h]
 unfold Lib.byteCells
 simp [gE hj]
theorem pt (m:Nat) (h:m<(⟨#[48,49,50,51,52,53,54,55,56,57,97,98,99,100,101,102,103,104,105,106,107,108,109,110,111,112,113,114,115,116,117,118,119,120,121,122]⟩:ByteArray).size) (h16:m<16):(⟨#[48,49,50,51,52,53,54,55,56,57,97,98,99,100,101,102,103,104,105,106,107,108,109,110,111,112,113,114,115,116,117,118,119,120,121,122]⟩:ByteArray)[m]=fe m:=by
 have:∀ i:Fin 16,∀ h:i.val<(⟨#[48,49,50,51,52,53,54,55,56,57,97,98,99,100,101,102,103,104,105,106,107,108,109,110,111,112,113,114,115,116,117,118,119,120,121,122]⟩:ByteArray).size,(⟨#[48,49,50,51,52,53,54,55,56,57,97,98,99,100,101,102,103,104,105,106,107,108,109,110,111,112,113,114,115,116,117,118,119,120,121,122]⟩:ByteArray)[i.val]=fe i.val:=by decide
 exact this ⟨m,h16⟩ h
theorem su (d:UInt8):(Tryz.zeroCells249.setIfInBounds 64 (Value.int .u8 (d.toNat:Int))).toList.drop 64=byteCells [d]:=by
 rw [rZ,Array.toList_setIfInBounds,Array.toList_replicate]
 rfl
theorem ss (d e:UInt8):((Tryz.zeroCells249.setIfInBounds 64 (Value.int .u8 (e.toNat:Int))).setIfInBounds 63 (Value.int .u8 (d.toNat:Int))).toList.drop 63=byteCells [d,e]:=by
 rw [rZ,Array.toList_setIfInBounds,Array.toList_setIfInBounds,Array.toList_replicate]
 rfl
def kL (l:List UInt8) (w:World) (e:Ending) (w':World):Prop:=e=.returned (.tuple #[.slice none 0 0,.string ⟨l.toArray⟩])/\K0 w w'
theorem uM (n:Nat) (x:Int) (w:World) (HX:Hid (x=(n:Int))) (x0:0<=x) (x1:x<16) (HT:Hid (∀ W:World,K0 w W->Calls Tryz.prog 193 #[.int .u64 16] W (fun e w'=>e=.returned (.int .i64 4)/\W=w'))) :
 Calls Tryz.prog 181 #[.slice none 0 0,.int .u64 x,.int .i64 16,.bool false,.bool false] w (kL [fe n] w):=by
 have HP:=hid nA
 have HK:=hid (show K0 w (w.alloc (.cells Tryz.zeroCells249 249)) from kR.alloc _)
 go_enter Tryz.func181,Tryz.ntmps181
 go_wp2_with fail
 refine (HP.out _).mono ?_
 rintro e w2 ⟨rfl,rfl⟩
 try dsimp only
 go_wp2_with fail
 refine (HT.out _ HK.out).mono ?_
 rintro e w2 ⟨rfl,rfl⟩
 try dsimp only
 go_wp2_with fail
 refine wp_loop_rounds 1 ?_
 rw [rounds_succ]
 go_wp2_with fail
 rw [pt x.toNat _ (by omega),ly _ 64 [fe x.toNat] w 1 1 rfl (su _)]
 simp only [Result.andThen]
 rw [Oper.upon_value]
 have hn:x.toNat=n:=by have:=HX.out;omega
 rw [hn]
 have HK2:=hid (show K0 w (w.alloc (.cells (Tryz.zeroCells249.setIfInBounds 64 (Value.int .u8 ((fe n).toNat:Int))) 249)) from kR.alloc _)
 go_wp2_with fail
 go_ret2
 exact ⟨rfl,HK2.out⟩
theorem rU (n:Nat) (x:Int) (w:World) (HX:Hid (x=(n:Int))) (x0:16<=x) (x1:x<256) (HT:Hid (∀ W:World,K0 w W->Calls Tryz.prog 193 #[.int .u64 16] W (fun e w'=>e=.returned (.int .i64 4)/\W=w'))) :
 Calls Tryz.prog 181 #[.slice none 0 0,.int .u64 x,.int .i64 16,.bool false,.bool false] w (kL [fe (n / 16),fe (n % 16)] w):=by
 have HP:=hid nA
 have ha:bits BinOp.and IntKind.u64 x 15=x % 16:=by
  obtain ⟨m,rfl⟩:=Int.eq_ofNat_of_zero_le (show 0<=x by omega)
  have h15:m &&& 15=m % 16:=Nat.and_two_pow_sub_one_eq_mod m 4
  have:=Go.u64_and_nat m 15 (by omega) (by omega)
  rw [h15] at this
  exact this.trans (by omega)
 have HK:=hid (show K0 w (w.alloc (.cells Tryz.zeroCells249 249)) from kR.alloc _)
 go_enter Tryz.func181,Tryz.ntmps181
 go_wp2_with fail
 refine (HP.out _).mono ?_
 rintro e w2 ⟨rfl,rfl⟩
 try dsimp only
 go_wp2_with fail
 refine (HT.out _ HK.out).mono ?_
 rintro e w2 ⟨rfl,rfl⟩
 try dsimp only
 go_wp2_with fail
 refine wp_loop_rounds 2 ?_
 rw [rounds_succ]
 go_wp2_with fail
 rw [rounds_succ]
 go_wp2_with fail
 rw [pt (x % 16).toNat _ (by omega),pt (x / 16).toNat _ (by omega),ly _ 63 [fe (x / 16).toNat,fe (x % 16).toNat] w 2 2 rfl (ss _ _)]
 simp only [Result.andThen]
 rw [Oper.upon_value]
 have hn:(x / 16).toNat=n / 16:=by have:=HX.out;omega
 have hn2:(x % 16).toNat=n % 16:=by have:=HX.out;omega
 rw [hn,hn2]
 have HK2:=hid (show K0 w (w.alloc (.cells ((Tryz.zeroCells249.setIfInBounds 64 (Value.int .u8 ((fe (n % 16)).toNat:Int))).setIfInBounds 63 (Value.int .u8 ((fe (n / 16)).toNat:Int))) 249)) from kR.alloc _)
 go_wp2_with fail
 go_ret2
 exact ⟨rfl,HK2.out⟩
theorem pB (n:Nat) (hn:n<256) (w:World) (ht:w.cell? ⟨6,15,none⟩=some (.int .u8 4)):Calls Tryz.prog 181 #[.slice none 0 0,.int .u64 (n:Int),.int .i64 16,.bool false,.bool false] w (kL (aD n) w):=by
 have HT:=hid (fun (W:World) (K:K0 w W)=>ye W ((K.cell (bL w _ ht) id).trans ht))
 unfold aD
 by_cases h:n<16
 ·rw [if_pos h];exact uM n n w (hid rfl) (by omega) (by omega) HT
 ·rw [if_neg h];exact rU n n w (hid rfl) (by omega) (by omega) HT
theorem uq (n:Nat) (hn:n<256) (w:World) (ht:w.cell? ⟨6,15,none⟩=some (.int .u8 4)):Calls Tryz.prog 168 #[.int .i64 (n:Int),.int .i64 16] w (ax (aD n) w):=by
 have HB:=hid (pB n hn w ht)
 obtain ⟨x,hx⟩:∃ x:Int,x=(n:Int):=⟨_,rfl⟩
 rw [<- hx] at HB ⊢
 have x0:0<=x:=by omega
 have x1:x<256:=by omega
 have l0:decide (x<0)=false:=dF (by omega)
 clear hx hn ht
 go_enter Tryz.func168,Tryz.ntmps168
 go_wp2_with fail
 refine HB.out.mono ?_
 rintro e w2 ⟨rfl,k2⟩
 have HK2:=hid k2
 clear k2
 try dsimp only
 go_wp2_with fail
 go_ret
 exact ⟨rfl,HK2.out⟩
theorem km (n:Nat) (hn:n<256) (w:World) (ht:w.cell? ⟨6,15,none⟩=some (.int .u8 4)):Calls Tryz.prog 148 #[.int .i64 (n:Int),.int .i64 16] w (ax (aD n) w):=by
 have HB:=hid (uq n hn w ht)
 obtain ⟨x,hx⟩:∃ x:Int,x=(n:Int):=⟨_,rfl⟩
 rw [<- hx] at HB ⊢
 clear hx hn ht
 go_enter Tryz.func148,Tryz.ntmps148
 go_wp2_with fail
 refine HB.out.mono ?_
 rintro e w2 ⟨rfl,k2⟩
 have HK2:=hid k2
 clear k2
 try dsimp only
 go_wp2_with fail
 go_ret
 exact ⟨rfl,HK2.out⟩
end Go.Proofs.YtonnikipeokkaaaGreatDoor
