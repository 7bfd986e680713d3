/-
  The shower's chars. (Printed by gen_schar.py.)
-/
import Derived.Test.YtonnikipeokkaaaGreatDoorSwC
import Derived.Test.YtonnikipeokkaaaGreatDoorSwF
namespace Go.Proofs.YtonnikipeokkaaaGreatDoor
set_option maxRecDepth 100000
set_option maxHeartbeats 4000000
open Go.Lib (hid)
open Go.RowKit Go.Lib
def WrP (w:World) (b:Nat) (pl:Bool) (l:List UInt8) (g:Option Nat) (e:Ending) (w':World):Prop:=e=.returned (.tuple #[])/\br w b pl l g w'
theorem br.mono0 {w w1 w':World} {b:Nat} {pl:Bool} {l:List UInt8} {g:Option Nat} (h:br w1 b pl l g w') (k:K0 w w1):br w b pl l g w':=by
 obtain ⟨g',h1,h2,h3⟩:=h
 refine ⟨g',h1,?_,(k.mono (fun _ _ h=>h.elim)).join h3 (fun _ _ h=>h)⟩
 rcases h2 with h2 | ⟨x,h2,h4⟩
 ·exact .inl h2
 ·exact .inr ⟨x,h2,Nat.le_trans k.size h4⟩
theorem br.undrew {w w':World} {b:Nat} {pl:Bool} {l:List UInt8} {g:Option Nat} (h:br w.drew b pl l g w'):br w b pl l g w':=h.mono0 kR.drew
theorem aR (l:List UInt8):(⟨l.toArray⟩:ByteArray).size=l.length:=by simp [ByteArray.size]
theorem bJ (n:Nat):(aD n).length<=2:=by
 unfold aD
 split<;>simp
theorem bu {w:World} {b:Nat} {pl:Bool} {l:List UInt8} {g:Option Nat} (h:aL w b pl l g) (s:ByteArray) (hs:s.size<=1000000000000) (hl:l.length<=100000000000000) :
 Calls Tryz.prog 107 #[.pointer (some ⟨b,0,none⟩),.string s] w fun e w'=>(∃ k:Int,e=.returned (.tuple #[.int .i64 k,.nilIface]))/\br w b pl (l++s.data.toList) g w':=
 (qk w b pl l g s h (by omega)).mono fun _ _ hp=>⟨⟨_,hp.1⟩,hp.2⟩
theorem eh (x:Int) (w:World):Calls Tryz.prog 147 #[.int .i32 x] w fun e w'=>e=.returned (.bool (decide (x<32) || x == 127))/\w=w':=by
 by_cases h:x<32
 ·have e:(decide (x<32) || x == 127)=true:=by rw [dT h];rfl
  rw [e]
  clear e
  go_enter Tryz.func147,Tryz.ntmps147
  go_wp2_with fail
  go_ret
  exact ⟨rfl,rfl⟩
 ·have h0:decide (x<32)=false:=dF h
  have e:(decide (x<32) || x == 127)=(x == 127):=by rw [h0];rfl
  rw [e]
  clear e h
  go_enter Tryz.func147,Tryz.ntmps147
  go_wp2_with fail
  go_ret
  exact ⟨rfl,rfl⟩
theorem xu (w:World) (b:Nat) (pl:Bool) (l:List UInt8) (g:Option Nat) (h:aL w b pl l g) (hl:l.length<=10000000000000):Calls Tryz.prog 110 #[.pointer (some ⟨b,0,none⟩),.int .i32 0] w (WrP w b pl (l++(35 :: 92 :: bH 0)) g):=by
 have HS:=hid (fun (W:World) (m:List UInt8) (g':Option Nat) (h:aL W b pl m g') (hm:m.length<=100000000000000) (s:ByteArray) (hs:s.size<=1000)=>bu h s (by omega) hm)
 have HA:=hid h
 have HL:=hid hl
 clear h hl
 go_enter Tryz.func110,Tryz.ntmps110
 go_wp2_with fail
 refine (HS.out _ _ _ HA.out (by have:=HL.out;omega) _ (by decide)).mono ?_
 rintro e w1 ⟨⟨k,rfl⟩,g1,h1,n1,k1⟩
 have H1:=hid h1
 have HN:=hid (And.intro n1 k1)
 clear h1 n1 k1
 try dsimp only
 go_wp2_with fail
 refine (HS.out _ _ _ H1.out (by have:=HL.out;rw [List.length_append];show _+2<=_;omega) _ (by decide)).mono ?_
 rintro e w2 ⟨⟨k2,rfl⟩,hw⟩
 have HW:=hid (br.trans HN.out.1 HN.out.2 hw)
 clear hw
 try dsimp only
 go_wp2_with fail
 go_end0
 exact ⟨rfl,by have:=HW.out;rw [List.append_assoc] at this;exact this⟩
theorem xt (w:World) (b:Nat) (pl:Bool) (l:List UInt8) (g:Option Nat) (h:aL w b pl l g) (hl:l.length<=10000000000000):Calls Tryz.prog 110 #[.pointer (some ⟨b,0,none⟩),.int .i32 7] w (WrP w b pl (l++(35 :: 92 :: bH 7)) g):=by
 have HS:=hid (fun (W:World) (m:List UInt8) (g':Option Nat) (h:aL W b pl m g') (hm:m.length<=100000000000000) (s:ByteArray) (hs:s.size<=1000)=>bu h s (by omega) hm)
 have HA:=hid h
 have HL:=hid hl
 clear h hl
 go_enter Tryz.func110,Tryz.ntmps110
 go_wp2_with fail
 refine (HS.out _ _ _ HA.out (by have:=HL.out;omega) _ (by decide)).mono ?_
 rintro e w1 ⟨⟨k,rfl⟩,g1,h1,n1,k1⟩
 have H1:=hid h1
 have HN:=hid (And.intro n1 k1)
 clear h1 n1 k1
 try dsimp only
 go_wp2_with fail
 refine (HS.out _ _ _ H1.out (by have:=HL.out;rw [List.length_append];show _+2<=_;omega) _ (by decide)).mono ?_
 rintro e w2 ⟨⟨k2,rfl⟩,hw⟩
 have HW:=hid (br.trans HN.out.1 HN.out.2 hw)
 clear hw
 try dsimp only
 go_wp2_with fail
 go_end0
 exact ⟨rfl,by have:=HW.out;rw [List.append_assoc] at this;exact this⟩
theorem xr (w:World) (b:Nat) (pl:Bool) (l:List UInt8) (g:Option Nat) (h:aL w b pl l g) (hl:l.length<=10000000000000):Calls Tryz.prog 110 #[.pointer (some ⟨b,0,none⟩),.int .i32 8] w (WrP w b pl (l++(35 :: 92 :: bH 8)) g):=by
 have HS:=hid (fun (W:World) (m:List UInt8) (g':Option Nat) (h:aL W b pl m g') (hm:m.length<=100000000000000) (s:ByteArray) (hs:s.size<=1000)=>bu h s (by omega) hm)
 have HA:=hid h
 have HL:=hid hl
 clear h hl
 go_enter Tryz.func110,Tryz.ntmps110
 go_wp2_with fail
 refine (HS.out _ _ _ HA.out (by have:=HL.out;omega) _ (by decide)).mono ?_
 rintro e w1 ⟨⟨k,rfl⟩,g1,h1,n1,k1⟩
 have H1:=hid h1
 have HN:=hid (And.intro n1 k1)
 clear h1 n1 k1
 try dsimp only
 go_wp2_with fail
 refine (HS.out _ _ _ H1.out (by have:=HL.out;rw [List.length_append];show _+2<=_;omega) _ (by decide)).mono ?_
 rintro e w2 ⟨⟨k2,rfl⟩,hw⟩
 have HW:=hid (br.trans HN.out.1 HN.out.2 hw)
 clear hw
 try dsimp only
 go_wp2_with fail
 go_end0
 exact ⟨rfl,by have:=HW.out;rw [List.append_assoc] at this;exact this⟩
theorem xq (w:World) (b:Nat) (pl:Bool) (l:List UInt8) (g:Option Nat) (h:aL w b pl l g) (hl:l.length<=10000000000000):Calls Tryz.prog 110 #[.pointer (some ⟨b,0,none⟩),.int .i32 9] w (WrP w b pl (l++(35 :: 92 :: bH 9)) g):=by
 have HS:=hid (fun (W:World) (m:List UInt8) (g':Option Nat) (h:aL W b pl m g') (hm:m.length<=100000000000000) (s:ByteArray) (hs:s.size<=1000)=>bu h s (by omega) hm)
 have HA:=hid h
 have HL:=hid hl
 clear h hl
 go_enter Tryz.func110,Tryz.ntmps110
 go_wp2_with fail
 refine (HS.out _ _ _ HA.out (by have:=HL.out;omega) _ (by decide)).mono ?_
 rintro e w1 ⟨⟨k,rfl⟩,g1,h1,n1,k1⟩
 have H1:=hid h1
 have HN:=hid (And.intro n1 k1)
 clear h1 n1 k1
 try dsimp only
 go_wp2_with fail
 refine (HS.out _ _ _ H1.out (by have:=HL.out;rw [List.length_append];show _+2<=_;omega) _ (by decide)).mono ?_
 rintro e w2 ⟨⟨k2,rfl⟩,hw⟩
 have HW:=hid (br.trans HN.out.1 HN.out.2 hw)
 clear hw
 try dsimp only
 go_wp2_with fail
 go_end0
 exact ⟨rfl,by have:=HW.out;rw [List.append_assoc] at this;exact this⟩
theorem xp (w:World) (b:Nat) (pl:Bool) (l:List UInt8) (g:Option Nat) (h:aL w b pl l g) (hl:l.length<=10000000000000):Calls Tryz.prog 110 #[.pointer (some ⟨b,0,none⟩),.int .i32 10] w (WrP w b pl (l++(35 :: 92 :: bH 10)) g):=by
 have HS:=hid (fun (W:World) (m:List UInt8) (g':Option Nat) (h:aL W b pl m g') (hm:m.length<=100000000000000) (s:ByteArray) (hs:s.size<=1000)=>bu h s (by omega) hm)
 have HA:=hid h
 have HL:=hid hl
 clear h hl
 go_enter Tryz.func110,Tryz.ntmps110
 go_wp2_with fail
 refine (HS.out _ _ _ HA.out (by have:=HL.out;omega) _ (by decide)).mono ?_
 rintro e w1 ⟨⟨k,rfl⟩,g1,h1,n1,k1⟩
 have H1:=hid h1
 have HN:=hid (And.intro n1 k1)
 clear h1 n1 k1
 try dsimp only
 go_wp2_with fail
 refine (HS.out _ _ _ H1.out (by have:=HL.out;rw [List.length_append];show _+2<=_;omega) _ (by decide)).mono ?_
 rintro e w2 ⟨⟨k2,rfl⟩,hw⟩
 have HW:=hid (br.trans HN.out.1 HN.out.2 hw)
 clear hw
 try dsimp only
 go_wp2_with fail
 go_end0
 exact ⟨rfl,by have:=HW.out;rw [List.append_assoc] at this;exact this⟩
theorem xo (w:World) (b:Nat) (pl:Bool) (l:List UInt8) (g:Option Nat) (h:aL w b pl l g) (hl:l.length<=10000000000000):Calls Tryz.prog 110 #[.pointer (some ⟨b,0,none⟩),.int .i32 13] w (WrP w b pl (l++(35 :: 92 :: bH 13)) g):=by
 have HS:=hid (fun (W:World) (m:List UInt8) (g':Option Nat) (h:aL W b pl m g') (hm:m.length<=100000000000000) (s:ByteArray) (hs:s.size<=1000)=>bu h s (by omega) hm)
 have HA:=hid h
 have HL:=hid hl
 clear h hl
 go_enter Tryz.func110,Tryz.ntmps110
 go_wp2_with fail
 refine (HS.out _ _ _ HA.out (by have:=HL.out;omega) _ (by decide)).mono ?_
 rintro e w1 ⟨⟨k,rfl⟩,g1,h1,n1,k1⟩
 have H1:=hid h1
 have HN:=hid (And.intro n1 k1)
 clear h1 n1 k1
 try dsimp only
 go_wp2_with fail
 refine (HS.out _ _ _ H1.out (by have:=HL.out;rw [List.length_append];show _+2<=_;omega) _ (by decide)).mono ?_
 rintro e w2 ⟨⟨k2,rfl⟩,hw⟩
 have HW:=hid (br.trans HN.out.1 HN.out.2 hw)
 clear hw
 try dsimp only
 go_wp2_with fail
 go_end0
 exact ⟨rfl,by have:=HW.out;rw [List.append_assoc] at this;exact this⟩
theorem xn (w:World) (b:Nat) (pl:Bool) (l:List UInt8) (g:Option Nat) (h:aL w b pl l g) (hl:l.length<=10000000000000):Calls Tryz.prog 110 #[.pointer (some ⟨b,0,none⟩),.int .i32 27] w (WrP w b pl (l++(35 :: 92 :: bH 27)) g):=by
 have HS:=hid (fun (W:World) (m:List UInt8) (g':Option Nat) (h:aL W b pl m g') (hm:m.length<=100000000000000) (s:ByteArray) (hs:s.size<=1000)=>bu h s (by omega) hm)
 have HA:=hid h
 have HL:=hid hl
 clear h hl
 go_enter Tryz.func110,Tryz.ntmps110
 go_wp2_with fail
 refine (HS.out _ _ _ HA.out (by have:=HL.out;omega) _ (by decide)).mono ?_
 rintro e w1 ⟨⟨k,rfl⟩,g1,h1,n1,k1⟩
 have H1:=hid h1
 have HN:=hid (And.intro n1 k1)
 clear h1 n1 k1
 try dsimp only
 go_wp2_with fail
 refine (HS.out _ _ _ H1.out (by have:=HL.out;rw [List.length_append];show _+2<=_;omega) _ (by decide)).mono ?_
 rintro e w2 ⟨⟨k2,rfl⟩,hw⟩
 have HW:=hid (br.trans HN.out.1 HN.out.2 hw)
 clear hw
 try dsimp only
 go_wp2_with fail
 go_end0
 exact ⟨rfl,by have:=HW.out;rw [List.append_assoc] at this;exact this⟩
theorem xk (w:World) (b:Nat) (pl:Bool) (l:List UInt8) (g:Option Nat) (h:aL w b pl l g) (hl:l.length<=10000000000000):Calls Tryz.prog 110 #[.pointer (some ⟨b,0,none⟩),.int .i32 32] w (WrP w b pl (l++(35 :: 92 :: bH 32)) g):=by
 have HS:=hid (fun (W:World) (m:List UInt8) (g':Option Nat) (h:aL W b pl m g') (hm:m.length<=100000000000000) (s:ByteArray) (hs:s.size<=1000)=>bu h s (by omega) hm)
 have HA:=hid h
 have HL:=hid hl
 clear h hl
 go_enter Tryz.func110,Tryz.ntmps110
 go_wp2_with fail
 refine (HS.out _ _ _ HA.out (by have:=HL.out;omega) _ (by decide)).mono ?_
 rintro e w1 ⟨⟨k,rfl⟩,g1,h1,n1,k1⟩
 have H1:=hid h1
 have HN:=hid (And.intro n1 k1)
 clear h1 n1 k1
 try dsimp only
 go_wp2_with fail
 refine (HS.out _ _ _ H1.out (by have:=HL.out;rw [List.length_append];show _+2<=_;omega) _ (by decide)).mono ?_
 rintro e w2 ⟨⟨k2,rfl⟩,hw⟩
 have HW:=hid (br.trans HN.out.1 HN.out.2 hw)
 clear hw
 try dsimp only
 go_wp2_with fail
 go_end0
 exact ⟨rfl,by have:=HW.out;rw [List.append_assoc] at this;exact this⟩
theorem xj (w:World) (b:Nat) (pl:Bool) (l:List UInt8) (g:Option Nat) (h:aL w b pl l g) (hl:l.length<=10000000000000):Calls Tryz.prog 110 #[.pointer (some ⟨b,0,none⟩),.int .i32 127] w (WrP w b pl (l++(35 :: 92 :: bH 127)) g):=by
 have HS:=hid (fun (W:World) (m:List UInt8) (g':Option Nat) (h:aL W b pl m g') (hm:m.length<=100000000000000) (s:ByteArray) (hs:s.size<=1000)=>bu h s (by omega) hm)
 have HA:=hid h
 have HL:=hid hl
 clear h hl
 go_enter Tryz.func110,Tryz.ntmps110
 go_wp2_with fail
 refine (HS.out _ _ _ HA.out (by have:=HL.out;omega) _ (by decide)).mono ?_
 rintro e w1 ⟨⟨k,rfl⟩,g1,h1,n1,k1⟩
 have H1:=hid h1
 have HN:=hid (And.intro n1 k1)
 clear h1 n1 k1
 try dsimp only
 go_wp2_with fail
 refine (HS.out _ _ _ H1.out (by have:=HL.out;rw [List.length_append];show _+2<=_;omega) _ (by decide)).mono ?_
 rintro e w2 ⟨⟨k2,rfl⟩,hw⟩
 have HW:=hid (br.trans HN.out.1 HN.out.2 hw)
 clear hw
 try dsimp only
 go_wp2_with fail
 go_end0
 exact ⟨rfl,by have:=HW.out;rw [List.append_assoc] at this;exact this⟩
theorem rP (n:Nat) (x:Int) (w:World) (b:Nat) (pl:Bool) (l:List UInt8) (g:Option Nat) (h:aL w b pl l g) (hl:l.length<=10000000000000) (HX:Hid (x=(n:Int))) (n0:(x == 0)=false) (n1:(x == 7)=false) (n2:(x == 8)=false) (n3:(x == 9)=false) (n4:(x == 10)=false) (n5:(x == 13)=false) (n6:(x == 27)=false) (n7:(x == 32)=false) (n8:(x == 127)=false) (r1:decide (x<32)=false) (r2:(127<x/\x<160)=False) (hc:bn n=true):Calls Tryz.prog 110 #[.pointer (some ⟨b,0,none⟩),.int .i32 x] w (WrP w b pl (l++(35 :: 92 :: aI n)) g):=by
 have HS:=hid (fun (W:World) (m:List UInt8) (g':Option Nat) (h:aL W b pl m g') (hm:m.length<=100000000000000) (s:ByteArray) (hs:s.size<=1000)=>bu h s (by omega) hm)
 have HA:=hid h
 have HL:=hid hl
 clear h hl
 have HR:=hid (eh x)
 have HU:=hid (fun (W:World) (m:List UInt8) (g':Option Nat) (h:aL W b pl m g') (hm:m.length<=100000000000000)=>gC W b pl m g' n hc h (by omega))
 rw [<- HX.out] at HU
 rw [r1,n8,show (false || false)=false from rfl] at HR
 have r3:decide (127<x)=false\/(127<x/\decide (x<160)=false):=by
  by_cases h:127<x
  ·exact .inr ⟨h,dF (fun h2=>by rw [<- r2];exact ⟨h,h2⟩)⟩
  ·exact .inl (dF h)
 clear r2 hc
 rcases r3 with r3 | ⟨r3,r4⟩
 ·go_enter Tryz.func110,Tryz.ntmps110
  go_wp2_with fail
  refine (HS.out _ _ _ HA.out (by have:=HL.out;omega) _ (by decide)).mono ?_
  rintro e w1 ⟨⟨k,rfl⟩,g1,h1,n1,k1⟩
  have H1:=hid h1
  have HN:=hid (And.intro n1 k1)
  clear h1 n1 k1
  try dsimp only
  go_wp2_with fail
  refine (HR.out _).mono ?_
  rintro e w3 ⟨rfl,rfl⟩
  try dsimp only
  go_wp2_with fail
  refine (HU.out _ _ _ H1.out (by have:=HL.out;rw [List.length_append];show _+2<=_;omega)).mono ?_
  rintro e w2 ⟨⟨k2,rfl⟩,hw⟩
  have HW:=hid (br.trans HN.out.1 HN.out.2 hw)
  clear hw
  try dsimp only
  go_wp2_with fail
  go_end0
  exact ⟨rfl,by have:=HW.out;rw [List.append_assoc] at this;exact this⟩
 ·go_enter Tryz.func110,Tryz.ntmps110
  go_wp2_with fail
  refine (HS.out _ _ _ HA.out (by have:=HL.out;omega) _ (by decide)).mono ?_
  rintro e w1 ⟨⟨k,rfl⟩,g1,h1,n1,k1⟩
  have H1:=hid h1
  have HN:=hid (And.intro n1 k1)
  clear h1 n1 k1
  try dsimp only
  go_wp2_with fail
  refine (HR.out _).mono ?_
  rintro e w3 ⟨rfl,rfl⟩
  try dsimp only
  go_wp2_with fail
  refine (HU.out _ _ _ H1.out (by have:=HL.out;rw [List.length_append];show _+2<=_;omega)).mono ?_
  rintro e w2 ⟨⟨k2,rfl⟩,hw⟩
  have HW:=hid (br.trans HN.out.1 HN.out.2 hw)
  clear hw
  try dsimp only
  go_wp2_with fail
  go_end0
  exact ⟨rfl,by have:=HW.out;rw [List.append_assoc] at this;exact this⟩
theorem uA (n:Nat) (x:Int) (w:World) (b:Nat) (pl:Bool) (l:List UInt8) (g:Option Nat) (h:aL w b pl l g) (hl:l.length<=10000000000000) (HX:Hid (x=(n:Int))) (n0:(x == 0)=false) (n1:(x == 7)=false) (n2:(x == 8)=false) (n3:(x == 9)=false) (n4:(x == 10)=false) (n5:(x == 13)=false) (n6:(x == 27)=false) (n7:(x == 32)=false) (n8:(x == 127)=false) (r1:decide (x<32)=true) (x0:0<=x) (x1:x<=1000) (HF:Hid (∀ W:World,K0 w W\/ah (Sg b g) w W->Calls Tryz.prog 148 #[.int .i64 x,.int .i64 16] W (ax (aD n) W))):Calls Tryz.prog 110 #[.pointer (some ⟨b,0,none⟩),.int .i32 x] w (WrP w b pl (l++(35 :: 92 :: 120 :: aD n)) g):=by
 have HS:=hid (fun (W:World) (m:List UInt8) (g':Option Nat) (h:aL W b pl m g') (hm:m.length<=100000000000000) (s:ByteArray) (hs:s.size<=1000)=>bu h s (by omega) hm)
 have HA:=hid h
 have HL:=hid hl
 clear h hl
 have HR:=hid (eh x)
 rw [r1,show ∀ c:Bool,(true || c)=true from fun _=>rfl] at HR
 go_enter Tryz.func110,Tryz.ntmps110
 go_wp2_with fail
 refine (HS.out _ _ _ HA.out (by have:=HL.out;omega) _ (by decide)).mono ?_
 rintro e w1 ⟨⟨k,rfl⟩,g1,h1,n1,k1⟩
 have H1:=hid h1
 have HN:=hid (And.intro n1 k1)
 clear h1 n1 k1
 try dsimp only
 go_wp2_with fail
 refine (HR.out _).mono ?_
 rintro e w3 ⟨rfl,rfl⟩
 try dsimp only
 have HF2:=hid (HF.out w1.drew (.inr HN.out.2.drew))
 have H1d:=hid (show aL w1.drew b pl _ g1 from H1.out)
 have hwr:IntKind.i64.wrap x=x:=IntWalk.i64_in _ (by omega)
 have HAD:=hid (fun (W:World)=>rA (P:=Tryz.prog) W ⟨#[120]⟩ ⟨(aD n).toArray⟩ (by have h2:=aR (aD n);have h3:=bJ n;have h1:(⟨#[120]⟩:ByteArray).size=1:=rfl;omega))
 have HCT:=hid (show (⟨#[120]⟩:ByteArray)++⟨(aD n).toArray⟩=⟨(120 :: aD n).toArray⟩ from by apply ByteArray.ext;simp)
 rw [HCT.out] at HAD
 go_upto_region 3 with (fail)
 go_region_with (first
  | (go_at_call 148;refine HF2.out.mono ?_;rintro e w3 ⟨rfl,k3⟩;have hadd:=HAD.out w3;have H3:=hid (H1d.out.keep0 k3);have HK3:=hid k3;clear k3;generalize (⟨(aD n).toArray⟩:ByteArray)=hx at *)
  | (go_at_call 107;refine (HS.out _ _ _ H3.out (by have:=HL.out;rw [List.length_append];show _+2<=_;omega) _ (by rw [aR];show _+1<=_;have:=bJ n;omega)).mono ?_;rintro e w4 ⟨⟨k2,rfl⟩,hw⟩;have HW:=hid (br.trans HN.out.1 HN.out.2 (hw.mono0 HK3.out).undrew)))
 all_goals (go_wp2_with fail)
 all_goals go_end0
 all_goals exact ⟨rfl,by have:=HW.out;rw [List.append_assoc] at this;exact this⟩
theorem uz (n:Nat) (x:Int) (w:World) (b:Nat) (pl:Bool) (l:List UInt8) (g:Option Nat) (h:aL w b pl l g) (hl:l.length<=10000000000000) (HX:Hid (x=(n:Int))) (n0:(x == 0)=false) (n1:(x == 7)=false) (n2:(x == 8)=false) (n3:(x == 9)=false) (n4:(x == 10)=false) (n5:(x == 13)=false) (n6:(x == 27)=false) (n7:(x == 32)=false) (n8:(x == 127)=false) (r1:decide (x<32)=false) (r2:127<x) (r3:x<160) (x0:0<=x) (x1:x<=1000) (HF:Hid (∀ W:World,K0 w W\/ah (Sg b g) w W->Calls Tryz.prog 148 #[.int .i64 x,.int .i64 16] W (ax (aD n) W))):Calls Tryz.prog 110 #[.pointer (some ⟨b,0,none⟩),.int .i32 x] w (WrP w b pl (l++(35 :: 92 :: 120 :: aD n)) g):=by
 have HS:=hid (fun (W:World) (m:List UInt8) (g':Option Nat) (h:aL W b pl m g') (hm:m.length<=100000000000000) (s:ByteArray) (hs:s.size<=1000)=>bu h s (by omega) hm)
 have HA:=hid h
 have HL:=hid hl
 clear h hl
 have HR:=hid (eh x)
 rw [r1,n8,show (false || false)=false from rfl] at HR
 go_enter Tryz.func110,Tryz.ntmps110
 go_wp2_with fail
 refine (HS.out _ _ _ HA.out (by have:=HL.out;omega) _ (by decide)).mono ?_
 rintro e w1 ⟨⟨k,rfl⟩,g1,h1,n1,k1⟩
 have H1:=hid h1
 have HN:=hid (And.intro n1 k1)
 clear h1 n1 k1
 try dsimp only
 go_wp2_with fail
 refine (HR.out _).mono ?_
 rintro e w3 ⟨rfl,rfl⟩
 try dsimp only
 have HF2:=hid (HF.out w1.drew (.inr HN.out.2.drew))
 have H1d:=hid (show aL w1.drew b pl _ g1 from H1.out)
 have hwr:IntKind.i64.wrap x=x:=IntWalk.i64_in _ (by omega)
 have HAD:=hid (fun (W:World)=>rA (P:=Tryz.prog) W ⟨#[120]⟩ ⟨(aD n).toArray⟩ (by have h2:=aR (aD n);have h3:=bJ n;have h1:(⟨#[120]⟩:ByteArray).size=1:=rfl;omega))
 have HCT:=hid (show (⟨#[120]⟩:ByteArray)++⟨(aD n).toArray⟩=⟨(120 :: aD n).toArray⟩ from by apply ByteArray.ext;simp)
 rw [HCT.out] at HAD
 go_upto_region 3 with (fail)
 go_region_with (first
  | (go_at_call 148;refine HF2.out.mono ?_;rintro e w3 ⟨rfl,k3⟩;have hadd:=HAD.out w3;have H3:=hid (H1d.out.keep0 k3);have HK3:=hid k3;clear k3;generalize (⟨(aD n).toArray⟩:ByteArray)=hx at *)
  | (go_at_call 107;refine (HS.out _ _ _ H3.out (by have:=HL.out;rw [List.length_append];show _+2<=_;omega) _ (by rw [aR];show _+1<=_;have:=bJ n;omega)).mono ?_;rintro e w4 ⟨⟨k2,rfl⟩,hw⟩;have HW:=hid (br.trans HN.out.1 HN.out.2 (hw.mono0 HK3.out).undrew)))
 all_goals (go_wp2_with fail)
 all_goals go_end0
 all_goals exact ⟨rfl,by have:=HW.out;rw [List.append_assoc] at this;exact this⟩
theorem ou (n:Nat) (hc:bn n=true) (w:World) (b:Nat) (pl:Bool) (l:List UInt8) (g:Option Nat) (h:aL w b pl l g) (hl:l.length<=10000000000000) (ht:w.cell? ⟨6,15,none⟩=some (.int .u8 4)) (h6:¬ Sg b g 6):Calls Tryz.prog 110 #[.pointer (some ⟨b,0,none⟩),.int .i32 (n:Int)] w (WrP w b pl (l++(35 :: 92 :: bH n)) g):=by
 by_cases h0:n=0
 ·subst h0;exact xu w b pl l g h hl
 by_cases h1:n=7
 ·subst h1;exact xt w b pl l g h hl
 by_cases h2:n=8
 ·subst h2;exact xr w b pl l g h hl
 by_cases h3:n=9
 ·subst h3;exact xq w b pl l g h hl
 by_cases h4:n=10
 ·subst h4;exact xp w b pl l g h hl
 by_cases h5:n=13
 ·subst h5;exact xo w b pl l g h hl
 by_cases h6p:n=27
 ·subst h6p;exact xn w b pl l g h hl
 by_cases h7:n=32
 ·subst h7;exact xk w b pl l g h hl
 by_cases h8:n=127
 ·subst h8;exact xj w b pl l g h hl
 unfold bH
 rw [if_neg h0,if_neg h1,if_neg h2,if_neg h3,if_neg h4,if_neg h5,if_neg h6p,if_neg h7,if_neg h8]
 have nb:∀ {c:Int},(n:Int) ≠ c->((n:Int) == c)=false:=fun h=>bF.2 h
 have HF:Hid (n<256->∀ W:World,K0 w W\/ah (Sg b g) w W->Calls Tryz.prog 148 #[.int .i64 (n:Int),.int .i64 16] W (ax (aD n) W)):=hid (fun hn W K=>km n hn W (by
  rcases K with K | K
  ·exact (K.cell (bL w _ ht) id).trans ht
  ·exact (K.cell (bL w _ ht) h6).trans ht))
 by_cases r:n<32
 ·rw [if_pos (.inl r)]
  exact uA n n w b pl l g h hl (hid rfl) (nb (by omega)) (nb (by omega)) (nb (by omega)) (nb (by omega)) (nb (by omega)) (nb (by omega)) (nb (by omega)) (nb (by omega)) (nb (by omega)) (dT (by omega)) (by omega) (by omega) (hid (HF.out (by omega)))
 ·by_cases r1:127<=n/\n<=159
  ·rw [if_pos (.inr r1)]
   exact uz n n w b pl l g h hl (hid rfl) (nb (by omega)) (nb (by omega)) (nb (by omega)) (nb (by omega)) (nb (by omega)) (nb (by omega)) (nb (by omega)) (nb (by omega)) (nb (by omega)) (dF (by omega)) (by omega) (by omega) (by omega) (by omega) (hid (HF.out (by omega)))
  ·rw [if_neg (by omega)]
   exact rP n n w b pl l g h hl (hid rfl) (nb (by omega)) (nb (by omega)) (nb (by omega)) (nb (by omega)) (nb (by omega)) (nb (by omega)) (nb (by omega)) (nb (by omega)) (nb (by omega)) (dF (by omega)) (eq_false (by omega)) hc
end Go.Proofs.YtonnikipeokkaaaGreatDoor
