/-
  lex: atom, texted, named.
-/
import Derived.Test.YtonnikipeokkaaaGreatDoorPaLx
namespace Go.Proofs.YtonnikipeokkaaaGreatDoor
set_option maxRecDepth 100000
set_option maxHeartbeats 4000000
open Go.Lib (hid)
open Go.RowKit Go.Lib
abbrev yx (k c:Int) (neg:Bool) (A:Option Addr) (n cp:Nat) (t:ByteArray):Value:=.agg (rwC k c neg A n cp t none 0 0)
abbrev aU (kind at_ end_:Int) (sq:Bool) (k c:Int) (neg:Bool) (A:Option Addr) (n cp:Nat) (t:ByteArray):Value:=.agg (tkC kind at_ end_ sq k c neg A n cp t none 0 0)
theorem dJ (k c:Int) (neg:Bool) (A:Option Addr) (n cp:Nat) (t:ByteArray) (a b:Int) (w:World) :
 Calls Tryz.prog 123 #[yx k c neg A n cp t,.int .i64 a,.int .i64 b] w fun e w'=>e=.returned (aU 9 a b false k c neg A n cp t)/\K0 w w':=by
 go_enter Tryz.func123,Tryz.ntmps123
 go_wp2_with fail
 exact bodyPost_ret (v:=aU 9 a b false k c neg A n cp t) (by simp [results,Tryz.results123,go_sem]) rfl ⟨rfl,(kR.alloc _).alloc _⟩
abbrev ag:Array Value:=(tkC 0 0 0 false 0 0 false none 0 0 ⟨#[]⟩ none 0 0)
theorem ab {w:World} {B:Nat} {x0 x1 x2 x3 x4 x5 x6 x7 x8 x9:Value} (h:w.heap[B]? = some (.cells #[x0,x1,x2,x3,x4,x5,x6,x7,x8,x9] 29 (0,0))) :
 (w.cell? ⟨B,0,none⟩=some x0/\w.cell? ⟨B,1,none⟩=some x1/\w.cell? ⟨B,2,none⟩=some x2/\w.cell? ⟨B,3,none⟩=some x3/\w.cell? ⟨B,4,none⟩=some x4/\w.cell? ⟨B,5,none⟩=some x5/\w.cell? ⟨B,6,none⟩=some x6/\w.cell? ⟨B,7,none⟩=some x7/\w.cell? ⟨B,8,none⟩=some x8/\w.cell? ⟨B,9,none⟩=some x9) /\
 (w.frozen? ⟨B,0,none⟩=false/\w.frozen? ⟨B,1,none⟩=false/\w.frozen? ⟨B,2,none⟩=false/\w.frozen? ⟨B,3,none⟩=false/\w.frozen? ⟨B,4,none⟩=false/\w.frozen? ⟨B,5,none⟩=false/\w.frozen? ⟨B,6,none⟩=false/\w.frozen? ⟨B,7,none⟩=false/\w.frozen? ⟨B,8,none⟩=false/\w.frozen? ⟨B,9,none⟩=false):=by
 refine ⟨⟨?_,?_,?_,?_,?_,?_,?_,?_,?_,?_⟩,?_,?_,?_,?_,?_,?_,?_,?_,?_,?_⟩
 all_goals first
  | (rw [cell_of_row w _ _ _ _ _ h];rfl)
  | simp [World.frozen?,h]
abbrev cZ (w:World) (B:Nat) (y0 y1 y2 y3 y4 y5 y6 y7 y8 y9:Value):World:=(((((((((w.setCell ⟨B,0,none⟩ y0).setCell ⟨B,1,none⟩ y1).setCell ⟨B,2,none⟩ y2).setCell ⟨B,3,none⟩ y3).setCell ⟨B,4,none⟩ y4).setCell ⟨B,5,none⟩ y5).setCell ⟨B,6,none⟩ y6).setCell ⟨B,7,none⟩ y7).setCell ⟨B,8,none⟩ y8).setCell ⟨B,9,none⟩ y9
theorem ac {w:World} {B:Nat} {x0 x1 x2 x3 x4 x5 x6 x7 x8 x9:Value} (h:w.heap[B]? = some (.cells #[x0,x1,x2,x3,x4,x5,x6,x7,x8,x9] 29 (0,0))) (y0 y1 y2 y3 y4 y5 y6 y7 y8 y9:Value) :
 (cZ w B y0 y1 y2 y3 y4 y5 y6 y7 y8 y9).heap[B]? = some (.cells #[y0,y1,y2,y3,y4,y5,y6,y7,y8,y9] 29 (0,0)):=by
 simp [cZ,World.setCell,Array.getElem?_modify,h]
theorem ba (w:World) (B:Nat) (y0 y1 y2 y3 y4 y5 y6 y7 y8 y9:Value):ah (fun b=>b=B) w (cZ w B y0 y1 y2 y3 y4 y5 y6 y7 y8 y9):=
 by
 refine ah.setCell (S:=fun b=>b=B) (p:=⟨B,9,none⟩) ?_ (.inl rfl) _
 refine ah.setCell (S:=fun b=>b=B) (p:=⟨B,8,none⟩) ?_ (.inl rfl) _
 refine ah.setCell (S:=fun b=>b=B) (p:=⟨B,7,none⟩) ?_ (.inl rfl) _
 refine ah.setCell (S:=fun b=>b=B) (p:=⟨B,6,none⟩) ?_ (.inl rfl) _
 refine ah.setCell (S:=fun b=>b=B) (p:=⟨B,5,none⟩) ?_ (.inl rfl) _
 refine ah.setCell (S:=fun b=>b=B) (p:=⟨B,4,none⟩) ?_ (.inl rfl) _
 refine ah.setCell (S:=fun b=>b=B) (p:=⟨B,3,none⟩) ?_ (.inl rfl) _
 refine ah.setCell (S:=fun b=>b=B) (p:=⟨B,2,none⟩) ?_ (.inl rfl) _
 refine ah.setCell (S:=fun b=>b=B) (p:=⟨B,1,none⟩) ?_ (.inl rfl) _
 refine ah.setCell (S:=fun b=>b=B) (p:=⟨B,0,none⟩) ?_ (.inl rfl) _
 exact kR
theorem af {w w1:World} {B:Nat} (k:K0 w w1) (hB:w.heap.size<=B) (y0 y1 y2 y3 y4 y5 y6 y7 y8 y9:Value):K0 w (cZ w1 B y0 y1 y2 y3 y4 y5 y6 y7 y8 y9):=
 k.into (ba w1 B y0 y1 y2 y3 y4 y5 y6 y7 y8 y9) (by rintro i rfl;exact hB)
theorem dZ.set {w w':World} {v:Value} {p c:Int} {B:Nat} {X:Array Value} (h:dZ w v p c) (hb:w.heap[B]? = some (.cells X 29 (0,0))) (k:ah (fun b=>b=B) w w'):dZ w' v p c:=by
 obtain ⟨A,C,what,h1,h2,h3⟩:=h
 refine ⟨A,C,what,h1,k.heap h2 ?_,k.heap h3 ?_⟩
 ·rintro rfl;rw [h2] at hb;injection hb with hb;injection hb with _ hb;cases hb
 ·rintro rfl;rw [h3] at hb;injection hb with hb;injection hb with _ hb;cases hb
structure bE (w:World):Prop where
 u8:Lib.Utf8Tabs 1 2 w
 err:w.cell? ⟨0,0,none⟩=some (.iface 148 (.agg #[.pointer (some ⟨7,60,none⟩)]))
theorem bE.keep {w w':World} (h:bE w) (k:K0 w w'):bE w':=by
 have l1:1<w.heap.size:=bL w _ (h.u8.1 0 (by omega))
 have l2:2<w.heap.size:=bL w _ (h.u8.2 0 (by omega)).1
 refine ⟨⟨fun c hc=>?_,fun i hi=>⟨?_,?_⟩⟩,?_⟩
 ·rw [k.cell (p:=⟨1,c,none⟩) l1 id];exact h.u8.1 c hc
 ·rw [k.cell (p:=⟨2,2 * i,none⟩) l2 id];exact (h.u8.2 i hi).1
 ·rw [k.cell (p:=⟨2,2 * i+1,none⟩) l2 id];exact (h.u8.2 i hi).2
 ·rw [k.cell (p:=⟨0,0,none⟩) (show 0<w.heap.size by omega) id];exact h.err
theorem jh:∀ (n:Nat) (l:List UInt8),(dl n l).isSome=Lib.validGoD n l
 | 0,_=>rfl
 | n+1,l=>by
  have ih:=jh n (l.drop (decodeL l).2)
  unfold dl Lib.validGoD
  by_cases h:l=[]
  ·rw [if_pos h,if_pos h];rfl
  rw [if_neg h,if_neg h]
  by_cases g:(decodeL l).1=65533/\(decodeL l).2=1
  ·rw [if_pos g,if_pos g];rfl
  rw [if_neg g,if_neg g,<- ih]
  cases dl n (l.drop (decodeL l).2)<;>rfl
theorem iu (l:List UInt8):(au l).isSome=Lib.validD l:=jh _ _
theorem ji (s:ByteArray):∀ (n pos:Nat) (r:List Nat),s.size<=pos+n->dl n (s.data.toList.drop pos)=some r->Lib.runeCountFrom s n pos=r.length
 | 0,pos,r,hn,h=>by
  injection h with h
  rw [<- h];rfl
 | n+1,pos,r,hn,h=>by
  have hz:s.data.toList.length=s.size:=(Lib.size_eq s).symm
  unfold dl at h
  unfold Lib.runeCountFrom
  by_cases hp:pos<s.size
  ·have hne:s.data.toList.drop pos ≠ []:=by rw [ap (by omega)];simp
   rw [if_neg hne,decodeL_drop] at h
   rw [if_pos hp]
   have hw:=bo hne
   rw [decodeL_drop] at hw
   split at h
   ·cases h
   ·rw [List.drop_drop] at h
    cases hr:dl n (s.data.toList.drop (pos+(Utf8.decode s pos).2)) with
    | none=>rw [hr] at h;cases h
    | some q=>
     rw [hr] at h
     injection h with h
     rw [ji s n _ q (by omega) hr,<- h,List.length_cons]
     omega
  ·rw [if_neg hp]
   rw [List.drop_of_length_le (by omega),if_pos rfl] at h
   injection h with h
   rw [<- h];rfl
theorem iw (s:ByteArray) (r:List Nat) (h:au s.data.toList=some r):Lib.runeCount s=r.length:=by
 unfold au at h
 rw [show s.data.toList.length=s.size from (Lib.size_eq s).symm] at h
 exact ji s s.size 0 r (by omega) h
def kF (r:Except Nat ig) (sym:Bool) (x:ByteArray) (a b:Nat) (w:World) (e:Ending) (w':World):Prop:=
 match r with
 | .ok _=>e=.returned (.tuple #[aU 9 a b false (if sym then 6 else 5) 0 false none 0 0 x,.nilIface])/\K0 w w'
 | .error c=>∃ v,e=.returned (.tuple #[.agg ag,v])/\dZ w' v a c/\K0 w w'
theorem aG {w w2:World} {B:Nat} {X:Array Value} {v:Value} {p c:Int} (K:K0 w w2) (hB:w.heap.size<=B) (hb:w2.heap[B]? = some (.cells X 29 (0,0))) (he:dZ w2 v p c) (y0 y1 y2 y3 y4 y5 y6 y7 y8 y9:Value) :
 dZ (cZ w2 B y0 y1 y2 y3 y4 y5 y6 y7 y8 y9) v p c/\K0 w (cZ w2 B y0 y1 y2 y3 y4 y5 y6 y7 y8 y9):=
 ⟨he.set hb (ba _ _ _ _ _ _ _ _ _ _ _ _),af K hB _ _ _ _ _ _ _ _ _ _⟩
theorem mF (x:ByteArray) (a b:Nat) (w:World) (hT:bE w) (hs:x.size<=1000000) (hv:Lib.validD x.data.toList=false) :
 Calls Tryz.prog 89 #[.int .i64 5,.string x,.int .i64 (a:Int),.int .i64 (b:Int)] w (fun e w'=>∃ v,e=.returned (.tuple #[.agg ag,v])/\dZ w' v a 9/\K0 w w'):=by
 have HT:=hid hT
 have hb:(w.alloc (.cells ag 29)).heap[w.heap.size]? = some (.cells ag 29 (0,0)):=hN w _
 have HB:=hid hb
 have HKA:=hid (show K0 w (w.alloc (.cells ag 29)) from kR.alloc _)
 clear hT hb
 have HV:=hid hv
 clear hv
 go_enter Tryz.func89,Tryz.ntmps89
 go_wp2_with fail
 refine (Tryz.utf8_ValidString x _ (by omega) (HT.out.keep HKA.out).u8).mono ?_
 rintro e w1 ⟨rfl,hbel⟩
 rw [HV.out]
 have k1:=ah.of_below hbel
 have HB1:=hid (k1.heap HB.out (by simp))
 have HK1:=hid (HKA.out.trans k1)
 clear hbel k1
 try dsimp only
 go_wp2_with fail
 refine (bK _ _ _ _).mono ?_
 rintro e w2 ⟨v,rfl,he,k2⟩
 have HB2:=hid (k2.heap HB1.out (by simp))
 obtain ⟨⟨c0,c1,c2,c3,c4,c5,c6,c7,c8,c9⟩,f0,f1,f2,f3,f4,f5,f6,f7,f8,f9⟩:=ab HB2.out
 have HE:=hid (aG (HK1.out.trans k2) (Nat.le_refl _) HB2.out he (.int .i64 0) (.int .i64 0) (.int .i64 0) (.bool false) (.int .i64 0) (.int .i32 0) (.bool false) (.slice none 0 0) (.string ⟨#[]⟩) (.slice none 0 0))
 have HR:=hid (ab (ac HB2.out (.int .i64 0) (.int .i64 0) (.int .i64 0) (.bool false) (.int .i64 0) (.int .i32 0) (.bool false) (.slice none 0 0) (.string ⟨#[]⟩) (.slice none 0 0))).1
 clear he k2
 try dsimp only
 go_wp2_with fail
 refine bodyPost_ret (v:=.tuple #[.agg ag,v]) ?_ rfl ⟨v,rfl,HE.out⟩
 obtain ⟨e0,e1,e2,e3,e4,e5,e6,e7,e8,e9⟩:=HR.out
 simp [results,Tryz.results89,go_sem,e0,e1,e2,e3,e4,e5,e6,e7,e8,e9]
theorem mJ (x:ByteArray) (a b:Nat) (w:World) (hT:bE w) (hs:x.size<=1000000) (hv:Lib.validD x.data.toList=true) (hc:decide ((62:Int)<(Lib.runeCount x:Int))=true) :
 Calls Tryz.prog 89 #[.int .i64 5,.string x,.int .i64 (a:Int),.int .i64 (b:Int)] w (fun e w'=>∃ v,e=.returned (.tuple #[.agg ag,v])/\dZ w' v a 6/\K0 w w'):=by
 have HT:=hid hT
 have hb:(w.alloc (.cells ag 29)).heap[w.heap.size]? = some (.cells ag 29 (0,0)):=hN w _
 have HB:=hid hb
 have HKA:=hid (show K0 w (w.alloc (.cells ag 29)) from kR.alloc _)
 clear hT hb
 have HV:=hid hv
 clear hv
 go_enter Tryz.func89,Tryz.ntmps89
 go_wp2_with fail
 refine (Tryz.utf8_ValidString x _ (by omega) (HT.out.keep HKA.out).u8).mono ?_
 rintro e w1 ⟨rfl,hbel⟩
 rw [HV.out]
 have k1:=ah.of_below hbel
 have HB1:=hid (k1.heap HB.out (by simp))
 have HK1:=hid (HKA.out.trans k1)
 clear hbel k1
 try dsimp only
 go_wp2_with fail
 refine (Tryz.utf8_RuneCountInString x _ (by omega)).mono ?_
 rintro e wi ⟨rfl,pos,hwi⟩
 have ki:K0 w1 wi:=by rw [hwi];exact kR.alloc _
 clear hwi
 have HB3:=hid (ki.heap HB1.out (by simp))
 have HK3:=hid (HK1.out.trans ki)
 clear ki
 try dsimp only
 go_wp2_with fail
 refine (bK _ _ _ _).mono ?_
 rintro e w2 ⟨v,rfl,he,k2⟩
 have HB2:=hid (k2.heap HB3.out (by simp))
 obtain ⟨⟨c0,c1,c2,c3,c4,c5,c6,c7,c8,c9⟩,f0,f1,f2,f3,f4,f5,f6,f7,f8,f9⟩:=ab HB2.out
 have HE:=hid (aG (HK3.out.trans k2) (Nat.le_refl _) HB2.out he (.int .i64 0) (.int .i64 0) (.int .i64 0) (.bool false) (.int .i64 0) (.int .i32 0) (.bool false) (.slice none 0 0) (.string ⟨#[]⟩) (.slice none 0 0))
 have HR:=hid (ab (ac HB2.out (.int .i64 0) (.int .i64 0) (.int .i64 0) (.bool false) (.int .i64 0) (.int .i32 0) (.bool false) (.slice none 0 0) (.string ⟨#[]⟩) (.slice none 0 0))).1
 clear he k2
 try dsimp only
 go_wp2_with fail
 refine bodyPost_ret (v:=.tuple #[.agg ag,v]) ?_ rfl ⟨v,rfl,HE.out⟩
 obtain ⟨e0,e1,e2,e3,e4,e5,e6,e7,e8,e9⟩:=HR.out
 simp [results,Tryz.results89,go_sem,e0,e1,e2,e3,e4,e5,e6,e7,e8,e9]
theorem og (x:ByteArray) (a b:Nat) (w:World) (hT:bE w) (hs:x.size<=1000000) (hv:Lib.validD x.data.toList=true) (hc:decide ((62:Int)<(Lib.runeCount x:Int))=false) :
 Calls Tryz.prog 89 #[.int .i64 5,.string x,.int .i64 (a:Int),.int .i64 (b:Int)] w (fun e w'=>e=.returned (.tuple #[aU 9 a b false 5 0 false none 0 0 x,.nilIface])/\K0 w w'):=by
 have HT:=hid hT
 have hb:(w.alloc (.cells ag 29)).heap[w.heap.size]? = some (.cells ag 29 (0,0)):=hN w _
 have HB:=hid hb
 have HKA:=hid (show K0 w (w.alloc (.cells ag 29)) from kR.alloc _)
 clear hT hb
 have HV:=hid hv
 clear hv
 go_enter Tryz.func89,Tryz.ntmps89
 go_wp2_with fail
 refine (Tryz.utf8_ValidString x _ (by omega) (HT.out.keep HKA.out).u8).mono ?_
 rintro e w1 ⟨rfl,hbel⟩
 rw [HV.out]
 have k1:=ah.of_below hbel
 have HB1:=hid (k1.heap HB.out (by simp))
 have HK1:=hid (HKA.out.trans k1)
 clear hbel k1
 try dsimp only
 go_wp2_with fail
 refine (Tryz.utf8_RuneCountInString x _ (by omega)).mono ?_
 rintro e wi ⟨rfl,pos,hwi⟩
 have ki:K0 w1 wi:=by rw [hwi];exact kR.alloc _
 clear hwi
 have HB3:=hid (ki.heap HB1.out (by simp))
 have HK3:=hid (HK1.out.trans ki)
 clear ki
 try dsimp only
 go_wp2_with fail
 refine (dJ 5 0 false none 0 0 x a b _).mono ?_
 rintro e w2 ⟨rfl,k2⟩
 have HB2:=hid (k2.heap HB3.out (by simp))
 obtain ⟨⟨c0,c1,c2,c3,c4,c5,c6,c7,c8,c9⟩,f0,f1,f2,f3,f4,f5,f6,f7,f8,f9⟩:=ab HB2.out
 have HE:=hid (af (HK3.out.trans k2) (Nat.le_refl _) (.int .i64 9) (.int .i64 (a:Int)) (.int .i64 (b:Int)) (.bool false) (.int .i64 5) (.int .i32 0) (.bool false) (.slice none 0 0) (.string x) (.slice none 0 0))
 have HR:=hid (ab (ac HB2.out (.int .i64 9) (.int .i64 (a:Int)) (.int .i64 (b:Int)) (.bool false) (.int .i64 5) (.int .i32 0) (.bool false) (.slice none 0 0) (.string x) (.slice none 0 0))).1
 clear k2
 try dsimp only
 go_wp2_with fail
 refine bodyPost_ret (v:=.tuple #[aU 9 a b false 5 0 false none 0 0 x,.nilIface]) ?_ rfl ⟨rfl,HE.out⟩
 obtain ⟨e0,e1,e2,e3,e4,e5,e6,e7,e8,e9⟩:=HR.out
 simp [results,Tryz.results89,go_sem,e0,e1,e2,e3,e4,e5,e6,e7,e8,e9]
theorem mD (x:ByteArray) (a b:Nat) (w:World) (hT:bE w) (hs:x.size<=1000000) (hv:Lib.validD x.data.toList=false) :
 Calls Tryz.prog 89 #[.int .i64 6,.string x,.int .i64 (a:Int),.int .i64 (b:Int)] w (fun e w'=>∃ v,e=.returned (.tuple #[.agg ag,v])/\dZ w' v a 9/\K0 w w'):=by
 have HT:=hid hT
 have hb:(w.alloc (.cells ag 29)).heap[w.heap.size]? = some (.cells ag 29 (0,0)):=hN w _
 have HB:=hid hb
 have HKA:=hid (show K0 w (w.alloc (.cells ag 29)) from kR.alloc _)
 clear hT hb
 have HV:=hid hv
 clear hv
 go_enter Tryz.func89,Tryz.ntmps89
 go_wp2_with fail
 refine (Tryz.utf8_ValidString x _ (by omega) (HT.out.keep HKA.out).u8).mono ?_
 rintro e w1 ⟨rfl,hbel⟩
 rw [HV.out]
 have k1:=ah.of_below hbel
 have HB1:=hid (k1.heap HB.out (by simp))
 have HK1:=hid (HKA.out.trans k1)
 clear hbel k1
 try dsimp only
 go_wp2_with fail
 refine (bK _ _ _ _).mono ?_
 rintro e w2 ⟨v,rfl,he,k2⟩
 have HB2:=hid (k2.heap HB1.out (by simp))
 obtain ⟨⟨c0,c1,c2,c3,c4,c5,c6,c7,c8,c9⟩,f0,f1,f2,f3,f4,f5,f6,f7,f8,f9⟩:=ab HB2.out
 have HE:=hid (aG (HK1.out.trans k2) (Nat.le_refl _) HB2.out he (.int .i64 0) (.int .i64 0) (.int .i64 0) (.bool false) (.int .i64 0) (.int .i32 0) (.bool false) (.slice none 0 0) (.string ⟨#[]⟩) (.slice none 0 0))
 have HR:=hid (ab (ac HB2.out (.int .i64 0) (.int .i64 0) (.int .i64 0) (.bool false) (.int .i64 0) (.int .i32 0) (.bool false) (.slice none 0 0) (.string ⟨#[]⟩) (.slice none 0 0))).1
 clear he k2
 try dsimp only
 go_wp2_with fail
 refine bodyPost_ret (v:=.tuple #[.agg ag,v]) ?_ rfl ⟨v,rfl,HE.out⟩
 obtain ⟨e0,e1,e2,e3,e4,e5,e6,e7,e8,e9⟩:=HR.out
 simp [results,Tryz.results89,go_sem,e0,e1,e2,e3,e4,e5,e6,e7,e8,e9]
theorem mC (x:ByteArray) (a b:Nat) (w:World) (hT:bE w) (hs:x.size<=1000000) (hv:Lib.validD x.data.toList=true) (he:x.toList.isEmpty=true) :
 Calls Tryz.prog 89 #[.int .i64 6,.string x,.int .i64 (a:Int),.int .i64 (b:Int)] w (fun e w'=>∃ v,e=.returned (.tuple #[.agg ag,v])/\dZ w' v a 9/\K0 w w'):=by
 have HT:=hid hT
 have hb:(w.alloc (.cells ag 29)).heap[w.heap.size]? = some (.cells ag 29 (0,0)):=hN w _
 have HB:=hid hb
 have HKA:=hid (show K0 w (w.alloc (.cells ag 29)) from kR.alloc _)
 clear hT hb
 have HV:=hid hv
 clear hv
 go_enter Tryz.func89,Tryz.ntmps89
 go_wp2_with fail
 refine (Tryz.utf8_ValidString x _ (by omega) (HT.out.keep HKA.out).u8).mono ?_
 rintro e w1 ⟨rfl,hbel⟩
 rw [HV.out]
 have k1:=ah.of_below hbel
 have HB1:=hid (k1.heap HB.out (by simp))
 have HK1:=hid (HKA.out.trans k1)
 clear hbel k1
 try dsimp only
 go_wp2_with fail
 refine (bK _ _ _ _).mono ?_
 rintro e w2 ⟨v,rfl,he,k2⟩
 have HB2:=hid (k2.heap HB1.out (by simp))
 obtain ⟨⟨c0,c1,c2,c3,c4,c5,c6,c7,c8,c9⟩,f0,f1,f2,f3,f4,f5,f6,f7,f8,f9⟩:=ab HB2.out
 have HE:=hid (aG (HK1.out.trans k2) (Nat.le_refl _) HB2.out he (.int .i64 0) (.int .i64 0) (.int .i64 0) (.bool false) (.int .i64 0) (.int .i32 0) (.bool false) (.slice none 0 0) (.string ⟨#[]⟩) (.slice none 0 0))
 have HR:=hid (ab (ac HB2.out (.int .i64 0) (.int .i64 0) (.int .i64 0) (.bool false) (.int .i64 0) (.int .i32 0) (.bool false) (.slice none 0 0) (.string ⟨#[]⟩) (.slice none 0 0))).1
 clear he k2
 try dsimp only
 go_wp2_with fail
 refine bodyPost_ret (v:=.tuple #[.agg ag,v]) ?_ rfl ⟨v,rfl,HE.out⟩
 obtain ⟨e0,e1,e2,e3,e4,e5,e6,e7,e8,e9⟩:=HR.out
 simp [results,Tryz.results89,go_sem,e0,e1,e2,e3,e4,e5,e6,e7,e8,e9]
theorem mH (x:ByteArray) (a b:Nat) (w:World) (hT:bE w) (hs:x.size<=1000000) (hv:Lib.validD x.data.toList=true) (he:x.toList.isEmpty=false) (hc:decide ((62:Int)<(Lib.runeCount x:Int))=true) :
 Calls Tryz.prog 89 #[.int .i64 6,.string x,.int .i64 (a:Int),.int .i64 (b:Int)] w (fun e w'=>∃ v,e=.returned (.tuple #[.agg ag,v])/\dZ w' v a 6/\K0 w w'):=by
 have HT:=hid hT
 have hb:(w.alloc (.cells ag 29)).heap[w.heap.size]? = some (.cells ag 29 (0,0)):=hN w _
 have HB:=hid hb
 have HKA:=hid (show K0 w (w.alloc (.cells ag 29)) from kR.alloc _)
 clear hT hb
 have HV:=hid hv
 clear hv
 go_enter Tryz.func89,Tryz.ntmps89
 go_wp2_with fail
 refine (Tryz.utf8_ValidString x _ (by omega) (HT.out.keep HKA.out).u8).mono ?_
 rintro e w1 ⟨rfl,hbel⟩
 rw [HV.out]
 have k1:=ah.of_below hbel
 have HB1:=hid (k1.heap HB.out (by simp))
 have HK1:=hid (HKA.out.trans k1)
 clear hbel k1
 try dsimp only
 go_wp2_with fail
 refine (Tryz.utf8_RuneCountInString x _ (by omega)).mono ?_
 rintro e wi ⟨rfl,pos,hwi⟩
 have ki:K0 w1 wi:=by rw [hwi];exact kR.alloc _
 clear hwi
 have HB3:=hid (ki.heap HB1.out (by simp))
 have HK3:=hid (HK1.out.trans ki)
 clear ki
 try dsimp only
 go_wp2_with fail
 refine (bK _ _ _ _).mono ?_
 rintro e w2 ⟨v,rfl,he,k2⟩
 have HB2:=hid (k2.heap HB3.out (by simp))
 obtain ⟨⟨c0,c1,c2,c3,c4,c5,c6,c7,c8,c9⟩,f0,f1,f2,f3,f4,f5,f6,f7,f8,f9⟩:=ab HB2.out
 have HE:=hid (aG (HK3.out.trans k2) (Nat.le_refl _) HB2.out he (.int .i64 0) (.int .i64 0) (.int .i64 0) (.bool false) (.int .i64 0) (.int .i32 0) (.bool false) (.slice none 0 0) (.string ⟨#[]⟩) (.slice none 0 0))
 have HR:=hid (ab (ac HB2.out (.int .i64 0) (.int .i64 0) (.int .i64 0) (.bool false) (.int .i64 0) (.int .i32 0) (.bool false) (.slice none 0 0) (.string ⟨#[]⟩) (.slice none 0 0))).1
 clear he k2
 try dsimp only
 go_wp2_with fail
 refine bodyPost_ret (v:=.tuple #[.agg ag,v]) ?_ rfl ⟨v,rfl,HE.out⟩
 obtain ⟨e0,e1,e2,e3,e4,e5,e6,e7,e8,e9⟩:=HR.out
 simp [results,Tryz.results89,go_sem,e0,e1,e2,e3,e4,e5,e6,e7,e8,e9]
theorem oe (x:ByteArray) (a b:Nat) (w:World) (hT:bE w) (hs:x.size<=1000000) (hv:Lib.validD x.data.toList=true) (he:x.toList.isEmpty=false) (hc:decide ((62:Int)<(Lib.runeCount x:Int))=false) :
 Calls Tryz.prog 89 #[.int .i64 6,.string x,.int .i64 (a:Int),.int .i64 (b:Int)] w (fun e w'=>e=.returned (.tuple #[aU 9 a b false 6 0 false none 0 0 x,.nilIface])/\K0 w w'):=by
 have HT:=hid hT
 have hb:(w.alloc (.cells ag 29)).heap[w.heap.size]? = some (.cells ag 29 (0,0)):=hN w _
 have HB:=hid hb
 have HKA:=hid (show K0 w (w.alloc (.cells ag 29)) from kR.alloc _)
 clear hT hb
 have HV:=hid hv
 clear hv
 go_enter Tryz.func89,Tryz.ntmps89
 go_wp2_with fail
 refine (Tryz.utf8_ValidString x _ (by omega) (HT.out.keep HKA.out).u8).mono ?_
 rintro e w1 ⟨rfl,hbel⟩
 rw [HV.out]
 have k1:=ah.of_below hbel
 have HB1:=hid (k1.heap HB.out (by simp))
 have HK1:=hid (HKA.out.trans k1)
 clear hbel k1
 try dsimp only
 go_wp2_with fail
 refine (Tryz.utf8_RuneCountInString x _ (by omega)).mono ?_
 rintro e wi ⟨rfl,pos,hwi⟩
 have ki:K0 w1 wi:=by rw [hwi];exact kR.alloc _
 clear hwi
 have HB3:=hid (ki.heap HB1.out (by simp))
 have HK3:=hid (HK1.out.trans ki)
 clear ki
 try dsimp only
 go_wp2_with fail
 refine (dJ 6 0 false none 0 0 x a b _).mono ?_
 rintro e w2 ⟨rfl,k2⟩
 have HB2:=hid (k2.heap HB3.out (by simp))
 obtain ⟨⟨c0,c1,c2,c3,c4,c5,c6,c7,c8,c9⟩,f0,f1,f2,f3,f4,f5,f6,f7,f8,f9⟩:=ab HB2.out
 have HE:=hid (af (HK3.out.trans k2) (Nat.le_refl _) (.int .i64 9) (.int .i64 (a:Int)) (.int .i64 (b:Int)) (.bool false) (.int .i64 6) (.int .i32 0) (.bool false) (.slice none 0 0) (.string x) (.slice none 0 0))
 have HR:=hid (ab (ac HB2.out (.int .i64 9) (.int .i64 (a:Int)) (.int .i64 (b:Int)) (.bool false) (.int .i64 6) (.int .i32 0) (.bool false) (.slice none 0 0) (.string x) (.slice none 0 0))).1
 clear k2
 try dsimp only
 go_wp2_with fail
 refine bodyPost_ret (v:=.tuple #[aU 9 a b false 6 0 false none 0 0 x,.nilIface]) ?_ rfl ⟨rfl,HE.out⟩
 obtain ⟨e0,e1,e2,e3,e4,e5,e6,e7,e8,e9⟩:=HR.out
 simp [results,Tryz.results89,go_sem,e0,e1,e2,e3,e4,e5,e6,e7,e8,e9]
theorem fN (sym:Bool) (x:ByteArray) (a b:Nat) (w:World) (hT:bE w) (hs:x.size<=1000000) :
 Calls Tryz.prog 89 #[.int .i64 (if sym then 6 else 5),.string x,.int .i64 (a:Int),.int .i64 (b:Int)] w (kF (cA sym x.data.toList) sym x a b w):=by
 have hv:=iu x.data.toList
 have hcount:=iw x
 have hemp:x.toList.isEmpty=decide (x.data.toList=[]):=by
  rw [Lib.toList_data];cases x.data.toList<;>simp
 unfold cA
 cases hr:au x.data.toList with
 | none=>
  rw [hr] at hv
  cases sym
  ·exact mF x a b w hT hs hv.symm
  ·exact mD x a b w hT hs hv.symm
 | some r=>
  rw [hr] at hv
  have hc:=hcount r hr
  by_cases h1:sym=true/\x.data.toList=[]
  ·obtain ⟨rfl,h2⟩:=h1
   dsimp only
   rw [if_pos (show true=true/\x.data.toList=[] from ⟨rfl,h2⟩)]
   exact mC x a b w hT hs hv.symm (by rw [hemp,dT h2])
  ·dsimp only
   rw [if_neg h1]
   by_cases h3:62<r.length
   ·rw [if_pos h3]
    have hd:decide ((62:Int)<(Lib.runeCount x:Int))=true:=dT (by omega)
    cases sym
    ·exact mJ x a b w hT hs hv.symm hd
    ·exact mH x a b w hT hs hv.symm (by rw [hemp,dF (fun h=>h1 ⟨rfl,h⟩)]) hd
   ·rw [if_neg h3]
    have hd:decide ((62:Int)<(Lib.runeCount x:Int))=false:=dF (by omega)
    cases sym
    ·exact og x a b w hT hs hv.symm hd
    ·exact oe x a b w hT hs hv.symm (by rw [hemp,dF (fun h=>h1 ⟨rfl,h⟩)]) hd
end Go.Proofs.YtonnikipeokkaaaGreatDoor
