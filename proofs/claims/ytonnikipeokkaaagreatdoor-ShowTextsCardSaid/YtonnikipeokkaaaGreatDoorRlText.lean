/-
  The document's lex: texted.
-/
import Derived.Test.YtonnikipeokkaaaGreatDoorRlRunes
import Derived.Test.YtonnikipeokkaaaGreatDoorLxWord
namespace Go.Proofs.YtonnikipeokkaaaGreatDoor
set_option maxRecDepth 100000
set_option maxHeartbeats 4000000
open Go.Lib (hid)
open Go.RowKit Go.Lib
def gT (r:Except Nat ig) (sym:Bool) (x:ByteArray) (a b:Nat) (w:World) (e:Ending) (w':World):Prop:=
 match r with
 | .ok _=>e=.returned (.tuple #[aU 9 a b false (if sym then 6 else 5) 0 false none 0 0 x,.int .i64 0,.int .i64 0])/\K0 w w'
 | .error c=>e=.returned (.tuple #[.agg ag,.int .i64 (a:Int),.int .i64 (c:Int)])/\K0 w w'
theorem jT {l:List UInt8} {r:List Nat} (h:au l=some r):r.length=0 ↔ l=[]:=by
 constructor
 ·intro hr
  by_cases hl:l=[]
  ·exact hl
  ·rw [dx l hl] at h
   split at h
   ·cases h
   ·cases hx:au (l.drop (decodeL l).2) with
    | none=>rw [hx] at h;cases h
    | some u=>rw [hx] at h;injection h with h;rw [<- h] at hr;simp at hr
 ·rintro rfl
  rw [eU] at h;injection h with h;rw [<- h];rfl
theorem sR (x:ByteArray) (a b:Nat) (w:World) (hs:x.size<=1000000) (hr:au x.data.toList=none) :
 Calls Tryz.prog 39 #[.int .i64 5,.string x,.int .i64 (a:Int),.int .i64 (b:Int)] w (fun e w'=>e=.returned (.tuple #[.agg ag,.int .i64 (a:Int),.int .i64 9])/\K0 w w'):=by
 have hb:(w.alloc (.cells ag 29)).heap[w.heap.size]? = some (.cells ag 29 (0,0)):=hN w _
 have HB:=hid hb
 have HKA:=hid (show K0 w (w.alloc (.cells ag 29)) from kR.alloc _)
 have HRN:=hid (fun w=>bU x w hs)
 have HH:=hid hr
 clear hb hr
 go_enter Tryz.func39,Tryz.ntmps39
 go_wp2_with fail
 refine (HRN.out _).mono ?_
 intro e w2 hres
 unfold aE at hres
 rw [HH.out] at hres
 obtain ⟨rfl,k2⟩:=hres
 have HB2:=hid (k2.heap HB.out (by simp))
 have HK2:=hid (HKA.out.trans k2)
 obtain ⟨⟨c0,c1,c2,c3,c4,c5,c6,c7,c8,c9⟩,f0,f1,f2,f3,f4,f5,f6,f7,f8,f9⟩:=ab HB2.out
 have HE:=hid (af HK2.out (Nat.le_refl _) (.int .i64 0) (.int .i64 0) (.int .i64 0) (.bool false) (.int .i64 0) (.int .i32 0) (.bool false) (.slice none 0 0) (.string ⟨#[]⟩) (.slice none 0 0))
 have HR:=hid (ab (ac HB2.out (.int .i64 0) (.int .i64 0) (.int .i64 0) (.bool false) (.int .i64 0) (.int .i32 0) (.bool false) (.slice none 0 0) (.string ⟨#[]⟩) (.slice none 0 0))).1
 clear k2
 go_wp2_with fail
 refine bodyPost_ret (v:=.tuple #[.agg ag,.int .i64 (a:Int),.int .i64 9]) ?_ rfl ⟨rfl,HE.out⟩
 obtain ⟨e0,e1,e2,e3,e4,e5,e6,e7,e8,e9⟩:=HR.out
 simp [results,Tryz.results39,go_sem,e0,e1,e2,e3,e4,e5,e6,e7,e8,e9]
theorem sQ (x:ByteArray) (a b:Nat) (w:World) (hs:x.size<=1000000) (hr:au x.data.toList=none) :
 Calls Tryz.prog 39 #[.int .i64 6,.string x,.int .i64 (a:Int),.int .i64 (b:Int)] w (fun e w'=>e=.returned (.tuple #[.agg ag,.int .i64 (a:Int),.int .i64 9])/\K0 w w'):=by
 have hb:(w.alloc (.cells ag 29)).heap[w.heap.size]? = some (.cells ag 29 (0,0)):=hN w _
 have HB:=hid hb
 have HKA:=hid (show K0 w (w.alloc (.cells ag 29)) from kR.alloc _)
 have HRN:=hid (fun w=>bU x w hs)
 have HH:=hid hr
 clear hb hr
 go_enter Tryz.func39,Tryz.ntmps39
 go_wp2_with fail
 refine (HRN.out _).mono ?_
 intro e w2 hres
 unfold aE at hres
 rw [HH.out] at hres
 obtain ⟨rfl,k2⟩:=hres
 have HB2:=hid (k2.heap HB.out (by simp))
 have HK2:=hid (HKA.out.trans k2)
 obtain ⟨⟨c0,c1,c2,c3,c4,c5,c6,c7,c8,c9⟩,f0,f1,f2,f3,f4,f5,f6,f7,f8,f9⟩:=ab HB2.out
 have HE:=hid (af HK2.out (Nat.le_refl _) (.int .i64 0) (.int .i64 0) (.int .i64 0) (.bool false) (.int .i64 0) (.int .i32 0) (.bool false) (.slice none 0 0) (.string ⟨#[]⟩) (.slice none 0 0))
 have HR:=hid (ab (ac HB2.out (.int .i64 0) (.int .i64 0) (.int .i64 0) (.bool false) (.int .i64 0) (.int .i32 0) (.bool false) (.slice none 0 0) (.string ⟨#[]⟩) (.slice none 0 0))).1
 clear k2
 go_wp2_with fail
 refine bodyPost_ret (v:=.tuple #[.agg ag,.int .i64 (a:Int),.int .i64 9]) ?_ rfl ⟨rfl,HE.out⟩
 obtain ⟨e0,e1,e2,e3,e4,e5,e6,e7,e8,e9⟩:=HR.out
 simp [results,Tryz.results39,go_sem,e0,e1,e2,e3,e4,e5,e6,e7,e8,e9]
theorem sP (x:ByteArray) (a b:Nat) (w:World) (hs:x.size<=1000000) {r:List Nat} (hr:au x.data.toList=some r) (hl:r.length=0) :
 Calls Tryz.prog 39 #[.int .i64 6,.string x,.int .i64 (a:Int),.int .i64 (b:Int)] w (fun e w'=>e=.returned (.tuple #[.agg ag,.int .i64 (a:Int),.int .i64 9])/\K0 w w'):=by
 have hb:(w.alloc (.cells ag 29)).heap[w.heap.size]? = some (.cells ag 29 (0,0)):=hN w _
 have HB:=hid hb
 have HKA:=hid (show K0 w (w.alloc (.cells ag 29)) from kR.alloc _)
 have HRN:=hid (fun w=>bU x w hs)
 have HH:=hid hr
 clear hb hr
 go_enter Tryz.func39,Tryz.ntmps39
 go_wp2_with fail
 refine (HRN.out _).mono ?_
 intro e w2 hres
 unfold aE at hres
 rw [HH.out] at hres
 obtain ⟨A,cp,rfl,_,k2⟩:=hres
 obtain ⟨n,hn⟩:∃ n:Nat,n=r.length:=⟨_,rfl⟩
 rw [<- hn]
 have z0:((n:Int) == 0)=true:=by rw [hn,hl];rfl
 clear hn hl
 have HB2:=hid (k2.heap HB.out (by simp))
 have HK2:=hid (HKA.out.trans k2)
 obtain ⟨⟨c0,c1,c2,c3,c4,c5,c6,c7,c8,c9⟩,f0,f1,f2,f3,f4,f5,f6,f7,f8,f9⟩:=ab HB2.out
 have HE:=hid (af HK2.out (Nat.le_refl _) (.int .i64 0) (.int .i64 0) (.int .i64 0) (.bool false) (.int .i64 0) (.int .i32 0) (.bool false) (.slice none 0 0) (.string ⟨#[]⟩) (.slice none 0 0))
 have HR:=hid (ab (ac HB2.out (.int .i64 0) (.int .i64 0) (.int .i64 0) (.bool false) (.int .i64 0) (.int .i32 0) (.bool false) (.slice none 0 0) (.string ⟨#[]⟩) (.slice none 0 0))).1
 clear k2
 go_wp2_with fail
 refine bodyPost_ret (v:=.tuple #[.agg ag,.int .i64 (a:Int),.int .i64 9]) ?_ rfl ⟨rfl,HE.out⟩
 obtain ⟨e0,e1,e2,e3,e4,e5,e6,e7,e8,e9⟩:=HR.out
 simp [results,Tryz.results39,go_sem,e0,e1,e2,e3,e4,e5,e6,e7,e8,e9]
theorem sT (x:ByteArray) (a b:Nat) (w:World) (hs:x.size<=1000000) {r:List Nat} (hr:au x.data.toList=some r) (hl:62<r.length) :
 Calls Tryz.prog 39 #[.int .i64 5,.string x,.int .i64 (a:Int),.int .i64 (b:Int)] w (fun e w'=>e=.returned (.tuple #[.agg ag,.int .i64 (a:Int),.int .i64 6])/\K0 w w'):=by
 have hb:(w.alloc (.cells ag 29)).heap[w.heap.size]? = some (.cells ag 29 (0,0)):=hN w _
 have HB:=hid hb
 have HKA:=hid (show K0 w (w.alloc (.cells ag 29)) from kR.alloc _)
 have HRN:=hid (fun w=>bU x w hs)
 have HH:=hid hr
 clear hb hr
 go_enter Tryz.func39,Tryz.ntmps39
 go_wp2_with fail
 refine (HRN.out _).mono ?_
 intro e w2 hres
 unfold aE at hres
 rw [HH.out] at hres
 obtain ⟨A,cp,rfl,_,k2⟩:=hres
 obtain ⟨n,hn⟩:∃ n:Nat,n=r.length:=⟨_,rfl⟩
 rw [<- hn]
 have z1:decide (62<(n:Int))=true:=dT (by omega)
 clear hn hl
 have HB2:=hid (k2.heap HB.out (by simp))
 have HK2:=hid (HKA.out.trans k2)
 obtain ⟨⟨c0,c1,c2,c3,c4,c5,c6,c7,c8,c9⟩,f0,f1,f2,f3,f4,f5,f6,f7,f8,f9⟩:=ab HB2.out
 have HE:=hid (af HK2.out (Nat.le_refl _) (.int .i64 0) (.int .i64 0) (.int .i64 0) (.bool false) (.int .i64 0) (.int .i32 0) (.bool false) (.slice none 0 0) (.string ⟨#[]⟩) (.slice none 0 0))
 have HR:=hid (ab (ac HB2.out (.int .i64 0) (.int .i64 0) (.int .i64 0) (.bool false) (.int .i64 0) (.int .i32 0) (.bool false) (.slice none 0 0) (.string ⟨#[]⟩) (.slice none 0 0))).1
 clear k2
 go_wp2_with fail
 refine bodyPost_ret (v:=.tuple #[.agg ag,.int .i64 (a:Int),.int .i64 6]) ?_ rfl ⟨rfl,HE.out⟩
 obtain ⟨e0,e1,e2,e3,e4,e5,e6,e7,e8,e9⟩:=HR.out
 simp [results,Tryz.results39,go_sem,e0,e1,e2,e3,e4,e5,e6,e7,e8,e9]
theorem sS (x:ByteArray) (a b:Nat) (w:World) (hs:x.size<=1000000) {r:List Nat} (hr:au x.data.toList=some r) (_h0:r.length ≠ 0) (hl:62<r.length) :
 Calls Tryz.prog 39 #[.int .i64 6,.string x,.int .i64 (a:Int),.int .i64 (b:Int)] w (fun e w'=>e=.returned (.tuple #[.agg ag,.int .i64 (a:Int),.int .i64 6])/\K0 w w'):=by
 have hb:(w.alloc (.cells ag 29)).heap[w.heap.size]? = some (.cells ag 29 (0,0)):=hN w _
 have HB:=hid hb
 have HKA:=hid (show K0 w (w.alloc (.cells ag 29)) from kR.alloc _)
 have HRN:=hid (fun w=>bU x w hs)
 have HH:=hid hr
 clear hb hr
 go_enter Tryz.func39,Tryz.ntmps39
 go_wp2_with fail
 refine (HRN.out _).mono ?_
 intro e w2 hres
 unfold aE at hres
 rw [HH.out] at hres
 obtain ⟨A,cp,rfl,_,k2⟩:=hres
 obtain ⟨n,hn⟩:∃ n:Nat,n=r.length:=⟨_,rfl⟩
 rw [<- hn]
 have z0:((n:Int) == 0)=false:=by simp only [bF,ne_eq];omega
 have z1:decide (62<(n:Int))=true:=dT (by omega)
 clear hn hl _h0
 have HB2:=hid (k2.heap HB.out (by simp))
 have HK2:=hid (HKA.out.trans k2)
 obtain ⟨⟨c0,c1,c2,c3,c4,c5,c6,c7,c8,c9⟩,f0,f1,f2,f3,f4,f5,f6,f7,f8,f9⟩:=ab HB2.out
 have HE:=hid (af HK2.out (Nat.le_refl _) (.int .i64 0) (.int .i64 0) (.int .i64 0) (.bool false) (.int .i64 0) (.int .i32 0) (.bool false) (.slice none 0 0) (.string ⟨#[]⟩) (.slice none 0 0))
 have HR:=hid (ab (ac HB2.out (.int .i64 0) (.int .i64 0) (.int .i64 0) (.bool false) (.int .i64 0) (.int .i32 0) (.bool false) (.slice none 0 0) (.string ⟨#[]⟩) (.slice none 0 0))).1
 clear k2
 go_wp2_with fail
 refine bodyPost_ret (v:=.tuple #[.agg ag,.int .i64 (a:Int),.int .i64 6]) ?_ rfl ⟨rfl,HE.out⟩
 obtain ⟨e0,e1,e2,e3,e4,e5,e6,e7,e8,e9⟩:=HR.out
 simp [results,Tryz.results39,go_sem,e0,e1,e2,e3,e4,e5,e6,e7,e8,e9]
theorem vr (x:ByteArray) (a b:Nat) (w:World) (hs:x.size<=1000000) {r:List Nat} (hr:au x.data.toList=some r) (hl:r.length<=62) :
 Calls Tryz.prog 39 #[.int .i64 5,.string x,.int .i64 (a:Int),.int .i64 (b:Int)] w (fun e w'=>e=.returned (.tuple #[aU 9 (a:Int) (b:Int) false 5 0 false none 0 0 x,.int .i64 0,.int .i64 0])/\K0 w w'):=by
 have hb:(w.alloc (.cells ag 29)).heap[w.heap.size]? = some (.cells ag 29 (0,0)):=hN w _
 have HB:=hid hb
 have HKA:=hid (show K0 w (w.alloc (.cells ag 29)) from kR.alloc _)
 have HRN:=hid (fun w=>bU x w hs)
 have HH:=hid hr
 clear hb hr
 go_enter Tryz.func39,Tryz.ntmps39
 go_wp2_with fail
 refine (HRN.out _).mono ?_
 intro e w2 hres
 unfold aE at hres
 rw [HH.out] at hres
 obtain ⟨A,cp,rfl,_,k2⟩:=hres
 obtain ⟨n,hn⟩:∃ n:Nat,n=r.length:=⟨_,rfl⟩
 rw [<- hn]
 have z1:decide (62<(n:Int))=false:=dF (by omega)
 clear hn hl
 have HB2:=hid (k2.heap HB.out (by simp))
 have HK2:=hid (HKA.out.trans k2)
 obtain ⟨⟨c0,c1,c2,c3,c4,c5,c6,c7,c8,c9⟩,f0,f1,f2,f3,f4,f5,f6,f7,f8,f9⟩:=ab HB2.out
 have HE:=hid (af HK2.out (Nat.le_refl _) (.int .i64 9) (.int .i64 (a:Int)) (.int .i64 (b:Int)) (.bool false) (.int .i64 5) (.int .i32 0) (.bool false) (.slice none 0 0) (.string x) (.slice none 0 0))
 have HR:=hid (ab (ac HB2.out (.int .i64 9) (.int .i64 (a:Int)) (.int .i64 (b:Int)) (.bool false) (.int .i64 5) (.int .i32 0) (.bool false) (.slice none 0 0) (.string x) (.slice none 0 0))).1
 clear k2
 go_wp2_with fail
 refine bodyPost_ret (v:=.tuple #[aU 9 (a:Int) (b:Int) false 5 0 false none 0 0 x,.int .i64 0,.int .i64 0]) ?_ rfl ⟨rfl,HE.out⟩
 obtain ⟨e0,e1,e2,e3,e4,e5,e6,e7,e8,e9⟩:=HR.out
 simp [results,Tryz.results39,go_sem,e0,e1,e2,e3,e4,e5,e6,e7,e8,e9]
theorem vq (x:ByteArray) (a b:Nat) (w:World) (hs:x.size<=1000000) {r:List Nat} (hr:au x.data.toList=some r) (h0:r.length ≠ 0) (hl:r.length<=62) :
 Calls Tryz.prog 39 #[.int .i64 6,.string x,.int .i64 (a:Int),.int .i64 (b:Int)] w (fun e w'=>e=.returned (.tuple #[aU 9 (a:Int) (b:Int) false 6 0 false none 0 0 x,.int .i64 0,.int .i64 0])/\K0 w w'):=by
 have hb:(w.alloc (.cells ag 29)).heap[w.heap.size]? = some (.cells ag 29 (0,0)):=hN w _
 have HB:=hid hb
 have HKA:=hid (show K0 w (w.alloc (.cells ag 29)) from kR.alloc _)
 have HRN:=hid (fun w=>bU x w hs)
 have HH:=hid hr
 clear hb hr
 go_enter Tryz.func39,Tryz.ntmps39
 go_wp2_with fail
 refine (HRN.out _).mono ?_
 intro e w2 hres
 unfold aE at hres
 rw [HH.out] at hres
 obtain ⟨A,cp,rfl,_,k2⟩:=hres
 obtain ⟨n,hn⟩:∃ n:Nat,n=r.length:=⟨_,rfl⟩
 rw [<- hn]
 have z0:((n:Int) == 0)=false:=by simp only [bF,ne_eq];omega
 have z1:decide (62<(n:Int))=false:=dF (by omega)
 clear hn hl h0
 have HB2:=hid (k2.heap HB.out (by simp))
 have HK2:=hid (HKA.out.trans k2)
 obtain ⟨⟨c0,c1,c2,c3,c4,c5,c6,c7,c8,c9⟩,f0,f1,f2,f3,f4,f5,f6,f7,f8,f9⟩:=ab HB2.out
 have HE:=hid (af HK2.out (Nat.le_refl _) (.int .i64 9) (.int .i64 (a:Int)) (.int .i64 (b:Int)) (.bool false) (.int .i64 6) (.int .i32 0) (.bool false) (.slice none 0 0) (.string x) (.slice none 0 0))
 have HR:=hid (ab (ac HB2.out (.int .i64 9) (.int .i64 (a:Int)) (.int .i64 (b:Int)) (.bool false) (.int .i64 6) (.int .i32 0) (.bool false) (.slice none 0 0) (.string x) (.slice none 0 0))).1
 clear k2
 go_wp2_with fail
 refine bodyPost_ret (v:=.tuple #[aU 9 (a:Int) (b:Int) false 6 0 false none 0 0 x,.int .i64 0,.int .i64 0]) ?_ rfl ⟨rfl,HE.out⟩
 obtain ⟨e0,e1,e2,e3,e4,e5,e6,e7,e8,e9⟩:=HR.out
 simp [results,Tryz.results39,go_sem,e0,e1,e2,e3,e4,e5,e6,e7,e8,e9]
theorem gg (sym:Bool) (x:ByteArray) (a b:Nat) (w:World) (hs:x.size<=1000000) :
 Calls Tryz.prog 39 #[.int .i64 (if sym then 6 else 5),.string x,.int .i64 (a:Int),.int .i64 (b:Int)] w (gT (cA sym x.data.toList) sym x a b w):=by
 unfold cA
 cases hr:au x.data.toList with
 | none=>
  cases sym
  ·exact sR x a b w hs hr
  ·exact sQ x a b w hs hr
 | some r=>
  have h0:=jT hr
  by_cases h1:sym=true/\x.data.toList=[]
  ·obtain ⟨rfl,h2⟩:=h1
   dsimp only
   rw [if_pos (show true=true/\x.data.toList=[] from ⟨rfl,h2⟩)]
   exact sP x a b w hs hr (h0.2 h2)
  ·dsimp only
   rw [if_neg h1]
   by_cases h3:62<r.length
   ·rw [if_pos h3]
    cases sym
    ·exact sT x a b w hs hr h3
    ·exact sS x a b w hs hr (fun h=>h1 ⟨rfl,h0.1 h⟩) h3
   ·rw [if_neg h3]
    cases sym
    ·exact vr x a b w hs hr (by omega)
    ·exact vq x a b w hs hr (fun h=>h1 ⟨rfl,h0.1 h⟩) (by omega)
end Go.Proofs.YtonnikipeokkaaaGreatDoor
