/-
  lex: char.
-/
import Derived.Test.YtonnikipeokkaaaGreatDoorLxWord
namespace Go.Proofs.YtonnikipeokkaaaGreatDoor
set_option maxRecDepth 100000
set_option maxHeartbeats 4000000
open Go.Lib (hid)
open Go.RowKit Go.Lib
def dN (t:List UInt8):Except (Nat × Nat) Tk:=
 match gp t with
 | .ok (v,n)=>.ok ⟨9,2+n,false,.chr v⟩
 | .error e=>.error (0,e)
theorem ef (s:ByteArray) (h:s.data.toList ≠ []):Lib.decodeGo s=decodeL s.data.toList:=by
 unfold Lib.decodeGo
 have hz:s.data.toList.length=s.size:=(Lib.size_eq s).symm
 rw [if_neg (by rw [<- hz];exact fun e=>h (List.eq_nil_of_length_eq_zero e))]
 have:=decodeL_drop s 0
 rw [List.drop_zero] at this
 exact this.symm
theorem gP (s:ByteArray) (k:Nat):(s.extract k s.size).data.toList=s.data.toList.drop k:=by
 have hz:s.data.toList.length=s.size:=(Lib.size_eq s).symm
 rw [Lib.extract_data,List.take_of_length_le (by rw [List.length_drop];omega)]
theorem uC (s:ByteArray) (a:Nat) (w:World) (hT:bE w) (ha:a+2<=s.size) (hs:s.size<=1000000) (h:a+2=s.size) :
 Calls Tryz.prog 90 #[.string s,.int .i64 (a:Int)] w (bj (.error (0,11)) a w):=by
 have HT:=hid hT
 have e0:((a:Int)+2 == (s.size:Int))=true:=by simp;omega
 clear h
 have hb:(w.alloc (.cells ag 29)).heap[w.heap.size]? = some (.cells ag 29 (0,0)):=hN w _
 have HB1:=hid hb
 have HK1:=hid (show K0 w (w.alloc (.cells ag 29)) from kR.alloc _)
 clear hT hb
 go_enter Tryz.func90,Tryz.ntmps90
 go_wp2_with fail
 refine (bK _ _ _ _).mono ?_
 rintro e w7 ⟨v,rfl,he,k7⟩
 have HB7:=hid (k7.heap HB1.out (by simp))
 obtain ⟨⟨c0,c1,c2,c3,c4,c5,c6,c7,c8,c9⟩,f0,f1,f2,f3,f4,f5,f6,f7,f8,f9⟩:=ab HB7.out
 have HE:=hid (aG (HK1.out.trans k7) (Nat.le_refl _) HB7.out he (.int .i64 0) (.int .i64 0) (.int .i64 0) (.bool false) (.int .i64 0) (.int .i32 0) (.bool false) (.slice none 0 0) (.string ⟨#[]⟩) (.slice none 0 0))
 have HR:=hid (ab (ac HB7.out (.int .i64 0) (.int .i64 0) (.int .i64 0) (.bool false) (.int .i64 0) (.int .i32 0) (.bool false) (.slice none 0 0) (.string ⟨#[]⟩) (.slice none 0 0))).1
 clear he k7
 try dsimp only
 go_wp2_with fail
 refine bodyPost_ret (v:=.tuple #[.agg ag,v]) ?_ rfl ⟨v,rfl,HE.out⟩
 obtain ⟨e0,e1,e2,e3,e4,e5,e6,e7,e8,e9⟩:=HR.out
 simp [results,Tryz.results90,go_sem,e0,e1,e2,e3,e4,e5,e6,e7,e8,e9]
theorem uD (s:ByteArray) (a:Nat) (w:World) (hT:bE w) (_ha:a+2<=s.size) (hs:s.size<=1000000) (hlt:a+2<s.size) (c n:Nat) (hcn:decodeL (s.data.toList.drop (a+2))=(c,n)) (hb:c=65533/\n=1) :
 Calls Tryz.prog 90 #[.string s,.int .i64 (a:Int)] w (bj (.error (0,9)) a w):=by
 have HT:=hid hT
 have e0:((a:Int)+2 == (s.size:Int))=false:=by simp;omega
 have hz:s.data.toList.length=s.size:=(Lib.size_eq s).symm
 have hx:(s.extract (a+2) s.size).data.toList=s.data.toList.drop (a+2):=gP s (a+2)
 have hne:s.data.toList.drop (a+2) ≠ []:=by rw [ap (by omega)];simp
 have hdg:Lib.decodeGo (s.extract (a+2) s.size)=(c,n):=by rw [ef _ (by rw [hx];exact hne),hx,hcn]
 have hw:=bo hne
 rw [hcn,List.length_drop,hz] at hw
 have hn1:1<=n:=hw.1
 have hn2:a+2+n<=s.size:=by have:=hw.2;simp only at this;omega
 have HDG:=hid hdg
 have HCN:=hid hcn
 clear hdg hcn hx hne hw hlt
 obtain ⟨rfl,rfl⟩:=hb
 have hb:(w.alloc (.cells ag 29)).heap[w.heap.size]? = some (.cells ag 29 (0,0)):=hN w _
 have HB1:=hid hb
 have HK1:=hid (show K0 w (w.alloc (.cells ag 29)) from kR.alloc _)
 clear hT hb
 go_enter Tryz.func90,Tryz.ntmps90
 go_wp2_with fail
 refine (Tryz.utf8_DecodeRuneInString _ _ (HT.out.keep HK1.out).u8).mono ?_
 rintro e w2 ⟨rfl,hbel⟩
 rw [HDG.out]
 have k2:=ah.of_below hbel
 have HB2:=hid (k2.heap HB1.out (by simp))
 have HK2:=hid (HK1.out.trans k2)
 clear hbel k2
 try dsimp only
 go_wp2_with fail
 refine (bK _ _ _ _).mono ?_
 rintro e w7 ⟨v,rfl,he,k7⟩
 have HB7:=hid (k7.heap HB2.out (by simp))
 obtain ⟨⟨c0,c1,c2,c3,c4,c5,c6,c7,c8,c9⟩,f0,f1,f2,f3,f4,f5,f6,f7,f8,f9⟩:=ab HB7.out
 have HE:=hid (aG (HK2.out.trans k7) (Nat.le_refl _) HB7.out he (.int .i64 0) (.int .i64 0) (.int .i64 0) (.bool false) (.int .i64 0) (.int .i32 0) (.bool false) (.slice none 0 0) (.string ⟨#[]⟩) (.slice none 0 0))
 have HR:=hid (ab (ac HB7.out (.int .i64 0) (.int .i64 0) (.int .i64 0) (.bool false) (.int .i64 0) (.int .i32 0) (.bool false) (.slice none 0 0) (.string ⟨#[]⟩) (.slice none 0 0))).1
 clear he k7
 try dsimp only
 go_wp2_with fail
 refine bodyPost_ret (v:=.tuple #[.agg ag,v]) ?_ rfl ⟨v,rfl,HE.out⟩
 obtain ⟨e0,e1,e2,e3,e4,e5,e6,e7,e8,e9⟩:=HR.out
 simp [results,Tryz.results90,go_sem,e0,e1,e2,e3,e4,e5,e6,e7,e8,e9]
theorem uy (s:ByteArray) (a:Nat) (w:World) (hT:bE w) (ha:a+2<=s.size) (hs:s.size<=1000000) (hlt:a+2<s.size) (c n:Nat) (hcn:decodeL (s.data.toList.drop (a+2))=(c,n)) (hb:¬ (c=65533/\n=1)) (m:Nat) (hm:m=((s.data.toList.drop (a+2+n)).takeWhile (fun b=>!aX b)).length) (E:Nat) (hE:E=a+2+n+m) (hm0:m=0) :
 Calls Tryz.prog 90 #[.string s,.int .i64 (a:Int)] w (bj (.ok ⟨9,2+(n+m),false,.chr c⟩) a w):=by
 have HT:=hid hT
 have e0:((a:Int)+2 == (s.size:Int))=false:=by simp;omega
 have hz:s.data.toList.length=s.size:=(Lib.size_eq s).symm
 have hx:(s.extract (a+2) s.size).data.toList=s.data.toList.drop (a+2):=gP s (a+2)
 have hne:s.data.toList.drop (a+2) ≠ []:=by rw [ap (by omega)];simp
 have hdg:Lib.decodeGo (s.extract (a+2) s.size)=(c,n):=by rw [ef _ (by rw [hx];exact hne),hx,hcn]
 have hw:=bo hne
 rw [hcn,List.length_drop,hz] at hw
 have hn1:1<=n:=hw.1
 have hn2:a+2+n<=s.size:=by have:=hw.2;simp only at this;omega
 have HDG:=hid hdg
 have HCN:=hid hcn
 clear hdg hcn hx hne hw hlt
 have hsc:bS (eI 0) s.data.toList (a+2+n)=E:=by rw [iC];unfold bS;rw [<- hm,hE]
 have hE2:E<=s.size:=by rw [<- hsc,<- hz];exact gF _ (by omega)
 have hE1:a+2+n<=E:=by omega
 have htail:(s.extract (a+2+n) E).data.toList=(s.data.toList.drop (a+2+n)).take m:=by rw [Lib.extract_data,hE,show a+2+n+m - (a+2+n)=m by omega]
 have hword:(s.extract (a+2) E).data.toList=(s.data.toList.drop (a+2)).take (n+m):=by rw [Lib.extract_data,hE,show a+2+n+m - (a+2)=n+m by omega]
 have htl:((s.data.toList.drop (a+2+n)).take m).length=m:=by
  rw [List.length_take]
  have:=(List.takeWhile_sublist (fun b=>!aX b) (l:=s.data.toList.drop (a+2+n))).length_le
  omega
 have HTAIL:=hid htail
 have HWORD:=hid hword
 have HEM:=hid hE
 have HTL:=hid htl
 have HSC:=hid (fun w=>da s (a+2+n) 0 w hn2 hs)
 have HSE:=hid hsc
 have hq:(((c:Int) == 65533)=false)\/((((c:Int) == 65533)=true)/\decide ((n:Int)<2)=false):=by
  by_cases h:c=65533
  ·exact .inr ⟨by simp [h],dF (by have:n ≠ 1:=fun e=>hb ⟨h,e⟩;omega)⟩
  ·exact .inl (by simp;omega)
 clear hsc htail hword hE htl hb hz hm
 have hemp:(s.extract (a+2+n) E).toList.isEmpty=true:=by
  rw [Lib.toList_data,HTAIL.out]
  have:=HTL.out
  generalize (s.data.toList.drop (a+2+n)).take m=q at this
  cases q with
  | nil=>rfl
  | cons=>simp only [List.length_cons] at this;omega
 have HEA:=hid (show E=a+(2+(n+m)) by have:=HEM.out;omega)
 clear hm0
 have hb:(w.alloc (.cells ag 29)).heap[w.heap.size]? = some (.cells ag 29 (0,0)):=hN w _
 have HB1:=hid hb
 have HK1:=hid (show K0 w (w.alloc (.cells ag 29)) from kR.alloc _)
 clear hT hb
 rcases hq with hq | ⟨hq,hq2⟩
 all_goals
  go_enter Tryz.func90,Tryz.ntmps90
  go_wp2_with fail
  refine (Tryz.utf8_DecodeRuneInString _ _ (HT.out.keep HK1.out).u8).mono ?_
  rintro e w2 ⟨rfl,hbel⟩
  rw [HDG.out]
  have k2:=ah.of_below hbel
  have HB2:=hid (k2.heap HB1.out (by simp))
  have HK2:=hid (HK1.out.trans k2)
  clear hbel k2
  try dsimp only
  go_wp2_with fail
  rw [show ((a:Int)+2+(n:Int))=((a+2+n:Nat):Int) from rfl]
  refine (HSC.out _).mono ?_
  rintro e wx ⟨rfl,rfl⟩
  rw [HSE.out]
  try dsimp only
  go_wp2_with fail
  refine (dJ 3 (c:Int) false none 0 0 ⟨#[]⟩ a E _).mono ?_
  rintro e w6 ⟨rfl,k6⟩
  have HB6:=hid (k6.heap HB2.out (by simp))
  have HK6:=hid (HK2.out.trans k6)
  clear k6
  obtain ⟨⟨c0,c1,c2,c3,c4,c5,c6,c7,c8,c9⟩,f0,f1,f2,f3,f4,f5,f6,f7,f8,f9⟩:=ab HB6.out
  have HE:=hid (af HK6.out (Nat.le_refl _) (.int .i64 9) (.int .i64 (a:Int)) (.int .i64 (E:Int)) (.bool false) (.int .i64 3) (.int .i32 (c:Int)) (.bool false) (.slice none 0 0) (.string ⟨#[]⟩) (.slice none 0 0))
  have HR:=hid (ab (ac HB6.out (.int .i64 9) (.int .i64 (a:Int)) (.int .i64 (E:Int)) (.bool false) (.int .i64 3) (.int .i32 (c:Int)) (.bool false) (.slice none 0 0) (.string ⟨#[]⟩) (.slice none 0 0))).1
  try dsimp only
  go_wp2_with fail
  refine bodyPost_ret (v:=.tuple #[aU 9 (a:Int) (E:Int) false 3 (c:Int) false none 0 0 ⟨#[]⟩,.nilIface]) ?_ rfl ?_
  ·obtain ⟨e0,e1,e2,e3,e4,e5,e6,e7,e8,e9⟩:=HR.out
   simp [results,Tryz.results90,go_sem,e0,e1,e2,e3,e4,e5,e6,e7,e8,e9]
  ·exact ⟨3,_,false,none,0,0,⟨#[]⟩,by rw [HEA.out];rfl,⟨rfl,rfl,rfl,rfl,rfl,rfl,rfl⟩,HE.out⟩
theorem rQ (s:ByteArray) (a:Nat) (w:World) (hT:bE w) (ha:a+2<=s.size) (hs:s.size<=1000000) (hlt:a+2<s.size) (c n:Nat) (hcn:decodeL (s.data.toList.drop (a+2))=(c,n)) (hb:¬ (c=65533/\n=1)) (m:Nat) (hm:m=((s.data.toList.drop (a+2+n)).takeWhile (fun b=>!aX b)).length) (E:Nat) (hE:E=a+2+n+m) (hm0:¬ m=0) (v:Nat) (hnm:aN ((s.data.toList.drop (a+2)).take (n+m))=some v) :
 Calls Tryz.prog 90 #[.string s,.int .i64 (a:Int)] w (bj (.ok ⟨9,2+(n+m),false,.chr v⟩) a w):=by
 have HT:=hid hT
 have e0:((a:Int)+2 == (s.size:Int))=false:=by simp;omega
 have hz:s.data.toList.length=s.size:=(Lib.size_eq s).symm
 have hx:(s.extract (a+2) s.size).data.toList=s.data.toList.drop (a+2):=gP s (a+2)
 have hne:s.data.toList.drop (a+2) ≠ []:=by rw [ap (by omega)];simp
 have hdg:Lib.decodeGo (s.extract (a+2) s.size)=(c,n):=by rw [ef _ (by rw [hx];exact hne),hx,hcn]
 have hw:=bo hne
 rw [hcn,List.length_drop,hz] at hw
 have hn1:1<=n:=hw.1
 have hn2:a+2+n<=s.size:=by have:=hw.2;simp only at this;omega
 have HDG:=hid hdg
 have HCN:=hid hcn
 clear hdg hcn hx hne hw hlt
 have hsc:bS (eI 0) s.data.toList (a+2+n)=E:=by rw [iC];unfold bS;rw [<- hm,hE]
 have hE2:E<=s.size:=by rw [<- hsc,<- hz];exact gF _ (by omega)
 have hE1:a+2+n<=E:=by omega
 have htail:(s.extract (a+2+n) E).data.toList=(s.data.toList.drop (a+2+n)).take m:=by rw [Lib.extract_data,hE,show a+2+n+m - (a+2+n)=m by omega]
 have hword:(s.extract (a+2) E).data.toList=(s.data.toList.drop (a+2)).take (n+m):=by rw [Lib.extract_data,hE,show a+2+n+m - (a+2)=n+m by omega]
 have htl:((s.data.toList.drop (a+2+n)).take m).length=m:=by
  rw [List.length_take]
  have:=(List.takeWhile_sublist (fun b=>!aX b) (l:=s.data.toList.drop (a+2+n))).length_le
  omega
 have HTAIL:=hid htail
 have HWORD:=hid hword
 have HEM:=hid hE
 have HTL:=hid htl
 have HSC:=hid (fun w=>da s (a+2+n) 0 w hn2 hs)
 have HSE:=hid hsc
 have hq:(((c:Int) == 65533)=false)\/((((c:Int) == 65533)=true)/\decide ((n:Int)<2)=false):=by
  by_cases h:c=65533
  ·exact .inr ⟨by simp [h],dF (by have:n ≠ 1:=fun e=>hb ⟨h,e⟩;omega)⟩
  ·exact .inl (by simp;omega)
 clear hsc htail hword hE htl hb hz hm
 have hemp:(s.extract (a+2+n) E).toList.isEmpty=false:=by
  rw [Lib.toList_data,HTAIL.out]
  have:=HTL.out
  generalize (s.data.toList.drop (a+2+n)).take m=q at this
  cases q with
  | nil=>simp only [List.length_nil] at this;omega
  | cons=>rfl
 have HEA:=hid (show E=a+(2+(n+m)) by have:=HEM.out;omega)
 have HNM:=hid hnm
 clear hnm hm0
 have hb:(w.alloc (.cells ag 29)).heap[w.heap.size]? = some (.cells ag 29 (0,0)):=hN w _
 have HB1:=hid hb
 have HK1:=hid (show K0 w (w.alloc (.cells ag 29)) from kR.alloc _)
 clear hT hb
 rcases hq with hq | ⟨hq,hq2⟩
 all_goals
  go_enter Tryz.func90,Tryz.ntmps90
  go_wp2_with fail
  refine (Tryz.utf8_DecodeRuneInString _ _ (HT.out.keep HK1.out).u8).mono ?_
  rintro e w2 ⟨rfl,hbel⟩
  rw [HDG.out]
  have k2:=ah.of_below hbel
  have HB2:=hid (k2.heap HB1.out (by simp))
  have HK2:=hid (HK1.out.trans k2)
  clear hbel k2
  try dsimp only
  go_wp2_with fail
  rw [show ((a:Int)+2+(n:Int))=((a+2+n:Nat):Int) from rfl]
  refine (HSC.out _).mono ?_
  rintro e wx ⟨rfl,rfl⟩
  rw [HSE.out]
  try dsimp only
  go_wp2_with fail
  refine (gL _ _).mono ?_
  rintro e wy ⟨rfl,rfl⟩
  rw [HWORD.out,HNM.out]
  try dsimp only [Option.getD,Option.isSome]
  go_wp2_with fail
  refine (dJ 3 (v:Int) false none 0 0 ⟨#[]⟩ a E _).mono ?_
  rintro e w6 ⟨rfl,k6⟩
  have HB6:=hid (k6.heap HB2.out (by simp))
  have HK6:=hid (HK2.out.trans k6)
  clear k6
  obtain ⟨⟨c0,c1,c2,c3,c4,c5,c6,c7,c8,c9⟩,f0,f1,f2,f3,f4,f5,f6,f7,f8,f9⟩:=ab HB6.out
  have HE:=hid (af HK6.out (Nat.le_refl _) (.int .i64 9) (.int .i64 (a:Int)) (.int .i64 (E:Int)) (.bool false) (.int .i64 3) (.int .i32 (v:Int)) (.bool false) (.slice none 0 0) (.string ⟨#[]⟩) (.slice none 0 0))
  have HR:=hid (ab (ac HB6.out (.int .i64 9) (.int .i64 (a:Int)) (.int .i64 (E:Int)) (.bool false) (.int .i64 3) (.int .i32 (v:Int)) (.bool false) (.slice none 0 0) (.string ⟨#[]⟩) (.slice none 0 0))).1
  try dsimp only
  go_wp2_with fail
  refine bodyPost_ret (v:=.tuple #[aU 9 (a:Int) (E:Int) false 3 (v:Int) false none 0 0 ⟨#[]⟩,.nilIface]) ?_ rfl ?_
  ·obtain ⟨e0,e1,e2,e3,e4,e5,e6,e7,e8,e9⟩:=HR.out
   simp [results,Tryz.results90,go_sem,e0,e1,e2,e3,e4,e5,e6,e7,e8,e9]
  ·exact ⟨3,_,false,none,0,0,⟨#[]⟩,by rw [HEA.out];rfl,⟨rfl,rfl,rfl,rfl,rfl,rfl,rfl⟩,HE.out⟩
theorem uB (s:ByteArray) (a:Nat) (w:World) (hT:bE w) (ha:a+2<=s.size) (hs:s.size<=1000000) (hlt:a+2<s.size) (c n:Nat) (hcn:decodeL (s.data.toList.drop (a+2))=(c,n)) (hb:¬ (c=65533/\n=1)) (m:Nat) (hm:m=((s.data.toList.drop (a+2+n)).takeWhile (fun b=>!aX b)).length) (E:Nat) (hE:E=a+2+n+m) (hm0:¬ m=0) (hnm:aN ((s.data.toList.drop (a+2)).take (n+m))=none) (hc:c=120) (r:Nat) (hhx:df ((s.data.toList.drop (a+2+n)).take m)=some r) :
 Calls Tryz.prog 90 #[.string s,.int .i64 (a:Int)] w (bj (.ok ⟨9,2+(n+m),false,.chr r⟩) a w):=by
 have HT:=hid hT
 have e0:((a:Int)+2 == (s.size:Int))=false:=by simp;omega
 have hz:s.data.toList.length=s.size:=(Lib.size_eq s).symm
 have hx:(s.extract (a+2) s.size).data.toList=s.data.toList.drop (a+2):=gP s (a+2)
 have hne:s.data.toList.drop (a+2) ≠ []:=by rw [ap (by omega)];simp
 have hdg:Lib.decodeGo (s.extract (a+2) s.size)=(c,n):=by rw [ef _ (by rw [hx];exact hne),hx,hcn]
 have hw:=bo hne
 rw [hcn,List.length_drop,hz] at hw
 have hn1:1<=n:=hw.1
 have hn2:a+2+n<=s.size:=by have:=hw.2;simp only at this;omega
 have HDG:=hid hdg
 have HCN:=hid hcn
 clear hdg hcn hx hne hw hlt
 have hsc:bS (eI 0) s.data.toList (a+2+n)=E:=by rw [iC];unfold bS;rw [<- hm,hE]
 have hE2:E<=s.size:=by rw [<- hsc,<- hz];exact gF _ (by omega)
 have hE1:a+2+n<=E:=by omega
 have htail:(s.extract (a+2+n) E).data.toList=(s.data.toList.drop (a+2+n)).take m:=by rw [Lib.extract_data,hE,show a+2+n+m - (a+2+n)=m by omega]
 have hword:(s.extract (a+2) E).data.toList=(s.data.toList.drop (a+2)).take (n+m):=by rw [Lib.extract_data,hE,show a+2+n+m - (a+2)=n+m by omega]
 have htl:((s.data.toList.drop (a+2+n)).take m).length=m:=by
  rw [List.length_take]
  have:=(List.takeWhile_sublist (fun b=>!aX b) (l:=s.data.toList.drop (a+2+n))).length_le
  omega
 have HTAIL:=hid htail
 have HWORD:=hid hword
 have HEM:=hid hE
 have HTL:=hid htl
 have HSC:=hid (fun w=>da s (a+2+n) 0 w hn2 hs)
 have HSE:=hid hsc
 have hq:(((c:Int) == 65533)=false)\/((((c:Int) == 65533)=true)/\decide ((n:Int)<2)=false):=by
  by_cases h:c=65533
  ·exact .inr ⟨by simp [h],dF (by have:n ≠ 1:=fun e=>hb ⟨h,e⟩;omega)⟩
  ·exact .inl (by simp;omega)
 clear hsc htail hword hE htl hb hz hm
 have hemp:(s.extract (a+2+n) E).toList.isEmpty=false:=by
  rw [Lib.toList_data,HTAIL.out]
  have:=HTL.out
  generalize (s.data.toList.drop (a+2+n)).take m=q at this
  cases q with
  | nil=>simp only [List.length_nil] at this;omega
  | cons=>rfl
 have HEA:=hid (show E=a+(2+(n+m)) by have:=HEM.out;omega)
 have HNM:=hid hnm
 clear hnm hm0
 have HTZ:=hid (show (s.extract (a+2+n) E).size<=1000000 by rw [Lib.size_eq,HTAIL.out,HTL.out];have:=HEM.out;omega)
 have HHX:=hid hhx
 have e120:((c:Int) == 120)=true:=by simp;omega
 clear hhx hc
 have hb:(w.alloc (.cells ag 29)).heap[w.heap.size]? = some (.cells ag 29 (0,0)):=hN w _
 have HB1:=hid hb
 have HK1:=hid (show K0 w (w.alloc (.cells ag 29)) from kR.alloc _)
 clear hT hb
 rcases hq with hq | ⟨hq,hq2⟩
 all_goals
  go_enter Tryz.func90,Tryz.ntmps90
  go_wp2_with fail
  refine (Tryz.utf8_DecodeRuneInString _ _ (HT.out.keep HK1.out).u8).mono ?_
  rintro e w2 ⟨rfl,hbel⟩
  rw [HDG.out]
  have k2:=ah.of_below hbel
  have HB2:=hid (k2.heap HB1.out (by simp))
  have HK2:=hid (HK1.out.trans k2)
  clear hbel k2
  try dsimp only
  go_wp2_with fail
  rw [show ((a:Int)+2+(n:Int))=((a+2+n:Nat):Int) from rfl]
  refine (HSC.out _).mono ?_
  rintro e wx ⟨rfl,rfl⟩
  rw [HSE.out]
  try dsimp only
  go_wp2_with fail
  refine (gL _ _).mono ?_
  rintro e wy ⟨rfl,rfl⟩
  rw [HWORD.out,HNM.out]
  try dsimp only [Option.getD,Option.isSome]
  go_wp2_with fail
  refine (ic _ _ HTZ.out).mono ?_
  rintro e w3 ⟨r0,hr0,rfl,hr,k3⟩
  rw [HTAIL.out,HHX.out] at hr
  rw [HTAIL.out,HHX.out]
  have HB3:=hid (k3.heap HB2.out (by simp))
  have HK3:=hid (HK2.out.trans k3)
  clear k3
  obtain rfl:=hr r rfl
  clear hr hr0
  try dsimp only [Option.isSome]
  go_wp2_with fail
  refine (dJ 3 (r:Int) false none 0 0 ⟨#[]⟩ a E _).mono ?_
  rintro e w6 ⟨rfl,k6⟩
  have HB6:=hid (k6.heap HB3.out (by simp))
  have HK6:=hid (HK3.out.trans k6)
  clear k6
  obtain ⟨⟨c0,c1,c2,c3,c4,c5,c6,c7,c8,c9⟩,f0,f1,f2,f3,f4,f5,f6,f7,f8,f9⟩:=ab HB6.out
  have HE:=hid (af HK6.out (Nat.le_refl _) (.int .i64 9) (.int .i64 (a:Int)) (.int .i64 (E:Int)) (.bool false) (.int .i64 3) (.int .i32 (r:Int)) (.bool false) (.slice none 0 0) (.string ⟨#[]⟩) (.slice none 0 0))
  have HR:=hid (ab (ac HB6.out (.int .i64 9) (.int .i64 (a:Int)) (.int .i64 (E:Int)) (.bool false) (.int .i64 3) (.int .i32 (r:Int)) (.bool false) (.slice none 0 0) (.string ⟨#[]⟩) (.slice none 0 0))).1
  try dsimp only
  go_wp2_with fail
  refine bodyPost_ret (v:=.tuple #[aU 9 (a:Int) (E:Int) false 3 (r:Int) false none 0 0 ⟨#[]⟩,.nilIface]) ?_ rfl ?_
  ·obtain ⟨e0,e1,e2,e3,e4,e5,e6,e7,e8,e9⟩:=HR.out
   simp [results,Tryz.results90,go_sem,e0,e1,e2,e3,e4,e5,e6,e7,e8,e9]
  ·exact ⟨3,_,false,none,0,0,⟨#[]⟩,by rw [HEA.out];rfl,⟨rfl,rfl,rfl,rfl,rfl,rfl,rfl⟩,HE.out⟩
theorem px (s:ByteArray) (a:Nat) (w:World) (hT:bE w) (ha:a+2<=s.size) (hs:s.size<=1000000) (hlt:a+2<s.size) (c n:Nat) (hcn:decodeL (s.data.toList.drop (a+2))=(c,n)) (hb:¬ (c=65533/\n=1)) (m:Nat) (hm:m=((s.data.toList.drop (a+2+n)).takeWhile (fun b=>!aX b)).length) (E:Nat) (hE:E=a+2+n+m) (hm0:¬ m=0) (hnm:aN ((s.data.toList.drop (a+2)).take (n+m))=none) (hc:c=120) (hhx:df ((s.data.toList.drop (a+2+n)).take m)=none) :
 Calls Tryz.prog 90 #[.string s,.int .i64 (a:Int)] w (bj (.error (0,9)) a w):=by
 have HT:=hid hT
 have e0:((a:Int)+2 == (s.size:Int))=false:=by simp;omega
 have hz:s.data.toList.length=s.size:=(Lib.size_eq s).symm
 have hx:(s.extract (a+2) s.size).data.toList=s.data.toList.drop (a+2):=gP s (a+2)
 have hne:s.data.toList.drop (a+2) ≠ []:=by rw [ap (by omega)];simp
 have hdg:Lib.decodeGo (s.extract (a+2) s.size)=(c,n):=by rw [ef _ (by rw [hx];exact hne),hx,hcn]
 have hw:=bo hne
 rw [hcn,List.length_drop,hz] at hw
 have hn1:1<=n:=hw.1
 have hn2:a+2+n<=s.size:=by have:=hw.2;simp only at this;omega
 have HDG:=hid hdg
 have HCN:=hid hcn
 clear hdg hcn hx hne hw hlt
 have hsc:bS (eI 0) s.data.toList (a+2+n)=E:=by rw [iC];unfold bS;rw [<- hm,hE]
 have hE2:E<=s.size:=by rw [<- hsc,<- hz];exact gF _ (by omega)
 have hE1:a+2+n<=E:=by omega
 have htail:(s.extract (a+2+n) E).data.toList=(s.data.toList.drop (a+2+n)).take m:=by rw [Lib.extract_data,hE,show a+2+n+m - (a+2+n)=m by omega]
 have hword:(s.extract (a+2) E).data.toList=(s.data.toList.drop (a+2)).take (n+m):=by rw [Lib.extract_data,hE,show a+2+n+m - (a+2)=n+m by omega]
 have htl:((s.data.toList.drop (a+2+n)).take m).length=m:=by
  rw [List.length_take]
  have:=(List.takeWhile_sublist (fun b=>!aX b) (l:=s.data.toList.drop (a+2+n))).length_le
  omega
 have HTAIL:=hid htail
 have HWORD:=hid hword
 have HEM:=hid hE
 have HTL:=hid htl
 have HSC:=hid (fun w=>da s (a+2+n) 0 w hn2 hs)
 have HSE:=hid hsc
 have hq:(((c:Int) == 65533)=false)\/((((c:Int) == 65533)=true)/\decide ((n:Int)<2)=false):=by
  by_cases h:c=65533
  ·exact .inr ⟨by simp [h],dF (by have:n ≠ 1:=fun e=>hb ⟨h,e⟩;omega)⟩
  ·exact .inl (by simp;omega)
 clear hsc htail hword hE htl hb hz hm
 have hemp:(s.extract (a+2+n) E).toList.isEmpty=false:=by
  rw [Lib.toList_data,HTAIL.out]
  have:=HTL.out
  generalize (s.data.toList.drop (a+2+n)).take m=q at this
  cases q with
  | nil=>simp only [List.length_nil] at this;omega
  | cons=>rfl
 have HNM:=hid hnm
 clear hnm hm0
 have HTZ:=hid (show (s.extract (a+2+n) E).size<=1000000 by rw [Lib.size_eq,HTAIL.out,HTL.out];have:=HEM.out;omega)
 have HHX:=hid hhx
 have e120:((c:Int) == 120)=true:=by simp;omega
 clear hhx hc
 have hb:(w.alloc (.cells ag 29)).heap[w.heap.size]? = some (.cells ag 29 (0,0)):=hN w _
 have HB1:=hid hb
 have HK1:=hid (show K0 w (w.alloc (.cells ag 29)) from kR.alloc _)
 clear hT hb
 rcases hq with hq | ⟨hq,hq2⟩
 all_goals
  go_enter Tryz.func90,Tryz.ntmps90
  go_wp2_with fail
  refine (Tryz.utf8_DecodeRuneInString _ _ (HT.out.keep HK1.out).u8).mono ?_
  rintro e w2 ⟨rfl,hbel⟩
  rw [HDG.out]
  have k2:=ah.of_below hbel
  have HB2:=hid (k2.heap HB1.out (by simp))
  have HK2:=hid (HK1.out.trans k2)
  clear hbel k2
  try dsimp only
  go_wp2_with fail
  rw [show ((a:Int)+2+(n:Int))=((a+2+n:Nat):Int) from rfl]
  refine (HSC.out _).mono ?_
  rintro e wx ⟨rfl,rfl⟩
  rw [HSE.out]
  try dsimp only
  go_wp2_with fail
  refine (gL _ _).mono ?_
  rintro e wy ⟨rfl,rfl⟩
  rw [HWORD.out,HNM.out]
  try dsimp only [Option.getD,Option.isSome]
  go_wp2_with fail
  refine (ic _ _ HTZ.out).mono ?_
  rintro e w3 ⟨r0,hr0,rfl,hr,k3⟩
  rw [HTAIL.out,HHX.out] at hr
  rw [HTAIL.out,HHX.out]
  have HB3:=hid (k3.heap HB2.out (by simp))
  have HK3:=hid (HK2.out.trans k3)
  clear k3
  clear hr hr0
  try dsimp only [Option.isSome]
  go_wp2_with fail
  refine (bK _ _ _ _).mono ?_
  rintro e w7 ⟨v,rfl,he,k7⟩
  have HB7:=hid (k7.heap HB3.out (by simp))
  obtain ⟨⟨c0,c1,c2,c3,c4,c5,c6,c7,c8,c9⟩,f0,f1,f2,f3,f4,f5,f6,f7,f8,f9⟩:=ab HB7.out
  have HE:=hid (aG (HK3.out.trans k7) (Nat.le_refl _) HB7.out he (.int .i64 0) (.int .i64 0) (.int .i64 0) (.bool false) (.int .i64 0) (.int .i32 0) (.bool false) (.slice none 0 0) (.string ⟨#[]⟩) (.slice none 0 0))
  have HR:=hid (ab (ac HB7.out (.int .i64 0) (.int .i64 0) (.int .i64 0) (.bool false) (.int .i64 0) (.int .i32 0) (.bool false) (.slice none 0 0) (.string ⟨#[]⟩) (.slice none 0 0))).1
  clear he k7
  try dsimp only
  go_wp2_with fail
  refine bodyPost_ret (v:=.tuple #[.agg ag,v]) ?_ rfl ⟨v,rfl,HE.out⟩
  obtain ⟨e0,e1,e2,e3,e4,e5,e6,e7,e8,e9⟩:=HR.out
  simp [results,Tryz.results90,go_sem,e0,e1,e2,e3,e4,e5,e6,e7,e8,e9]
theorem wc (s:ByteArray) (a:Nat) (w:World) (hT:bE w) (ha:a+2<=s.size) (hs:s.size<=1000000) (hlt:a+2<s.size) (c n:Nat) (hcn:decodeL (s.data.toList.drop (a+2))=(c,n)) (hb:¬ (c=65533/\n=1)) (m:Nat) (hm:m=((s.data.toList.drop (a+2+n)).takeWhile (fun b=>!aX b)).length) (E:Nat) (hE:E=a+2+n+m) (hm0:¬ m=0) (hnm:aN ((s.data.toList.drop (a+2)).take (n+m))=none) (hc:¬ c=120) :
 Calls Tryz.prog 90 #[.string s,.int .i64 (a:Int)] w (bj (.error (0,9)) a w):=by
 have HT:=hid hT
 have e0:((a:Int)+2 == (s.size:Int))=false:=by simp;omega
 have hz:s.data.toList.length=s.size:=(Lib.size_eq s).symm
 have hx:(s.extract (a+2) s.size).data.toList=s.data.toList.drop (a+2):=gP s (a+2)
 have hne:s.data.toList.drop (a+2) ≠ []:=by rw [ap (by omega)];simp
 have hdg:Lib.decodeGo (s.extract (a+2) s.size)=(c,n):=by rw [ef _ (by rw [hx];exact hne),hx,hcn]
 have hw:=bo hne
 rw [hcn,List.length_drop,hz] at hw
 have hn1:1<=n:=hw.1
 have hn2:a+2+n<=s.size:=by have:=hw.2;simp only at this;omega
 have HDG:=hid hdg
 have HCN:=hid hcn
 clear hdg hcn hx hne hw hlt
 have hsc:bS (eI 0) s.data.toList (a+2+n)=E:=by rw [iC];unfold bS;rw [<- hm,hE]
 have hE2:E<=s.size:=by rw [<- hsc,<- hz];exact gF _ (by omega)
 have hE1:a+2+n<=E:=by omega
 have htail:(s.extract (a+2+n) E).data.toList=(s.data.toList.drop (a+2+n)).take m:=by rw [Lib.extract_data,hE,show a+2+n+m - (a+2+n)=m by omega]
 have hword:(s.extract (a+2) E).data.toList=(s.data.toList.drop (a+2)).take (n+m):=by rw [Lib.extract_data,hE,show a+2+n+m - (a+2)=n+m by omega]
 have htl:((s.data.toList.drop (a+2+n)).take m).length=m:=by
  rw [List.length_take]
  have:=(List.takeWhile_sublist (fun b=>!aX b) (l:=s.data.toList.drop (a+2+n))).length_le
  omega
 have HTAIL:=hid htail
 have HWORD:=hid hword
 have HEM:=hid hE
 have HTL:=hid htl
 have HSC:=hid (fun w=>da s (a+2+n) 0 w hn2 hs)
 have HSE:=hid hsc
 have hq:(((c:Int) == 65533)=false)\/((((c:Int) == 65533)=true)/\decide ((n:Int)<2)=false):=by
  by_cases h:c=65533
  ·exact .inr ⟨by simp [h],dF (by have:n ≠ 1:=fun e=>hb ⟨h,e⟩;omega)⟩
  ·exact .inl (by simp;omega)
 clear hsc htail hword hE htl hb hz hm
 have hemp:(s.extract (a+2+n) E).toList.isEmpty=false:=by
  rw [Lib.toList_data,HTAIL.out]
  have:=HTL.out
  generalize (s.data.toList.drop (a+2+n)).take m=q at this
  cases q with
  | nil=>simp only [List.length_nil] at this;omega
  | cons=>rfl
 have HNM:=hid hnm
 clear hnm hm0
 have e120:((c:Int) == 120)=false:=by simp;omega
 clear hc
 have hb:(w.alloc (.cells ag 29)).heap[w.heap.size]? = some (.cells ag 29 (0,0)):=hN w _
 have HB1:=hid hb
 have HK1:=hid (show K0 w (w.alloc (.cells ag 29)) from kR.alloc _)
 clear hT hb
 rcases hq with hq | ⟨hq,hq2⟩
 all_goals
  go_enter Tryz.func90,Tryz.ntmps90
  go_wp2_with fail
  refine (Tryz.utf8_DecodeRuneInString _ _ (HT.out.keep HK1.out).u8).mono ?_
  rintro e w2 ⟨rfl,hbel⟩
  rw [HDG.out]
  have k2:=ah.of_below hbel
  have HB2:=hid (k2.heap HB1.out (by simp))
  have HK2:=hid (HK1.out.trans k2)
  clear hbel k2
  try dsimp only
  go_wp2_with fail
  rw [show ((a:Int)+2+(n:Int))=((a+2+n:Nat):Int) from rfl]
  refine (HSC.out _).mono ?_
  rintro e wx ⟨rfl,rfl⟩
  rw [HSE.out]
  try dsimp only
  go_wp2_with fail
  refine (gL _ _).mono ?_
  rintro e wy ⟨rfl,rfl⟩
  rw [HWORD.out,HNM.out]
  try dsimp only [Option.getD,Option.isSome]
  go_wp2_with fail
  refine (bK _ _ _ _).mono ?_
  rintro e w7 ⟨v,rfl,he,k7⟩
  have HB7:=hid (k7.heap HB2.out (by simp))
  obtain ⟨⟨c0,c1,c2,c3,c4,c5,c6,c7,c8,c9⟩,f0,f1,f2,f3,f4,f5,f6,f7,f8,f9⟩:=ab HB7.out
  have HE:=hid (aG (HK2.out.trans k7) (Nat.le_refl _) HB7.out he (.int .i64 0) (.int .i64 0) (.int .i64 0) (.bool false) (.int .i64 0) (.int .i32 0) (.bool false) (.slice none 0 0) (.string ⟨#[]⟩) (.slice none 0 0))
  have HR:=hid (ab (ac HB7.out (.int .i64 0) (.int .i64 0) (.int .i64 0) (.bool false) (.int .i64 0) (.int .i32 0) (.bool false) (.slice none 0 0) (.string ⟨#[]⟩) (.slice none 0 0))).1
  clear he k7
  try dsimp only
  go_wp2_with fail
  refine bodyPost_ret (v:=.tuple #[.agg ag,v]) ?_ rfl ⟨v,rfl,HE.out⟩
  obtain ⟨e0,e1,e2,e3,e4,e5,e6,e7,e8,e9⟩:=HR.out
  simp [results,Tryz.results90,go_sem,e0,e1,e2,e3,e4,e5,e6,e7,e8,e9]
theorem uE (s:ByteArray) (a:Nat) (w:World) (hT:bE w) (ha:a+2<=s.size) (hs:s.size<=1000000) :
 Calls Tryz.prog 90 #[.string s,.int .i64 (a:Int)] w (bj (dN (s.data.toList.drop (a+2))) a w):=by
 have hz:s.data.toList.length=s.size:=(Lib.size_eq s).symm
 unfold dN gp
 by_cases h0:a+2=s.size
 ·rw [if_pos (List.drop_of_length_le (by omega))]
  exact uC s a w hT ha hs h0
 have hlt:a+2<s.size:=by omega
 have hne:s.data.toList.drop (a+2) ≠ []:=by rw [ap (by omega)];simp
 rw [if_neg hne]
 obtain ⟨c,n,hcn⟩:∃ c n,decodeL (s.data.toList.drop (a+2))=(c,n):=⟨_,_,rfl⟩
 rw [hcn]
 dsimp only
 by_cases hb:c=65533/\n=1
 ·rw [if_pos hb]
  exact uD s a w hT ha hs hlt c n hcn hb
 rw [if_neg hb,List.drop_drop]
 obtain ⟨m,hm⟩:∃ m,m=((s.data.toList.drop (a+2+n)).takeWhile (fun b=>!aX b)).length:=⟨_,rfl⟩
 rw [<- hm]
 by_cases hm0:m=0
 ·rw [if_pos hm0]
  have:=uy s a w hT ha hs hlt c n hcn hb m hm (a+2+n+m) rfl hm0
  rw [hm0] at this
  exact this
 rw [if_neg hm0]
 cases hnm:aN ((s.data.toList.drop (a+2)).take (n+m)) with
 | some v=>exact rQ s a w hT ha hs hlt c n hcn hb m hm (a+2+n+m) rfl hm0 v hnm
 | none=>
  dsimp only
  by_cases hc:c=120
  ·rw [if_pos hc]
   cases hhx:df ((s.data.toList.drop (a+2+n)).take m) with
   | some r=>exact uB s a w hT ha hs hlt c n hcn hb m hm (a+2+n+m) rfl hm0 hnm hc r hhx
   | none=>exact px s a w hT ha hs hlt c n hcn hb m hm (a+2+n+m) rfl hm0 hnm hc hhx
  ·rw [if_neg hc]
   exact wc s a w hT ha hs hlt c n hcn hb m hm (a+2+n+m) rfl hm0 hnm hc
end Go.Proofs.YtonnikipeokkaaaGreatDoor
