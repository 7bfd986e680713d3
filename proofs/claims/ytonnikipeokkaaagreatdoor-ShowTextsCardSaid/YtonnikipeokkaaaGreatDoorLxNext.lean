/-
  lex: token, next.
-/
import Derived.Test.YtonnikipeokkaaaGreatDoorLxToken
namespace Go.Proofs.YtonnikipeokkaaaGreatDoor
set_option maxRecDepth 100000
set_option maxHeartbeats 4000000
open Go.Lib (hid)
open Go.RowKit Go.Lib
def fA (c:UInt8) (t:List UInt8):Except (Nat × Nat) Tk:=
 match dj c 0 t with
 | .open_=>.error (0,11)
 | .bad i=>.error (1+i,9)
 | .ok out n=>match cA (c == 124) out with
  | .ok d=>.ok ⟨9,1+n,false,d⟩
  | .error e=>.error (0,e)
theorem gy {sym:Bool} {W:List UInt8} {d:ig} (h:cA sym W=.ok d):d=if sym then .sym W else .str W:=by
 unfold cA at h
 split at h
 ·cases h
 split at h
 ·cases h
 split at h
 ·cases h
 ·injection h with h;exact h.symm
theorem jA {c:UInt8} {x out:List UInt8} {n:Nat} (h:dj c 0 x=.ok out n):n<=x.length:=(fQ c x x 0 out n h rfl).2.2
theorem fP (by_:UInt8):∀ (x:List UInt8) (k:Nat) (out:List UInt8) (n:Nat),dj by_ k x=.ok out n->out.length<=4 * n
 | [],k,out,n,h=>by cases k<;>cases h
 | c :: t,k+1,out,n,h=>by
  rw [dj] at h
  obtain ⟨o,m,h1,h2,h3⟩:=dh.up_ok h
  have:=fP by_ t k o m h1
  rw [h2,List.length_append];simp only [List.length_nil];omega
 | c :: t,0,out,n,h=>by
  rw [dj] at h
  split at h
  ·injection h with h1 h2;rw [<- h1];simp
  split at h
  ·obtain ⟨o,m,h1,h2,h3⟩:=dh.up_ok h
   have:=fP by_ t 0 o m h1
   rw [h2,List.length_append];simp only [List.length_cons,List.length_nil];omega
  split at h
  ·cases h
  ·cases h
  ·rename_i o1 m1 he
   obtain ⟨o,m,h1,h2,h3⟩:=dh.up_ok h
   have:=fP by_ t m1 o m h1
   have:=nC he
   rw [h2,List.length_append];omega
theorem qe (s:ByteArray) (a:Nat) (w:World) (hT:bE w) (ha:a<s.size) (hs:s.size<=100000) (hc:s.data.toList.getD a 0=34) :
 Calls Tryz.prog 56 #[.string s,.int .i64 (a:Int)] w (bj (fA 34 (s.data.toList.drop (a+1))) a w):=by
 have HT:=hid hT
 have hz:s.data.toList.length=s.size:=(Lib.size_eq s).symm
 have hx:∀ W:World,(Instr.index 9 (.string s) (.int .i64 (a:Int))).run Tryz.prog W=.ok (.int .u8 34) W:=aK s a (by rw [hz];exact ha) 34 hc.symm
 have HQ:=hid (fun w=>jZ s a 34 w ha (by omega) hc.symm)
 have HTX:=hid (fun (x:ByteArray) (b:Nat) (w:World) (hT:bE w) (hx:x.size<=1000000)=>(show Calls Tryz.prog 89 #[.int .i64 5,.string x,.int .i64 (a:Int),.int .i64 (b:Int)] w (kF (cA false x.data.toList) false x a b w) from fN false x a b w hT hx))
 have HLEN:=hid (show (s.data.toList.drop (a+1)).length<=100000 by rw [List.length_drop];omega)
 have hqa:dm 34 s.data.toList (a+1) []=(dj 34 0 (s.data.toList.drop (a+1))).up [] (a+1):=rfl
 rw [hqa] at HQ
 obtain ⟨x,hxx⟩:∃ x,x=s.data.toList.drop (a+1):=⟨_,rfl⟩
 rw [<- hxx] at HQ HLEN ⊢
 clear hxx hqa hz hc
 have hb:(w.alloc (.cells ag 29)).heap[w.heap.size]? = some (.cells ag 29 (0,0)):=hN w _
 have hb2:((w.alloc (.cells ag 29)).alloc (.cells (tkC 0 (a:Int) ((a:Int)+1) false 0 0 false none 0 0 ⟨#[]⟩ none 0 0) 29)).heap[w.heap.size]? = some (.cells ag 29 (0,0)):=by
  rw [Below.heap_alloc _ _ _ (by simp)];exact hb
 have HB1:=hid hb2
 have HK1:=hid (show K0 w ((w.alloc (.cells ag 29)).alloc (.cells (tkC 0 (a:Int) ((a:Int)+1) false 0 0 false none 0 0 ⟨#[]⟩ none 0 0) 29)) from (kR.alloc _).alloc _)
 clear hb hb2 hT
 go_enter Tryz.func56,Tryz.ntmps56
 go_wp2_with fail
 refine (HQ.out _).mono ?_
 intro e w2 hres
 cases hR:dj 34 0 x with
 | open_=>
  rw [hR] at hres
  obtain ⟨v,rfl,he,k2⟩:=hres
  have HQR:=hid hR
  clear hR
  have HB2:=hid (k2.heap HB1.out (by simp))
  obtain ⟨⟨c0,c1,c2,c3,c4,c5,c6,c7,c8,c9⟩,f0,f1,f2,f3,f4,f5,f6,f7,f8,f9⟩:=ab HB2.out
  have HE:=hid (aG (HK1.out.trans k2) (Nat.le_refl _) HB2.out he (.int .i64 0) (.int .i64 0) (.int .i64 0) (.bool false) (.int .i64 0) (.int .i32 0) (.bool false) (.slice none 0 0) (.string ⟨#[]⟩) (.slice none 0 0))
  have HR:=hid (ab (ac HB2.out (.int .i64 0) (.int .i64 0) (.int .i64 0) (.bool false) (.int .i64 0) (.int .i32 0) (.bool false) (.slice none 0 0) (.string ⟨#[]⟩) (.slice none 0 0))).1
  obtain ⟨A7,B7,what,hv,hb71,hb72⟩:=he
  subst hv
  clear k2 hb71 hb72
  try dsimp only
  go_wp2_with fail
  refine bodyPost_ret (v:=.tuple #[.agg ag,.iface 207 (.pointer (some ⟨B7,0,none⟩))]) ?_ rfl (by unfold fA;rw [HQR.out];exact ⟨_,rfl,HE.out⟩)
  obtain ⟨e0,e1,e2,e3,e4,e5,e6,e7,e8,e9⟩:=HR.out
  simp [results,Tryz.results56,go_sem,e0,e1,e2,e3,e4,e5,e6,e7,e8,e9]
 | bad i=>
  rw [hR] at hres
  obtain ⟨v,rfl,he,k2⟩:=hres
  rw [show ((a+1+i:Nat):Int)=((a+(1+i):Nat):Int) by omega] at he
  have HQR:=hid hR
  clear hR
  have HB2:=hid (k2.heap HB1.out (by simp))
  obtain ⟨⟨c0,c1,c2,c3,c4,c5,c6,c7,c8,c9⟩,f0,f1,f2,f3,f4,f5,f6,f7,f8,f9⟩:=ab HB2.out
  have HE:=hid (aG (HK1.out.trans k2) (Nat.le_refl _) HB2.out he (.int .i64 0) (.int .i64 0) (.int .i64 0) (.bool false) (.int .i64 0) (.int .i32 0) (.bool false) (.slice none 0 0) (.string ⟨#[]⟩) (.slice none 0 0))
  have HR:=hid (ab (ac HB2.out (.int .i64 0) (.int .i64 0) (.int .i64 0) (.bool false) (.int .i64 0) (.int .i32 0) (.bool false) (.slice none 0 0) (.string ⟨#[]⟩) (.slice none 0 0))).1
  obtain ⟨A7,B7,what,hv,hb71,hb72⟩:=he
  subst hv
  clear k2 hb71 hb72
  try dsimp only
  go_wp2_with fail
  refine bodyPost_ret (v:=.tuple #[.agg ag,.iface 207 (.pointer (some ⟨B7,0,none⟩))]) ?_ rfl (by unfold fA;rw [HQR.out];exact ⟨_,rfl,HE.out⟩)
  obtain ⟨e0,e1,e2,e3,e4,e5,e6,e7,e8,e9⟩:=HR.out
  simp [results,Tryz.results56,go_sem,e0,e1,e2,e3,e4,e5,e6,e7,e8,e9]
 | ok out n=>
  rw [hR] at hres
  have hres:e=.returned (.tuple #[.string ⟨([]++out).toArray⟩,.int .i64 ((a+1+n:Nat):Int),.nilIface])/\K0 _ w2:=hres
  rw [List.nil_append] at hres
  obtain ⟨rfl,k2⟩:=hres
  have hle:=jA hR
  have hol:=fP 34 _ _ _ _ hR
  have HB2:=hid (k2.heap HB1.out (by simp))
  have HK2:=hid (HK1.out.trans k2)
  have HXS:=hid (show (⟨out.toArray⟩:ByteArray).size<=1000000 by rw [Lib.size_eq];have:=HLEN.out;simp only;omega)
  have HLE:=hid hle
  have HQR:=hid hR
  clear k2 hR hol hle
  obtain ⟨en,hen⟩:∃ en,en=a+1+n:=⟨_,rfl⟩
  rw [<- hen]
  have HEN:=hid (show en=a+(1+n) by omega)
  clear hen
  obtain ⟨xs,hxs⟩:∃ xs:ByteArray,xs=⟨out.toArray⟩:=⟨_,rfl⟩
  rw [<- hxs] at HXS ⊢
  have HO:=hid (show xs.data.toList=out by rw [hxs])
  clear hxs
  try dsimp only
  go_wp2_with fail
  refine (HTX.out xs en w2 (HT.out.keep HK2.out) HXS.out).mono ?_
  rw [HO.out]
  intro e w3 hres
  cases hR:cA false out with
  | ok d=>
   rw [hR] at hres
   have hres:e=.returned (.tuple #[aU 9 (a:Int) (en:Int) false 5 0 false none 0 0 xs,.nilIface])/\K0 w2 w3:=hres
   obtain ⟨rfl,k3⟩:=hres
   have HB3:=hid (k3.heap HB2.out (by simp))
   have HK3:=hid (HK2.out.trans k3)
   have HRQ:=hid hR
   clear k3 hR
   obtain ⟨⟨c0,c1,c2,c3,c4,c5,c6,c7,c8,c9⟩,f0,f1,f2,f3,f4,f5,f6,f7,f8,f9⟩:=ab HB3.out
   have HE:=hid (af HK3.out (Nat.le_refl _) (.int .i64 9) (.int .i64 (a:Int)) (.int .i64 (en:Int)) (.bool false) (.int .i64 5) (.int .i32 0) (.bool false) (.slice none 0 0) (.string xs) (.slice none 0 0))
   have HR:=hid (ab (ac HB3.out (.int .i64 9) (.int .i64 (a:Int)) (.int .i64 (en:Int)) (.bool false) (.int .i64 5) (.int .i32 0) (.bool false) (.slice none 0 0) (.string xs) (.slice none 0 0))).1
   try dsimp only
   go_wp2_with fail
   refine bodyPost_ret (v:=.tuple #[aU 9 (a:Int) (en:Int) false 5 0 false none 0 0 xs,.nilIface]) ?_ rfl ?_
   ·obtain ⟨e0,e1,e2,e3,e4,e5,e6,e7,e8,e9⟩:=HR.out
    simp [results,Tryz.results56,go_sem,e0,e1,e2,e3,e4,e5,e6,e7,e8,e9]
   ·unfold fA
    rw [HQR.out]
    dsimp only
    rw [show ((34:UInt8) == 124)=false from rfl,HRQ.out]
    refine ⟨5,0,false,none,0,0,xs,by rw [HEN.out];rfl,?_,HE.out⟩
    rw [gy HRQ.out]
    exact ⟨rfl,rfl,rfl,rfl,rfl,rfl,by rw [<- HO.out]⟩
  | error q=>
   rw [hR] at hres
   obtain ⟨v,rfl,he,k3⟩:=hres
   have HB3:=hid (k3.heap HB2.out (by simp))
   have HRQ:=hid hR
   obtain ⟨⟨c0,c1,c2,c3,c4,c5,c6,c7,c8,c9⟩,f0,f1,f2,f3,f4,f5,f6,f7,f8,f9⟩:=ab HB3.out
   have HE:=hid (aG (HK2.out.trans k3) (Nat.le_refl _) HB3.out he (.int .i64 0) (.int .i64 0) (.int .i64 0) (.bool false) (.int .i64 0) (.int .i32 0) (.bool false) (.slice none 0 0) (.string ⟨#[]⟩) (.slice none 0 0))
   have HR:=hid (ab (ac HB3.out (.int .i64 0) (.int .i64 0) (.int .i64 0) (.bool false) (.int .i64 0) (.int .i32 0) (.bool false) (.slice none 0 0) (.string ⟨#[]⟩) (.slice none 0 0))).1
   clear he k3 hR
   try dsimp only
   go_wp2_with fail
   refine bodyPost_ret (v:=.tuple #[.agg ag,v]) ?_ rfl ?_
   ·obtain ⟨e0,e1,e2,e3,e4,e5,e6,e7,e8,e9⟩:=HR.out
    simp [results,Tryz.results56,go_sem,e0,e1,e2,e3,e4,e5,e6,e7,e8,e9]
   ·unfold fA
    rw [HQR.out]
    dsimp only
    rw [show ((34:UInt8) == 124)=false from rfl,HRQ.out]
    exact ⟨v,rfl,HE.out⟩
theorem ob (s:ByteArray) (a:Nat) (w:World) (hT:bE w) (ha:a<s.size) (hs:s.size<=100000) (hc:s.data.toList.getD a 0=124) :
 Calls Tryz.prog 56 #[.string s,.int .i64 (a:Int)] w (bj (fA 124 (s.data.toList.drop (a+1))) a w):=by
 have HT:=hid hT
 have hz:s.data.toList.length=s.size:=(Lib.size_eq s).symm
 have hx:∀ W:World,(Instr.index 9 (.string s) (.int .i64 (a:Int))).run Tryz.prog W=.ok (.int .u8 124) W:=aK s a (by rw [hz];exact ha) 124 hc.symm
 have HQ:=hid (fun w=>jZ s a 124 w ha (by omega) hc.symm)
 have HTX:=hid (fun (x:ByteArray) (b:Nat) (w:World) (hT:bE w) (hx:x.size<=1000000)=>(show Calls Tryz.prog 89 #[.int .i64 6,.string x,.int .i64 (a:Int),.int .i64 (b:Int)] w (kF (cA true x.data.toList) true x a b w) from fN true x a b w hT hx))
 have HLEN:=hid (show (s.data.toList.drop (a+1)).length<=100000 by rw [List.length_drop];omega)
 have hqa:dm 124 s.data.toList (a+1) []=(dj 124 0 (s.data.toList.drop (a+1))).up [] (a+1):=rfl
 rw [hqa] at HQ
 obtain ⟨x,hxx⟩:∃ x,x=s.data.toList.drop (a+1):=⟨_,rfl⟩
 rw [<- hxx] at HQ HLEN ⊢
 clear hxx hqa hz hc
 have hb:(w.alloc (.cells ag 29)).heap[w.heap.size]? = some (.cells ag 29 (0,0)):=hN w _
 have hb2:((w.alloc (.cells ag 29)).alloc (.cells (tkC 0 (a:Int) ((a:Int)+1) false 0 0 false none 0 0 ⟨#[]⟩ none 0 0) 29)).heap[w.heap.size]? = some (.cells ag 29 (0,0)):=by
  rw [Below.heap_alloc _ _ _ (by simp)];exact hb
 have HB1:=hid hb2
 have HK1:=hid (show K0 w ((w.alloc (.cells ag 29)).alloc (.cells (tkC 0 (a:Int) ((a:Int)+1) false 0 0 false none 0 0 ⟨#[]⟩ none 0 0) 29)) from (kR.alloc _).alloc _)
 clear hb hb2 hT
 go_enter Tryz.func56,Tryz.ntmps56
 go_wp2_with fail
 refine (HQ.out _).mono ?_
 intro e w2 hres
 cases hR:dj 124 0 x with
 | open_=>
  rw [hR] at hres
  obtain ⟨v,rfl,he,k2⟩:=hres
  have HQR:=hid hR
  clear hR
  have HB2:=hid (k2.heap HB1.out (by simp))
  obtain ⟨⟨c0,c1,c2,c3,c4,c5,c6,c7,c8,c9⟩,f0,f1,f2,f3,f4,f5,f6,f7,f8,f9⟩:=ab HB2.out
  have HE:=hid (aG (HK1.out.trans k2) (Nat.le_refl _) HB2.out he (.int .i64 0) (.int .i64 0) (.int .i64 0) (.bool false) (.int .i64 0) (.int .i32 0) (.bool false) (.slice none 0 0) (.string ⟨#[]⟩) (.slice none 0 0))
  have HR:=hid (ab (ac HB2.out (.int .i64 0) (.int .i64 0) (.int .i64 0) (.bool false) (.int .i64 0) (.int .i32 0) (.bool false) (.slice none 0 0) (.string ⟨#[]⟩) (.slice none 0 0))).1
  obtain ⟨A7,B7,what,hv,hb71,hb72⟩:=he
  subst hv
  clear k2 hb71 hb72
  try dsimp only
  go_wp2_with fail
  refine bodyPost_ret (v:=.tuple #[.agg ag,.iface 207 (.pointer (some ⟨B7,0,none⟩))]) ?_ rfl (by unfold fA;rw [HQR.out];exact ⟨_,rfl,HE.out⟩)
  obtain ⟨e0,e1,e2,e3,e4,e5,e6,e7,e8,e9⟩:=HR.out
  simp [results,Tryz.results56,go_sem,e0,e1,e2,e3,e4,e5,e6,e7,e8,e9]
 | bad i=>
  rw [hR] at hres
  obtain ⟨v,rfl,he,k2⟩:=hres
  rw [show ((a+1+i:Nat):Int)=((a+(1+i):Nat):Int) by omega] at he
  have HQR:=hid hR
  clear hR
  have HB2:=hid (k2.heap HB1.out (by simp))
  obtain ⟨⟨c0,c1,c2,c3,c4,c5,c6,c7,c8,c9⟩,f0,f1,f2,f3,f4,f5,f6,f7,f8,f9⟩:=ab HB2.out
  have HE:=hid (aG (HK1.out.trans k2) (Nat.le_refl _) HB2.out he (.int .i64 0) (.int .i64 0) (.int .i64 0) (.bool false) (.int .i64 0) (.int .i32 0) (.bool false) (.slice none 0 0) (.string ⟨#[]⟩) (.slice none 0 0))
  have HR:=hid (ab (ac HB2.out (.int .i64 0) (.int .i64 0) (.int .i64 0) (.bool false) (.int .i64 0) (.int .i32 0) (.bool false) (.slice none 0 0) (.string ⟨#[]⟩) (.slice none 0 0))).1
  obtain ⟨A7,B7,what,hv,hb71,hb72⟩:=he
  subst hv
  clear k2 hb71 hb72
  try dsimp only
  go_wp2_with fail
  refine bodyPost_ret (v:=.tuple #[.agg ag,.iface 207 (.pointer (some ⟨B7,0,none⟩))]) ?_ rfl (by unfold fA;rw [HQR.out];exact ⟨_,rfl,HE.out⟩)
  obtain ⟨e0,e1,e2,e3,e4,e5,e6,e7,e8,e9⟩:=HR.out
  simp [results,Tryz.results56,go_sem,e0,e1,e2,e3,e4,e5,e6,e7,e8,e9]
 | ok out n=>
  rw [hR] at hres
  have hres:e=.returned (.tuple #[.string ⟨([]++out).toArray⟩,.int .i64 ((a+1+n:Nat):Int),.nilIface])/\K0 _ w2:=hres
  rw [List.nil_append] at hres
  obtain ⟨rfl,k2⟩:=hres
  have hle:=jA hR
  have hol:=fP 124 _ _ _ _ hR
  have HB2:=hid (k2.heap HB1.out (by simp))
  have HK2:=hid (HK1.out.trans k2)
  have HXS:=hid (show (⟨out.toArray⟩:ByteArray).size<=1000000 by rw [Lib.size_eq];have:=HLEN.out;simp only;omega)
  have HLE:=hid hle
  have HQR:=hid hR
  clear k2 hR hol hle
  obtain ⟨en,hen⟩:∃ en,en=a+1+n:=⟨_,rfl⟩
  rw [<- hen]
  have HEN:=hid (show en=a+(1+n) by omega)
  clear hen
  obtain ⟨xs,hxs⟩:∃ xs:ByteArray,xs=⟨out.toArray⟩:=⟨_,rfl⟩
  rw [<- hxs] at HXS ⊢
  have HO:=hid (show xs.data.toList=out by rw [hxs])
  clear hxs
  try dsimp only
  go_wp2_with fail
  refine (HTX.out xs en w2 (HT.out.keep HK2.out) HXS.out).mono ?_
  rw [HO.out]
  intro e w3 hres
  cases hR:cA true out with
  | ok d=>
   rw [hR] at hres
   have hres:e=.returned (.tuple #[aU 9 (a:Int) (en:Int) false 6 0 false none 0 0 xs,.nilIface])/\K0 w2 w3:=hres
   obtain ⟨rfl,k3⟩:=hres
   have HB3:=hid (k3.heap HB2.out (by simp))
   have HK3:=hid (HK2.out.trans k3)
   have HRQ:=hid hR
   clear k3 hR
   obtain ⟨⟨c0,c1,c2,c3,c4,c5,c6,c7,c8,c9⟩,f0,f1,f2,f3,f4,f5,f6,f7,f8,f9⟩:=ab HB3.out
   have HE:=hid (af HK3.out (Nat.le_refl _) (.int .i64 9) (.int .i64 (a:Int)) (.int .i64 (en:Int)) (.bool false) (.int .i64 6) (.int .i32 0) (.bool false) (.slice none 0 0) (.string xs) (.slice none 0 0))
   have HR:=hid (ab (ac HB3.out (.int .i64 9) (.int .i64 (a:Int)) (.int .i64 (en:Int)) (.bool false) (.int .i64 6) (.int .i32 0) (.bool false) (.slice none 0 0) (.string xs) (.slice none 0 0))).1
   try dsimp only
   go_wp2_with fail
   refine bodyPost_ret (v:=.tuple #[aU 9 (a:Int) (en:Int) false 6 0 false none 0 0 xs,.nilIface]) ?_ rfl ?_
   ·obtain ⟨e0,e1,e2,e3,e4,e5,e6,e7,e8,e9⟩:=HR.out
    simp [results,Tryz.results56,go_sem,e0,e1,e2,e3,e4,e5,e6,e7,e8,e9]
   ·unfold fA
    rw [HQR.out]
    dsimp only
    rw [show ((124:UInt8) == 124)=true from rfl,HRQ.out]
    refine ⟨6,0,false,none,0,0,xs,by rw [HEN.out];rfl,?_,HE.out⟩
    rw [gy HRQ.out]
    exact ⟨rfl,rfl,rfl,rfl,rfl,rfl,by rw [<- HO.out]⟩
  | error q=>
   rw [hR] at hres
   obtain ⟨v,rfl,he,k3⟩:=hres
   have HB3:=hid (k3.heap HB2.out (by simp))
   have HRQ:=hid hR
   obtain ⟨⟨c0,c1,c2,c3,c4,c5,c6,c7,c8,c9⟩,f0,f1,f2,f3,f4,f5,f6,f7,f8,f9⟩:=ab HB3.out
   have HE:=hid (aG (HK2.out.trans k3) (Nat.le_refl _) HB3.out he (.int .i64 0) (.int .i64 0) (.int .i64 0) (.bool false) (.int .i64 0) (.int .i32 0) (.bool false) (.slice none 0 0) (.string ⟨#[]⟩) (.slice none 0 0))
   have HR:=hid (ab (ac HB3.out (.int .i64 0) (.int .i64 0) (.int .i64 0) (.bool false) (.int .i64 0) (.int .i32 0) (.bool false) (.slice none 0 0) (.string ⟨#[]⟩) (.slice none 0 0))).1
   clear he k3 hR
   try dsimp only
   go_wp2_with fail
   refine bodyPost_ret (v:=.tuple #[.agg ag,v]) ?_ rfl ?_
   ·obtain ⟨e0,e1,e2,e3,e4,e5,e6,e7,e8,e9⟩:=HR.out
    simp [results,Tryz.results56,go_sem,e0,e1,e2,e3,e4,e5,e6,e7,e8,e9]
   ·unfold fA
    rw [HQR.out]
    dsimp only
    rw [show ((124:UInt8) == 124)=true from rfl,HRQ.out]
    exact ⟨v,rfl,HE.out⟩
theorem qd (s:ByteArray) (a:Nat) (w:World) (hT:bE w) (ha:a<s.size) (hs:s.size<=100000) (hb:bO (s.data.toList.getD a 0)=false) (h59:s.data.toList.getD a 0 ≠ 59) :
 Calls Tryz.prog 56 #[.string s,.int .i64 (a:Int)] w (bj (jr (s.data.toList.drop a)) a w):=by
 have hz:s.data.toList.length=s.size:=(Lib.size_eq s).symm
 have hs2:s.size<=1000000:=by omega
 have hd:=ap (l:=s.data.toList) (i:=a) (by omega)
 have hh:∀ x,(s.data.toList.drop (a+1)).head? = some x ↔ a+1<s.size/\s.data.toList.getD (a+1) 0=x:=fun x=>by rw [fF,hz]
 obtain ⟨c,hc⟩:∃ c,c=s.data.toList.getD a 0:=⟨_,rfl⟩
 rw [hd,jr]
 rw [<- hc] at hb h59 ⊢
 by_cases h1:c=40\/c=91
 ·rw [if_pos h1]
  rcases h1 with rfl | rfl
  ·exact wP s a w hT ha hs2 hc.symm
  ·exact wN s a w hT ha hs2 hc.symm
 rw [if_neg h1]
 by_cases h2:c=41\/c=93
 ·rw [if_pos h2]
  rcases h2 with rfl | rfl
  ·exact wO s a w hT ha hs2 hc.symm
  ·exact wM s a w hT ha hs2 hc.symm
 rw [if_neg h2]
 by_cases h3:c=39
 ·rw [if_pos h3];subst h3;exact wQ s a w hT ha hs2 hc.symm
 rw [if_neg h3]
 by_cases h4:c=96
 ·rw [if_pos h4];subst h4;exact wL s a w hT ha hs2 hc.symm
 rw [if_neg h4]
 by_cases h5:c=44
 ·rw [if_pos h5];subst h5
  by_cases g:(s.data.toList.drop (a+1)).head? = some 64
  ·rw [if_pos g];obtain ⟨g1,g2⟩:=(hh 64).1 g;exact ve s a w hT ha hs2 hc.symm g1 g2
  ·rw [if_neg g];exact vf s a w hT ha hs2 hc.symm (fun h=>g ((hh 64).2 h))
 rw [if_neg h5]
 by_cases h6:c=34\/c=124
 ·rw [if_pos h6]
  rcases h6 with rfl | rfl
  ·exact qe s a w hT ha hs hc.symm
  ·exact ob s a w hT ha hs hc.symm
 rw [if_neg h6]
 by_cases h7:c=35/\(s.data.toList.drop (a+1)).head? = some 40
 ·rw [if_pos h7];obtain ⟨rfl,g⟩:=h7;obtain ⟨g1,g2⟩:=(hh 40).1 g;exact vd s a w hT ha hs2 hc.symm g1 g2
 rw [if_neg h7]
 by_cases h8:c=35/\(s.data.toList.drop (a+1)).head? = some 92
 ·rw [if_pos h8];obtain ⟨rfl,g⟩:=h8;obtain ⟨g1,g2⟩:=(hh 92).1 g
  rw [List.drop_drop,show a+1+1=a+2 from rfl]
  exact sm s a w hT ha hs2 hc.symm g1 g2
 rw [if_neg h8]
 have hw:bh c=true:=by
  unfold bh aX
  rw [hb]
  simp only [not_or] at h1 h2 h6
  simp [h1,h2,h3,h4,h5,h6,h59]
 have:=sk s a w hT ha hs2 (by rw [<- hc];simp only [not_or] at h1 h2 h6;simp [h1,h2,h3,h4,h5,h6]) (by rw [<- hc];rintro ⟨g1,g2,g3⟩;exact h7 ⟨g2,(hh 40).2 ⟨g1,g3⟩⟩) (by rw [<- hc];rintro ⟨g1,g2,g3⟩;exact h8 ⟨g2,(hh 92).2 ⟨g1,g3⟩⟩) (by rw [hd,<- hc,List.takeWhile_cons,if_pos hw];simp)
 rw [hd,<- hc] at this
 exact this
def mq (r:Except (Nat × Nat) (Nat × Tk)) (w:World) (e:Ending) (w':World):Prop:=
 match r with
 | .ok (j,t)=>∃ (k c:Int) (neg:Bool) (A:Option Addr) (n cp:Nat) (x:ByteArray),e=.returned (.tuple #[aU t.kind j ((j+t.len:Nat):Int) t.sq k c neg A n cp x,.nilIface])/\dY w' t.d k c neg A n cp x/\K0 w w'
 | .error (p,c)=>∃ v,e=.returned (.tuple #[.agg ag,v])/\dZ w' v (p:Int) c/\K0 w w'
theorem gZ:∀ (x:List UInt8) (n m:Nat),n<=x.length->aV n x=.ok m->m<x.length->bO (x.getD m 0)=false/\x.getD m 0 ≠ 59
 | [],n,m,_,_,h=>by simp at h
 | c :: t,n+1,m,hn,h,hm=>by
  rw [aV] at h
  cases hs:aV n t with
  | error e=>rw [hs] at h;cases h
  | ok k=>
   rw [hs] at h
   injection h with h
   have:=gZ t n k (by simpa using hn) hs (by simp at hm;omega)
   rw [<- h,List.getD_cons_succ]
   exact this
 | c :: t,0,m,hn,h,hm=>by
  rw [aV] at h
  have key:∀ k,k<=t.length->(match aV k t with | .ok m=>Except.ok (m+1) | .error m=>.error (m+1))=(Except.ok m:Except Nat Nat)->bO ((c :: t).getD m 0)=false/\(c :: t).getD m 0 ≠ 59:=by
   intro k hk h
   cases hs:aV k t with
   | error e=>rw [hs] at h;cases h
   | ok j=>
    rw [hs] at h
    injection h with h
    have:=gZ t k j hk hs (by simp at hm;omega)
    rw [<- h,List.getD_cons_succ]
    exact this
  split at h
  ·exact key 0 (by omega) h
  split at h
  ·exact key _ (List.takeWhile_sublist _).length_le h
  split at h
  ·split at h
   ·cases h
   ·rename_i g k hk
    have:=iJ _ _ _ hk
    rw [List.length_drop] at this
    exact key _ (by omega) h
  ·rename_i g1 g2 g3
   injection h with h
   subst h
   exact ⟨by simpa using g1,g2⟩
theorem im {l:List UInt8} {a j:Nat} (ha:a<=l.length) (h:aC l a=.ok j):a<=j/\j<=l.length/\(j<l.length->bO (l.getD j 0)=false/\l.getD j 0 ≠ 59):=by
 unfold aC at h
 cases hq:aV 0 (l.drop a) with
 | error p=>rw [hq] at h;cases h
 | ok m=>
  rw [hq] at h
  injection h with h
  have hm:=pJ _ _ _ (by omega) hq
  rw [List.length_drop] at hm
  refine ⟨by omega,by omega,fun hj=>?_⟩
  have:=gZ _ _ _ (by omega) hq (by rw [List.length_drop];omega)
  rw [dC,h] at this
  exact this
theorem ua (s:ByteArray) (a p:Nat) (w:World) (_hT:bE w) (ha:a<=s.size) (hs:s.size<=100000) (hsk:aC s.data.toList a=.error p) :
 Calls Tryz.prog 34 #[.string s,.int .i64 (a:Int)] w (mq (.error (p,11)) w):=by
 have HSK:=hid (fun w=>jN s a w ha (by omega))
 rw [hsk] at HSK
 have hb:(w.alloc (.cells ag 29)).heap[w.heap.size]? = some (.cells ag 29 (0,0)):=hN w _
 have HB1:=hid hb
 have HK1:=hid (show K0 w (w.alloc (.cells ag 29)) from kR.alloc _)
 clear hb _hT hsk
 go_enter Tryz.func34,Tryz.ntmps34
 go_wp2_with fail
 refine (HSK.out _).mono ?_
 rintro e w2 ⟨v,rfl,he,k2⟩
 have HB2:=hid (k2.heap HB1.out (by simp))
 obtain ⟨⟨c0,c1,c2,c3,c4,c5,c6,c7,c8,c9⟩,f0,f1,f2,f3,f4,f5,f6,f7,f8,f9⟩:=ab HB2.out
 have HE:=hid (aG (HK1.out.trans k2) (Nat.le_refl _) HB2.out he (.int .i64 0) (.int .i64 0) (.int .i64 0) (.bool false) (.int .i64 0) (.int .i32 0) (.bool false) (.slice none 0 0) (.string ⟨#[]⟩) (.slice none 0 0))
 have HR:=hid (ab (ac HB2.out (.int .i64 0) (.int .i64 0) (.int .i64 0) (.bool false) (.int .i64 0) (.int .i32 0) (.bool false) (.slice none 0 0) (.string ⟨#[]⟩) (.slice none 0 0))).1
 obtain ⟨A7,B7,what,hv,hb71,hb72⟩:=he
 subst hv
 clear k2 hb71 hb72
 try dsimp only
 go_wp2_with fail
 refine bodyPost_ret (v:=.tuple #[.agg ag,.iface 207 (.pointer (some ⟨B7,0,none⟩))]) ?_ rfl ⟨_,rfl,HE.out⟩
 obtain ⟨e0,e1,e2,e3,e4,e5,e6,e7,e8,e9⟩:=HR.out
 simp [results,Tryz.results34,go_sem,e0,e1,e2,e3,e4,e5,e6,e7,e8,e9]
theorem ub (s:ByteArray) (a:Nat) (w:World) (_hT:bE w) (ha:a<=s.size) (hs:s.size<=100000) (hsk:aC s.data.toList a=.ok s.size) :
 Calls Tryz.prog 34 #[.string s,.int .i64 (a:Int)] w (mq (.ok (s.size,⟨0,0,false,.no⟩)) w):=by
 have HSK:=hid (fun w=>jN s a w ha (by omega))
 rw [hsk] at HSK
 have hb:(w.alloc (.cells ag 29)).heap[w.heap.size]? = some (.cells ag 29 (0,0)):=hN w _
 have HK1:=hid (show K0 w (w.alloc (.cells ag 29)) from kR.alloc _)
 clear _hT hsk hb
 go_enter Tryz.func34,Tryz.ntmps34
 go_wp2_with fail
 refine (HSK.out _).mono ?_
 rintro e w2 ⟨rfl,rfl⟩
 try dsimp only
 go_wp2_with fail
 refine bodyPost_ret (v:=.tuple #[aU 0 (s.size:Int) ((s.size+0:Nat):Int) false 0 0 false none 0 0 ⟨#[]⟩,.nilIface]) (by simp [results,Tryz.results34,go_sem]) rfl ?_
 exact ⟨0,0,false,none,0,0,⟨#[]⟩,rfl,⟨rfl,rfl,rfl,rfl,rfl,rfl,rfl⟩,kR.alloc _⟩
theorem t8 (s:ByteArray) (a j:Nat) (w:World) (hT:bE w) (ha:a<=s.size) (hs:s.size<=100000) (hsk:aC s.data.toList a=.ok j) (hj:j<s.size) (hb:bO (s.data.toList.getD j 0)=false) (h59:s.data.toList.getD j 0 ≠ 59) :
 Calls Tryz.prog 34 #[.string s,.int .i64 (a:Int)] w (bj (jr (s.data.toList.drop j)) j w):=by
 have HT:=hid hT
 have HSK:=hid (fun w=>jN s a w ha (by omega))
 rw [hsk] at HSK
 have HTK:=hid (fun w hT=>qd s j w hT hj hs hb h59)
 obtain ⟨R,hRR⟩:∃ R,R=jr (s.data.toList.drop j):=⟨_,rfl⟩
 rw [<- hRR] at HTK ⊢
 have hb:(w.alloc (.cells ag 29)).heap[w.heap.size]? = some (.cells ag 29 (0,0)):=hN w _
 have HB1:=hid hb
 have HK1:=hid (show K0 w (w.alloc (.cells ag 29)) from kR.alloc _)
 have e1:((j:Int) == (s.size:Int))=false:=by simp;omega
 clear hb hT hsk hRR h59
 go_enter Tryz.func34,Tryz.ntmps34
 go_wp2_with fail
 refine (HSK.out _).mono ?_
 rintro e w2 ⟨rfl,rfl⟩
 try dsimp only
 go_wp2_with fail
 refine (HTK.out _ (HT.out.keep HK1.out)).mono ?_
 intro e w2 hres
 cases hR:R with
 | ok t=>
  rw [hR] at hres
  obtain ⟨k,c,neg,A,n,cp,x,he,hl,k2⟩:=hres
  obtain ⟨tk,htk⟩:∃ z:Int,z=(t.kind:Int):=⟨_,rfl⟩
  obtain ⟨te,hte⟩:∃ z:Int,z=((j+t.len:Nat):Int):=⟨_,rfl⟩
  obtain ⟨ts,hts⟩:∃ z:Bool,z=t.sq:=⟨_,rfl⟩
  rw [<- htk,<- hte,<- hts] at he
  subst he
  have HEND:=hid (show aU tk (j:Int) te ts k c neg A n cp x=aU t.kind (j:Int) ((j+t.len:Nat):Int) t.sq k c neg A n cp x by rw [htk,hte,hts])
  have HB2:=hid (k2.heap HB1.out (by simp))
  have HK2:=hid (HK1.out.trans k2)
  have HLF:=hid hl
  obtain ⟨⟨c0,c1,c2,c3,c4,c5,c6,c7,c8,c9⟩,f0,f1,f2,f3,f4,f5,f6,f7,f8,f9⟩:=ab HB2.out
  have HE:=hid (af HK2.out (Nat.le_refl _) (.int .i64 tk) (.int .i64 (j:Int)) (.int .i64 te) (.bool ts) (.int .i64 k) (.int .i32 c) (.bool neg) (.slice A n cp) (.string x) (.slice none 0 0))
  have HR:=hid (ab (ac HB2.out (.int .i64 tk) (.int .i64 (j:Int)) (.int .i64 te) (.bool ts) (.int .i64 k) (.int .i32 c) (.bool neg) (.slice A n cp) (.string x) (.slice none 0 0))).1
  have HRQ:=hid hR
  clear hl k2 htk hte hts hR
  try dsimp only
  go_wp2_with fail
  refine bodyPost_ret (v:=.tuple #[aU tk (j:Int) te ts k c neg A n cp x,.nilIface]) ?_ rfl ?_
  ·obtain ⟨e0,e1,e2,e3,e4,e5,e6,e7,e8,e9⟩:=HR.out
   simp [results,Tryz.results34,go_sem,e0,e1,e2,e3,e4,e5,e6,e7,e8,e9]
  ·rw [HRQ.out]
   exact ⟨k,c,neg,A,n,cp,x,by rw [HEND.out],fC HLF.out HB2.out (ba _ _ _ _ _ _ _ _ _ _ _ _),HE.out⟩
 | error q=>
  obtain ⟨p,c⟩:=q
  rw [hR] at hres
  obtain ⟨v,rfl,he,k2⟩:=hres
  have HB2:=hid (k2.heap HB1.out (by simp))
  obtain ⟨⟨c0,c1,c2,c3,c4,c5,c6,c7,c8,c9⟩,f0,f1,f2,f3,f4,f5,f6,f7,f8,f9⟩:=ab HB2.out
  have HE:=hid (aG (HK1.out.trans k2) (Nat.le_refl _) HB2.out he (.int .i64 0) (.int .i64 0) (.int .i64 0) (.bool false) (.int .i64 0) (.int .i32 0) (.bool false) (.slice none 0 0) (.string ⟨#[]⟩) (.slice none 0 0))
  have HR:=hid (ab (ac HB2.out (.int .i64 0) (.int .i64 0) (.int .i64 0) (.bool false) (.int .i64 0) (.int .i32 0) (.bool false) (.slice none 0 0) (.string ⟨#[]⟩) (.slice none 0 0))).1
  have HRQ:=hid hR
  clear he k2 hR
  try dsimp only
  go_wp2_with fail
  refine bodyPost_ret (v:=.tuple #[.agg ag,v]) ?_ rfl (by rw [HRQ.out];exact ⟨v,rfl,HE.out⟩)
  obtain ⟨e0,e1,e2,e3,e4,e5,e6,e7,e8,e9⟩:=HR.out
  simp [results,Tryz.results34,go_sem,e0,e1,e2,e3,e4,e5,e6,e7,e8,e9]
theorem ns (s:ByteArray) (a:Nat) (w:World) (hT:bE w) (ha:a<=s.size) (hs:s.size<=100000) :
 Calls Tryz.prog 34 #[.string s,.int .i64 (a:Int)] w (mq (iE s.data.toList a) w):=by
 have hz:s.data.toList.length=s.size:=(Lib.size_eq s).symm
 unfold iE
 cases hsk:aC s.data.toList a with
 | error p=>exact ua s a p w hT ha hs hsk
 | ok j=>
  obtain ⟨h1,h2,h3⟩:=im (by omega) hsk
  dsimp only
  by_cases hj:j=s.data.toList.length
  ·rw [if_pos hj,hj,hz]
   exact ub s a w hT ha hs (by rw [hsk,hj,hz])
  ·rw [if_neg hj]
   have:=t8 s a j w hT ha hs hsk (by omega) (h3 (by omega)).1 (h3 (by omega)).2
   cases hk:jr (s.data.toList.drop j) with
   | ok t=>rw [hk] at this;exact this
   | error q=>obtain ⟨p,c⟩:=q;rw [hk] at this;exact this
end Go.Proofs.YtonnikipeokkaaaGreatDoor
