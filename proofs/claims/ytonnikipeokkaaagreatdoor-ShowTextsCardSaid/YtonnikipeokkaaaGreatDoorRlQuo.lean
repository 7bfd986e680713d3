/-
  The document's lex: quoted.
-/
import Derived.Test.YtonnikipeokkaaaGreatDoorPaRl
namespace Go.Proofs.YtonnikipeokkaaaGreatDoor
set_option maxRecDepth 100000
set_option maxHeartbeats 16000000
open Go.Lib (hid)
open Go.RowKit Go.Lib
abbrev yf:Array Value:=#[.slice none 0 0,.int .i64 0,.int .i64 0,.int .i64 0]
theorem bC {w:World} {B:Nat} {x0 x1 x2 x3:Value} (h:w.heap[B]? = some (.cells #[x0,x1,x2,x3] 72 (0,0))) :
 (w.cell? ⟨B,0,none⟩=some x0/\w.cell? ⟨B,1,none⟩=some x1/\w.cell? ⟨B,2,none⟩=some x2/\w.cell? ⟨B,3,none⟩=some x3)/\(w.frozen? ⟨B,0,none⟩=false/\w.frozen? ⟨B,1,none⟩=false/\w.frozen? ⟨B,2,none⟩=false/\w.frozen? ⟨B,3,none⟩=false):=by
 refine ⟨⟨?_,?_,?_,?_⟩,?_,?_,?_,?_⟩
 all_goals first
  | (rw [cell_of_row w _ _ _ _ _ h];rfl)
  | simp [World.frozen?,h]
abbrev jR (w:World) (B:Nat) (y0 y1 y2 y3:Value):World:=(((w.setCell ⟨B,0,none⟩ y0).setCell ⟨B,1,none⟩ y1).setCell ⟨B,2,none⟩ y2).setCell ⟨B,3,none⟩ y3
theorem dw {w:World} {B:Nat} {x0 x1 x2 x3:Value} (h:w.heap[B]? = some (.cells #[x0,x1,x2,x3] 72 (0,0))) (y0 y1 y2 y3:Value):(jR w B y0 y1 y2 y3).heap[B]? = some (.cells #[y0,y1,y2,y3] 72 (0,0)):=by
 simp [jR,World.setCell,Array.getElem?_modify,h]
theorem jg (w:World) (B:Nat) (y0 y1 y2 y3:Value):ah (fun b=>b=B) w (jR w B y0 y1 y2 y3):=by
 refine ah.setCell (S:=fun b=>b=B) (p:=⟨B,3,none⟩) ?_ (.inl rfl) _
 refine ah.setCell (S:=fun b=>b=B) (p:=⟨B,2,none⟩) ?_ (.inl rfl) _
 refine ah.setCell (S:=fun b=>b=B) (p:=⟨B,1,none⟩) ?_ (.inl rfl) _
 refine ah.setCell (S:=fun b=>b=B) (p:=⟨B,0,none⟩) ?_ (.inl rfl) _
 exact kR
theorem cX {w w1:World} {B:Nat} (k:K0 w w1) (hB:w.heap.size<=B) (y0 y1 y2 y3:Value):K0 w (jR w1 B y0 y1 y2 y3):=
 k.into (jg w1 B y0 y1 y2 y3) (by rintro i rfl;exact hB)
def dz (w:World) (base:Nat) (A:Option Addr) (n c:Nat) (l:List UInt8):Prop:=w.ownsRow base 5 1 (.slice A n c) n (Lib.byteCells l)
theorem dz.len {w:World} {base n c:Nat} {A:Option Addr} {l:List UInt8} (h:dz w base A n c l):n=l.length:=by have:=h.1;rw [ep] at this;omega
theorem dz.keep {w w':World} {base n c:Nat} {A:Option Addr} {l:List UInt8} (h:dz w base A n c l) {S:Nat->Prop} (k:ah S w w') (hS:∀ b,S b->b<base):dz w' base A n c l:=by
 refine ⟨h.1,?_⟩
 rcases h.2 with hn | ⟨g,cap,cur,hv,hg,hh,rest⟩
 ·exact .inl hn
 ·exact .inr ⟨g,cap,cur,hv,hg,k.heap hh (fun hs=>by have:=hS g hs;omega),rest⟩
structure uU (w:World) (by_:UInt8) (l:List UInt8) (R:dh) (k:Nat) (out:List UInt8) (A:Option Addr) (n c:Nat) (wr:World):Prop where
 own:dz wr (w.heap.size+1) A n c out
 K:K0 w wr
 b:wr.heap[w.heap.size]? = some (.cells yf 72 (0,0))
 r:dm by_ l k out=R
 len:n<=4 * k
theorem uU.more {w wr w2 w3:World} {by_:UInt8} {l:List UInt8} {R:dh} {k k':Nat} {out o:List UInt8} {A:Option Addr} {n c m:Nat} (h:uU w by_ l R k out A n c wr) (K2:K0 wr w2) {v':Value}
 (hown:w3.ownsRow (w.heap.size+1) 5 1 v' (n+m) (Lib.byteCells out++Lib.byteCells o)) (hgrow:w2.grownBy w3 (Value.slice A n c).ownBlock) (hr:dm by_ l k' (out++o)=R) (hl:n+m<=4 * k') :
 ∃ A' c',v'=.slice A' (n+m) c'/\uU w by_ l R k' (out++o) A' (n+m) c' w3:=by
 have hcells:Lib.byteCells out++Lib.byteCells o=Lib.byteCells (out++o):=by unfold Lib.byteCells;simp
 rw [hcells] at hown
 have hrow:∀ b,(Value.slice A n c).ownBlock=some b->w.heap.size+1<=b:=by
  intro b hb
  rcases h.own.2 with ⟨e,_⟩ | ⟨g,cap,cur,e,hg,_⟩
  ·injection e with e1;subst e1;simp [Value.ownBlock] at hb
  ·injection e with e1;subst e1
   simp [Value.ownBlock] at hb
   subst hb
   exact hg
 have hv:∃ A' c',v'=.slice A' (n+m) c':=by
  rcases hown.2 with ⟨rfl,h0⟩ | ⟨g,cap,cur,rfl,_⟩
  ·rw [h0];exact ⟨_,_,rfl⟩
  ·exact ⟨_,_,rfl⟩
 obtain ⟨A',c',rfl⟩:=hv
 refine ⟨A',c',rfl,hown,(h.K.trans K2).grown hgrow (fun b hb=>.inr (by have:=hrow b hb;omega)),?_,hr,hl⟩
 have hb2:=K2.heap h.b (by simp)
 rw [hgrow.block w.heap.size (az hb2) (fun e=>by have:=hrow _ e.symm;omega)]
 exact hb2
def kH (r:dh) (a:Nat) (w:World) (e:Ending) (w':World):Prop:=
 match r with
 | .ok out n=>∃ A m c,e=.returned (.agg #[.slice A m c,.int .i64 (n:Int),.int .i64 0,.int .i64 0])/\dz w' (w.heap.size+1) A m c out/\K0 w w'
 | .open_=>e=.returned (.agg #[.slice none 0 0,.int .i64 0,.int .i64 (a:Int),.int .i64 11])/\K0 w w'
 | .bad i=>e=.returned (.agg #[.slice none 0 0,.int .i64 0,.int .i64 (i:Int),.int .i64 9])/\K0 w w'
theorem xh:(Tryz.prog.info? 5).map (fun i=>(i.zero,i.size,i.bytes))=some (some (.int .u8 0),1,1):=by kernel_rfl
theorem hG (wr:World) (x:Int):∀ j u,[Value.int .u8 x][j]? = some u->(wr.alloc (.cells #[.int .u8 x] 5)).cell? ((⟨wr.heap.size,0,none⟩:Addr).add j)=some u:=by
 intro j u hu
 match j with
 | 0=>
  simp at hu
  subst hu
  rw [Addr.add_mid,cell_of_row _ _ _ _ _ _ (hN wr _)]
  rfl
 | j+1=>simp at hu
theorem wV (wr:World) (l:List UInt8):∀ j u,(Lib.byteCells l)[j]? = some u->(wr.alloc (.cells (Lib.byteCells l).toArray 5)).cell? ((⟨wr.heap.size,0,none⟩:Addr).add j)=some u:=by
 intro j u hu
 rw [Addr.add_mid,cell_of_row _ _ _ _ _ _ (hN wr _)]
 rw [List.getElem?_toArray,Nat.zero_add]
 exact hu
theorem ur {by_:UInt8} {l:List UInt8} {i m:Nat} (h1:i+1<l.length) (hx:l.getD (i+1) 0=120) (hm:i+2<=m) (_hml:m<=l.length) (hmi:m<=i+9) (hn:∀ j,i+2<=j->j<m->l.getD j 0 ≠ 59) (he:m=l.length\/(m=i+9/\l.getD m 0 ≠ 59)):bN by_ (l.drop (i+1))=.bad:=by
 rw [ap h1,hx]
 obtain ⟨a,b⟩:=pk by_ (l.drop (i+1+1))
 cases hs:eT (l.drop (i+1+1)) with
 | none=>exact a hs
 | some q=>
  refine (b q hs).1 ?_
  have hq:=jz hs
  rw [List.length_drop] at hq
  have h59:l.getD (i+2+q) 0=59:=by
   have:=ia (l.drop (i+1+1))
   have e1:((l.drop (i+1+1)).takeWhile (fun b=>b != 59)).length=q:=by
    unfold eT at hs
    split at hs
    ·injection hs
    ·cases hs
   rcases lL (fun b=>b != 59) (l.drop (i+1+1)) with h2 | ⟨d,t,h2,g⟩
   ·rw [e1] at h2;have:=congrArg List.length h2;rw [List.length_drop,List.length_drop] at this;simp at this;omega
   ·rw [e1,List.drop_drop] at h2
    have h3:(l.drop (i+1+1+q)).getD 0 0=d:=by rw [h2];rfl
    rw [dC] at h3
    rw [show i+2+q=i+1+1+q+0 by omega,h3]
    simpa using g
  have hmq:m<=i+2+q:=by
   rcases Nat.lt_or_ge (i+2+q) m with h | h
   ·exact absurd h59 (hn _ (by omega) h)
   ·exact h
  unfold df
  rw [if_pos]
  right
  rw [List.length_take,List.length_drop]
  rcases he with he | ⟨he,he2⟩
  ·omega
  ·have:m ≠ i+2+q:=fun e=>he2 (by rw [e];exact h59)
   omega
theorem vX {by_:UInt8} {l:List UInt8} {i m:Nat} (h1:i+1<l.length) (hx:l.getD (i+1) 0=120) (hm:i+2<=m) (hml:m<l.length) (hn:∀ j,i+2<=j->j<m->l.getD j 0 ≠ 59) (he:l.getD m 0=59) :
 (df ((l.drop (i+2)).take (m - (i+2)))=none->bN by_ (l.drop (i+1))=.bad) /\ ∀ r,df ((l.drop (i+2)).take (m - (i+2)))=some r->bN by_ (l.drop (i+1))=.ok (aI r) (m - (i+2)+2):=by
 rw [ap h1,hx]
 obtain ⟨_,b⟩:=pk by_ (l.drop (i+1+1))
 have hs:eT (l.drop (i+1+1))=some (m - (i+2)):=by
  have e1:((l.drop (i+1+1)).takeWhile (fun b=>b != 59)).length=m - (i+2):=by
   refine mM _ _ _ (by rw [List.length_drop];omega) (fun j hj=>?_) (.inr ?_)
   ·rw [dC];simpa using hn (i+1+1+j) (by omega) (by omega)
   ·rw [dC,show i+1+1+(m - (i+2))=m by omega,he];rfl
  unfold eT
  rw [e1,if_pos (by rw [List.length_drop];omega)]
 exact b _ hs
theorem jk (s:ByteArray) (a:Nat) (by_:UInt8) (w:World) (ha:a<s.size) (hs:s.size<=100000) (hby:by_=s.data.toList.getD a 0) :
 Calls Tryz.prog 38 #[.string s,.int .i64 (a:Int)] w (kH (dm by_ s.data.toList (a+1) []) a w):=by
 have hz:s.data.toList.length=s.size:=(Lib.size_eq s).symm
 have hx:=aK s a (by rw [hz];exact ha) by_ hby
 have HAT:=hid (fun (k:Nat) (hk:k<s.size)=>aK s k (by rw [hz];exact hk) _ rfl)
 have HEXT:=hid (fun (p q:Nat)=>show (s.extract p q).data.toList=(s.data.toList.drop p).take (q - p) from Lib.extract_data s p q)
 obtain ⟨l,hl⟩:∃ l,l=s.data.toList:=⟨_,rfl⟩
 rw [<- hl] at hz HAT HEXT ⊢
 have HZ:=hid hz
 obtain ⟨R,hR⟩:∃ R,R=dm by_ l (a+1) []:=⟨_,rfl⟩
 rw [<- hR]
 have HS0:=hid (show uU w by_ l R (a+1) [] none 0 0 (w.alloc (.cells yf 72)) from ⟨World.ownsRow_nil _ _ _ _,kR.alloc _,hN w _,hR.symm,by omega⟩)
 clear hl hz hby hR
 obtain ⟨i5,h5,hz0,hz1,hz2⟩:=info_parts xh
 go_enter Tryz.func38,Tryz.ntmps38
 go_wp2_with fail
 generalize hB:w.heap.size=B
 have HB:=hid hB
 clear hB
 go_loopw [6,7] (fun v iv wr=>∃ (k:Nat) (out:List UInt8) (A:Option Addr) (n c:Nat),k<=s.size/\v=.slice A n c/\iv=.int .i64 (k:Int)/\uU w by_ l R k out A n c wr) (fun _ iv _=>s.size - (intOf iv).toNat)
 case atStart=>exact ⟨a+1,[],none,0,0,by omega,rfl,by go_num,HS0.out⟩
 case round=>
  clear HS0
  obtain ⟨k,out,A,n,c,hk,rfl,rfl,hst⟩:=hrel
  have HS:=hid hst
  clear hst
  by_cases hlt:k<s.size
  ·have hxk:=HAT.out k hlt
   have h0:decide ((k:Int)<(s.size:Int))=true:=dT (by omega)
   obtain ⟨b,hb⟩:∃ b,b=l.getD k 0:=⟨_,rfl⟩
   rw [<- hb] at hxk
   have HC:=hid hb
   clear hb
   have eby:((b.toNat:Int) == (by_.toNat:Int))=(b == by_):=aY b by_
   cases hcb:b == by_ with
   | true=>
    rw [hcb] at eby
    have hcc:b=by_:=by simpa using hcb
    have HCC:=hid hcc
    clear hcb hcc
    have hb4:=HS.out.b
    rw [HB.out] at hb4
    obtain ⟨⟨c0,c1,c2,c3⟩,f0,f1,f2,f3⟩:=bC hb4
    have HE:=hid (cX (B:=B) HS.out.K (Nat.le_of_eq HB.out) (.slice A n c) (.int .i64 ((k:Int)+1)) (.int .i64 0) (.int .i64 0))
    have HR:=hid (bC (dw hb4 (.slice A n c) (.int .i64 ((k:Int)+1)) (.int .i64 0) (.int .i64 0))).1
    have HOW:=hid (show dz (jR wr B (.slice A n c) (.int .i64 ((k:Int)+1)) (.int .i64 0) (.int .i64 0)) (w.heap.size+1) A n c out from HS.out.own.keep (jg wr B _ _ _ _) (by rintro b rfl;have:=HB.out;omega))
    clear hb4
    go_wp2_with fail
    refine bodyPost_ret (v:=.agg #[.slice A n c,.int .i64 ((k:Int)+1),.int .i64 0,.int .i64 0]) ?_ rfl ?_
    ·obtain ⟨e0,e1,e2,e3⟩:=HR.out
     simp [results,Tryz.results38,go_sem,e0,e1,e2,e3]
    ·rw [<- HS.out.r,jm (by rw [HZ.out];exact hlt) (by rw [<- HC.out];exact HCC.out)]
     exact ⟨A,n,c,by rw [show ((k:Int)+1)=((k+1:Nat):Int) from rfl],HOW.out,HE.out⟩
   | false=>
    rw [hcb] at eby
    have hcc:b ≠ by_:=by simpa using hcb
    have HCC:=hid hcc
    clear hcb hcc
    have e92:((b.toNat:Int) != 92)=(b != 92):=by unfold bne;rw [show ((b.toNat:Int) == 92)=(b == 92) from aY b 92]
    cases h92:b != 92 with
    | true=>
     rw [h92] at e92
     have hc92:b ≠ 92:=by simpa using h92
     have H92:=hid hc92
     clear h92 hc92
     have KW:K0 wr (wr.alloc (.cells #[.int .u8 (b.toNat:Int)] 5)):=kR.alloc _
     have HOWN:=hid (show dz (wr.alloc (.cells #[.int .u8 (b.toNat:Int)] 5)) (w.heap.size+1) A n c out from HS.out.own.keep KW (fun _ h=>h.elim))
     have HNEW:=hid (hG wr (b.toNat:Int))
     have hbs:w.heap.size+1<=(wr.alloc (.cells #[.int .u8 (b.toNat:Int)] 5)).heap.size:=by have:=az HS.out.b;have:=KW.size;omega
     have HBS:=hid hbs
     have HKW:=hid KW
     have hln:=HS.out.len
     clear KW hbs
     go_wp2_with (at_builtin;refine wpList_append_own _ rfl (.tmp 34) (.tmp 38) 70 rfl (w.heap.size+1) 5 i5 (.int .u8 0) 1 1 Tryz.underlying70 h5 hz0 hz1 hz2 rfl (by decide) _ _ _ rfl HOWN.out ⟨wr.heap.size,0,none⟩ 1 1 [.int .u8 (b.toNat:Int)] rfl rfl HNEW.out ?a1 ?a2 ?a3 HBS.out ?_)
     case a1=>first | rfl | (intro u hu;simp at hu;subst hu;rfl)
     case a2=>unfold maxLen;omega
     case a3=>omega
     intro v' w6 hown hgrow _
     obtain ⟨A2,c2,rfl,HM⟩:=HS.out.more (o:=[b]) (k':=k+1) (m:=1) HKW.out hown hgrow (by rw [HC.out];exact (jl (by rw [HZ.out];exact hlt) (by rw [<- HC.out];exact HCC.out) (by rw [<- HC.out];exact H92.out)).symm.trans HS.out.r) (by omega)
     have HMM:=hid HM
     clear hown hgrow HM hln
     go_wp2_with fail
     go_roundw
     case rel=>exact ⟨k+1,_,A2,_,c2,by omega,rfl,by go_num,HMM.out⟩
     case measure=>simp [intOf];omega
    | false=>
     rw [h92] at e92
     have hc92:b=92:=by simpa using h92
     have H92:=hid hc92
     clear h92 hc92
     by_cases hend:k+1=s.size
     ·have g1:((k:Int)+1 == (s.size:Int))=true:=by simp;omega
      have HEND:=hid hend
      clear hend
      have hb4:=HS.out.b
      rw [HB.out] at hb4
      obtain ⟨⟨c0,c1,c2,c3⟩,f0,f1,f2,f3⟩:=bC hb4
      have HE:=hid (cX (B:=B) HS.out.K (Nat.le_of_eq HB.out) (.slice none 0 0) (.int .i64 0) (.int .i64 (a:Int)) (.int .i64 11))
      have HR:=hid (bC (dw hb4 (.slice none 0 0) (.int .i64 0) (.int .i64 (a:Int)) (.int .i64 11))).1
      clear hb4
      go_wp2_with fail
      refine bodyPost_ret (v:=.agg #[.slice none 0 0,.int .i64 0,.int .i64 (a:Int),.int .i64 11]) ?_ rfl ?_
      ·obtain ⟨e0,e1,e2,e3⟩:=HR.out
       simp [results,Tryz.results38,go_sem,e0,e1,e2,e3]
      ·rw [<- HS.out.r,j3 (by rw [HZ.out];exact hlt) (by rw [<- HC.out];exact HCC.out) (by rw [<- HC.out];exact H92.out) (by rw [List.drop_of_length_le (by rw [HZ.out];have:=HEND.out;omega)];rfl)]
       exact ⟨rfl,HE.out⟩
     have g1:((k:Int)+1 == (s.size:Int))=false:=by simp;omega
     have hk1:k+1<s.size:=by omega
     have hx2:=HAT.out (k+1) hk1
     have hx2:∀ W:World,(Instr.index 9 (.string s) (.int .i64 ((k:Int)+1))).run Tryz.prog W=.ok (.int .u8 ((l.getD (k+1) 0).toNat:Int)) W:=hx2
     obtain ⟨d,hd⟩:∃ d,d=l.getD (k+1) 0:=⟨_,rfl⟩
     rw [<- hd] at hx2
     have HD:=hid hd
     have HDR:=hid (show l.drop (k+1)=d :: l.drop (k+1+1) by rw [ap (by rw [HZ.out];exact hk1),hd])
     have HESC:=hid (fun (o:List UInt8) (q:Nat) (h:bN by_ (l.drop (k+1))=.ok o q)=>show dm by_ l (k+1+q) (out++o)=R from (lc (by rw [HZ.out];exact hlt) (by rw [<- HC.out];exact HCC.out) (by rw [<- HC.out];exact H92.out) h).symm.trans HS.out.r)
     have HBAD:=hid (fun (h:bN by_ (l.drop (k+1))=.bad)=>show R=.bad k from HS.out.r.symm.trans (lf (by rw [HZ.out];exact hlt) (by rw [<- HC.out];exact HCC.out) (by rw [<- HC.out];exact H92.out) h))
     clear hend hd
     by_cases n92:d=92
     ·subst n92
      have HV:=hid (show bN by_ (l.drop (k+1))=.ok [92] 1 by rw [HDR.out,bN];rw [if_pos (.inl rfl)])
      have KW:K0 wr (wr.alloc (.cells #[.int .u8 92] 5)):=kR.alloc _
      have HOWN:=hid (show dz (wr.alloc (.cells #[.int .u8 92] 5)) (w.heap.size+1) A n c out from HS.out.own.keep KW (fun _ h=>h.elim))
      have HNEW:=hid (hG wr 92)
      have hbs:w.heap.size+1<=(wr.alloc (.cells #[.int .u8 92] 5)).heap.size:=by have:=az HS.out.b;have:=KW.size;omega
      have HBS:=hid hbs
      have HKW:=hid KW
      have hln:=HS.out.len
      clear KW hbs
      go_wp2_with (at_builtin;refine wpList_append_own _ rfl (.tmp 70) (.tmp 72) 70 rfl (w.heap.size+1) 5 i5 (.int .u8 0) 1 1 Tryz.underlying70 h5 hz0 hz1 hz2 rfl (by decide) _ _ _ rfl HOWN.out ⟨wr.heap.size,0,none⟩ 1 1 [.int .u8 92] rfl rfl HNEW.out ?a1 ?a2 ?a3 HBS.out ?_)
      case a1=>first | rfl | (intro u hu;simp at hu;subst hu;rfl)
      case a2=>unfold maxLen;omega
      case a3=>omega
      intro v' w6 hown hgrow _
      obtain ⟨A2,c2,rfl,HM⟩:=HS.out.more (o:=[92]) (k':=k+1+1) (m:=1) HKW.out hown hgrow (by exact HESC.out _ _ HV.out) (by omega)
      have HMM:=hid HM
      clear hown hgrow HM hln
      go_wp2_with fail
      go_roundw
      case rel=>exact ⟨k+1+1,_,A2,_,c2,by omega,rfl,by go_num,HMM.out⟩
      case measure=>simp [intOf];omega
     by_cases n34:d=34
     ·subst n34
      have HV:=hid (show bN by_ (l.drop (k+1))=.ok [34] 1 by rw [HDR.out,bN];rw [if_pos (.inr rfl)])
      have KW:K0 wr (wr.alloc (.cells #[.int .u8 34] 5)):=kR.alloc _
      have HOWN:=hid (show dz (wr.alloc (.cells #[.int .u8 34] 5)) (w.heap.size+1) A n c out from HS.out.own.keep KW (fun _ h=>h.elim))
      have HNEW:=hid (hG wr 34)
      have hbs:w.heap.size+1<=(wr.alloc (.cells #[.int .u8 34] 5)).heap.size:=by have:=az HS.out.b;have:=KW.size;omega
      have HBS:=hid hbs
      have HKW:=hid KW
      have hln:=HS.out.len
      clear KW hbs
      go_wp2_with (at_builtin;refine wpList_append_own _ rfl (.tmp 70) (.tmp 72) 70 rfl (w.heap.size+1) 5 i5 (.int .u8 0) 1 1 Tryz.underlying70 h5 hz0 hz1 hz2 rfl (by decide) _ _ _ rfl HOWN.out ⟨wr.heap.size,0,none⟩ 1 1 [.int .u8 34] rfl rfl HNEW.out ?a1 ?a2 ?a3 HBS.out ?_)
      case a1=>first | rfl | (intro u hu;simp at hu;subst hu;rfl)
      case a2=>unfold maxLen;omega
      case a3=>omega
      intro v' w6 hown hgrow _
      obtain ⟨A2,c2,rfl,HM⟩:=HS.out.more (o:=[34]) (k':=k+1+1) (m:=1) HKW.out hown hgrow (by exact HESC.out _ _ HV.out) (by omega)
      have HMM:=hid HM
      clear hown hgrow HM hln
      go_wp2_with fail
      go_roundw
      case rel=>exact ⟨k+1+1,_,A2,_,c2,by omega,rfl,by go_num,HMM.out⟩
      case measure=>simp [intOf];omega
     have nn:¬ (d=92\/d=34):=by rintro (h | h);exact n92 h;exact n34 h
     by_cases n124:d=124
     ·subst n124
      cases hbb:by_ == 124 with
      | true=>
       have hb2:by_=124:=by simpa using hbb
       have ebb:((by_.toNat:Int) == 124)=true:=by rw [show ((by_.toNat:Int) == 124)=(by_ == 124) from aY by_ 124];exact hbb
       have HV:=hid (show bN by_ (l.drop (k+1))=.ok [124] 1 by rw [HDR.out,bN,if_neg nn,if_neg (by decide),if_neg (by decide),if_neg (by decide),if_neg (by decide),if_pos ⟨rfl,hb2⟩])
       clear hbb hb2
       have KW:K0 wr (wr.alloc (.cells #[.int .u8 124] 5)):=kR.alloc _
       have HOWN:=hid (show dz (wr.alloc (.cells #[.int .u8 124] 5)) (w.heap.size+1) A n c out from HS.out.own.keep KW (fun _ h=>h.elim))
       have HNEW:=hid (hG wr 124)
       have hbs:w.heap.size+1<=(wr.alloc (.cells #[.int .u8 124] 5)).heap.size:=by have:=az HS.out.b;have:=KW.size;omega
       have HBS:=hid hbs
       have HKW:=hid KW
       have hln:=HS.out.len
       clear KW hbs
       go_wp2_with (at_builtin;refine wpList_append_own _ rfl (.tmp 70) (.tmp 72) 70 rfl (w.heap.size+1) 5 i5 (.int .u8 0) 1 1 Tryz.underlying70 h5 hz0 hz1 hz2 rfl (by decide) _ _ _ rfl HOWN.out ⟨wr.heap.size,0,none⟩ 1 1 [.int .u8 124] rfl rfl HNEW.out ?a1 ?a2 ?a3 HBS.out ?_)
       case a1=>first | rfl | (intro u hu;simp at hu;subst hu;rfl)
       case a2=>unfold maxLen;omega
       case a3=>omega
       intro v' w6 hown hgrow _
       obtain ⟨A2,c2,rfl,HM⟩:=HS.out.more (o:=[124]) (k':=k+1+1) (m:=1) HKW.out hown hgrow (by exact HESC.out _ _ HV.out) (by omega)
       have HMM:=hid HM
       clear hown hgrow HM hln
       go_wp2_with fail
       go_roundw
       case rel=>exact ⟨k+1+1,_,A2,_,c2,by omega,rfl,by go_num,HMM.out⟩
       case measure=>simp [intOf];omega
      | false=>
       have hb2:by_ ≠ 124:=by simpa using hbb
       have ebb:((by_.toNat:Int) == 124)=false:=aH hb2
       have hv:bN by_ (l.drop (k+1))=.bad:=by rw [HDR.out,bN,if_neg nn,if_neg (by decide),if_neg (by decide),if_neg (by decide),if_neg (by decide),if_neg (fun h=>hb2 h.2)]
       have HBB:=hid (HBAD.out hv)
       clear hbb hb2 hv
       have hb4:=HS.out.b
       rw [HB.out] at hb4
       obtain ⟨⟨c0,c1,c2,c3⟩,f0,f1,f2,f3⟩:=bC hb4
       have HE:=hid (cX (B:=B) HS.out.K (Nat.le_of_eq HB.out) (.slice none 0 0) (.int .i64 0) (.int .i64 (k:Int)) (.int .i64 9))
       have HR:=hid (bC (dw hb4 (.slice none 0 0) (.int .i64 0) (.int .i64 (k:Int)) (.int .i64 9))).1
       clear hb4
       go_wp2_with fail
       refine bodyPost_ret (v:=.agg #[.slice none 0 0,.int .i64 0,.int .i64 (k:Int),.int .i64 9]) ?_ rfl ?_
       ·obtain ⟨e0,e1,e2,e3⟩:=HR.out
        simp [results,Tryz.results38,go_sem,e0,e1,e2,e3]
       ·rw [HBB.out]
        exact ⟨rfl,HE.out⟩
     have w92:((d.toNat:Int) == 92)=false:=aH n92
     have w34:((d.toNat:Int) == 34)=false:=aH n34
     have w124:((d.toNat:Int) == 124)=false:=aH n124
     by_cases n110:d=110
     ·subst n110
      have HV:=hid (show bN by_ (l.drop (k+1))=.ok [10] 1 by rw [HDR.out,bN,if_neg (by decide),if_pos rfl])
      clear nn n92 n34 n124 w92 w34 w124
      have KW:K0 wr (wr.alloc (.cells #[.int .u8 10] 5)):=kR.alloc _
      have HOWN:=hid (show dz (wr.alloc (.cells #[.int .u8 10] 5)) (w.heap.size+1) A n c out from HS.out.own.keep KW (fun _ h=>h.elim))
      have HNEW:=hid (hG wr 10)
      have hbs:w.heap.size+1<=(wr.alloc (.cells #[.int .u8 10] 5)).heap.size:=by have:=az HS.out.b;have:=KW.size;omega
      have HBS:=hid hbs
      have HKW:=hid KW
      have hln:=HS.out.len
      clear KW hbs
      go_wp2_with (at_builtin;refine wpList_append_own _ rfl (.tmp 77) (.tmp 78) 70 rfl (w.heap.size+1) 5 i5 (.int .u8 0) 1 1 Tryz.underlying70 h5 hz0 hz1 hz2 rfl (by decide) _ _ _ rfl HOWN.out ⟨wr.heap.size,0,none⟩ 1 1 [.int .u8 10] rfl rfl HNEW.out ?a1 ?a2 ?a3 HBS.out ?_)
      case a1=>first | rfl | (intro u hu;simp at hu;subst hu;rfl)
      case a2=>unfold maxLen;omega
      case a3=>omega
      intro v' w6 hown hgrow _
      obtain ⟨A2,c2,rfl,HM⟩:=HS.out.more (o:=[10]) (k':=k+1+1) (m:=1) HKW.out hown hgrow (by exact HESC.out _ _ HV.out) (by omega)
      have HMM:=hid HM
      clear hown hgrow HM hln
      go_wp2_with fail
      go_roundw
      case rel=>exact ⟨k+1+1,_,A2,_,c2,by omega,rfl,by go_num,HMM.out⟩
      case measure=>simp [intOf];omega
     have w110:((d.toNat:Int) == 110)=false:=aH n110
     by_cases n116:d=116
     ·subst n116
      have HV:=hid (show bN by_ (l.drop (k+1))=.ok [9] 1 by rw [HDR.out,bN,if_neg (by decide),if_neg (by decide),if_pos rfl])
      clear nn n92 n34 n124 w92 w34 w124
      have KW:K0 wr (wr.alloc (.cells #[.int .u8 9] 5)):=kR.alloc _
      have HOWN:=hid (show dz (wr.alloc (.cells #[.int .u8 9] 5)) (w.heap.size+1) A n c out from HS.out.own.keep KW (fun _ h=>h.elim))
      have HNEW:=hid (hG wr 9)
      have hbs:w.heap.size+1<=(wr.alloc (.cells #[.int .u8 9] 5)).heap.size:=by have:=az HS.out.b;have:=KW.size;omega
      have HBS:=hid hbs
      have HKW:=hid KW
      have hln:=HS.out.len
      clear KW hbs
      go_wp2_with (at_builtin;refine wpList_append_own _ rfl (.tmp 83) (.tmp 84) 70 rfl (w.heap.size+1) 5 i5 (.int .u8 0) 1 1 Tryz.underlying70 h5 hz0 hz1 hz2 rfl (by decide) _ _ _ rfl HOWN.out ⟨wr.heap.size,0,none⟩ 1 1 [.int .u8 9] rfl rfl HNEW.out ?a1 ?a2 ?a3 HBS.out ?_)
      case a1=>first | rfl | (intro u hu;simp at hu;subst hu;rfl)
      case a2=>unfold maxLen;omega
      case a3=>omega
      intro v' w6 hown hgrow _
      obtain ⟨A2,c2,rfl,HM⟩:=HS.out.more (o:=[9]) (k':=k+1+1) (m:=1) HKW.out hown hgrow (by exact HESC.out _ _ HV.out) (by omega)
      have HMM:=hid HM
      clear hown hgrow HM hln
      go_wp2_with fail
      go_roundw
      case rel=>exact ⟨k+1+1,_,A2,_,c2,by omega,rfl,by go_num,HMM.out⟩
      case measure=>simp [intOf];omega
     have w116:((d.toNat:Int) == 116)=false:=aH n116
     by_cases n114:d=114
     ·subst n114
      have HV:=hid (show bN by_ (l.drop (k+1))=.ok [13] 1 by rw [HDR.out,bN,if_neg (by decide),if_neg (by decide),if_neg (by decide),if_pos rfl])
      clear nn n92 n34 n124 w92 w34 w124
      have KW:K0 wr (wr.alloc (.cells #[.int .u8 13] 5)):=kR.alloc _
      have HOWN:=hid (show dz (wr.alloc (.cells #[.int .u8 13] 5)) (w.heap.size+1) A n c out from HS.out.own.keep KW (fun _ h=>h.elim))
      have HNEW:=hid (hG wr 13)
      have hbs:w.heap.size+1<=(wr.alloc (.cells #[.int .u8 13] 5)).heap.size:=by have:=az HS.out.b;have:=KW.size;omega
      have HBS:=hid hbs
      have HKW:=hid KW
      have hln:=HS.out.len
      clear KW hbs
      go_wp2_with (at_builtin;refine wpList_append_own _ rfl (.tmp 89) (.tmp 90) 70 rfl (w.heap.size+1) 5 i5 (.int .u8 0) 1 1 Tryz.underlying70 h5 hz0 hz1 hz2 rfl (by decide) _ _ _ rfl HOWN.out ⟨wr.heap.size,0,none⟩ 1 1 [.int .u8 13] rfl rfl HNEW.out ?a1 ?a2 ?a3 HBS.out ?_)
      case a1=>first | rfl | (intro u hu;simp at hu;subst hu;rfl)
      case a2=>unfold maxLen;omega
      case a3=>omega
      intro v' w6 hown hgrow _
      obtain ⟨A2,c2,rfl,HM⟩:=HS.out.more (o:=[13]) (k':=k+1+1) (m:=1) HKW.out hown hgrow (by exact HESC.out _ _ HV.out) (by omega)
      have HMM:=hid HM
      clear hown hgrow HM hln
      go_wp2_with fail
      go_roundw
      case rel=>exact ⟨k+1+1,_,A2,_,c2,by omega,rfl,by go_num,HMM.out⟩
      case measure=>simp [intOf];omega
     have w114:((d.toNat:Int) == 114)=false:=aH n114
     by_cases n120:d=120
     ·subst n120
      clear nn n92 n34 n124 w92 w34 w124 n110 w110 n116 w116 n114 w114
      go_wp2_with fail
      go_loop [9] (fun mv=>∃ m:Nat,k+2<=m/\m<=s.size/\m<=k+9/\mv=.int .i64 (m:Int)/\(∀ j,k+2<=j->j<m->l.getD j 0 ≠ 59)) (fun mv=>s.size - (intOf mv).toNat)
      case atStart=>exact ⟨k+2,by omega,by omega,by omega,by go_num,fun j h1 h2=>by omega⟩
      case round=>
       obtain ⟨m,hm1,hm2,hm3,rfl,hnn⟩:=hrel
       have HNN:=hid hnn
       clear hnn
       by_cases hms:m<s.size
       ·have hxm:=HAT.out m hms
        have u1:decide ((m:Int)<(s.size:Int))=true:=dT (by omega)
        have u1':decide ((s.size:Int)<=(m:Int))=false:=dF (by omega)
        have u1'':decide (s.size<=m)=false:=dF (by omega)
        obtain ⟨z,hz⟩:∃ z,z=l.getD m 0:=⟨_,rfl⟩
        rw [<- hz] at hxm
        have HZM:=hid hz
        have e59:((z.toNat:Int) != 59)=(z != 59):=by unfold bne;rw [show ((z.toNat:Int) == 59)=(z == 59) from aY z 59]
        clear hz
        cases h59:z != 59 with
        | true=>
         rw [h59] at e59
         have hne:z ≠ 59:=by simpa using h59
         have HNE:=hid hne
         clear h59 hne
         by_cases hm9:m<k+9
         ·have u2:decide ((m:Int)<(k:Int)+9)=true:=dT (by omega)
          go_wp2_with fail
          go_round
          case rel=>exact ⟨m+1,by omega,by omega,by omega,by go_num,fun j h1 h2=>by
           rcases Nat.lt_or_eq_of_le (Nat.le_of_lt_succ h2) with h | h
           ·exact HNN.out j h1 h
           ·rw [h,<- HZM.out];exact HNE.out⟩
          case measure=>simp [intOf];omega
         ·have u2:decide ((m:Int)<(k:Int)+9)=false:=dF (by omega)
          have u2':decide (m<k+9)=false:=dF hm9
          have HBB:=hid (HBAD.out (ur (by rw [HZ.out];exact hk1) HD.out.symm hm1 (by rw [HZ.out];omega) hm3 HNN.out (.inr ⟨by omega,by rw [<- HZM.out];exact HNE.out⟩)))
          have hb4:=HS.out.b
          rw [HB.out] at hb4
          obtain ⟨⟨c0,c1,c2,c3⟩,f0,f1,f2,f3⟩:=bC hb4
          have HE:=hid (cX (B:=B) HS.out.K (Nat.le_of_eq HB.out) (.slice none 0 0) (.int .i64 0) (.int .i64 (k:Int)) (.int .i64 9))
          have HR:=hid (bC (dw hb4 (.slice none 0 0) (.int .i64 0) (.int .i64 (k:Int)) (.int .i64 9))).1
          clear hb4
          go_wp2_with fail
          refine bodyPost_ret (v:=.agg #[.slice none 0 0,.int .i64 0,.int .i64 (k:Int),.int .i64 9]) ?_ rfl ?_
          ·obtain ⟨e0,e1,e2,e3⟩:=HR.out
           simp [results,Tryz.results38,go_sem,e0,e1,e2,e3]
          ·rw [HBB.out]
           exact ⟨rfl,HE.out⟩
        | false=>
         rw [h59] at e59
         have heq:z=59:=by simpa using h59
         have hyes:=vX (by_:=by_) (by rw [HZ.out];exact hk1) HD.out.symm hm1 (by rw [HZ.out];exact hms) HNN.out (by rw [<- HZM.out];exact heq)
         have HYES:=hid hyes
         have hxs:(s.extract (k+2) m).data.toList=(l.drop (k+2)).take (m - (k+2)):=HEXT.out (k+2) m
         have HXS:=hid hxs
         have HXZ:=hid (show (s.extract (k+2) m).size<=1000000 by rw [Lib.size_eq,hxs];have:=List.length_take_le (m - (k+2)) (l.drop (k+2));omega)
         clear h59 heq hyes hxs
         obtain ⟨q2,hq2⟩:∃ q,decide ((m:Int)<(k:Int)+9)=q:=⟨_,rfl⟩
         have b1:k+2<=m:=hm1
         cases q2
         all_goals
          go_wp2_with fail
          refine (mZ _ _ HXZ.out).mono ?_
          rintro e w1 ⟨r0,hr0,rfl,hr,rfl⟩
          rw [HXS.out] at hr ⊢
          cases hcx:df ((l.drop (k+2)).take (m - (k+2))) with
          | none=>
           have HBB:=hid (HBAD.out (HYES.out.1 hcx))
           clear hr hcx hr0
           try dsimp only [Option.isSome]
           have hb4:=HS.out.b
           rw [HB.out] at hb4
           obtain ⟨⟨c0,c1,c2,c3⟩,f0,f1,f2,f3⟩:=bC hb4
           have HE:=hid (cX (B:=B) HS.out.K (Nat.le_of_eq HB.out) (.slice none 0 0) (.int .i64 0) (.int .i64 (k:Int)) (.int .i64 9))
           have HR:=hid (bC (dw hb4 (.slice none 0 0) (.int .i64 0) (.int .i64 (k:Int)) (.int .i64 9))).1
           clear hb4
           go_wp2_with fail
           refine bodyPost_ret (v:=.agg #[.slice none 0 0,.int .i64 0,.int .i64 (k:Int),.int .i64 9]) ?_ rfl ?_
           ·obtain ⟨e0,e1,e2,e3⟩:=HR.out
            simp [results,Tryz.results38,go_sem,e0,e1,e2,e3]
           ·rw [HBB.out]
            exact ⟨rfl,HE.out⟩
          | some r=>
           obtain rfl:=hr r hcx
           have HV:=hid (HYES.out.2 r hcx)
           have HCH:=hid (lu hcx)
           clear hr hcx hr0
           try dsimp only [Option.isSome]
           go_wp2_with fail
           refine (ge r _ HCH.out).mono ?_
           rintro e w2 ⟨rfl,hw2⟩
           have KW:K0 wr w2:=by rw [hw2];exact kR.alloc _
           have HOWN:=hid (show dz w2 (w.heap.size+1) A n c out from HS.out.own.keep KW (fun _ h=>h.elim))
           have HNEW:=hid (show ∀ j u,(Lib.byteCells (aI r))[j]? = some u->w2.cell? ((⟨wr.heap.size,0,none⟩:Addr).add j)=some u by rw [hw2];exact wV wr (aI r))
           have hbs:w.heap.size+1<=w2.heap.size:=by have:=az HS.out.b;have:=KW.size;omega
           have HBS:=hid hbs
           have HKW:=hid KW
           have hln:=HS.out.len
           have hul:=mz r
           obtain ⟨ul,hull⟩:∃ ul,ul=(aI r).length:=⟨_,rfl⟩
           rw [<- hull] at hul ⊢
           have HUL:=hid hull
           clear KW hbs hw2 hull
           try dsimp only
           go_wp2_with (at_builtin;refine wpList_append_own _ rfl (.tmp 140) (.tmp 142) 70 rfl (w.heap.size+1) 5 i5 (.int .u8 0) 1 1 Tryz.underlying70 h5 hz0 hz1 hz2 rfl (by decide) _ _ _ rfl HOWN.out ⟨wr.heap.size,0,none⟩ ul ul (Lib.byteCells (aI r)) rfl (by rw [ep,HUL.out,Nat.mul_one]) HNEW.out ?a1 ?a2 ?a3 HBS.out ?_)
           case a1=>
            intro u hu
            unfold Lib.byteCells at hu
            obtain ⟨y,_,rfl⟩:=List.mem_map.1 hu
            rfl
           case a2=>unfold maxLen;omega
           case a3=>omega
           intro v' w6 hown hgrow _
           obtain ⟨A2,c2,rfl,HM⟩:=HS.out.more (o:=aI r) (k':=m+1) (m:=ul) HKW.out hown hgrow (by have:=HESC.out _ _ HV.out;rwa [show k+1+(m - (k+2)+2)=m+1 by omega] at this) (by omega)
           have HMM:=hid HM
           clear hown hgrow HM hln hul
           have m1:(1:Int)<=(m:Int):=by omega
           go_wp2_with fail
           go_roundw
           case rel=>exact ⟨m+1,_,A2,_,c2,by omega,rfl,by go_num,HMM.out⟩
           case measure=>simp [intOf];omega
       ·have u1:decide ((m:Int)<(s.size:Int))=false:=dF (by omega)
        have u1n:decide (m<s.size)=false:=dF hms
        have u1':decide ((s.size:Int)<=(m:Int))=true:=dT (by omega)
        have HBB:=hid (HBAD.out (ur (by rw [HZ.out];exact hk1) HD.out.symm hm1 (by rw [HZ.out];omega) hm3 HNN.out (.inl (by rw [HZ.out];omega))))
        have hb4:=HS.out.b
        rw [HB.out] at hb4
        obtain ⟨⟨c0,c1,c2,c3⟩,f0,f1,f2,f3⟩:=bC hb4
        have HE:=hid (cX (B:=B) HS.out.K (Nat.le_of_eq HB.out) (.slice none 0 0) (.int .i64 0) (.int .i64 (k:Int)) (.int .i64 9))
        have HR:=hid (bC (dw hb4 (.slice none 0 0) (.int .i64 0) (.int .i64 (k:Int)) (.int .i64 9))).1
        clear hb4
        go_wp2_with fail
        refine bodyPost_ret (v:=.agg #[.slice none 0 0,.int .i64 0,.int .i64 (k:Int),.int .i64 9]) ?_ rfl ?_
        ·obtain ⟨e0,e1,e2,e3⟩:=HR.out
         simp [results,Tryz.results38,go_sem,e0,e1,e2,e3]
        ·rw [HBB.out]
         exact ⟨rfl,HE.out⟩
     have w120:((d.toNat:Int) == 120)=false:=aH n120
     have hv:bN by_ (l.drop (k+1))=.bad:=by rw [HDR.out,bN,if_neg nn,if_neg n110,if_neg n116,if_neg n114,if_neg n120,if_neg (fun h=>n124 h.1)]
     have HBB:=hid (HBAD.out hv)
     obtain ⟨dd,hdd⟩:∃ x,x=(d.toNat:Int):=⟨_,rfl⟩
     rw [<- hdd] at hx2 w92 w34 w124 w110 w116 w114 w120
     clear hv nn n92 n34 n124 n110 n116 n114 n120 hdd
     have hb4:=HS.out.b
     rw [HB.out] at hb4
     obtain ⟨⟨c0,c1,c2,c3⟩,f0,f1,f2,f3⟩:=bC hb4
     have HE:=hid (cX (B:=B) HS.out.K (Nat.le_of_eq HB.out) (.slice none 0 0) (.int .i64 0) (.int .i64 (k:Int)) (.int .i64 9))
     have HR:=hid (bC (dw hb4 (.slice none 0 0) (.int .i64 0) (.int .i64 (k:Int)) (.int .i64 9))).1
     clear hb4
     go_wp2_with fail
     refine bodyPost_ret (v:=.agg #[.slice none 0 0,.int .i64 0,.int .i64 (k:Int),.int .i64 9]) ?_ rfl ?_
     ·obtain ⟨e0,e1,e2,e3⟩:=HR.out
      simp [results,Tryz.results38,go_sem,e0,e1,e2,e3]
     ·rw [HBB.out]
      exact ⟨rfl,HE.out⟩
  ·have h0:decide ((k:Int)<(s.size:Int))=false:=dF (by omega)
   have h1:decide (k<s.size)=false:=dF (by omega)
   have hke:k=s.size:=by omega
   have HKE:=hid hke
   clear hke
   have hb4:=HS.out.b
   rw [HB.out] at hb4
   obtain ⟨⟨c0,c1,c2,c3⟩,f0,f1,f2,f3⟩:=bC hb4
   have HE:=hid (cX (B:=B) HS.out.K (Nat.le_of_eq HB.out) (.slice none 0 0) (.int .i64 0) (.int .i64 (a:Int)) (.int .i64 11))
   have HR:=hid (bC (dw hb4 (.slice none 0 0) (.int .i64 0) (.int .i64 (a:Int)) (.int .i64 11))).1
   clear hb4
   go_wp2_with fail
   refine bodyPost_ret (v:=.agg #[.slice none 0 0,.int .i64 0,.int .i64 (a:Int),.int .i64 11]) ?_ rfl ?_
   ·obtain ⟨e0,e1,e2,e3⟩:=HR.out
    simp [results,Tryz.results38,go_sem,e0,e1,e2,e3]
   ·rw [<- HS.out.r,HKE.out,<- HZ.out,ld]
    exact ⟨rfl,HE.out⟩
end Go.Proofs.YtonnikipeokkaaaGreatDoor
