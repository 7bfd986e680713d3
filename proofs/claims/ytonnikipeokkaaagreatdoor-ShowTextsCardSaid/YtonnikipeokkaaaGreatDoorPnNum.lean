/-
  May a number be: the document's answer. (Texts of another se
-/
import Derived.Test.YtonnikipeokkaaaGreatDoorN3
namespace Go.Proofs.YtonnikipeokkaaaGreatDoor
set_option maxRecDepth 100000
set_option maxHeartbeats 4000000
open Go.Lib (hid)
open Go.RowKit
theorem qa (base:Nat) (neg:Bool) (A:Option Addr) (n c:Nat) (l:List Nat) (w:World) (hA:aP 5 .u8 w base A n c l) (low:Low 2 l) (hm:n<=10000000) :
 Calls Tryz.prog 84 #[.bool neg,.slice A n c] w fun e w'=>K0 w w'/\e=.returned (al (decide (sgn neg (bB l)<0)) A (dy l) c)/\aP 5 .u8 w' base A (dy l) c (ai (bB l)):=by
 have K:K0 w (w.alloc (.cells #[.bool false,.slice none 0 0] 90)):=kR.alloc _
 have hb:(w.alloc (.cells #[.bool false,.slice none 0 0] 90)).heap[w.heap.size]? = some (.cells #[.bool false,.slice none 0 0] 90 (0,0)):=hN w _
 have rh:=hA.keep0 K
 have HB:=hid (rh.toBits low hm)
 have hpos:=nQ l
 have hsg:=pK neg (bB l)
 have hle:=fU low
 rw [hA.len] at hle
 have hO:=hA.take hle
 rw [nO low] at hO
 have HO:=hid hO
 have HSG:=hid hsg
 have hcap:=Nat.le_trans hle hA.cap
 clear hA rh low hb hsg hO
 have hc2:(dy l:Int)<=(c:Int):=by omega
 have HPOS:=hid hpos
 clear hpos
 cases neg with
 | false=>
  go_enter Tryz.func84,Tryz.ntmps84
  go_wp2_with fail
  refine (dW A n c l _ HB.out).mono ?_
  rintro e w1 ⟨rfl,rfl⟩
  go_wp2_with fail
  refine bodyPost_ret (v:=al false A (dy l) c) (by simp [results,Tryz.results84,go_sem]) rfl ⟨kR.alloc _,by rw [<- HSG.out];rfl,HO.out.keep0 (kR.alloc _)⟩
 | true=>
  by_cases h0:0<dy l
  ·have h0i:(0:Int)<(dy l:Int):=by omega
   have hd:=hid (show decide (sgn true (bB l)<0)=true from by rw [<- HSG.out,Bool.true_and];exact dT (HPOS.out.1 h0))
   go_enter Tryz.func84,Tryz.ntmps84
   go_wp2_with fail
   refine (dW A n c l _ HB.out).mono ?_
   rintro e w1 ⟨rfl,rfl⟩
   go_wp2_with fail
   refine bodyPost_ret (v:=al true A (dy l) c) (by simp [results,Tryz.results84,go_sem]) rfl ⟨kR.alloc _,by rw [hd.out],HO.out.keep0 (kR.alloc _)⟩
  ·have h0i:decide ((0:Int)<(dy l:Int))=false:=dF (by omega)
   have hd:=hid (show decide (sgn true (bB l)<0)=false from by rw [<- HSG.out,Bool.true_and];exact dF (fun h=>h0 (HPOS.out.2 h)))
   go_enter Tryz.func84,Tryz.ntmps84
   go_wp2_with fail
   refine (dW A n c l _ HB.out).mono ?_
   rintro e w1 ⟨rfl,rfl⟩
   go_wp2_with fail
   refine bodyPost_ret (v:=al false A (dy l) c) (by simp [results,Tryz.results84,go_sem]) rfl ⟨kR.alloc _,by rw [hd.out],HO.out.keep0 (kR.alloc _)⟩
theorem kT.carry {w1 wr:World} {l bs:List Nat} {i:Nat} {v:Value} (h:kT w1 l i 32 bs v wr) (low:Low BB l):kT w1 l (i+1) 0 bs v wr:=by
 refine ⟨?_,h.low,?_,h.K⟩
 ·have:=h.o
  rwa [show 32 * i+32=32 * (i+1)+0 by omega] at this
 ·rw [h.v,Nat.pow_zero,Nat.mod_one,Nat.mul_zero,Nat.add_zero,show bA (l.take (i+1))=bA (l.take i)+BB ^ i * l.getD i 0 from bq BB l i,Nat.mod_eq_of_lt (by have:=low.getD (by unfold BB;omega) i;unfold BB at this;exact this)]
theorem ws {x:Nat} (k:Nat) (hx:x<4294967296):bits BinOp.and IntKind.u32 ((x:Int) / 2 ^ k) 1 % 256=((x / 2 ^ k % 2:Nat):Int):=by
 have e1:((x:Int) / 2 ^ k)=((x / 2 ^ k:Nat):Int):=by simp
 have e2:x / 2 ^ k<4294967296:=Nat.lt_of_le_of_lt (Nat.div_le_self _ _) hx
 rw [e1,show (1:Int)=((1:Nat):Int) from rfl,u32_and_nat _ _ e2 (by omega),Nat.and_one_is_mod]
 omega
theorem u9 (neg:Bool) (A:Option Addr) (n c:Nat) (l:List Nat) (w:World) (h:aq w A n c l) (hm:n<=9000) :
 Calls Tryz.prog 52 #[al neg A n c] w (jD (ci neg l) w):=by
 have K:K0 w ((w.alloc (.cells #[.bool neg,.slice A n c] 24)).alloc (.cells #[.bool false,.slice none 0 0] 90)):=(kR.alloc _).alloc _
 have hb1:((w.alloc (.cells #[.bool neg,.slice A n c] 24)).alloc (.cells #[.bool false,.slice none 0 0] 90)).heap[w.heap.size]? = some (.cells #[.bool neg,.slice A n c] 24 (0,0)):=by
  rw [Below.heap_alloc _ _ _ (by simp)];exact hN w _
 have hb2:((w.alloc (.cells #[.bool neg,.slice A n c] 24)).alloc (.cells #[.bool false,.slice none 0 0] 90)).heap[w.heap.size+1]? = some (.cells #[.bool false,.slice none 0 0] 90 (0,0)):=by
  have:=hN (w.alloc (.cells #[.bool neg,.slice A n c] 24)) (.cells #[.bool false,.slice none 0 0] 90)
  rwa [World.size_alloc] at this
 have HL:=hid (h.keep0 K)
 have HK:=hid K
 have HB1:=hid hb1
 have HB2:=hid hb2
 have hmx:=h.max
 clear h K hb1 hb2
 go_enter Tryz.func52,Tryz.ntmps52
 go_wp2_with fail
 generalize hBx:w.heap.size=Bx at HB1 HB2 ⊢
 have HBX:=hid (Nat.le_of_eq hBx)
 clear hBx
 generalize (w.alloc (.cells #[.bool neg,.slice A n c] 24)).alloc (.cells #[.bool false,.slice none 0 0] 90)=w1 at HL HK HB1 HB2 ⊢
 have HC:=hid (fun (w':World) (K':K0 w1 w')=>(show w'.cell? ⟨Bx,1,none⟩=some (.slice A n c) from by rw [cell_of_row w' _ _ _ _ _ (K'.heap HB1.out (by simp))];rfl))
 go_loopw [3,4] (fun v iv wr=>∃ (i:Nat) (bs:List Nat),i<=n/\iv=.int .i64 (i:Int)/\kT w1 l i 0 bs v wr) (fun _ iv _=>n - (intOf iv).toNat)
 case atStart=>exact ⟨0,[],Nat.zero_le _,rfl,World.ownsRow_nil _ _ _ _,Low.nil _,by rw [Nat.pow_zero,Nat.mod_one];rfl,kR⟩
 case round=>
  obtain ⟨i,bs,hi,rfl,st⟩:=hrel
  have c1:=HC.out _ st.K
  by_cases hin:i<n
  ·have i0:(0:Int)<=(i:Int):=by omega
   have i1:(i:Int)<(n:Int):=by omega
   have HS:=hid st
   clear st
   go_wp2_with fail
   go_loopw [3,5] (fun v kv wi=>∃ (k:Nat) (bs:List Nat),k<=32/\kv=.int .i64 (k:Int)/\kT w1 l i k bs v wi) (fun _ kv _=>32 - (intOf kv).toNat)
   case atStart=>exact ⟨0,bs,Nat.zero_le _,rfl,HS.out⟩
   case round=>
    clear HS c1
    obtain ⟨k,bs2,hk,rfl,st⟩:=hrel
    have c1:=HC.out _ st.K
    obtain ⟨P,cP,rfl⟩:=cS st.o
    by_cases hk32:k<32
    ·have k0:(0:Int)<=(k:Int):=by omega
     have k1:(k:Int)<32:=by omega
     obtain ⟨b,off,rfl,hb,hc⟩:=(HL.out.keep0 st.K).row.2 i hin
     have hx:=iD HL.out.low i
     obtain ⟨x,hxx⟩:∃ x,x=l.getD i 0:=⟨_,rfl⟩
     rw [<- hxx] at hc hx
     have HXX:=hid hxx
     have HS2:=hid st
     clear hxx st
     obtain ⟨i5,h5,hz0,hz1,hz2⟩:=info_parts d7
     obtain ⟨y,hy⟩:∃ y,y=x / 2 ^ k % 2:=⟨_,rfl⟩
     have hbit:=ws (x:=x) k (by omega)
     rw [<- hy] at hbit
     have HY:=hid hy
     have KW:K0 wr (wr.alloc (.cells #[.int .u8 (y:Int)] 5)):=kR.alloc _
     have HOWN:=hid (iy HS2.out.o KW (fun _ _=>id))
     have HNEW:=hid (jC wr (y:Int))
     have HBS:=hid (Nat.le_trans HS2.out.K.size KW.size)
     have HKW:=hid KW
     have hbl:=HS2.out.len
     have HBL:=hid hbl
     clear KW hy hbl
     go_wp2_with (at_builtin;rw [hbit];refine wpList_append_own _ rfl (.tmp 17) (.tmp 27) 70 rfl w1.heap.size 5 i5 (.int .u8 0) 1 1 Tryz.underlying70 h5 hz0 hz1 hz2 rfl (by decide) _ _ _ rfl HOWN.out ⟨wr.heap.size,0,none⟩ 1 1 [.int .u8 (y:Int)] rfl rfl HNEW.out ?a1 ?a2 ?a3 HBS.out ?_)
     case a1=>intro u hu;simp at hu;subst hu;rfl
     case a2=>unfold maxLen;omega
     case a3=>omega
     intro v' w6 hown hgrow _
     have N:=HS2.out.more (b:=y) (by rw [HY.out,HXX.out]) HKW.out hown hgrow
     obtain ⟨P2,cP2,rfl⟩:=cS N.o
     have HN:=hid N
     clear N hown hgrow
     go_wp2_with fail
     go_roundw
     case rel=>exact ⟨k+1,_,by omega,by go_num,HN.out⟩
     case measure=>simp [intOf];omega
    ·have hkd:decide ((k:Int)<32)=false:=dF (by omega)
     obtain rfl:k=32:=by omega
     have HS2:=hid (st.carry HL.out.low)
     clear st
     go_wp2_with fail
     go_roundw
     case rel=>exact ⟨i+1,_,by omega,by go_num,HS2.out⟩
     case measure=>simp [intOf];omega
  ·have hd:decide ((i:Int)<(n:Int))=false:=dF (by omega)
   obtain rfl:i=n:=by omega
   have hv:bB bs=bA l:=by rw [st.v,Nat.pow_zero,Nat.mod_one,Nat.mul_zero,Nat.add_zero,List.take_of_length_le (by rw [HL.out.len];omega)]
   have hsl:sgn neg (bB bs)=ci neg l:=by rw [hv];rfl
   obtain ⟨P,cP,rfl⟩:=cS st.o
   have c0:wr.cell? ⟨Bx,0,none⟩=some (.bool neg):=by rw [cell_of_row wr _ _ _ _ _ (st.K.heap HB1.out (by simp))];rfl
   have hx2:=st.K.heap HB2.out (by simp)
   have HS:=hid st
   have HV:=hid (And.intro hv hsl)
   have hlt:=Nat.lt_of_lt_of_le (az HB2.out) st.K.size
   have HX2:=hid hx2
   have HBL:=hid (az HB2.out)
   clear st hv hsl hx2
   go_wp2_with fail
   refine (qa w1.heap.size neg P (32 * i+0) cP bs wr HS.out.o HS.out.low (by omega)).mono ?_
   rintro e w9 ⟨k9,rfl,o9⟩
   rw [HV.out.2]
   rw [HV.out.1] at o9
   have hb9:=k9.heap HX2.out (by simp)
   have d0:w9.cell? ⟨Bx+1,0,none⟩=some (.bool false):=by rw [cell_of_row w9 _ _ _ _ _ hb9];rfl
   have d1:w9.cell? ⟨Bx+1,1,none⟩=some (.slice none 0 0):=by rw [cell_of_row w9 _ _ _ _ _ hb9];rfl
   have g0:w9.frozen? ⟨Bx+1,0,none⟩=false:=by simp [World.frozen?,hb9]
   have g1:w9.frozen? ⟨Bx+1,1,none⟩=false:=by simp [World.frozen?,hb9]
   obtain ⟨q,hq⟩:∃ q,q=decide (ci neg l<0):=⟨_,rfl⟩
   rw [<- hq]
   have HQ:=hid hq
   have HE:=hid (bD hb9 (.bool q) (.slice P (dy bs) cP))
   have HKK:=hid (cu (HK.out.trans (HS.out.K.trans k9)) (Nat.le_trans HBX.out (Nat.le_succ Bx)) (.bool q) (.slice P (dy bs) cP))
   have HO:=hid ((ij o9 HBL.out (.bool q) (.slice P (dy bs) cP)).mono HK.out.size)
   clear hq k9 o9 hb9
   try dsimp only
   go_wp2_with fail
   obtain ⟨e0,e1⟩:=HE.out
   refine bodyPost_ret (v:=al q P (dy bs) cP) (by simp [results,Tryz.results52,go_sem,e0,e1]) rfl ⟨HKK.out,P,dy bs,cP,by rw [<- HQ.out],?_⟩
   rw [dP]
   exact HO.out
theorem kK.new (w:World) (u v:Value):kK (w.alloc (.cells #[u,v] 24)) w.heap.size u v:=hN w _
namespace Env
variable {w w' w'':World} {bs:List (Nat × Value × Value)} {ms:List (Option Addr × Nat × Nat × List Nat)}
theorem box (h:Env w bs ms w') (u v:Value):Env w ((w'.heap.size,u,v) :: bs) ms (w'.alloc (.cells #[u,v] 24)):=by
 have k:K0 w' (w'.alloc (.cells #[u,v] 24)):=kR.alloc _
 refine ⟨h.k.trans k,fun x hx=>?_,fun x hx=>(h.m x hx).keep0 k⟩
 rcases List.mem_cons.1 hx with rfl | hx
 ·exact kK.new w' u v
 ·exact (h.b x hx).keep k
end Env
theorem rG (w:World) (u v:Value):Env w [(w.heap.size,u,v)] [] (w.alloc (.cells #[u,v] 24)):=(Env.start w).box u v
theorem dr.gen {x:Int} {w w':World} {e:Ending} (h:dr x w e w'):K0 w w'/\∃ (q:Bool) (A:Option Addr) (n c:Nat) (l:List Nat) (f:Int),e=.returned (.tuple #[al q A n c,.int .i64 f])/\aq w' A n c l/\n<=48/\Out x q l f:=by
 obtain ⟨k,⟨hn,he⟩ | ⟨A,n,c,hf,he,own⟩⟩:=h
 ·exact ⟨k,false,none,0,0,[],6,he,eX _,by omega,.inr ⟨hn,rfl,rfl,rfl⟩⟩
 ·exact ⟨k,_,A,n,c,_,0,he,own.num hf,by have:=own.len;unfold dG at hf;omega,.inl ⟨hf,rfl,rfl,rfl⟩⟩
theorem sw {w:World} {p:Bool} {A:Option Addr} {n c:Nat} {l:List Nat} {k m:Nat} (h:aq w A n c l) (hm:n<=k) (hk:m=32 * k):(ai (ci p l).natAbs).length<=m:=by
 refine (pO _ BB 32 k m rfl hk).2 ?_
 rw [dP]
 have h1:=fq h.low
 rw [h.len] at h1
 exact Nat.lt_of_lt_of_le h1 (Nat.pow_le_pow_right (by unfold BB;omega) hm)
theorem wC {z p:Bool} {x:Int} {A:Option Addr} {n c:Nat} {l:List Nat} {w:World} (hz:z=decide (x<0)) (hx:x=ci p l) (h:aq w A n c l) (hm:n<=9000):Calls Tryz.prog 52 #[al p A n c] w (wF z x 288000 w):=
 (u9 p A n c l w h (by omega)).mono fun e w' hp=>by
  subst hx
  exact jD.z hp hz (sw h hm rfl) (by omega)
instance (x:Int):Decidable (dG x):=by unfold dG;infer_instance
def kc (p:Bool) (l:List Nat):Bool:=decide (dG (ci p l)/\p=decide (ci p l<0)/\l=aA (bA l))
theorem pN {p q:Bool} {l l2:List Nat} {f:Int} (ho:Out (ci p l) q l2 f):(f=0->er q l2 p l=kc p l)/\(f=6->kc p l=false):=by
 unfold kc er
 rcases ho with ⟨hf,rfl,rfl,rfl⟩ | ⟨hf,rfl,rfl,rfl⟩
 ·refine ⟨fun _=>decide_eq_decide.2 ?_,(fun h=>by cases h)⟩
  rw [dP]
  exact ⟨fun h=>⟨hf,h.1.symm,h.2.symm⟩,fun h=>⟨h.2.1.symm,h.2.2.symm⟩⟩
 ·exact ⟨(fun h=>by cases h),fun _=>dF (fun h=>hf h.1)⟩
theorem tf (p1:Bool) (A1:Option Addr) (n1 c1:Nat) (l1:List Nat) (w:World) (L1:aq w A1 n1 c1 l1) (hm:n1<=9000) :
 Calls Tryz.prog 76 #[al p1 A1 n1 c1] w (BoolPost (kc p1 l1) w):=by
 have HL:=hid L1
 clear L1
 obtain ⟨xa,hxa⟩:∃ x,x=ci p1 l1:=⟨_,rfl⟩
 obtain ⟨z1,hz1⟩:∃ z,z=decide (xa<0):=⟨_,rfl⟩
 have HV:=hid hxa
 have HZ:=hid hz1
 clear hxa hz1
 obtain ⟨mb,hmb⟩:∃ m,m=kc p1 l1:=⟨_,rfl⟩
 have HMB:=hid hmb
 rw [<- hmb]
 clear hmb
 have X0:=rG w (.bool p1) (.slice A1 n1 c1)
 go_enter Tryz.func76,Tryz.ntmps76
 go_wp2_with fail
 generalize w.heap.size=B0 at X0 ⊢
 generalize w.alloc (.cells #[.bool p1,.slice A1 n1 c1] 24)=w2 at X0 ⊢
 have HX:=hid (X0.num (HL.out.keep0 X0.k))
 clear X0
 obtain ⟨r0,r1,rl⟩:=HX.out.cells (.head _)
 try dsimp only
 go_wp2_with fail
 clear r0 r1 rl
 refine (wC HZ.out HV.out (HX.out.m _ (.head _)) hm).mono ?_
 rintro e w3 ⟨A7,n7,c7,rfl,b7,hn7,k3⟩
 have HNM:=hid (show Calls Tryz.prog 68 #[al z1 A7 n7 c7] w3 (dr xa w3) from by rw [HZ.out];exact lX xa A7 n7 c7 w3 b7)
 have HX1:=hid (HX.out.keep k3)
 clear HX k3
 have HX:=hid HX1.out
 clear HX1
 clear b7
 obtain ⟨r0,r1,rl⟩:=HX.out.cells (.head _)
 try dsimp only
 go_wp2_with fail
 clear r0 r1 rl
 refine HNM.out.mono ?_
 intro e w_x hres
 obtain ⟨k_x,q_x,A_x,n_x,c_x,l_x,f_x,rfl,LM,ln_x,ho⟩:=hres.gen
 rw [HV.out] at ho
 have HO:=hid ho
 clear ho hres HNM
 have HX1:=hid (HX.out.keep k_x)
 clear HX k_x
 have HX:=hid HX1.out
 clear HX1
 have HX1:=hid (HX.out.num LM)
 clear HX LM
 have HX:=hid HX1.out
 clear HX1
 rcases HO.out.two with hf | hf
 ·have HS:=hid ((pN HO.out).1 hf)
  subst hf
  obtain ⟨r0,r1,rl⟩:=HX.out.cells (.head _)
  try dsimp only
  go_wp2_with fail
  clear r0 r1 rl
  have HX1:=hid (HX.out.box (.bool q_x) (.slice A_x n_x c_x))
  clear HX
  have HX:=hid HX1.out
  clear HX1
  refine (mS q_x A_x n_x c_x l_x p1 A1 n1 c1 l1 _ (HX.out.m _ (.head _)) (HX.out.m _ (.tail _ (.head _)))).mono ?_
  rintro e wi ⟨rfl,ki⟩
  rw [HS.out,<- HMB.out]
  have HX1:=hid (HX.out.keep ki)
  clear HX ki
  have HX:=hid HX1.out
  clear HX1
  have HZ9:=hid HX.out.k
  obtain ⟨x0,x1,xl⟩:=HX.out.cells (.head _)
  obtain ⟨r0,r1,rl⟩:=HX.out.cells (.tail _ (.head _))
  try dsimp only
  go_wp2_with fail
  clear x0 x1 xl r0 r1 rl
  go_ret
  exact ⟨rfl,HZ9.out⟩
 ·have HS:=hid (HMB.out.trans ((pN HO.out).2 hf))
  subst hf
  obtain ⟨r0,r1,rl⟩:=HX.out.cells (.head _)
  try dsimp only
  go_wp2_with fail
  clear r0 r1 rl
  have HX1:=hid (HX.out.box (.bool q_x) (.slice A_x n_x c_x))
  clear HX
  have HX:=hid HX1.out
  clear HX1
  have HZ9:=hid HX.out.k
  go_ret
  exact ⟨by rw [HS.out];rfl,HZ9.out⟩
end Go.Proofs.YtonnikipeokkaaaGreatDoor
