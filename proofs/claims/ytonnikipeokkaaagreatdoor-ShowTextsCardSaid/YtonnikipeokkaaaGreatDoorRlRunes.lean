/-
  The document's datum: Runes.
-/
import Derived.Test.YtonnikipeokkaaaGreatDoorPaRl
import Derived.Test.YtonnikipeokkaaaGreatDoorLxTok
import Derived.LoopN
namespace Go.Proofs.YtonnikipeokkaaaGreatDoor
set_option maxRecDepth 100000
set_option maxHeartbeats 8000000
open Go.Lib (hid)
open Go.RowKit Go.Lib
theorem fh:∀ n,dl n []=some []
 | 0=>rfl
 | _+1=>by simp [dl]
theorem ix:∀ (n m:Nat) (l:List UInt8),l.length<=n->l.length<=m->dl n l=dl m l
 | 0,m,l,hn,_=>by
  have:l=[]:=List.eq_nil_of_length_eq_zero (by omega)
  subst this
  rw [fh,fh]
 | n+1,0,l,_,hm=>by
  have:l=[]:=List.eq_nil_of_length_eq_zero (by omega)
  subst this
  rw [fh,fh]
 | n+1,m+1,l,hn,hm=>by
  unfold dl
  by_cases hne:l=[]
  ·simp [hne]
  ·have hw:=bo hne
   rw [if_neg hne,if_neg hne,ix n m (l.drop (decodeL l).2) (by rw [List.length_drop];omega) (by rw [List.length_drop];omega)]
theorem eU:au []=some []:=rfl
theorem dx (l:List UInt8) (hne:l ≠ []):au l=if (decodeL l).1=65533/\(decodeL l).2=1 then none else (au (l.drop (decodeL l).2)).map ((decodeL l).1 :: ·):=by
 have hl:0<l.length:=List.length_pos_iff.2 hne
 have hw:=bo hne
 obtain ⟨n,hn⟩:∃ n,l.length=n+1:=⟨l.length - 1,by omega⟩
 unfold au
 rw [hn,dl,if_neg hne,ix n (l.drop (decodeL l).2).length _ (by rw [List.length_drop];omega) (Nat.le_refl _)]
structure pG (w:World) (l:List UInt8) (i:Nat) (r:List Nat) (A:Option Addr) (n c:Nat) (wr:World):Prop where
 own:aP 21 .i32 wr w.heap.size A n c r
 K:K0 w wr
 eq:au l=(au (l.drop i)).map (r ++ ·)
 le:n<=i
theorem xi:(Tryz.prog.info? 21).map (fun i=>(i.zero,i.size,i.bytes))=some (some (.int .i32 0),1,4):=by kernel_rfl
def aE (l:List UInt8) (w:World) (e:Ending) (w':World):Prop:=
 match au l with
 | none=>e=.returned (.tuple #[.slice none 0 0,.bool false])/\K0 w w'
 | some r=>∃ A c,e=.returned (.tuple #[.slice A r.length c,.bool true])/\aP 21 .i32 w' w.heap.size A r.length c r/\K0 w w'
theorem pG.bad {w wr:World} {l:List UInt8} {i:Nat} {r:List Nat} {A:Option Addr} {n c:Nat} (h:pG w l i r A n c wr) (hi:i<l.length) (hb:decodeL (l.drop i)=(65533,1)):au l=none:=by
 rw [h.eq,dx _ (by rw [ap hi];simp),hb,if_pos ⟨rfl,rfl⟩]
 rfl
theorem lP (wr:World) (x:Int):∀ j u,[Value.int .i32 x][j]? = some u->(wr.alloc (.cells #[.int .i32 x] 21)).cell? ((⟨wr.heap.size,0,none⟩:Addr).add j)=some u:=by
 intro j u hu
 match j with
 | 0=>
  simp at hu
  subst hu
  rw [Addr.add_mid,cell_of_row _ _ _ _ _ _ (hN wr _)]
  rfl
 | j+1=>simp at hu
theorem pG.more {w wr w2 w3:World} {l:List UInt8} {i:Nat} {r:List Nat} {A:Option Addr} {n c:Nat} (h:pG w l i r A n c wr) (hi:i<l.length) {cp wd:Nat} (hd:decodeL (l.drop i)=(cp,wd)) (hg:¬ (cp=65533/\wd=1)) (k:K0 wr w2) {v':Value}
 (hown:w3.ownsRow w.heap.size 21 1 v' (n+1) (r.map (fun x:Nat=>Value.int .i32 (x:Int))++[.int .i32 (cp:Int)])) (hgrow:w2.grownBy w3 (Value.slice A n c).ownBlock) :
 ∃ A' c',v'=.slice A' (n+1) c'/\pG w l (i+wd) (r++[cp]) A' (n+1) c' w3:=by
 have hne:l.drop i ≠ []:=by rw [ap hi];simp
 have hw:=bo hne
 rw [hd] at hw
 obtain ⟨A',c',rfl,ho⟩:=cj (l:=r++[cp]) (q:=.i32) (e:=21) (v:=v') (n:=n+1) (w:=w3) (base:=w.heap.size) (by rw [List.map_append];exact hown)
 refine ⟨A',c',rfl,ho,(h.K.trans k).grown hgrow ?_,?_,by have:=h.le;have:=hw.1;simp only at this;omega⟩
 ·intro b hb
  right
  cases A with
  | none=>simp [Value.ownBlock] at hb
  | some ad=>
   rcases h.own.2 with ⟨e,_⟩ | ⟨g,cap,cur,e,hg2,_⟩
   ·cases e
   ·injection e with e1 _ _
    injection e1 with e1
    subst e1
    simp [Value.ownBlock] at hb
    subst hb
    exact hg2
 ·rw [h.eq,dx _ hne,hd]
  simp only
  rw [if_neg hg,List.drop_drop]
  cases au (l.drop (i+wd))<;>simp
theorem gj (l:List UInt8) (i:Nat):decodeL (l.drop i)=decodeN (l.length - i) (l.getD i 0).toNat (l.getD (i+1) 0).toNat (l.getD (i+2) 0).toNat (l.getD (i+3) 0).toNat:=by
 rw [decodeL_N,List.length_drop,dC,dC,dC,dC];rfl
theorem kd (b m j:Nat) (hm:m=2 ^ j) (hj:j<=31) (hb:b<256):bits .and .i32 (b:Int) ((m:Int) - 1)=((b % m:Nat):Int):=by
 subst hm
 have:=bits_mask .i32 31 (by decide) wraps_i32 j hj (b:Int) (by omega) (by omega)
 rw [show (((2 ^ j:Nat):Int) - 1)=(2:Int) ^ j - 1 by simp,this]
 simp
theorem gM:∀ b:Nat,b<256->bits .and .u8 (b:Int) 63=((b % 64:Nat):Int):=by
 intro b hb
 have H:∀ x:Fin 256,bits .and .u8 ((x.val:Nat):Int) 63=((x.val % 64:Nat):Int):=by decide +kernel
 exact H ⟨b,hb⟩
theorem nM:∀ x:Fin 256,(bits .and .u8 ((x.val:Nat):Int) 192 != 128)=!decide (x.val / 64=2):=by decide +kernel
theorem fJ (b:Nat) (hb:b<256) (h:b / 64=2):(bits .and .u8 (b:Int) 192 != 128)=false:=by rw [nM ⟨b,hb⟩];simp [h]
theorem gR (b:Nat) (hb:b<256) (h:¬ b / 64=2):(bits .and .u8 (b:Int) 192 != 128)=true:=by rw [nM ⟨b,hb⟩];simp [h]
theorem gJ (c x:Int) (h0:0<=c) (h1:c<=32767) (h2:0<=x) (h3:x<=63):bits .or .i32 (c * 64) x=c * 64+x:=
 bits_join .i32 31 (by decide) wraps_i32 6 (c * 64) x (by omega) (by omega) (by omega) (by omega) (by omega) (by omega)
theorem oH (n b0 b1 b2 b3:Nat) (h:194<=b0/\b0<224) (hn:n<2):decodeN n b0 b1 b2 b3=(65533,1):=by
 unfold decodeN;rw [if_neg (by omega),if_neg (by omega),if_neg (by omega),if_neg (by omega)]
theorem oG (n b0 b1 b2 b3:Nat) (h:224<=b0/\b0<240) (hn:n<3):decodeN n b0 b1 b2 b3=(65533,1):=by
 unfold decodeN;rw [if_neg (by omega),if_neg (by omega),if_neg (by omega),if_neg (by omega)]
theorem oF (n b0 b1 b2 b3:Nat) (h:240<=b0/\b0<245) (hn:n<4):decodeN n b0 b1 b2 b3=(65533,1):=by
 unfold decodeN;rw [if_neg (by omega),if_neg (by omega),if_neg (by omega),if_neg (by omega)]
theorem m8 (n b0 b1 b2 b3:Nat) (h:194<=b0/\b0<224) (hn:¬ b1 / 64=2):decodeN n b0 b1 b2 b3=(65533,1):=by
 unfold decodeN;rw [if_neg (by omega),if_neg (by omega),if_neg (by omega),if_neg (by omega)]
theorem m7 (n b0 b1 b2 b3:Nat) (h:224<=b0/\b0<240) (hn:¬ b1 / 64=2):decodeN n b0 b1 b2 b3=(65533,1):=by
 unfold decodeN;rw [if_neg (by omega),if_neg (by omega),if_neg (by omega),if_neg (by omega)]
theorem m6 (n b0 b1 b2 b3:Nat) (h:224<=b0/\b0<240) (hn:¬ b2 / 64=2):decodeN n b0 b1 b2 b3=(65533,1):=by
 unfold decodeN;rw [if_neg (by omega),if_neg (by omega),if_neg (by omega),if_neg (by omega)]
theorem m5 (n b0 b1 b2 b3:Nat) (h:240<=b0/\b0<245) (hn:¬ b1 / 64=2):decodeN n b0 b1 b2 b3=(65533,1):=by
 unfold decodeN;rw [if_neg (by omega),if_neg (by omega),if_neg (by omega),if_neg (by omega)]
theorem m4 (n b0 b1 b2 b3:Nat) (h:240<=b0/\b0<245) (hn:¬ b2 / 64=2):decodeN n b0 b1 b2 b3=(65533,1):=by
 unfold decodeN;rw [if_neg (by omega),if_neg (by omega),if_neg (by omega),if_neg (by omega)]
theorem m3 (n b0 b1 b2 b3:Nat) (h:240<=b0/\b0<245) (hn:¬ b3 / 64=2):decodeN n b0 b1 b2 b3=(65533,1):=by
 unfold decodeN;rw [if_neg (by omega),if_neg (by omega),if_neg (by omega),if_neg (by omega)]
theorem qG (n b0 b1 b2 b3:Nat) (h:194<=b0/\b0<224) (hn:2<=n) (h1:b1 / 64=2):decodeN n b0 b1 b2 b3=(b0 % 32 * 64+b1 % 64,2):=by
 unfold decodeN;rw [if_neg (by omega),if_pos (by omega),if_pos (by omega)]
theorem ti (n b0 b1 b2 b3:Nat) (h:224<=b0/\b0<240) (hm:b0 % 16 * 4096+b1 % 64 * 64+b2 % 64<2048):decodeN n b0 b1 b2 b3=(65533,1):=by
 unfold decodeN
 rw [if_neg (by omega),if_neg (by omega)]
 split
 ·rw [if_neg (by omega)]
 ·rw [if_neg (by omega)]
theorem tp (n b0 b1 b2 b3:Nat) (h:224<=b0/\b0<240) (hm:bn (b0 % 16 * 4096+b1 % 64 * 64+b2 % 64)=false):decodeN n b0 b1 b2 b3=(65533,1):=by
 have hm:=of_decide_eq_false hm
 unfold decodeN
 rw [if_neg (by omega),if_neg (by omega)]
 split
 ·rw [if_neg (by omega)]
 ·rw [if_neg (by omega)]
theorem qF (n b0 b1 b2 b3:Nat) (h:224<=b0/\b0<240) (hn:3<=n) (h1:b1 / 64=2/\b2 / 64=2) (hm:2048<=b0 % 16 * 4096+b1 % 64 * 64+b2 % 64) (hc:bn (b0 % 16 * 4096+b1 % 64 * 64+b2 % 64)=true):decodeN n b0 b1 b2 b3=(b0 % 16 * 4096+b1 % 64 * 64+b2 % 64,3):=by
 have hc:=of_decide_eq_true hc
 unfold decodeN;rw [if_neg (by omega),if_neg (by omega),if_pos (by omega),if_pos (by omega)]
theorem th (n b0 b1 b2 b3:Nat) (h:240<=b0/\b0<245) (hm:b0 % 8 * 262144+b1 % 64 * 4096+b2 % 64 * 64+b3 % 64<65536):decodeN n b0 b1 b2 b3=(65533,1):=by
 unfold decodeN
 rw [if_neg (by omega),if_neg (by omega),if_neg (by omega)]
 split
 ·rw [if_neg (by omega)]
 ·rfl
theorem tj (n b0 b1 b2 b3:Nat) (h:240<=b0/\b0<245) (hm:bn (b0 % 8 * 262144+b1 % 64 * 4096+b2 % 64 * 64+b3 % 64)=false):decodeN n b0 b1 b2 b3=(65533,1):=by
 have hm:=of_decide_eq_false hm
 unfold decodeN
 rw [if_neg (by omega),if_neg (by omega),if_neg (by omega)]
 split
 ·rw [if_neg (by omega)]
 ·rfl
theorem qE (n b0 b1 b2 b3:Nat) (h:240<=b0/\b0<245) (hn:4<=n) (h1:b1 / 64=2/\b2 / 64=2/\b3 / 64=2) (hm:65536<=b0 % 8 * 262144+b1 % 64 * 4096+b2 % 64 * 64+b3 % 64) (hc:bn (b0 % 8 * 262144+b1 % 64 * 4096+b2 % 64 * 64+b3 % 64)=true):decodeN n b0 b1 b2 b3=(b0 % 8 * 262144+b1 % 64 * 4096+b2 % 64 * 64+b3 % 64,4):=by
 have hc:=of_decide_eq_true hc
 unfold decodeN;rw [if_neg (by omega),if_neg (by omega),if_neg (by omega),if_pos (by omega),if_pos (by omega)]
theorem bU (s:ByteArray) (w:World) (hs:s.size<=1000000):Calls Tryz.prog 63 #[.string s] w (aE s.data.toList w):=by
 have hz:s.data.toList.length=s.size:=(Lib.size_eq s).symm
 have hat:=fun (k:Nat) (hk:k<s.size)=>aK s k (by rw [hz];exact hk) _ rfl
 have HAT:=hid hat
 obtain ⟨l,hl⟩:∃ l,l=s.data.toList:=⟨_,rfl⟩
 rw [<- hl] at hz HAT ⊢
 have HZ:=hid hz
 clear hl hz hat
 obtain ⟨i21,h21,hz0,hz1,hz2⟩:=info_parts xi
 go_enter Tryz.func63,Tryz.ntmps63
 go_wp2_with fail
 go_loopw [4,5] (fun v iv wr=>∃ (i:Nat) (r:List Nat) (A:Option Addr) (n c:Nat),i<=s.size/\v=.slice A n c/\iv=.int .i64 (i:Int)/\pG w l i r A n c wr) (fun _ iv _=>s.size - (intOf iv).toNat)
 case atStart=>exact ⟨0,[],none,0,0,Nat.zero_le _,rfl,rfl,aP.nil _ _ _ _,kR,by rw [List.drop_zero];cases au l<;>rfl,Nat.le_refl _⟩
 case round=>
  obtain ⟨i,r,A,n,c,hi,rfl,rfl,hst⟩:=hrel
  have HS:=hid hst
  clear hst
  by_cases hlt:i<s.size
  ·have hx:=HAT.out i hlt
   have h0:decide ((i:Int)<(s.size:Int))=true:=dT (by omega)
   obtain ⟨b,hb⟩:∃ b,b=l.getD i 0:=⟨_,rfl⟩
   rw [<- hb] at hx
   have HB:=hid hb
   clear hb
   obtain ⟨b0,hb0⟩:∃ b0:Nat,b0=b.toNat:=⟨_,rfl⟩
   rw [<- hb0] at hx
   have HB0:=hid hb0
   have hb256:b0<256:=by rw [hb0];exact b.toNat_lt
   clear hb0
   have i0:(0:Int)<=(i:Int):=by omega
   have i1:(i:Int)<(s.size:Int):=by omega
   go_wp2_with fail
   go_quiet (fail)
   have hkq:K0 wr (wr.drewN nq):=kR.drewN nq
   have hs2:pG w l i r A n c (wr.drewN nq):=⟨HS.out.own.keep0 hkq,HS.out.K.trans hkq,HS.out.eq,HS.out.le⟩
   generalize wr.drewN nq=wq at hs2 ⊢
   clear hkq HS
   have HS:=hid hs2
   clear hs2
   by_cases g1:b0<128
   ·have d1:decide ((b0:Int)<128)=true:=dT (by omega)
    have hch:bn b0=true:=by unfold bn;exact dT (by omega)
    have HCH:=hid hch
    have HD0:=hid (show decodeL (l.drop i)=(b0,1) by rw [gj,<- HB.out,<- HB0.out];unfold decodeN;rw [if_pos g1])
    have HLT:=hid g1
    clear hch g1
    go_wp2_with fail
    refine wp_loop_rounds 1 ?_
    rw [rounds_succ]
    go_wp2_with fail
    refine (eP b0 _ rfl _).mono ?_
    rintro e w1 ⟨rfl,rfl⟩
    rw [HCH.out]
    try dsimp only
    obtain ⟨cp,hcp⟩:∃ cp:Nat,cp=b0:=⟨_,rfl⟩
    rw [<- hcp]
    have hdd:decodeL (l.drop i)=(cp,1):=by rw [hcp];exact HD0.out
    have HG:=hid (show ¬ (cp=65533/\1=1) by rw [hcp];have:=HLT.out;omega)
    have HDD:=hid hdd
    have HCP:=hid hcp
    clear hcp hdd
    have KW:K0 wq (wq.alloc (.cells #[.int .i32 (cp:Int)] 21)):=kR.alloc _
    have HOWN:=hid (HS.out.own.keep0 KW)
    have HNEW:=hid (lP wq (cp:Int))
    have HBS:=hid (Nat.le_trans HS.out.K.size KW.size)
    have HKW:=hid KW
    have hni:=HS.out.le
    clear KW
    go_wp2_with (at_builtin;refine wpList_append_own _ rfl (.tmp 94) (.tmp 96) 110 rfl w.heap.size 21 i21 (.int .i32 0) 1 4 Tryz.underlying110 h21 hz0 hz1 hz2 rfl (by decide) _ _ _ rfl HOWN.out ⟨wq.heap.size,0,none⟩ 1 1 [.int .i32 (cp:Int)] rfl rfl HNEW.out ?a1 ?a2 ?a3 HBS.out ?_)
    case a1=>first | rfl | (intro u hu;simp at hu;subst hu;rfl)
    case a2=>unfold maxLen;omega
    case a3=>omega
    intro v' w6 hown hgrow _
    obtain ⟨A2,c2,rfl,HM⟩:=HS.out.more (by rw [HZ.out];exact hlt) HDD.out (by first | (simp;done) | (have:=HG.out;simpa using this)) HKW.out hown hgrow
    have HMM:=hid HM
    clear hown hgrow HM
    go_wp2_with fail
    go_roundw
    case rel=>exact ⟨i+1,_,A2,_,c2,by omega,rfl,by go_num,HMM.out⟩
    case measure=>simp [intOf];omega
   have d1:decide ((b0:Int)<128)=false:=dF (by omega)
   by_cases g2:b0<194\/245<=b0
   ·have HBAD:=hid (HS.out.bad (by rw [HZ.out];exact hlt) (by rw [gj,<- HB.out,<- HB0.out];exact decodeN_bad _ _ _ _ _ (by omega)))
    have key:(decide ((194:Int)<=(b0:Int))=true->decide ((b0:Int)<224)=false)/\(decide ((224:Int)<=(b0:Int))=true->decide ((b0:Int)<240)=false)/\(decide ((240:Int)<=(b0:Int))=true->decide ((b0:Int)<245)=false):=by
     refine ⟨fun h=>?_,fun h=>?_,fun h=>?_⟩<;>(have:=of_decide_eq_true h;exact dF (by omega))
    clear g1 g2
    obtain ⟨k1,k2,k3⟩:=key
    cases q1:decide ((194:Int)<=(b0:Int))<;>cases q2:decide ((224:Int)<=(b0:Int))<;>cases q3:decide ((240:Int)<=(b0:Int))
    all_goals
     simp only [q1,q2,q3,true_implies,reduceCtorEq,false_implies] at k1 k2 k3
     go_wp2_with fail
     go_ret2
     unfold aE
     rw [HBAD.out]
     exact ⟨rfl,HS.out.K⟩
   by_cases g3:b0<224
   ·have q194:decide ((194:Int)<=(b0:Int))=true:=dT (by omega)
    have p194:decide ((b0:Int)<224)=true:=dT (by omega)
    obtain ⟨C0,hC0⟩:∃ C:Int,C=((b0 % 32:Nat):Int):=⟨_,rfl⟩
    have m0:bits .and .i32 (b0:Int) 31=C0:=by rw [hC0];exact kd b0 32 5 rfl (by omega) (by omega)
    have HC0:=hid hC0
    have r0:0<=C0:=by omega
    have r1:C0<=31:=by omega
    have HCL:=hid (show 194<=b0/\b0<224 by omega)
    clear hC0
    by_cases gl:s.size<i+2
    ·have t0:decide ((s.size:Int)<(i:Int)+2)=true:=dT (by omega)
     have HBAD:=hid (HS.out.bad (by rw [HZ.out];exact hlt) (by rw [gj,<- HB.out,<- HB0.out];exact oH _ _ _ _ _ HCL.out (by rw [HZ.out];omega) ))
     clear g1 g2 g3
     go_wp2_with fail
     go_ret2
     unfold aE
     rw [HBAD.out]
     exact ⟨rfl,HS.out.K⟩
    have t0:decide ((s.size:Int)<(i:Int)+2)=false:=dF (by omega)
    have t0n:decide (s.size<i+2)=false:=dF (by omega)
    have hx1:=HAT.out (i+1) (by omega)
    have hx1:∀ W:World,(Instr.index 9 (.string s) (.int .i64 ((i:Int)+1))).run Tryz.prog W=.ok (.int .u8 ((l.getD (i+1) 0).toNat:Int)) W:=hx1
    obtain ⟨b1,hb1⟩:∃ b:Nat,b=(l.getD (i+1) 0).toNat:=⟨_,rfl⟩
    rw [<- hb1] at hx1
    have HB1:=hid hb1
    have l1:b1<256:=by rw [hb1];exact (l.getD (i+1) 0).toNat_lt
    clear g1 g2 g3 hb1
    obtain ⟨bz,HBZ⟩:∃ f:Nat->Nat,Hid (f=fun j=>(l.getD (i+j) 0).toNat):=⟨_,hid rfl⟩
    have HDEC:=hid (show decodeL (l.drop i)=decodeN (l.length - i) b0 b1 (l.getD (i+2) 0).toNat (l.getD (i+3) 0).toNat by rw [gj,<- HB.out,<- HB0.out,<- HB1.out])
    have HLEN:=hid (show 2<=l.length - i by rw [HZ.out];omega)
    go_wp2_with fail
    refine wp_loop_rounds 2 ?_
    rw [rounds_succ]
    by_cases v1:b1 / 64=2
    case neg=>
     have z1:(bits .and .u8 (b1:Int) 192 != 128)=true:=gR b1 l1 v1
     have HBAD:=hid (HS.out.bad (by rw [HZ.out];exact hlt) (by rw [HDEC.out];exact m8 _ _ _ _ _ HCL.out v1))
     clear v1
     go_wp2_with fail
     go_ret2
     unfold aE
     rw [HBAD.out]
     exact ⟨rfl,HS.out.K⟩
    have z1:(bits .and .u8 (b1:Int) 192 != 128)=false:=fJ b1 l1 v1
    obtain ⟨X1,hX1⟩:∃ X:Int,X=((b1 % 64:Nat):Int):=⟨_,rfl⟩
    have x1:bits .and .u8 (b1:Int) 63=X1:=by rw [hX1];exact gM b1 l1
    obtain ⟨C1,hC1⟩:∃ C:Int,C=C0 * 64+X1:=⟨_,rfl⟩
    have y1:0<=X1:=by omega
    have y1':X1<=63:=by omega
    have o1:bits .or .i32 (C0 * 64) X1=C1:=by rw [hC1];exact gJ C0 X1 (by omega) (by omega) (by omega) (by omega)
    have HC1:=hid hC1
    have HX1:=hid hX1
    have HV1:=hid v1
    have r2:0<=C1:=by omega
    have r3:C1<=2047:=by omega
    clear hC1 hX1 v1
    go_wp2_with fail
    have HCV:=hid (show C1=((b0 % 32 * 64+b1 % 64:Nat):Int) by rw [HC1.out,HX1.out,HC0.out];omega)
    have HCH:=hid (show bn (b0 % 32 * 64+b1 % 64)=true by unfold bn;exact dT (by have:=HCL.out;omega))
    have HD0:=hid (show decodeL (l.drop i)=(b0 % 32 * 64+b1 % 64,2) by rw [HDEC.out];exact qG _ _ _ _ _ HCL.out HLEN.out HV1.out)
    rw [rounds_succ]
    go_wp2_with fail
    refine (eP (b0 % 32 * 64+b1 % 64) C1 HCV.out _).mono ?_
    rintro e w1 ⟨rfl,rfl⟩
    rw [HCH.out,HCV.out]
    try dsimp only
    obtain ⟨cp,hcp⟩:∃ cp:Nat,cp=b0 % 32 * 64+b1 % 64:=⟨_,rfl⟩
    rw [<- hcp]
    have hdd:decodeL (l.drop i)=(cp,2):=by rw [hcp];exact HD0.out
    have HG:=hid (show ¬ (cp=65533/\2=1) by rw [hcp];omega)
    have HDD:=hid hdd
    have HCP:=hid hcp
    clear hcp hdd
    have KW:K0 wq (wq.alloc (.cells #[.int .i32 (cp:Int)] 21)):=kR.alloc _
    have HOWN:=hid (HS.out.own.keep0 KW)
    have HNEW:=hid (lP wq (cp:Int))
    have HBS:=hid (Nat.le_trans HS.out.K.size KW.size)
    have HKW:=hid KW
    have hni:=HS.out.le
    clear KW
    go_wp2_with (at_builtin;refine wpList_append_own _ rfl (.tmp 94) (.tmp 96) 110 rfl w.heap.size 21 i21 (.int .i32 0) 1 4 Tryz.underlying110 h21 hz0 hz1 hz2 rfl (by decide) _ _ _ rfl HOWN.out ⟨wq.heap.size,0,none⟩ 1 1 [.int .i32 (cp:Int)] rfl rfl HNEW.out ?a1 ?a2 ?a3 HBS.out ?_)
    case a1=>first | rfl | (intro u hu;simp at hu;subst hu;rfl)
    case a2=>unfold maxLen;omega
    case a3=>omega
    intro v' w6 hown hgrow _
    obtain ⟨A2,c2,rfl,HM⟩:=HS.out.more (by rw [HZ.out];exact hlt) HDD.out (by first | (simp;done) | (have:=HG.out;simpa using this)) HKW.out hown hgrow
    have HMM:=hid HM
    clear hown hgrow HM
    go_wp2_with fail
    go_roundw
    case rel=>exact ⟨i+2,_,A2,_,c2,by omega,rfl,by go_num,HMM.out⟩
    case measure=>simp [intOf];omega
   by_cases g4:b0<240
   ·have q194:decide ((194:Int)<=(b0:Int))=true:=dT (by omega)
    have p194:decide ((b0:Int)<224)=false:=dF (by omega)
    have q224:decide ((224:Int)<=(b0:Int))=true:=dT (by omega)
    have p224:decide ((b0:Int)<240)=true:=dT (by omega)
    obtain ⟨C0,hC0⟩:∃ C:Int,C=((b0 % 16:Nat):Int):=⟨_,rfl⟩
    have m0:bits .and .i32 (b0:Int) 15=C0:=by rw [hC0];exact kd b0 16 4 rfl (by omega) (by omega)
    have HC0:=hid hC0
    have r0:0<=C0:=by omega
    have r1:C0<=15:=by omega
    have HCL:=hid (show 224<=b0/\b0<240 by omega)
    clear hC0
    by_cases gl:s.size<i+3
    ·have t0:decide ((s.size:Int)<(i:Int)+3)=true:=dT (by omega)
     have HBAD:=hid (HS.out.bad (by rw [HZ.out];exact hlt) (by rw [gj,<- HB.out,<- HB0.out];exact oG _ _ _ _ _ HCL.out (by rw [HZ.out];omega) ))
     clear g1 g2 g3 g4
     go_wp2_with fail
     go_ret2
     unfold aE
     rw [HBAD.out]
     exact ⟨rfl,HS.out.K⟩
    have t0:decide ((s.size:Int)<(i:Int)+3)=false:=dF (by omega)
    have t0n:decide (s.size<i+3)=false:=dF (by omega)
    have hx1:=HAT.out (i+1) (by omega)
    have hx1:∀ W:World,(Instr.index 9 (.string s) (.int .i64 ((i:Int)+1))).run Tryz.prog W=.ok (.int .u8 ((l.getD (i+1) 0).toNat:Int)) W:=hx1
    obtain ⟨b1,hb1⟩:∃ b:Nat,b=(l.getD (i+1) 0).toNat:=⟨_,rfl⟩
    rw [<- hb1] at hx1
    have HB1:=hid hb1
    have l1:b1<256:=by rw [hb1];exact (l.getD (i+1) 0).toNat_lt
    have hx2:=HAT.out (i+2) (by omega)
    have hx2:∀ W:World,(Instr.index 9 (.string s) (.int .i64 ((i:Int)+2))).run Tryz.prog W=.ok (.int .u8 ((l.getD (i+2) 0).toNat:Int)) W:=hx2
    obtain ⟨b2,hb2⟩:∃ b:Nat,b=(l.getD (i+2) 0).toNat:=⟨_,rfl⟩
    rw [<- hb2] at hx2
    have HB2:=hid hb2
    have l2:b2<256:=by rw [hb2];exact (l.getD (i+2) 0).toNat_lt
    clear g1 g2 g3 g4 hb1 hb2
    obtain ⟨bz,HBZ⟩:∃ f:Nat->Nat,Hid (f=fun j=>(l.getD (i+j) 0).toNat):=⟨_,hid rfl⟩
    have HDEC:=hid (show decodeL (l.drop i)=decodeN (l.length - i) b0 b1 b2 (l.getD (i+3) 0).toNat by rw [gj,<- HB.out,<- HB0.out,<- HB1.out,<- HB2.out])
    have HLEN:=hid (show 3<=l.length - i by rw [HZ.out];omega)
    go_wp2_with fail
    refine wp_loop_rounds 3 ?_
    rw [rounds_succ]
    by_cases v1:b1 / 64=2
    case neg=>
     have z1:(bits .and .u8 (b1:Int) 192 != 128)=true:=gR b1 l1 v1
     have HBAD:=hid (HS.out.bad (by rw [HZ.out];exact hlt) (by rw [HDEC.out];exact m7 _ _ _ _ _ HCL.out v1))
     clear v1
     go_wp2_with fail
     go_ret2
     unfold aE
     rw [HBAD.out]
     exact ⟨rfl,HS.out.K⟩
    have z1:(bits .and .u8 (b1:Int) 192 != 128)=false:=fJ b1 l1 v1
    obtain ⟨X1,hX1⟩:∃ X:Int,X=((b1 % 64:Nat):Int):=⟨_,rfl⟩
    have x1:bits .and .u8 (b1:Int) 63=X1:=by rw [hX1];exact gM b1 l1
    obtain ⟨C1,hC1⟩:∃ C:Int,C=C0 * 64+X1:=⟨_,rfl⟩
    have y1:0<=X1:=by omega
    have y1':X1<=63:=by omega
    have o1:bits .or .i32 (C0 * 64) X1=C1:=by rw [hC1];exact gJ C0 X1 (by omega) (by omega) (by omega) (by omega)
    have HC1:=hid hC1
    have HX1:=hid hX1
    have HV1:=hid v1
    have r2:0<=C1:=by omega
    have r3:C1<=1023:=by omega
    clear hC1 hX1 v1
    go_wp2_with fail
    rw [rounds_succ]
    by_cases v2:b2 / 64=2
    case neg=>
     have z2:(bits .and .u8 (b2:Int) 192 != 128)=true:=gR b2 l2 v2
     have HBAD:=hid (HS.out.bad (by rw [HZ.out];exact hlt) (by rw [HDEC.out];exact m6 _ _ _ _ _ HCL.out v2))
     clear v2
     go_wp2_with fail
     go_ret2
     unfold aE
     rw [HBAD.out]
     exact ⟨rfl,HS.out.K⟩
    have z2:(bits .and .u8 (b2:Int) 192 != 128)=false:=fJ b2 l2 v2
    obtain ⟨X2,hX2⟩:∃ X:Int,X=((b2 % 64:Nat):Int):=⟨_,rfl⟩
    have x2:bits .and .u8 (b2:Int) 63=X2:=by rw [hX2];exact gM b2 l2
    obtain ⟨C2,hC2⟩:∃ C:Int,C=C1 * 64+X2:=⟨_,rfl⟩
    have y2:0<=X2:=by omega
    have y2':X2<=63:=by omega
    have o2:bits .or .i32 (C1 * 64) X2=C2:=by rw [hC2];exact gJ C1 X2 (by omega) (by omega) (by omega) (by omega)
    have HC2:=hid hC2
    have HX2:=hid hX2
    have HV2:=hid v2
    have r4:0<=C2:=by omega
    have r5:C2<=65535:=by omega
    clear hC2 hX2 v2
    go_wp2_with fail
    have HCV:=hid (show C2=((b0 % 16 * 4096+b1 % 64 * 64+b2 % 64:Nat):Int) by rw [HC2.out,HX2.out,HC1.out,HX1.out,HC0.out];omega)
    rw [rounds_succ]
    by_cases gm:C2<2048
    ·have t1:decide (C2<2048)=true:=dT gm
     have HBAD:=hid (HS.out.bad (by rw [HZ.out];exact hlt) (by rw [HDEC.out];exact ti _ _ _ _ _ HCL.out (by have:=HCV.out;omega)))
     clear gm
     go_wp2_with fail
     go_ret2
     unfold aE
     rw [HBAD.out]
     exact ⟨rfl,HS.out.K⟩
    have t1:decide (C2<2048)=false:=dF gm
    have HGM:=hid gm
    clear gm
    obtain ⟨cb,hcb⟩:∃ cb,cb=bn (b0 % 16 * 4096+b1 % 64 * 64+b2 % 64):=⟨_,rfl⟩
    have HCB:=hid hcb
    clear hcb
    go_wp2_with fail
    refine (eP (b0 % 16 * 4096+b1 % 64 * 64+b2 % 64) C2 HCV.out _).mono ?_
    rintro e w1 ⟨rfl,rfl⟩
    rw [<- HCB.out]
    cases cb with
    | false=>
     have HBAD:=hid (HS.out.bad (by rw [HZ.out];exact hlt) (by rw [HDEC.out];exact tp _ _ _ _ _ HCL.out HCB.out.symm))
     try dsimp only
     go_wp2_with fail
     go_ret2
     unfold aE
     rw [HBAD.out]
     exact ⟨rfl,HS.out.K⟩
    | true=>
     have HD0:=hid (show decodeL (l.drop i)=(b0 % 16 * 4096+b1 % 64 * 64+b2 % 64,3) by rw [HDEC.out];exact qF _ _ _ _ _ HCL.out HLEN.out ⟨HV1.out,HV2.out⟩ (by have:=HGM.out;have:=HCV.out;omega) HCB.out.symm)
     rw [HCV.out]
     try dsimp only
     obtain ⟨cp,hcp⟩:∃ cp:Nat,cp=b0 % 16 * 4096+b1 % 64 * 64+b2 % 64:=⟨_,rfl⟩
     rw [<- hcp]
     have hdd:decodeL (l.drop i)=(cp,3):=by rw [hcp];exact HD0.out
     have HG:=hid (show ¬ (cp=65533/\3=1) by rw [hcp];omega)
     have HDD:=hid hdd
     have HCP:=hid hcp
     clear hcp hdd
     have KW:K0 wq (wq.alloc (.cells #[.int .i32 (cp:Int)] 21)):=kR.alloc _
     have HOWN:=hid (HS.out.own.keep0 KW)
     have HNEW:=hid (lP wq (cp:Int))
     have HBS:=hid (Nat.le_trans HS.out.K.size KW.size)
     have HKW:=hid KW
     have hni:=HS.out.le
     clear KW
     go_wp2_with (at_builtin;refine wpList_append_own _ rfl (.tmp 94) (.tmp 96) 110 rfl w.heap.size 21 i21 (.int .i32 0) 1 4 Tryz.underlying110 h21 hz0 hz1 hz2 rfl (by decide) _ _ _ rfl HOWN.out ⟨wq.heap.size,0,none⟩ 1 1 [.int .i32 (cp:Int)] rfl rfl HNEW.out ?a1 ?a2 ?a3 HBS.out ?_)
     case a1=>first | rfl | (intro u hu;simp at hu;subst hu;rfl)
     case a2=>unfold maxLen;omega
     case a3=>omega
     intro v' w6 hown hgrow _
     obtain ⟨A2,c2,rfl,HM⟩:=HS.out.more (by rw [HZ.out];exact hlt) HDD.out (by first | (simp;done) | (have:=HG.out;simpa using this)) HKW.out hown hgrow
     have HMM:=hid HM
     clear hown hgrow HM
     go_wp2_with fail
     go_roundw
     case rel=>exact ⟨i+3,_,A2,_,c2,by omega,rfl,by go_num,HMM.out⟩
     case measure=>simp [intOf];omega
   have q194:decide ((194:Int)<=(b0:Int))=true:=dT (by omega)
   have p194:decide ((b0:Int)<224)=false:=dF (by omega)
   have q224:decide ((224:Int)<=(b0:Int))=true:=dT (by omega)
   have p224:decide ((b0:Int)<240)=false:=dF (by omega)
   have q240:decide ((240:Int)<=(b0:Int))=true:=dT (by omega)
   have p240:decide ((b0:Int)<245)=true:=dT (by omega)
   obtain ⟨C0,hC0⟩:∃ C:Int,C=((b0 % 8:Nat):Int):=⟨_,rfl⟩
   have m0:bits .and .i32 (b0:Int) 7=C0:=by rw [hC0];exact kd b0 8 3 rfl (by omega) (by omega)
   have HC0:=hid hC0
   have r0:0<=C0:=by omega
   have r1:C0<=7:=by omega
   have HCL:=hid (show 240<=b0/\b0<245 by omega)
   clear hC0
   by_cases gl:s.size<i+4
   ·have t0:decide ((s.size:Int)<(i:Int)+4)=true:=dT (by omega)
    have HBAD:=hid (HS.out.bad (by rw [HZ.out];exact hlt) (by rw [gj,<- HB.out,<- HB0.out];exact oF _ _ _ _ _ HCL.out (by rw [HZ.out];omega) ))
    clear g1 g2 g3 g4
    go_wp2_with fail
    go_ret2
    unfold aE
    rw [HBAD.out]
    exact ⟨rfl,HS.out.K⟩
   have t0:decide ((s.size:Int)<(i:Int)+4)=false:=dF (by omega)
   have t0n:decide (s.size<i+4)=false:=dF (by omega)
   have hx1:=HAT.out (i+1) (by omega)
   have hx1:∀ W:World,(Instr.index 9 (.string s) (.int .i64 ((i:Int)+1))).run Tryz.prog W=.ok (.int .u8 ((l.getD (i+1) 0).toNat:Int)) W:=hx1
   obtain ⟨b1,hb1⟩:∃ b:Nat,b=(l.getD (i+1) 0).toNat:=⟨_,rfl⟩
   rw [<- hb1] at hx1
   have HB1:=hid hb1
   have l1:b1<256:=by rw [hb1];exact (l.getD (i+1) 0).toNat_lt
   have hx2:=HAT.out (i+2) (by omega)
   have hx2:∀ W:World,(Instr.index 9 (.string s) (.int .i64 ((i:Int)+2))).run Tryz.prog W=.ok (.int .u8 ((l.getD (i+2) 0).toNat:Int)) W:=hx2
   obtain ⟨b2,hb2⟩:∃ b:Nat,b=(l.getD (i+2) 0).toNat:=⟨_,rfl⟩
   rw [<- hb2] at hx2
   have HB2:=hid hb2
   have l2:b2<256:=by rw [hb2];exact (l.getD (i+2) 0).toNat_lt
   have hx3:=HAT.out (i+3) (by omega)
   have hx3:∀ W:World,(Instr.index 9 (.string s) (.int .i64 ((i:Int)+3))).run Tryz.prog W=.ok (.int .u8 ((l.getD (i+3) 0).toNat:Int)) W:=hx3
   obtain ⟨b3,hb3⟩:∃ b:Nat,b=(l.getD (i+3) 0).toNat:=⟨_,rfl⟩
   rw [<- hb3] at hx3
   have HB3:=hid hb3
   have l3:b3<256:=by rw [hb3];exact (l.getD (i+3) 0).toNat_lt
   clear g1 g2 g3 g4 hb1 hb2 hb3
   have HDEC:=hid (show decodeL (l.drop i)=decodeN (l.length - i) b0 b1 b2 b3 by rw [gj,<- HB.out,<- HB0.out,<- HB1.out,<- HB2.out,<- HB3.out])
   have HLEN:=hid (show 4<=l.length - i by rw [HZ.out];omega)
   go_wp2_with fail
   refine wp_loop_rounds 4 ?_
   rw [rounds_succ]
   by_cases v1:b1 / 64=2
   case neg=>
    have z1:(bits .and .u8 (b1:Int) 192 != 128)=true:=gR b1 l1 v1
    have HBAD:=hid (HS.out.bad (by rw [HZ.out];exact hlt) (by rw [HDEC.out];exact m5 _ _ _ _ _ HCL.out v1))
    clear v1
    go_wp2_with fail
    go_ret2
    unfold aE
    rw [HBAD.out]
    exact ⟨rfl,HS.out.K⟩
   have z1:(bits .and .u8 (b1:Int) 192 != 128)=false:=fJ b1 l1 v1
   obtain ⟨X1,hX1⟩:∃ X:Int,X=((b1 % 64:Nat):Int):=⟨_,rfl⟩
   have x1:bits .and .u8 (b1:Int) 63=X1:=by rw [hX1];exact gM b1 l1
   obtain ⟨C1,hC1⟩:∃ C:Int,C=C0 * 64+X1:=⟨_,rfl⟩
   have y1:0<=X1:=by omega
   have y1':X1<=63:=by omega
   have o1:bits .or .i32 (C0 * 64) X1=C1:=by rw [hC1];exact gJ C0 X1 (by omega) (by omega) (by omega) (by omega)
   have HC1:=hid hC1
   have HX1:=hid hX1
   have HV1:=hid v1
   have r2:0<=C1:=by omega
   have r3:C1<=511:=by omega
   clear hC1 hX1 v1
   go_wp2_with fail
   rw [rounds_succ]
   by_cases v2:b2 / 64=2
   case neg=>
    have z2:(bits .and .u8 (b2:Int) 192 != 128)=true:=gR b2 l2 v2
    have HBAD:=hid (HS.out.bad (by rw [HZ.out];exact hlt) (by rw [HDEC.out];exact m4 _ _ _ _ _ HCL.out v2))
    clear v2
    go_wp2_with fail
    go_ret2
    unfold aE
    rw [HBAD.out]
    exact ⟨rfl,HS.out.K⟩
   have z2:(bits .and .u8 (b2:Int) 192 != 128)=false:=fJ b2 l2 v2
   obtain ⟨X2,hX2⟩:∃ X:Int,X=((b2 % 64:Nat):Int):=⟨_,rfl⟩
   have x2:bits .and .u8 (b2:Int) 63=X2:=by rw [hX2];exact gM b2 l2
   obtain ⟨C2,hC2⟩:∃ C:Int,C=C1 * 64+X2:=⟨_,rfl⟩
   have y2:0<=X2:=by omega
   have y2':X2<=63:=by omega
   have o2:bits .or .i32 (C1 * 64) X2=C2:=by rw [hC2];exact gJ C1 X2 (by omega) (by omega) (by omega) (by omega)
   have HC2:=hid hC2
   have HX2:=hid hX2
   have HV2:=hid v2
   have r4:0<=C2:=by omega
   have r5:C2<=32767:=by omega
   clear hC2 hX2 v2
   go_wp2_with fail
   rw [rounds_succ]
   by_cases v3:b3 / 64=2
   case neg=>
    have z3:(bits .and .u8 (b3:Int) 192 != 128)=true:=gR b3 l3 v3
    have HBAD:=hid (HS.out.bad (by rw [HZ.out];exact hlt) (by rw [HDEC.out];exact m3 _ _ _ _ _ HCL.out v3))
    clear v3
    go_wp2_with fail
    go_ret2
    unfold aE
    rw [HBAD.out]
    exact ⟨rfl,HS.out.K⟩
   have z3:(bits .and .u8 (b3:Int) 192 != 128)=false:=fJ b3 l3 v3
   obtain ⟨X3,hX3⟩:∃ X:Int,X=((b3 % 64:Nat):Int):=⟨_,rfl⟩
   have x3:bits .and .u8 (b3:Int) 63=X3:=by rw [hX3];exact gM b3 l3
   obtain ⟨C3,hC3⟩:∃ C:Int,C=C2 * 64+X3:=⟨_,rfl⟩
   have y3:0<=X3:=by omega
   have y3':X3<=63:=by omega
   have o3:bits .or .i32 (C2 * 64) X3=C3:=by rw [hC3];exact gJ C2 X3 (by omega) (by omega) (by omega) (by omega)
   have HC3:=hid hC3
   have HX3:=hid hX3
   have HV3:=hid v3
   have r6:0<=C3:=by omega
   have r7:C3<=2097151:=by omega
   clear hC3 hX3 v3
   go_wp2_with fail
   have HCV:=hid (show C3=((b0 % 8 * 262144+b1 % 64 * 4096+b2 % 64 * 64+b3 % 64:Nat):Int) by rw [HC3.out,HX3.out,HC2.out,HX2.out,HC1.out,HX1.out,HC0.out];omega)
   rw [rounds_succ]
   by_cases gm:C3<65536
   ·have t1:decide (C3<65536)=true:=dT gm
    have HBAD:=hid (HS.out.bad (by rw [HZ.out];exact hlt) (by rw [HDEC.out];exact th _ _ _ _ _ HCL.out (by have:=HCV.out;omega)))
    clear gm
    go_wp2_with fail
    go_ret2
    unfold aE
    rw [HBAD.out]
    exact ⟨rfl,HS.out.K⟩
   have t1:decide (C3<65536)=false:=dF gm
   have HGM:=hid gm
   clear gm
   obtain ⟨cb,hcb⟩:∃ cb,cb=bn (b0 % 8 * 262144+b1 % 64 * 4096+b2 % 64 * 64+b3 % 64):=⟨_,rfl⟩
   have HCB:=hid hcb
   clear hcb
   go_wp2_with fail
   refine (eP (b0 % 8 * 262144+b1 % 64 * 4096+b2 % 64 * 64+b3 % 64) C3 HCV.out _).mono ?_
   rintro e w1 ⟨rfl,rfl⟩
   rw [<- HCB.out]
   cases cb with
   | false=>
    have HBAD:=hid (HS.out.bad (by rw [HZ.out];exact hlt) (by rw [HDEC.out];exact tj _ _ _ _ _ HCL.out HCB.out.symm))
    try dsimp only
    go_wp2_with fail
    go_ret2
    unfold aE
    rw [HBAD.out]
    exact ⟨rfl,HS.out.K⟩
   | true=>
    have HD0:=hid (show decodeL (l.drop i)=(b0 % 8 * 262144+b1 % 64 * 4096+b2 % 64 * 64+b3 % 64,4) by rw [HDEC.out];exact qE _ _ _ _ _ HCL.out HLEN.out ⟨HV1.out,HV2.out,HV3.out⟩ (by have:=HGM.out;have:=HCV.out;omega) HCB.out.symm)
    rw [HCV.out]
    try dsimp only
    obtain ⟨cp,hcp⟩:∃ cp:Nat,cp=b0 % 8 * 262144+b1 % 64 * 4096+b2 % 64 * 64+b3 % 64:=⟨_,rfl⟩
    rw [<- hcp]
    have hdd:decodeL (l.drop i)=(cp,4):=by rw [hcp];exact HD0.out
    have HG:=hid (show ¬ (cp=65533/\4=1) by rw [hcp];omega)
    have HDD:=hid hdd
    have HCP:=hid hcp
    clear hcp hdd
    have KW:K0 wq (wq.alloc (.cells #[.int .i32 (cp:Int)] 21)):=kR.alloc _
    have HOWN:=hid (HS.out.own.keep0 KW)
    have HNEW:=hid (lP wq (cp:Int))
    have HBS:=hid (Nat.le_trans HS.out.K.size KW.size)
    have HKW:=hid KW
    have hni:=HS.out.le
    clear KW
    go_wp2_with (at_builtin;refine wpList_append_own _ rfl (.tmp 94) (.tmp 96) 110 rfl w.heap.size 21 i21 (.int .i32 0) 1 4 Tryz.underlying110 h21 hz0 hz1 hz2 rfl (by decide) _ _ _ rfl HOWN.out ⟨wq.heap.size,0,none⟩ 1 1 [.int .i32 (cp:Int)] rfl rfl HNEW.out ?a1 ?a2 ?a3 HBS.out ?_)
    case a1=>first | rfl | (intro u hu;simp at hu;subst hu;rfl)
    case a2=>unfold maxLen;omega
    case a3=>omega
    intro v' w6 hown hgrow _
    obtain ⟨A2,c2,rfl,HM⟩:=HS.out.more (by rw [HZ.out];exact hlt) HDD.out (by first | (simp;done) | (have:=HG.out;simpa using this)) HKW.out hown hgrow
    have HMM:=hid HM
    clear hown hgrow HM
    go_wp2_with fail
    go_roundw
    case rel=>exact ⟨i+4,_,A2,_,c2,by omega,rfl,by go_num,HMM.out⟩
    case measure=>simp [intOf];omega
  ·have h0:decide ((i:Int)<(s.size:Int))=false:=dF (by omega)
   have h1:decide (i<s.size)=false:=dF (by omega)
   have he:i=s.size:=by omega
   have HE:=hid he
   clear he
   go_wp2_with fail
   go_ret2
   have hr:au l=some r:=by
    rw [HS.out.eq,List.drop_of_length_le (by rw [HZ.out];have:=HE.out;omega),eU]
    simp
   have hn:n=r.length:=HS.out.own.len.symm
   unfold aE
   rw [hr]
   refine ⟨A,c,by rw [hn];rfl,?_,HS.out.K⟩
   rw [<- hn]
   exact HS.out.own
end Go.Proofs.YtonnikipeokkaaaGreatDoor
