/-
  lex: blank, delimiter, run. lex: digits. lex: wrong, comment
-/
import Derived.Test.YtonnikipeokkaaaGreatDoorPaPlain
namespace Go.Proofs.YtonnikipeokkaaaGreatDoor
set_option maxRecDepth 100000
set_option maxHeartbeats 4000000
open Go.Lib (hid)
open Go.RowKit Go.Lib
theorem aY (b c:UInt8):((b.toNat:Int) == (c.toNat:Int))=(b == c):=by
 rw [Bool.eq_iff_iff]
 simp only [beq_iff_eq,Int.natCast_inj]
 exact UInt8.toNat_inj
theorem rT (b:UInt8) (w:World) (h:bO b=true):Calls Tryz.prog 85 #[.int .u8 (b.toNat:Int)] w fun e w'=>e=.returned (.bool true)/\w=w':=by
 have hb:b=9\/b=10\/b=12\/b=13\/b=32:=by simpa [bO,or_assoc] using h
 rcases hb with rfl | rfl | rfl | rfl | rfl
 all_goals
  clear h
  go_enter Tryz.func85,Tryz.ntmps85
  go_wp2_with fail
  go_ret
  exact ⟨rfl,rfl⟩
theorem uK (b:UInt8) (w:World) (h:bO b=false):Calls Tryz.prog 85 #[.int .u8 (b.toNat:Int)] w fun e w'=>e=.returned (.bool false)/\w=w':=by
 have hb:b ≠ 9/\b ≠ 10/\b ≠ 12/\b ≠ 13/\b ≠ 32:=by simpa [bO,and_assoc] using h
 obtain ⟨n,hn⟩:∃ n,n=b.toNat:=⟨_,rfl⟩
 have nn:∀ c:UInt8,b ≠ c->n ≠ c.toNat:=fun c hc e=>hc (UInt8.toNat_inj.1 (hn.symm.trans e))
 have n9:=nn 9 hb.1
 have n10:=nn 10 hb.2.1
 have n12:=nn 12 hb.2.2.1
 have n13:=nn 13 hb.2.2.2.1
 have n32:=nn 32 hb.2.2.2.2
 rw [<- hn]
 clear hb h nn hn
 have e32:((n:Int) == 32)=false:=by simp;intro h;exact n32 (by simpa using congrArg Int.toNat h)
 by_cases c1:9<=n
 ·by_cases c2:n<=13
  ·have:n=11:=by
    have g9:n ≠ 9:=n9
    have g10:n ≠ 10:=n10
    have g12:n ≠ 12:=n12
    have g13:n ≠ 13:=n13
    omega
   subst this
   clear n9 n10 n12 n13 n32 c1 c2
   go_enter Tryz.func85,Tryz.ntmps85
   go_wp2_with fail
   go_ret
   exact ⟨rfl,rfl⟩
  ·have d1:decide ((9:Int)<=(n:Int))=true:=by simp;omega
   have d2:decide ((n:Int)<=13)=false:=by simp;omega
   clear n9 n10 n12 n13 n32 c1 c2
   go_enter Tryz.func85,Tryz.ntmps85
   go_wp2_with fail
   go_ret
   exact ⟨rfl,rfl⟩
 ·have d1:decide ((9:Int)<=(n:Int))=false:=by simp;omega
  clear n9 n10 n12 n13 n32 c1
  go_enter Tryz.func85,Tryz.ntmps85
  go_wp2_with fail
  go_ret
  exact ⟨rfl,rfl⟩
theorem iZ (b:UInt8) (w:World):Calls Tryz.prog 85 #[.int .u8 (b.toNat:Int)] w fun e w'=>e=.returned (.bool (bO b))/\w=w':=by
 cases h:bO b with
 | true=>exact rT b w h
 | false=>exact uK b w h
theorem pQ (c:UInt8):∀ l:List UInt8,decide (0<=Lib.indexByte l c)=l.contains c
 | []=>rfl
 | b :: l=>by
  have ih:=pQ c l
  have hg:=Lib.indexByte_ge l c
  unfold Lib.indexByte
  rw [List.contains_cons]
  by_cases h:b=c
  ·simp [h]
  ·have h1:(b == c)=false:=by simpa using h
   have h2:(c == b)=false:=by simpa using fun e=>h e.symm
   rw [h1,h2,Bool.false_or,<- ih]
   simp only [Bool.false_eq_true,if_false]
   by_cases h3:Lib.indexByte l c=-1
   ·rw [h3];rfl
   ·rw [if_neg (by simpa using h3),dT (by omega:0<=Lib.indexByte l c+1),dT (by omega:0<=Lib.indexByte l c)]
theorem rS (b:UInt8):((b.toNat:Int)).toNat.toUInt8=b:=by simp
theorem rK (b:UInt8) (w:World):Calls Tryz.prog 153 #[.int .u8 (b.toNat:Int)] w fun e w'=>e=.returned (.bool (aX b))/\w=w':=by
 cases h:bO b with
 | true=>
  have hd:aX b=true:=by unfold aX;rw [h];rfl
  rw [hd]
  have HB:=hid h
  clear h hd
  go_enter Tryz.func153,Tryz.ntmps153
  go_wp2_with fail
  refine (iZ b _).mono ?_
  rintro e w1 ⟨rfl,rfl⟩
  rw [HB.out]
  try dsimp only
  go_wp2_with fail
  go_ret
  exact ⟨rfl,rfl⟩
 | false=>
  have hd:aX b=[40,41,91,93,34,59,39,96,44].contains b:=by unfold aX;rw [h];rfl
  have hx:=pQ b [40,41,91,93,34,59,39,96,44]
  rw [hd,<- hx]
  have HB:=hid h
  clear h hd hx
  go_enter Tryz.func153,Tryz.ntmps153
  go_wp2_with fail
  refine (iZ b _).mono ?_
  rintro e w1 ⟨rfl,rfl⟩
  rw [HB.out]
  try dsimp only
  go_wp2_with fail
  refine (Tryz.strings_IndexByte _ _ _).mono ?_
  rintro e w1 ⟨rfl,rfl⟩
  rw [rS]
  try dsimp only
  obtain ⟨i,hi⟩:∃ i,i=Lib.indexByte [40,41,91,93,34,59,39,96,44] b:=⟨_,rfl⟩
  rw [<- hi]
  have HI:=hid hi
  clear hi
  by_cases hc:0<=i
  ·go_wp2_with fail
   go_ret
   exact ⟨by rw [<- HI.out,dT hc];rfl,rfl⟩
  ·have hc2:decide (0<=i)=false:=dF hc
   go_wp2_with fail
   go_ret
   exact ⟨by rw [<- HI.out,hc2];rfl,rfl⟩
theorem aK (s:ByteArray) (i:Nat) (hi:i<s.data.toList.length) (c:UInt8) (hc:c=s.data.toList.getD i 0) (W:World):(Instr.index 9 (.string s) (.int .i64 (i:Int))).run Tryz.prog W=.ok (.int .u8 (c.toNat:Int)) W:=by
 have hs:i<s.size:=by rw [Lib.size_eq];exact hi
 have e:=run_index_string (P:=Tryz.prog) W 9 s .i64 (i:Int) Tryz.underlying9
 rw [dif_pos ⟨by omega,by omega⟩] at e
 rw [e,hc]
 have h3:s.data.toList.getD i 0=s[i]'hs:=by
  rw [gD,gE hi]
  rfl
 rw [h3]
 rfl
def eI (more:UInt8) (b:UInt8):Bool:=!aX b && (more == 0 || b != more)
theorem iC:eI 0=fun b=>!aX b:=by funext b;simp [eI]
theorem di:eI 124=bh:=by funext b;simp [eI,bh]
theorem da (s:ByteArray) (a:Nat) (more:UInt8) (w:World) (ha:a<=s.size) (hs:s.size<=1000000) :
 Calls Tryz.prog 125 #[.string s,.int .i64 (a:Int),.int .u8 (more.toNat:Int)] w fun e w'=>e=.returned (.int .i64 (bS (eI more) s.data.toList a:Nat))/\w=w':=by
 have hz:s.data.toList.length=s.size:=(Lib.size_eq s).symm
 have HAT:=hid (fun (k:Nat) (hk:k<s.size)=>aK s k (by rw [hz];exact hk) _ rfl)
 obtain ⟨l,hl⟩:∃ l,l=s.data.toList:=⟨_,rfl⟩
 rw [<- hl] at hz HAT ⊢
 have HZ:=hid hz
 clear hl hz
 go_enter Tryz.func125,Tryz.ntmps125
 go_wp2_with fail
 go_loop [1] (fun av=>∃ k:Nat,a<=k/\k<=s.size/\av=.int .i64 (k:Int)/\bS (eI more) l k=bS (eI more) l a) (fun av=>s.size - (intOf av).toNat)
 case atStart=>exact ⟨a,Nat.le_refl _,ha,rfl,rfl⟩
 case round=>
  obtain ⟨k,hak,hk,rfl,hsc⟩:=hrel
  have HS:=hid hsc
  clear hsc
  by_cases hlt:k<s.size
  ·have hx:=HAT.out k hlt
   have h0:decide ((k:Int)<(s.size:Int))=true:=dT (by omega)
   obtain ⟨c,hc⟩:∃ c,c=l.getD k 0:=⟨_,rfl⟩
   rw [<- hc] at hx
   have HC:=hid hc
   clear hc
   go_wp2_with fail
   refine (rK c _).mono ?_
   rintro e w1 ⟨rfl,rfl⟩
   cases hd:aX c with
   | true=>
    have HD:=hid hd
    clear hd
    try dsimp only
    go_wp2_with fail
    go_ret
    refine ⟨?_,rfl⟩
    rw [<- HS.out,eM (by rw [HZ.out];exact hlt) (by rw [<- HC.out];unfold eI;rw [HD.out];rfl)]
    rfl
   | false=>
    have HD:=hid hd
    clear hd
    have em:((more.toNat:Int) == 0)=(more == 0):=aY more 0
    cases hm:more == 0 with
    | true=>
     rw [hm] at em
     have HM:=hid hm
     clear hm
     try dsimp only
     go_wp2_with fail
     go_round
     case rel=>exact ⟨k+1,by omega,by omega,by go_num,by rw [<- HS.out,dA (by rw [HZ.out];exact hlt) (by rw [<- HC.out];unfold eI;rw [HD.out,HM.out];rfl)]⟩
     case measure=>simp [intOf];omega
    | false=>
     rw [hm] at em
     have HM:=hid hm
     clear hm
     have en:((c.toNat:Int) != (more.toNat:Int))=(c != more):=by unfold bne;rw [aY]
     cases hn:c != more with
     | true=>
      rw [hn] at en
      have HN:=hid hn
      clear hn
      try dsimp only
      go_wp2_with fail
      go_round
      case rel=>exact ⟨k+1,by omega,by omega,by go_num,by rw [<- HS.out,dA (by rw [HZ.out];exact hlt) (by rw [<- HC.out];unfold eI;rw [HD.out,HM.out,HN.out];rfl)]⟩
      case measure=>simp [intOf];omega
     | false=>
      rw [hn] at en
      have HN:=hid hn
      clear hn
      try dsimp only
      go_wp2_with fail
      go_ret
      refine ⟨?_,rfl⟩
      rw [<- HS.out,eM (by rw [HZ.out];exact hlt) (by rw [<- HC.out];unfold eI;rw [HD.out,HM.out,HN.out];rfl)]
      rfl
  ·have h0:decide ((k:Int)<(s.size:Int))=false:=dF (by omega)
   have h1:decide (k<s.size)=false:=dF (by omega)
   go_wp2_with fail
   go_ret
   refine ⟨?_,rfl⟩
   rw [<- HS.out,gd (by rw [HZ.out];omega)]
   rfl
theorem pb (n v:Nat) (hn:n<=1048575) (hv:v<16):bits .or .i32 ((n:Int) * 16) (v:Int)=((n * 16+v:Nat):Int):=by
 have:=bits_join .i32 31 (by decide) wraps_i32 4 ((n:Int) * 16) (v:Int) (by omega) (by omega) (by omega) (by omega) (by omega) (by omega)
 rw [this];omega
theorem my (n:Nat):Lib.validRune (n:Int)=bn n:=by
 unfold Lib.validRune bn
 rw [Bool.eq_iff_iff]
 simp only [decide_eq_true_eq]
 omega
def p5 (l:List UInt8) (w:World) (e:Ending) (w':World):Prop:=
 ∃ n:Nat,n<16777216/\e=.returned (.tuple #[.int .i32 (n:Int),.bool (df l).isSome])/\(∀ r,df l=some r->r=n)/\K0 w w'
theorem gO {l:List UInt8} {k n v:Nat} {c:UInt8} (hk:k<l.length) (hc:c=l.getD k 0) (hv:ga c=some v) (h:ib l 0=ib (l.drop k) n):ib l 0=ib (l.drop (k+1)) (n * 16+v):=by
 rw [h,ap hk,<- hc,ib,hv]
theorem iB {n k v:Nat} (h:n<16 ^ k) (hv:v<16):n * 16+v<16 ^ (k+1):=by rw [Nat.pow_succ];omega
theorem mc {n k:Nat} (h:n<16 ^ k) (hk:k<6):n<=1048575:=by
 have h2:16 ^ k<=16 ^ 5:=Nat.pow_le_pow_right (by omega) (by omega)
 omega
theorem pR {n k:Nat} (h:n<16 ^ k) (hk:k<=6):n<16777216:=by
 have h2:16 ^ k<=16 ^ 6:=Nat.pow_le_pow_right (by omega) (by omega)
 omega
theorem ic (s:ByteArray) (w:World) (hs:s.size<=1000000) :
 Calls Tryz.prog 127 #[.string s] w (p5 s.data.toList w):=by
 have hz:s.data.toList.length=s.size:=(Lib.size_eq s).symm
 by_cases h0:s.size<1
 ·have t1:decide ((s.size:Int)<1)=true:=dT (by omega)
  have hx:df s.data.toList=none:=by unfold df;rw [if_pos (by omega)]
  have HX:=hid hx
  clear hx
  go_enter Tryz.func127,Tryz.ntmps127
  go_wp2_with fail
  go_ret2
  refine ⟨0,by omega,?_,?_,kR⟩
  ·rw [HX.out];rfl
  ·intro r hr;rw [HX.out] at hr;cases hr
 ·have t1:decide ((s.size:Int)<1)=false:=dF (by omega)
  by_cases h6:6<s.size
  ·have t2:decide ((6:Int)<(s.size:Int))=true:=dT (by omega)
   have hx:df s.data.toList=none:=by unfold df;rw [if_pos (by omega)]
   have HX:=hid hx
   clear hx
   go_enter Tryz.func127,Tryz.ntmps127
   go_wp2_with fail
   go_ret2
   refine ⟨0,by omega,?_,?_,kR⟩
   ·rw [HX.out];rfl
   ·intro r hr;rw [HX.out] at hr;cases hr
  ·have t2:decide ((6:Int)<(s.size:Int))=false:=dF (by omega)
   go_enter Tryz.func127,Tryz.ntmps127
   go_wp2_with fail
   have hconv:=run_bytes_of_string (P:=Tryz.prog) w 9 70 5 s rfl rfl rfl
   have hcell:∀ j,j<s.size->(w.drew.alloc (Obj.cells (bytesRow s (grownCap w s.size 0 5)) 5 ((bytesRow s (grownCap w s.size 0 5)).size,(bytesRow s (grownCap w s.size 0 5)).size+1))).cell? ⟨w.heap.size,j,none⟩=some (.int .u8 ((s.data.toList.getD j 0).toNat:Int)):=by
    intro j hj
    have hb:(w.drew.alloc (Obj.cells (bytesRow s (grownCap w s.size 0 5)) 5 ((bytesRow s (grownCap w s.size 0 5)).size,(bytesRow s (grownCap w s.size 0 5)).size+1))).heap[w.heap.size]? = some (.cells (bytesRow s (grownCap w s.size 0 5)) 5 ((bytesRow s (grownCap w s.size 0 5)).size,(bytesRow s (grownCap w s.size 0 5)).size+1)):=hN w.drew _
    have hk2:j<s.data.size:=by simpa using hj
    unfold World.cell?
    rw [hb]
    have:=bytesRow_at s (grownCap w s.size 0 5) j hk2
    simp only [this]
    simp [gD,Array.getElem?_eq_getElem hk2]
   have hK:K0 w (w.drew.alloc (Obj.cells (bytesRow s (grownCap w s.size 0 5)) 5 ((bytesRow s (grownCap w s.size 0 5)).size,(bytesRow s (grownCap w s.size 0 5)).size+1))):=kR.drew.alloc _
   generalize grownCap w s.size 0 5=cap at hconv hcell hK
   generalize w.drew.alloc (Obj.cells (bytesRow s cap) 5 ((bytesRow s cap).size,(bytesRow s cap).size+1))=W at hconv hcell hK
   generalize w.heap.size=B at hconv hcell
   have HCELL:=hid hcell
   have HK:=hid hK
   clear hcell hK
   rw [hconv]
   clear hconv
   try dsimp only
   go_wp2_with fail
   go_loop [4,18] (fun nv iv=>∃ k n:Nat,k<=s.size/\n<16 ^ k/\(∃ N:Int,nv=.int .i32 N/\N=(n:Int))/\iv=.int .i64 (k:Int)/\ib s.data.toList 0=ib (s.data.toList.drop k) n) (fun _ iv=>s.size - (intOf iv).toNat)
   case atStart=>exact ⟨0,0,Nat.zero_le _,by omega,⟨0,rfl,rfl⟩,rfl,rfl⟩
   case round=>
    obtain ⟨k,n,hk,hn,⟨N,rfl,hN⟩,rfl,hx⟩:=hrel
    have HX:=hid hx
    have HN:=hid hn
    have HNN:=hid hN
    clear hx hn hN
    by_cases hlt:k<s.size
    ·have b0:0<=N:=by rw [HNN.out];omega
     have b1:N<=1048575:=by
      have h1:=HN.out
      have h2:16 ^ k<=16 ^ 5:=Nat.pow_le_pow_right (by omega) (by omega)
      have h3:=HNN.out
      omega
     have hcell:=HCELL.out k hlt
     obtain ⟨c,hc⟩:∃ c,c=s.data.toList.getD k 0:=⟨_,rfl⟩
     rw [<- hc] at hcell
     have d0:decide ((k:Int)<(s.size:Int))=true:=dT (by omega)
     by_cases g1:48<=c.toNat/\c.toNat<=57
     ·obtain ⟨v,hv⟩:∃ v,c.toNat=48+v:=⟨c.toNat - 48,by omega⟩
      have hxv:ga c=some (v+0):=by unfold ga;rw [if_pos g1];congr 1;omega
      rw [hv] at hcell
      have hv9:v<=9:=by omega
      have HC:=hid hc
      have HXV:=hid hxv
      clear hc hv hxv g1
      go_wp2_with fail
      go_round
      case rel=>
       refine ⟨k+1,n * 16+(v+0),by omega,iB HN.out (by omega),⟨_,rfl,?_⟩,by go_num,gO (by omega) HC.out HXV.out HX.out⟩
       rw [HNN.out,show 48+(v:Int) - 48=((v+0:Nat):Int) by omega]
       exact pb _ _ (mc HN.out (by omega)) (by omega)
      case measure=>simp [intOf];omega
     by_cases g2:97<=c.toNat/\c.toNat<=102
     ·obtain ⟨v,hv⟩:∃ v,c.toNat=97+v:=⟨c.toNat - 97,by omega⟩
      have hxv:ga c=some (v+10):=by unfold ga;rw [if_neg g1,if_pos g2];congr 1;omega
      rw [hv] at hcell
      have hv9:v<=5:=by omega
      have HC:=hid hc
      have HXV:=hid hxv
      clear hc hv hxv g1 g2
      go_wp2_with fail
      go_round
      case rel=>
       refine ⟨k+1,n * 16+(v+10),by omega,iB HN.out (by omega),⟨_,rfl,?_⟩,by go_num,gO (by omega) HC.out HXV.out HX.out⟩
       rw [HNN.out,show 97+(v:Int) - 97+10=((v+10:Nat):Int) by omega]
       exact pb _ _ (mc HN.out (by omega)) (by omega)
      case measure=>simp [intOf];omega
     by_cases g3:65<=c.toNat/\c.toNat<=70
     ·obtain ⟨v,hv⟩:∃ v,c.toNat=65+v:=⟨c.toNat - 65,by omega⟩
      have hxv:ga c=some (v+10):=by unfold ga;rw [if_neg g1,if_neg g2,if_pos g3];congr 1;omega
      rw [hv] at hcell
      have hv9:v<=5:=by omega
      have HC:=hid hc
      have HXV:=hid hxv
      clear hc hv hxv g1 g2 g3
      go_wp2_with fail
      go_round
      case rel=>
       refine ⟨k+1,n * 16+(v+10),by omega,iB HN.out (by omega),⟨_,rfl,?_⟩,by go_num,gO (by omega) HC.out HXV.out HX.out⟩
       rw [HNN.out,show 65+(v:Int) - 65+10=((v+10:Nat):Int) by omega]
       exact pb _ _ (mc HN.out (by omega)) (by omega)
      case measure=>simp [intOf];omega
     have hxv:ga c=none:=by unfold ga;rw [if_neg g1,if_neg g2,if_neg g3]
     have hx:df s.data.toList=none:=by unfold df;rw [if_neg (by omega),HX.out,ap (by omega),<- hc,ib,hxv]
     have HXX:=hid hx
     have HC:=hid hc
     obtain ⟨d,hd⟩:∃ d,d=c.toNat:=⟨_,rfl⟩
     rw [<- hd] at hcell g1 g2 g3
     clear hx hc hxv hd
     have key:(decide ((48:Int)<=(d:Int))=true->decide ((d:Int)<=57)=false)/\(decide ((97:Int)<=(d:Int))=true->decide ((d:Int)<=102)=false)/\(decide ((65:Int)<=(d:Int))=true->decide ((d:Int)<=70)=false):=by
      refine ⟨fun h=>?_,fun h=>?_,fun h=>?_⟩<;>(have:=of_decide_eq_true h;exact dF (by omega))
     clear g1 g2 g3
     obtain ⟨k1,k2,k3⟩:=key
     have done:∀ (t:K0 w W),p5 s.data.toList w (.returned (.tuple #[.int .i32 0,.bool false])) W:=fun t=>⟨0,by omega,by rw [HXX.out];rfl,by (intro r hr;rw [HXX.out] at hr;cases hr),t⟩
     have HD:=hid (done HK.out)
     clear done
     cases q1:decide ((48:Int)<=(d:Int))<;>cases q2:decide ((97:Int)<=(d:Int))<;>cases q3:decide ((65:Int)<=(d:Int))
     all_goals
      simp only [q1,q2,q3,true_implies,reduceCtorEq,false_implies] at k1 k2 k3
      go_wp2_with fail
      go_ret2
      exact HD.out
    ·have d0:decide ((k:Int)<(s.size:Int))=false:=dF (by omega)
     have d1:decide (k<s.size)=false:=dF (by omega)
     have hx:df s.data.toList=if bn n then some n else none:=by
      unfold df
      rw [if_neg (by omega),HX.out,List.drop_of_length_le (by omega),ib]
     have HXX:=hid hx
     have hn6:=pR HN.out (by omega)
     have HN6:=hid hn6
     clear hx hn6
     go_wp2_with fail
     refine (Tryz.utf8_ValidRune _ _).mono ?_
     rintro e w1 ⟨rfl,rfl⟩
     try dsimp only
     have hvr:Lib.validRune N=bn n:=by rw [HNN.out];exact my n
     rw [hvr]
     have HNV:=hid HNN.out
     clear hvr
     obtain ⟨cb,hcb⟩:∃ cb,cb=bn n:=⟨_,rfl⟩
     rw [<- hcb]
     have HCB:=hid hcb
     clear hcb
     go_wp2_with fail
     refine bodyPost_ret (v:=.tuple #[.int .i32 (n:Int),.bool cb]) (by simp [results,Tryz.results127,go_sem,HNV.out]) rfl ?_
     refine ⟨n,HN6.out,?_,?_,HK.out⟩
     ·rw [HXX.out,<- HCB.out]
      cases cb<;>rfl
     ·intro r hr
      rw [HXX.out,<- HCB.out] at hr
      cases cb
      ·cases hr
      ·injection hr with hr;exact hr.symm
def dZ (w:World) (v:Value) (p c:Int):Prop:=∃ (A B:Nat) (what:ByteArray),v=.iface 207 (.pointer (some ⟨B,0,none⟩))/\w.heap[B]? = some (.cells #[.string what,.iface 63 (.pointer (some ⟨A,0,none⟩))] 209 (0,0))/\w.heap[A]? = some (.cells #[.int .i64 p,.int .i64 c] 67 (0,0))
def wB (p c:Int) (w:World) (e:Ending) (w':World):Prop:=∃ v,e=.returned v/\dZ w' v p c/\K0 w w'
theorem bK (what:ByteArray) (p c:Int) (w:World):Calls Tryz.prog 119 #[.string what,.int .i64 p,.int .i64 c] w (wB p c w):=by
 go_enter Tryz.func119,Tryz.ntmps119
 go_wp2_with fail
 go_ret
 refine ⟨_,rfl,⟨w.heap.size,w.heap.size+1,what,rfl,?_,?_⟩,(kR.alloc _).alloc _⟩
 ·have:=hN (w.alloc (.cells #[.int .i64 p,.int .i64 c] 67)) (.cells #[.string what,.iface 63 (.pointer (some ⟨w.heap.size,0,none⟩))] 209)
  rwa [World.size_alloc] at this
 ·rw [Below.heap_alloc _ _ _ (by simp)];exact hN w _
theorem qc (s:ByteArray) (i:Nat) (h:i+1<s.size):(s.extract i (i+2)).toList=[s.data.toList.getD i 0,s.data.toList.getD (i+1) 0]:=by
 have hz:s.data.toList.length=s.size:=(Lib.size_eq s).symm
 rw [Lib.toList_data,Lib.extract_data,ap (by omega),ap (by omega),show i+2 - i=2 by omega]
 rfl
theorem pU (a b c d:UInt8):([a,b] == [c,d])=(a == c && b == d):=by
 rw [Bool.eq_iff_iff];simp
def mr (r:Option Nat) (a:Nat) (w:World) (e:Ending) (w':World):Prop:=
 match r with
 | some k=>e=.returned (.tuple #[.int .i64 ((a+2+k:Nat):Int),.nilIface])/\w=w'
 | none=>∃ v,e=.returned (.tuple #[.int .i64 0,v])/\dZ w' v a 11/\K0 w w'
def ya (l:List UInt8) (a d i:Nat):Prop:=(d=0/\i=a)\/∃ j,i=a+2+j/\1<=d/\d<=j+1/\bZ 1 (l.drop (a+2))=(bZ d (l.drop i)).map (· + j)
theorem nN (s:ByteArray) (a:Nat) (w:World) (ha:a+1<s.size) (hs:s.size<=1000000) (h1:s.data.toList.getD a 0=35) (h2:s.data.toList.getD (a+1) 0=124) :
 Calls Tryz.prog 87 #[.string s,.int .i64 (a:Int)] w (mr (bZ 1 (s.data.toList.drop (a+2))) a w):=by
 have hz:s.data.toList.length=s.size:=(Lib.size_eq s).symm
 have H2B:=hid (fun i h=>qc s i h)
 have H1:=hid h1
 have H2:=hid h2
 clear h1 h2
 obtain ⟨l,hl⟩:∃ l,l=s.data.toList:=⟨_,rfl⟩
 rw [<- hl] at hz H1 H2 H2B ⊢
 have HZ:=hid hz
 clear hl hz
 go_enter Tryz.func87,Tryz.ntmps87
 go_wp2_with fail
 go_loop [6,7] (fun dv iv=>∃ d i:Nat,a<=i/\i<=s.size/\d<=s.size/\dv=.int .i64 (d:Int)/\iv=.int .i64 (i:Int)/\ya l a d i) (fun _ iv=>s.size - (intOf iv).toNat)
 case atStart=>exact ⟨0,a,Nat.le_refl _,by omega,by omega,rfl,rfl,.inl ⟨rfl,rfl⟩⟩
 case round=>
  obtain ⟨d,i,hai,hi,hd,rfl,rfl,hr⟩:=hrel
  rcases hr with ⟨rfl,rfl⟩ | ⟨j,hij,hd1,hdj,hR⟩
  ·have h0:decide ((i:Int)+1<(s.size:Int))=true:=dT (by omega)
   have e1:((s.extract i (i+2)).toList == [35,124])=true:=by rw [H2B.out i ha,H1.out,H2.out];rfl
   go_wp2_with fail
   go_round
   case rel=>
    refine ⟨1,i+2,by omega,by omega,by omega,by rfl,by go_num,.inr ⟨0,by omega,by omega,by omega,?_⟩⟩
    show _=(bZ 1 (l.drop (i+2))).map (· + 0)
    cases bZ 1 (l.drop (i+2))<;>rfl
   case measure=>simp [intOf];omega
  ·have HR:=hid hR
   have HIJ:=hid hij
   clear hR hij
   by_cases hlt:i+1<s.size
   ·have h0:decide ((i:Int)+1<(s.size:Int))=true:=dT (by omega)
    have hb:=H2B.out i hlt
    have hdrop:l.drop i=l.getD i 0 :: l.getD (i+1) 0 :: l.drop (i+2):=by rw [ap (by rw [HZ.out];omega),ap (l:=l) (i:=i+1) (by rw [HZ.out];omega)]
    have e1:((s.extract i (i+2)).toList == [35,124])=(l.getD i 0 == 35 && l.getD (i+1) 0 == 124):=by rw [hb,pU]
    have e2:((s.extract i (i+2)).toList == [124,35])=(l.getD i 0 == 124 && l.getD (i+1) 0 == 35):=by rw [hb,pU]
    have HD:=hid hdrop
    clear hdrop hb
    by_cases c1:l.getD i 0=35/\l.getD (i+1) 0=124
    ·rw [c1.1,c1.2] at e1
     replace e1:((s.extract i (i+2)).toList == [35,124])=true:=e1
     have HC:=hid c1
     clear c1 e2
     go_wp2_with fail
     go_round
     case rel=>
      refine ⟨d+1,i+2,by omega,by omega,by have:=HIJ.out;omega,by go_num,by go_num,.inr ⟨j+2,by have:=HIJ.out;omega,by omega,by omega,?_⟩⟩
      rw [HR.out,HD.out,bZ,if_pos HC.out]
      cases bZ (d+1) (l.drop (i+2))<;>simp<;>omega
     case measure=>simp [intOf];omega
    ·replace e1:((s.extract i (i+2)).toList == [35,124])=false:=by
      rw [e1];simpa using c1
     have HC:=hid c1
     clear c1
     by_cases c2:l.getD i 0=124/\l.getD (i+1) 0=35
     ·rw [c2.1,c2.2] at e2
      replace e2:((s.extract i (i+2)).toList == [124,35])=true:=e2
      have HC2:=hid c2
      clear c2
      by_cases hd2:d=1
      ·subst hd2
       have hz0:(((1:Nat):Int) - 1 == 0)=true:=rfl
       go_wp2_with fail
       refine bodyPost_ret (v:=.tuple #[.int .i64 ((i+2:Nat):Int),.nilIface]) (by simp [results,Tryz.results87,go_sem];omega) rfl ?_
       unfold mr
       rw [HR.out,HD.out,bZ,if_neg HC.out,if_pos HC2.out,if_pos (Nat.le_refl 1)]
       have:=HIJ.out
       exact ⟨by simp;omega,rfl⟩
      ·have hz0:((d:Int) - 1 == 0)=false:=by simp;omega
       have hz1:(1:Int)<=(d:Int):=by omega
       go_wp2_with fail
       go_round
       case rel=>
        refine ⟨d - 1,i+2,by omega,by omega,by omega,by go_num,by go_num,.inr ⟨j+2,by have:=HIJ.out;omega,by omega,by omega,?_⟩⟩
        rw [HR.out,HD.out,bZ,if_neg HC.out,if_pos HC2.out,if_neg (by omega)]
        cases bZ (d - 1) (l.drop (i+2))<;>simp<;>omega
       case measure=>simp [intOf];omega
     ·replace e2:((s.extract i (i+2)).toList == [124,35])=false:=by
       rw [e2];simpa using c2
      have HC2:=hid c2
      clear c2
      go_wp2_with fail
      go_round
      case rel=>
       refine ⟨d,i+1,by omega,by omega,by omega,rfl,by go_num,.inr ⟨j+1,by have:=HIJ.out;omega,by omega,by omega,?_⟩⟩
       rw [HR.out,HD.out,bZ,if_neg HC.out,if_neg HC2.out,ap (l:=l) (i:=i+1) (by rw [HZ.out];omega)]
       cases bZ d (l.getD (i+1) 0 :: l.drop (i+1+1))<;>simp<;>omega
      case measure=>simp [intOf];omega
   ·have h0:decide ((i:Int)+1<(s.size:Int))=false:=dF (by omega)
    have h00:decide (i+1<s.size)=false:=dF hlt
    go_wp2_with fail
    refine (bK _ _ _ _).mono ?_
    rintro e w1 ⟨v,rfl,he,hk⟩
    have HE:=hid he
    have HK:=hid hk
    clear he hk
    try dsimp only
    go_wp2_with fail
    refine bodyPost_ret (v:=.tuple #[.int .i64 0,v]) (by simp [results,Tryz.results87,go_sem]) rfl ?_
    unfold mr
    have:bZ d (l.drop i)=none:=by
     have hlen:(l.drop i).length<2:=by rw [List.length_drop,HZ.out];omega
     generalize l.drop i=x at hlen
     cases x with
     | nil=>rfl
     | cons x t=>
      cases t with
      | nil=>rfl
      | cons y t=>simp only [List.length_cons] at hlen;omega
    rw [HR.out,this]
    exact ⟨v,rfl,HE.out,HK.out⟩
def uS (r:Except Nat Nat) (w:World) (e:Ending) (w':World):Prop:=
 match r with
 | .ok j=>e=.returned (.tuple #[.int .i64 (j:Int),.nilIface])/\w=w'
 | .error p=>∃ v,e=.returned (.tuple #[.int .i64 0,v])/\dZ w' v p 11/\K0 w w'
theorem cH (s:ByteArray) (k:Nat) (x y:UInt8) (hk:k<s.size):Lib.hasPrefix (s.extract k s.size).data.toList [x,y]=decide (k+1<s.size/\s.data.toList.getD k 0=x/\s.data.toList.getD (k+1) 0=y):=by
 have hz:s.data.toList.length=s.size:=(Lib.size_eq s).symm
 rw [Lib.extract_data,List.take_of_length_le (by rw [List.length_drop];omega),ap (by omega)]
 rw [Bool.eq_iff_iff,decide_eq_true_iff]
 unfold Lib.hasPrefix
 by_cases h:k+1<s.size
 ·rw [ap (l:=s.data.toList) (i:=k+1) (by omega)]
  simp only [List.isPrefixOf,Bool.and_true,Bool.and_eq_true,beq_iff_eq]
  constructor
  ·rintro ⟨a,b⟩;exact ⟨h,a.symm,b.symm⟩
  ·rintro ⟨_,a,b⟩;exact ⟨a.symm,b.symm⟩
 ·rw [List.drop_of_length_le (by omega)]
  simp [List.isPrefixOf,h]
theorem jN (s:ByteArray) (a:Nat) (w:World) (ha:a<=s.size) (hs:s.size<=1000000) :
 Calls Tryz.prog 55 #[.string s,.int .i64 (a:Int)] w (uS (aC s.data.toList a) w):=by
 have hz:s.data.toList.length=s.size:=(Lib.size_eq s).symm
 have HAT:=hid (fun (k:Nat) (hk:k<s.size)=>aK s k (by rw [hz];exact hk) _ rfl)
 have HP:=hid (fun k hk=>cH s k 35 124 hk)
 have HCM:=hid (fun k w ha h1 h2=>nN s k w ha hs h1 h2)
 obtain ⟨l,hl⟩:∃ l,l=s.data.toList:=⟨_,rfl⟩
 rw [<- hl] at hz HAT HP HCM ⊢
 have HZ:=hid hz
 clear hl hz
 go_enter Tryz.func55,Tryz.ntmps55
 go_wp2_with fail
 go_loop [1] (fun av=>∃ k:Nat,k<=s.size/\av=.int .i64 (k:Int)/\aC l k=aC l a) (fun av=>s.size - (intOf av).toNat)
 case atStart=>exact ⟨a,ha,rfl,rfl⟩
 case round=>
  obtain ⟨k,hk,rfl,hsk⟩:=hrel
  have HS:=hid hsk
  clear hsk
  by_cases hlt:k<s.size
  ·have hx:=HAT.out k hlt
   have h0:decide ((k:Int)<(s.size:Int))=true:=dT (by omega)
   obtain ⟨c,hc⟩:∃ c,c=l.getD k 0:=⟨_,rfl⟩
   rw [<- hc] at hx
   have HC:=hid hc
   clear hc
   go_wp2_with fail
   refine (iZ c _).mono ?_
   rintro e w1 ⟨rfl,rfl⟩
   cases hb:bO c with
   | true=>
    have HB:=hid hb
    clear hb
    try dsimp only
    go_wp2_with fail
    go_round
    case rel=>exact ⟨k+1,by omega,by go_num,(io (by rw [HZ.out];exact hlt) (by rw [<- HC.out];exact HB.out)).symm.trans HS.out⟩
    case measure=>simp [intOf];omega
   | false=>
    have HB:=hid hb
    clear hb
    have e59:((c.toNat:Int) == 59)=(c == 59):=aY c 59
    cases hm:c == 59 with
    | true=>
     rw [hm] at e59
     have HM:=hid hm
     clear hm
     try dsimp only
     go_wp2_with fail
     clear hx
     go_loop [1] (fun av=>∃ m:Nat,k<=m/\m<=s.size/\av=.int .i64 (m:Int)/\bS (fun b=>b != 10) l m=bS (fun b=>b != 10) l k) (fun av=>s.size - (intOf av).toNat)
     case atStart=>exact ⟨k,Nat.le_refl _,hk,rfl,rfl⟩
     case round=>
      obtain ⟨m,hkm,hm,rfl,hsc⟩:=hrel
      have HSC:=hid hsc
      have HFIN:=hid (fun (he:bS (fun b=>b != 10) l k=m)=>show k<m/\aC l m=aC l a from by
       have c59:l.getD k 0=59:=by have:=HM.out;rw [HC.out] at this;simpa using this
       refine ⟨?_,?_⟩
       ·rw [<- he,<- dA (by rw [HZ.out];exact hlt) (by rw [c59];decide)]
        exact pP _ _ _
       ·rw [<- he,<- je (by rw [HZ.out];exact hlt) c59];exact HS.out)
      clear hsc
      by_cases hltm:m<s.size
      ·have hx:=HAT.out m hltm
       have h1:decide ((m:Int)<(s.size:Int))=true:=dT (by omega)
       obtain ⟨c2,hc2⟩:∃ c,c=l.getD m 0:=⟨_,rfl⟩
       rw [<- hc2] at hx
       have HC2:=hid hc2
       clear hc2
       have e10:((c2.toNat:Int) != 10)=(c2 != 10):=by unfold bne;rw [show ((c2.toNat:Int) == 10)=(c2 == 10) from aY c2 10]
       cases hn:c2 != 10 with
       | true=>
        rw [hn] at e10
        have HN:=hid hn
        clear hn
        go_wp2_with fail
        go_round
        case rel=>exact ⟨m+1,by omega,by omega,by go_num,(dA (by rw [HZ.out];exact hltm) (by rw [<- HC2.out];exact HN.out)).trans HSC.out⟩
        case measure=>simp [intOf];omega
       | false=>
        rw [hn] at e10
        have HN:=hid hn
        clear hn
        have hfin:=HFIN.out (HSC.out.symm.trans (eM (by rw [HZ.out];exact hltm) (by rw [<- HC2.out];exact HN.out)))
        have HF:=hid hfin
        have hlt2:=hfin.1
        clear hfin
        go_wp2_with fail
        go_round
        case rel=>exact ⟨m,hm,rfl,HF.out.2⟩
        case measure=>simp [intOf];omega
      ·have h1:decide ((m:Int)<(s.size:Int))=false:=dF (by omega)
       have h2:decide (m<s.size)=false:=dF (by omega)
       have hfin:=HFIN.out (HSC.out.symm.trans (gd (by rw [HZ.out];omega)))
       have HF:=hid hfin
       have hlt2:=hfin.1
       clear hfin
       go_wp2_with fail
       go_round
       case rel=>exact ⟨m,hm,rfl,HF.out.2⟩
       case measure=>simp [intOf];omega
    | false=>
     rw [hm] at e59
     have HM:=hid hm
     clear hm
     try dsimp only
     go_wp2_with fail
     refine (Tryz.strings_HasPrefix _ _ _).mono ?_
     rintro e w1 ⟨rfl,rfl⟩
     rw [show Lib.hasPrefix (s.extract k s.size).data.toList (⟨#[35,124]⟩:ByteArray).data.toList=_ from HP.out k hlt]
     by_cases hp:k+1<s.size/\l.getD k 0=35/\l.getD (k+1) 0=124
     ·rw [dT hp]
      have HPP:=hid hp
      have hk1:=hp.1
      clear hp
      try dsimp only
      go_wp2_with fail
      refine (HCM.out k _ hk1 HPP.out.2.1 HPP.out.2.2).mono ?_
      intro e w1 hpost
      cases hcb:bZ 1 (l.drop (k+2)) with
      | none=>
       rw [hcb] at hpost
       obtain ⟨v,rfl,⟨A,B,what,rfl,hb1,hb2⟩,hkp⟩:=hpost
       have HE:=hid (show dZ w1 (.iface 207 (.pointer (some ⟨B,0,none⟩))) k 11 from ⟨A,B,what,rfl,hb1,hb2⟩)
       have HK:=hid hkp
       have HCB:=hid hcb
       clear hb1 hb2 hkp hcb
       try dsimp only
       go_wp2_with fail
       refine bodyPost_ret (v:=.tuple #[.int .i64 0,.iface 207 (.pointer (some ⟨B,0,none⟩))]) (by simp [results,Tryz.results55,go_sem]) rfl ?_
       rw [<- HS.out,jd (by rw [HZ.out];exact hk1) HPP.out.2.1 HPP.out.2.2 HCB.out]
       exact ⟨_,rfl,HE.out,HK.out⟩
      | some k2=>
       rw [hcb] at hpost
       obtain ⟨rfl,rfl⟩:=hpost
       have hle:=iJ _ _ _ hcb
       rw [List.length_drop,HZ.out] at hle
       have HCB:=hid hcb
       clear hcb
       try dsimp only
       go_wp2_with fail
       go_round
       case rel=>exact ⟨k+2+k2,by omega,by go_num,(jP (by rw [HZ.out];exact hk1) HPP.out.2.1 HPP.out.2.2 HCB.out).symm.trans HS.out⟩
       case measure=>simp [intOf];omega
     ·rw [dF hp]
      have HPP:=hid hp
      clear hp
      try dsimp only
      go_wp2_with fail
      refine bodyPost_ret (v:=.tuple #[.int .i64 (k:Int),.nilIface]) (by simp [results,Tryz.results55,go_sem]) rfl ?_
      rw [<- HS.out,jc (by rw [HZ.out];exact hlt) (by rw [<- HC.out];exact HB.out) (by rw [<- HC.out];have:=HM.out;simpa using this) (by rw [HZ.out];exact HPP.out)]
      exact ⟨rfl,rfl⟩
  ·have h0:decide ((k:Int)<(s.size:Int))=false:=dF (by omega)
   have h1:decide (k<s.size)=false:=dF (by omega)
   go_wp2_with fail
   obtain rfl:k=s.size:=by omega
   refine bodyPost_ret (v:=.tuple #[.int .i64 (s.size:Int),.nilIface]) (by simp [results,Tryz.results55,go_sem]) rfl ?_
   rw [<- HS.out,<- HZ.out,jO]
   exact ⟨rfl,rfl⟩
theorem nE (n:Nat) (h:bn n=true):Utf8.encode (n:Int)=⟨(aI n).toArray⟩:=by
 have hv:Utf8.valid (n:Int)=true:=by
  unfold bn at h
  unfold Utf8.valid
  have:=of_decide_eq_true h
  simp only [Bool.or_eq_true,Bool.and_eq_true,decide_eq_true_eq]
  omega
 unfold Utf8.encode aI
 simp only [hv,if_true,Int.toNat_natCast]
 split
 ·rfl
 split
 ·rfl
 split
 ·rfl
 ·rfl
theorem lu {l:List UInt8} {r:Nat} (h:df l=some r):bn r=true:=by
 unfold df at h
 split at h
 ·cases h
 split at h
 ·cases h
 split at h
 ·rename_i g;injection h with h;rw [<- h];exact g
 ·cases h
theorem ia:∀ u:List UInt8,Lib.indexByte u 59=match eT u with | some k=>(k:Int) | none=>-1
 | []=>rfl
 | b :: t=>by
  have ih:=ia t
  unfold Lib.indexByte
  by_cases h:b=59
  ·subst h;rfl
  ·have hb:(b == 59)=false:=by simpa using h
   rw [hb]
   simp only [Bool.false_eq_true,if_false]
   have hs:eT (b :: t)=(eT t).map (· + 1):=by
    unfold eT
    have e:((b :: t).takeWhile (fun b=>b != 59)).length=(t.takeWhile (fun b=>b != 59)).length+1:=by
     rw [List.takeWhile_cons,if_pos (by simpa using h),List.length_cons]
    rw [e,List.length_cons]
    by_cases g:(t.takeWhile (fun b=>b != 59)).length<t.length
    ·rw [if_pos g,if_pos (by omega)];rfl
    ·rw [if_neg g,if_neg (by omega)];rfl
   rw [hs,ih]
   cases eT t with
   | none=>rfl
   | some k=>
    simp only [Option.map_some]
    rw [if_neg (by simp)]
    simp
theorem pk (by_:UInt8) (u:List UInt8):(eT u=none->bN by_ (120 :: u)=.bad) /\ ∀ k,eT u=some k->(df (u.take k)=none->bN by_ (120 :: u)=.bad) /\ ∀ r,df (u.take k)=some r->bN by_ (120 :: u)=.ok (aI r) (k+2):=by
 refine ⟨fun h=>?_,fun k h=>⟨fun g=>?_,fun r g=>?_⟩⟩
 ·rw [bN,if_neg (by decide),if_neg (by decide),if_neg (by decide),if_neg (by decide),if_pos rfl,h]
 ·rw [bN,if_neg (by decide),if_neg (by decide),if_neg (by decide),if_neg (by decide),if_pos rfl,h]
  simp only
  rw [g]
 ·rw [bN,if_neg (by decide),if_neg (by decide),if_neg (by decide),if_neg (by decide),if_pos rfl,h]
  simp only
  rw [g]
def p4 (r:yv) (a:Nat) (w:World) (e:Ending) (w':World):Prop:=
 match r with
 | .ok out n=>e=.returned (.tuple #[.string ⟨out.toArray⟩,.int .i64 ((a+n:Nat):Int),.bool true])/\K0 w w'
 | .bad=>∃ x i,e=.returned (.tuple #[.string x,.int .i64 i,.bool false])/\K0 w w'
 | .open_=>False
theorem aH {c d:UInt8} (h:c ≠ d):((c.toNat:Int) == (d.toNat:Int))=false:=by
 rw [aY];simpa using h
theorem pj (s:ByteArray) (a:Nat) (by_:UInt8) (w:World) (ha:a<s.size) (hs:s.size<=1000000) :
 Calls Tryz.prog 120 #[.string s,.int .i64 (a:Int),.int .u8 (by_.toNat:Int)] w (p4 (bN by_ (s.data.toList.drop a)) a w):=by
 have hz:s.data.toList.length=s.size:=(Lib.size_eq s).symm
 have hx:=aK s a (by rw [hz];exact ha) _ rfl
 have hdrop:=ap (l:=s.data.toList) (i:=a) (by omega)
 rw [hdrop]
 obtain ⟨c,hc⟩:∃ c,c=s.data.toList.getD a 0:=⟨_,rfl⟩
 rw [<- hc] at hx ⊢
 have HDR:=hid hdrop
 have HC:=hid hc
 have HZ:=hid hz
 clear hdrop hc hz
 have K0:K0 w w:=kR
 have HK:=hid K0
 clear K0
 by_cases c1:c=92\/c=34
 ·have hv:bN by_ (c :: s.data.toList.drop (a+1))=.ok [c] 1:=by rw [bN,if_pos c1]
  rw [hv]
  clear hv
  rcases c1 with rfl | rfl
  all_goals
   clear HC
   go_enter Tryz.func120,Tryz.ntmps120
   go_wp2_with fail
  ·exact bodyPost_ret (v:=.tuple #[.string (Utf8.encode 92),.int .i64 ((a+1:Nat):Int),.bool true]) (by simp [results,Tryz.results120,go_sem]) rfl ⟨rfl,HK.out⟩
  ·exact bodyPost_ret (v:=.tuple #[.string (Utf8.encode 34),.int .i64 ((a+1:Nat):Int),.bool true]) (by simp [results,Tryz.results120,go_sem]) rfl ⟨rfl,HK.out⟩
 by_cases c110:c=110
 ·have hv:bN by_ (c :: s.data.toList.drop (a+1))=.ok [10] 1:=by rw [bN,if_neg c1,if_pos c110]
  rw [hv]
  clear hv HC
  subst c110
  clear c1
  go_enter Tryz.func120,Tryz.ntmps120
  go_wp2_with fail
  exact bodyPost_ret (v:=.tuple #[.string ⟨#[10]⟩,.int .i64 ((a+1:Nat):Int),.bool true]) (by simp [results,Tryz.results120,go_sem]) rfl ⟨rfl,HK.out⟩
 by_cases c116:c=116
 ·have hv:bN by_ (c :: s.data.toList.drop (a+1))=.ok [9] 1:=by rw [bN,if_neg c1,if_neg c110,if_pos c116]
  rw [hv]
  clear hv HC
  subst c116
  clear c1 c110
  go_enter Tryz.func120,Tryz.ntmps120
  go_wp2_with fail
  exact bodyPost_ret (v:=.tuple #[.string ⟨#[9]⟩,.int .i64 ((a+1:Nat):Int),.bool true]) (by simp [results,Tryz.results120,go_sem]) rfl ⟨rfl,HK.out⟩
 by_cases c114:c=114
 ·have hv:bN by_ (c :: s.data.toList.drop (a+1))=.ok [13] 1:=by rw [bN,if_neg c1,if_neg c110,if_neg c116,if_pos c114]
  rw [hv]
  clear hv HC
  subst c114
  clear c1 c110 c116
  go_enter Tryz.func120,Tryz.ntmps120
  go_wp2_with fail
  exact bodyPost_ret (v:=.tuple #[.string ⟨#[13]⟩,.int .i64 ((a+1:Nat):Int),.bool true]) (by simp [results,Tryz.results120,go_sem]) rfl ⟨rfl,HK.out⟩
 have n1:c ≠ 92/\c ≠ 34:=⟨fun h=>c1 (.inl h),fun h=>c1 (.inr h)⟩
 have e92:((c.toNat:Int) == 92)=false:=aH n1.1
 have e34:((c.toNat:Int) == 34)=false:=aH n1.2
 have e110:((c.toNat:Int) == 110)=false:=aH c110
 have e116:((c.toNat:Int) == 116)=false:=aH c116
 have e114:((c.toNat:Int) == 114)=false:=aH c114
 by_cases c120:c=120
 ·have hsemi:=ia (c :: s.data.toList.drop (a+1))
  have hext:(s.extract a s.size).data.toList=c :: s.data.toList.drop (a+1):=by
   rw [Lib.extract_data,List.take_of_length_le (by rw [List.length_drop];have:=HZ.out;omega),HDR.out,<- HC.out]
  have hsm:eT (c :: s.data.toList.drop (a+1))=(eT (s.data.toList.drop (a+1))).map (· + 1):=by
   unfold eT
   have e:((c :: s.data.toList.drop (a+1)).takeWhile (fun b=>b != 59)).length=((s.data.toList.drop (a+1)).takeWhile (fun b=>b != 59)).length+1:=by
    rw [List.takeWhile_cons,if_pos (by rw [c120];decide),List.length_cons]
   rw [e,List.length_cons]
   by_cases g:((s.data.toList.drop (a+1)).takeWhile (fun b=>b != 59)).length<(s.data.toList.drop (a+1)).length
   ·rw [if_pos g,if_pos (by omega)];rfl
   ·rw [if_neg g,if_neg (by omega)];rfl
  rw [hsm] at hsemi
  subst c120
  have HEX:=hid hext
  have HL:=hid (pk by_ (s.data.toList.drop (a+1)))
  clear hsm hext e92 e34 e110 e116 e114 n1 c1 c110 c116 c114
  have hlen:(s.data.toList.drop (a+1)).length=s.size - (a+1):=by rw [List.length_drop,HZ.out]
  cases hs2:eT (s.data.toList.drop (a+1)) with
  | none=>
   rw [hs2] at hsemi
   rw [HL.out.1 hs2]
   have hsemi:Lib.indexByte (120 :: s.data.toList.drop (a+1)) 59=-1:=hsemi
   have HSE:=hid hsemi
   clear hsemi hs2 hlen
   go_enter Tryz.func120,Tryz.ntmps120
   go_wp2_with fail
   refine (Tryz.strings_IndexByte _ _ _).mono ?_
   rintro e w1 ⟨rfl,rfl⟩
   rw [HEX.out,show Lib.indexByte (120 :: s.data.toList.drop (a+1)) ((59:Int).toNat.toUInt8)=-1 from HSE.out]
   try dsimp only
   go_wp2_with fail
   exact bodyPost_ret (v:=.tuple #[.string ⟨#[]⟩,.int .i64 0,.bool false]) (by simp [results,Tryz.results120,go_sem]) rfl ⟨_,_,rfl,HK.out⟩
  | some k=>
   have hk:=jz hs2
   rw [hlen] at hk
   rw [hs2] at hsemi
   have hsemi:Lib.indexByte (120 :: s.data.toList.drop (a+1)) 59=((k+1:Nat):Int):=hsemi
   have hext2:(s.extract (a+1) (a+(k+1))).data.toList=(s.data.toList.drop (a+1)).take k:=by
    rw [Lib.extract_data,show a+(k+1) - (a+1)=k by omega]
   have hsz2:(s.extract (a+1) (a+(k+1))).size<=1000000:=by
    rw [Lib.size_eq,hext2]
    have:=List.length_take_le k (s.data.toList.drop (a+1))
    omega
   have HSE:=hid hsemi
   have HX2:=hid hext2
   have HZ2:=hid hsz2
   have HL2:=hid (HL.out.2 k hs2)
   clear hsemi hs2 hlen hext2 hsz2
   have b1:(0:Int)<=(k:Int)+1:=by omega
   have b2:decide ((k:Int)+1<0)=false:=dF (by omega)
   go_enter Tryz.func120,Tryz.ntmps120
   go_wp2_with fail
   refine (Tryz.strings_IndexByte _ _ _).mono ?_
   rintro e w1 ⟨rfl,rfl⟩
   rw [HEX.out,show Lib.indexByte (120 :: s.data.toList.drop (a+1)) ((59:Int).toNat.toUInt8)=((k+1:Nat):Int) from HSE.out]
   obtain ⟨q,hq⟩:∃ q,q=k+1:=⟨_,rfl⟩
   rw [<- hq] at HX2 HZ2 ⊢
   have HQ:=hid hq
   have b3:a+q<s.size:=by omega
   have b4:1<=q:=by omega
   clear hq b1 b2 hk
   have b5:decide ((q:Int)<0)=false:=dF (by omega)
   try dsimp only
   go_wp2_with fail
   refine (ic _ _ HZ2.out).mono ?_
   rintro e w2 ⟨n,hn,rfl,hr,k2⟩
   rw [HX2.out] at hr ⊢
   have HN:=hid hn
   have HK2:=hid (HK.out.trans k2)
   clear hn k2
   cases hcx:df ((s.data.toList.drop (a+1)).take k) with
   | none=>
    have HCX:=hid hcx
    clear hr hcx
    try dsimp only [Option.isSome]
    go_wp2_with fail
    refine bodyPost_ret (v:=.tuple #[.string (Utf8.encode (n:Int)),.int .i64 ((a:Int)+q+1),.bool false]) (by simp [results,Tryz.results120,go_sem]) rfl ?_
    rw [HL2.out.1 HCX.out]
    exact ⟨_,_,rfl,HK2.out⟩
   | some r=>
    obtain rfl:=hr r hcx
    have HENC:=hid (nE r (lu hcx))
    have HCX:=hid hcx
    clear hr hcx
    try dsimp only [Option.isSome]
    go_wp2_with fail
    refine bodyPost_ret (v:=.tuple #[.string (Utf8.encode (r:Int)),.int .i64 ((a:Int)+q+1),.bool true]) (by simp [results,Tryz.results120,go_sem]) rfl ?_
    rw [HL2.out.2 r HCX.out]
    unfold p4
    rw [HENC.out,HQ.out]
    refine ⟨?_,HK2.out⟩
    rw [show ((a:Int)+((k+1:Nat):Int)+1)=((a+(k+2):Nat):Int) by omega]
 have e120:((c.toNat:Int) == 120)=false:=aH c120
 by_cases c124:c=124
 ·subst c124
  have eby:((by_.toNat:Int) == 124)=(by_ == 124):=aY by_ 124
  cases hb:by_ == 124 with
  | true=>
   rw [hb] at eby
   have hv:bN by_ (124 :: s.data.toList.drop (a+1))=.ok [124] 1:=by
    rw [bN,if_neg c1,if_neg c110,if_neg c116,if_neg c114,if_neg c120,if_pos ⟨rfl,by simpa using hb⟩]
   rw [hv]
   clear hv HC hb e92 e34 e110 e116 e114 e120 n1 c1 c110 c116 c114 c120
   go_enter Tryz.func120,Tryz.ntmps120
   go_wp2_with fail
   exact bodyPost_ret (v:=.tuple #[.string ⟨#[124]⟩,.int .i64 ((a+1:Nat):Int),.bool true]) (by simp [results,Tryz.results120,go_sem]) rfl ⟨rfl,HK.out⟩
  | false=>
   rw [hb] at eby
   have hv:bN by_ (124 :: s.data.toList.drop (a+1))=.bad:=by
    rw [bN,if_neg c1,if_neg c110,if_neg c116,if_neg c114,if_neg c120,if_neg (by rintro ⟨_,h⟩;rw [h] at hb;cases hb)]
   rw [hv]
   clear hv HC hb e92 e34 e110 e116 e114 e120 n1 c1 c110 c116 c114 c120
   go_enter Tryz.func120,Tryz.ntmps120
   go_wp2_with fail
   exact bodyPost_ret (v:=.tuple #[.string ⟨#[124]⟩,.int .i64 ((a+1:Nat):Int),.bool false]) (by simp [results,Tryz.results120,go_sem]) rfl ⟨_,_,rfl,HK.out⟩
 have e124:((c.toNat:Int) == 124)=false:=aH c124
 have hv:bN by_ (c :: s.data.toList.drop (a+1))=.bad:=by
  rw [bN,if_neg c1,if_neg c110,if_neg c116,if_neg c114,if_neg c120,if_neg (by rintro ⟨h,_⟩;exact c124 h)]
 rw [hv]
 have HC2:=hid HC.out
 clear hv n1 c1 c110 c116 c114 c120 c124 HC
 obtain ⟨d,hd⟩:∃ d,d=(c.toNat:Int):=⟨_,rfl⟩
 rw [<- hd] at hx e92 e34 e110 e116 e114 e120 e124
 clear hd
 go_enter Tryz.func120,Tryz.ntmps120
 go_wp2_with fail
 exact bodyPost_ret (v:=.tuple #[.string ⟨#[]⟩,.int .i64 0,.bool false]) (by simp [results,Tryz.results120,go_sem]) rfl ⟨_,_,rfl,HK.out⟩
theorem ah.grownBy {w w':World} (k:K0 w w'):w.grownBy w' none:=⟨k.os,k.tape,k.output,k.size,fun i hi _=>k.block i hi id⟩
theorem uJ {T e:TypeId} {B b:Nat} {bs:List Value} {w w':World} (h:Lib.IsBuilderF T e B b bs w) (k:K0 w w'):Lib.IsBuilderF T e B b bs w':=by
 have key:∀ p,Lib.BuilderAtF T e B b p bs w->Lib.BuilderAtF T e B b p bs w':=by
  rintro p ⟨h1,v,h2,h3,h4⟩
  refine ⟨h1,v,k.heap h2 (by simp),h3.kept (row:=none) k.grownBy ?_,h4⟩
  cases hv:v.ownBlock with
  | none=>exact .inl rfl
  | some g=>exact .inr (by simp)
 rcases h with h | h
 ·exact .inl (key _ h)
 ·exact .inr (key _ h)
theorem wn (w:World):Lib.IsBuilderF 133 5 w.heap.size w.heap.size [] (w.alloc (.cells #[.pointer none,.slice none 0 0] 133)):=
 .inl ⟨Nat.le_refl _,.slice none 0 0,hN w _,World.ownsRowF_nil _ _ _ _,by simp [Value.ownBlock]⟩
theorem kS (l:List UInt8) (b:UInt8):Lib.byteCells (l++[b])=Lib.byteCells l++[.int .u8 (b.toNat:Int)]:=by
 unfold Lib.byteCells;simp
theorem ep (l:List UInt8):(Lib.byteCells l).length=l.length:=by unfold Lib.byteCells;simp
theorem kQ (l o:List UInt8):Lib.byteCells (l++o)=Lib.byteCells l++Lib.strCells ⟨o.toArray⟩:=by
 unfold Lib.byteCells Lib.strCells;simp
theorem mz (c:Nat):(aI c).length<=4:=by
 unfold aI
 split
 ·simp
 split
 ·simp
 split<;>simp
theorem nC {by_:UInt8} {l out:List UInt8} {n:Nat} (h:bN by_ l=.ok out n):out.length<=4:=by
 cases l with
 | nil=>cases h
 | cons d u=>
  rw [bN] at h
  split at h
  ·injection h with h;rw [<- h];simp
  split at h
  ·injection h with h;rw [<- h];simp
  split at h
  ·injection h with h;rw [<- h];simp
  split at h
  ·injection h with h;rw [<- h];simp
  split at h
  ·split at h
   ·cases h
   ·split at h
    ·cases h
    ·injection h with h;rw [<- h];exact mz _
  split at h
  ·injection h with h;rw [<- h];simp
  ·cases h
def ww (r:dh) (a:Nat) (w:World) (e:Ending) (w':World):Prop:=
 match r with
 | .ok out n=>e=.returned (.tuple #[.string ⟨out.toArray⟩,.int .i64 (n:Int),.nilIface])/\K0 w w'
 | .open_=>∃ v,e=.returned (.tuple #[.string ⟨#[]⟩,.int .i64 0,v])/\dZ w' v a 11/\K0 w w'
 | .bad i=>∃ v,e=.returned (.tuple #[.string ⟨#[]⟩,.int .i64 0,v])/\dZ w' v i 9/\K0 w w'
structure wz (w:World) (by_:UInt8) (l:List UInt8) (R:dh) (k:Nat) (out:List UInt8) (wr:World):Prop where
 b:Lib.IsBuilderF 133 5 w.heap.size w.heap.size (Lib.byteCells out) wr
 below:Below w.heap.size w wr
 r:dm by_ l k out=R
 len:out.length<=4 * k
theorem jZ (s:ByteArray) (a:Nat) (by_:UInt8) (w:World) (ha:a<s.size) (hs:s.size<=1000000) (hby:by_=s.data.toList.getD a 0) :
 Calls Tryz.prog 88 #[.string s,.int .i64 (a:Int)] w (ww (dm by_ s.data.toList (a+1) []) a w):=by
 have hz:s.data.toList.length=s.size:=(Lib.size_eq s).symm
 have hx:=aK s a (by rw [hz];exact ha) by_ hby
 have HAT:=hid (fun (k:Nat) (hk:k<s.size)=>aK s k (by rw [hz];exact hk) _ rfl)
 have HESC:=hid (fun (k:Nat) (w:World) (hk:k<s.size)=>pj s k by_ w hk hs)
 obtain ⟨l,hl⟩:∃ l,l=s.data.toList:=⟨_,rfl⟩
 rw [<- hl] at hz HAT HESC ⊢
 have HZ:=hid hz
 obtain ⟨R,hR⟩:∃ R,R=dm by_ l (a+1) []:=⟨_,rfl⟩
 rw [<- hR]
 have HS0:=hid (show wz w by_ l R (a+1) [] (w.alloc (.cells #[.pointer none,.slice none 0 0] 133)) from ⟨wn w,(Below.refl _ _).alloc (Nat.le_refl _) _,hR.symm,by simp⟩)
 clear hl hz hby hR
 go_enter Tryz.func88,Tryz.ntmps88
 go_wp2_with fail
 generalize hB:w.heap.size=B
 have HB:=hid hB
 clear hB
 go_loopw [9] (fun iv wr=>∃ (k:Nat) (out:List UInt8),k<=s.size/\iv=.int .i64 (k:Int)/\wz w by_ l R k out wr) (fun iv _=>s.size - (intOf iv).toNat)
 case atStart=>exact ⟨a+1,[],by omega,by go_num,HS0.out⟩
 case round=>
  clear HS0
  obtain ⟨k,out,hk,rfl,hst⟩:=hrel
  have HS:=hid hst
  clear hst
  by_cases hlt:k<s.size
  ·have hxk:=HAT.out k hlt
   have h0:decide ((k:Int)<(s.size:Int))=true:=dT (by omega)
   obtain ⟨c,hc⟩:∃ c,c=l.getD k 0:=⟨_,rfl⟩
   rw [<- hc] at hxk
   have HC:=hid hc
   clear hc
   have eby:((c.toNat:Int) == (by_.toNat:Int))=(c == by_):=aY c by_
   cases hcb:c == by_ with
   | true=>
    rw [hcb] at eby
    have hcc:c=by_:=by simpa using hcb
    have HCC:=hid hcc
    clear hcb hcc
    go_wp2_with fail
    refine (Tryz.Builder_String_any_k B B out wr (by have:=HS.out.b;rw [HB.out] at this;exact this) (by have:=HS.out.below.size;rw [HB.out] at this;exact this)).mono ?_
    rintro e w2 ⟨rfl,-,hbel,-⟩
    have HK:=hid (show K0 w w2 from ah.of_below (HS.out.below.trans (by rw [HB.out];exact hbel)))
    clear hbel
    try dsimp only
    go_wp2_with fail
    refine bodyPost_ret (v:=.tuple #[.string ⟨out.toArray⟩,.int .i64 ((k+1:Nat):Int),.nilIface]) (by simp [results,Tryz.results88,go_sem]) rfl ?_
    rw [<- HS.out.r,jm (by rw [HZ.out];exact hlt) (by rw [<- HC.out];exact HCC.out)]
    exact ⟨rfl,HK.out⟩
   | false=>
    rw [hcb] at eby
    have hcc:c ≠ by_:=by simpa using hcb
    have HCC:=hid hcc
    clear hcb hcc
    have e92:((c.toNat:Int) == 92)=(c == 92):=aY c 92
    cases h92:c == 92 with
    | true=>
     rw [h92] at e92
     have hc92:c=92:=by simpa using h92
     have H92:=hid hc92
     clear h92 hc92
     by_cases hend:k+1=s.size
     ·have e1:((k:Int)+1 == (s.size:Int))=true:=by simp;omega
      have HEND:=hid hend
      clear hend
      go_wp2_with fail
      refine (bK _ _ _ _).mono ?_
      rintro e w2 ⟨v,rfl,he,hk2⟩
      have HE:=hid he
      have HK:=hid (show K0 w w2 from ah.of_below (HS.out.below.trans (show Below w.heap.size wr w2 from ⟨hk2.os,hk2.tape,hk2.output,hk2.size,fun i hi=>hk2.block i (Nat.lt_of_lt_of_le hi HS.out.below.size) id⟩)))
      clear he hk2
      try dsimp only
      go_wp2_with fail
      refine bodyPost_ret (v:=.tuple #[.string ⟨#[]⟩,.int .i64 0,v]) (by simp [results,Tryz.results88,go_sem]) rfl ?_
      rw [<- HS.out.r,j3 (by rw [HZ.out];exact hlt) (by rw [<- HC.out];exact HCC.out) (by rw [<- HC.out];exact H92.out) (by rw [List.drop_of_length_le (by rw [HZ.out];have:=HEND.out;omega)];rfl)]
      exact ⟨v,rfl,HE.out,HK.out⟩
     ·have e1:((k:Int)+1 == (s.size:Int))=false:=by simp;omega
      have hk1:k+1<s.size:=by omega
      clear hend
      go_wp2_with fail
      rw [show ((k:Int)+1)=((k+1:Nat):Int) from rfl]
      refine (HESC.out (k+1) wr hk1).mono ?_
      intro e w2 hpost
      cases hesc:bN by_ (l.drop (k+1)) with
      | open_=>rw [hesc] at hpost;exact hpost.elim
      | bad=>
       rw [hesc] at hpost
       obtain ⟨x,i,rfl,k2⟩:=hpost
       have HE2:=hid hesc
       have HB2:=hid (show Below w.heap.size w w2 from HS.out.below.trans (show Below w.heap.size wr w2 from ⟨k2.os,k2.tape,k2.output,k2.size,fun i hi=>k2.block i (Nat.lt_of_lt_of_le hi HS.out.below.size) id⟩))
       clear hesc k2
       try dsimp only
       go_wp2_with fail
       refine (bK _ _ _ _).mono ?_
       rintro e w3 ⟨v,rfl,he,hk2⟩
       have HE:=hid he
       have HK:=hid (show K0 w w3 from ah.of_below (HB2.out.trans (show Below w.heap.size w2 w3 from ⟨hk2.os,hk2.tape,hk2.output,hk2.size,fun i hi=>hk2.block i (Nat.lt_of_lt_of_le hi HB2.out.size) id⟩)))
       clear he hk2
       try dsimp only
       go_wp2_with fail
       refine bodyPost_ret (v:=.tuple #[.string ⟨#[]⟩,.int .i64 0,v]) (by simp [results,Tryz.results88,go_sem]) rfl ?_
       rw [<- HS.out.r,lf (by rw [HZ.out];exact hlt) (by rw [<- HC.out];exact HCC.out) (by rw [<- HC.out];exact H92.out) HE2.out]
       exact ⟨v,rfl,HE.out,HK.out⟩
      | ok o n=>
       rw [hesc] at hpost
       obtain ⟨rfl,k2⟩:=hpost
       have hle:=l9 hesc
       rw [List.length_drop,HZ.out] at hle
       have hol:=nC hesc
       have HE2:=hid hesc
       have HB2:=hid (show Below w.heap.size w w2 from HS.out.below.trans (show Below w.heap.size wr w2 from ⟨k2.os,k2.tape,k2.output,k2.size,fun i hi=>k2.block i (Nat.lt_of_lt_of_le hi HS.out.below.size) id⟩))
       have HBL:=hid (uJ HS.out.b k2)
       have HLN:=hid HS.out.len
       clear hesc k2
       have HOL:=hid hol
       clear hol
       try dsimp only
       go_wp2_with fail
       refine (Tryz.Builder_WriteString_k B B (Lib.byteCells out) ⟨o.toArray⟩ w2 (by have:=HBL.out;rw [HB.out] at this;exact this) (by rw [ep,Lib.size_eq];have:=HLN.out;have:=HOL.out;simp only;omega) (by have:=HB2.out.size;rw [HB.out] at this;exact this)).mono ?_
       rintro e w3 ⟨rfl,hat,hbel,-⟩
       rw [<- kQ] at hat
       have HST:=hid (show wz w by_ l R (k+1+n) (out++o) w3 from ⟨by rw [HB.out];exact .inr hat,HB2.out.trans (by rw [HB.out];exact hbel),by rw [<- HS.out.r,lc (by rw [HZ.out];exact hlt) (by rw [<- HC.out];exact HCC.out) (by rw [<- HC.out];exact H92.out) HE2.out],by rw [List.length_append];have:=HLN.out;have:=HOL.out;omega⟩)
       clear hat hbel
       try dsimp only
       go_wp2_with fail
       go_roundw
       case rel=>exact ⟨k+1+n,out++o,by omega,by go_num,HST.out⟩
       case measure=>simp [intOf];omega
    | false=>
     rw [h92] at e92
     have hc92:c ≠ 92:=by simpa using h92
     have H92:=hid hc92
     have HLN:=hid HS.out.len
     clear h92 hc92
     go_wp2_with fail
     refine (Tryz.Builder_WriteByte_k B B (Lib.byteCells out) (c.toNat:Int) wr (by have:=HS.out.b;rw [HB.out] at this;exact this) (by rw [ep];have:=HLN.out;omega) (by have:=HS.out.below.size;rw [HB.out] at this;exact this)).mono ?_
     rintro e w3 ⟨rfl,hat,hbel,-⟩
     rw [<- kS] at hat
     have HST:=hid (show wz w by_ l R (k+1) (out++[c]) w3 from ⟨by rw [HB.out];exact .inr hat,HS.out.below.trans (by rw [HB.out];exact hbel),by rw [HC.out];exact (jl (by rw [HZ.out];exact hlt) (by rw [<- HC.out];exact HCC.out) (by rw [<- HC.out];exact H92.out)).symm.trans HS.out.r,by rw [List.length_append];have:=HLN.out;simp;omega⟩)
     clear hat hbel
     try dsimp only
     go_wp2_with fail
     go_roundw
     case rel=>exact ⟨k+1,out++[c],by omega,by go_num,HST.out⟩
     case measure=>simp [intOf];omega
  ·have h0:decide ((k:Int)<(s.size:Int))=false:=dF (by omega)
   have h1:decide (k<s.size)=false:=dF (by omega)
   have hke:k=s.size:=by omega
   have HKE:=hid hke
   clear hke
   go_wp2_with fail
   refine (bK _ _ _ _).mono ?_
   rintro e w2 ⟨v,rfl,he,hk2⟩
   have HE:=hid he
   have HK:=hid (show K0 w w2 from ah.of_below (HS.out.below.trans (show Below w.heap.size wr w2 from ⟨hk2.os,hk2.tape,hk2.output,hk2.size,fun i hi=>hk2.block i (Nat.lt_of_lt_of_le hi HS.out.below.size) id⟩)))
   clear he hk2
   try dsimp only
   go_wp2_with fail
   refine bodyPost_ret (v:=.tuple #[.string ⟨#[]⟩,.int .i64 0,v]) (by simp [results,Tryz.results88,go_sem]) rfl ?_
   rw [<- HS.out.r,HKE.out,<- HZ.out,ld]
   exact ⟨v,rfl,HE.out,HK.out⟩
end Go.Proofs.YtonnikipeokkaaaGreatDoor
