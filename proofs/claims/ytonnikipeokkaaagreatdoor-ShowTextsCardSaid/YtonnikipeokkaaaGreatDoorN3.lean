/-
  Numbers, by program: texts of another seat, turned to this o
-/
import Derived.Test.YtonnikipeokkaaaGreatDoorN2
import Derived.Laws.BitsAllLaws
import Derived.ProofKit
import Derived.OpenShut
import Derived.LaidMore
import Derived.Lay
import Derived.SevenTiedAt
import Derived.Stop.Joined
import Derived.Stop.LaidErr
namespace Go.Proofs.YtonnikipeokkaaaGreatDoor
set_option maxRecDepth 100000
set_option maxHeartbeats 8000000
open Go.Lib (hid)
open Go.RowKit
theorem aT:2<=2:=Nat.le_refl 2
abbrev ai (n:Nat):List Nat:=d4 2 n
abbrev bB (l:List Nat):Nat:=val 2 l
def dy (l:List Nat):Nat:=(ai (bB l)).length
theorem mh {l:List Nat} (low:Low 2 l) {k:Nat} (hk:k<=l.length) (hz:∀ j,k<=j->j<l.length->l.getD j 0=0) (h:k=0\/l.getD (k - 1) 0 ≠ 0):dy l=k/\l.take k=ai (bB l):=by
 have:=kW aT low hk hz h
 refine ⟨?_,this⟩
 have e:=congrArg List.length this
 rw [List.length_take] at e
 show (d4 2 (val 2 l)).length=k
 omega
theorem fU {l:List Nat} (low:Low 2 l):dy l<=l.length:=by
 unfold dy ai
 rw [aM aT]
 exact fq low
structure bg (w:World) (A:Option Addr) (n c:Nat) (l:List Nat):Prop where
 row:cT .u8 w A n l
 low:Low 2 l
 cap:n<=c
 max:n<=10000000
namespace bg
variable {w w':World} {A:Option Addr} {n c:Nat} {l:List Nat}
theorem len (h:bg w A n c l):l.length=n:=h.row.1
theorem keep0 (h:bg w A n c l) (k:K0 w w'):bg w' A n c l:=⟨h.row.keep0 k,h.low,h.cap,h.max⟩
end bg
theorem aP.toBits {w:World} {base n c:Nat} {A:Option Addr} {l:List Nat} (h:aP 5 .u8 w base A n c l) (low:Low 2 l) (hm:n<=10000000):bg w A n c l:=⟨h.row,low,h.cap,hm⟩
theorem ck {l:List Nat} (h:Low 2 l) (j:Nat):l.getD j 0=0\/l.getD j 0=1:=by
 have:=h.getD (by omega) j
 omega
theorem dW (A:Option Addr) (n c:Nat) (l:List Nat) (w:World) (hA:bg w A n c l) :
 Calls Tryz.prog 115 #[.slice A n c] w fun e w'=>e=.returned (.slice A (dy l) c)/\w=w':=by
 obtain ⟨h,low,hcap,hn⟩:=hA
 have hlen:=h.1
 have LOW:=hid low
 have HLEN:=hid hlen
 clear low hlen
 go_enter Tryz.func115,Tryz.ntmps115
 go_wp2_with fail
 go_loop [3] (fun i=>∃ k:Nat,k<=n/\i=.int .i64 k /\ ∀ j,k<=j->j<n->l.getD j 0=0) (fun i=>(intOf i).toNat)
 case atStart=>exact ⟨n,Nat.le_refl _,rfl,fun j h1 h2=>by omega⟩
 case round=>
  obtain ⟨k,hk,rfl,hz⟩:=hrel
  have HZ:=hid hz
  clear hz
  by_cases h0:k=0
  ·subst h0
   have ht:=(mh LOW.out (k:=0) (Nat.zero_le _) (fun j h1 h2=>HZ.out j h1 (by rw [<- HLEN.out];exact h2)) (.inl rfl)).1
   have HT:=hid ht
   clear ht
   go_wp2_with fail
   go_ret
   exact ⟨by rw [HT.out];rfl,rfl⟩
  ·obtain ⟨m,rfl⟩:∃ m,k=m+1:=⟨k - 1,by omega⟩
   obtain ⟨b,off,rfl,hb,hc⟩:=h.2 m (by omega)
   by_cases hx:l.getD m 0=0
   ·rw [hx] at hc
    have HX:=hid hx
    clear hx h0
    go_wp2_with fail
    go_round
    case rel=>exact ⟨m,by omega,by go_num,fun j h1 h2=>by
     by_cases e:j=m
     ·rw [e];exact HX.out
     ·exact HZ.out j (by omega) h2⟩
    case measure=>simp [intOf]
   ·have ht:=(mh LOW.out (k:=m+1) (by rw [HLEN.out];exact hk) (fun j h1 h2=>HZ.out j h1 (by rw [<- HLEN.out];exact h2)) (.inr (by simpa using hx))).1
    have HT:=hid ht
    obtain ⟨x,hxx⟩:∃ x,x=l.getD m 0:=⟨_,rfl⟩
    rw [<- hxx] at hc hx
    have hb0:(((x:Nat):Int) == 0)=false:=by simpa using hx
    clear ht h0 hxx hx
    have hc1:(m:Int)+1<=(c:Int):=by omega
    go_wp2_with fail
    go_ret
    exact ⟨by rw [HT.out];rfl,rfl⟩
def jD (x:Int) (w:World) (e:Ending) (w':World):Prop:=
 K0 w w'/\∃ (A:Option Addr) (n c:Nat),e=.returned (al (decide (x<0)) A n c)/\aP 5 .u8 w' w.heap.size A n c (ai x.natAbs)
theorem nO {l:List Nat} (low:Low 2 l):l.take (dy l)=ai (bB l):=by
 obtain ⟨k,hk,hz,h⟩:∃ k,k<=l.length/\(∀ j,k<=j->j<l.length->l.getD j 0=0)/\(k=0\/l.getD (k - 1) 0 ≠ 0):=by
  have:∀ m,m<=l.length->(∀ j,m<=j->j<l.length->l.getD j 0=0)->∃ k,k<=l.length/\(∀ j,k<=j->j<l.length->l.getD j 0=0)/\(k=0\/l.getD (k - 1) 0 ≠ 0):=by
   intro m
   induction m with
   | zero=>intro hm hz;exact ⟨0,hm,hz,.inl rfl⟩
   | succ m ih=>
    intro hm hz
    by_cases e:l.getD m 0=0
    ·refine ih (by omega) fun j hj hl=>?_
     by_cases e2:j=m
     ·rw [e2];exact e
     ·exact hz j (by omega) hl
    ·exact ⟨m+1,hm,hz,.inr (by simpa using e)⟩
  exact this l.length (Nat.le_refl _) (fun j hj hl=>by omega)
 obtain ⟨h1,h2⟩:=mh low hk hz h
 rw [h1,h2]
def sgn (neg:Bool) (m:Nat):Int:=if neg then -(m:Int) else (m:Int)
theorem pK (neg:Bool) (m:Nat):(neg && decide (0<m))=decide (sgn neg m<0):=by
 unfold sgn
 cases neg
 ·simp
 ·rw [Bool.true_and,if_pos rfl];exact decide_eq_decide.2 (by omega)
theorem nQ (l:List Nat):0<dy l ↔ 0<bB l:=by
 unfold dy
 constructor
 ·intro h
  rcases Nat.eq_zero_or_pos (bB l) with e | e
  ·rw [e] at h
   unfold ai at h
   rw [bi] at h
   simp at h
  ·exact e
 ·intro h
  rcases Nat.eq_zero_or_pos (ai (bB l)).length with e | e
  ·have:=ez aT (List.eq_nil_of_length_eq_zero e)
   omega
  ·exact e
theorem d7:(Tryz.prog.info? 5).map (fun i=>(i.zero,i.size,i.bytes))=some (some (.int .u8 0),1,1):=by kernel_rfl
theorem jC (w5:World) (x:Int):∀ j u,([Value.int .u8 x]:List Value)[j]? = some u->(w5.alloc (.cells #[.int .u8 x] 5)).cell? ((⟨w5.heap.size,0,none⟩:Addr).add j)=some u:=by
 intro j u hu
 match j with
 | 0=>
  simp at hu
  subst hu
  rw [Addr.add_mid,cell_of_row _ _ _ _ _ _ (hN w5 _)]
  rfl
 | j+1=>simp at hu
structure kT (w1:World) (l:List Nat) (i k:Nat) (bs:List Nat) (v:Value) (wr:World):Prop where
 o:wr.ownsRow w1.heap.size 5 1 v (32 * i+k) (bs.map fun x:Nat=>Value.int .u8 (x:Int))
 low:Low 2 bs
 v:bB bs=bA (l.take i)+BB ^ i * (l.getD i 0 % 2 ^ k)
 K:K0 w1 wr
theorem kT.len {w1 wr:World} {l bs:List Nat} {i k:Nat} {v:Value} (h:kT w1 l i k bs v wr):bs.length=32 * i+k:=by have:=h.o.1;simpa using this
theorem kT.more {w1 wr w6:World} {l bs:List Nat} {i k:Nat} {v v':Value} (h:kT w1 l i k bs v wr) {b:Nat} (hb:b=l.getD i 0 / 2 ^ k % 2) {w5:World} (K5:K0 wr w5)
 (hown:w6.ownsRow w1.heap.size 5 1 v' (32 * i+k+1) ((bs.map fun x:Nat=>Value.int .u8 (x:Int))++[.int .u8 (b:Int)])) (hgrow:w5.grownBy w6 v.ownBlock):kT w1 l i (k+1) (bs++[b]) v' w6:=by
 refine ⟨?_,h.low.append (by intro x hx;simp at hx;rw [hx,hb];omega),?_,?_⟩
 ·rw [List.map_append];exact hown
 ·rw [show bB (bs++[b])=bB bs+2 ^ bs.length * val 2 [b] from cK 2 bs [b],h.v,h.len,Nat.mod_pow_succ,show val 2 [b]=b by simp [val],<- hb,Nat.mul_add,Nat.pow_add,Nat.pow_mul,show (2:Nat) ^ 32=BB from rfl]
  simp only [Nat.mul_assoc,Nat.add_assoc]
 ·refine (h.K.trans K5).into (ah.of_grown hgrow) (fun i' hi=>?_)
  rcases h.o.2 with ⟨hn,_⟩ | ⟨g,cap,cur,hv,hg,_⟩
  ·rw [hn] at hi;cases hi
  ·rw [hv] at hi
   have:i'=g:=by simpa [Value.ownBlock] using hi
   omega
theorem cS {w:World} {base n:Nat} {v:Value} {xs:List Value} (h:w.ownsRow base 5 1 v n xs):∃ P c,v=.slice P n c:=by
 rcases h.2 with ⟨hn,h0⟩ | ⟨g,cap,cur,hv,_⟩
 ·exact ⟨none,0,by rw [hn,h0]⟩
 ·exact ⟨_,_,hv⟩
theorem iy {S:Nat->Prop} {w w':World} {base n k:Nat} {e:TypeId} {v:Value} {xs:List Value} (h:w.ownsRow base e k v n xs) (K:ah S w w') (hs:∀ b,v.ownBlock=some b->¬ S b):w'.ownsRow base e k v n xs:=by
 refine ⟨h.1,?_⟩
 rcases h.2 with hn | ⟨g,cap,cur,hv,hg,hh,rest⟩
 ·exact .inl hn
 ·refine .inr ⟨g,cap,cur,hv,hg,?_,rest⟩
  rw [K.block g (az hh) (hs g (by rw [hv];rfl))]
  exact hh
theorem pO (m B a b k:Nat) (hB:B=2 ^ a) (hk:k=a * b):(d4 2 m).length<=k ↔ m<B ^ b:=by
 subst hB hk
 rw [aM aT,Nat.pow_mul]
theorem fG (x:Int):dG x ↔ (ai x.natAbs).length<=1536:=(iM x).trans (pO x.natAbs BB 32 48 1536 rfl rfl).symm
structure kI (w1:World) (B2:Nat) (neg:Bool) (l:List Nat) (i:Nat) (A:Option Addr) (n c:Nat) (ls:List Nat) (wr:World):Prop where
 r:wr.heap[B2]? = some (.cells #[.bool neg,.slice A n c] 24 (0,0))
 own:aP 126 .u32 wr w1.heap.size A n c ls
 low:Low BB ls
 v:bA ls=bB (l.take i)
 n:n=(i+31) / 32
 K:ah (fun b=>b=B2) w1 wr
 lt:B2<w1.heap.size
namespace kI
variable {w1 wr w5 w6:World} {B2:Nat} {neg:Bool} {l ls:List Nat} {i n c:Nat} {A:Option Addr}
theorem len (h:kI w1 B2 neg l i A n c ls wr):ls.length=n:=h.own.len
theorem limb (h:kI w1 B2 neg l i A n c ls wr) (hi:i % 32=0) {v':Value} (K5:K0 wr w5)
 (hown:w6.ownsRow w1.heap.size 126 1 v' (n+1) ((ls.map fun x:Nat=>Value.int .u32 (x:Int))++[.int .u32 0])) (hgrow:w5.grownBy w6 (Value.slice A n c).ownBlock) :
 ∃ A' c',v'=.slice A' (n+1) c'/\w6.heap[B2]? = some (.cells #[.bool neg,.slice A n c] 24 (0,0))/\aP 126 .u32 (w6.setCell ⟨B2,1,none⟩ v') w1.heap.size A' (n+1) c' (ls++[0])/\Low BB (ls++[0])/\bA (ls++[0])=bB (l.take i)/\n+1=i / 32+1 /\
  (w6.setCell ⟨B2,1,none⟩ v').heap[B2]? = some (.cells #[.bool neg,v'] 24 (0,0))/\ah (fun b=>b=B2) w1 (w6.setCell ⟨B2,1,none⟩ v')/\ah (fun b=>b=B2) w1 w6:=by
 have hown2:w6.ownsRow w1.heap.size 126 1 v' (n+1) ((ls++[0]).map fun x:Nat=>Value.int .u32 (x:Int)):=by rw [List.map_append];exact hown
 obtain ⟨A',c',rfl,o6⟩:=cj hown2
 have hob:∀ k,(Value.slice A n c).ownBlock=some k->w1.heap.size<=k:=by
  intro k hk
  rcases h.own.2 with ⟨hn,_⟩ | ⟨g,cap,cur,hv,hg,_⟩
  ·rw [hn] at hk;cases hk
  ·rw [hv] at hk
   have:k=g:=by simpa [Value.ownBlock] using hk.symm
   omega
 have hr6:w6.heap[B2]? = some (.cells #[.bool neg,.slice A n c] 24 (0,0)):=by
  have h5:=K5.heap h.r (by simp)
  exact (ah.of_grown hgrow).heap h5 (fun e=>by have:=hob B2 e.symm;have:=h.lt;omega)
 have KS:ah (fun b=>b=B2) w6 (w6.setCell ⟨B2,1,none⟩ (.slice A' (n+1) c')):=cG (S:=fun b=>b=B2) rfl 1 _
 refine ⟨A',c',rfl,hr6,o6.keep KS (fun b off e=>by have:=(o6.fresh b off e).1;have:=h.lt;omega),h.low.append (by intro x hx;simp at hx;rw [hx];unfold BB;omega),?_,by have:=h.n;omega,?_,?_,?_⟩
 ·rw [show bA (ls++[0])=bA ls+BB ^ ls.length * val BB [0] from cK BB ls [0],h.v];simp [val]
 ·simp [World.setCell,Array.getElem?_modify,hr6]
 ·have k1:ah (fun b=>b=B2) w1 w5:=h.K.join K5 (fun _ _ f=>f.elim)
  exact (k1.grown hgrow (fun k hk=>.inr (hob k hk))).join KS (fun _ _ e=>e)
 ·exact (h.K.join K5 (fun _ _ f=>f.elim)).grown hgrow (fun k hk=>.inr (hob k hk))
end kI
theorem kI.drew {w1 wr:World} {B2:Nat} {neg:Bool} {l ls:List Nat} {i n c:Nat} {A:Option Addr} (h:kI w1 B2 neg l i A n c ls wr):kI w1 B2 neg l i A n c ls wr.drew:=
 ⟨h.r,h.own.keep0 (ah.refl _ wr).drew,h.low,h.v,h.n,h.K.drew,h.lt⟩
structure lI (w1:World) (B2:Nat) (neg:Bool) (l:List Nat) (i:Nat) (A:Option Addr) (n c:Nat) (ls:List Nat) (wr:World):Prop where
 r:wr.heap[B2]? = some (.cells #[.bool neg,.slice A n c] 24 (0,0))
 own:aP 126 .u32 wr w1.heap.size A n c ls
 low:Low BB ls
 v:bA ls=bB (l.take i)
 n:n=i / 32+1
 K:ah (fun b=>b=B2) w1 wr
 lt:B2<w1.heap.size
theorem lI.zero {w1 wr:World} {B2:Nat} {neg:Bool} {l ls:List Nat} {i n c:Nat} {A:Option Addr} (h:lI w1 B2 neg l i A n c ls wr) (hz:l.getD i 0=0):kI w1 B2 neg l (i+1) A n c ls wr:=
 ⟨h.r,h.own,h.low,by rw [h.v,show bB (l.take (i+1))=_ from bq 2 l i,hz,Nat.mul_zero,Nat.add_zero],by have:=h.n;omega,h.K,h.lt⟩
theorem pM {y s:Nat} (hy:y<2 ^ s) (hs:s<32):bits BinOp.or IntKind.u32 (y:Int) (2 ^ s % 4294967296)=((y+2 ^ s:Nat):Int):=by
 have h2:2 ^ s<4294967296:=Nat.pow_lt_pow_right (a:=2) (by omega) hs
 have e:((2:Int) ^ s % 4294967296)=((2 ^ s:Nat):Int):=by
  have:((2:Int) ^ s)=((2 ^ s:Nat):Int):=by simp
  rw [this]
  generalize 2 ^ s=z at *
  omega
 rw [e,u32_or_nat _ _ (by omega) h2,Nat.or_comm]
 have:=Nat.two_pow_add_eq_or_of_lt hy 1
 rw [Nat.mul_one] at this
 rw [<- this,Nat.add_comm]
theorem lq {ls:List Nat} {i:Nat} (_low:Low BB ls) (hl:ls.length=i / 32+1) (hv:bA ls<2 ^ i):ls.getD (i / 32) 0<2 ^ (i % 32):=by
 have h1:bA ls=bA (ls.take (i / 32))+BB ^ (i / 32) * ls.getD (i / 32) 0:=by
  rw [<- show bA (ls.take (i / 32+1))=_ from bq BB ls (i / 32),List.take_of_length_le (by omega)]
 have h2:2 ^ i=BB ^ (i / 32) * 2 ^ (i % 32):=by
  rw [show BB=2 ^ 32 from rfl,<- Nat.pow_mul,<- Nat.pow_add]
  congr 1
  omega
 rw [h2] at hv
 refine Nat.lt_of_mul_lt_mul_left (a:=BB ^ (i / 32)) ?_
 omega
theorem sB {ls:List Nat} {i:Nat} (low:Low BB ls) (hl:ls.length=i / 32+1) (hv:bA ls<2 ^ i):Low BB (ls.set (i / 32) (ls.getD (i / 32) 0+2 ^ (i % 32)))/\bA (ls.set (i / 32) (ls.getD (i / 32) 0+2 ^ (i % 32)))=bA ls+2 ^ i:=by
 have hy:=lq low hl hv
 have h3:2 ^ (i % 32)+2 ^ (i % 32)<=BB:=by
  rw [<- Nat.two_mul,<- Nat.pow_succ',show BB=2 ^ 32 from rfl]
  exact Nat.pow_le_pow_right (by omega) (by omega)
 have h2:2 ^ i=BB ^ (i / 32) * 2 ^ (i % 32):=by
  rw [show BB=2 ^ 32 from rfl,<- Nat.pow_mul,<- Nat.pow_add]
  congr 1
  omega
 refine ⟨fun x hx=>?_,?_⟩
 ·rcases List.mem_or_eq_of_mem_set hx with h | h
  ·exact low x h
  ·omega
 ·have:=lK BB ls (i / 32) (ls.getD (i / 32) 0+2 ^ (i % 32)) (by omega)
  rw [Nat.mul_add] at this
  show val BB _=val BB ls+_
  omega
theorem lI.one {w1 wr:World} {B2 g:Nat} {neg:Bool} {l ls:List Nat} {i n c:Nat} (h:lI w1 B2 neg l i (some ⟨g,0,none⟩) n c ls wr) (low:Low 2 l) (hz:l.getD i 0=1) :
 ls.getD (i / 32) 0<2 ^ (i % 32)/\(∀ w6,w6=wr.setCell ⟨g,i / 32,none⟩ (.int .u32 ((ls.getD (i / 32) 0+2 ^ (i % 32):Nat):Int))->kI w1 B2 neg l (i+1) (some ⟨g,0,none⟩) n c (ls.set (i / 32) (ls.getD (i / 32) 0+2 ^ (i % 32))) w6):=by
 have hlt:bA ls<2 ^ i:=by rw [h.v];exact ff (by omega) low i
 have hlen:ls.length=i / 32+1:=by rw [h.own.len];exact h.n
 obtain ⟨s1,s2⟩:=sB h.low hlen hlt
 refine ⟨lq h.low hlen hlt,?_⟩
 rintro w6 rfl
 have hg:=(h.own.fresh g 0 rfl).1
 have KS:ah (fun b=>b=g) wr (wr.setCell ⟨g,i / 32,none⟩ (.int .u32 ((ls.getD (i / 32) 0+2 ^ (i % 32):Nat):Int))):=cG (S:=fun b=>b=g) rfl _ _
 refine ⟨KS.heap h.r (by have:=h.lt;omega),h.own.set (by rw [h.n];omega) _,s1,?_,by have:=h.n;omega,h.K.join KS (fun b hb e=>by rw [e] at hb;omega),h.lt⟩
 rw [s2,h.v,show bB (l.take (i+1))=_ from bq 2 l i,hz,Nat.mul_one]
theorem ri {w1 wr:World} {B2:Nat} {neg:Bool} {l ls:List Nat} {i n c:Nat} {A:Option Addr} (h:kI w1 B2 neg l i A n c ls wr) (hl:i=l.length) (ht:fc l):fc ls:=by
 have hv:bA ls=bB l:=by rw [h.v,List.take_of_length_le (by omega)]
 have hn:=h.n
 have hlen:=h.len
 intro hlast
 have hne:ls ≠ []:=by intro e;rw [e] at hlast;simp at hlast
 have hpos:0<ls.length:=List.length_pos_iff.2 hne
 have hi0:0<i:=by omega
 have e:=(List.dropLast_concat_getLast hne).symm
 have h0:ls.getLast hne=0:=by rw [List.getLast?_eq_some_getLast hne] at hlast;exact Option.some.inj hlast
 have hv2:bA ls=bA ls.dropLast:=by
  show val BB ls=val BB ls.dropLast
  conv=>lhs;rw [e]
  rw [cK,h0]
  simp [val]
 have h1:bA ls.dropLast<BB ^ (n - 1):=by
  have:=fq (show Low BB ls.dropLast from fun x hx=>h.low x (List.dropLast_subset _ hx))
  rwa [List.length_dropLast,hlen] at this
 have h2:2 ^ (i - 1)<=bB l:=by
  have:=j5 (B:=2) (by omega) ht (by intro e;rw [e] at hl;simp at hl;omega)
  rwa [<- hl] at this
 have h3:BB ^ (n - 1)<=2 ^ (i - 1):=by
  rw [show BB=2 ^ 32 from rfl,<- Nat.pow_mul]
  exact Nat.pow_le_pow_right (by omega) (by omega)
 omega
theorem lX (x:Int) (A:Option Addr) (n c:Nat) (w:World) (h:bg w A n c (ai x.natAbs)) :
 Calls Tryz.prog 68 #[al (decide (x<0)) A n c] w (dr x w):=by
 obtain ⟨neg,hneg⟩:∃ b,b=decide (x<0):=⟨_,rfl⟩
 rw [<- hneg]
 have HNEG:=hid hneg
 have hfit:=fG x
 rw [h.len] at hfit
 have HFIT:=hid hfit
 have hmx:=h.max
 obtain ⟨l,hl⟩:∃ l,l=ai x.natAbs:=⟨_,rfl⟩
 rw [<- hl] at h
 have HLE:=hid hl
 have HB:=hid h
 have HBL:=hid (fun (hn:0<n) (b off:Nat) (e:A=some ⟨b,off,none⟩)=>(show b<w.heap.size from by obtain ⟨b',off',e',hb',_⟩:=h.row.2 0 hn;rw [e] at e';injection e' with e';injection e' with e1;rw [e1];exact hb'))
 clear hneg hfit hl h
 have K:K0 w ((w.alloc (.cells #[.bool neg,.slice A n c] 90)).alloc (.cells #[.bool false,.slice none 0 0] 24)):=(kR.alloc _).alloc _
 have hb1:((w.alloc (.cells #[.bool neg,.slice A n c] 90)).alloc (.cells #[.bool false,.slice none 0 0] 24)).heap[w.heap.size]? = some (.cells #[.bool neg,.slice A n c] 90 (0,0)):=by
  rw [Below.heap_alloc _ _ _ (by simp)];exact hN w _
 have hb2:((w.alloc (.cells #[.bool neg,.slice A n c] 90)).alloc (.cells #[.bool false,.slice none 0 0] 24)).heap[w.heap.size+1]? = some (.cells #[.bool false,.slice none 0 0] 24 (0,0)):=by
  have:=hN (w.alloc (.cells #[.bool neg,.slice A n c] 90)) (.cells #[.bool false,.slice none 0 0] 24)
  rwa [World.size_alloc] at this
 have HK:=hid K
 have HB1:=hid hb1
 have HB2:=hid hb2
 clear K hb1 hb2
 by_cases hbig:1536<n
 ·have hbi:(1536:Int)<(n:Int):=by omega
  have HR:=hid (show dr x w (.returned (.tuple #[al false none 0 0,.int .i64 6])) ((w.alloc (.cells #[.bool neg,.slice A n c] 90)).alloc (.cells #[.bool false,.slice none 0 0] 24)) from ⟨HK.out,.inl ⟨fun f=>by have:=HFIT.out.1 f;omega,rfl⟩⟩)
  clear HNEG HFIT
  go_enter Tryz.func68,Tryz.ntmps68
  go_wp2_with fail
  exact bodyPost_ret (v:=.tuple #[al false none 0 0,.int .i64 6]) (by simp [results,Tryz.results68,go_sem]) rfl HR.out
 ·have hbi:decide ((1536:Int)<(n:Int))=false:=dF (by omega)
  go_enter Tryz.func68,Tryz.ntmps68
  go_wp2_with fail
  have K3:K0 w (((w.alloc (.cells #[.bool neg,.slice A n c] 90)).alloc (.cells #[.bool false,.slice none 0 0] 24)).alloc (.cells #[.bool neg,.slice none 0 0] 24)):=HK.out.alloc _
  have hb3:=hN ((w.alloc (.cells #[.bool neg,.slice A n c] 90)).alloc (.cells #[.bool false,.slice none 0 0] 24)) (.cells #[.bool neg,.slice none 0 0] 24)
  rw [World.size_alloc,World.size_alloc] at hb3
  have g1:=(((ah.refl (fun _=>False) _).alloc (.cells #[.bool neg,.slice none 0 0] 24))).heap HB1.out (by simp)
  have g2:=(((ah.refl (fun _=>False) _).alloc (.cells #[.bool neg,.slice none 0 0] 24))).heap HB2.out (by simp)
  have HBB:=hid (HB.out.keep0 K3)
  clear HB HB1 HB2 HK
  have HK:=hid K3
  have HB1:=hid g1
  have HB2:=hid g2
  have HB3:=hid hb3
  clear K3 g1 g2 hb3
  generalize hB0:w.heap.size=B0 at HB1 HB2 HB3 ⊢
  have HBX:=hid (Nat.le_of_eq hB0)
  clear hB0
  generalize ((w.alloc (.cells #[.bool neg,.slice A n c] 90)).alloc (.cells #[.bool false,.slice none 0 0] 24)).alloc (.cells #[.bool neg,.slice none 0 0] 24)=w1 at HBB HK HB1 HB2 HB3 ⊢
  have HC:=hid (fun (w':World) (K':ah (fun b=>b=B0+1+1) w1 w')=>(show w'.cell? ⟨B0,1,none⟩=some (.slice A n c) from by rw [cell_of_row w' _ _ _ _ _ (K'.heap HB1.out (by omega))];rfl))
  go_loopw [5] (fun iv wr=>∃ (i:Nat) (A':Option Addr) (n' c':Nat) (ls:List Nat),i<=n/\iv=.int .i64 (i:Int)/\kI w1 (B0+1+1) neg l i A' n' c' ls wr) (fun iv _=>n - (intOf iv).toNat)
  case atStart=>exact ⟨0,none,0,0,[],Nat.zero_le _,rfl,HB3.out,aP.nil _ _ _ _,Low.nil _,rfl,rfl,kR,az HB3.out⟩
  case round=>
   obtain ⟨i,A2,n2,c2,ls,hi,rfl,st⟩:=hrel
   have c1:=HC.out _ st.K
   have r0:wr.cell? ⟨B0+1+1,0,none⟩=some (.bool neg):=by rw [cell_of_row wr _ _ _ _ _ st.r];rfl
   have r1:wr.cell? ⟨B0+1+1,1,none⟩=some (.slice A2 n2 c2):=by rw [cell_of_row wr _ _ _ _ _ st.r];rfl
   have z0:wr.frozen? ⟨B0+1+1,0,none⟩=false:=by simp [World.frozen?,st.r]
   have z1:wr.frozen? ⟨B0+1+1,1,none⟩=false:=by simp [World.frozen?,st.r]
   by_cases hin:i<n
   ·have i0:(0:Int)<=(i:Int):=by omega
    have i1:(i:Int)<(n:Int):=by omega
    obtain ⟨b,off,rfl,_,_⟩:=HBB.out.row.2 i hin
    have hbB:b<w.heap.size:=HBL.out (by omega) b off rfl
    have HCB:=hid (fun (w':World) (K':ah (fun b=>b=B0+1+1) w1 w')=>(show w'.cell? ⟨b,off+i,none⟩=some (.int .u8 ((l.getD i 0:Nat):Int)) from by
     obtain ⟨b',off',e',_,hc'⟩:=(HBB.out.row.keep K' (fun _ b2 off2 e2=>by injection e2 with e2;injection e2 with e2;have:=HBX.out;omega)).2 i hin
     injection e' with e'
     injection e' with e1 e2
     rw [<- e1,<- e2] at hc'
     exact hc'))
    have HBN:=hid hbB
    clear hbB
    have HS:=hid st
    clear st
    by_cases h32:i % 32=0
    ·have t32:((i:Int) % 32 == 0)=true:=by rw [beq_iff_eq];omega
     obtain ⟨i63,h63,hz0,hz1,hz2⟩:=info_parts kh
     have KW:K0 wr (wr.alloc (.cells #[.int .u32 0] 126)):=kR.alloc _
     have HOWN:=hid (HS.out.own.keep0 KW)
     have HNEW:=hid (show ∀ j u,([Value.int .u32 0]:List Value)[j]? = some u->(wr.alloc (.cells #[.int .u32 0] 126)).cell? ((⟨wr.heap.size,0,none⟩:Addr).add j)=some u from by
      intro j u hu
      match j with
      | 0=>
       simp at hu
       subst hu
       rw [Addr.add_mid,cell_of_row _ _ _ _ _ _ (hN wr _)]
       rfl
      | j+1=>simp at hu)
     have HBS:=hid (Nat.le_trans HS.out.K.size KW.size)
     have HKW:=hid KW
     have hn2:=HS.out.n
     have HN2:=hid hn2
     clear KW hn2
     go_wp2_with (at_builtin;refine wpList_append_own _ rfl (.tmp 25) (.tmp 26) 22 rfl w1.heap.size 126 i63 (.int .u32 0) 1 4 Tryz.underlying22 h63 hz0 hz1 hz2 rfl (by decide) _ _ _ rfl HOWN.out ⟨wr.heap.size,0,none⟩ 1 1 [.int .u32 0] rfl rfl HNEW.out ?a1 ?a2 ?a3 HBS.out ?_)
     case a1=>intro u hu;simp at hu;subst hu;rfl
     case a2=>have:=HN2.out;unfold maxLen;omega
     case a3=>have:=HN2.out;omega
     intro v' w6 hown hgrow _
     obtain ⟨A3,c3,rfl,hr6,o3,low3,v3,n3,r3,k3,k6⟩:=HS.out.limb h32 HKW.out hown hgrow
     have p0:w6.cell? ⟨B0+1+1,0,none⟩=some (.bool neg):=by rw [cell_of_row w6 _ _ _ _ _ hr6];rfl
     have p1:w6.cell? ⟨B0+1+1,1,none⟩=some (.slice A2 n2 c2):=by rw [cell_of_row w6 _ _ _ _ _ hr6];rfl
     have p2:w6.frozen? ⟨B0+1+1,1,none⟩=false:=by simp [World.frozen?,hr6]
     have HM:=hid (show lI w1 (B0+1+1) neg l i A3 (n2+1) c3 (ls++[0]) (w6.setCell ⟨B0+1+1,1,none⟩ (.slice A3 (n2+1) c3)) from ⟨r3,o3,low3,v3,n3,k3,HS.out.lt⟩)
     clear hown hgrow hr6 o3 low3 v3 n3 c1 r0 r1 z0 z1 r3 k3
     have c1:=HC.out _ k6
     have hcb:=HCB.out _ k6
     have nB1:B0+1+1 ≠ B0:=by omega
     have nB2:B0+1+1 ≠ b:=by have:=HBN.out;have:=HBX.out;omega
     clear k6
     have hq0:0<n2+1:=by omega
     obtain ⟨g,cg,eg,hcg,_⟩:=World.ownsRow.form HM.out.own hq0
     injection eg with eg _ ec
     subst eg ec
     rcases ck HBB.out.low i with hbit | hbit
     ·rw [hbit] at hcb
      have HN:=hid (HM.out.zero hbit)
      clear hbit
      try dsimp only
      go_wp2_with fail
      go_roundw
      case rel=>exact ⟨i+1,_,_,_,_,by omega,by go_num,HN.out⟩
      case measure=>simp [intOf];omega
     ·rw [hbit] at hcb
      have HBIT:=hid hbit
      clear hbit
      try dsimp only
      go_wp2_with fail
      clear p0 p1 p2 hcb nB1 nB2 c1 h32 t32
      generalize w6.setCell ⟨B0+1+1,1,none⟩ (.slice (some ⟨g,0,none⟩) (n2+1) c3)=w8 at HM ⊢
      obtain ⟨hy,hset⟩:=HM.out.one HBB.out.low HBIT.out
      obtain ⟨y,hye⟩:∃ y,y=(ls++[0]).getD (i / 32) 0:=⟨_,rfl⟩
      rw [<- hye] at hy hset
      have hcl:=HM.out.own.row.2 (i / 32) (by have:=HM.out.n;omega)
      rw [<- hye] at hcl
      obtain ⟨b',off',e',_,hcl⟩:=hcl
      injection e' with e'
      injection e' with e1 e2 _
      subst e1 e2
      rw [Nat.zero_add] at hcl
      have hfz:=HM.out.own.frozen _ 0 rfl (i / 32)
      have HOR:=hid (pM hy (Nat.mod_lt i (by omega)))
      have hr1:(w8).cell? ⟨B0+1+1,1,none⟩=some (.slice (some ⟨g,0,none⟩) (n2+1) c3):=by rw [cell_of_row _ _ _ _ _ _ HM.out.r];rfl
      have j0:i / 32<n2+1:=by have:=HM.out.n;omega
      have hkm:(i:Int)<=300000:=by omega
      have HSET:=hid hset
      clear hset hye hy
      go_big_region
      rw [HOR.out]
      go_wp2_with fail
      go_roundw
      case rel=>exact ⟨i+1,_,_,_,_,by omega,by go_num,(HSET.out _ rfl).drew⟩
      case measure=>simp [intOf];omega
    ·have t32:((i:Int) % 32 == 0)=false:=by rw [bF];omega
     have HM:=hid (show lI w1 (B0+1+1) neg l i A2 n2 c2 ls wr from ⟨HS.out.r,HS.out.own,HS.out.low,HS.out.v,by have:=HS.out.n;omega,HS.out.K,HS.out.lt⟩)
     have hcb:=HCB.out _ HS.out.K
     have hq0:0<n2:=by have:=HM.out.n;omega
     obtain ⟨g,cg,eg,hcg,_⟩:=World.ownsRow.form HM.out.own hq0
     injection eg with eg _ ec
     subst eg ec
     rcases ck HBB.out.low i with hbit | hbit
     ·rw [hbit] at hcb
      have HN:=hid (HM.out.zero hbit)
      clear hbit
      try dsimp only
      go_wp2_with fail
      go_roundw
      case rel=>exact ⟨i+1,_,_,_,_,by omega,by go_num,HN.out⟩
      case measure=>simp [intOf];omega
     ·rw [hbit] at hcb
      have HBIT:=hid hbit
      clear hbit
      try dsimp only
      go_wp2_with fail
      obtain ⟨hy,hset⟩:=HM.out.one HBB.out.low HBIT.out
      obtain ⟨y,hye⟩:∃ y,y=(ls).getD (i / 32) 0:=⟨_,rfl⟩
      rw [<- hye] at hy hset
      have hcl:=HM.out.own.row.2 (i / 32) (by have:=HM.out.n;omega)
      rw [<- hye] at hcl
      obtain ⟨b',off',e',_,hcl⟩:=hcl
      injection e' with e'
      injection e' with e1 e2 _
      subst e1 e2
      rw [Nat.zero_add] at hcl
      have hfz:=HM.out.own.frozen _ 0 rfl (i / 32)
      have HOR:=hid (pM hy (Nat.mod_lt i (by omega)))
      have hr1:(wr).cell? ⟨B0+1+1,1,none⟩=some (.slice (some ⟨g,0,none⟩) (n2) c2):=by rw [cell_of_row _ _ _ _ _ _ HM.out.r];rfl
      have j0:i / 32<n2:=by have:=HM.out.n;omega
      have hkm:(i:Int)<=300000:=by omega
      have HSET:=hid hset
      clear hset hye hy
      go_big_region
      rw [HOR.out]
      go_wp2_with fail
      go_roundw
      case rel=>exact ⟨i+1,_,_,_,_,by omega,by go_num,(HSET.out _ rfl).drew⟩
      case measure=>simp [intOf];omega
   ·have hd:decide ((i:Int)<(n:Int))=false:=dF (by omega)
    obtain rfl:i=n:=by omega
    have hv:bA ls=x.natAbs:=by rw [st.v,List.take_of_length_le (by rw [HBB.out.len];omega),HLE.out];exact bc aT _
    have hL:ls=aA x.natAbs:=by
     rw [<- hv]
     exact (kq BB2 st.low (ri st (by rw [HBB.out.len]) (by rw [HLE.out];exact kt aT _))).symm
    have HS:=hid st
    have HRES:=hid (show ∀ w',ah (fun b=>b=B0+1) wr w'->dr x w (.returned (.tuple #[al neg A2 n2 c2,.int .i64 0])) w' from fun w' K'=>⟨((HK.out.into HS.out.K (by rintro b rfl;have:=HBX.out;omega)).into K' (by rintro b rfl;have:=HBX.out;omega)),.inr ⟨A2,n2,c2,HFIT.out.2 (by omega),by rw [HNEG.out],by
     rw [<- hL]
     exact (HS.out.own.keep K' (fun b off e=>by have:=(HS.out.own.fresh b off e).1;have:=HS.out.lt;omega)).mono HK.out.size⟩⟩)
    have hx2:wr.heap[B0+1]? = some (.cells #[.bool false,.slice none 0 0] 24 (0,0)):=st.K.heap HB2.out (by omega)
    have d0:wr.cell? ⟨B0+1,0,none⟩=some (.bool false):=by rw [cell_of_row wr _ _ _ _ _ hx2];rfl
    have d1:wr.cell? ⟨B0+1,1,none⟩=some (.slice none 0 0):=by rw [cell_of_row wr _ _ _ _ _ hx2];rfl
    have g0:wr.frozen? ⟨B0+1,0,none⟩=false:=by simp [World.frozen?,hx2]
    have g1:wr.frozen? ⟨B0+1,1,none⟩=false:=by simp [World.frozen?,hx2]
    have HE:=hid (bD hx2 (.bool neg) (.slice A2 n2 c2))
    have HKE:=hid (((ah.refl (fun b=>b=B0+1) wr).setCell (p:=⟨B0+1,0,none⟩) (.inl rfl) (.bool neg)).setCell (p:=⟨B0+1,1,none⟩) (.inl rfl) (.slice A2 n2 c2))
    clear hL hv hx2 st
    go_wp2_with fail
    obtain ⟨e0,e1⟩:=HE.out
    refine bodyPost_ret (v:=.tuple #[al neg A2 n2 c2,.int .i64 0]) ?_ rfl (HRES.out _ HKE.out)
    simp [results,Tryz.results68,go_sem,e0,e1]
theorem eX (w:World):aq w none 0 0 []:=⟨cT.nil _ _ _,(by intro x hx;simp at hx),Nat.le_refl _,by omega⟩
open Go.ChangeShapes Go.WideShapes Go.ChangeAt Go.RowKit Go.Joins
section
variable {H:Type} {enc:TypeId × Value->H} {w:World} {spare:Nat->Bool} {held:Bool}
end
def kK (w:World) (B:Nat) (u v:Value):Prop:=w.heap[B]? = some (.cells #[u,v] 24 (0,0))
theorem kK.keep {w w':World} {B:Nat} {u v:Value} (h:kK w B u v) (k:K0 w w'):kK w' B u v:=k.heap h (by simp)
structure Env (w:World) (bs:List (Nat × Value × Value)) (ms:List (Option Addr × Nat × Nat × List Nat)) (w':World):Prop where
 k:K0 w w'
 b:∀ x ∈ bs,kK w' x.1 x.2.1 x.2.2
 m:∀ x ∈ ms,aq w' x.1 x.2.1 x.2.2.1 x.2.2.2
namespace Env
variable {w w' w'':World} {bs:List (Nat × Value × Value)} {ms:List (Option Addr × Nat × Nat × List Nat)}
theorem start (w:World):Env w [] [] w:=⟨kR,(fun _ h=>by cases h),(fun _ h=>by cases h)⟩
theorem keep (h:Env w bs ms w') (k:K0 w' w''):Env w bs ms w'':=⟨h.k.trans k,fun x hx=>(h.b x hx).keep k,fun x hx=>(h.m x hx).keep0 k⟩
theorem num (h:Env w bs ms w') {A:Option Addr} {n c:Nat} {l:List Nat} (hl:aq w' A n c l):Env w bs ((A,n,c,l) :: ms) w':=
 ⟨h.k,h.b,fun x hx=>by
  rcases List.mem_cons.1 hx with rfl | hx
  ·exact hl
  ·exact h.m x hx⟩
theorem cells (h:Env w bs ms w') {B:Nat} {u v:Value} (hm:(B,u,v) ∈ bs):w'.cell? ⟨B,0,none⟩=some u/\w'.cell? ⟨B,1,none⟩=some v/\B<w'.heap.size:=by
 have g:=h.b _ hm
 exact ⟨by rw [cell_of_row w' _ _ _ _ _ g];rfl,by rw [cell_of_row w' _ _ _ _ _ g];rfl,az g⟩
end Env
def Out (x:Int) (q:Bool) (l:List Nat) (f:Int):Prop:=(dG x/\q=decide (x<0)/\l=aA x.natAbs/\f=0)\/(¬ dG x/\q=false/\l=[]/\f=6)
namespace Out
variable {x:Int} {q q':Bool} {l l':List Nat} {f f':Int}
theorem two (h:Out x q l f):f=0\/f=6:=by rcases h with ⟨_,_,_,h⟩ | ⟨_,_,_,h⟩<;>simp [h]
end Out
theorem fk (A:Option Addr) (n c:Nat) (l:List Nat) (i:Nat) (w:World) (h:bg w A n c l) :
 Calls Tryz.prog 83 #[.slice A n c,.int .i64 (i:Int)] w fun e w'=>e=.returned (.int .i64 ((l.getD i 0:Nat):Int))/\w=w':=by
 by_cases hlt:i<n
 ·obtain ⟨b,off,rfl,hb,hc⟩:=h.row.2 i hlt
  have hx:=ck h.low i
  have hm:=h.max
  obtain ⟨x,hxx⟩:∃ x,x=l.getD i 0:=⟨_,rfl⟩
  rw [<- hxx] at hc hx ⊢
  have hx0:(0:Int)<=(x:Int):=by omega
  have hx1:(x:Int)<=1:=by omega
  clear hxx h hx
  go_enter Tryz.func83,Tryz.ntmps83
  go_wp2
  go_ret
  exact ⟨rfl,rfl⟩
 ·have e:l.getD i 0=0:=by
   rw [gD,List.getElem?_eq_none (by rw [h.len];omega)];rfl
  have E:=hid e
  have hm:=h.max
  clear e h
  go_enter Tryz.func83,Tryz.ntmps83
  go_wp2
  go_ret
  exact ⟨by rw [E.out];rfl,rfl⟩
def mo (v:Nat) (w:World) (e:Ending) (w':World):Prop:=
 ∃ (A:Option Addr) (n c:Nat),e=.returned (.slice A n c)/\aP 5 .u8 w' w.heap.size A n c (ai v)/\K0 w w'
structure uV (w:World) (F:Nat->Nat->Nat) (i:Nat) (v:Value) (wr:World):Prop where
 o:wr.ownsRow w.heap.size 5 1 v i ((cB 2 F i).map fun x:Nat=>Value.int .u8 (x:Int))
 K:K0 w wr
theorem uV.more {w wr w5 w6:World} {F:Nat->Nat->Nat} {i:Nat} {v v':Value} (h:uV w F i v wr) {b:Nat} (hb:b=F i (bx 2 F i) % 2) (K5:K0 wr w5)
 (hown:w6.ownsRow w.heap.size 5 1 v' (i+1) (((cB 2 F i).map fun x:Nat=>Value.int .u8 (x:Int))++[.int .u8 (b:Int)])) (hgrow:w5.grownBy w6 v.ownBlock):uV w F (i+1) v' w6:=by
 refine ⟨?_,?_⟩
 ·rw [iS,List.map_append,<- hb];exact hown
 ·refine (h.K.trans K5).into (ah.of_grown hgrow) (fun i' hi=>?_)
  rcases h.o.2 with ⟨hn,_⟩ | ⟨g,cap,cur,hv,hg,_⟩
  ·rw [hn] at hi;cases hi
  ·rw [hv] at hi
   have:i'=g:=by simpa [Value.ownBlock] using hi
   omega
theorem cD (A:Option Addr) (n c:Nat) (l:List Nat) (A':Option Addr) (n' c':Nat) (l':List Nat) (w:World) (h:bg w A n c l) (h':bg w A' n' c' l') (hm:n<=1000000) (hm':n'<=1000000) :
 Calls Tryz.prog 96 #[.slice A n c,.slice A' n' c'] w (mo (bB l+bB l') w):=by
 have HL:=hid h
 have HL':=hid h'
 clear h h'
 obtain ⟨m,hmm⟩:∃ m,m=max n n'+1:=⟨_,rfl⟩
 have HM:=hid hmm
 have hmb:m<=1000001:=by omega
 clear hmm
 go_enter Tryz.func96,Tryz.ntmps96
 go_wp2_with fail
 go_loopw [5,6,7] (fun v cv iv wr=>∃ i:Nat,i<=m/\iv=.int .i64 (i:Int)/\cv=.int .i64 ((bx 2 (dE l l') i:Nat):Int)/\uV w (dE l l') i v wr) (fun _ _ iv _=>m - (intOf iv).toNat)
 case atStart=>exact ⟨0,Nat.zero_le _,rfl,rfl,World.ownsRow_nil _ _ _ _,kR⟩
 case round=>
  obtain ⟨i,hi,rfl,rfl,st⟩:=hrel
  obtain ⟨P,cP,rfl⟩:=cS st.o
  have HS:=hid st
  clear st
  have hcr:=(j6 aT HL.out.low HL'.out.low i).2
  obtain ⟨cr,hcr2⟩:∃ x,x=bx 2 (dE l l') i:=⟨_,rfl⟩
  rw [<- hcr2] at hcr ⊢
  have HCR:=hid hcr2
  clear hcr2
  by_cases him:i<m
  ·have hx:=ck HL.out.low i
   have hy:=ck HL'.out.low i
   have HB:=hid (fun (wi:World) (K':K0 w wi)=>fk A n c l i wi (HL.out.keep0 K'))
   have HB':=hid (fun (wi:World) (K':K0 w wi)=>fk A' n' c' l' i wi (HL'.out.keep0 K'))
   obtain ⟨x,hxx⟩:∃ x,x=l.getD i 0:=⟨_,rfl⟩
   obtain ⟨y,hyy⟩:∃ y,y=l'.getD i 0:=⟨_,rfl⟩
   rw [<- hxx] at hx HB
   rw [<- hyy] at hy HB'
   obtain ⟨b,hbb⟩:∃ b,b=(x+y+cr) % 2:=⟨_,rfl⟩
   have hF:dE l l' i cr=x+y+cr:=by unfold dE;rw [<- hxx,<- hyy]
   have HF:=hid (And.intro hF hbb)
   clear hxx hyy hF
   have hs:=HS.out.K
   have hval:((x:Int)+(y:Int)+(cr:Int)) % 2=(b:Int):=by rw [hbb];omega
   obtain ⟨i5,h5,hz0,hz1,hz2⟩:=info_parts d7
   have KW:K0 wr (wr.alloc (.cells #[.int .u8 (b:Int)] 5)):=kR.alloc _
   have HOWN:=hid (iy HS.out.o KW (fun _ _=>id))
   have HNEW:=hid (jC wr (b:Int))
   have HBS:=hid (Nat.le_trans HS.out.K.size KW.size)
   have HKW:=hid KW
   have hmx:=HM.out
   clear KW hbb
   rcases (by omega:i<=n\/(¬ i<=n/\i<=n')) with hin | ⟨hin,hin'⟩
   ·clear hmx
    have t1:(i:Int)<=(n:Int):=by omega
    go_wp2_with fail
    refine (HB.out _ hs).mono ?_
    rintro e w2 ⟨rfl,rfl⟩
    try dsimp only
    go_wp2_with fail
    refine (HB'.out _ hs).mono ?_
    rintro e w2 ⟨rfl,rfl⟩
    try dsimp only
    go_wp2_with (at_builtin;rw [hval];refine wpList_append_own _ rfl (.tmp 30) (.tmp 34) 70 rfl w.heap.size 5 i5 (.int .u8 0) 1 1 Tryz.underlying70 h5 hz0 hz1 hz2 rfl (by decide) _ _ _ rfl HOWN.out ⟨wr.heap.size,0,none⟩ 1 1 [.int .u8 (b:Int)] rfl rfl HNEW.out ?a1 ?a2 ?a3 HBS.out ?_)
    case a1=>intro u hu;simp at hu;subst hu;rfl
    case a2=>unfold maxLen;omega
    case a3=>omega
    intro v' w6 hown hgrow _
    have N:=HS.out.more (b:=b) (by rw [<- HCR.out,HF.out.1,HF.out.2]) HKW.out hown hgrow
    obtain ⟨P2,cP2,rfl⟩:=cS N.o
    have HN:=hid N
    clear N hown hgrow
    go_wp2_with fail
    go_roundw
    case rel=>exact ⟨i+1,by omega,by go_num,by
     show _=Value.int .i64 ((dE l l' i (bx 2 (dE l l') i) / 2:Nat):Int)
     rw [<- HCR.out,HF.out.1]
     congr 1
     try omega,HN.out⟩
    case measure=>simp [intOf];omega
   ·clear hmx
    have t1:decide ((i:Int)<=(n:Int))=false:=dF (by omega)
    have t2:(i:Int)<=(n':Int):=by omega
    go_wp2_with fail
    refine (HB.out _ hs).mono ?_
    rintro e w2 ⟨rfl,rfl⟩
    try dsimp only
    go_wp2_with fail
    refine (HB'.out _ hs).mono ?_
    rintro e w2 ⟨rfl,rfl⟩
    try dsimp only
    go_wp2_with (at_builtin;rw [hval];refine wpList_append_own _ rfl (.tmp 30) (.tmp 34) 70 rfl w.heap.size 5 i5 (.int .u8 0) 1 1 Tryz.underlying70 h5 hz0 hz1 hz2 rfl (by decide) _ _ _ rfl HOWN.out ⟨wr.heap.size,0,none⟩ 1 1 [.int .u8 (b:Int)] rfl rfl HNEW.out ?a1 ?a2 ?a3 HBS.out ?_)
    case a1=>intro u hu;simp at hu;subst hu;rfl
    case a2=>unfold maxLen;omega
    case a3=>omega
    intro v' w6 hown hgrow _
    have N:=HS.out.more (b:=b) (by rw [<- HCR.out,HF.out.1,HF.out.2]) HKW.out hown hgrow
    obtain ⟨P2,cP2,rfl⟩:=cS N.o
    have HN:=hid N
    clear N hown hgrow
    go_wp2_with fail
    go_roundw
    case rel=>exact ⟨i+1,by omega,by go_num,by
     show _=Value.int .i64 ((dE l l' i (bx 2 (dE l l') i) / 2:Nat):Int)
     rw [<- HCR.out,HF.out.1]
     congr 1
     try omega,HN.out⟩
    case measure=>simp [intOf];omega
  ·have hmx:=HM.out
   have t1:decide ((i:Int)<=(n:Int))=false:=dF (by omega)
   have t2:decide ((i:Int)<=(n':Int))=false:=dF (by omega)
   have hni:¬ i<=n:=by omega
   have hni':¬ i<=n':=by omega
   have low:Low 2 (cB 2 (dE l l') i):=eV (by omega) _ _
   have hv:bB (cB 2 (dE l l') i)=bB l+bB l':=tG aT HL.out.low HL'.out.low (by rw [HL.out.len];omega) (by rw [HL'.out.len];omega)
   have hO:aP 5 .u8 wr w.heap.size P i cP (cB 2 (dE l l') i):=HS.out.o
   have HCUT:=hid (dW P i cP _ wr (hO.toBits low (by omega)))
   have hle:=fU low
   rw [eW] at hle
   have hT:=hO.take hle
   rw [nO low,hv] at hT
   have HT:=hid hT
   clear hT hO hle low hv hmx
   go_wp2_with fail
   refine HCUT.out.mono ?_
   rintro e w9 ⟨rfl,rfl⟩
   try dsimp only
   go_wp2_with fail
   go_ret
   exact ⟨_,_,_,rfl,HT.out,HS.out.K⟩
theorem bg.nil_of {w:World} {n c:Nat} {l:List Nat} (h:bg w none n c l):n=0/\l=[]:=by
 have hn:n=0:=by
  rcases Nat.eq_zero_or_pos n with e | e
  ·exact e
  ·obtain ⟨b,off,e,_⟩:=h.row.2 0 e
   cases e
 exact ⟨hn,List.eq_nil_of_length_eq_zero (by rw [h.len,hn])⟩
theorem gK (w:World) (x:Int):(w.alloc (.cells #[.int .u8 x] 5)).ownsRow w.heap.size 5 1 (.slice (some ⟨w.heap.size,0,none⟩) 1 1) 1 [.int .u8 x]:=
 ⟨rfl,.inr ⟨w.heap.size,1,#[.int .u8 x],rfl,Nat.le_refl _,hN _ _,Nat.le_refl _,by unfold maxLen;omega,rfl,rfl⟩⟩
theorem kM (i:Nat) (l:List Nat):val 2 (List.replicate i 0++l)=2 ^ i * val 2 l:=by
 rw [cK,List.length_replicate,gx 2 (by intro x hx;exact (List.mem_replicate.1 hx).2),Nat.zero_add]
theorem rh (w:World):aP 5 .u8 (w.alloc (.cells #[.int .u8 0] 5)) w.heap.size (some ⟨w.heap.size,0,none⟩) 1 1 [0]:=gK w 0
structure wv (w:World) (m k:Nat) (bs:List Nat) (v:Value) (wr:World):Prop where
 o:wr.ownsRow w.heap.size 5 1 v bs.length (bs.map fun x:Nat=>Value.int .u8 (x:Int))
 e:bs++ai k=ai m
 K:K0 w wr
theorem wv.more {w wr w5 w6:World} {m k:Nat} {bs:List Nat} {v v':Value} (h:wv w m k bs v wr) (hk:0<k) (K5:K0 wr w5)
 (hown:w6.ownsRow w.heap.size 5 1 v' (bs.length+1) ((bs.map fun x:Nat=>Value.int .u8 (x:Int))++[.int .u8 ((k % 2:Nat):Int)])) (hgrow:w5.grownBy w6 v.ownBlock):wv w m (k / 2) (bs++[k % 2]) v' w6:=by
 refine ⟨?_,?_,?_⟩
 ·rw [List.map_append,List.length_append];exact hown
 ·rw [List.append_assoc,<- h.e]
  congr 1
  exact (ey aT hk).symm
 ·refine (h.K.trans K5).into (ah.of_grown hgrow) (fun i' hi=>?_)
  rcases h.o.2 with ⟨hn,_⟩ | ⟨g,cap,cur,hv,hg,_⟩
  ·rw [hn] at hi;cases hi
  ·rw [hv] at hi
   have:i'=g:=by simpa [Value.ownBlock] using hi
   omega
theorem d8 (m:Nat) (w:World) (hm:m<=1000000):Calls Tryz.prog 82 #[.int .i64 (m:Int)] w (mo m w):=by
 go_enter Tryz.func82,Tryz.ntmps82
 go_wp2_with fail
 go_loopw [0,3] (fun kv v wr=>∃ (k:Nat) (bs:List Nat),k<=m/\kv=.int .i64 (k:Int)/\bs.length+k<=m+0/\wv w m k bs v wr) (fun kv _ _=>(intOf kv).toNat)
 case atStart=>exact ⟨m,[],Nat.le_refl _,rfl,by simp,World.ownsRow_nil _ _ _ _,by simp,kR⟩
 case round=>
  obtain ⟨k,bs,hk,rfl,hbk,st⟩:=hrel
  obtain ⟨P,cP,rfl⟩:=cS st.o
  have HS:=hid st
  clear st
  by_cases h0:0<k
  ·have h0i:(0:Int)<(k:Int):=by omega
   obtain ⟨b,hbb⟩:∃ b,b=k % 2:=⟨_,rfl⟩
   have hval:((k:Int) % 2)=(b:Int):=by omega
   have HBB:=hid hbb
   obtain ⟨i5,h5,hz0,hz1,hz2⟩:=info_parts d7
   have KW:K0 wr (wr.alloc (.cells #[.int .u8 (b:Int)] 5)):=kR.alloc _
   have HOWN:=hid (iy HS.out.o KW (fun _ _=>id))
   have HNEW:=hid (jC wr (b:Int))
   have HBS:=hid (Nat.le_trans HS.out.K.size KW.size)
   have HKW:=hid KW
   clear KW hbb
   go_wp2_with (at_builtin;rw [hval];refine wpList_append_own _ rfl (.tmp 6) (.tmp 10) 70 rfl w.heap.size 5 i5 (.int .u8 0) 1 1 Tryz.underlying70 h5 hz0 hz1 hz2 rfl (by decide) _ _ _ rfl HOWN.out ⟨wr.heap.size,0,none⟩ 1 1 [.int .u8 (b:Int)] rfl rfl HNEW.out ?a1 ?a2 ?a3 HBS.out ?_)
   case a1=>intro u hu;simp at hu;subst hu;rfl
   case a2=>unfold maxLen;omega
   case a3=>omega
   intro v' w6 hown hgrow _
   have N:=HS.out.more h0 HKW.out (by rw [<- HBB.out];exact hown) hgrow
   obtain ⟨P2,cP2,rfl⟩:=cS N.o
   have HN:=hid N
   clear N hown hgrow
   go_wp2_with fail
   go_roundw
   case rel=>exact ⟨k / 2,bs++[k % 2],by omega,by go_num,by rw [List.length_append];simp;omega,by
    have:=HN.out
    rw [List.length_append] at *
    exact this⟩
   case measure=>simp [intOf];omega
  ·have hd:decide ((0:Int)<(k:Int))=false:=dF (by omega)
   obtain rfl:k=0:=by omega
   have e:=HS.out.e
   rw [show ai 0=[] from bi 2,List.append_nil] at e
   have HE:=hid (show aP 5 .u8 wr w.heap.size P bs.length cP (ai m) from by rw [<- e];exact HS.out.o)
   clear e
   go_wp2_with fail
   go_ret
   exact ⟨_,_,_,rfl,HE.out,HS.out.K⟩
theorem mi {a b:Nat} (h:(ai a).length<(ai b).length):a<b:=by
 have h1:=(aM aT a (ai a).length).1 (Nat.le_refl _)
 have h2:=(not_congr (aM aT b (ai a).length)).1 (by unfold ai at *;omega)
 omega
theorem gS {a b:Nat} (h:a<=b):(ai a).length<=(ai b).length:=by
 rcases Nat.lt_or_ge (ai b).length (ai a).length with h1 | h1
 ·have:=mi h1
  omega
 ·exact h1
structure fL (x y i:Nat) (qs:List Nat):Prop where
 low:Low 2 qs
 z:∀ j,j<i->qs.getD j 0=0
 v:bB qs=2 ^ i * (x / 2 ^ i / y)
theorem fL.zero {x y i:Nat} {qs:List Nat} (h:fL x y (i+1) qs) (e:x / 2 ^ i / y=2 * (x / 2 ^ (i+1) / y)):fL x y i qs:=
 ⟨h.low,fun j hj=>h.z j (by omega),by rw [h.v,e,Nat.pow_succ,Nat.mul_assoc]⟩
theorem fL.one {x y i:Nat} {qs:List Nat} (h:fL x y (i+1) qs) (hi:i<qs.length) (e:x / 2 ^ i / y=2 * (x / 2 ^ (i+1) / y)+1):fL x y i (qs.set i 1):=by
 refine ⟨fun a ha=>?_,fun j hj=>?_,?_⟩
 ·rcases List.mem_or_eq_of_mem_set ha with h1 | h1
  ·exact h.low a h1
  ·omega
 ·rw [gD,List.getElem?_set_ne (by omega),<- gD]
  exact h.z j (by omega)
 ·have h1:=lK 2 qs i 1 hi
  rw [h.z i (by omega),Nat.mul_zero,Nat.add_zero,Nat.mul_one] at h1
  show val 2 _=_
  have hv:val 2 qs=2 ^ (i+1) * (x / 2 ^ (i+1) / y):=h.v
  rw [h1,hv,e,Nat.mul_add,Nat.mul_one,<- Nat.mul_assoc,<- Nat.pow_succ]
theorem fL.start (x y n:Nat) (hn:x<2 ^ n):fL x y n (List.replicate n 0):=
 ⟨fun a ha=>by rw [(List.mem_replicate.1 ha).2];omega,fun j hj=>by simp [gD,hj],by
  rw [Nat.div_eq_of_lt hn,Nat.zero_div,Nat.mul_zero]
  exact gx 2 (fun a ha=>(List.mem_replicate.1 ha).2)⟩
theorem fL.done {x y:Nat} {qs:List Nat} (h:fL x y 0 qs):bB qs=x / y:=by
 rw [h.v,Nat.pow_zero,Nat.div_one,Nat.one_mul]
def wF (z:Bool) (x:Int) (m:Nat) (w:World) (e:Ending) (w':World):Prop:=
 ∃ (A:Option Addr) (n c:Nat),e=.returned (al z A n c)/\bg w' A n c (ai x.natAbs)/\n<=m/\K0 w w'
theorem aP.bits {w:World} {base n c:Nat} {A:Option Addr} {m:Nat} (h:aP 5 .u8 w base A n c (ai m)) (hm:n<=10000000):bg w A n c (ai m):=h.toBits (aw aT _) hm
theorem jD.z {z:Bool} {x:Int} {m:Nat} {w w':World} {e:Ending} (h:jD x w e w') (hz:z=decide (x<0)) (hm:(ai x.natAbs).length<=m) (hm2:m<=10000000):wF z x m w e w':=by
 obtain ⟨k,A,n,c,he,o⟩:=h
 have hl:=o.len
 have hn:n<=m:=by omega
 exact ⟨A,n,c,by rw [hz];exact he,o.bits (by omega),hn,k⟩
theorem lS {q:IntKind} {w:World} {A:Option Addr} {n B:Nat} {l:List Nat} {t:TypeId} {p:Bool} {v:Value} (h:cT q w A n l) (hb:w.heap[B]? = some (.cells #[.bool p,v] t (0,0))) (hv:∀ q x,v ≠ .int q x):0<n->∀ b off,A=some ⟨b,off,none⟩->¬ b=B:=by
 intro hn b off e hB
 subst hB
 obtain ⟨b',off',e',_,hc⟩:=h.2 0 hn
 rw [e] at e'
 injection e' with e'
 injection e' with e1 e2 _
 subst e1 e2
 rw [cell_of_row w _ _ _ _ _ hb] at hc
 match hoff:off+0 with
 | 0=>rw [hoff] at hc;simp at hc
 | 1=>rw [hoff] at hc;simp at hc;exact hv _ _ hc
 | k+2=>rw [hoff] at hc;simp at hc
theorem bg.cutB {w:World} {A:Option Addr} {n c m:Nat} (h:bg w A n c (ai m)):bg w A (dy (ai m)) c (ai m):=by
 have e:dy (ai m)=n:=by
  unfold dy
  rw [show bB (ai m)=m from bc aT m]
  exact h.len
 rw [e]
 exact h
theorem lJ {z:Bool} {neg:Bool} {A:Option Addr} {n c M:Nat} {w:World} (h:bg w A n c (ai M)) (hz:z=decide (sgn neg M<0)) :
 Calls Tryz.prog 84 #[.bool neg,.slice A n c] w fun e w'=>∃ n',e=.returned (al z A n' c)/\bg w' A n' c (ai M)/\K0 w w':=by
 have K:K0 w (w.alloc (.cells #[.bool false,.slice none 0 0] 90)):=kR.alloc _
 have HB:=hid (h.keep0 K)
 have HO:=hid h.cutB
 have hpos:=nQ (ai M)
 rw [show bB (ai M)=M from bc aT M] at hpos
 have hle:=fU (aw aT M)
 have hln:=h.len
 have hcap:=h.cap
 have HSG:=hid (pK neg M)
 have hc2:(dy (ai M):Int)<=(c:Int):=by unfold ai at hln ⊢;omega
 have HPOS:=hid hpos
 have HZ:=hid hz
 clear hpos h hz hle hln hcap
 obtain ⟨L,hL⟩:∃ L,L=ai M:=⟨_,rfl⟩
 rw [<- hL] at HB HO hc2 HPOS
 have HLE:=hid hL
 clear hL
 cases neg with
 | false=>
  have hd:=hid (show z=false from by rw [HZ.out,<- HSG.out];rfl)
  go_enter Tryz.func84,Tryz.ntmps84
  go_wp2_with fail
  refine (dW A n c L _ HB.out).mono ?_
  rintro e w1 ⟨rfl,rfl⟩
  go_wp2_with fail
  refine bodyPost_ret (v:=al false A (dy L) c) (by simp [results,Tryz.results84,go_sem]) rfl ⟨_,by rw [hd.out],by rw [<- HLE.out];exact HO.out.keep0 (kR.alloc _),kR.alloc _⟩
 | true=>
  by_cases h0:0<dy L
  ·have h0i:(0:Int)<(dy L:Int):=by omega
   have hd:=hid (show z=true from by rw [HZ.out,<- HSG.out,Bool.true_and];exact dT (HPOS.out.1 h0))
   go_enter Tryz.func84,Tryz.ntmps84
   go_wp2_with fail
   refine (dW A n c L _ HB.out).mono ?_
   rintro e w1 ⟨rfl,rfl⟩
   go_wp2_with fail
   refine bodyPost_ret (v:=al true A (dy L) c) (by simp [results,Tryz.results84,go_sem]) rfl ⟨_,by rw [hd.out],by rw [<- HLE.out];exact HO.out.keep0 (kR.alloc _),kR.alloc _⟩
  ·have h0i:decide ((0:Int)<(dy L:Int))=false:=dF (by omega)
   have hd:=hid (show z=false from by rw [HZ.out,<- HSG.out,Bool.true_and];exact dF (fun h=>h0 (HPOS.out.2 h)))
   go_enter Tryz.func84,Tryz.ntmps84
   go_wp2_with fail
   refine (dW A n c L _ HB.out).mono ?_
   rintro e w1 ⟨rfl,rfl⟩
   go_wp2_with fail
   refine bodyPost_ret (v:=al false A (dy L) c) (by simp [results,Tryz.results84,go_sem]) rfl ⟨_,by rw [hd.out],by rw [<- HLE.out];exact HO.out.keep0 (kR.alloc _),kR.alloc _⟩
theorem ei (s:ByteArray) (i:Nat) (hi:i<s.size) (d:Nat) (hd:d=(s.data.toList.getD i 0).toNat) (W:World):(Instr.index 9 (.string s) (.int .i64 (i:Int))).run Tryz.prog W=.ok (.int .u8 (d:Int)) W:=by
 have e:=run_index_string (P:=Tryz.prog) W 9 s .i64 (i:Int) Tryz.underlying9
 rw [dif_pos ⟨by omega,by omega⟩] at e
 rw [e]
 have h2:s.data.toList.length=s.size:=(Lib.size_eq s).symm
 have h3:s.data.toList.getD i 0=s[i]'hi:=by
  rw [gD,gE (by omega)]
  rfl
 rw [hd,h3]
 rfl
theorem eL (w:World):aP 5 .u8 (w.alloc (.cells #[.int .u8 0,.int .u8 0,.int .u8 0] 5)) w.heap.size (some ⟨w.heap.size,0,none⟩) 3 3 [0,0,0]:=
 ⟨rfl,.inr ⟨w.heap.size,3,#[.int .u8 0,.int .u8 0,.int .u8 0],rfl,Nat.le_refl _,hN _ _,Nat.le_refl _,by unfold maxLen;omega,rfl,rfl⟩⟩
theorem gH (l:List UInt8) (b:UInt8):Lib.hasPrefix l [b]=decide (0<l.length/\(l.getD 0 0).toNat=b.toNat):=by
 cases l with
 | nil=>rfl
 | cons x t=>
  have:Lib.hasPrefix (x :: t) [b]=(x == b):=by simp [Lib.hasPrefix,List.isPrefixOf,Bool.beq_comm]
  rw [this]
  by_cases h:x=b
  ·subst h;simp
  ·have h2:¬ x.toNat=b.toNat:=fun e=>h (UInt8.toNat_inj.1 e)
   simp [h,h2]
def cx (l:List UInt8) (w:World) (e:Ending) (w':World):Prop:=
 match aJ l with
 | none=>e=.returned (.tuple #[al false none 0 0,.int .i64 9])/\K0 w w'
 | some x=>(dG x/\∃ (A:Option Addr) (n c:Nat),e=.returned (.tuple #[al (decide (x<0)) A n c,.int .i64 0])/\bg w' A n c (ai x.natAbs)/\K0 w w')\/(¬ dG x/\e=.returned (.tuple #[al false none 0 0,.int .i64 6])/\K0 w w')
structure mn (w1:World) (B0 V:Nat) (P:Option Addr) (nb cb:Nat) (wr:World):Prop where
 r:wr.heap[B0]? = some (.cells #[.bool false,.slice none 0 0] 90 (0,0))
 o:bg wr P nb cb (ai V)
 n:nb<=1536
 K:K0 w1 wr
theorem gz {V d:Nat} {l8 l2:List Nat} (h8:bB l8=8 * V) (h2:bB l2=2 * V):bB (ai (bB l8+bB l2))+bB (ai d)=10 * V+d:=by
 rw [show bB (ai (bB l8+bB l2))=_ from bc aT _,show bB (ai d)=d from bc aT _,h8,h2]
 omega
theorem gG (k V:Nat):bB (List.replicate k 0++ai V)=2 ^ k * V:=by
 show val 2 (List.replicate k 0++ai V)=_
 rw [kM,show val 2 (ai V)=V from bc aT V]
theorem gI (k V:Nat):Low 2 (List.replicate k 0++ai V):=Low.append (by intro x hx;rw [(List.mem_replicate.1 hx).2];omega) (aw aT V)
theorem fu {l:List UInt8} {k:Nat} {x:Int} (hx:x.natAbs=ak l) (h:1536<(ai (ak (l.take k))).length):¬ dG x:=by
 rw [fG,hx]
 have:=gS (kB l k)
 omega
theorem fY {m M n c:Nat} {w:World} {base:Nat} {A:Option Addr} (o:aP 5 .u8 w base A n c (ai M)) (h:M<2 ^ m):n<=m:=by
 rw [<- o.len];exact (aM aT _ _).2 h
theorem pz {V E:Nat} (_hE:E=1536) (h:(ai V).length<=E):8 * V+2 * V<2 ^ (E+9):=by
 have h1:=(aM aT V E).1 h
 rw [Nat.pow_add]
 generalize (2:Nat) ^ E=F at *
 omega
theorem mg {V dg E:Nat} (_hE:E=1536) (h:(ai V).length<=E) (hd:dg<=9):10 * V+dg<2 ^ (E+64):=by
 have h1:=(aM aT V E).1 h
 rw [Nat.pow_add]
 generalize (2:Nat) ^ E=F at *
 omega
theorem oz (s:ByteArray) (w:World) (hs:s.size<=1000000) (h0:0<s.size) (hd0:(s.data.toList.getD 0 0).toNat=45):Calls Tryz.prog 67 #[.string s] w (cx s.data.toList w):=by
 have hlen:s.data.toList.length=s.size:=(Lib.size_eq s).symm
 have p45:=gH s.data.toList 45
 have p43:=gH s.data.toList 43
 rw [hlen] at p45 p43
 have q45:Lib.hasPrefix s.data.toList [45]=true:=by rw [p45];exact dT (by exact ⟨h0,hd0⟩)
 have q43:Lib.hasPrefix s.data.toList [43]=false:=by rw [p43];exact dF (by rintro ⟨_,h⟩;rw [show (43:UInt8).toNat=43 from rfl] at h;omega)
 obtain ⟨bl,hbl⟩:∃ l,l=aZ s.data.toList:=⟨_,rfl⟩
 have hbl2:bl=s.data.toList.drop 1:=by rw [hbl];unfold aZ ip;rw [q45,q43];rfl
 have hbn:bl.length=s.size - 1:=by rw [hbl2,List.length_drop,hlen]
 have hbd:∀ j,j<bl.length->(s.data.toList.getD (1+j) 0).toNat=(bl.getD j 0).toNat:=by
  intro j hj
  rw [hbl2,gD,gD,List.getElem?_drop]
 have hpv:aJ s.data.toList=if bl=[]\/bl.all eC=false then none else some (if true=true then -(ak bl:Int) else (ak bl:Int)):=by unfold aJ;rw [<- hbl,q45]
 have HPV:=hid hpv
 have HBD:=hid hbd
 have HBN:=hid hbn
 obtain ⟨d0,hdd⟩:∃ d,d=(s.data.toList.getD 0 0).toNat:=⟨_,rfl⟩
 have hix0:∀ W:World,(Instr.index 9 (.string s) (.int .i64 0)).run Tryz.prog W=.ok (.int .u8 (d0:Int)) W:=fun W=>ei s 0 h0 d0 hdd W
 have b45:((d0:Int) == 45)=true:=by rw [hdd];rw [hd0];rfl
 have hpos:(0:Int)<(s.size:Int):=by omega
 have HB45:=hid b45
 clear p45 p43 q45 q43 hbl hbl2 hbn hbd hpv hd0 hlen
 have K:K0 w (w.alloc (.cells #[.bool false,.slice none 0 0] 90)):=kR.alloc _
 have hb:(w.alloc (.cells #[.bool false,.slice none 0 0] 90)).heap[w.heap.size]? = some (.cells #[.bool false,.slice none 0 0] 90 (0,0)):=hN w _
 have HK:=hid K
 have HB:=hid hb
 have HDD:=hid hdd
 clear K hb hdd
 go_enter Tryz.func67,Tryz.ntmps67
 go_wp2_with fail
 clear hpos b45
 generalize hB0:w.heap.size=B0 at HB ⊢
 have HSZ:=hid (Nat.le_of_eq hB0)
 clear hB0
 generalize w.alloc (.cells #[.bool false,.slice none 0 0] 90)=w1 at HB HK ⊢
 have HRET:=hid (fun (w9:World) (K9:K0 w1 w9)=>(show w9.cell? ⟨B0,0,none⟩=some (.bool false)/\w9.cell? ⟨B0,1,none⟩=some (.slice none 0 0)/\w9.frozen? ⟨B0,0,none⟩=false/\w9.frozen? ⟨B0,1,none⟩=false from by
  have hb9:=K9.heap HB.out (by simp)
  exact ⟨by rw [cell_of_row w9 _ _ _ _ _ hb9];rfl,by rw [cell_of_row w9 _ _ _ _ _ hb9];rfl,by simp [World.frozen?,hb9],by simp [World.frozen?,hb9]⟩))
 have HSET:=hid (fun (w9:World) (K9:K0 w1 w9) (a b:Value)=>And.intro (bD (K9.heap HB.out (by simp)) a b) (cu (HK.out.trans K9) (show w.heap.size<=B0 from HSZ.out) a b))
 go_loop [5] (fun iv=>∃ i:Nat,1<=i/\i<=s.size/\iv=.int .i64 (i:Int) /\ ∀ j,1<=j->j<i->48<=(s.data.toList.getD j 0).toNat/\(s.data.toList.getD j 0).toNat<=57) (fun iv=>s.size - (intOf iv).toNat)
 case atStart=>exact ⟨1,Nat.le_refl _,by omega,rfl,fun j h1 h2=>by omega⟩
 case round=>
  obtain ⟨i,hk,hi,rfl,hj⟩:=hrel
  have HJ:=hid hj
  clear hj
  by_cases hin:i<s.size
  ·have i1:(i:Int)<(s.size:Int):=by omega
   obtain ⟨d,hd⟩:∃ d,d=(s.data.toList.getD i 0).toNat:=⟨_,rfl⟩
   have hix:∀ W:World,(Instr.index 9 (.string s) (.int .i64 (i:Int))).run Tryz.prog W=.ok (.int .u8 (d:Int)) W:=fun W=>ei s i hin d hd W
   have HD:=hid hd
   obtain ⟨r0,r1,f0,f1⟩:=HRET.out _ kR
   have HE:=hid (HSET.out _ kR (.bool false) (.slice none 0 0))
   have HNOX:=hid (fun (h:d<48\/57<d)=>(show aJ s.data.toList=none from by
    rw [HPV.out]
    refine if_pos (.inr ?_)
    rw [List.all_eq_false]
    have hb1:=HBD.out (i - 1) (by rw [HBN.out];omega)
    rw [show 1+(i - 1)=i from by omega,<- HD.out] at hb1
    have hlt:i - 1<bl.length:=by rw [HBN.out];omega
    rw [gD,gE hlt] at hb1
    refine ⟨bl[i - 1],List.getElem_mem _,?_⟩
    intro hdig
    have:=(cI _).1 hdig
    simp only [Option.getD_some] at hb1
    omega))
   clear hd
   rcases (by omega:d<48\/(57<d/\¬ d<48)\/(¬ d<48/\¬ 57<d)) with hc | ⟨hc,hc2⟩ | ⟨hc,hc2⟩
   ·have t1:(d:Int)<48:=by omega
    have HNO:=hid (HNOX.out (.inl hc))
    clear hc HNOX
    go_wp2_with fail
    obtain ⟨⟨e0,e1⟩,kx⟩:=HE.out
    refine bodyPost_ret (v:=.tuple #[al false none 0 0,.int .i64 9]) (by simp [results,Tryz.results67,go_sem,e0,e1]) rfl ?_
    unfold cx
    rw [HNO.out]
    exact ⟨rfl,kx⟩
   ·have t1:decide ((d:Int)<48)=false:=dF (by omega)
    have t3:(57:Int)<(d:Int):=by omega
    have HNO:=hid (HNOX.out (.inr hc))
    clear hc hc2 HNOX
    go_wp2_with fail
    obtain ⟨⟨e0,e1⟩,kx⟩:=HE.out
    refine bodyPost_ret (v:=.tuple #[al false none 0 0,.int .i64 9]) (by simp [results,Tryz.results67,go_sem,e0,e1]) rfl ?_
    unfold cx
    rw [HNO.out]
    exact ⟨rfl,kx⟩
   ·have t1:decide ((d:Int)<48)=false:=dF (by omega)
    have t3:decide ((57:Int)<(d:Int))=false:=dF (by omega)
    have HC:=hid (And.intro hc hc2)
    clear hc hc2 HNOX
    go_wp2_with fail
    go_round
    case rel=>exact ⟨i+1,by omega,by omega,by go_num,fun j h1 h2=>by
     by_cases e:j=i
     ·rw [e,<- HD.out];have:=HC.out;omega
     ·exact HJ.out j h1 (by omega)⟩
    case measure=>simp [intOf];omega
  ·have i1:decide ((i:Int)<(s.size:Int))=false:=dF (by omega)
   obtain rfl:i=s.size:=by omega
   obtain ⟨r0,r1,f0,f1⟩:=HRET.out _ kR
   by_cases hone:s.size=1
   ·have t2:((1:Int) == (s.size:Int))=true:=by rw [hone];rfl
    have HNO:=hid (show aJ s.data.toList=none from by rw [HPV.out];exact if_pos (.inl (List.eq_nil_of_length_eq_zero (by rw [HBN.out,hone]))))
    have HE:=hid (HSET.out _ kR (.bool false) (.slice none 0 0))
    clear hone
    go_wp2_with fail
    obtain ⟨⟨e0,e1⟩,kx⟩:=HE.out
    refine bodyPost_ret (v:=.tuple #[al false none 0 0,.int .i64 9]) (by simp [results,Tryz.results67,go_sem,e0,e1]) rfl ?_
    unfold cx
    rw [HNO.out]
    exact ⟨rfl,kx⟩
   have t2:((1:Int) == (s.size:Int))=false:=by rw [bF];omega
   have HALL:=hid (show aJ s.data.toList=some (if true=true then -(ak bl:Int) else (ak bl:Int)) from by
    rw [HPV.out]
    refine if_neg ?_
    rintro (h | h)
    ·have:=HBN.out;rw [h] at this;simp at this;omega
    ·rw [List.all_eq_false] at h
     obtain ⟨b,hb,hd⟩:=h
     obtain ⟨j,hj,rfl⟩:=List.getElem_of_mem hb
     apply hd
     have hb1:=HBD.out j hj
     rw [gD (l:=bl),gE hj] at hb1
     have:=HJ.out (1+j) (by omega) (by rw [HBN.out] at hj;omega)
     simp only [Option.getD_some] at hb1
     rw [hb1] at this
     exact (cI _).2 this)
   obtain ⟨x,hx⟩:∃ x:Int,x=(if true=true then -(ak bl:Int) else (ak bl:Int)):=⟨_,rfl⟩
   rw [<- hx] at HALL
   have HXA:=hid (show x.natAbs=ak bl from by rw [hx];simp)
   have HXS:=hid (show sgn true (ak bl)=x from by rw [hx];rfl)
   clear hx hone
   go_wp2_with fail
   clear t2 i1 r0 r1 f0 f1
   go_loopw [6,7,8,9] (fun bv iv _ _ wr=>∃ (q j:Nat) (P:Option Addr) (nb cb:Nat),q=1+j/\q<=s.size/\iv=.int .i64 (q:Int)/\bv=.slice P nb cb/\mn w1 B0 (ak (bl.take j)) P nb cb wr) (fun _ iv _ _ _=>s.size - (intOf iv).toNat)
   case atStart=>exact ⟨1,0,none,0,0,rfl,by omega,rfl,rfl,HB.out,by rw [List.take_zero,show ak []=0 from rfl];unfold ai;rw [bi];exact ⟨cT.nil _ _ _,Low.nil 2,Nat.le_refl _,by omega⟩,by omega,kR⟩
   case round=>
    obtain ⟨q,j,P,nb,cb,hq,hjl,rfl,rfl,st⟩:=hrel
    have HS:=hid st
    have hnb:=st.n
    clear st
    obtain ⟨V,hV⟩:∃ V,V=ak (bl.take j):=⟨_,rfl⟩
    rw [<- hV] at HS
    have HVV:=hid hV
    clear hV
    by_cases hin:q<s.size
    ·have j1:(q:Int)<(s.size:Int):=by omega
     obtain ⟨d,hd⟩:∃ d,d=(s.data.toList.getD q 0).toNat:=⟨_,rfl⟩
     have hix:∀ W:World,(Instr.index 9 (.string s) (.int .i64 (q:Int))).run Tryz.prog W=.ok (.int .u8 (d:Int)) W:=fun W=>ei s q hin d hd W
     have hdd:=HJ.out q (by omega) hin
     rw [<- hd] at hdd
     obtain ⟨dg,hdg⟩:∃ g,g=d - 48:=⟨_,rfl⟩
     have hw1:IntKind.u8.wrap (dg:Int)=(dg:Int):=by rw [IntKind.wrap_u8];omega
     have hw2:IntKind.i64.wrap (dg:Int)=(dg:Int):=by rw [IntKind.wrap_i64];omega
     have hw3:(d:Int) - 48=(dg:Int):=by omega
     have hdg9:dg<=9:=by omega
     have HNXT:=hid (show ak (bl.take (j+1))=10 * V+dg from by
      have hjb:j<bl.length:=by rw [HBN.out];omega
      rw [cR bl j hjb,<- HVV.out,hdg,hd,hq,HBD.out j hjb,gD,gE hjb]
      rfl)
     have HQ:=hid hq
     clear hd hdg hq
     have HB9:=hid (pz (V:=V) rfl (by rw [HS.out.o.len];exact hnb))
     have HB11:=hid (mg (V:=V) (dg:=dg) rfl (by rw [HS.out.o.len];exact hnb) hdg9)
     rcases P with _ | ad
     ·obtain ⟨hn0,hl0⟩:=HS.out.o.nil_of
      subst hn0
      have hv0:V=0:=ez aT hl0
      have HE8:=hid ((eL wr).toBits (by intro x hx;simp at hx;omega) (by omega))
      have K3:K0 wr (wr.alloc (.cells #[.int .u8 0,.int .u8 0,.int .u8 0] 5)):=kR.alloc _
      have K4:K0 (wr.alloc (.cells #[.int .u8 0,.int .u8 0,.int .u8 0] 5)) ((wr.alloc (.cells #[.int .u8 0,.int .u8 0,.int .u8 0] 5)).alloc (.cells #[.int .u8 0] 5)):=kR.alloc _
      have HE8:=hid (HE8.out.keep0 K4)
      have o2:=(rh (wr.alloc (.cells #[.int .u8 0,.int .u8 0,.int .u8 0] 5))).toBits (by intro x hx;simp at hx;omega) (by omega)
      rw [World.size_alloc] at o2
      have HE2:=hid o2
      have HK8:=hid (K3.trans K4)
      have HR8:=hid ((K3.trans K4).heap HS.out.r (by simp))
      have HV8:=hid (show bB [0,0,0]=8 * V from by rw [hv0];rfl)
      have HV2:=hid (show bB [0]=2 * V from by rw [hv0];rfl)
      clear hl0 hv0 K3 K4 o2
      go_wp2_with fail
      generalize hA8:(some ⟨wr.heap.size,0,none⟩:Option Addr)=A8 at HE8 ⊢
      generalize hA2:(some ⟨wr.heap.size+1,0,none⟩:Option Addr)=A2 at HE2 ⊢
      generalize (wr.alloc (.cells #[.int .u8 0,.int .u8 0,.int .u8 0] 5)).alloc (.cells #[.int .u8 0] 5)=w8 at HE8 HE2 HK8 HR8 ⊢
      clear hA8 hA2
      have Kd:K0 w8 w8.drew:=kR.drew
      have HCC:=hid (fun (w':World) (K':K0 w8 w')=>(show w'.cell? ⟨B0,0,none⟩=some (.bool false) from by rw [cell_of_row w' _ _ _ _ _ (K'.heap HR8.out (by simp))];rfl))
      refine wp_region_held_drew (S:=fun w'=>w'.cell? ⟨B0,0,none⟩=some (.bool false)) (by kernel_rfl) (HCC.out _ Kd) (fun hHeld=>?_)
      refine wpAnyH_take (i:=0) (oi:=_) (v:=?_) rfl (by kernel_rfl) (by kernel_rfl) (by kernel_rfl) (fun _ _ _ h=>h) (Or.inl ⟨by rfl,?_⟩) (by assumption) ?_
      rotate_left
      ·(intro w hSw;(try dsimp only at hSw);go_simp)
       all_goals with_reducible rfl
      refine wpAnyH_take (i:=1) (oi:=_) (v:=?_) rfl (by kernel_rfl) (by kernel_rfl) (by kernel_rfl) (fun _ _ _ h=>h) (Or.inl ⟨by rfl,?_⟩) (by assumption) ?_
      rotate_left
      ·(intro w hSw;(try dsimp only at hSw);go_simp)
       all_goals with_reducible rfl
      try dsimp only [List.getElem_toArray,List.getElem_cons_succ,List.getElem_cons_zero]
      try simp only [Act.put,List.setIfInBounds_toArray,List.set_cons_zero,List.set_cons_succ]
      refine wpAnyH_take (i:=3) (oi:=_) (v:=?_) rfl (by kernel_rfl) (by kernel_rfl) (by kernel_rfl) (fun _ _ _ h=>h) (Or.inl ⟨by rfl,?_⟩) (by assumption) ?_
      rotate_left
      ·(intro w hSw;(try dsimp only at hSw);go_simp)
       all_goals with_reducible rfl
      refine wpAnyH_take (i:=4) (oi:=_) (v:=?_) rfl (by kernel_rfl) (by kernel_rfl) (by kernel_rfl) (fun _ _ _ h=>h) (Or.inl ⟨by rfl,?_⟩) (by assumption) ?_
      rotate_left
      ·(intro w hSw;(try dsimp only at hSw);go_simp)
       all_goals with_reducible rfl
      try dsimp only [List.getElem_toArray,List.getElem_cons_succ,List.getElem_cons_zero]
      try simp only [Act.put,List.setIfInBounds_toArray,List.set_cons_zero,List.set_cons_succ]
      refine wpAnyH_take (i:=5) (oi:=_) (v:=?_) rfl (by kernel_rfl) (by kernel_rfl) (by kernel_rfl) (fun _ _ _ h=>h) (Or.inl ⟨by rfl,?_⟩) (by assumption) ?_
      rotate_left
      ·(intro w hSw;(try dsimp only at hSw);go_simp)
       all_goals with_reducible rfl
      refine wpAnyH_take (i:=6) (oi:=_) (v:=?_) rfl (by kernel_rfl) (by kernel_rfl) (by kernel_rfl) (fun _ _ _ h=>h) (Or.inl ⟨by rfl,?_⟩) (by assumption) ?_
      rotate_left
      ·(intro w hSw;(try dsimp only at hSw);go_simp)
       all_goals with_reducible rfl
      try dsimp only [List.getElem_toArray,List.getElem_cons_succ,List.getElem_cons_zero]
      try simp only [Act.put,List.setIfInBounds_toArray,List.set_cons_zero,List.set_cons_succ]
      refine wpAnyH_take (i:=7) (oi:=_) (v:=?_) rfl (by kernel_rfl) (by kernel_rfl) (by kernel_rfl) (fun _ _ _ h=>h) (Or.inl ⟨by rfl,?_⟩) (by assumption) ?_
      rotate_left
      ·(intro w hSw;(try dsimp only at hSw);go_simp)
       all_goals with_reducible rfl
      try dsimp only [List.getElem_toArray,List.getElem_cons_succ,List.getElem_cons_zero]
      try simp only [Act.put,List.setIfInBounds_toArray,List.set_cons_zero,List.set_cons_succ]
      refine wpAnyH_ready (rs:=[2]) (by kernel_rfl) (by simp) ?_
      refine AllReadyH.cons (o:=_) rfl (fun K hK=>?_) AllReadyH.nil
      go_simp
      refine (cD A8 3 3 _ A2 1 1 _ _ (HE8.out.keep0 Kd) (HE2.out.keep0 Kd) (by omega) (by omega)).mono ?_
      rintro e wr1 ⟨A9,n9,c9,rfl,o9,kr⟩
      have hn9:n9<=1545:=fY (m:=1536+9) o9 (by rw [HV8.out,HV2.out];exact HB9.out)
      have HB9B:=hid (o9.toBits (aw aT _) (by omega))
      clear o9
      have K1:K0 w8 wr1:=ah.trans Kd kr
      clear kr
      try dsimp only
      go_wp2_with fail
      refine hK.out _ _ (HCC.out _ K1) (fun hHeld=>?_)
      clear hK K
      try dsimp only [List.getElem_toArray,List.getElem_cons_succ,List.getElem_cons_zero]
      try simp only [Act.put,List.setIfInBounds_toArray,List.set_cons_zero,List.set_cons_succ]
      refine wpAnyH_ready (rs:=[8]) (by kernel_rfl) (by simp) ?_
      refine AllReadyH.cons (o:=_) rfl (fun K hK=>?_) AllReadyH.nil
      go_simp
      refine (d8 dg _ (by omega)).mono ?_
      rintro e wr2 ⟨A10,n10,c10,rfl,o10,kr⟩
      have hn10:n10<=4:=fY o10 (by omega)
      have HB10:=hid (o10.toBits (aw aT _) (by omega))
      have HB9C:=hid (HB9B.out.keep0 kr)
      clear o10
      have K2:K0 w8 wr2:=ah.trans K1 kr
      clear kr K1
      try dsimp only
      go_wp2_with fail
      refine hK.out _ _ (HCC.out _ K2) (fun hHeld=>?_)
      clear hK K
      try dsimp only [List.getElem_toArray,List.getElem_cons_succ,List.getElem_cons_zero]
      try simp only [Act.put,List.setIfInBounds_toArray,List.set_cons_zero,List.set_cons_succ]
      refine wpAnyH_ready (rs:=[9]) (by kernel_rfl) (by simp) ?_
      refine AllReadyH.cons (o:=_) rfl (fun K hK=>?_) AllReadyH.nil
      go_simp
      refine (cD A9 n9 c9 _ A10 n10 c10 _ _ HB9C.out HB10.out (by omega) (by omega)).mono ?_
      rintro e wr3 ⟨A11,n11,c11,rfl,o11,kr⟩
      rw [gz HV8.out HV2.out] at o11
      have hn11:=o11.len
      have HN11:=hid hn11
      have HO11:=hid (aP.bits o11 (by rw [<- hn11];exact Nat.le_trans ((aM aT _ (1536+64)).2 HB11.out) (by omega)))
      clear o11 hn11
      have K3:K0 w8 wr3:=ah.trans K2 kr
      clear kr K2
      try dsimp only
      go_wp2_with fail
      refine hK.out _ _ (HCC.out _ K3) (fun hHeld=>?_)
      clear hK K
      refine wpAnyH_take (i:=10) (oi:=_) (v:=?_) rfl (by kernel_rfl) (by kernel_rfl) (by kernel_rfl) (fun _ _ _ h=>h) (Or.inl ⟨by rfl,?_⟩) (by assumption) ?_
      rotate_left
      ·(intro w hSw;(try dsimp only at hSw);go_simp)
       all_goals with_reducible rfl
      try dsimp only [List.getElem_toArray,List.getElem_cons_succ,List.getElem_cons_zero]
      try simp only [Act.put,List.setIfInBounds_toArray,List.set_cons_zero,List.set_cons_succ]
      refine wpAnyH_done (by kernel_rfl) ?_ _
      have KK:=K3
      clear K3
      have KX:=hid (HK8.out.trans KK)
      clear HCC KK
      by_cases hbig:1536<n11
      ·have tb:(1536:Int)<(n11:Int):=by omega
       have HNF:=hid (fu (k:=j+1) HXA.out (by rw [HNXT.out,HN11.out];exact hbig))
       obtain ⟨r0,r1,f0,f1⟩:=HRET.out _ (HS.out.K.trans KX.out)
       have HE:=hid (HSET.out _ (HS.out.K.trans KX.out) (.bool false) (.slice none 0 0))
       clear hbig
       try dsimp only
       go_wp2_with fail
       obtain ⟨⟨e0,e1⟩,kx⟩:=HE.out
       refine bodyPost_ret (v:=.tuple #[al false none 0 0,.int .i64 6]) (by simp [results,Tryz.results67,go_sem,e0,e1]) rfl ?_
       unfold cx
       rw [HALL.out]
       exact .inr ⟨HNF.out,rfl,kx⟩
      ·have tb:decide ((1536:Int)<(n11:Int))=false:=dF (by omega)
       have HNS:=hid (show mn w1 B0 (ak (bl.take (j+1))) A11 n11 c11 _ from ⟨KX.out.heap HS.out.r (by simp),by rw [HNXT.out];exact HO11.out,by omega,HS.out.K.trans KX.out⟩)
       clear hbig
       try dsimp only
       go_wp2_with fail
       go_roundw
       case rel=>exact ⟨q+1,j+1,_,_,_,by have:=HQ.out;omega,by omega,by go_num,rfl,HNS.out⟩
       case measure=>simp [intOf];omega
     ·obtain ⟨i5,h5,hz0,hz1,hz2⟩:=info_parts d7
      have K3:K0 wr (wr.alloc (.cells #[.int .u8 0,.int .u8 0,.int .u8 0] 5)):=kR.alloc _
      have HO3:=hid (eL wr)
      have HRR:=hid ((HS.out.o.row.keep0 K3).news)
      have HRL:=hid HS.out.o.len
      have HK3:=hid K3
      clear K3
      go_wp2_with (at_builtin;refine wpList_append_own _ rfl (.tmp 53) (.tmp 54) 70 rfl wr.heap.size 5 i5 (.int .u8 0) 1 1 Tryz.underlying70 h5 hz0 hz1 hz2 rfl (by decide) _ _ _ rfl HO3.out ad nb cb ((ai V).map fun x:Nat=>Value.int .u8 (x:Int)) rfl (by rw [List.length_map,HRL.out,Nat.mul_one]) HRR.out ?a1 ?a2 ?a3 ?a4 ?_)
      case a1=>
       intro u hu
       obtain ⟨z,_,rfl⟩:=List.mem_map.1 hu
       rfl
      case a2=>unfold maxLen;omega
      case a3=>omega
      case a4=>simp
      intro v8 w6 hown hgrow _
      have hown2:w6.ownsRow wr.heap.size 5 1 v8 (3+nb) ((List.replicate 3 0++ai V).map fun x:Nat=>Value.int .u8 (x:Int)):=hown
      obtain ⟨A8,c8,rfl,o8⟩:=cj hown2
      have K6:K0 wr w6:=HK3.out.into (ah.of_grown hgrow) (fun i hi=>Nat.le_of_eq (by simpa [Value.ownBlock] using hi.symm))
      have HO8:=hid (o8.toBits (gI 3 V) (by omega))
      have K7:K0 w6 (w6.alloc (.cells #[.int .u8 0] 5)):=kR.alloc _
      have HRR2:=hid ((HS.out.o.row.keep0 (K6.trans K7)).news)
      have HK6:=hid K6
      have HK7:=hid K7
      have HO1:=hid (gK w6 0)
      clear hown hown2 hgrow o8 K6 K7
      go_wp2_with (at_builtin;refine wpList_append_own _ rfl (.tmp 56) (.tmp 57) 70 rfl w6.heap.size 5 i5 (.int .u8 0) 1 1 Tryz.underlying70 h5 hz0 hz1 hz2 rfl (by decide) _ _ _ rfl HO1.out ad nb cb ((ai V).map fun x:Nat=>Value.int .u8 (x:Int)) rfl (by rw [List.length_map,HRL.out,Nat.mul_one]) HRR2.out ?a1 ?a2 ?a3 ?a4 ?_)
      case a1=>
       intro u hu
       obtain ⟨z,_,rfl⟩:=List.mem_map.1 hu
       rfl
      case a2=>unfold maxLen;omega
      case a3=>omega
      case a4=>simp
      intro v2 w8 hown hgrow _
      have hown2:w8.ownsRow w6.heap.size 5 1 v2 (1+nb) ((List.replicate 1 0++ai V).map fun x:Nat=>Value.int .u8 (x:Int)):=hown
      obtain ⟨A2,c2,rfl,o2⟩:=cj hown2
      have K8:K0 w6 w8:=HK7.out.into (ah.of_grown hgrow) (fun i hi=>Nat.le_of_eq (by simpa [Value.ownBlock] using hi.symm))
      have HE2:=hid (o2.toBits (gI 1 V) (by omega))
      have HE8:=hid (HO8.out.keep0 K8)
      have HK8:=hid (HK6.out.trans K8)
      have HR8:=hid ((HK6.out.trans K8).heap HS.out.r (by simp))
      have HV8:=hid (gG 3 V)
      have HV2:=hid (gG 1 V)
      clear hown hown2 hgrow o2 K8
      go_wp2_with fail
      have Kd:K0 w8 w8.drew:=kR.drew
      have HCC:=hid (fun (w':World) (K':K0 w8 w')=>(show w'.cell? ⟨B0,0,none⟩=some (.bool false) from by rw [cell_of_row w' _ _ _ _ _ (K'.heap HR8.out (by simp))];rfl))
      refine wp_region_held_drew (S:=fun w'=>w'.cell? ⟨B0,0,none⟩=some (.bool false)) (by kernel_rfl) (HCC.out _ Kd) (fun hHeld=>?_)
      refine wpAnyH_take (i:=0) (oi:=_) (v:=?_) rfl (by kernel_rfl) (by kernel_rfl) (by kernel_rfl) (fun _ _ _ h=>h) (Or.inl ⟨by rfl,?_⟩) (by assumption) ?_
      rotate_left
      ·(intro w hSw;(try dsimp only at hSw);go_simp)
       all_goals with_reducible rfl
      refine wpAnyH_take (i:=1) (oi:=_) (v:=?_) rfl (by kernel_rfl) (by kernel_rfl) (by kernel_rfl) (fun _ _ _ h=>h) (Or.inl ⟨by rfl,?_⟩) (by assumption) ?_
      rotate_left
      ·(intro w hSw;(try dsimp only at hSw);go_simp)
       all_goals with_reducible rfl
      try dsimp only [List.getElem_toArray,List.getElem_cons_succ,List.getElem_cons_zero]
      try simp only [Act.put,List.setIfInBounds_toArray,List.set_cons_zero,List.set_cons_succ]
      refine wpAnyH_take (i:=3) (oi:=_) (v:=?_) rfl (by kernel_rfl) (by kernel_rfl) (by kernel_rfl) (fun _ _ _ h=>h) (Or.inl ⟨by rfl,?_⟩) (by assumption) ?_
      rotate_left
      ·(intro w hSw;(try dsimp only at hSw);go_simp)
       all_goals with_reducible rfl
      refine wpAnyH_take (i:=4) (oi:=_) (v:=?_) rfl (by kernel_rfl) (by kernel_rfl) (by kernel_rfl) (fun _ _ _ h=>h) (Or.inl ⟨by rfl,?_⟩) (by assumption) ?_
      rotate_left
      ·(intro w hSw;(try dsimp only at hSw);go_simp)
       all_goals with_reducible rfl
      try dsimp only [List.getElem_toArray,List.getElem_cons_succ,List.getElem_cons_zero]
      try simp only [Act.put,List.setIfInBounds_toArray,List.set_cons_zero,List.set_cons_succ]
      refine wpAnyH_take (i:=5) (oi:=_) (v:=?_) rfl (by kernel_rfl) (by kernel_rfl) (by kernel_rfl) (fun _ _ _ h=>h) (Or.inl ⟨by rfl,?_⟩) (by assumption) ?_
      rotate_left
      ·(intro w hSw;(try dsimp only at hSw);go_simp)
       all_goals with_reducible rfl
      refine wpAnyH_take (i:=6) (oi:=_) (v:=?_) rfl (by kernel_rfl) (by kernel_rfl) (by kernel_rfl) (fun _ _ _ h=>h) (Or.inl ⟨by rfl,?_⟩) (by assumption) ?_
      rotate_left
      ·(intro w hSw;(try dsimp only at hSw);go_simp)
       all_goals with_reducible rfl
      try dsimp only [List.getElem_toArray,List.getElem_cons_succ,List.getElem_cons_zero]
      try simp only [Act.put,List.setIfInBounds_toArray,List.set_cons_zero,List.set_cons_succ]
      refine wpAnyH_take (i:=7) (oi:=_) (v:=?_) rfl (by kernel_rfl) (by kernel_rfl) (by kernel_rfl) (fun _ _ _ h=>h) (Or.inl ⟨by rfl,?_⟩) (by assumption) ?_
      rotate_left
      ·(intro w hSw;(try dsimp only at hSw);go_simp)
       all_goals with_reducible rfl
      try dsimp only [List.getElem_toArray,List.getElem_cons_succ,List.getElem_cons_zero]
      try simp only [Act.put,List.setIfInBounds_toArray,List.set_cons_zero,List.set_cons_succ]
      refine wpAnyH_ready (rs:=[2]) (by kernel_rfl) (by simp) ?_
      refine AllReadyH.cons (o:=_) rfl (fun K hK=>?_) AllReadyH.nil
      go_simp
      refine (cD A8 (3+nb) c8 _ A2 (1+nb) c2 _ _ (HE8.out.keep0 Kd) (HE2.out.keep0 Kd) (by omega) (by omega)).mono ?_
      rintro e wr1 ⟨A9,n9,c9,rfl,o9,kr⟩
      have hn9:n9<=1545:=fY (m:=1536+9) o9 (by rw [HV8.out,HV2.out];exact HB9.out)
      have HB9B:=hid (o9.toBits (aw aT _) (by omega))
      clear o9
      have K1:K0 w8 wr1:=ah.trans Kd kr
      clear kr
      try dsimp only
      go_wp2_with fail
      refine hK.out _ _ (HCC.out _ K1) (fun hHeld=>?_)
      clear hK K
      try dsimp only [List.getElem_toArray,List.getElem_cons_succ,List.getElem_cons_zero]
      try simp only [Act.put,List.setIfInBounds_toArray,List.set_cons_zero,List.set_cons_succ]
      refine wpAnyH_ready (rs:=[8]) (by kernel_rfl) (by simp) ?_
      refine AllReadyH.cons (o:=_) rfl (fun K hK=>?_) AllReadyH.nil
      go_simp
      refine (d8 dg _ (by omega)).mono ?_
      rintro e wr2 ⟨A10,n10,c10,rfl,o10,kr⟩
      have hn10:n10<=4:=fY o10 (by omega)
      have HB10:=hid (o10.toBits (aw aT _) (by omega))
      have HB9C:=hid (HB9B.out.keep0 kr)
      clear o10
      have K2:K0 w8 wr2:=ah.trans K1 kr
      clear kr K1
      try dsimp only
      go_wp2_with fail
      refine hK.out _ _ (HCC.out _ K2) (fun hHeld=>?_)
      clear hK K
      try dsimp only [List.getElem_toArray,List.getElem_cons_succ,List.getElem_cons_zero]
      try simp only [Act.put,List.setIfInBounds_toArray,List.set_cons_zero,List.set_cons_succ]
      refine wpAnyH_ready (rs:=[9]) (by kernel_rfl) (by simp) ?_
      refine AllReadyH.cons (o:=_) rfl (fun K hK=>?_) AllReadyH.nil
      go_simp
      refine (cD A9 n9 c9 _ A10 n10 c10 _ _ HB9C.out HB10.out (by omega) (by omega)).mono ?_
      rintro e wr3 ⟨A11,n11,c11,rfl,o11,kr⟩
      rw [gz HV8.out HV2.out] at o11
      have hn11:=o11.len
      have HN11:=hid hn11
      have HO11:=hid (aP.bits o11 (by rw [<- hn11];exact Nat.le_trans ((aM aT _ (1536+64)).2 HB11.out) (by omega)))
      clear o11 hn11
      have K3:K0 w8 wr3:=ah.trans K2 kr
      clear kr K2
      try dsimp only
      go_wp2_with fail
      refine hK.out _ _ (HCC.out _ K3) (fun hHeld=>?_)
      clear hK K
      refine wpAnyH_take (i:=10) (oi:=_) (v:=?_) rfl (by kernel_rfl) (by kernel_rfl) (by kernel_rfl) (fun _ _ _ h=>h) (Or.inl ⟨by rfl,?_⟩) (by assumption) ?_
      rotate_left
      ·(intro w hSw;(try dsimp only at hSw);go_simp)
       all_goals with_reducible rfl
      try dsimp only [List.getElem_toArray,List.getElem_cons_succ,List.getElem_cons_zero]
      try simp only [Act.put,List.setIfInBounds_toArray,List.set_cons_zero,List.set_cons_succ]
      refine wpAnyH_done (by kernel_rfl) ?_ _
      have KK:=K3
      clear K3
      have KX:=hid (HK8.out.trans KK)
      clear HCC KK
      by_cases hbig:1536<n11
      ·have tb:(1536:Int)<(n11:Int):=by omega
       have HNF:=hid (fu (k:=j+1) HXA.out (by rw [HNXT.out,HN11.out];exact hbig))
       obtain ⟨r0,r1,f0,f1⟩:=HRET.out _ (HS.out.K.trans KX.out)
       have HE:=hid (HSET.out _ (HS.out.K.trans KX.out) (.bool false) (.slice none 0 0))
       clear hbig
       try dsimp only
       go_wp2_with fail
       obtain ⟨⟨e0,e1⟩,kx⟩:=HE.out
       refine bodyPost_ret (v:=.tuple #[al false none 0 0,.int .i64 6]) (by simp [results,Tryz.results67,go_sem,e0,e1]) rfl ?_
       unfold cx
       rw [HALL.out]
       exact .inr ⟨HNF.out,rfl,kx⟩
      ·have tb:decide ((1536:Int)<(n11:Int))=false:=dF (by omega)
       have HNS:=hid (show mn w1 B0 (ak (bl.take (j+1))) A11 n11 c11 _ from ⟨KX.out.heap HS.out.r (by simp),by rw [HNXT.out];exact HO11.out,by omega,HS.out.K.trans KX.out⟩)
       clear hbig
       try dsimp only
       go_wp2_with fail
       go_roundw
       case rel=>exact ⟨q+1,j+1,_,_,_,by have:=HQ.out;omega,by omega,by go_num,rfl,HNS.out⟩
       case measure=>simp [intOf];omega
    ·have j1:decide ((q:Int)<(s.size:Int))=false:=dF (by omega)
     have hvd:V=ak bl:=by rw [HVV.out,List.take_of_length_le (by rw [HBN.out];omega)]
     clear hq
     obtain ⟨z,hz⟩:∃ z,z=decide (x<0):=⟨_,rfl⟩
     have HVA:=hid (lJ (z:=z) (neg:=true) HS.out.o (by rw [hvd,HXS.out];exact hz))
     have HZ:=hid hz
     have HVD:=hid hvd
     have b45:((d0:Int) == 45)=true:=HB45.out
     clear hz hvd
     go_wp2_with fail
     refine HVA.out.mono ?_
     rintro e w9 ⟨n9,rfl,b9,k9⟩
     obtain ⟨r0,r1,f0,f1⟩:=HRET.out _ (HS.out.K.trans k9)
     have HE:=hid (HSET.out _ (HS.out.K.trans k9) (.bool z) (.slice P n9 cb))
     have hb9:=(HS.out.K.trans k9).heap HB.out (by simp)
     have KS:ah (fun b=>b=B0) w9 ((w9.setCell ⟨B0,0,none⟩ (.bool z)).setCell ⟨B0,1,none⟩ (.slice P n9 cb)):=((ah.refl (fun b=>b=B0) w9).setCell (p:=⟨B0,0,none⟩) (.inl rfl) (.bool z)).setCell (p:=⟨B0,1,none⟩) (.inl rfl) (.slice P n9 cb)
     have HB9:=hid (show bg ((w9.setCell ⟨B0,0,none⟩ (.bool z)).setCell ⟨B0,1,none⟩ (.slice P n9 cb)) P n9 cb (ai x.natAbs) from by
      rw [HXA.out,<- HVD.out]
      exact ⟨b9.row.keep KS (lS b9.row hb9 (by intro q x e;cases e)),b9.low,b9.cap,b9.max⟩)
     have HFT:=hid (show dG x from by rw [fG,HXA.out,<- HVD.out,HS.out.o.len];exact hnb)
     clear b9 k9 hb9 KS HVA b45
     try dsimp only
     go_wp2_with fail
     obtain ⟨⟨e0,e1⟩,kx⟩:=HE.out
     refine bodyPost_ret (v:=.tuple #[al z P n9 cb,.int .i64 0]) (by simp [results,Tryz.results67,go_sem,e0,e1]) rfl ?_
     unfold cx
     rw [HALL.out]
     exact .inl ⟨HFT.out,P,n9,cb,by rw [<- HZ.out],HB9.out,kx⟩
theorem mT (s:ByteArray) (w:World) (hs:s.size<=1000000) (h0:0<s.size) (hd0:(s.data.toList.getD 0 0).toNat=43):Calls Tryz.prog 67 #[.string s] w (cx s.data.toList w):=by
 have hlen:s.data.toList.length=s.size:=(Lib.size_eq s).symm
 have p45:=gH s.data.toList 45
 have p43:=gH s.data.toList 43
 rw [hlen] at p45 p43
 have q45:Lib.hasPrefix s.data.toList [45]=false:=by rw [p45];exact dF (by rintro ⟨_,h⟩;rw [show (45:UInt8).toNat=45 from rfl] at h;omega)
 have q43:Lib.hasPrefix s.data.toList [43]=true:=by rw [p43];exact dT (by exact ⟨h0,hd0⟩)
 obtain ⟨bl,hbl⟩:∃ l,l=aZ s.data.toList:=⟨_,rfl⟩
 have hbl2:bl=s.data.toList.drop 1:=by rw [hbl];unfold aZ ip;rw [q45,q43];rfl
 have hbn:bl.length=s.size - 1:=by rw [hbl2,List.length_drop,hlen]
 have hbd:∀ j,j<bl.length->(s.data.toList.getD (1+j) 0).toNat=(bl.getD j 0).toNat:=by
  intro j hj
  rw [hbl2,gD,gD,List.getElem?_drop]
 have hpv:aJ s.data.toList=if bl=[]\/bl.all eC=false then none else some (if false=true then -(ak bl:Int) else (ak bl:Int)):=by unfold aJ;rw [<- hbl,q45]
 have HPV:=hid hpv
 have HBD:=hid hbd
 have HBN:=hid hbn
 obtain ⟨d0,hdd⟩:∃ d,d=(s.data.toList.getD 0 0).toNat:=⟨_,rfl⟩
 have hix0:∀ W:World,(Instr.index 9 (.string s) (.int .i64 0)).run Tryz.prog W=.ok (.int .u8 (d0:Int)) W:=fun W=>ei s 0 h0 d0 hdd W
 have b45:((d0:Int) == 45)=false:=by rw [hdd];rw [bF];omega
 have b43:((d0:Int) == 43)=true:=by rw [hdd];rw [hd0];rfl
 have hpos:(0:Int)<(s.size:Int):=by omega
 have HB45:=hid b45
 clear p45 p43 q45 q43 hbl hbl2 hbn hbd hpv hd0 hlen
 have K:K0 w (w.alloc (.cells #[.bool false,.slice none 0 0] 90)):=kR.alloc _
 have hb:(w.alloc (.cells #[.bool false,.slice none 0 0] 90)).heap[w.heap.size]? = some (.cells #[.bool false,.slice none 0 0] 90 (0,0)):=hN w _
 have HK:=hid K
 have HB:=hid hb
 have HDD:=hid hdd
 clear K hb hdd
 go_enter Tryz.func67,Tryz.ntmps67
 go_wp2_with fail
 clear hpos b45 b43
 generalize hB0:w.heap.size=B0 at HB ⊢
 have HSZ:=hid (Nat.le_of_eq hB0)
 clear hB0
 generalize w.alloc (.cells #[.bool false,.slice none 0 0] 90)=w1 at HB HK ⊢
 have HRET:=hid (fun (w9:World) (K9:K0 w1 w9)=>(show w9.cell? ⟨B0,0,none⟩=some (.bool false)/\w9.cell? ⟨B0,1,none⟩=some (.slice none 0 0)/\w9.frozen? ⟨B0,0,none⟩=false/\w9.frozen? ⟨B0,1,none⟩=false from by
  have hb9:=K9.heap HB.out (by simp)
  exact ⟨by rw [cell_of_row w9 _ _ _ _ _ hb9];rfl,by rw [cell_of_row w9 _ _ _ _ _ hb9];rfl,by simp [World.frozen?,hb9],by simp [World.frozen?,hb9]⟩))
 have HSET:=hid (fun (w9:World) (K9:K0 w1 w9) (a b:Value)=>And.intro (bD (K9.heap HB.out (by simp)) a b) (cu (HK.out.trans K9) (show w.heap.size<=B0 from HSZ.out) a b))
 go_loop [5] (fun iv=>∃ i:Nat,1<=i/\i<=s.size/\iv=.int .i64 (i:Int) /\ ∀ j,1<=j->j<i->48<=(s.data.toList.getD j 0).toNat/\(s.data.toList.getD j 0).toNat<=57) (fun iv=>s.size - (intOf iv).toNat)
 case atStart=>exact ⟨1,Nat.le_refl _,by omega,rfl,fun j h1 h2=>by omega⟩
 case round=>
  obtain ⟨i,hk,hi,rfl,hj⟩:=hrel
  have HJ:=hid hj
  clear hj
  by_cases hin:i<s.size
  ·have i1:(i:Int)<(s.size:Int):=by omega
   obtain ⟨d,hd⟩:∃ d,d=(s.data.toList.getD i 0).toNat:=⟨_,rfl⟩
   have hix:∀ W:World,(Instr.index 9 (.string s) (.int .i64 (i:Int))).run Tryz.prog W=.ok (.int .u8 (d:Int)) W:=fun W=>ei s i hin d hd W
   have HD:=hid hd
   obtain ⟨r0,r1,f0,f1⟩:=HRET.out _ kR
   have HE:=hid (HSET.out _ kR (.bool false) (.slice none 0 0))
   have HNOX:=hid (fun (h:d<48\/57<d)=>(show aJ s.data.toList=none from by
    rw [HPV.out]
    refine if_pos (.inr ?_)
    rw [List.all_eq_false]
    have hb1:=HBD.out (i - 1) (by rw [HBN.out];omega)
    rw [show 1+(i - 1)=i from by omega,<- HD.out] at hb1
    have hlt:i - 1<bl.length:=by rw [HBN.out];omega
    rw [gD,gE hlt] at hb1
    refine ⟨bl[i - 1],List.getElem_mem _,?_⟩
    intro hdig
    have:=(cI _).1 hdig
    simp only [Option.getD_some] at hb1
    omega))
   clear hd
   rcases (by omega:d<48\/(57<d/\¬ d<48)\/(¬ d<48/\¬ 57<d)) with hc | ⟨hc,hc2⟩ | ⟨hc,hc2⟩
   ·have t1:(d:Int)<48:=by omega
    have HNO:=hid (HNOX.out (.inl hc))
    clear hc HNOX
    go_wp2_with fail
    obtain ⟨⟨e0,e1⟩,kx⟩:=HE.out
    refine bodyPost_ret (v:=.tuple #[al false none 0 0,.int .i64 9]) (by simp [results,Tryz.results67,go_sem,e0,e1]) rfl ?_
    unfold cx
    rw [HNO.out]
    exact ⟨rfl,kx⟩
   ·have t1:decide ((d:Int)<48)=false:=dF (by omega)
    have t3:(57:Int)<(d:Int):=by omega
    have HNO:=hid (HNOX.out (.inr hc))
    clear hc hc2 HNOX
    go_wp2_with fail
    obtain ⟨⟨e0,e1⟩,kx⟩:=HE.out
    refine bodyPost_ret (v:=.tuple #[al false none 0 0,.int .i64 9]) (by simp [results,Tryz.results67,go_sem,e0,e1]) rfl ?_
    unfold cx
    rw [HNO.out]
    exact ⟨rfl,kx⟩
   ·have t1:decide ((d:Int)<48)=false:=dF (by omega)
    have t3:decide ((57:Int)<(d:Int))=false:=dF (by omega)
    have HC:=hid (And.intro hc hc2)
    clear hc hc2 HNOX
    go_wp2_with fail
    go_round
    case rel=>exact ⟨i+1,by omega,by omega,by go_num,fun j h1 h2=>by
     by_cases e:j=i
     ·rw [e,<- HD.out];have:=HC.out;omega
     ·exact HJ.out j h1 (by omega)⟩
    case measure=>simp [intOf];omega
  ·have i1:decide ((i:Int)<(s.size:Int))=false:=dF (by omega)
   obtain rfl:i=s.size:=by omega
   obtain ⟨r0,r1,f0,f1⟩:=HRET.out _ kR
   by_cases hone:s.size=1
   ·have t2:((1:Int) == (s.size:Int))=true:=by rw [hone];rfl
    have HNO:=hid (show aJ s.data.toList=none from by rw [HPV.out];exact if_pos (.inl (List.eq_nil_of_length_eq_zero (by rw [HBN.out,hone]))))
    have HE:=hid (HSET.out _ kR (.bool false) (.slice none 0 0))
    clear hone
    go_wp2_with fail
    obtain ⟨⟨e0,e1⟩,kx⟩:=HE.out
    refine bodyPost_ret (v:=.tuple #[al false none 0 0,.int .i64 9]) (by simp [results,Tryz.results67,go_sem,e0,e1]) rfl ?_
    unfold cx
    rw [HNO.out]
    exact ⟨rfl,kx⟩
   have t2:((1:Int) == (s.size:Int))=false:=by rw [bF];omega
   have HALL:=hid (show aJ s.data.toList=some (if false=true then -(ak bl:Int) else (ak bl:Int)) from by
    rw [HPV.out]
    refine if_neg ?_
    rintro (h | h)
    ·have:=HBN.out;rw [h] at this;simp at this;omega
    ·rw [List.all_eq_false] at h
     obtain ⟨b,hb,hd⟩:=h
     obtain ⟨j,hj,rfl⟩:=List.getElem_of_mem hb
     apply hd
     have hb1:=HBD.out j hj
     rw [gD (l:=bl),gE hj] at hb1
     have:=HJ.out (1+j) (by omega) (by rw [HBN.out] at hj;omega)
     simp only [Option.getD_some] at hb1
     rw [hb1] at this
     exact (cI _).2 this)
   obtain ⟨x,hx⟩:∃ x:Int,x=(if false=true then -(ak bl:Int) else (ak bl:Int)):=⟨_,rfl⟩
   rw [<- hx] at HALL
   have HXA:=hid (show x.natAbs=ak bl from by rw [hx];simp)
   have HXS:=hid (show sgn false (ak bl)=x from by rw [hx];rfl)
   clear hx hone
   go_wp2_with fail
   clear t2 i1 r0 r1 f0 f1
   go_loopw [6,7,8,9] (fun bv iv _ _ wr=>∃ (q j:Nat) (P:Option Addr) (nb cb:Nat),q=1+j/\q<=s.size/\iv=.int .i64 (q:Int)/\bv=.slice P nb cb/\mn w1 B0 (ak (bl.take j)) P nb cb wr) (fun _ iv _ _ _=>s.size - (intOf iv).toNat)
   case atStart=>exact ⟨1,0,none,0,0,rfl,by omega,rfl,rfl,HB.out,by rw [List.take_zero,show ak []=0 from rfl];unfold ai;rw [bi];exact ⟨cT.nil _ _ _,Low.nil 2,Nat.le_refl _,by omega⟩,by omega,kR⟩
   case round=>
    obtain ⟨q,j,P,nb,cb,hq,hjl,rfl,rfl,st⟩:=hrel
    have HS:=hid st
    have hnb:=st.n
    clear st
    obtain ⟨V,hV⟩:∃ V,V=ak (bl.take j):=⟨_,rfl⟩
    rw [<- hV] at HS
    have HVV:=hid hV
    clear hV
    by_cases hin:q<s.size
    ·have j1:(q:Int)<(s.size:Int):=by omega
     obtain ⟨d,hd⟩:∃ d,d=(s.data.toList.getD q 0).toNat:=⟨_,rfl⟩
     have hix:∀ W:World,(Instr.index 9 (.string s) (.int .i64 (q:Int))).run Tryz.prog W=.ok (.int .u8 (d:Int)) W:=fun W=>ei s q hin d hd W
     have hdd:=HJ.out q (by omega) hin
     rw [<- hd] at hdd
     obtain ⟨dg,hdg⟩:∃ g,g=d - 48:=⟨_,rfl⟩
     have hw1:IntKind.u8.wrap (dg:Int)=(dg:Int):=by rw [IntKind.wrap_u8];omega
     have hw2:IntKind.i64.wrap (dg:Int)=(dg:Int):=by rw [IntKind.wrap_i64];omega
     have hw3:(d:Int) - 48=(dg:Int):=by omega
     have hdg9:dg<=9:=by omega
     have HNXT:=hid (show ak (bl.take (j+1))=10 * V+dg from by
      have hjb:j<bl.length:=by rw [HBN.out];omega
      rw [cR bl j hjb,<- HVV.out,hdg,hd,hq,HBD.out j hjb,gD,gE hjb]
      rfl)
     have HQ:=hid hq
     clear hd hdg hq
     have HB9:=hid (pz (V:=V) rfl (by rw [HS.out.o.len];exact hnb))
     have HB11:=hid (mg (V:=V) (dg:=dg) rfl (by rw [HS.out.o.len];exact hnb) hdg9)
     rcases P with _ | ad
     ·obtain ⟨hn0,hl0⟩:=HS.out.o.nil_of
      subst hn0
      have hv0:V=0:=ez aT hl0
      have HE8:=hid ((eL wr).toBits (by intro x hx;simp at hx;omega) (by omega))
      have K3:K0 wr (wr.alloc (.cells #[.int .u8 0,.int .u8 0,.int .u8 0] 5)):=kR.alloc _
      have K4:K0 (wr.alloc (.cells #[.int .u8 0,.int .u8 0,.int .u8 0] 5)) ((wr.alloc (.cells #[.int .u8 0,.int .u8 0,.int .u8 0] 5)).alloc (.cells #[.int .u8 0] 5)):=kR.alloc _
      have HE8:=hid (HE8.out.keep0 K4)
      have o2:=(rh (wr.alloc (.cells #[.int .u8 0,.int .u8 0,.int .u8 0] 5))).toBits (by intro x hx;simp at hx;omega) (by omega)
      rw [World.size_alloc] at o2
      have HE2:=hid o2
      have HK8:=hid (K3.trans K4)
      have HR8:=hid ((K3.trans K4).heap HS.out.r (by simp))
      have HV8:=hid (show bB [0,0,0]=8 * V from by rw [hv0];rfl)
      have HV2:=hid (show bB [0]=2 * V from by rw [hv0];rfl)
      clear hl0 hv0 K3 K4 o2
      go_wp2_with fail
      generalize hA8:(some ⟨wr.heap.size,0,none⟩:Option Addr)=A8 at HE8 ⊢
      generalize hA2:(some ⟨wr.heap.size+1,0,none⟩:Option Addr)=A2 at HE2 ⊢
      generalize (wr.alloc (.cells #[.int .u8 0,.int .u8 0,.int .u8 0] 5)).alloc (.cells #[.int .u8 0] 5)=w8 at HE8 HE2 HK8 HR8 ⊢
      clear hA8 hA2
      have Kd:K0 w8 w8.drew:=kR.drew
      have HCC:=hid (fun (w':World) (K':K0 w8 w')=>(show w'.cell? ⟨B0,0,none⟩=some (.bool false) from by rw [cell_of_row w' _ _ _ _ _ (K'.heap HR8.out (by simp))];rfl))
      refine wp_region_held_drew (S:=fun w'=>w'.cell? ⟨B0,0,none⟩=some (.bool false)) (by kernel_rfl) (HCC.out _ Kd) (fun hHeld=>?_)
      refine wpAnyH_take (i:=0) (oi:=_) (v:=?_) rfl (by kernel_rfl) (by kernel_rfl) (by kernel_rfl) (fun _ _ _ h=>h) (Or.inl ⟨by rfl,?_⟩) (by assumption) ?_
      rotate_left
      ·(intro w hSw;(try dsimp only at hSw);go_simp)
       all_goals with_reducible rfl
      refine wpAnyH_take (i:=1) (oi:=_) (v:=?_) rfl (by kernel_rfl) (by kernel_rfl) (by kernel_rfl) (fun _ _ _ h=>h) (Or.inl ⟨by rfl,?_⟩) (by assumption) ?_
      rotate_left
      ·(intro w hSw;(try dsimp only at hSw);go_simp)
       all_goals with_reducible rfl
      try dsimp only [List.getElem_toArray,List.getElem_cons_succ,List.getElem_cons_zero]
      try simp only [Act.put,List.setIfInBounds_toArray,List.set_cons_zero,List.set_cons_succ]
      refine wpAnyH_take (i:=3) (oi:=_) (v:=?_) rfl (by kernel_rfl) (by kernel_rfl) (by kernel_rfl) (fun _ _ _ h=>h) (Or.inl ⟨by rfl,?_⟩) (by assumption) ?_
      rotate_left
      ·(intro w hSw;(try dsimp only at hSw);go_simp)
       all_goals with_reducible rfl
      refine wpAnyH_take (i:=4) (oi:=_) (v:=?_) rfl (by kernel_rfl) (by kernel_rfl) (by kernel_rfl) (fun _ _ _ h=>h) (Or.inl ⟨by rfl,?_⟩) (by assumption) ?_
      rotate_left
      ·(intro w hSw;(try dsimp only at hSw);go_simp)
       all_goals with_reducible rfl
      try dsimp only [List.getElem_toArray,List.getElem_cons_succ,List.getElem_cons_zero]
      try simp only [Act.put,List.setIfInBounds_toArray,List.set_cons_zero,List.set_cons_succ]
      refine wpAnyH_take (i:=5) (oi:=_) (v:=?_) rfl (by kernel_rfl) (by kernel_rfl) (by kernel_rfl) (fun _ _ _ h=>h) (Or.inl ⟨by rfl,?_⟩) (by assumption) ?_
      rotate_left
      ·(intro w hSw;(try dsimp only at hSw);go_simp)
       all_goals with_reducible rfl
      refine wpAnyH_take (i:=6) (oi:=_) (v:=?_) rfl (by kernel_rfl) (by kernel_rfl) (by kernel_rfl) (fun _ _ _ h=>h) (Or.inl ⟨by rfl,?_⟩) (by assumption) ?_
      rotate_left
      ·(intro w hSw;(try dsimp only at hSw);go_simp)
       all_goals with_reducible rfl
      try dsimp only [List.getElem_toArray,List.getElem_cons_succ,List.getElem_cons_zero]
      try simp only [Act.put,List.setIfInBounds_toArray,List.set_cons_zero,List.set_cons_succ]
      refine wpAnyH_take (i:=7) (oi:=_) (v:=?_) rfl (by kernel_rfl) (by kernel_rfl) (by kernel_rfl) (fun _ _ _ h=>h) (Or.inl ⟨by rfl,?_⟩) (by assumption) ?_
      rotate_left
      ·(intro w hSw;(try dsimp only at hSw);go_simp)
       all_goals with_reducible rfl
      try dsimp only [List.getElem_toArray,List.getElem_cons_succ,List.getElem_cons_zero]
      try simp only [Act.put,List.setIfInBounds_toArray,List.set_cons_zero,List.set_cons_succ]
      refine wpAnyH_ready (rs:=[2]) (by kernel_rfl) (by simp) ?_
      refine AllReadyH.cons (o:=_) rfl (fun K hK=>?_) AllReadyH.nil
      go_simp
      refine (cD A8 3 3 _ A2 1 1 _ _ (HE8.out.keep0 Kd) (HE2.out.keep0 Kd) (by omega) (by omega)).mono ?_
      rintro e wr1 ⟨A9,n9,c9,rfl,o9,kr⟩
      have hn9:n9<=1545:=fY (m:=1536+9) o9 (by rw [HV8.out,HV2.out];exact HB9.out)
      have HB9B:=hid (o9.toBits (aw aT _) (by omega))
      clear o9
      have K1:K0 w8 wr1:=ah.trans Kd kr
      clear kr
      try dsimp only
      go_wp2_with fail
      refine hK.out _ _ (HCC.out _ K1) (fun hHeld=>?_)
      clear hK K
      try dsimp only [List.getElem_toArray,List.getElem_cons_succ,List.getElem_cons_zero]
      try simp only [Act.put,List.setIfInBounds_toArray,List.set_cons_zero,List.set_cons_succ]
      refine wpAnyH_ready (rs:=[8]) (by kernel_rfl) (by simp) ?_
      refine AllReadyH.cons (o:=_) rfl (fun K hK=>?_) AllReadyH.nil
      go_simp
      refine (d8 dg _ (by omega)).mono ?_
      rintro e wr2 ⟨A10,n10,c10,rfl,o10,kr⟩
      have hn10:n10<=4:=fY o10 (by omega)
      have HB10:=hid (o10.toBits (aw aT _) (by omega))
      have HB9C:=hid (HB9B.out.keep0 kr)
      clear o10
      have K2:K0 w8 wr2:=ah.trans K1 kr
      clear kr K1
      try dsimp only
      go_wp2_with fail
      refine hK.out _ _ (HCC.out _ K2) (fun hHeld=>?_)
      clear hK K
      try dsimp only [List.getElem_toArray,List.getElem_cons_succ,List.getElem_cons_zero]
      try simp only [Act.put,List.setIfInBounds_toArray,List.set_cons_zero,List.set_cons_succ]
      refine wpAnyH_ready (rs:=[9]) (by kernel_rfl) (by simp) ?_
      refine AllReadyH.cons (o:=_) rfl (fun K hK=>?_) AllReadyH.nil
      go_simp
      refine (cD A9 n9 c9 _ A10 n10 c10 _ _ HB9C.out HB10.out (by omega) (by omega)).mono ?_
      rintro e wr3 ⟨A11,n11,c11,rfl,o11,kr⟩
      rw [gz HV8.out HV2.out] at o11
      have hn11:=o11.len
      have HN11:=hid hn11
      have HO11:=hid (aP.bits o11 (by rw [<- hn11];exact Nat.le_trans ((aM aT _ (1536+64)).2 HB11.out) (by omega)))
      clear o11 hn11
      have K3:K0 w8 wr3:=ah.trans K2 kr
      clear kr K2
      try dsimp only
      go_wp2_with fail
      refine hK.out _ _ (HCC.out _ K3) (fun hHeld=>?_)
      clear hK K
      refine wpAnyH_take (i:=10) (oi:=_) (v:=?_) rfl (by kernel_rfl) (by kernel_rfl) (by kernel_rfl) (fun _ _ _ h=>h) (Or.inl ⟨by rfl,?_⟩) (by assumption) ?_
      rotate_left
      ·(intro w hSw;(try dsimp only at hSw);go_simp)
       all_goals with_reducible rfl
      try dsimp only [List.getElem_toArray,List.getElem_cons_succ,List.getElem_cons_zero]
      try simp only [Act.put,List.setIfInBounds_toArray,List.set_cons_zero,List.set_cons_succ]
      refine wpAnyH_done (by kernel_rfl) ?_ _
      have KK:=K3
      clear K3
      have KX:=hid (HK8.out.trans KK)
      clear HCC KK
      by_cases hbig:1536<n11
      ·have tb:(1536:Int)<(n11:Int):=by omega
       have HNF:=hid (fu (k:=j+1) HXA.out (by rw [HNXT.out,HN11.out];exact hbig))
       obtain ⟨r0,r1,f0,f1⟩:=HRET.out _ (HS.out.K.trans KX.out)
       have HE:=hid (HSET.out _ (HS.out.K.trans KX.out) (.bool false) (.slice none 0 0))
       clear hbig
       try dsimp only
       go_wp2_with fail
       obtain ⟨⟨e0,e1⟩,kx⟩:=HE.out
       refine bodyPost_ret (v:=.tuple #[al false none 0 0,.int .i64 6]) (by simp [results,Tryz.results67,go_sem,e0,e1]) rfl ?_
       unfold cx
       rw [HALL.out]
       exact .inr ⟨HNF.out,rfl,kx⟩
      ·have tb:decide ((1536:Int)<(n11:Int))=false:=dF (by omega)
       have HNS:=hid (show mn w1 B0 (ak (bl.take (j+1))) A11 n11 c11 _ from ⟨KX.out.heap HS.out.r (by simp),by rw [HNXT.out];exact HO11.out,by omega,HS.out.K.trans KX.out⟩)
       clear hbig
       try dsimp only
       go_wp2_with fail
       go_roundw
       case rel=>exact ⟨q+1,j+1,_,_,_,by have:=HQ.out;omega,by omega,by go_num,rfl,HNS.out⟩
       case measure=>simp [intOf];omega
     ·obtain ⟨i5,h5,hz0,hz1,hz2⟩:=info_parts d7
      have K3:K0 wr (wr.alloc (.cells #[.int .u8 0,.int .u8 0,.int .u8 0] 5)):=kR.alloc _
      have HO3:=hid (eL wr)
      have HRR:=hid ((HS.out.o.row.keep0 K3).news)
      have HRL:=hid HS.out.o.len
      have HK3:=hid K3
      clear K3
      go_wp2_with (at_builtin;refine wpList_append_own _ rfl (.tmp 53) (.tmp 54) 70 rfl wr.heap.size 5 i5 (.int .u8 0) 1 1 Tryz.underlying70 h5 hz0 hz1 hz2 rfl (by decide) _ _ _ rfl HO3.out ad nb cb ((ai V).map fun x:Nat=>Value.int .u8 (x:Int)) rfl (by rw [List.length_map,HRL.out,Nat.mul_one]) HRR.out ?a1 ?a2 ?a3 ?a4 ?_)
      case a1=>
       intro u hu
       obtain ⟨z,_,rfl⟩:=List.mem_map.1 hu
       rfl
      case a2=>unfold maxLen;omega
      case a3=>omega
      case a4=>simp
      intro v8 w6 hown hgrow _
      have hown2:w6.ownsRow wr.heap.size 5 1 v8 (3+nb) ((List.replicate 3 0++ai V).map fun x:Nat=>Value.int .u8 (x:Int)):=hown
      obtain ⟨A8,c8,rfl,o8⟩:=cj hown2
      have K6:K0 wr w6:=HK3.out.into (ah.of_grown hgrow) (fun i hi=>Nat.le_of_eq (by simpa [Value.ownBlock] using hi.symm))
      have HO8:=hid (o8.toBits (gI 3 V) (by omega))
      have K7:K0 w6 (w6.alloc (.cells #[.int .u8 0] 5)):=kR.alloc _
      have HRR2:=hid ((HS.out.o.row.keep0 (K6.trans K7)).news)
      have HK6:=hid K6
      have HK7:=hid K7
      have HO1:=hid (gK w6 0)
      clear hown hown2 hgrow o8 K6 K7
      go_wp2_with (at_builtin;refine wpList_append_own _ rfl (.tmp 56) (.tmp 57) 70 rfl w6.heap.size 5 i5 (.int .u8 0) 1 1 Tryz.underlying70 h5 hz0 hz1 hz2 rfl (by decide) _ _ _ rfl HO1.out ad nb cb ((ai V).map fun x:Nat=>Value.int .u8 (x:Int)) rfl (by rw [List.length_map,HRL.out,Nat.mul_one]) HRR2.out ?a1 ?a2 ?a3 ?a4 ?_)
      case a1=>
       intro u hu
       obtain ⟨z,_,rfl⟩:=List.mem_map.1 hu
       rfl
      case a2=>unfold maxLen;omega
      case a3=>omega
      case a4=>simp
      intro v2 w8 hown hgrow _
      have hown2:w8.ownsRow w6.heap.size 5 1 v2 (1+nb) ((List.replicate 1 0++ai V).map fun x:Nat=>Value.int .u8 (x:Int)):=hown
      obtain ⟨A2,c2,rfl,o2⟩:=cj hown2
      have K8:K0 w6 w8:=HK7.out.into (ah.of_grown hgrow) (fun i hi=>Nat.le_of_eq (by simpa [Value.ownBlock] using hi.symm))
      have HE2:=hid (o2.toBits (gI 1 V) (by omega))
      have HE8:=hid (HO8.out.keep0 K8)
      have HK8:=hid (HK6.out.trans K8)
      have HR8:=hid ((HK6.out.trans K8).heap HS.out.r (by simp))
      have HV8:=hid (gG 3 V)
      have HV2:=hid (gG 1 V)
      clear hown hown2 hgrow o2 K8
      go_wp2_with fail
      have Kd:K0 w8 w8.drew:=kR.drew
      have HCC:=hid (fun (w':World) (K':K0 w8 w')=>(show w'.cell? ⟨B0,0,none⟩=some (.bool false) from by rw [cell_of_row w' _ _ _ _ _ (K'.heap HR8.out (by simp))];rfl))
      refine wp_region_held_drew (S:=fun w'=>w'.cell? ⟨B0,0,none⟩=some (.bool false)) (by kernel_rfl) (HCC.out _ Kd) (fun hHeld=>?_)
      refine wpAnyH_take (i:=0) (oi:=_) (v:=?_) rfl (by kernel_rfl) (by kernel_rfl) (by kernel_rfl) (fun _ _ _ h=>h) (Or.inl ⟨by rfl,?_⟩) (by assumption) ?_
      rotate_left
      ·(intro w hSw;(try dsimp only at hSw);go_simp)
       all_goals with_reducible rfl
      refine wpAnyH_take (i:=1) (oi:=_) (v:=?_) rfl (by kernel_rfl) (by kernel_rfl) (by kernel_rfl) (fun _ _ _ h=>h) (Or.inl ⟨by rfl,?_⟩) (by assumption) ?_
      rotate_left
      ·(intro w hSw;(try dsimp only at hSw);go_simp)
       all_goals with_reducible rfl
      try dsimp only [List.getElem_toArray,List.getElem_cons_succ,List.getElem_cons_zero]
      try simp only [Act.put,List.setIfInBounds_toArray,List.set_cons_zero,List.set_cons_succ]
      refine wpAnyH_take (i:=3) (oi:=_) (v:=?_) rfl (by kernel_rfl) (by kernel_rfl) (by kernel_rfl) (fun _ _ _ h=>h) (Or.inl ⟨by rfl,?_⟩) (by assumption) ?_
      rotate_left
      ·(intro w hSw;(try dsimp only at hSw);go_simp)
       all_goals with_reducible rfl
      refine wpAnyH_take (i:=4) (oi:=_) (v:=?_) rfl (by kernel_rfl) (by kernel_rfl) (by kernel_rfl) (fun _ _ _ h=>h) (Or.inl ⟨by rfl,?_⟩) (by assumption) ?_
      rotate_left
      ·(intro w hSw;(try dsimp only at hSw);go_simp)
       all_goals with_reducible rfl
      try dsimp only [List.getElem_toArray,List.getElem_cons_succ,List.getElem_cons_zero]
      try simp only [Act.put,List.setIfInBounds_toArray,List.set_cons_zero,List.set_cons_succ]
      refine wpAnyH_take (i:=5) (oi:=_) (v:=?_) rfl (by kernel_rfl) (by kernel_rfl) (by kernel_rfl) (fun _ _ _ h=>h) (Or.inl ⟨by rfl,?_⟩) (by assumption) ?_
      rotate_left
      ·(intro w hSw;(try dsimp only at hSw);go_simp)
       all_goals with_reducible rfl
      refine wpAnyH_take (i:=6) (oi:=_) (v:=?_) rfl (by kernel_rfl) (by kernel_rfl) (by kernel_rfl) (fun _ _ _ h=>h) (Or.inl ⟨by rfl,?_⟩) (by assumption) ?_
      rotate_left
      ·(intro w hSw;(try dsimp only at hSw);go_simp)
       all_goals with_reducible rfl
      try dsimp only [List.getElem_toArray,List.getElem_cons_succ,List.getElem_cons_zero]
      try simp only [Act.put,List.setIfInBounds_toArray,List.set_cons_zero,List.set_cons_succ]
      refine wpAnyH_take (i:=7) (oi:=_) (v:=?_) rfl (by kernel_rfl) (by kernel_rfl) (by kernel_rfl) (fun _ _ _ h=>h) (Or.inl ⟨by rfl,?_⟩) (by assumption) ?_
      rotate_left
      ·(intro w hSw;(try dsimp only at hSw);go_simp)
       all_goals with_reducible rfl
      try dsimp only [List.getElem_toArray,List.getElem_cons_succ,List.getElem_cons_zero]
      try simp only [Act.put,List.setIfInBounds_toArray,List.set_cons_zero,List.set_cons_succ]
      refine wpAnyH_ready (rs:=[2]) (by kernel_rfl) (by simp) ?_
      refine AllReadyH.cons (o:=_) rfl (fun K hK=>?_) AllReadyH.nil
      go_simp
      refine (cD A8 (3+nb) c8 _ A2 (1+nb) c2 _ _ (HE8.out.keep0 Kd) (HE2.out.keep0 Kd) (by omega) (by omega)).mono ?_
      rintro e wr1 ⟨A9,n9,c9,rfl,o9,kr⟩
      have hn9:n9<=1545:=fY (m:=1536+9) o9 (by rw [HV8.out,HV2.out];exact HB9.out)
      have HB9B:=hid (o9.toBits (aw aT _) (by omega))
      clear o9
      have K1:K0 w8 wr1:=ah.trans Kd kr
      clear kr
      try dsimp only
      go_wp2_with fail
      refine hK.out _ _ (HCC.out _ K1) (fun hHeld=>?_)
      clear hK K
      try dsimp only [List.getElem_toArray,List.getElem_cons_succ,List.getElem_cons_zero]
      try simp only [Act.put,List.setIfInBounds_toArray,List.set_cons_zero,List.set_cons_succ]
      refine wpAnyH_ready (rs:=[8]) (by kernel_rfl) (by simp) ?_
      refine AllReadyH.cons (o:=_) rfl (fun K hK=>?_) AllReadyH.nil
      go_simp
      refine (d8 dg _ (by omega)).mono ?_
      rintro e wr2 ⟨A10,n10,c10,rfl,o10,kr⟩
      have hn10:n10<=4:=fY o10 (by omega)
      have HB10:=hid (o10.toBits (aw aT _) (by omega))
      have HB9C:=hid (HB9B.out.keep0 kr)
      clear o10
      have K2:K0 w8 wr2:=ah.trans K1 kr
      clear kr K1
      try dsimp only
      go_wp2_with fail
      refine hK.out _ _ (HCC.out _ K2) (fun hHeld=>?_)
      clear hK K
      try dsimp only [List.getElem_toArray,List.getElem_cons_succ,List.getElem_cons_zero]
      try simp only [Act.put,List.setIfInBounds_toArray,List.set_cons_zero,List.set_cons_succ]
      refine wpAnyH_ready (rs:=[9]) (by kernel_rfl) (by simp) ?_
      refine AllReadyH.cons (o:=_) rfl (fun K hK=>?_) AllReadyH.nil
      go_simp
      refine (cD A9 n9 c9 _ A10 n10 c10 _ _ HB9C.out HB10.out (by omega) (by omega)).mono ?_
      rintro e wr3 ⟨A11,n11,c11,rfl,o11,kr⟩
      rw [gz HV8.out HV2.out] at o11
      have hn11:=o11.len
      have HN11:=hid hn11
      have HO11:=hid (aP.bits o11 (by rw [<- hn11];exact Nat.le_trans ((aM aT _ (1536+64)).2 HB11.out) (by omega)))
      clear o11 hn11
      have K3:K0 w8 wr3:=ah.trans K2 kr
      clear kr K2
      try dsimp only
      go_wp2_with fail
      refine hK.out _ _ (HCC.out _ K3) (fun hHeld=>?_)
      clear hK K
      refine wpAnyH_take (i:=10) (oi:=_) (v:=?_) rfl (by kernel_rfl) (by kernel_rfl) (by kernel_rfl) (fun _ _ _ h=>h) (Or.inl ⟨by rfl,?_⟩) (by assumption) ?_
      rotate_left
      ·(intro w hSw;(try dsimp only at hSw);go_simp)
       all_goals with_reducible rfl
      try dsimp only [List.getElem_toArray,List.getElem_cons_succ,List.getElem_cons_zero]
      try simp only [Act.put,List.setIfInBounds_toArray,List.set_cons_zero,List.set_cons_succ]
      refine wpAnyH_done (by kernel_rfl) ?_ _
      have KK:=K3
      clear K3
      have KX:=hid (HK8.out.trans KK)
      clear HCC KK
      by_cases hbig:1536<n11
      ·have tb:(1536:Int)<(n11:Int):=by omega
       have HNF:=hid (fu (k:=j+1) HXA.out (by rw [HNXT.out,HN11.out];exact hbig))
       obtain ⟨r0,r1,f0,f1⟩:=HRET.out _ (HS.out.K.trans KX.out)
       have HE:=hid (HSET.out _ (HS.out.K.trans KX.out) (.bool false) (.slice none 0 0))
       clear hbig
       try dsimp only
       go_wp2_with fail
       obtain ⟨⟨e0,e1⟩,kx⟩:=HE.out
       refine bodyPost_ret (v:=.tuple #[al false none 0 0,.int .i64 6]) (by simp [results,Tryz.results67,go_sem,e0,e1]) rfl ?_
       unfold cx
       rw [HALL.out]
       exact .inr ⟨HNF.out,rfl,kx⟩
      ·have tb:decide ((1536:Int)<(n11:Int))=false:=dF (by omega)
       have HNS:=hid (show mn w1 B0 (ak (bl.take (j+1))) A11 n11 c11 _ from ⟨KX.out.heap HS.out.r (by simp),by rw [HNXT.out];exact HO11.out,by omega,HS.out.K.trans KX.out⟩)
       clear hbig
       try dsimp only
       go_wp2_with fail
       go_roundw
       case rel=>exact ⟨q+1,j+1,_,_,_,by have:=HQ.out;omega,by omega,by go_num,rfl,HNS.out⟩
       case measure=>simp [intOf];omega
    ·have j1:decide ((q:Int)<(s.size:Int))=false:=dF (by omega)
     have hvd:V=ak bl:=by rw [HVV.out,List.take_of_length_le (by rw [HBN.out];omega)]
     clear hq
     obtain ⟨z,hz⟩:∃ z,z=decide (x<0):=⟨_,rfl⟩
     have HVA:=hid (lJ (z:=z) (neg:=false) HS.out.o (by rw [hvd,HXS.out];exact hz))
     have HZ:=hid hz
     have HVD:=hid hvd
     have b45:((d0:Int) == 45)=false:=HB45.out
     clear hz hvd
     go_wp2_with fail
     refine HVA.out.mono ?_
     rintro e w9 ⟨n9,rfl,b9,k9⟩
     obtain ⟨r0,r1,f0,f1⟩:=HRET.out _ (HS.out.K.trans k9)
     have HE:=hid (HSET.out _ (HS.out.K.trans k9) (.bool z) (.slice P n9 cb))
     have hb9:=(HS.out.K.trans k9).heap HB.out (by simp)
     have KS:ah (fun b=>b=B0) w9 ((w9.setCell ⟨B0,0,none⟩ (.bool z)).setCell ⟨B0,1,none⟩ (.slice P n9 cb)):=((ah.refl (fun b=>b=B0) w9).setCell (p:=⟨B0,0,none⟩) (.inl rfl) (.bool z)).setCell (p:=⟨B0,1,none⟩) (.inl rfl) (.slice P n9 cb)
     have HB9:=hid (show bg ((w9.setCell ⟨B0,0,none⟩ (.bool z)).setCell ⟨B0,1,none⟩ (.slice P n9 cb)) P n9 cb (ai x.natAbs) from by
      rw [HXA.out,<- HVD.out]
      exact ⟨b9.row.keep KS (lS b9.row hb9 (by intro q x e;cases e)),b9.low,b9.cap,b9.max⟩)
     have HFT:=hid (show dG x from by rw [fG,HXA.out,<- HVD.out,HS.out.o.len];exact hnb)
     clear b9 k9 hb9 KS HVA b45
     try dsimp only
     go_wp2_with fail
     obtain ⟨⟨e0,e1⟩,kx⟩:=HE.out
     refine bodyPost_ret (v:=.tuple #[al z P n9 cb,.int .i64 0]) (by simp [results,Tryz.results67,go_sem,e0,e1]) rfl ?_
     unfold cx
     rw [HALL.out]
     exact .inl ⟨HFT.out,P,n9,cb,by rw [<- HZ.out],HB9.out,kx⟩
theorem mV (s:ByteArray) (w:World) (hs:s.size<=1000000) (h0:0<s.size) (hd0:(s.data.toList.getD 0 0).toNat ≠ 45) (hd1:(s.data.toList.getD 0 0).toNat ≠ 43):Calls Tryz.prog 67 #[.string s] w (cx s.data.toList w):=by
 have hlen:s.data.toList.length=s.size:=(Lib.size_eq s).symm
 have p45:=gH s.data.toList 45
 have p43:=gH s.data.toList 43
 rw [hlen] at p45 p43
 have q45:Lib.hasPrefix s.data.toList [45]=false:=by rw [p45];exact dF (by rintro ⟨_,h⟩;rw [show (45:UInt8).toNat=45 from rfl] at h;omega)
 have q43:Lib.hasPrefix s.data.toList [43]=false:=by rw [p43];exact dF (by rintro ⟨_,h⟩;rw [show (43:UInt8).toNat=43 from rfl] at h;omega)
 obtain ⟨bl,hbl⟩:∃ l,l=aZ s.data.toList:=⟨_,rfl⟩
 have hbl2:bl=s.data.toList.drop 0:=by rw [hbl];unfold aZ ip;rw [q45,q43];rfl
 have hbn:bl.length=s.size - 0:=by rw [hbl2,List.length_drop,hlen]
 have hbd:∀ j,j<bl.length->(s.data.toList.getD (0+j) 0).toNat=(bl.getD j 0).toNat:=by
  intro j hj
  rw [hbl2,gD,gD,List.getElem?_drop]
 have hpv:aJ s.data.toList=if bl=[]\/bl.all eC=false then none else some (if false=true then -(ak bl:Int) else (ak bl:Int)):=by unfold aJ;rw [<- hbl,q45]
 have HPV:=hid hpv
 have HBD:=hid hbd
 have HBN:=hid hbn
 obtain ⟨d0,hdd⟩:∃ d,d=(s.data.toList.getD 0 0).toNat:=⟨_,rfl⟩
 have hix0:∀ W:World,(Instr.index 9 (.string s) (.int .i64 0)).run Tryz.prog W=.ok (.int .u8 (d0:Int)) W:=fun W=>ei s 0 h0 d0 hdd W
 have b45:((d0:Int) == 45)=false:=by rw [hdd];rw [bF];omega
 have b43:((d0:Int) == 43)=false:=by rw [hdd];rw [bF];omega
 have hpos:(0:Int)<(s.size:Int):=by omega
 have HB45:=hid b45
 clear p45 p43 q45 q43 hbl hbl2 hbn hbd hpv hd0 hlen hd1
 have K:K0 w (w.alloc (.cells #[.bool false,.slice none 0 0] 90)):=kR.alloc _
 have hb:(w.alloc (.cells #[.bool false,.slice none 0 0] 90)).heap[w.heap.size]? = some (.cells #[.bool false,.slice none 0 0] 90 (0,0)):=hN w _
 have HK:=hid K
 have HB:=hid hb
 have HDD:=hid hdd
 clear K hb hdd
 go_enter Tryz.func67,Tryz.ntmps67
 go_wp2_with fail
 clear hpos b45 b43
 generalize hB0:w.heap.size=B0 at HB ⊢
 have HSZ:=hid (Nat.le_of_eq hB0)
 clear hB0
 generalize w.alloc (.cells #[.bool false,.slice none 0 0] 90)=w1 at HB HK ⊢
 have HRET:=hid (fun (w9:World) (K9:K0 w1 w9)=>(show w9.cell? ⟨B0,0,none⟩=some (.bool false)/\w9.cell? ⟨B0,1,none⟩=some (.slice none 0 0)/\w9.frozen? ⟨B0,0,none⟩=false/\w9.frozen? ⟨B0,1,none⟩=false from by
  have hb9:=K9.heap HB.out (by simp)
  exact ⟨by rw [cell_of_row w9 _ _ _ _ _ hb9];rfl,by rw [cell_of_row w9 _ _ _ _ _ hb9];rfl,by simp [World.frozen?,hb9],by simp [World.frozen?,hb9]⟩))
 have HSET:=hid (fun (w9:World) (K9:K0 w1 w9) (a b:Value)=>And.intro (bD (K9.heap HB.out (by simp)) a b) (cu (HK.out.trans K9) (show w.heap.size<=B0 from HSZ.out) a b))
 go_loop [5] (fun iv=>∃ i:Nat,0<=i/\i<=s.size/\iv=.int .i64 (i:Int) /\ ∀ j,0<=j->j<i->48<=(s.data.toList.getD j 0).toNat/\(s.data.toList.getD j 0).toNat<=57) (fun iv=>s.size - (intOf iv).toNat)
 case atStart=>exact ⟨0,Nat.le_refl _,by omega,rfl,fun j h1 h2=>by omega⟩
 case round=>
  obtain ⟨i,hk,hi,rfl,hj⟩:=hrel
  have HJ:=hid hj
  clear hj
  by_cases hin:i<s.size
  ·have i1:(i:Int)<(s.size:Int):=by omega
   obtain ⟨d,hd⟩:∃ d,d=(s.data.toList.getD i 0).toNat:=⟨_,rfl⟩
   have hix:∀ W:World,(Instr.index 9 (.string s) (.int .i64 (i:Int))).run Tryz.prog W=.ok (.int .u8 (d:Int)) W:=fun W=>ei s i hin d hd W
   have HD:=hid hd
   obtain ⟨r0,r1,f0,f1⟩:=HRET.out _ kR
   have HE:=hid (HSET.out _ kR (.bool false) (.slice none 0 0))
   have HNOX:=hid (fun (h:d<48\/57<d)=>(show aJ s.data.toList=none from by
    rw [HPV.out]
    refine if_pos (.inr ?_)
    rw [List.all_eq_false]
    have hb1:=HBD.out (i - 0) (by rw [HBN.out];omega)
    rw [show 0+(i - 0)=i from by omega,<- HD.out] at hb1
    have hlt:i - 0<bl.length:=by rw [HBN.out];omega
    rw [gD,gE hlt] at hb1
    refine ⟨bl[i - 0],List.getElem_mem _,?_⟩
    intro hdig
    have:=(cI _).1 hdig
    simp only [Option.getD_some] at hb1
    omega))
   clear hd
   rcases (by omega:d<48\/(57<d/\¬ d<48)\/(¬ d<48/\¬ 57<d)) with hc | ⟨hc,hc2⟩ | ⟨hc,hc2⟩
   ·have t1:(d:Int)<48:=by omega
    have HNO:=hid (HNOX.out (.inl hc))
    clear hc HNOX
    go_wp2_with fail
    obtain ⟨⟨e0,e1⟩,kx⟩:=HE.out
    refine bodyPost_ret (v:=.tuple #[al false none 0 0,.int .i64 9]) (by simp [results,Tryz.results67,go_sem,e0,e1]) rfl ?_
    unfold cx
    rw [HNO.out]
    exact ⟨rfl,kx⟩
   ·have t1:decide ((d:Int)<48)=false:=dF (by omega)
    have t3:(57:Int)<(d:Int):=by omega
    have HNO:=hid (HNOX.out (.inr hc))
    clear hc hc2 HNOX
    go_wp2_with fail
    obtain ⟨⟨e0,e1⟩,kx⟩:=HE.out
    refine bodyPost_ret (v:=.tuple #[al false none 0 0,.int .i64 9]) (by simp [results,Tryz.results67,go_sem,e0,e1]) rfl ?_
    unfold cx
    rw [HNO.out]
    exact ⟨rfl,kx⟩
   ·have t1:decide ((d:Int)<48)=false:=dF (by omega)
    have t3:decide ((57:Int)<(d:Int))=false:=dF (by omega)
    have HC:=hid (And.intro hc hc2)
    clear hc hc2 HNOX
    go_wp2_with fail
    go_round
    case rel=>exact ⟨i+1,by omega,by omega,by go_num,fun j h1 h2=>by
     by_cases e:j=i
     ·rw [e,<- HD.out];have:=HC.out;omega
     ·exact HJ.out j h1 (by omega)⟩
    case measure=>simp [intOf];omega
  ·have i1:decide ((i:Int)<(s.size:Int))=false:=dF (by omega)
   obtain rfl:i=s.size:=by omega
   have hone:s.size ≠ 0:=by omega
   have t2:((0:Int) == (s.size:Int))=false:=by rw [bF];omega
   have HALL:=hid (show aJ s.data.toList=some (if false=true then -(ak bl:Int) else (ak bl:Int)) from by
    rw [HPV.out]
    refine if_neg ?_
    rintro (h | h)
    ·have:=HBN.out;rw [h] at this;simp at this;omega
    ·rw [List.all_eq_false] at h
     obtain ⟨b,hb,hd⟩:=h
     obtain ⟨j,hj,rfl⟩:=List.getElem_of_mem hb
     apply hd
     have hb1:=HBD.out j hj
     rw [gD (l:=bl),gE hj] at hb1
     have:=HJ.out (0+j) (by omega) (by rw [HBN.out] at hj;omega)
     simp only [Option.getD_some] at hb1
     rw [hb1] at this
     exact (cI _).2 this)
   obtain ⟨x,hx⟩:∃ x:Int,x=(if false=true then -(ak bl:Int) else (ak bl:Int)):=⟨_,rfl⟩
   rw [<- hx] at HALL
   have HXA:=hid (show x.natAbs=ak bl from by rw [hx];simp)
   have HXS:=hid (show sgn false (ak bl)=x from by rw [hx];rfl)
   clear hx hone
   go_wp2_with fail
   clear t2 i1
   go_loopw [6,7,8,9] (fun bv iv _ _ wr=>∃ (q j:Nat) (P:Option Addr) (nb cb:Nat),q=0+j/\q<=s.size/\iv=.int .i64 (q:Int)/\bv=.slice P nb cb/\mn w1 B0 (ak (bl.take j)) P nb cb wr) (fun _ iv _ _ _=>s.size - (intOf iv).toNat)
   case atStart=>exact ⟨0,0,none,0,0,rfl,by omega,rfl,rfl,HB.out,by rw [List.take_zero,show ak []=0 from rfl];unfold ai;rw [bi];exact ⟨cT.nil _ _ _,Low.nil 2,Nat.le_refl _,by omega⟩,by omega,kR⟩
   case round=>
    obtain ⟨q,j,P,nb,cb,hq,hjl,rfl,rfl,st⟩:=hrel
    have HS:=hid st
    have hnb:=st.n
    clear st
    obtain ⟨V,hV⟩:∃ V,V=ak (bl.take j):=⟨_,rfl⟩
    rw [<- hV] at HS
    have HVV:=hid hV
    clear hV
    by_cases hin:q<s.size
    ·have j1:(q:Int)<(s.size:Int):=by omega
     obtain ⟨d,hd⟩:∃ d,d=(s.data.toList.getD q 0).toNat:=⟨_,rfl⟩
     have hix:∀ W:World,(Instr.index 9 (.string s) (.int .i64 (q:Int))).run Tryz.prog W=.ok (.int .u8 (d:Int)) W:=fun W=>ei s q hin d hd W
     have hdd:=HJ.out q (by omega) hin
     rw [<- hd] at hdd
     obtain ⟨dg,hdg⟩:∃ g,g=d - 48:=⟨_,rfl⟩
     have hw1:IntKind.u8.wrap (dg:Int)=(dg:Int):=by rw [IntKind.wrap_u8];omega
     have hw2:IntKind.i64.wrap (dg:Int)=(dg:Int):=by rw [IntKind.wrap_i64];omega
     have hw3:(d:Int) - 48=(dg:Int):=by omega
     have hdg9:dg<=9:=by omega
     have HNXT:=hid (show ak (bl.take (j+1))=10 * V+dg from by
      have hjb:j<bl.length:=by rw [HBN.out];omega
      rw [cR bl j hjb,<- HVV.out,hdg,hd,hq,HBD.out j hjb,gD,gE hjb]
      rfl)
     have HQ:=hid hq
     clear hd hdg hq
     have HB9:=hid (pz (V:=V) rfl (by rw [HS.out.o.len];exact hnb))
     have HB11:=hid (mg (V:=V) (dg:=dg) rfl (by rw [HS.out.o.len];exact hnb) hdg9)
     rcases P with _ | ad
     ·obtain ⟨hn0,hl0⟩:=HS.out.o.nil_of
      subst hn0
      have hv0:V=0:=ez aT hl0
      have HE8:=hid ((eL wr).toBits (by intro x hx;simp at hx;omega) (by omega))
      have K3:K0 wr (wr.alloc (.cells #[.int .u8 0,.int .u8 0,.int .u8 0] 5)):=kR.alloc _
      have K4:K0 (wr.alloc (.cells #[.int .u8 0,.int .u8 0,.int .u8 0] 5)) ((wr.alloc (.cells #[.int .u8 0,.int .u8 0,.int .u8 0] 5)).alloc (.cells #[.int .u8 0] 5)):=kR.alloc _
      have HE8:=hid (HE8.out.keep0 K4)
      have o2:=(rh (wr.alloc (.cells #[.int .u8 0,.int .u8 0,.int .u8 0] 5))).toBits (by intro x hx;simp at hx;omega) (by omega)
      rw [World.size_alloc] at o2
      have HE2:=hid o2
      have HK8:=hid (K3.trans K4)
      have HR8:=hid ((K3.trans K4).heap HS.out.r (by simp))
      have HV8:=hid (show bB [0,0,0]=8 * V from by rw [hv0];rfl)
      have HV2:=hid (show bB [0]=2 * V from by rw [hv0];rfl)
      clear hl0 hv0 K3 K4 o2
      go_wp2_with fail
      generalize hA8:(some ⟨wr.heap.size,0,none⟩:Option Addr)=A8 at HE8 ⊢
      generalize hA2:(some ⟨wr.heap.size+1,0,none⟩:Option Addr)=A2 at HE2 ⊢
      generalize (wr.alloc (.cells #[.int .u8 0,.int .u8 0,.int .u8 0] 5)).alloc (.cells #[.int .u8 0] 5)=w8 at HE8 HE2 HK8 HR8 ⊢
      clear hA8 hA2
      have Kd:K0 w8 w8.drew:=kR.drew
      have HCC:=hid (fun (w':World) (K':K0 w8 w')=>(show w'.cell? ⟨B0,0,none⟩=some (.bool false) from by rw [cell_of_row w' _ _ _ _ _ (K'.heap HR8.out (by simp))];rfl))
      refine wp_region_held_drew (S:=fun w'=>w'.cell? ⟨B0,0,none⟩=some (.bool false)) (by kernel_rfl) (HCC.out _ Kd) (fun hHeld=>?_)
      refine wpAnyH_take (i:=0) (oi:=_) (v:=?_) rfl (by kernel_rfl) (by kernel_rfl) (by kernel_rfl) (fun _ _ _ h=>h) (Or.inl ⟨by rfl,?_⟩) (by assumption) ?_
      rotate_left
      ·(intro w hSw;(try dsimp only at hSw);go_simp)
       all_goals with_reducible rfl
      refine wpAnyH_take (i:=1) (oi:=_) (v:=?_) rfl (by kernel_rfl) (by kernel_rfl) (by kernel_rfl) (fun _ _ _ h=>h) (Or.inl ⟨by rfl,?_⟩) (by assumption) ?_
      rotate_left
      ·(intro w hSw;(try dsimp only at hSw);go_simp)
       all_goals with_reducible rfl
      try dsimp only [List.getElem_toArray,List.getElem_cons_succ,List.getElem_cons_zero]
      try simp only [Act.put,List.setIfInBounds_toArray,List.set_cons_zero,List.set_cons_succ]
      refine wpAnyH_take (i:=3) (oi:=_) (v:=?_) rfl (by kernel_rfl) (by kernel_rfl) (by kernel_rfl) (fun _ _ _ h=>h) (Or.inl ⟨by rfl,?_⟩) (by assumption) ?_
      rotate_left
      ·(intro w hSw;(try dsimp only at hSw);go_simp)
       all_goals with_reducible rfl
      refine wpAnyH_take (i:=4) (oi:=_) (v:=?_) rfl (by kernel_rfl) (by kernel_rfl) (by kernel_rfl) (fun _ _ _ h=>h) (Or.inl ⟨by rfl,?_⟩) (by assumption) ?_
      rotate_left
      ·(intro w hSw;(try dsimp only at hSw);go_simp)
       all_goals with_reducible rfl
      try dsimp only [List.getElem_toArray,List.getElem_cons_succ,List.getElem_cons_zero]
      try simp only [Act.put,List.setIfInBounds_toArray,List.set_cons_zero,List.set_cons_succ]
      refine wpAnyH_take (i:=5) (oi:=_) (v:=?_) rfl (by kernel_rfl) (by kernel_rfl) (by kernel_rfl) (fun _ _ _ h=>h) (Or.inl ⟨by rfl,?_⟩) (by assumption) ?_
      rotate_left
      ·(intro w hSw;(try dsimp only at hSw);go_simp)
       all_goals with_reducible rfl
      refine wpAnyH_take (i:=6) (oi:=_) (v:=?_) rfl (by kernel_rfl) (by kernel_rfl) (by kernel_rfl) (fun _ _ _ h=>h) (Or.inl ⟨by rfl,?_⟩) (by assumption) ?_
      rotate_left
      ·(intro w hSw;(try dsimp only at hSw);go_simp)
       all_goals with_reducible rfl
      try dsimp only [List.getElem_toArray,List.getElem_cons_succ,List.getElem_cons_zero]
      try simp only [Act.put,List.setIfInBounds_toArray,List.set_cons_zero,List.set_cons_succ]
      refine wpAnyH_take (i:=7) (oi:=_) (v:=?_) rfl (by kernel_rfl) (by kernel_rfl) (by kernel_rfl) (fun _ _ _ h=>h) (Or.inl ⟨by rfl,?_⟩) (by assumption) ?_
      rotate_left
      ·(intro w hSw;(try dsimp only at hSw);go_simp)
       all_goals with_reducible rfl
      try dsimp only [List.getElem_toArray,List.getElem_cons_succ,List.getElem_cons_zero]
      try simp only [Act.put,List.setIfInBounds_toArray,List.set_cons_zero,List.set_cons_succ]
      refine wpAnyH_ready (rs:=[2]) (by kernel_rfl) (by simp) ?_
      refine AllReadyH.cons (o:=_) rfl (fun K hK=>?_) AllReadyH.nil
      go_simp
      refine (cD A8 3 3 _ A2 1 1 _ _ (HE8.out.keep0 Kd) (HE2.out.keep0 Kd) (by omega) (by omega)).mono ?_
      rintro e wr1 ⟨A9,n9,c9,rfl,o9,kr⟩
      have hn9:n9<=1545:=fY (m:=1536+9) o9 (by rw [HV8.out,HV2.out];exact HB9.out)
      have HB9B:=hid (o9.toBits (aw aT _) (by omega))
      clear o9
      have K1:K0 w8 wr1:=ah.trans Kd kr
      clear kr
      try dsimp only
      go_wp2_with fail
      refine hK.out _ _ (HCC.out _ K1) (fun hHeld=>?_)
      clear hK K
      try dsimp only [List.getElem_toArray,List.getElem_cons_succ,List.getElem_cons_zero]
      try simp only [Act.put,List.setIfInBounds_toArray,List.set_cons_zero,List.set_cons_succ]
      refine wpAnyH_ready (rs:=[8]) (by kernel_rfl) (by simp) ?_
      refine AllReadyH.cons (o:=_) rfl (fun K hK=>?_) AllReadyH.nil
      go_simp
      refine (d8 dg _ (by omega)).mono ?_
      rintro e wr2 ⟨A10,n10,c10,rfl,o10,kr⟩
      have hn10:n10<=4:=fY o10 (by omega)
      have HB10:=hid (o10.toBits (aw aT _) (by omega))
      have HB9C:=hid (HB9B.out.keep0 kr)
      clear o10
      have K2:K0 w8 wr2:=ah.trans K1 kr
      clear kr K1
      try dsimp only
      go_wp2_with fail
      refine hK.out _ _ (HCC.out _ K2) (fun hHeld=>?_)
      clear hK K
      try dsimp only [List.getElem_toArray,List.getElem_cons_succ,List.getElem_cons_zero]
      try simp only [Act.put,List.setIfInBounds_toArray,List.set_cons_zero,List.set_cons_succ]
      refine wpAnyH_ready (rs:=[9]) (by kernel_rfl) (by simp) ?_
      refine AllReadyH.cons (o:=_) rfl (fun K hK=>?_) AllReadyH.nil
      go_simp
      refine (cD A9 n9 c9 _ A10 n10 c10 _ _ HB9C.out HB10.out (by omega) (by omega)).mono ?_
      rintro e wr3 ⟨A11,n11,c11,rfl,o11,kr⟩
      rw [gz HV8.out HV2.out] at o11
      have hn11:=o11.len
      have HN11:=hid hn11
      have HO11:=hid (aP.bits o11 (by rw [<- hn11];exact Nat.le_trans ((aM aT _ (1536+64)).2 HB11.out) (by omega)))
      clear o11 hn11
      have K3:K0 w8 wr3:=ah.trans K2 kr
      clear kr K2
      try dsimp only
      go_wp2_with fail
      refine hK.out _ _ (HCC.out _ K3) (fun hHeld=>?_)
      clear hK K
      refine wpAnyH_take (i:=10) (oi:=_) (v:=?_) rfl (by kernel_rfl) (by kernel_rfl) (by kernel_rfl) (fun _ _ _ h=>h) (Or.inl ⟨by rfl,?_⟩) (by assumption) ?_
      rotate_left
      ·(intro w hSw;(try dsimp only at hSw);go_simp)
       all_goals with_reducible rfl
      try dsimp only [List.getElem_toArray,List.getElem_cons_succ,List.getElem_cons_zero]
      try simp only [Act.put,List.setIfInBounds_toArray,List.set_cons_zero,List.set_cons_succ]
      refine wpAnyH_done (by kernel_rfl) ?_ _
      have KK:=K3
      clear K3
      have KX:=hid (HK8.out.trans KK)
      clear HCC KK
      by_cases hbig:1536<n11
      ·have tb:(1536:Int)<(n11:Int):=by omega
       have HNF:=hid (fu (k:=j+1) HXA.out (by rw [HNXT.out,HN11.out];exact hbig))
       obtain ⟨r0,r1,f0,f1⟩:=HRET.out _ (HS.out.K.trans KX.out)
       have HE:=hid (HSET.out _ (HS.out.K.trans KX.out) (.bool false) (.slice none 0 0))
       clear hbig
       try dsimp only
       go_wp2_with fail
       obtain ⟨⟨e0,e1⟩,kx⟩:=HE.out
       refine bodyPost_ret (v:=.tuple #[al false none 0 0,.int .i64 6]) (by simp [results,Tryz.results67,go_sem,e0,e1]) rfl ?_
       unfold cx
       rw [HALL.out]
       exact .inr ⟨HNF.out,rfl,kx⟩
      ·have tb:decide ((1536:Int)<(n11:Int))=false:=dF (by omega)
       have HNS:=hid (show mn w1 B0 (ak (bl.take (j+1))) A11 n11 c11 _ from ⟨KX.out.heap HS.out.r (by simp),by rw [HNXT.out];exact HO11.out,by omega,HS.out.K.trans KX.out⟩)
       clear hbig
       try dsimp only
       go_wp2_with fail
       go_roundw
       case rel=>exact ⟨q+1,j+1,_,_,_,by have:=HQ.out;omega,by omega,by go_num,rfl,HNS.out⟩
       case measure=>simp [intOf];omega
     ·obtain ⟨i5,h5,hz0,hz1,hz2⟩:=info_parts d7
      have K3:K0 wr (wr.alloc (.cells #[.int .u8 0,.int .u8 0,.int .u8 0] 5)):=kR.alloc _
      have HO3:=hid (eL wr)
      have HRR:=hid ((HS.out.o.row.keep0 K3).news)
      have HRL:=hid HS.out.o.len
      have HK3:=hid K3
      clear K3
      go_wp2_with (at_builtin;refine wpList_append_own _ rfl (.tmp 53) (.tmp 54) 70 rfl wr.heap.size 5 i5 (.int .u8 0) 1 1 Tryz.underlying70 h5 hz0 hz1 hz2 rfl (by decide) _ _ _ rfl HO3.out ad nb cb ((ai V).map fun x:Nat=>Value.int .u8 (x:Int)) rfl (by rw [List.length_map,HRL.out,Nat.mul_one]) HRR.out ?a1 ?a2 ?a3 ?a4 ?_)
      case a1=>
       intro u hu
       obtain ⟨z,_,rfl⟩:=List.mem_map.1 hu
       rfl
      case a2=>unfold maxLen;omega
      case a3=>omega
      case a4=>simp
      intro v8 w6 hown hgrow _
      have hown2:w6.ownsRow wr.heap.size 5 1 v8 (3+nb) ((List.replicate 3 0++ai V).map fun x:Nat=>Value.int .u8 (x:Int)):=hown
      obtain ⟨A8,c8,rfl,o8⟩:=cj hown2
      have K6:K0 wr w6:=HK3.out.into (ah.of_grown hgrow) (fun i hi=>Nat.le_of_eq (by simpa [Value.ownBlock] using hi.symm))
      have HO8:=hid (o8.toBits (gI 3 V) (by omega))
      have K7:K0 w6 (w6.alloc (.cells #[.int .u8 0] 5)):=kR.alloc _
      have HRR2:=hid ((HS.out.o.row.keep0 (K6.trans K7)).news)
      have HK6:=hid K6
      have HK7:=hid K7
      have HO1:=hid (gK w6 0)
      clear hown hown2 hgrow o8 K6 K7
      go_wp2_with (at_builtin;refine wpList_append_own _ rfl (.tmp 56) (.tmp 57) 70 rfl w6.heap.size 5 i5 (.int .u8 0) 1 1 Tryz.underlying70 h5 hz0 hz1 hz2 rfl (by decide) _ _ _ rfl HO1.out ad nb cb ((ai V).map fun x:Nat=>Value.int .u8 (x:Int)) rfl (by rw [List.length_map,HRL.out,Nat.mul_one]) HRR2.out ?a1 ?a2 ?a3 ?a4 ?_)
      case a1=>
       intro u hu
       obtain ⟨z,_,rfl⟩:=List.mem_map.1 hu
       rfl
      case a2=>unfold maxLen;omega
      case a3=>omega
      case a4=>simp
      intro v2 w8 hown hgrow _
      have hown2:w8.ownsRow w6.heap.size 5 1 v2 (1+nb) ((List.replicate 1 0++ai V).map fun x:Nat=>Value.int .u8 (x:Int)):=hown
      obtain ⟨A2,c2,rfl,o2⟩:=cj hown2
      have K8:K0 w6 w8:=HK7.out.into (ah.of_grown hgrow) (fun i hi=>Nat.le_of_eq (by simpa [Value.ownBlock] using hi.symm))
      have HE2:=hid (o2.toBits (gI 1 V) (by omega))
      have HE8:=hid (HO8.out.keep0 K8)
      have HK8:=hid (HK6.out.trans K8)
      have HR8:=hid ((HK6.out.trans K8).heap HS.out.r (by simp))
      have HV8:=hid (gG 3 V)
      have HV2:=hid (gG 1 V)
      clear hown hown2 hgrow o2 K8
      go_wp2_with fail
      have Kd:K0 w8 w8.drew:=kR.drew
      have HCC:=hid (fun (w':World) (K':K0 w8 w')=>(show w'.cell? ⟨B0,0,none⟩=some (.bool false) from by rw [cell_of_row w' _ _ _ _ _ (K'.heap HR8.out (by simp))];rfl))
      refine wp_region_held_drew (S:=fun w'=>w'.cell? ⟨B0,0,none⟩=some (.bool false)) (by kernel_rfl) (HCC.out _ Kd) (fun hHeld=>?_)
      refine wpAnyH_take (i:=0) (oi:=_) (v:=?_) rfl (by kernel_rfl) (by kernel_rfl) (by kernel_rfl) (fun _ _ _ h=>h) (Or.inl ⟨by rfl,?_⟩) (by assumption) ?_
      rotate_left
      ·(intro w hSw;(try dsimp only at hSw);go_simp)
       all_goals with_reducible rfl
      refine wpAnyH_take (i:=1) (oi:=_) (v:=?_) rfl (by kernel_rfl) (by kernel_rfl) (by kernel_rfl) (fun _ _ _ h=>h) (Or.inl ⟨by rfl,?_⟩) (by assumption) ?_
      rotate_left
      ·(intro w hSw;(try dsimp only at hSw);go_simp)
       all_goals with_reducible rfl
      try dsimp only [List.getElem_toArray,List.getElem_cons_succ,List.getElem_cons_zero]
      try simp only [Act.put,List.setIfInBounds_toArray,List.set_cons_zero,List.set_cons_succ]
      refine wpAnyH_take (i:=3) (oi:=_) (v:=?_) rfl (by kernel_rfl) (by kernel_rfl) (by kernel_rfl) (fun _ _ _ h=>h) (Or.inl ⟨by rfl,?_⟩) (by assumption) ?_
      rotate_left
      ·(intro w hSw;(try dsimp only at hSw);go_simp)
       all_goals with_reducible rfl
      refine wpAnyH_take (i:=4) (oi:=_) (v:=?_) rfl (by kernel_rfl) (by kernel_rfl) (by kernel_rfl) (fun _ _ _ h=>h) (Or.inl ⟨by rfl,?_⟩) (by assumption) ?_
      rotate_left
      ·(intro w hSw;(try dsimp only at hSw);go_simp)
       all_goals with_reducible rfl
      try dsimp only [List.getElem_toArray,List.getElem_cons_succ,List.getElem_cons_zero]
      try simp only [Act.put,List.setIfInBounds_toArray,List.set_cons_zero,List.set_cons_succ]
      refine wpAnyH_take (i:=5) (oi:=_) (v:=?_) rfl (by kernel_rfl) (by kernel_rfl) (by kernel_rfl) (fun _ _ _ h=>h) (Or.inl ⟨by rfl,?_⟩) (by assumption) ?_
      rotate_left
      ·(intro w hSw;(try dsimp only at hSw);go_simp)
       all_goals with_reducible rfl
      refine wpAnyH_take (i:=6) (oi:=_) (v:=?_) rfl (by kernel_rfl) (by kernel_rfl) (by kernel_rfl) (fun _ _ _ h=>h) (Or.inl ⟨by rfl,?_⟩) (by assumption) ?_
      rotate_left
      ·(intro w hSw;(try dsimp only at hSw);go_simp)
       all_goals with_reducible rfl
      try dsimp only [List.getElem_toArray,List.getElem_cons_succ,List.getElem_cons_zero]
      try simp only [Act.put,List.setIfInBounds_toArray,List.set_cons_zero,List.set_cons_succ]
      refine wpAnyH_take (i:=7) (oi:=_) (v:=?_) rfl (by kernel_rfl) (by kernel_rfl) (by kernel_rfl) (fun _ _ _ h=>h) (Or.inl ⟨by rfl,?_⟩) (by assumption) ?_
      rotate_left
      ·(intro w hSw;(try dsimp only at hSw);go_simp)
       all_goals with_reducible rfl
      try dsimp only [List.getElem_toArray,List.getElem_cons_succ,List.getElem_cons_zero]
      try simp only [Act.put,List.setIfInBounds_toArray,List.set_cons_zero,List.set_cons_succ]
      refine wpAnyH_ready (rs:=[2]) (by kernel_rfl) (by simp) ?_
      refine AllReadyH.cons (o:=_) rfl (fun K hK=>?_) AllReadyH.nil
      go_simp
      refine (cD A8 (3+nb) c8 _ A2 (1+nb) c2 _ _ (HE8.out.keep0 Kd) (HE2.out.keep0 Kd) (by omega) (by omega)).mono ?_
      rintro e wr1 ⟨A9,n9,c9,rfl,o9,kr⟩
      have hn9:n9<=1545:=fY (m:=1536+9) o9 (by rw [HV8.out,HV2.out];exact HB9.out)
      have HB9B:=hid (o9.toBits (aw aT _) (by omega))
      clear o9
      have K1:K0 w8 wr1:=ah.trans Kd kr
      clear kr
      try dsimp only
      go_wp2_with fail
      refine hK.out _ _ (HCC.out _ K1) (fun hHeld=>?_)
      clear hK K
      try dsimp only [List.getElem_toArray,List.getElem_cons_succ,List.getElem_cons_zero]
      try simp only [Act.put,List.setIfInBounds_toArray,List.set_cons_zero,List.set_cons_succ]
      refine wpAnyH_ready (rs:=[8]) (by kernel_rfl) (by simp) ?_
      refine AllReadyH.cons (o:=_) rfl (fun K hK=>?_) AllReadyH.nil
      go_simp
      refine (d8 dg _ (by omega)).mono ?_
      rintro e wr2 ⟨A10,n10,c10,rfl,o10,kr⟩
      have hn10:n10<=4:=fY o10 (by omega)
      have HB10:=hid (o10.toBits (aw aT _) (by omega))
      have HB9C:=hid (HB9B.out.keep0 kr)
      clear o10
      have K2:K0 w8 wr2:=ah.trans K1 kr
      clear kr K1
      try dsimp only
      go_wp2_with fail
      refine hK.out _ _ (HCC.out _ K2) (fun hHeld=>?_)
      clear hK K
      try dsimp only [List.getElem_toArray,List.getElem_cons_succ,List.getElem_cons_zero]
      try simp only [Act.put,List.setIfInBounds_toArray,List.set_cons_zero,List.set_cons_succ]
      refine wpAnyH_ready (rs:=[9]) (by kernel_rfl) (by simp) ?_
      refine AllReadyH.cons (o:=_) rfl (fun K hK=>?_) AllReadyH.nil
      go_simp
      refine (cD A9 n9 c9 _ A10 n10 c10 _ _ HB9C.out HB10.out (by omega) (by omega)).mono ?_
      rintro e wr3 ⟨A11,n11,c11,rfl,o11,kr⟩
      rw [gz HV8.out HV2.out] at o11
      have hn11:=o11.len
      have HN11:=hid hn11
      have HO11:=hid (aP.bits o11 (by rw [<- hn11];exact Nat.le_trans ((aM aT _ (1536+64)).2 HB11.out) (by omega)))
      clear o11 hn11
      have K3:K0 w8 wr3:=ah.trans K2 kr
      clear kr K2
      try dsimp only
      go_wp2_with fail
      refine hK.out _ _ (HCC.out _ K3) (fun hHeld=>?_)
      clear hK K
      refine wpAnyH_take (i:=10) (oi:=_) (v:=?_) rfl (by kernel_rfl) (by kernel_rfl) (by kernel_rfl) (fun _ _ _ h=>h) (Or.inl ⟨by rfl,?_⟩) (by assumption) ?_
      rotate_left
      ·(intro w hSw;(try dsimp only at hSw);go_simp)
       all_goals with_reducible rfl
      try dsimp only [List.getElem_toArray,List.getElem_cons_succ,List.getElem_cons_zero]
      try simp only [Act.put,List.setIfInBounds_toArray,List.set_cons_zero,List.set_cons_succ]
      refine wpAnyH_done (by kernel_rfl) ?_ _
      have KK:=K3
      clear K3
      have KX:=hid (HK8.out.trans KK)
      clear HCC KK
      by_cases hbig:1536<n11
      ·have tb:(1536:Int)<(n11:Int):=by omega
       have HNF:=hid (fu (k:=j+1) HXA.out (by rw [HNXT.out,HN11.out];exact hbig))
       obtain ⟨r0,r1,f0,f1⟩:=HRET.out _ (HS.out.K.trans KX.out)
       have HE:=hid (HSET.out _ (HS.out.K.trans KX.out) (.bool false) (.slice none 0 0))
       clear hbig
       try dsimp only
       go_wp2_with fail
       obtain ⟨⟨e0,e1⟩,kx⟩:=HE.out
       refine bodyPost_ret (v:=.tuple #[al false none 0 0,.int .i64 6]) (by simp [results,Tryz.results67,go_sem,e0,e1]) rfl ?_
       unfold cx
       rw [HALL.out]
       exact .inr ⟨HNF.out,rfl,kx⟩
      ·have tb:decide ((1536:Int)<(n11:Int))=false:=dF (by omega)
       have HNS:=hid (show mn w1 B0 (ak (bl.take (j+1))) A11 n11 c11 _ from ⟨KX.out.heap HS.out.r (by simp),by rw [HNXT.out];exact HO11.out,by omega,HS.out.K.trans KX.out⟩)
       clear hbig
       try dsimp only
       go_wp2_with fail
       go_roundw
       case rel=>exact ⟨q+1,j+1,_,_,_,by have:=HQ.out;omega,by omega,by go_num,rfl,HNS.out⟩
       case measure=>simp [intOf];omega
    ·have j1:decide ((q:Int)<(s.size:Int))=false:=dF (by omega)
     have hvd:V=ak bl:=by rw [HVV.out,List.take_of_length_le (by rw [HBN.out];omega)]
     clear hq
     obtain ⟨z,hz⟩:∃ z,z=decide (x<0):=⟨_,rfl⟩
     have HVA:=hid (lJ (z:=z) (neg:=false) HS.out.o (by rw [hvd,HXS.out];exact hz))
     have HZ:=hid hz
     have HVD:=hid hvd
     have b45:((d0:Int) == 45)=false:=HB45.out
     clear hz hvd
     go_wp2_with fail
     refine HVA.out.mono ?_
     rintro e w9 ⟨n9,rfl,b9,k9⟩
     obtain ⟨r0,r1,f0,f1⟩:=HRET.out _ (HS.out.K.trans k9)
     have HE:=hid (HSET.out _ (HS.out.K.trans k9) (.bool z) (.slice P n9 cb))
     have hb9:=(HS.out.K.trans k9).heap HB.out (by simp)
     have KS:ah (fun b=>b=B0) w9 ((w9.setCell ⟨B0,0,none⟩ (.bool z)).setCell ⟨B0,1,none⟩ (.slice P n9 cb)):=((ah.refl (fun b=>b=B0) w9).setCell (p:=⟨B0,0,none⟩) (.inl rfl) (.bool z)).setCell (p:=⟨B0,1,none⟩) (.inl rfl) (.slice P n9 cb)
     have HB9:=hid (show bg ((w9.setCell ⟨B0,0,none⟩ (.bool z)).setCell ⟨B0,1,none⟩ (.slice P n9 cb)) P n9 cb (ai x.natAbs) from by
      rw [HXA.out,<- HVD.out]
      exact ⟨b9.row.keep KS (lS b9.row hb9 (by intro q x e;cases e)),b9.low,b9.cap,b9.max⟩)
     have HFT:=hid (show dG x from by rw [fG,HXA.out,<- HVD.out,HS.out.o.len];exact hnb)
     clear b9 k9 hb9 KS HVA b45
     try dsimp only
     go_wp2_with fail
     obtain ⟨⟨e0,e1⟩,kx⟩:=HE.out
     refine bodyPost_ret (v:=.tuple #[al z P n9 cb,.int .i64 0]) (by simp [results,Tryz.results67,go_sem,e0,e1]) rfl ?_
     unfold cx
     rw [HALL.out]
     exact .inl ⟨HFT.out,P,n9,cb,by rw [<- HZ.out],HB9.out,kx⟩
theorem lQ (w:World):Calls Tryz.prog 67 #[.string ⟨#[]⟩] w (cx [] w):=by
 have K:K0 w (w.alloc (.cells #[.bool false,.slice none 0 0] 90)):=kR.alloc _
 have HK:=hid K
 clear K
 go_enter Tryz.func67,Tryz.ntmps67
 go_wp2_with fail
 go_loop [5] (fun iv=>iv=.int .i64 0) (fun _=>0)
 case atStart=>rfl
 case round=>
  obtain rfl:=hrel
  go_wp2_with fail
  refine bodyPost_ret (v:=.tuple #[al false none 0 0,.int .i64 9]) (by simp [results,Tryz.results67,go_sem]) rfl ?_
  exact ⟨rfl,HK.out⟩
theorem oA (s:ByteArray) (w:World) (hs:s.size<=1000000):Calls Tryz.prog 67 #[.string s] w (cx s.data.toList w):=by
 rcases Nat.eq_zero_or_pos s.size with h | h
 ·obtain rfl:s=⟨#[]⟩:=by
   apply ByteArray.ext
   exact Array.eq_empty_of_size_eq_zero h
  exact lQ w
 ·by_cases h1:(s.data.toList.getD 0 0).toNat=45
  ·exact oz s w hs h h1
  ·by_cases h2:(s.data.toList.getD 0 0).toNat=43
   ·exact mT s w hs h h2
   ·exact mV s w hs h h1 h2
end Go.Proofs.YtonnikipeokkaaaGreatDoor
