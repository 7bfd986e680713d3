/-
  Numbers, by program: texts of another seat, turned to this o
-/
import Derived.Test.YtonnikipeokkaaaGreatDoorN1
import Derived.Lib.ItoaMem
import Derived.Lib.SmallJoins
import Derived.Lib.ItoaNum
import Derived.Shelf.Strings.SlTrimAscii
import Derived.Laws.IdiomStrings
import Derived.Test.YtonnikipeokkaaaGreatDoorShelf
namespace Go.Proofs.YtonnikipeokkaaaGreatDoor
set_option maxRecDepth 100000
set_option maxHeartbeats 4000000
open Go.Lib (hid)
open Go.RowKit Go.Sort Go.Lib
def gu (w:World):Prop:=Lib.TabIs Tryz.prog w "internal/strconv.uint64pow10" .u64 Lib.pow10Tab
open Go.Lib
def lW:Nat->Nat->List UInt8
 | 0,_=>[]
 | k+1,r=>lW k (r / 10)++[UInt8.ofNat (48+r % 10)]
theorem dM {u:Nat} (h:u<10):decDigits u=[UInt8.ofNat (48+u)]:=by rw [decDigits,dif_pos h]
theorem iI {u:Nat} (h:¬ u<10):decDigits u=decDigits (u / 10)++[UInt8.ofNat (48+u % 10)]:=by rw [decDigits,dif_neg h]
theorem lx:∀ (k q r:Nat),0<q->r<10 ^ k->decDigits (q * 10 ^ k+r)=decDigits q++lW k r
 | 0,q,r,_,hr=>by
  obtain rfl:r=0:=by simpa using hr
  simp [lW]
 | k+1,q,r,hq,hr=>by
  have hp:0<10 ^ k:=Nat.pow_pos (by omega)
  rw [Nat.pow_succ] at hr ⊢
  have e1:q * (10 ^ k * 10)=10 * (q * 10 ^ k):=by rw [<- Nat.mul_assoc,Nat.mul_comm]
  have hge:1<=q * 10 ^ k:=Nat.mul_pos hq hp
  rw [e1,iI (by omega)]
  rw [show (10 * (q * 10 ^ k)+r) / 10=q * 10 ^ k+r / 10 from by omega,show (10 * (q * 10 ^ k)+r) % 10=r % 10 from by omega,lx k q (r / 10) hq (by omega),lW,List.append_assoc]
theorem nm:∀ k,lW k 0=List.replicate k 48
 | 0=>rfl
 | k+1=>by
  rw [lW,Nat.zero_div,nm k,List.replicate_succ']
  rfl
theorem kz:∀ (k r:Nat),r<10 ^ (k+1)->(decDigits r).length<=k+1
 | 0,r,h=>by rw [dM (by simpa using h)];simp
 | k+1,r,h=>by
  by_cases h2:r<10
  ·rw [dM h2];simp
  ·rw [iI h2,List.length_append]
   rw [Nat.pow_succ] at h
   have:=kz k (r / 10) (by omega)
   simpa using this
theorem tV:∀ (k r:Nat),r<10 ^ (k+1)->lW (k+1) r=List.replicate (k+1 - (decDigits r).length) 48++decDigits r
 | 0,r,h=>by
  have h1:r<10:=by simpa using h
  rw [dM h1]
  simp [lW,Nat.mod_eq_of_lt h1]
 | k+1,r,h=>by
  rw [lW]
  rw [Nat.pow_succ] at h
  by_cases h2:r<10
  ·rw [show r / 10=0 from by omega,nm,dM h2,Nat.mod_eq_of_lt h2]
   simp
  ·have hl:=kz k (r / 10) (by omega)
   rw [tV k (r / 10) (by omega),iI h2,List.append_assoc,List.length_append]
   simp
theorem pw {v q r:Nat} (hv:v=q * 10 ^ 9+r) (hq:0<q) (hr:r<10 ^ 9):decDigits v=decDigits q++(List.replicate (9 - (decDigits r).length) 48++decDigits r):=by
 rw [hv,lx 9 q r hq hr,tV 8 r hr]
def gt (V v:Nat) (ps:List (List UInt8)):Prop:=(v=0/\ps ≠ []/\decDigits V=ps.reverse.flatten)\/(0<v/\decDigits V=decDigits v++ps.reverse.flatten)
theorem gt.more {V v q r:Nat} {ps:List (List UInt8)} (h:gt V v ps) (hv0:0<v) (hv:v=q * 10 ^ 9+r) (hr:r<10 ^ 9) (hq:0<q):gt V q (ps++[List.replicate (9 - (decDigits r).length) 48++decDigits r]):=by
 rcases h with ⟨h0,_⟩ | ⟨_,h⟩
 ·omega
 ·refine .inr ⟨hq,?_⟩
  rw [h,pw hv hq hr]
  simp
theorem gt.last {V v r:Nat} {ps:List (List UInt8)} (h:gt V v ps) (hv0:0<v) (hv:v=r):gt V 0 (ps++[decDigits r]):=by
 rcases h with ⟨h0,_⟩ | ⟨_,h⟩
 ·omega
 ·refine .inl ⟨rfl,by simp,?_⟩
  rw [h,hv]
  simp
structure iN (B D k:Nat) (l m:List Nat) (c:Nat):Prop where
 len:m.length=l.length
 low:Low B m
 same:∀ j,j<k->m.getD j 0=l.getD j 0
 lt:c<D
 v:val B (l.drop k)=val B (m.drop k) * D+c
theorem iN.start {B D:Nat} {l:List Nat} (hD:0<D) (h:Low B l):iN B D l.length l l 0:=
 ⟨rfl,h,fun _ _=>rfl,hD,by simp [val]⟩
theorem iN.done {B D:Nat} {l m:List Nat} {c:Nat} (hD:0<D) (h:iN B D 0 l m c):val B m=val B l / D/\c=val B l % D:=by
 have hv:=h.v
 have hc:=h.lt
 rw [List.drop_zero,List.drop_zero] at hv
 rw [hv,Nat.mul_comm,Nat.mul_add_div hD,Nat.div_eq_of_lt hc,Nat.mul_add_mod,Nat.mod_eq_of_lt hc]
 exact ⟨rfl,rfl⟩
def i6 (w:World) (base:Nat) (v:Value) (ps:List (List UInt8)):Prop:=w.ownsRow base 9 1 v ps.length (ps.map encStr)
theorem gu.keep {w w':World} (h:gu w) (k:K0 w w'):gu w':=
 Joins.tab_stays (g:=(Tryz.prog.globalNamed "internal/strconv.uint64pow10").getD 0) (by kernel_rfl) h k.below0 (Nat.le_refl _)
def GG:Nat:=1000000000
structure pF (w:World) (V v:Nat) (A:Option Addr) (n c:Nat) (pv:Value) (ps:List (List UInt8)) (wr:World):Prop where
 m:aP 126 .u32 wr w.heap.size A n c (aA v)
 p:i6 wr w.heap.size pv ps
 K:K0 w wr
 n:n<=9000
 t:(V=0/\v=0/\ps=[])\/gt V v ps
 s:v+ps.length<=V
 g:v * GG ^ ps.length<=V
 b:ps.length<=10001
theorem i6.keep {S:Nat->Prop} {w w':World} {base:Nat} {v:Value} {ps:List (List UInt8)} (h:i6 w base v ps) (K:ah S w w') (hs:∀ b,v.ownBlock=some b->¬ S b):i6 w' base v ps:=by
 refine ⟨h.1,?_⟩
 rcases h.2 with hn | ⟨g,cap,cur,hv,hg,hh,rest⟩
 ·exact .inl hn
 ·refine .inr ⟨g,cap,cur,hv,hg,?_,rest⟩
  rw [K.block g (az hh) (hs g (by rw [hv];rfl))]
  exact hh
theorem i6.form {w:World} {base:Nat} {pv:Value} {k:Nat} {xs:List Value} (h:w.ownsRow base 9 1 pv k xs):∃ P c,pv=.slice P k c:=by
 rcases h.2 with ⟨hn,h0⟩ | ⟨g,cap,cur,hv,_⟩
 ·exact ⟨none,0,by rw [hn,h0]⟩
 ·exact ⟨_,_,hv⟩
theorem si {w:World} {base n c:Nat} {b:Nat} {m:List Nat} {pv:Value} {ps:List (List UInt8)} (h:aP 126 .u32 w base (some ⟨b,0,none⟩) n c m) (hp:i6 w base pv ps):pv.ownBlock ≠ some b:=by
 rcases h.2 with ⟨hn,_⟩ | ⟨g,cap,cur,hv,hg,hh,_⟩
 ·cases hn
 ·simp only [Value.slice.injEq,Option.some.injEq,Addr.mk.injEq,and_true,true_and] at hv
  obtain ⟨rfl,rfl⟩:=hv
  rcases hp.2 with ⟨hn2,_⟩ | ⟨g2,cap2,cur2,hv2,hg2,hh2,_⟩
  ·rw [hn2];intro e;cases e
  ·rw [hv2]
   intro e
   have e2:g2=b:=by simpa [Value.ownBlock] using e
   rw [e2,hh] at hh2
   simp at hh2
theorem pF.next {w1 wr0 wr w5 w6:World} {V v b n3 c3 cr:Nat} {pv pv':Value} {ps:List (List UInt8)} {m:List Nat} {t:ByteArray} {ch:List UInt8} (H:pF w1 V v (some ⟨b,0,none⟩) n3 c3 pv ps wr0) (hlen:ps.length<=10000) (hv:0<v)
 (K1:ah (fun x=>x=b) wr0 wr) (own:aP 126 .u32 wr w1.heap.size (some ⟨b,0,none⟩) n3 c3 m) (low:Low BB m) (dv:bA m=v / GG) (dc:cr=v % GG) (K5:K0 wr w5) (ht:t=⟨ch.toArray⟩)
 (hch:(0<v / GG/\ch=List.replicate (9 - (decDigits cr).length) 48++decDigits cr)\/(v / GG=0/\ch=decDigits cr))
 (hown:w6.ownsRow w1.heap.size 9 1 pv' (ps.length+1) (ps.map encStr++[.string t])) (hgrow:(w5.alloc (.cells #[.string t] 9)).grownBy w6 pv.ownBlock) :
 pF w1 V (v / GG) (some ⟨b,0,none⟩) (cM m) c3 pv' (ps++[ch]) w6:=by
 have hbb:=(H.m.fresh b 0 rfl).1
 have KA:K0 w1 wr:=H.K.into K1 (by rintro i rfl;exact hbb)
 have hne0:=si H.m H.p
 have hp:=H.p.keep K1 (fun g hg e=>hne0 (by rw [hg,e]))
 have KW:K0 wr (w5.alloc (.cells #[.string t] 9)):=K5.alloc _
 have hp2:=hp.keep KW (fun _ _=>id)
 have KG:=ah.of_grown hgrow
 have hle:=jx low
 rw [own.len] at hle
 have o6:aP 126 .u32 w6 w1.heap.size (some ⟨b,0,none⟩) n3 c3 m:=(own.keep0 KW).keep KG (fun k off e hk=>by injection e with e;injection e with e _ _;rw [<- e] at hk;exact hne0 hk.symm)
 have hGG:GG=10 ^ 9:=rfl
 have hvs:v=v / GG * 10 ^ 9+cr:=by rw [dc,<- hGG];exact (Nat.div_add_mod' v GG).symm
 have hcr:cr<10 ^ 9:=by rw [dc,<- hGG];exact Nat.mod_lt _ (by unfold GG;omega)
 have hT:gt V v ps:=by
  rcases H.t with ⟨_,h0,_⟩ | h
  ·omega
  ·exact h
 refine ⟨?_,?_,?_,Nat.le_trans hle H.n,.inr ?_,?_,?_,by rw [List.length_append];simp;omega⟩
 ·have:=o6.take hle
  rw [gA low,dv] at this
  exact this
 ·show w6.ownsRow _ 9 1 pv' (ps++[ch]).length ((ps++[ch]).map encStr)
  rw [List.length_append,List.map_append]
  rw [ht] at hown
  exact hown
 ·refine (KA.trans KW).into KG (fun i hi=>?_)
  rcases hp2.2 with ⟨hn,_⟩ | ⟨g,cap,cur,hv2,hg,_⟩
  ·rw [hn] at hi;cases hi
  ·rw [hv2] at hi
   have:i=g:=by simpa [Value.ownBlock] using hi
   omega
 ·rcases hch with ⟨hq,e⟩ | ⟨hq,e⟩
  ·rw [e];exact hT.more hv hvs hcr hq
  ·rw [e,hq];exact hT.last hv (by rw [hq] at hvs;omega)
 ·rw [List.length_append]
  have:v / GG<v:=Nat.div_lt_self hv (by unfold GG;omega)
  have:=H.s
  simp
  omega
 ·rw [List.length_append]
  show v / GG * GG ^ (ps.length+1)<=V
  rw [Nat.pow_succ,Nat.mul_comm (GG ^ _),<- Nat.mul_assoc]
  exact Nat.le_trans (Nat.mul_le_mul_right _ (Nat.div_mul_le_self v GG)) H.g
def cW (r:List Nat) (dig k c:Nat):Nat:=10 * r.getD k 0+if k=0 then dig else c
theorem mf {B:Nat} (hB:10<=B) {r:List Nat} (hr:Low B r) {dig:Nat} (hb:dig<=9):∀ k,val B (cB B (cW r dig) (k+1))+B ^ (k+1) * bx B (cW r dig) (k+1)=10 * val B (r.take (k+1))+dig/\bx B (cW r dig) (k+1)<=9
 | 0=>by
  have x:=hr.getD (by omega) 0
  refine ⟨?_,?_⟩
  ·rw [fp,bq]
   simp [cB,val,cW]
  ·show cW r dig 0 0 / B<=9
   unfold cW
   rw [if_pos rfl]
   have:=(Nat.div_lt_iff_lt_mul (by omega:0<B)).2 (show 10 * r.getD 0 0+dig<10 * B by omega)
   omega
 | k+1=>by
  obtain ⟨h1,h2⟩:=mf hB hr hb k
  have x:=hr.getD (by omega) (k+1)
  have e:cW r dig (k+1) (bx B (cW r dig) (k+1))=10 * r.getD (k+1) 0+bx B (cW r dig) (k+1):=by
   unfold cW
   rw [if_neg (by omega)]
  refine ⟨?_,?_⟩
  ·rw [fp,bq,e,Nat.mul_add,Nat.mul_add,Nat.mul_left_comm]
   omega
  ·show cW r dig (k+1) (bx B (cW r dig) (k+1)) / B<=9
   rw [e]
   have:=(Nat.div_lt_iff_lt_mul (by omega:0<B)).2 (show 10 * r.getD (k+1) 0+bx B (cW r dig) (k+1)<10 * B by omega)
   omega
theorem wa {B:Nat} (hB:10<=B) {r:List Nat} (hr:Low B r) {dig:Nat} (hb:dig<=9):val B (cB B (cW r dig) (r.length+1))=10 * val B r+dig:=by
 obtain ⟨h1,_⟩:=mf hB hr hb r.length
 rw [List.take_of_length_le (Nat.le_succ _)] at h1
 rcases Nat.eq_zero_or_pos (bx B (cW r dig) (r.length+1)) with h0 | h0
 ·rw [h0] at h1;omega
 ·have h3:=fq hr
  have:B ^ (r.length+1) * 1<=B ^ (r.length+1) * bx B (cW r dig) (r.length+1):=Nat.mul_le_mul_left _ h0
  have h4:B ^ r.length * 10<=B ^ r.length * B:=Nat.mul_le_mul_left _ hB
  rw [Nat.pow_succ] at this
  rw [Nat.pow_succ] at h1
  omega
theorem kA {B:Nat} (hB:10<=B) {r:List Nat} (hr:Low B r) {dig:Nat} (hb:dig<=9) (k:Nat):cW r dig k (bx B (cW r dig) k)<10 * B/\bx B (cW r dig) k<=9:=by
 have x:=hr.getD (by omega) k
 have hc:bx B (cW r dig) k<=9:=by
  cases k with
  | zero=>show 0<=9;omega
  | succ k=>exact (mf hB hr hb k).2
 refine ⟨?_,hc⟩
 unfold cW
 unfold cW at hc
 split<;>omega
open Go.RowKit
theorem yr (A:Option Addr) (n c:Nat) (r:List Nat) (dig b1 b2 i cr:Nat) (w:World) (h:aq w A n c r) (hi:i<=1000000) (hd:dig<=9) (hc:cr<=9)
 (c1:w.cell? ⟨b1,0,none⟩=some (.int .u8 ((48+dig:Nat):Int))) (c2:w.cell? ⟨b2,0,none⟩=some (.slice A n c)) :
 Calls Tryz.prog 156 #[.int .i64 (i:Int),.int .u64 (cr:Int),.pointer (some ⟨b1,0,none⟩),.pointer (some ⟨b2,0,none⟩)] w (wu (cW r dig i cr) w):=by
 have hx:=iD h.low i
 obtain ⟨x,hxx⟩:∃ x,x=r.getD i 0:=⟨_,rfl⟩
 have E:cW r dig i cr=10 * x+if i=0 then dig else cr:=by rw [hxx];rfl
 have HL:=hid (uh A n c r i w h hi)
 rw [<- hxx] at hx HL
 rw [E]
 clear hxx E h
 have e8:((48+dig:Nat):Int) - 48=(dig:Int):=by omega
 by_cases h0:i=0
 ·subst h0
  rw [if_pos rfl]
  go_enter Tryz.func156,Tryz.ntmps156
  go_wp2_with fail
  refine HL.out.mono ?_
  rintro e w' ⟨rfl,rfl⟩
  try dsimp only
  go_wp2_with fail
  go_ret
  exact ⟨by simp;try omega,kR⟩
 ·rw [if_neg h0]
  have hb0:((i:Int) == 0)=false:=by simp;omega
  go_enter Tryz.func156,Tryz.ntmps156
  go_wp2_with fail
  refine HL.out.mono ?_
  rintro e w' ⟨rfl,rfl⟩
  try dsimp only
  go_wp2_with fail
  go_ret
  exact ⟨by simp;try omega,kR⟩
theorem ma (Bc b1:Nat) (A:Option Addr) (n c:Nat) (r:List Nat) (dig:Nat) (w:World) (h:aq w A n c r) (hn:n<=9000) (hb:w.heap[Bc]? = some (.cells #[.slice A n c] 22 (0,0))) (hb1:w.heap[b1]? = some (.cells #[.int .u8 ((48+dig:Nat):Int)] 5 (0,0))) (hd:dig<=9) :
 Calls Tryz.prog 155 #[.int .i64 ((n+1:Nat):Int),.func (.func 156) #[] #[.pointer (some ⟨b1,0,none⟩),.pointer (some ⟨Bc,0,none⟩)]] w (gU (cB BB (cW r dig) (n+1)) w):=by
 have hBB:10<=BB:=by unfold BB;omega
 refine yh (n+1) b1 Bc (cW r dig) w (by omega) (fun i _=>?_) (fun i w' hi K'=>?_)
 ·have:=(kA hBB h.low hd i).1
  unfold BB at this
  unfold BB
  omega
 ·exact yr A n c r dig b1 Bc i _ w' (h.keep0 K') (by omega) hd (kA hBB h.low hd i).2 (by rw [cell_of_row w' _ _ _ _ _ (K'.heap hb1 (by simp))];rfl) (by rw [cell_of_row w' _ _ _ _ _ (K'.heap hb (by simp))];rfl)
theorem bQ (s:ByteArray) (w:World) (hs:s.size<=9223372036854775807) :
 Calls Tryz.prog 154 #[.string s,.string ⟨#[48,49,50,51,52,53,54,55,56,57]⟩] w fun e w'=>e=.returned (.string ⟨(Lib.trimS s.data.toList [48,49,50,51,52,53,54,55,56,57]).toArray⟩)/\K0 w w':=by
 refine (Any.strings_Trim_laid Tryz.lays160 (by kernel_rfl) s ⟨#[48,49,50,51,52,53,54,55,56,57]⟩ w hs (by decide) (ascii_of_all (by decide))).mono ?_
 rintro e w' ⟨rfl,hb⟩
 exact ⟨rfl,ah.of_below hb⟩
theorem ko {p:UInt8->Bool}:∀ l:List UInt8,l.dropWhile p=[] ↔ ∀ x ∈ l,p x=true
 | []=>by simp
 | x :: l=>by
  by_cases h:p x=true
  ·simp [h,ko l]
  ·simp [h]
theorem lw {p:UInt8->Bool}:∀ (l:List UInt8) (x:UInt8) (xs:List UInt8),l.dropWhile p=x :: xs->p x=false
 | [],_,_,h=>by simp at h
 | y :: l,x,xs,h=>by
  by_cases hy:p y=true
  ·rw [List.dropWhile_cons,if_pos hy] at h
   exact lw l x xs h
  ·rw [List.dropWhile_cons,if_neg hy] at h
   injection h with h1 _
   rw [<- h1]
   simpa using hy
theorem sj (l cs:List UInt8):Lib.trimS l cs=[] ↔ ∀ x ∈ l,cs.contains x=true:=by
 unfold Lib.trimS Lib.trimLeftS Lib.trimRightS
 rw [ko]
 constructor
 ·intro h
  cases hd:l.reverse.dropWhile (cs.contains ·) with
  | nil=>
   have:=(ko _).1 hd
   intro x hx
   exact this x (by simpa using hx)
  | cons x xs=>
   have h1:=lw _ _ _ hd
   rw [hd] at h
   have:=h x (by simp)
   rw [this] at h1
   cases h1
 ·intro h x hx
  have hx2:x ∈ l.reverse.dropWhile (cs.contains ·):=by simpa using hx
  exact h x (by simpa using (List.dropWhile_sublist (cs.contains ·)).mem hx2)
def ak (l:List UInt8):Nat:=l.foldl (fun n b=>10 * n+(b.toNat - 48)) 0
theorem nI (l:List UInt8) (b:UInt8):ak (l++[b])=10 * ak l+(b.toNat - 48):=by
 unfold ak;simp
def eC (b:UInt8):Bool:=[48,49,50,51,52,53,54,55,56,57].contains b
theorem cI (b:UInt8):eC b=true ↔ 48<=b.toNat/\b.toNat<=57:=by
 revert b
 have H:∀ i:Fin 256,eC (UInt8.ofNat i.val)=true ↔ 48<=i.val/\i.val<=57:=by decide +kernel
 intro b
 have:=H ⟨b.toNat,b.toNat_lt⟩
 simpa using this
theorem du (l:List UInt8):Lib.trimS l [48,49,50,51,52,53,54,55,56,57]=[] ↔ l.all eC=true:=by
 rw [sj,List.all_eq_true]
 rfl
theorem cR (l:List UInt8) (k:Nat) (h:k<l.length):ak (l.take (k+1))=10 * ak (l.take k)+(l[k].toNat - 48):=by
 rw [List.take_succ_eq_append_getElem h,nI]
theorem gn (l:List UInt8):∀ k j,ak (l.take k)<=ak (l.take (k+j))
 | _,0=>Nat.le_refl _
 | k,j+1=>by
  have h:=gn l k j
  by_cases hl:k+j<l.length
  ·have:=cR l (k+j) hl
   show _<=ak (l.take (k+j+1))
   omega
  ·rw [List.take_of_length_le (by omega:l.length<=k+j)] at h
   show _<=ak (l.take (k+j+1))
   rw [List.take_of_length_le (by omega:l.length<=k+j+1)]
   exact h
theorem kB (l:List UInt8) (k:Nat):ak (l.take k)<=ak l:=by
 have h:=gn l k l.length
 rwa [List.take_of_length_le (by omega:l.length<=k+l.length)] at h
def ip (l:List UInt8):Bool:=Lib.hasPrefix l [45] || Lib.hasPrefix l [43]
def aZ (l:List UInt8):List UInt8:=if ip l then l.drop 1 else l
def aJ (l:List UInt8):Option Int:=
 if aZ l=[]\/(aZ l).all eC=false then none
 else some (if Lib.hasPrefix l [45] then -(ak (aZ l):Int) else (ak (aZ l):Int))
theorem jL (neg:Bool) (n:Nat):ci neg (aA n)=if neg then -(n:Int) else (n:Int):=by
 unfold ci
 rw [show bA (aA n)=n from bc BB2 n]
theorem iW {l:List UInt8} {k:Nat} {neg:Bool} (h:48<(aA (ak (l.take k))).length):¬ dG (if neg then -(ak l:Int) else (ak l:Int)):=by
 intro f
 rw [iM] at f
 have e:(if neg=true then -(ak l:Int) else (ak l:Int)).natAbs=ak l:=by cases neg<;>simp
 rw [e] at f
 have:=kB l k
 exact absurd ((aM BB2 (ak (l.take k)) 48).2 (Nat.lt_of_le_of_lt this f)) (Nat.not_le.2 h)
def bp (l:List UInt8) (w:World) (e:Ending) (w':World):Prop:=
 match aJ l with
 | none=>e=.returned (.tuple #[al false none 0 0,.int .i64 9])/\K0 w w'
 | some x=>dr x w e w'
theorem jn {s:ByteArray} {b:UInt8} (h:Lib.hasPrefix s.data.toList [b]=true):(1:Int)<=(s.size:Int)/\(s.extract 1 s.size).data.toList=s.data.toList.drop 1:=by
 have h1:1<=s.data.toList.length:=by
  cases hl:s.data.toList with
  | nil=>rw [hl] at h;cases h
  | cons _ _=>simp
 have h2:s.data.toList.length=s.size:=(Lib.size_eq s).symm
 refine ⟨by omega,?_⟩
 rw [Lib.extract_data,<- h2,<- List.length_drop,List.take_length]
structure fW (w:World) (Bx Bm bb:Nat) (bv:Obj) (l:List UInt8) (k:Nat) (A:Option Addr) (n c:Nat) (wr:World):Prop where
 x:wr.heap[Bx]? = some (.cells #[.bool false,.slice none 0 0] 24 (0,0))
 m:wr.heap[Bm]? = some (.cells #[.slice A n c] 22 (0,0))
 b:wr.heap[bb]? = some bv
 own:aP 126 .u32 wr (Bm+1) A n c (aA (ak (l.take k)))
 n:n<=48
 K:K0 w wr
 xm:Bx ≠ Bm
 bm:bb ≠ Bm
 wm:w.heap.size<=Bm
theorem fW.next {w wr w4:World} {Bx Bm bb:Nat} {bv:Obj} {l:List UInt8} {k n c:Nat} {A:Option Addr} (H:fW w Bx Bm bb bv l k A n c wr) {u:Value} (hk:k<l.length) (hd:eC l[k]=true)
 {A':Option Addr} {c':Nat} (own:aP 126 .u32 w4 (wr.alloc (.cells #[u] 5)).heap.size A' (n+1) c' (cB BB (cW (aA (ak (l.take k))) (l[k].toNat - 48)) (n+1))) (k4:K0 (wr.alloc (.cells #[u] 5)) w4)
 (t:Nat) (ht:t=cM (cB BB (cW (aA (ak (l.take k))) (l[k].toNat - 48)) (n+1))) :
 t=(aA (ak (l.take (k+1)))).length/\(t<=48->fW w Bx Bm bb bv l (k+1) A' t c' (w4.setCell ⟨Bm,0,none⟩ (.slice A' t c'))):=by
 have hn:n=(aA (ak (l.take k))).length:=H.own.len.symm
 have hdg:=(cI _).1 hd
 have hBB:10<=BB:=by unfold BB;omega
 have low:Low BB (aA (ak (l.take k))):=aw BB2 _
 have E:bA (cB BB (cW (aA (ak (l.take k))) (l[k].toNat - 48)) (n+1))=ak (l.take (k+1)):=by
  rw [hn,cR l k hk]
  have:=wa hBB low (dig:=l[k].toNat - 48) (by omega)
  rw [show val BB (aA (ak (l.take k)))=ak (l.take k) from bc BB2 _] at this
  exact this
 have low2:Low BB (cB BB (cW (aA (ak (l.take k))) (l[k].toNat - 48)) (n+1)):=eV (by omega) _ _
 have e1:t=(aA (ak (l.take (k+1)))).length:=by rw [ht,<- E];rfl
 refine ⟨e1,fun ht48=>?_⟩
 have tl:=jx low2
 rw [own.len] at tl
 have KA:K0 wr w4:=(kR.alloc _).trans k4
 have hx4:=KA.heap H.x (by simp)
 have hm4:=KA.heap H.m (by simp)
 have hb4:=KA.heap H.b (by simp)
 have KS:ah (fun x=>x=Bm) w4 (w4.setCell ⟨Bm,0,none⟩ (.slice A' t c')):=cG (S:=fun x=>x=Bm) rfl 0 _
 have hsz:=az H.m
 have htl:t<=n+1:=by rw [ht];exact tl
 have o2:=own.take htl
 rw [show List.take t (cB BB (cW (aA (ak (l.take k))) (l[k].toNat - 48)) (n+1))=aA (ak (l.take (k+1))) from by rw [ht,gA low2,E]] at o2
 refine ⟨KS.heap hx4 H.xm,?_,KS.heap hb4 H.bm,?_,ht48,(H.K.trans KA).into KS (by rintro i rfl;exact H.wm),H.xm,H.bm,H.wm⟩
 ·simp [World.setCell,Array.getElem?_modify,hm4]
 ·refine (aP.mono o2 (base':=Bm+1) (by simp;omega)).keep KS (fun b off e hb=>?_)
  have:=(o2.fresh b off e).1
  simp at this
  omega
theorem fW.start {w W w3:World} {Bx Bm bb:Nat} {C:Array Value} {fr:Nat × Nat} {l:List UInt8} (hx:W.heap[Bx]? = some (.cells #[.bool false,.slice none 0 0] 24 (0,0))) (hm:W.heap[Bm]? = some (.cells #[.slice none 0 0] 22 (0,0))) (K:K0 w W) (hxm:Bx ≠ Bm) (hwm:w.heap.size<=Bm) (hbb:bb=W.heap.size)
 (e:w3=W.drew.alloc (.cells C 5 fr)):fW w Bx Bm bb (.cells C 5 fr) l 0 none 0 0 w3:=by
 have k:K0 W w3:=by rw [e];exact kR.drew.alloc _
 have hb3:w3.heap[bb]? = some (.cells C 5 fr):=by
  rw [e,hbb]
  show (W.heap.push (.cells C 5 fr))[W.heap.size]? = _
  simp
 refine ⟨k.heap hx (by simp),k.heap hm (by simp),hb3,?_,by omega,K.trans k,hxm,?_,hwm⟩
 ·rw [List.take_zero]
  show aP 126 .u32 w3 _ none 0 0 (aA 0)
  unfold aA
  rw [bi]
  exact aP.nil _ _ _ _
 ·have:=az hm;omega
theorem fW.byte {w wr:World} {Bx Bm bb:Nat} {d:ByteArray} {cap:Nat} {fr:Nat × Nat} {l:List UInt8} {k n c:Nat} {A:Option Addr} (H:fW w Bx Bm bb (.cells (bytesRow d cap) 5 fr) l k A n c wr) (hd:d.data.toList=l) (hk:k<l.length):wr.cell? ⟨bb,k,none⟩=some (.int .u8 (l[k].toNat:Int)):=by
 subst hd
 have hk2:k<d.data.size:=by simpa using hk
 unfold World.cell?
 rw [H.b]
 have:=bytesRow_at d cap k hk2
 simp only [this]
 simp
theorem rf (s:ByteArray) (w:World) (hs:s.size<=1000000) (hneg:Lib.hasPrefix s.data.toList [45]=true):Calls Tryz.prog 129 #[.string s] w (bp s.data.toList w):=by
 have K:K0 w (w.alloc (.cells #[.bool false,.slice none 0 0] 24)):=kR.alloc _
 have hb:(w.alloc (.cells #[.bool false,.slice none 0 0] 24)).heap[w.heap.size]? = some (.cells #[.bool false,.slice none 0 0] 24 (0,0)):=hN w _
 have HK:=hid K
 have HB:=hid hb
 obtain ⟨h1,h2⟩:=jn hneg
 have hbody:aZ s.data.toList=s.data.toList.drop 1:=by unfold aZ ip;rw [hneg];rfl
 rw [<- hbody] at h2
 have HN:=hid hneg
 have H2:=hid h2
 have hsz:(aZ s.data.toList).length<=1000000:=by
  unfold aZ
  have:=Lib.size_eq s
  split
  ·rw [List.length_drop];omega
  ·omega
 have HSZ:=hid (show ((s.extract 1 s.size)).size<=9223372036854775807 from by rw [Lib.size_eq,h2];omega)
 clear K hb hbody h2 hneg
 by_cases hE:aZ s.data.toList=[]
 ·have hP:aJ s.data.toList=none:=by unfold aJ;rw [if_pos (.inl hE)]
  have he:(s.extract 1 s.size).toList.isEmpty=true:=by rw [Lib.toList_data,H2.out,hE];rfl
  have HPV:=hid hP
  clear hE hP hsz
  go_enter Tryz.func129,Tryz.ntmps129
  go_wp2_with fail
  refine (Tryz.strings_HasPrefix s ⟨#[45]⟩ _).mono ?_
  rintro e w1 ⟨rfl,rfl⟩
  rw [show Lib.hasPrefix s.data.toList (⟨#[45]⟩:ByteArray).data.toList=true from HN.out]
  try dsimp only
  go_wp2_with fail
  have KE:K0 w (w.alloc (.cells #[.bool false,.slice none 0 0] 24)):=HK.out
  refine bodyPost_ret (v:=.tuple #[al false none 0 0,.int .i64 9]) ?_ rfl ?_
  ·simp [results,Tryz.results129,go_sem]
  ·unfold bp
   rw [HPV.out]
   exact ⟨rfl,KE⟩
 have he:(s.extract 1 s.size).toList.isEmpty=false:=by
  rw [Lib.toList_data,H2.out]
  cases h:aZ s.data.toList with
  | nil=>exact absurd h hE
  | cons _ _=>rfl
 by_cases hA:(aZ s.data.toList).all eC=true
 ·have hP:aJ s.data.toList=some (if true=true then -(ak (aZ s.data.toList):Int) else (ak (aZ s.data.toList):Int)):=by
   unfold aJ
   rw [if_neg (by simp [hE,hA]),HN.out]
  have HPV:=hid hP
  have HA:=hid hA
  clear hE hP hA
  go_enter Tryz.func129,Tryz.ntmps129
  go_wp2_with fail
  refine (Tryz.strings_HasPrefix s ⟨#[45]⟩ _).mono ?_
  rintro e w1 ⟨rfl,rfl⟩
  rw [show Lib.hasPrefix s.data.toList (⟨#[45]⟩:ByteArray).data.toList=true from HN.out]
  try dsimp only
  go_wp2_with fail
  refine (bQ (s.extract 1 s.size) _ HSZ.out).mono ?_
  rintro e w2 ⟨rfl,k2⟩
  obtain ⟨t,ht⟩:∃ t:ByteArray,t=⟨(Lib.trimS (s.extract 1 s.size).data.toList [48,49,50,51,52,53,54,55,56,57]).toArray⟩:=⟨_,rfl⟩
  rw [<- ht]
  have hte:t.toList.isEmpty=true:=by
   rw [Lib.toList_data,ht]
   show (Lib.trimS (s.extract 1 s.size).data.toList [48,49,50,51,52,53,54,55,56,57]).isEmpty=true
   rw [H2.out]
   rw [(du _).2 HA.out];rfl
  have K2:=HK.out.trans k2
  have hb2:=k2.heap HB.out (by simp)
  clear ht
  try dsimp only
  generalize hBx:w.heap.size=Bx at hb2 ⊢
  have HBX:=hid (Nat.le_of_eq hBx)
  have HB2:=hid hb2
  clear hBx hb2 k2
  have HLT:=hid (az HB2.out)
  go_wp2_with fail
  have KW:K0 w (w2.alloc (.cells #[.slice none 0 0] 22)):=K2.alloc _
  have hm:(w2.alloc (.cells #[.slice none 0 0] 22)).heap[w2.heap.size]? = some (.cells #[.slice none 0 0] 22 (0,0)):=hN w2 _
  have hx:(w2.alloc (.cells #[.slice none 0 0] 22)).heap[Bx]? = some (.cells #[.bool false,.slice none 0 0] 24 (0,0)):=by
   rw [Below.heap_alloc _ _ _ HLT.out];exact HB2.out
  have hxm:Bx ≠ w2.heap.size:=by have:=HLT.out;omega
  have hwm:w.heap.size<=w2.heap.size:=K2.size
  generalize w2.heap.size=Bm at hm hxm hwm ⊢
  generalize w2.alloc (.cells #[.slice none 0 0] 22)=W at KW hm hx ⊢
  have hconv:=run_bytes_of_string (P:=Tryz.prog) W 9 70 5 (s.extract 1 s.size) rfl rfl rfl
  have hds:((s.extract 1 s.size)).size=(aZ s.data.toList).length:=(Lib.size_eq _).trans (congrArg List.length H2.out)
  have HST:=hid (fun (w3:World) (bb:Nat) (C:Array Value) (fr:Nat × Nat) (hbb:bb=W.heap.size) (e:w3=W.drew.alloc (.cells C 5 fr))=>fW.start (l:=aZ s.data.toList) hx hm KW hxm hwm hbb e)
  clear HB HK HB2 K2 KW hm hx hxm hwm HLT
  generalize hcap:grownCap W ((s.extract 1 s.size)).size 0 5=cap at hconv
  clear hcap
  generalize hC:bytesRow (s.extract 1 s.size) cap=C at hconv
  generalize hfr:(C.size,C.size+1)=fr at hconv
  clear hfr
  generalize hw3:W.drew.alloc (.cells C 5 fr)=w3 at hconv
  generalize hbb:W.heap.size=bb at hconv
  have hst:=HST.out w3 bb C fr hbb.symm hw3.symm
  have hbyte:=fun (k n c:Nat) (A:Option Addr) (wr:World) (H:fW w Bx Bm bb (.cells C 5 fr) (aZ s.data.toList) k A n c wr) (hk:k<(aZ s.data.toList).length)=>fW.byte (d:=(s.extract 1 s.size)) (cap:=cap) (by rw [hC];exact H) H2.out hk
  rw [hds] at hconv
  clear HST hw3 hbb hC hds
  have HBY:=hid hbyte
  have HST:=hid hst
  clear hbyte hst
  generalize hl:aZ s.data.toList=l at *
  clear hl
  rw [hconv]
  try dsimp only
  go_wp2_with fail
  clear hconv he hte h1
  go_loopw [30] (fun iv wr=>∃ (k:Nat) (A:Option Addr) (n c:Nat),k<=l.length/\iv=.int .i64 (k:Int)/\fW w Bx Bm bb (.cells C 5 fr) l k A n c wr) (fun iv _=>l.length - (RowKit.intOf iv).toNat)
  case atStart=>exact ⟨0,_,_,_,Nat.zero_le _,rfl,HST.out⟩
  case round=>
   clear HST
   obtain ⟨k,A,n,c,hk,rfl,st⟩:=hrel
   have HS:=hid st
   have cm:wr.cell? ⟨Bm,0,none⟩=some (.slice A n c):=by rw [cell_of_row wr _ _ _ _ _ st.m];rfl
   have hBm:=az st.m
   have hn:=st.n
   clear st
   by_cases hkl:k<l.length
   ·have i0:(0:Int)<=(k:Int):=by omega
    have i1:(k:Int)<(l.length:Int):=by omega
    have hby:=HBY.out k n c A wr HS.out hkl
    have hdg:=List.all_eq_true.1 HA.out _ (List.getElem_mem hkl)
    have HD:=hid hdg
    have hdg2:=(cI _).1 hdg
    have e48:(l[k].toNat:Int)=((48+(l[k].toNat - 48):Nat):Int):=by omega
    have HDG:=hid (And.intro hdg2 e48)
    rw [e48] at hby
    obtain ⟨dg,hdge⟩:∃ x,x=l[k].toNat - 48:=⟨_,rfl⟩
    have HDGE:=hid hdge
    rw [<- hdge] at hby
    clear hdg hdg2 e48 hdge
    have HR:=hid (show Calls Tryz.prog 155 #[.int .i64 ((n:Int)+1),.func (.func 156) #[] #[.pointer (some ⟨wr.heap.size,0,none⟩),.pointer (some ⟨Bm,0,none⟩)]] (wr.alloc (.cells #[.int .u8 (48+(dg:Int))] 5)) (gU (cB BB (cW (aA (ak (l.take k))) dg) (n+1)) (wr.alloc (.cells #[.int .u8 (48+(dg:Int))] 5))) from
     ma Bm wr.heap.size A n c (aA (ak (l.take k))) dg _ ((HS.out.own.toLimbs (aw BB2 _) (by omega)).keep0 (kR.alloc _)) (by omega) (by rw [Below.heap_alloc _ _ _ hBm];exact HS.out.m) (hN wr _) (by have:=HDG.out.1;have:=HDGE.out;omega))
    go_wp2_with fail
    refine HR.out.mono ?_
    rintro e w4 ⟨A2,n2,c2,rfl,own,k4⟩
    obtain rfl:n2=n+1:=by have:=own.len;rw [eW] at this;exact this.symm
    have low2:Low BB (cB BB (cW (aA (ak (l.take k))) dg) (n+1)):=eV (by unfold BB;omega) _ _
    have hL:=own.toLimbs low2 (by omega)
    obtain ⟨t5,ht⟩:∃ x,x=cM (cB BB (cW (aA (ak (l.take k))) dg) (n+1)):=⟨_,rfl⟩
    have hNX:=HS.out.next (u:=.int .u8 (48+(dg:Int))) hkl HD.out (A':=A2) (c':=c2) (w4:=w4) (by rw [<- HDGE.out];exact own) k4 t5 (by rw [<- HDGE.out];exact ht)
    have KA:K0 wr w4:=(kR.alloc _).trans k4
    have hm4:=KA.heap HS.out.m (by simp)
    have hx4:=KA.heap HS.out.x (by simp)
    have q0:w4.cell? ⟨Bm,0,none⟩=some (.slice A n c):=by rw [cell_of_row w4 _ _ _ _ _ hm4];rfl
    have q1:w4.frozen? ⟨Bm,0,none⟩=false:=by simp [World.frozen?,hm4]
    have HT:=hid ht
    have HNX:=hid hNX
    have HX4:=hid hx4
    have HKA:=hid (HS.out.K.trans KA)
    clear HR own k4 low2 hNX KA hm4 hx4 cm hBm
    try dsimp only
    go_wp2_with fail
    refine (cE A2 (n+1) c2 _ w4 hL).mono ?_
    rintro e wx ⟨rfl,rfl⟩
    rw [<- HT.out]
    clear hL ht
    have hxm:=HS.out.xm
    have hmx:Bm ≠ Bx:=fun e=>hxm e.symm
    by_cases hbig:48<t5
    ·have hbi:(48:Int)<(t5:Int):=by omega
     have hnf:=iW (neg:=true) (l:=l) (k:=k+1) (by rw [<- HNX.out.1];exact hbig)
     have HNF:=hid hnf
     have s0:w4.cell? ⟨Bx,0,none⟩=some (.bool false):=by rw [cell_of_row w4 _ _ _ _ _ HX4.out];rfl
     have s1:w4.cell? ⟨Bx,1,none⟩=some (.slice none 0 0):=by rw [cell_of_row w4 _ _ _ _ _ HX4.out];rfl
     have s2:w4.frozen? ⟨Bx,0,none⟩=false:=by simp [World.frozen?,HX4.out]
     have s3:w4.frozen? ⟨Bx,1,none⟩=false:=by simp [World.frozen?,HX4.out]
     have KS:ah (fun x=>x=Bm) w4 (w4.setCell ⟨Bm,0,none⟩ (.slice A2 t5 c2)):=cG (S:=fun x=>x=Bm) rfl 0 _
     have HE2:=hid (bD (KS.heap HX4.out hxm) (.bool false) (.slice none 0 0))
     have HKE:=hid (cu (HKA.out.into KS (by rintro i rfl;exact HS.out.wm)) HBX.out (.bool false) (.slice none 0 0))
     clear hbig hnf KS
     try dsimp only
     go_wp2_with fail
     obtain ⟨e0,e1⟩:=HE2.out
     refine bodyPost_ret (v:=.tuple #[al false none 0 0,.int .i64 6]) ?_ rfl ?_
     ·simp [results,Tryz.results129,go_sem,e0,e1]
     ·unfold bp
      rw [HPV.out]
      exact ⟨HKE.out,.inl ⟨HNF.out,rfl⟩⟩
    ·have hbi:decide ((48:Int)<(t5:Int))=false:=dF (by omega)
     have HN5:=hid (HNX.out.2 (by omega))
     try dsimp only
     go_wp2_with fail
     go_roundw
     case rel=>exact ⟨k+1,_,_,_,by omega,by go_num,HN5.out⟩
     case measure=>simp [RowKit.intOf];omega
   ·have hd:decide ((k:Int)<(l.length:Int))=false:=dF (by omega)
    have ek:k=l.length:=by omega
    have hE:ci true (aA (ak (l.take k)))=(if true=true then -(ak l:Int) else (ak l:Int)):=by rw [jL,ek,List.take_length]
    have HEQ:=hid hE
    have hLm:=HS.out.own.toLimbs (aw BB2 _) (by omega)
    have HR:=hid (fun (e:Ending) (w2:World)=>lU (x:=ci true (aA (ak (l.take k)))) (e:=e) (w2:=w2) HS.out.K HBX.out (az HS.out.x) HS.out.x)
    clear hE ek
    go_wp2_with fail
    refine (ke true A n c _ _ hLm).mono ?_
    intro e w9 hres
    obtain ⟨ng,A9,n9,c9,f9,rfl,c0,c1,f0,f1,e0,e1,P⟩:=HR.out _ _ hres
    rw [HEQ.out] at P
    have HP9:=hid P
    have HEE:=hid (And.intro e0 e1)
    clear hres P hLm e0 e1
    try dsimp only
    go_wp2_with fail
    refine bodyPost_ret (v:=.tuple #[al ng A9 n9 c9,.int .i64 f9]) ?_ rfl (by unfold bp;rw [HPV.out];exact HP9.out)
    obtain ⟨e0,e1⟩:=HEE.out
    simp [results,Tryz.results129,go_sem,e0,e1]
 ·have hP:aJ s.data.toList=none:=by
   unfold aJ
   rw [if_pos (.inr (by simpa using hA))]
  have HPV:=hid hP
  have HA:=hid hA
  clear hE hP hA hsz
  go_enter Tryz.func129,Tryz.ntmps129
  go_wp2_with fail
  refine (Tryz.strings_HasPrefix s ⟨#[45]⟩ _).mono ?_
  rintro e w1 ⟨rfl,rfl⟩
  rw [show Lib.hasPrefix s.data.toList (⟨#[45]⟩:ByteArray).data.toList=true from HN.out]
  try dsimp only
  go_wp2_with fail
  refine (bQ (s.extract 1 s.size) _ HSZ.out).mono ?_
  rintro e w2 ⟨rfl,k2⟩
  obtain ⟨t,ht⟩:∃ t:ByteArray,t=⟨(Lib.trimS (s.extract 1 s.size).data.toList [48,49,50,51,52,53,54,55,56,57]).toArray⟩:=⟨_,rfl⟩
  rw [<- ht]
  have hte:t.toList.isEmpty=false:=by
   rw [Lib.toList_data,ht]
   show (Lib.trimS (s.extract 1 s.size).data.toList [48,49,50,51,52,53,54,55,56,57]).isEmpty=false
   rw [H2.out]
   cases h:Lib.trimS (aZ s.data.toList) [48,49,50,51,52,53,54,55,56,57] with
   | nil=>exact absurd ((du _).1 h) HA.out
   | cons _ _=>rfl
  have K2:=HK.out.trans k2
  have hb2:=k2.heap HB.out (by simp)
  clear ht
  try dsimp only
  have r0:w2.cell? ⟨w.heap.size,0,none⟩=some (.bool false):=by rw [cell_of_row w2 _ _ _ _ _ hb2];rfl
  have r1:w2.cell? ⟨w.heap.size,1,none⟩=some (.slice none 0 0):=by rw [cell_of_row w2 _ _ _ _ _ hb2];rfl
  have f0:w2.frozen? ⟨w.heap.size,0,none⟩=false:=by simp [World.frozen?,hb2]
  have f1:w2.frozen? ⟨w.heap.size,1,none⟩=false:=by simp [World.frozen?,hb2]
  have HE2:=hid (bD hb2 (.bool false) (.slice none 0 0))
  have HKE:=hid (cu K2 (Nat.le_refl w.heap.size) (.bool false) (.slice none 0 0))
  clear K2 k2 hb2
  go_wp2_with fail
  obtain ⟨e0,e1⟩:=HE2.out
  refine bodyPost_ret (v:=.tuple #[al false none 0 0,.int .i64 9]) ?_ rfl ?_
  ·simp [results,Tryz.results129,go_sem,e0,e1]
  ·unfold bp
   rw [HPV.out]
   exact ⟨rfl,HKE.out⟩
theorem o4 (s:ByteArray) (w:World) (hs:s.size<=1000000) (hneg:Lib.hasPrefix s.data.toList [45]=false) (hplus:Lib.hasPrefix s.data.toList [43]=true):Calls Tryz.prog 129 #[.string s] w (bp s.data.toList w):=by
 have K:K0 w (w.alloc (.cells #[.bool false,.slice none 0 0] 24)):=kR.alloc _
 have hb:(w.alloc (.cells #[.bool false,.slice none 0 0] 24)).heap[w.heap.size]? = some (.cells #[.bool false,.slice none 0 0] 24 (0,0)):=hN w _
 have HK:=hid K
 have HB:=hid hb
 obtain ⟨h1,h2⟩:=jn hplus
 have hbody:aZ s.data.toList=s.data.toList.drop 1:=by unfold aZ ip;rw [hneg,hplus];rfl
 rw [<- hbody] at h2
 have HN:=hid hneg
 have HP:=hid hplus
 have H2:=hid h2
 have hsz:(aZ s.data.toList).length<=1000000:=by
  unfold aZ
  have:=Lib.size_eq s
  split
  ·rw [List.length_drop];omega
  ·omega
 have HSZ:=hid (show ((s.extract 1 s.size)).size<=9223372036854775807 from by rw [Lib.size_eq,h2];omega)
 clear K hb hbody h2 hneg hplus
 by_cases hE:aZ s.data.toList=[]
 ·have hP:aJ s.data.toList=none:=by unfold aJ;rw [if_pos (.inl hE)]
  have he:(s.extract 1 s.size).toList.isEmpty=true:=by rw [Lib.toList_data,H2.out,hE];rfl
  have HPV:=hid hP
  clear hE hP hsz
  go_enter Tryz.func129,Tryz.ntmps129
  go_wp2_with fail
  refine (Tryz.strings_HasPrefix s ⟨#[45]⟩ _).mono ?_
  rintro e w1 ⟨rfl,rfl⟩
  rw [show Lib.hasPrefix s.data.toList (⟨#[45]⟩:ByteArray).data.toList=false from HN.out]
  try dsimp only
  go_wp2_with fail
  refine (Tryz.strings_HasPrefix s ⟨#[43]⟩ _).mono ?_
  rintro e w1 ⟨rfl,rfl⟩
  rw [show Lib.hasPrefix s.data.toList (⟨#[43]⟩:ByteArray).data.toList=true from HP.out]
  try dsimp only
  go_wp2_with fail
  have KE:K0 w (w.alloc (.cells #[.bool false,.slice none 0 0] 24)):=HK.out
  refine bodyPost_ret (v:=.tuple #[al false none 0 0,.int .i64 9]) ?_ rfl ?_
  ·simp [results,Tryz.results129,go_sem]
  ·unfold bp
   rw [HPV.out]
   exact ⟨rfl,KE⟩
 have he:(s.extract 1 s.size).toList.isEmpty=false:=by
  rw [Lib.toList_data,H2.out]
  cases h:aZ s.data.toList with
  | nil=>exact absurd h hE
  | cons _ _=>rfl
 by_cases hA:(aZ s.data.toList).all eC=true
 ·have hP:aJ s.data.toList=some (if false=true then -(ak (aZ s.data.toList):Int) else (ak (aZ s.data.toList):Int)):=by
   unfold aJ
   rw [if_neg (by simp [hE,hA]),HN.out]
  have HPV:=hid hP
  have HA:=hid hA
  clear hE hP hA
  go_enter Tryz.func129,Tryz.ntmps129
  go_wp2_with fail
  refine (Tryz.strings_HasPrefix s ⟨#[45]⟩ _).mono ?_
  rintro e w1 ⟨rfl,rfl⟩
  rw [show Lib.hasPrefix s.data.toList (⟨#[45]⟩:ByteArray).data.toList=false from HN.out]
  try dsimp only
  go_wp2_with fail
  refine (Tryz.strings_HasPrefix s ⟨#[43]⟩ _).mono ?_
  rintro e w1 ⟨rfl,rfl⟩
  rw [show Lib.hasPrefix s.data.toList (⟨#[43]⟩:ByteArray).data.toList=true from HP.out]
  try dsimp only
  go_wp2_with fail
  refine (bQ (s.extract 1 s.size) _ HSZ.out).mono ?_
  rintro e w2 ⟨rfl,k2⟩
  obtain ⟨t,ht⟩:∃ t:ByteArray,t=⟨(Lib.trimS (s.extract 1 s.size).data.toList [48,49,50,51,52,53,54,55,56,57]).toArray⟩:=⟨_,rfl⟩
  rw [<- ht]
  have hte:t.toList.isEmpty=true:=by
   rw [Lib.toList_data,ht]
   show (Lib.trimS (s.extract 1 s.size).data.toList [48,49,50,51,52,53,54,55,56,57]).isEmpty=true
   rw [H2.out]
   rw [(du _).2 HA.out];rfl
  have K2:=HK.out.trans k2
  have hb2:=k2.heap HB.out (by simp)
  clear ht
  try dsimp only
  generalize hBx:w.heap.size=Bx at hb2 ⊢
  have HBX:=hid (Nat.le_of_eq hBx)
  have HB2:=hid hb2
  clear hBx hb2 k2
  have HLT:=hid (az HB2.out)
  go_wp2_with fail
  have KW:K0 w (w2.alloc (.cells #[.slice none 0 0] 22)):=K2.alloc _
  have hm:(w2.alloc (.cells #[.slice none 0 0] 22)).heap[w2.heap.size]? = some (.cells #[.slice none 0 0] 22 (0,0)):=hN w2 _
  have hx:(w2.alloc (.cells #[.slice none 0 0] 22)).heap[Bx]? = some (.cells #[.bool false,.slice none 0 0] 24 (0,0)):=by
   rw [Below.heap_alloc _ _ _ HLT.out];exact HB2.out
  have hxm:Bx ≠ w2.heap.size:=by have:=HLT.out;omega
  have hwm:w.heap.size<=w2.heap.size:=K2.size
  generalize w2.heap.size=Bm at hm hxm hwm ⊢
  generalize w2.alloc (.cells #[.slice none 0 0] 22)=W at KW hm hx ⊢
  have hconv:=run_bytes_of_string (P:=Tryz.prog) W 9 70 5 (s.extract 1 s.size) rfl rfl rfl
  have hds:((s.extract 1 s.size)).size=(aZ s.data.toList).length:=(Lib.size_eq _).trans (congrArg List.length H2.out)
  have HST:=hid (fun (w3:World) (bb:Nat) (C:Array Value) (fr:Nat × Nat) (hbb:bb=W.heap.size) (e:w3=W.drew.alloc (.cells C 5 fr))=>fW.start (l:=aZ s.data.toList) hx hm KW hxm hwm hbb e)
  clear HB HK HB2 K2 KW hm hx hxm hwm HLT
  generalize hcap:grownCap W ((s.extract 1 s.size)).size 0 5=cap at hconv
  clear hcap
  generalize hC:bytesRow (s.extract 1 s.size) cap=C at hconv
  generalize hfr:(C.size,C.size+1)=fr at hconv
  clear hfr
  generalize hw3:W.drew.alloc (.cells C 5 fr)=w3 at hconv
  generalize hbb:W.heap.size=bb at hconv
  have hst:=HST.out w3 bb C fr hbb.symm hw3.symm
  have hbyte:=fun (k n c:Nat) (A:Option Addr) (wr:World) (H:fW w Bx Bm bb (.cells C 5 fr) (aZ s.data.toList) k A n c wr) (hk:k<(aZ s.data.toList).length)=>fW.byte (d:=(s.extract 1 s.size)) (cap:=cap) (by rw [hC];exact H) H2.out hk
  rw [hds] at hconv
  clear HST hw3 hbb hC hds
  have HBY:=hid hbyte
  have HST:=hid hst
  clear hbyte hst
  generalize hl:aZ s.data.toList=l at *
  clear hl
  rw [hconv]
  try dsimp only
  go_wp2_with fail
  clear hconv he hte h1
  go_loopw [30] (fun iv wr=>∃ (k:Nat) (A:Option Addr) (n c:Nat),k<=l.length/\iv=.int .i64 (k:Int)/\fW w Bx Bm bb (.cells C 5 fr) l k A n c wr) (fun iv _=>l.length - (RowKit.intOf iv).toNat)
  case atStart=>exact ⟨0,_,_,_,Nat.zero_le _,rfl,HST.out⟩
  case round=>
   clear HST
   obtain ⟨k,A,n,c,hk,rfl,st⟩:=hrel
   have HS:=hid st
   have cm:wr.cell? ⟨Bm,0,none⟩=some (.slice A n c):=by rw [cell_of_row wr _ _ _ _ _ st.m];rfl
   have hBm:=az st.m
   have hn:=st.n
   clear st
   by_cases hkl:k<l.length
   ·have i0:(0:Int)<=(k:Int):=by omega
    have i1:(k:Int)<(l.length:Int):=by omega
    have hby:=HBY.out k n c A wr HS.out hkl
    have hdg:=List.all_eq_true.1 HA.out _ (List.getElem_mem hkl)
    have HD:=hid hdg
    have hdg2:=(cI _).1 hdg
    have e48:(l[k].toNat:Int)=((48+(l[k].toNat - 48):Nat):Int):=by omega
    have HDG:=hid (And.intro hdg2 e48)
    rw [e48] at hby
    obtain ⟨dg,hdge⟩:∃ x,x=l[k].toNat - 48:=⟨_,rfl⟩
    have HDGE:=hid hdge
    rw [<- hdge] at hby
    clear hdg hdg2 e48 hdge
    have HR:=hid (show Calls Tryz.prog 155 #[.int .i64 ((n:Int)+1),.func (.func 156) #[] #[.pointer (some ⟨wr.heap.size,0,none⟩),.pointer (some ⟨Bm,0,none⟩)]] (wr.alloc (.cells #[.int .u8 (48+(dg:Int))] 5)) (gU (cB BB (cW (aA (ak (l.take k))) dg) (n+1)) (wr.alloc (.cells #[.int .u8 (48+(dg:Int))] 5))) from
     ma Bm wr.heap.size A n c (aA (ak (l.take k))) dg _ ((HS.out.own.toLimbs (aw BB2 _) (by omega)).keep0 (kR.alloc _)) (by omega) (by rw [Below.heap_alloc _ _ _ hBm];exact HS.out.m) (hN wr _) (by have:=HDG.out.1;have:=HDGE.out;omega))
    go_wp2_with fail
    refine HR.out.mono ?_
    rintro e w4 ⟨A2,n2,c2,rfl,own,k4⟩
    obtain rfl:n2=n+1:=by have:=own.len;rw [eW] at this;exact this.symm
    have low2:Low BB (cB BB (cW (aA (ak (l.take k))) dg) (n+1)):=eV (by unfold BB;omega) _ _
    have hL:=own.toLimbs low2 (by omega)
    obtain ⟨t5,ht⟩:∃ x,x=cM (cB BB (cW (aA (ak (l.take k))) dg) (n+1)):=⟨_,rfl⟩
    have hNX:=HS.out.next (u:=.int .u8 (48+(dg:Int))) hkl HD.out (A':=A2) (c':=c2) (w4:=w4) (by rw [<- HDGE.out];exact own) k4 t5 (by rw [<- HDGE.out];exact ht)
    have KA:K0 wr w4:=(kR.alloc _).trans k4
    have hm4:=KA.heap HS.out.m (by simp)
    have hx4:=KA.heap HS.out.x (by simp)
    have q0:w4.cell? ⟨Bm,0,none⟩=some (.slice A n c):=by rw [cell_of_row w4 _ _ _ _ _ hm4];rfl
    have q1:w4.frozen? ⟨Bm,0,none⟩=false:=by simp [World.frozen?,hm4]
    have HT:=hid ht
    have HNX:=hid hNX
    have HX4:=hid hx4
    have HKA:=hid (HS.out.K.trans KA)
    clear HR own k4 low2 hNX KA hm4 hx4 cm hBm
    try dsimp only
    go_wp2_with fail
    refine (cE A2 (n+1) c2 _ w4 hL).mono ?_
    rintro e wx ⟨rfl,rfl⟩
    rw [<- HT.out]
    clear hL ht
    have hxm:=HS.out.xm
    have hmx:Bm ≠ Bx:=fun e=>hxm e.symm
    by_cases hbig:48<t5
    ·have hbi:(48:Int)<(t5:Int):=by omega
     have hnf:=iW (neg:=false) (l:=l) (k:=k+1) (by rw [<- HNX.out.1];exact hbig)
     have HNF:=hid hnf
     have s0:w4.cell? ⟨Bx,0,none⟩=some (.bool false):=by rw [cell_of_row w4 _ _ _ _ _ HX4.out];rfl
     have s1:w4.cell? ⟨Bx,1,none⟩=some (.slice none 0 0):=by rw [cell_of_row w4 _ _ _ _ _ HX4.out];rfl
     have s2:w4.frozen? ⟨Bx,0,none⟩=false:=by simp [World.frozen?,HX4.out]
     have s3:w4.frozen? ⟨Bx,1,none⟩=false:=by simp [World.frozen?,HX4.out]
     have KS:ah (fun x=>x=Bm) w4 (w4.setCell ⟨Bm,0,none⟩ (.slice A2 t5 c2)):=cG (S:=fun x=>x=Bm) rfl 0 _
     have HE2:=hid (bD (KS.heap HX4.out hxm) (.bool false) (.slice none 0 0))
     have HKE:=hid (cu (HKA.out.into KS (by rintro i rfl;exact HS.out.wm)) HBX.out (.bool false) (.slice none 0 0))
     clear hbig hnf KS
     try dsimp only
     go_wp2_with fail
     obtain ⟨e0,e1⟩:=HE2.out
     refine bodyPost_ret (v:=.tuple #[al false none 0 0,.int .i64 6]) ?_ rfl ?_
     ·simp [results,Tryz.results129,go_sem,e0,e1]
     ·unfold bp
      rw [HPV.out]
      exact ⟨HKE.out,.inl ⟨HNF.out,rfl⟩⟩
    ·have hbi:decide ((48:Int)<(t5:Int))=false:=dF (by omega)
     have HN5:=hid (HNX.out.2 (by omega))
     try dsimp only
     go_wp2_with fail
     go_roundw
     case rel=>exact ⟨k+1,_,_,_,by omega,by go_num,HN5.out⟩
     case measure=>simp [RowKit.intOf];omega
   ·have hd:decide ((k:Int)<(l.length:Int))=false:=dF (by omega)
    have ek:k=l.length:=by omega
    have hE:ci false (aA (ak (l.take k)))=(if false=true then -(ak l:Int) else (ak l:Int)):=by rw [jL,ek,List.take_length]
    have HEQ:=hid hE
    have hLm:=HS.out.own.toLimbs (aw BB2 _) (by omega)
    have HR:=hid (fun (e:Ending) (w2:World)=>lU (x:=ci false (aA (ak (l.take k)))) (e:=e) (w2:=w2) HS.out.K HBX.out (az HS.out.x) HS.out.x)
    clear hE ek
    go_wp2_with fail
    refine (ke false A n c _ _ hLm).mono ?_
    intro e w9 hres
    obtain ⟨ng,A9,n9,c9,f9,rfl,c0,c1,f0,f1,e0,e1,P⟩:=HR.out _ _ hres
    rw [HEQ.out] at P
    have HP9:=hid P
    have HEE:=hid (And.intro e0 e1)
    clear hres P hLm e0 e1
    try dsimp only
    go_wp2_with fail
    refine bodyPost_ret (v:=.tuple #[al ng A9 n9 c9,.int .i64 f9]) ?_ rfl (by unfold bp;rw [HPV.out];exact HP9.out)
    obtain ⟨e0,e1⟩:=HEE.out
    simp [results,Tryz.results129,go_sem,e0,e1]
 ·have hP:aJ s.data.toList=none:=by
   unfold aJ
   rw [if_pos (.inr (by simpa using hA))]
  have HPV:=hid hP
  have HA:=hid hA
  clear hE hP hA hsz
  go_enter Tryz.func129,Tryz.ntmps129
  go_wp2_with fail
  refine (Tryz.strings_HasPrefix s ⟨#[45]⟩ _).mono ?_
  rintro e w1 ⟨rfl,rfl⟩
  rw [show Lib.hasPrefix s.data.toList (⟨#[45]⟩:ByteArray).data.toList=false from HN.out]
  try dsimp only
  go_wp2_with fail
  refine (Tryz.strings_HasPrefix s ⟨#[43]⟩ _).mono ?_
  rintro e w1 ⟨rfl,rfl⟩
  rw [show Lib.hasPrefix s.data.toList (⟨#[43]⟩:ByteArray).data.toList=true from HP.out]
  try dsimp only
  go_wp2_with fail
  refine (bQ (s.extract 1 s.size) _ HSZ.out).mono ?_
  rintro e w2 ⟨rfl,k2⟩
  obtain ⟨t,ht⟩:∃ t:ByteArray,t=⟨(Lib.trimS (s.extract 1 s.size).data.toList [48,49,50,51,52,53,54,55,56,57]).toArray⟩:=⟨_,rfl⟩
  rw [<- ht]
  have hte:t.toList.isEmpty=false:=by
   rw [Lib.toList_data,ht]
   show (Lib.trimS (s.extract 1 s.size).data.toList [48,49,50,51,52,53,54,55,56,57]).isEmpty=false
   rw [H2.out]
   cases h:Lib.trimS (aZ s.data.toList) [48,49,50,51,52,53,54,55,56,57] with
   | nil=>exact absurd ((du _).1 h) HA.out
   | cons _ _=>rfl
  have K2:=HK.out.trans k2
  have hb2:=k2.heap HB.out (by simp)
  clear ht
  try dsimp only
  have r0:w2.cell? ⟨w.heap.size,0,none⟩=some (.bool false):=by rw [cell_of_row w2 _ _ _ _ _ hb2];rfl
  have r1:w2.cell? ⟨w.heap.size,1,none⟩=some (.slice none 0 0):=by rw [cell_of_row w2 _ _ _ _ _ hb2];rfl
  have f0:w2.frozen? ⟨w.heap.size,0,none⟩=false:=by simp [World.frozen?,hb2]
  have f1:w2.frozen? ⟨w.heap.size,1,none⟩=false:=by simp [World.frozen?,hb2]
  have HE2:=hid (bD hb2 (.bool false) (.slice none 0 0))
  have HKE:=hid (cu K2 (Nat.le_refl w.heap.size) (.bool false) (.slice none 0 0))
  clear K2 k2 hb2
  go_wp2_with fail
  obtain ⟨e0,e1⟩:=HE2.out
  refine bodyPost_ret (v:=.tuple #[al false none 0 0,.int .i64 9]) ?_ rfl ?_
  ·simp [results,Tryz.results129,go_sem,e0,e1]
  ·unfold bp
   rw [HPV.out]
   exact ⟨rfl,HKE.out⟩
theorem o5 (s:ByteArray) (w:World) (hs:s.size<=1000000) (hneg:Lib.hasPrefix s.data.toList [45]=false) (hplus:Lib.hasPrefix s.data.toList [43]=false):Calls Tryz.prog 129 #[.string s] w (bp s.data.toList w):=by
 have K:K0 w (w.alloc (.cells #[.bool false,.slice none 0 0] 24)):=kR.alloc _
 have hb:(w.alloc (.cells #[.bool false,.slice none 0 0] 24)).heap[w.heap.size]? = some (.cells #[.bool false,.slice none 0 0] 24 (0,0)):=hN w _
 have HK:=hid K
 have HB:=hid hb
 have hbody:aZ s.data.toList=s.data.toList:=by unfold aZ ip;rw [hneg,hplus];rfl
 have h2:s.data.toList=aZ s.data.toList:=hbody.symm
 have HN:=hid hneg
 have HP:=hid hplus
 have H2:=hid h2
 have hsz:(aZ s.data.toList).length<=1000000:=by
  unfold aZ
  have:=Lib.size_eq s
  split
  ·rw [List.length_drop];omega
  ·omega
 have HSZ:=hid (show (s).size<=9223372036854775807 from by rw [Lib.size_eq,h2];omega)
 clear K hb hbody h2 hneg hplus
 by_cases hE:aZ s.data.toList=[]
 ·have hP:aJ s.data.toList=none:=by unfold aJ;rw [if_pos (.inl hE)]
  have he:s.toList.isEmpty=true:=by rw [Lib.toList_data,H2.out,hE];rfl
  have HPV:=hid hP
  clear hE hP hsz
  go_enter Tryz.func129,Tryz.ntmps129
  go_wp2_with fail
  refine (Tryz.strings_HasPrefix s ⟨#[45]⟩ _).mono ?_
  rintro e w1 ⟨rfl,rfl⟩
  rw [show Lib.hasPrefix s.data.toList (⟨#[45]⟩:ByteArray).data.toList=false from HN.out]
  try dsimp only
  go_wp2_with fail
  refine (Tryz.strings_HasPrefix s ⟨#[43]⟩ _).mono ?_
  rintro e w1 ⟨rfl,rfl⟩
  rw [show Lib.hasPrefix s.data.toList (⟨#[43]⟩:ByteArray).data.toList=false from HP.out]
  try dsimp only
  go_wp2_with fail
  have KE:K0 w (w.alloc (.cells #[.bool false,.slice none 0 0] 24)):=HK.out
  refine bodyPost_ret (v:=.tuple #[al false none 0 0,.int .i64 9]) ?_ rfl ?_
  ·simp [results,Tryz.results129,go_sem]
  ·unfold bp
   rw [HPV.out]
   exact ⟨rfl,KE⟩
 have he:s.toList.isEmpty=false:=by
  rw [Lib.toList_data,H2.out]
  cases h:aZ s.data.toList with
  | nil=>exact absurd h hE
  | cons _ _=>rfl
 by_cases hA:(aZ s.data.toList).all eC=true
 ·have hP:aJ s.data.toList=some (if false=true then -(ak (aZ s.data.toList):Int) else (ak (aZ s.data.toList):Int)):=by
   unfold aJ
   rw [if_neg (by simp [hE,hA]),HN.out]
  have HPV:=hid hP
  have HA:=hid hA
  clear hE hP hA
  go_enter Tryz.func129,Tryz.ntmps129
  go_wp2_with fail
  refine (Tryz.strings_HasPrefix s ⟨#[45]⟩ _).mono ?_
  rintro e w1 ⟨rfl,rfl⟩
  rw [show Lib.hasPrefix s.data.toList (⟨#[45]⟩:ByteArray).data.toList=false from HN.out]
  try dsimp only
  go_wp2_with fail
  refine (Tryz.strings_HasPrefix s ⟨#[43]⟩ _).mono ?_
  rintro e w1 ⟨rfl,rfl⟩
  rw [show Lib.hasPrefix s.data.toList (⟨#[43]⟩:ByteArray).data.toList=false from HP.out]
  try dsimp only
  go_wp2_with fail
  refine (bQ s _ HSZ.out).mono ?_
  rintro e w2 ⟨rfl,k2⟩
  obtain ⟨t,ht⟩:∃ t:ByteArray,t=⟨(Lib.trimS s.data.toList [48,49,50,51,52,53,54,55,56,57]).toArray⟩:=⟨_,rfl⟩
  rw [<- ht]
  have hte:t.toList.isEmpty=true:=by
   rw [Lib.toList_data,ht]
   show (Lib.trimS s.data.toList [48,49,50,51,52,53,54,55,56,57]).isEmpty=true
   rw [H2.out]
   rw [(du _).2 HA.out];rfl
  have K2:=HK.out.trans k2
  have hb2:=k2.heap HB.out (by simp)
  clear ht
  try dsimp only
  generalize hBx:w.heap.size=Bx at hb2 ⊢
  have HBX:=hid (Nat.le_of_eq hBx)
  have HB2:=hid hb2
  clear hBx hb2 k2
  have HLT:=hid (az HB2.out)
  go_wp2_with fail
  have KW:K0 w (w2.alloc (.cells #[.slice none 0 0] 22)):=K2.alloc _
  have hm:(w2.alloc (.cells #[.slice none 0 0] 22)).heap[w2.heap.size]? = some (.cells #[.slice none 0 0] 22 (0,0)):=hN w2 _
  have hx:(w2.alloc (.cells #[.slice none 0 0] 22)).heap[Bx]? = some (.cells #[.bool false,.slice none 0 0] 24 (0,0)):=by
   rw [Below.heap_alloc _ _ _ HLT.out];exact HB2.out
  have hxm:Bx ≠ w2.heap.size:=by have:=HLT.out;omega
  have hwm:w.heap.size<=w2.heap.size:=K2.size
  generalize w2.heap.size=Bm at hm hxm hwm ⊢
  generalize w2.alloc (.cells #[.slice none 0 0] 22)=W at KW hm hx ⊢
  have hconv:=run_bytes_of_string (P:=Tryz.prog) W 9 70 5 s rfl rfl rfl
  have hds:(s).size=(aZ s.data.toList).length:=(Lib.size_eq _).trans (congrArg List.length H2.out)
  have HST:=hid (fun (w3:World) (bb:Nat) (C:Array Value) (fr:Nat × Nat) (hbb:bb=W.heap.size) (e:w3=W.drew.alloc (.cells C 5 fr))=>fW.start (l:=aZ s.data.toList) hx hm KW hxm hwm hbb e)
  clear HB HK HB2 K2 KW hm hx hxm hwm HLT
  generalize hcap:grownCap W (s).size 0 5=cap at hconv
  clear hcap
  generalize hC:bytesRow s cap=C at hconv
  generalize hfr:(C.size,C.size+1)=fr at hconv
  clear hfr
  generalize hw3:W.drew.alloc (.cells C 5 fr)=w3 at hconv
  generalize hbb:W.heap.size=bb at hconv
  have hst:=HST.out w3 bb C fr hbb.symm hw3.symm
  have hbyte:=fun (k n c:Nat) (A:Option Addr) (wr:World) (H:fW w Bx Bm bb (.cells C 5 fr) (aZ s.data.toList) k A n c wr) (hk:k<(aZ s.data.toList).length)=>fW.byte (d:=s) (cap:=cap) (by rw [hC];exact H) H2.out hk
  rw [hds] at hconv
  clear HST hw3 hbb hC hds
  have HBY:=hid hbyte
  have HST:=hid hst
  clear hbyte hst
  generalize hl:aZ s.data.toList=l at *
  clear hl
  rw [hconv]
  try dsimp only
  go_wp2_with fail
  clear hconv he hte
  go_loopw [30] (fun iv wr=>∃ (k:Nat) (A:Option Addr) (n c:Nat),k<=l.length/\iv=.int .i64 (k:Int)/\fW w Bx Bm bb (.cells C 5 fr) l k A n c wr) (fun iv _=>l.length - (RowKit.intOf iv).toNat)
  case atStart=>exact ⟨0,_,_,_,Nat.zero_le _,rfl,HST.out⟩
  case round=>
   clear HST
   obtain ⟨k,A,n,c,hk,rfl,st⟩:=hrel
   have HS:=hid st
   have cm:wr.cell? ⟨Bm,0,none⟩=some (.slice A n c):=by rw [cell_of_row wr _ _ _ _ _ st.m];rfl
   have hBm:=az st.m
   have hn:=st.n
   clear st
   by_cases hkl:k<l.length
   ·have i0:(0:Int)<=(k:Int):=by omega
    have i1:(k:Int)<(l.length:Int):=by omega
    have hby:=HBY.out k n c A wr HS.out hkl
    have hdg:=List.all_eq_true.1 HA.out _ (List.getElem_mem hkl)
    have HD:=hid hdg
    have hdg2:=(cI _).1 hdg
    have e48:(l[k].toNat:Int)=((48+(l[k].toNat - 48):Nat):Int):=by omega
    have HDG:=hid (And.intro hdg2 e48)
    rw [e48] at hby
    obtain ⟨dg,hdge⟩:∃ x,x=l[k].toNat - 48:=⟨_,rfl⟩
    have HDGE:=hid hdge
    rw [<- hdge] at hby
    clear hdg hdg2 e48 hdge
    have HR:=hid (show Calls Tryz.prog 155 #[.int .i64 ((n:Int)+1),.func (.func 156) #[] #[.pointer (some ⟨wr.heap.size,0,none⟩),.pointer (some ⟨Bm,0,none⟩)]] (wr.alloc (.cells #[.int .u8 (48+(dg:Int))] 5)) (gU (cB BB (cW (aA (ak (l.take k))) dg) (n+1)) (wr.alloc (.cells #[.int .u8 (48+(dg:Int))] 5))) from
     ma Bm wr.heap.size A n c (aA (ak (l.take k))) dg _ ((HS.out.own.toLimbs (aw BB2 _) (by omega)).keep0 (kR.alloc _)) (by omega) (by rw [Below.heap_alloc _ _ _ hBm];exact HS.out.m) (hN wr _) (by have:=HDG.out.1;have:=HDGE.out;omega))
    go_wp2_with fail
    refine HR.out.mono ?_
    rintro e w4 ⟨A2,n2,c2,rfl,own,k4⟩
    obtain rfl:n2=n+1:=by have:=own.len;rw [eW] at this;exact this.symm
    have low2:Low BB (cB BB (cW (aA (ak (l.take k))) dg) (n+1)):=eV (by unfold BB;omega) _ _
    have hL:=own.toLimbs low2 (by omega)
    obtain ⟨t5,ht⟩:∃ x,x=cM (cB BB (cW (aA (ak (l.take k))) dg) (n+1)):=⟨_,rfl⟩
    have hNX:=HS.out.next (u:=.int .u8 (48+(dg:Int))) hkl HD.out (A':=A2) (c':=c2) (w4:=w4) (by rw [<- HDGE.out];exact own) k4 t5 (by rw [<- HDGE.out];exact ht)
    have KA:K0 wr w4:=(kR.alloc _).trans k4
    have hm4:=KA.heap HS.out.m (by simp)
    have hx4:=KA.heap HS.out.x (by simp)
    have q0:w4.cell? ⟨Bm,0,none⟩=some (.slice A n c):=by rw [cell_of_row w4 _ _ _ _ _ hm4];rfl
    have q1:w4.frozen? ⟨Bm,0,none⟩=false:=by simp [World.frozen?,hm4]
    have HT:=hid ht
    have HNX:=hid hNX
    have HX4:=hid hx4
    have HKA:=hid (HS.out.K.trans KA)
    clear HR own k4 low2 hNX KA hm4 hx4 cm hBm
    try dsimp only
    go_wp2_with fail
    refine (cE A2 (n+1) c2 _ w4 hL).mono ?_
    rintro e wx ⟨rfl,rfl⟩
    rw [<- HT.out]
    clear hL ht
    have hxm:=HS.out.xm
    have hmx:Bm ≠ Bx:=fun e=>hxm e.symm
    by_cases hbig:48<t5
    ·have hbi:(48:Int)<(t5:Int):=by omega
     have hnf:=iW (neg:=false) (l:=l) (k:=k+1) (by rw [<- HNX.out.1];exact hbig)
     have HNF:=hid hnf
     have s0:w4.cell? ⟨Bx,0,none⟩=some (.bool false):=by rw [cell_of_row w4 _ _ _ _ _ HX4.out];rfl
     have s1:w4.cell? ⟨Bx,1,none⟩=some (.slice none 0 0):=by rw [cell_of_row w4 _ _ _ _ _ HX4.out];rfl
     have s2:w4.frozen? ⟨Bx,0,none⟩=false:=by simp [World.frozen?,HX4.out]
     have s3:w4.frozen? ⟨Bx,1,none⟩=false:=by simp [World.frozen?,HX4.out]
     have KS:ah (fun x=>x=Bm) w4 (w4.setCell ⟨Bm,0,none⟩ (.slice A2 t5 c2)):=cG (S:=fun x=>x=Bm) rfl 0 _
     have HE2:=hid (bD (KS.heap HX4.out hxm) (.bool false) (.slice none 0 0))
     have HKE:=hid (cu (HKA.out.into KS (by rintro i rfl;exact HS.out.wm)) HBX.out (.bool false) (.slice none 0 0))
     clear hbig hnf KS
     try dsimp only
     go_wp2_with fail
     obtain ⟨e0,e1⟩:=HE2.out
     refine bodyPost_ret (v:=.tuple #[al false none 0 0,.int .i64 6]) ?_ rfl ?_
     ·simp [results,Tryz.results129,go_sem,e0,e1]
     ·unfold bp
      rw [HPV.out]
      exact ⟨HKE.out,.inl ⟨HNF.out,rfl⟩⟩
    ·have hbi:decide ((48:Int)<(t5:Int))=false:=dF (by omega)
     have HN5:=hid (HNX.out.2 (by omega))
     try dsimp only
     go_wp2_with fail
     go_roundw
     case rel=>exact ⟨k+1,_,_,_,by omega,by go_num,HN5.out⟩
     case measure=>simp [RowKit.intOf];omega
   ·have hd:decide ((k:Int)<(l.length:Int))=false:=dF (by omega)
    have ek:k=l.length:=by omega
    have hE:ci false (aA (ak (l.take k)))=(if false=true then -(ak l:Int) else (ak l:Int)):=by rw [jL,ek,List.take_length]
    have HEQ:=hid hE
    have hLm:=HS.out.own.toLimbs (aw BB2 _) (by omega)
    have HR:=hid (fun (e:Ending) (w2:World)=>lU (x:=ci false (aA (ak (l.take k)))) (e:=e) (w2:=w2) HS.out.K HBX.out (az HS.out.x) HS.out.x)
    clear hE ek
    go_wp2_with fail
    refine (ke false A n c _ _ hLm).mono ?_
    intro e w9 hres
    obtain ⟨ng,A9,n9,c9,f9,rfl,c0,c1,f0,f1,e0,e1,P⟩:=HR.out _ _ hres
    rw [HEQ.out] at P
    have HP9:=hid P
    have HEE:=hid (And.intro e0 e1)
    clear hres P hLm e0 e1
    try dsimp only
    go_wp2_with fail
    refine bodyPost_ret (v:=.tuple #[al ng A9 n9 c9,.int .i64 f9]) ?_ rfl (by unfold bp;rw [HPV.out];exact HP9.out)
    obtain ⟨e0,e1⟩:=HEE.out
    simp [results,Tryz.results129,go_sem,e0,e1]
 ·have hP:aJ s.data.toList=none:=by
   unfold aJ
   rw [if_pos (.inr (by simpa using hA))]
  have HPV:=hid hP
  have HA:=hid hA
  clear hE hP hA hsz
  go_enter Tryz.func129,Tryz.ntmps129
  go_wp2_with fail
  refine (Tryz.strings_HasPrefix s ⟨#[45]⟩ _).mono ?_
  rintro e w1 ⟨rfl,rfl⟩
  rw [show Lib.hasPrefix s.data.toList (⟨#[45]⟩:ByteArray).data.toList=false from HN.out]
  try dsimp only
  go_wp2_with fail
  refine (Tryz.strings_HasPrefix s ⟨#[43]⟩ _).mono ?_
  rintro e w1 ⟨rfl,rfl⟩
  rw [show Lib.hasPrefix s.data.toList (⟨#[43]⟩:ByteArray).data.toList=false from HP.out]
  try dsimp only
  go_wp2_with fail
  refine (bQ s _ HSZ.out).mono ?_
  rintro e w2 ⟨rfl,k2⟩
  obtain ⟨t,ht⟩:∃ t:ByteArray,t=⟨(Lib.trimS s.data.toList [48,49,50,51,52,53,54,55,56,57]).toArray⟩:=⟨_,rfl⟩
  rw [<- ht]
  have hte:t.toList.isEmpty=false:=by
   rw [Lib.toList_data,ht]
   show (Lib.trimS s.data.toList [48,49,50,51,52,53,54,55,56,57]).isEmpty=false
   rw [H2.out]
   cases h:Lib.trimS (aZ s.data.toList) [48,49,50,51,52,53,54,55,56,57] with
   | nil=>exact absurd ((du _).1 h) HA.out
   | cons _ _=>rfl
  have K2:=HK.out.trans k2
  have hb2:=k2.heap HB.out (by simp)
  clear ht
  try dsimp only
  have r0:w2.cell? ⟨w.heap.size,0,none⟩=some (.bool false):=by rw [cell_of_row w2 _ _ _ _ _ hb2];rfl
  have r1:w2.cell? ⟨w.heap.size,1,none⟩=some (.slice none 0 0):=by rw [cell_of_row w2 _ _ _ _ _ hb2];rfl
  have f0:w2.frozen? ⟨w.heap.size,0,none⟩=false:=by simp [World.frozen?,hb2]
  have f1:w2.frozen? ⟨w.heap.size,1,none⟩=false:=by simp [World.frozen?,hb2]
  have HE2:=hid (bD hb2 (.bool false) (.slice none 0 0))
  have HKE:=hid (cu K2 (Nat.le_refl w.heap.size) (.bool false) (.slice none 0 0))
  clear K2 k2 hb2
  go_wp2_with fail
  obtain ⟨e0,e1⟩:=HE2.out
  refine bodyPost_ret (v:=.tuple #[al false none 0 0,.int .i64 9]) ?_ rfl ?_
  ·simp [results,Tryz.results129,go_sem,e0,e1]
  ·unfold bp
   rw [HPV.out]
   exact ⟨rfl,HKE.out⟩
theorem li (s:ByteArray) (w:World) (hs:s.size<=1000000):Calls Tryz.prog 129 #[.string s] w (bp s.data.toList w):=by
 by_cases h1:Lib.hasPrefix s.data.toList [45]=true
 ·exact rf s w hs h1
 ·by_cases h2:Lib.hasPrefix s.data.toList [43]=true
  ·exact o4 s w hs (by simpa using h1) h2
  ·exact o5 s w hs (by simpa using h1) (by simpa using h2)
end Go.Proofs.YtonnikipeokkaaaGreatDoor
