/-
  Numbers, by program: texts of another seat, turned to this o
-/
import Derived.Test.YtonnikipeokkaaaGreatDoorProg
import Derived.WalkKit
import Derived.Deep.MidRow
import Derived.Below
import Derived.Deep.QuietTactic
import Derived.BigQuiet
import Derived.Lib.Hide
import Derived.Laws.AppendOwn
import Derived.Laws.MakeOwn
import Derived.Deep.AppendLies
import Derived.WalkSpells
import Derived.WalkLawsBesides
import Derived.ArgAppend
import Derived.Deep.RegionHeld3
import Derived.Deep.DeepCutAuto
import Derived.Laws.BitsLemmas
import Derived.RegionTactic
import Derived.BigRegion
namespace Go.Proofs.YtonnikipeokkaaaGreatDoor
set_option maxRecDepth 100000
set_option maxHeartbeats 2000000
abbrev tkC (a0:Int) (a1:Int) (a2:Int) (a3:Bool) (a4:Int) (a5:Int) (a6:Bool) (a7:Option Addr) (a8 a9:Nat) (a10:ByteArray) (a11:Option Addr) (a12 a13:Nat):Array Value:=#[.int .i64 a0,.int .i64 a1,.int .i64 a2,.bool a3,.int .i64 a4,.int .i32 a5,.bool a6,.slice a7 a8 a9,.string a10,.slice a11 a12 a13]
abbrev rwC (a0:Int) (a1:Int) (a2:Bool) (a3:Option Addr) (a4 a5:Nat) (a6:ByteArray) (a7:Option Addr) (a8 a9:Nat):Array Value:=#[.int .i64 a0,.int .i32 a1,.bool a2,.slice a3 a4 a5,.string a6,.slice a7 a8 a9]
abbrev gtC (a0:Int) (a1:Int) (a2:Bool) (a3:Option Addr) (a4 a5:Nat) (a6:ByteArray) (a7:Option Addr) (a8 a9:Nat) (a10:Int) (a11:Int) (a12:Int):Array Value:=#[.int .i64 a0,.int .i32 a1,.bool a2,.slice a3 a4 a5,.string a6,.slice a7 a8 a9,.int .i64 a10,.int .i64 a11,.int .i64 a12]
open Go.Lib (hid)
abbrev hN:=@heap_alloc_new
abbrev dF:=@decide_eq_false
abbrev dT:=@decide_eq_true
abbrev bF:=@beq_eq_false_iff_ne
abbrev bL:=@World.block_lt_of_cell?
abbrev gD:=@List.getD_eq_getElem?_getD
abbrev gE:=@List.getElem?_eq_getElem
abbrev sA:=@ByteArray.size_append
abbrev rA:=@run_string_add_sum
def val (B:Nat):List Nat->Nat
 | []=>0
 | x :: l=>x+B * val B l
def d4 (B n:Nat):List Nat:=if _h:n=0\/B<2 then [] else n % B :: d4 B (n / B)
termination_by n
decreasing_by exact Nat.div_lt_self (by omega) (by omega)
def Low (B:Nat) (l:List Nat):Prop:=∀ x ∈ l,x<B
def fc (l:List Nat):Prop:=l.getLast? ≠ some 0
theorem bi (B:Nat):d4 B 0=[]:=by rw [d4];simp
theorem ey {B n:Nat} (hB:2<=B) (h:0<n):d4 B n=n % B :: d4 B (n / B):=by
 rw [d4,dif_neg (by omega)]
theorem bc {B:Nat} (hB:2<=B) (n:Nat):val B (d4 B n)=n:=by
 induction n using Nat.strongRecOn with
 | _ n ih=>
  rcases Nat.eq_zero_or_pos n with rfl | h
  ·rw [bi];rfl
  ·rw [ey hB h,val,ih _ (Nat.div_lt_self h (by omega))]
   exact Nat.mod_add_div n B
theorem aw {B:Nat} (hB:2<=B) (n:Nat):Low B (d4 B n):=by
 induction n using Nat.strongRecOn with
 | _ n ih=>
  rcases Nat.eq_zero_or_pos n with rfl | h
  ·rw [bi];intro x hx;cases hx
  ·rw [ey hB h]
   intro x hx
   rcases List.mem_cons.1 hx with rfl | hx
   ·exact Nat.mod_lt _ (by omega)
   ·exact ih _ (Nat.div_lt_self h (by omega)) x hx
theorem od {x:Nat} {l:List Nat} (h:fc l) (hx:l=[]->x ≠ 0):fc (x :: l):=by
 unfold fc at *
 cases l with
 | nil=>simpa using hx rfl
 | cons y l=>simpa [List.getLast?_cons_cons] using h
theorem jI {x:Nat} {l:List Nat} (h:fc (x :: l)):fc l:=by
 unfold fc at *
 cases l with
 | nil=>simp
 | cons y l=>simpa [List.getLast?_cons_cons] using h
theorem ez {B n:Nat} (hB:2<=B) (h:d4 B n=[]):n=0:=by
 have:=bc hB n
 rw [h] at this
 exact this.symm
theorem kt {B:Nat} (hB:2<=B) (n:Nat):fc (d4 B n):=by
 induction n using Nat.strongRecOn with
 | _ n ih=>
  rcases Nat.eq_zero_or_pos n with rfl | h
  ·rw [bi];simp [fc]
  ·rw [ey hB h]
   refine od (ih _ (Nat.div_lt_self h (by omega))) fun e=>?_
   have h0:=ez hB e
   have:=Nat.mod_add_div n B
   rw [h0] at this
   simp at this
   omega
theorem Low.tail {B x:Nat} {l:List Nat} (h:Low B (x :: l)):Low B l:=fun y hy=>h y (List.mem_cons_of_mem _ hy)
theorem Low.head {B x:Nat} {l:List Nat} (h:Low B (x :: l)):x<B:=h x List.mem_cons_self
theorem Low.nil (B:Nat):Low B []:=fun _ h=>absurd h (by simp)
theorem Low.append {B:Nat} {l m:List Nat} (h:Low B l) (k:Low B m):Low B (l++m):=fun x hx=>(List.mem_append.1 hx).elim (h x) (k x)
theorem Low.take {B:Nat} {l:List Nat} (h:Low B l) (n:Nat):Low B (l.take n):=fun x hx=>h x (List.mem_of_mem_take hx)
theorem Low.getD {B:Nat} (hB:0<B) {l:List Nat} (h:Low B l) (i:Nat):l.getD i 0<B:=by
 rw [gD]
 cases e:l[i]? with
 | none=>simpa using hB
 | some x=>exact h x (List.mem_of_getElem? e)
theorem pI {B:Nat}:∀ {l:List Nat},fc l->l ≠ []->0<B->0<val B l
 | [],_,h,_=>absurd rfl h
 | x :: l,t,_,hB=>by
  rw [val]
  cases l with
  | nil=>
   have:x ≠ 0:=by simpa [fc] using t
   omega
  | cons y l=>
   have:=pI (jI t) (by simp) hB
   have:=Nat.mul_pos hB this
   omega
theorem kq {B:Nat} (hB:2<=B):∀ {l:List Nat},Low B l->fc l->d4 B (val B l)=l
 | [],_,_=>by rw [val,bi]
 | x :: l,hl,ht=>by
  have ih:=kq hB hl.tail (jI ht)
  have h0:0<val B (x :: l):=pI ht (by simp) (by omega)
  have hx:=hl.head
  have e1:(x+B * val B l) % B=x:=by rw [Nat.add_mul_mod_self_left,Nat.mod_eq_of_lt hx]
  have e2:(x+B * val B l) / B=val B l:=by rw [Nat.add_mul_div_left _ _ (by omega),Nat.div_eq_of_lt hx,Nat.zero_add]
  rw [ey hB h0,val,e1,e2,ih]
theorem cK (B:Nat):∀ (l m:List Nat),val B (l++m)=val B l+B ^ l.length * val B m
 | [],m=>by simp [val]
 | x :: l,m=>by
  rw [List.cons_append,val,cK B l m,val,List.length_cons,Nat.pow_succ,Nat.mul_add]
  rw [Nat.mul_comm (B ^ l.length) B,Nat.mul_assoc]
  omega
theorem fq {B:Nat}:∀ {l:List Nat},Low B l->val B l<B ^ l.length
 | [],_=>by simp [val]
 | x :: l,h=>by
  have ih:=fq h.tail
  have hx:=h.head
  rw [val,List.length_cons,Nat.pow_succ,Nat.mul_comm (B ^ l.length) B]
  have:B * (val B l+1)<=B * B ^ l.length:=Nat.mul_le_mul_left _ ih
  rw [Nat.mul_add] at this
  omega
theorem j5 {B:Nat} (_hB:0<B) {l:List Nat} (ht:fc l) (h:l ≠ []):B ^ (l.length - 1)<=val B l:=by
 have e:=(List.dropLast_concat_getLast h).symm
 have e2:val B l=val B l.dropLast+B ^ (l.length - 1) * l.getLast h:=by
  conv=>lhs;rw [e]
  rw [cK,List.length_dropLast]
  simp [val]
 have hz:l.getLast h ≠ 0:=by
  intro e3
  exact ht (by rw [List.getLast?_eq_some_getLast h,e3])
 have:B ^ (l.length - 1) * 1<=B ^ (l.length - 1) * l.getLast h:=Nat.mul_le_mul_left _ (by omega)
 omega
theorem aM {B:Nat} (hB:2<=B) (n k:Nat):(d4 B n).length<=k ↔ n<B ^ k:=by
 constructor
 ·intro h
  have:=fq (aw hB n)
  rw [bc hB] at this
  exact Nat.lt_of_lt_of_le this (Nat.pow_le_pow_right (by omega) h)
 ·intro h
  rcases Nat.lt_or_ge k (d4 B n).length with h2 | h2
  ·have hne:d4 B n ≠ []:=by intro e;rw [e] at h2;simp at h2
   have h3:=j5 (by omega:0<B) (kt hB n) hne
   rw [bc hB] at h3
   have h4:B ^ k<=B ^ ((d4 B n).length - 1):=Nat.pow_le_pow_right (by omega) (by omega)
   omega
  ·exact h2
theorem bq (B:Nat) (l:List Nat) (i:Nat):val B (l.take (i+1))=val B (l.take i)+B ^ i * l.getD i 0:=by
 rcases Nat.lt_or_ge i l.length with h | h
 ·rw [List.take_succ_eq_append_getElem h,cK,List.length_take,Nat.min_eq_left (by omega)]
  simp [val,gD,gE h]
 ·rw [List.take_of_length_le (by omega),List.take_of_length_le h]
  simp [gD,List.getElem?_eq_none h]
theorem gx (B:Nat):∀ {l:List Nat},(∀ x ∈ l,x=0)->val B l=0
 | [],_=>rfl
 | x :: l,h=>by rw [val,h x List.mem_cons_self,gx B (fun y hy=>h y (List.mem_cons_of_mem _ hy))];simp
theorem fo (B:Nat) (l:List Nat) (n:Nat):val B l=val B (l.take n)+B ^ (l.take n).length * val B (l.drop n):=by
 conv=>lhs;rw [<- List.take_append_drop n l]
 rw [cK]
theorem kW {B:Nat} (hB:2<=B) {l:List Nat} (hl:Low B l) {n:Nat} (hn:n<=l.length) (hz:∀ j,n<=j->j<l.length->l.getD j 0=0) (h:n=0\/l.getD (n - 1) 0 ≠ 0) :
 l.take n=d4 B (val B l):=by
 have h0:val B (l.drop n)=0:=by
  refine gx B fun x hx=>?_
  obtain ⟨i,hi,e⟩:=List.mem_iff_getElem.1 hx
  rw [List.length_drop] at hi
  have:=hz (n+i) (by omega) (by omega)
  rw [gD,gE (by omega)] at this
  rw [List.getElem_drop] at e
  simp at this
  omega
 have e:=fo B l n
 rw [h0,Nat.mul_zero,Nat.add_zero] at e
 rw [e]
 refine (kq hB (hl.take n) ?_).symm
 unfold fc
 rcases h with rfl | h
 ·simp
 ·rw [List.getLast?_eq_getElem?,List.length_take,Nat.min_eq_left hn]
  rw [List.getElem?_take]
  rw [gD] at h
  split
  ·intro e2;rw [e2] at h;simp at h
  ·simp
theorem fM (B:Nat) (l:List Nat) (n:Nat) (h:l.length<=n):val B (l.take n)=val B l:=by rw [List.take_of_length_le h]
theorem ff {B:Nat} (_hB:0<B) {l:List Nat} (hl:Low B l) (i:Nat):val B (l.take i)<B ^ i:=by
 have h:=fq (hl.take i)
 exact Nat.lt_of_lt_of_le h (Nat.pow_le_pow_right (by omega) (by rw [List.length_take];omega))
def bx (B:Nat) (f:Nat->Nat->Nat):Nat->Nat
 | 0=>0
 | i+1=>f i (bx B f i) / B
def cB (B:Nat) (f:Nat->Nat->Nat) (n:Nat):List Nat:=(List.range n).map fun i=>f i (bx B f i) % B
theorem eW (B:Nat) (f:Nat->Nat->Nat) (n:Nat):(cB B f n).length=n:=by simp [cB]
theorem iS (B:Nat) (f:Nat->Nat->Nat) (n:Nat):cB B f (n+1)=cB B f n++[f n (bx B f n) % B]:=by
 unfold cB;rw [List.range_succ,List.map_append];rfl
theorem eV {B:Nat} (hB:0<B) (f:Nat->Nat->Nat) (n:Nat):Low B (cB B f n):=by
 intro x hx
 obtain ⟨i,_,rfl⟩:=List.mem_map.1 hx
 exact Nat.mod_lt _ hB
theorem fp (B:Nat) (f:Nat->Nat->Nat) (n:Nat):val B (cB B f (n+1))+B ^ (n+1) * bx B f (n+1)=val B (cB B f n)+B ^ n * f n (bx B f n):=by
 rw [iS,cK,eW,bx,Nat.pow_succ,Nat.mul_assoc]
 have h:=Nat.mod_add_div (f n (bx B f n)) B
 have:B ^ n * (f n (bx B f n))=B ^ n * (f n (bx B f n) % B)+B ^ n * (B * (f n (bx B f n) / B)):=by rw [<- Nat.mul_add,h]
 rw [this]
 simp only [val,Nat.mul_zero,Nat.add_zero]
 omega
def dE (a b:List Nat) (i c:Nat):Nat:=a.getD i 0+b.getD i 0+c
theorem j6 {B:Nat} (hB:2<=B) {a b:List Nat} (ha:Low B a) (hb:Low B b):∀ i,val B (cB B (dE a b) i)+B ^ i * bx B (dE a b) i=val B (a.take i)+val B (b.take i)/\bx B (dE a b) i<=1
 | 0=>by simp [cB,bx,val]
 | i+1=>by
  obtain ⟨h1,h2⟩:=j6 hB ha hb i
  have x:=ha.getD (by omega) i
  have y:=hb.getD (by omega) i
  refine ⟨?_,?_⟩
  ·rw [fp,bq,bq]
   simp only [dE,Nat.mul_add]
   omega
  ·rw [bx]
   simp only [dE]
   have:a.getD i 0+b.getD i 0+bx B (dE a b) i<2 * B:=by omega
   have:=(Nat.div_lt_iff_lt_mul (by omega:0<B)).2 this
   omega
theorem tG {B:Nat} (hB:2<=B) {a b:List Nat} (ha:Low B a) (hb:Low B b) {n:Nat} (h1:a.length<n) (h2:b.length<n):val B (cB B (dE a b) n)=val B a+val B b:=by
 obtain ⟨m,rfl⟩:∃ m,n=m+1:=⟨n - 1,by omega⟩
 obtain ⟨h,hc⟩:=j6 hB ha hb (m+1)
 rw [fM _ _ _ (by omega),fM _ _ _ (by omega)] at h
 have e1:=ff (B:=B) (by omega) ha m
 have e2:=ff (B:=B) (by omega) hb m
 rw [fM _ _ _ (by omega)] at e1 e2
 have e3:B ^ (m+1)=B ^ m * B:=Nat.pow_succ ..
 have e4:B ^ m * 2<=B ^ m * B:=Nat.mul_le_mul_left _ hB
 have hz:bx B (dE a b) (m+1)=0:=by
  rcases Nat.lt_or_ge 0 (bx B (dE a b) (m+1)) with h0 | h0
  ·have:bx B (dE a b) (m+1)=1:=by omega
   rw [this] at h
   omega
  ·omega
 rw [hz] at h
 omega
open Go.RowKit
structure ah (S:Nat->Prop) (w w':World):Prop where
 os:w'.os=w.os
 tape:w'.tape=w.tape
 output:w'.output=w.output
 size:w.heap.size<=w'.heap.size
 block:∀ k,k<w.heap.size->¬ S k->w'.heap[k]? = w.heap[k]?
namespace ah
variable {S S':Nat->Prop} {w w' w'':World}
theorem refl (S:Nat->Prop) (w:World):ah S w w:=⟨rfl,rfl,rfl,Nat.le_refl _,fun _ _ _=>rfl⟩
theorem trans (h:ah S w w') (k:ah S w' w''):ah S w w'':=
 ⟨k.os.trans h.os,k.tape.trans h.tape,k.output.trans h.output,Nat.le_trans h.size k.size,fun i hi hs=>(k.block i (Nat.lt_of_lt_of_le hi h.size) hs).trans (h.block i hi hs)⟩
theorem mono (h:ah S w w') (hs:∀ k,k<w.heap.size->S k->S' k):ah S' w w':=⟨h.os,h.tape,h.output,h.size,fun k hk hn=>h.block k hk (fun e=>hn (hs k hk e))⟩
theorem alloc (h:ah S w w') (o:Obj):ah S w (w'.alloc o):=
 ⟨h.os,h.tape,h.output,Nat.le_trans h.size (by simp),fun i hi hs=>(Below.heap_alloc w' o i (Nat.lt_of_lt_of_le hi h.size)).trans (h.block i hi hs)⟩
theorem setCell (h:ah S w w') {p:Addr} (hp:S p.block\/w.heap.size<=p.block) (u:Value):ah S w (w'.setCell p u):=
 ⟨h.os,h.tape,h.output,by simpa [World.setCell] using h.size,fun i hi hs=>(Below.heap_setCell w' p u i (by
  rintro rfl
  rcases hp with hp | hp
  ·exact hs hp
  ·omega)).trans (h.block i hi hs)⟩
theorem drew (h:ah S w w'):ah S w w'.drew:=⟨h.os,h.tape,h.output,h.size,h.block⟩
theorem drewN (h:ah S w w') (n:Nat):ah S w (w'.drewN n):=⟨h.os,h.tape,h.output,h.size,h.block⟩
theorem cell (h:ah S w w') {p:Addr} (hl:p.block<w.heap.size) (hs:¬ S p.block):w'.cell? p=w.cell? p:=World.cell?_of_block (w:=w) (h.block p.block hl hs)
end ah
abbrev K0:World->World->Prop:=ah (fun _=>False)
theorem kR {S:Nat->Prop} {w:World}:ah S w w:=ah.refl _ _
theorem ah.heap {S:Nat->Prop} {w w':World} (k:ah S w w') {b:Nat} {o:Obj} (hb:w.heap[b]? = some o) (hs:¬ S b):w'.heap[b]? = some o:=by
 have hl:b<w.heap.size:=by
  rcases Nat.lt_or_ge b w.heap.size with hlt | hge
  ·exact hlt
  ·rw [Array.getElem?_eq_none hge] at hb;cases hb
 rw [k.block b hl hs];exact hb
theorem az {w:World} {b:Nat} {o:Obj} (h:w.heap[b]? = some o):b<w.heap.size:=by
 rcases Nat.lt_or_ge b w.heap.size with hlt | hge
 ·exact hlt
 ·rw [Array.getElem?_eq_none hge] at h;cases h
theorem ah.into {S:Nat->Prop} {w a b:World} (h:K0 w a) (k:ah S a b) (hs:∀ i,S i->w.heap.size<=i):K0 w b:=
 ⟨k.os.trans h.os,k.tape.trans h.tape,k.output.trans h.output,Nat.le_trans h.size k.size,fun i hi _=>(k.block i (Nat.lt_of_lt_of_le hi h.size) (fun e=>by have:=hs i e;omega)).trans (h.block i hi (by simp))⟩
theorem ah.below0 {w w':World} (h:K0 w w'):Below w.heap.size w w':=⟨h.os,h.tape,h.output,h.size,fun k hk=>h.block k hk (by simp)⟩
theorem ah.grown {S:Nat->Prop} {w a b:World} {row:Option Nat} (h:ah S w a) (hg:a.grownBy b row) (hr:∀ k,row=some k->S k\/w.heap.size<=k):ah S w b:=
 ⟨hg.os.trans h.os,hg.tape.trans h.tape,hg.output.trans h.output,Nat.le_trans h.size hg.size,fun i hi hs=>(hg.block i (Nat.lt_of_lt_of_le hi h.size) (fun e=>by
  rcases hr i e.symm with h' | h'
  ·exact hs h'
  ·omega)).trans (h.block i hi hs)⟩
theorem ah.join {S S':Nat->Prop} {w a b:World} (h:ah S w a) (k:ah S' a b) (hs:∀ i,i<w.heap.size->S' i->S i):ah S w b:=
 ⟨k.os.trans h.os,k.tape.trans h.tape,k.output.trans h.output,Nat.le_trans h.size k.size,fun i hi hn=>(k.block i (Nat.lt_of_lt_of_le hi h.size) (fun e=>hn (hs i hi e))).trans (h.block i hi hn)⟩
theorem ah.of_below {w w':World} (h:Below w.heap.size w w'):K0 w w':=⟨h.os,h.tape,h.output,h.size,fun k hk _=>h.block k hk⟩
theorem ah.of_grown {w w':World} {row:Option Nat} (h:w.grownBy w' row):ah (fun b=>some b=row) w w':=⟨h.os,h.tape,h.output,h.size,fun i hi hn=>h.block i hi hn⟩
def cT (q:IntKind) (w:World) (A:Option Addr) (n:Nat) (l:List Nat):Prop:=
 l.length=n /\ ∀ j,j<n->∃ b off,A=some ⟨b,off,none⟩/\b<w.heap.size/\w.cell? ⟨b,off+j,none⟩=some (.int q ((l.getD j 0:Nat):Int))
namespace cT
variable {q:IntKind} {w w':World} {A:Option Addr} {n:Nat} {l:List Nat}
theorem keep {S:Nat->Prop} (h:cT q w A n l) (k:ah S w w') (hs:0<n->∀ b off,A=some ⟨b,off,none⟩->¬ S b):cT q w' A n l:=
 ⟨h.1,fun j hj=>by
  obtain ⟨b,off,e,hb,hc⟩:=h.2 j hj
  exact ⟨b,off,e,Nat.lt_of_lt_of_le hb k.size,(k.cell (p:=⟨b,off+j,none⟩) hb (hs (by omega) b off e)).trans hc⟩⟩
theorem keep0 (h:cT q w A n l) (k:K0 w w'):cT q w' A n l:=h.keep k (fun _ _ _ _=>id)
theorem nil (q:IntKind) (w:World) (A:Option Addr):cT q w A 0 []:=⟨rfl,fun j hj=>absurd hj (Nat.not_lt_zero j)⟩
theorem take (h:cT q w A n l) {m:Nat} (hm:m<=n):cT q w A m (l.take m):=by
 refine ⟨by rw [List.length_take,h.1];omega,fun j hj=>?_⟩
 obtain ⟨b,off,e,hb,hc⟩:=h.2 j (by omega)
 refine ⟨b,off,e,hb,?_⟩
 rw [hc,gD,gD,List.getElem?_take,if_pos hj]
end cT
def aP (e:TypeId) (q:IntKind) (w:World) (base:Nat) (A:Option Addr) (n c:Nat) (l:List Nat):Prop:=w.ownsRow base e 1 (.slice A n c) n (l.map fun x:Nat=>Value.int q (x:Int))
namespace aP
variable {e:TypeId} {q:IntKind} {w w':World} {base n c:Nat} {A:Option Addr} {l:List Nat}
theorem len (h:aP e q w base A n c l):l.length=n:=by have:=h.1;simpa using this
theorem fresh (h:aP e q w base A n c l):∀ b off,A=some ⟨b,off,none⟩->base<=b/\b<w.heap.size:=by
 intro b off e1
 subst e1
 exact World.ownsRow.lt h b rfl
theorem row (h:aP e q w base A n c l):cT q w A n l:=by
 have hl:=h.len
 refine ⟨hl,fun j hj=>?_⟩
 obtain ⟨g,c',hv,_,hlt⟩:=World.ownsRow.form h (by omega)
 injection hv with h1 _ h3
 subst h1 h3
 refine ⟨g,0,rfl,hlt,?_⟩
 rw [Nat.zero_add,World.ownsRow.cellAt h j (by omega)]
 simp [List.getElem?_map,gD,gE (show j<l.length by omega)]
theorem keep {S:Nat->Prop} (h:aP e q w base A n c l) (K:ah S w w') (hs:∀ b off,A=some ⟨b,off,none⟩->¬ S b):aP e q w' base A n c l:=by
 refine ⟨h.1,?_⟩
 rcases h.2 with hn | ⟨g,cap,cur,hv,hg,hh,rest⟩
 ·exact .inl hn
 ·refine .inr ⟨g,cap,cur,hv,hg,?_,rest⟩
  injection hv with h1 _ _
  rw [K.block g (az hh) (hs g 0 h1)]
  exact hh
theorem keep0 (h:aP e q w base A n c l) (K:K0 w w'):aP e q w' base A n c l:=h.keep K (fun _ _ _=>id)
theorem mono (h:aP e q w base A n c l) {base':Nat} (hb:base'<=base):aP e q w base' A n c l:=
 ⟨h.1,h.2.imp id fun ⟨g,cap,cur,h1,h2,h3⟩=>⟨g,cap,cur,h1,Nat.le_trans hb h2,h3⟩⟩
theorem take (h:aP e q w base A n c l) {m:Nat} (hm:m<=n):aP e q w base A m c (l.take m):=by
 have hl:=h.len
 refine ⟨by simp [hl];omega,?_⟩
 rcases h.2 with ⟨hv,h0⟩ | ⟨g,cap,cur,hv,hg,hh,h1,h2,h3,h4⟩
 ·subst h0
  obtain rfl:m=0:=by omega
  exact .inl ⟨hv,rfl⟩
 ·injection hv with e1 _ e3
  subst e1 e3
  refine .inr ⟨g,c,cur,rfl,hg,hh,by omega,h2,h3,?_⟩
  rw [List.map_take,<- h4,List.take_take]
  simp only [Nat.mul_one]
  rw [Nat.min_eq_left hm]
theorem nil (e:TypeId) (q:IntKind) (w:World) (base:Nat):aP e q w base none 0 0 []:=World.ownsRow_nil _ _ _ _
theorem frozen (h:aP e q w base A n c l):∀ b off,A=some ⟨b,off,none⟩->∀ j,w.frozen? ⟨b,j,none⟩=false:=by
 intro b off e1 j
 subst e1
 rcases h.2 with ⟨hv,_⟩ | ⟨g,cap,cur,hv,hg,hh,_⟩
 ·cases hv
 ·injection hv with e1 _ _
  injection e1 with e1
  injection e1 with e1 _ _
  subst e1
  simp [World.frozen?,hh]
theorem set {b:Nat} (h:aP e q w base (some ⟨b,0,none⟩) n c l) {j:Nat} (_hj:j<n) (x:Nat):aP e q (w.setCell ⟨b,j,none⟩ (.int q (x:Int))) base (some ⟨b,0,none⟩) n c (l.set j x):=by
 refine ⟨by rw [List.length_map,List.length_set];have:=h.1;simpa using this,?_⟩
 rcases h.2 with ⟨hn,_⟩ | ⟨g',cap',cur,hv,hg,hh,h1,h2,h3,h4⟩
 ·cases hn
 ·simp only [Value.slice.injEq,Option.some.injEq,Addr.mk.injEq,and_true,true_and] at hv
  obtain ⟨rfl,rfl⟩:=hv
  refine .inr ⟨b,c,cur.setIfInBounds j (.int q (x:Int)),rfl,hg,by simp [World.setCell,Array.getElem?_modify,hh],h1,h2,by simpa using h3,?_⟩
  rw [Array.toList_setIfInBounds,List.take_set,h4,List.map_set]
end aP
theorem cG {S:Nat->Prop} {w:World} {b:Nat} (hb:S b) (j:Nat) (u:Value):ah S w (w.setCell ⟨b,j,none⟩ u):=(ah.refl S w).setCell (p:=⟨b,j,none⟩) (.inl hb) u
def BB:Nat:=4294967296
theorem BB2:2<=BB:=by unfold BB;omega
theorem iD {l:List Nat} (h:Low BB l) (j:Nat):((l.getD j 0:Nat):Int)<=4294967295:=by
 have:=h.getD (by unfold BB;omega) j
 unfold BB at this
 omega
abbrev aA (n:Nat):List Nat:=d4 BB n
abbrev bA (l:List Nat):Nat:=val BB l
def cM (l:List Nat):Nat:=(aA (bA l)).length
theorem lM {l:List Nat} (low:Low BB l) {k:Nat} (hk:k<=l.length) (hz:∀ j,k<=j->j<l.length->l.getD j 0=0) (h:k=0\/l.getD (k - 1) 0 ≠ 0):cM l=k/\l.take k=aA (bA l):=by
 have:=kW BB2 low hk hz h
 refine ⟨?_,this⟩
 have e:=congrArg List.length this
 rw [List.length_take] at e
 show (d4 BB (val BB l)).length=k
 omega
theorem jx {l:List Nat} (low:Low BB l):cM l<=l.length:=by
 unfold cM aA
 rw [aM BB2]
 exact fq low
theorem gA {l:List Nat} (low:Low BB l):l.take (cM l)=aA (bA l):=by
 obtain ⟨k,hk,hz,h⟩:∃ k,k<=l.length/\(∀ j,k<=j->j<l.length->l.getD j 0=0)/\(k=0\/l.getD (k - 1) 0 ≠ 0):=by
  have:∀ m,m<=l.length->(∀ j,m<=j->j<l.length->l.getD j 0=0)->∃ k,k<=l.length/\(∀ j,k<=j->j<l.length->l.getD j 0=0)/\(k=0\/l.getD (k - 1) 0 ≠ 0):=by
   intro m
   induction m with
   | zero=>intro hm hz;exact ⟨0,hm,hz,.inl rfl⟩
   | succ m ih=>
    intro hm hz
    by_cases e:l.getD m 0=0
    ·refine ih (by omega) fun j hj hl=>?_
     by_cases e2:j=m
     ·rw [e2];exact e
     ·exact hz j (by omega) hl
    ·exact ⟨m+1,hm,hz,.inr (by simpa using e)⟩
  exact this l.length (Nat.le_refl _) (fun j hj hl=>by omega)
 obtain ⟨h1,h2⟩:=lM low hk hz h
 rw [h1,h2]
structure aq (w:World) (A:Option Addr) (n c:Nat) (l:List Nat):Prop where
 row:cT .u32 w A n l
 low:Low BB l
 cap:n<=c
 max:n<=100000
namespace aq
variable {w w':World} {A:Option Addr} {n c:Nat} {l:List Nat}
theorem len (h:aq w A n c l):l.length=n:=h.row.1
theorem keep {S:Nat->Prop} (h:aq w A n c l) (k:ah S w w') (hs:0<n->∀ b off,A=some ⟨b,off,none⟩->¬ S b):aq w' A n c l:=⟨h.row.keep k hs,h.low,h.cap,h.max⟩
theorem keep0 (h:aq w A n c l) (k:K0 w w'):aq w' A n c l:=⟨h.row.keep0 k,h.low,h.cap,h.max⟩
theorem trim (h:aq w A n c l):aq w A (cM l) c (aA (bA l)):=by
 have h1:=jx h.low
 rw [h.len] at h1
 refine ⟨?_,aw BB2 _,Nat.le_trans h1 h.cap,Nat.le_trans h1 h.max⟩
 rw [<- gA h.low]
 exact h.row.take h1
theorem lt (h:aq w A n c l) (hn:0<n):∃ b off,A=some ⟨b,off,none⟩/\b<w.heap.size:=by
 obtain ⟨b,off,e,hb,_⟩:=h.row.2 0 hn
 exact ⟨b,off,e,hb⟩
end aq
theorem aP.cap {e:TypeId} {q:IntKind} {w:World} {base n c:Nat} {A:Option Addr} {l:List Nat} (h:aP e q w base A n c l):n<=c:=by
 rcases h.2 with ⟨hv,h0⟩ | ⟨g,cap,cur,hv,hg,hh,h1,_⟩
 ·omega
 ·injection hv with _ _ e3
  omega
theorem aP.toLimbs {w:World} {base n c:Nat} {A:Option Addr} {l:List Nat} (h:aP 126 .u32 w base A n c l) (low:Low BB l) (hm:n<=100000):aq w A n c l:=⟨h.row,low,h.cap,hm⟩
theorem cE (A:Option Addr) (n c:Nat) (l:List Nat) (w:World) (hA:aq w A n c l) :
 Calls Tryz.prog 141 #[.slice A n c] w fun e w'=>e=.returned (.slice A (cM l) c)/\w=w':=by
 obtain ⟨h,low,hcap,hn⟩:=hA
 have hlen:=h.1
 have LOW:=hid low
 have HLEN:=hid hlen
 clear low hlen
 go_enter Tryz.func141,Tryz.ntmps141
 go_wp2_with fail
 go_loop [3] (fun i=>∃ k:Nat,k<=n/\i=.int .i64 k /\ ∀ j,k<=j->j<n->l.getD j 0=0) (fun i=>(intOf i).toNat)
 case atStart=>exact ⟨n,Nat.le_refl _,rfl,fun j h1 h2=>by omega⟩
 case round=>
  obtain ⟨k,hk,rfl,hz⟩:=hrel
  have HZ:=hid hz
  clear hz
  by_cases h0:k=0
  ·subst h0
   have ht:=(lM LOW.out (k:=0) (Nat.zero_le _) (fun j h1 h2=>HZ.out j h1 (by rw [<- HLEN.out];exact h2)) (.inl rfl)).1
   have HT:=hid ht
   clear ht
   go_wp2_with fail
   go_ret
   exact ⟨by rw [HT.out];rfl,rfl⟩
  ·obtain ⟨m,rfl⟩:∃ m,k=m+1:=⟨k - 1,by omega⟩
   obtain ⟨b,off,rfl,hb,hc⟩:=h.2 m (by omega)
   by_cases hx:l.getD m 0=0
   ·rw [hx] at hc
    have HX:=hid hx
    clear hx h0
    go_wp2_with fail
    go_round
    case rel=>exact ⟨m,by omega,by go_num,fun j h1 h2=>by
     by_cases e:j=m
     ·rw [e];exact HX.out
     ·exact HZ.out j (by omega) h2⟩
    case measure=>simp [intOf]
   ·have ht:=(lM LOW.out (k:=m+1) (by rw [HLEN.out];exact hk) (fun j h1 h2=>HZ.out j h1 (by rw [<- HLEN.out];exact h2)) (.inr (by simpa using hx))).1
    have HT:=hid ht
    obtain ⟨x,hxx⟩:∃ x,x=l.getD m 0:=⟨_,rfl⟩
    rw [<- hxx] at hc hx
    have hb0:(((x:Nat):Int) == 0)=false:=by simpa using hx
    clear ht h0 hxx hx
    have hc1:(m:Int)+1<=(c:Int):=by omega
    go_wp2_with fail
    go_ret
    exact ⟨by rw [HT.out];rfl,rfl⟩
theorem uh (A:Option Addr) (n c:Nat) (l:List Nat) (i:Nat) (w:World) (h:aq w A n c l) (_hi:i<=1000000) :
 Calls Tryz.prog 157 #[.slice A n c,.int .i64 (i:Int)] w fun e w'=>e=.returned (.int .u64 ((l.getD i 0:Nat):Int))/\w=w':=by
 by_cases hlt:i<n
 ·obtain ⟨b,off,rfl,hb,hc⟩:=h.row.2 i hlt
  have hx:=iD h.low i
  have hm:=h.max
  obtain ⟨x,hxx⟩:∃ x,x=l.getD i 0:=⟨_,rfl⟩
  rw [<- hxx] at hc hx ⊢
  have hx0:(0:Int)<=(x:Int):=by omega
  clear hxx h
  go_enter Tryz.func157,Tryz.ntmps157
  go_wp2
  go_ret
  exact ⟨rfl,rfl⟩
 ·have e:l.getD i 0=0:=by
   rw [gD,List.getElem?_eq_none (by rw [h.len];omega)];rfl
  have E:=hid e
  have hm:=h.max
  clear e h
  go_enter Tryz.func157,Tryz.ntmps157
  go_wp2
  go_ret
  exact ⟨by rw [E.out];rfl,rfl⟩
abbrev al (neg:Bool) (A:Option Addr) (n c:Nat):Value:=.agg #[.bool neg,.slice A n c]
def mj (neg:Bool) (l:List Nat):Bool:=neg && decide (0<bA l)
def ci (neg:Bool) (l:List Nat):Int:=if neg then -(bA l:Int) else (bA l:Int)
theorem jH (l:List Nat):0<cM l ↔ 0<bA l:=by
 unfold cM
 constructor
 ·intro h
  rcases Nat.eq_zero_or_pos (bA l) with e | e
  ·rw [e] at h
   unfold aA at h
   rw [bi] at h
   simp at h
  ·exact e
 ·intro h
  rcases Nat.eq_zero_or_pos (aA (bA l)).length with e | e
  ·have:=ez BB2 (List.eq_nil_of_length_eq_zero e)
   omega
  ·exact e
theorem pC (neg:Bool) (l:List Nat):mj neg l=decide (ci neg l<0):=by
 unfold mj ci
 cases neg
 ·simp
 ·rw [Bool.true_and,if_pos rfl]
  exact decide_eq_decide.2 (by omega)
def BoolPost (b:Bool) (w:World) (e:Ending) (w':World):Prop:=e=.returned (.bool b)/\K0 w w'
theorem kh:(Tryz.prog.info? 126).map (fun i=>(i.zero,i.size,i.bytes))=some (some (.int .u32 0),1,4):=by kernel_rfl
def gU (l:List Nat) (w:World) (e:Ending) (w':World):Prop:=
 ∃ (A:Option Addr) (n c:Nat),e=.returned (.slice A n c)/\aP 126 .u32 w' w.heap.size A n c l/\K0 w w'
theorem cT.news {q:IntKind} {w:World} {ad:Addr} {n:Nat} {l:List Nat} (h:cT q w (some ad) n l):∀ j u,(l.map fun x:Nat=>Value.int q (x:Int))[j]? = some u->w.cell? (ad.add j)=some u:=by
 intro j u hu
 have hj:j<n:=by
  rcases Nat.lt_or_ge j n with h' | h'
  ·exact h'
  ·rw [List.getElem?_eq_none (by rw [List.length_map,h.1];exact h')] at hu;cases hu
 obtain ⟨b,off,e,hb,hc⟩:=h.2 j hj
 injection e with e
 subst e
 rw [Addr.add_mid,hc]
 rw [List.getElem?_map,gE (by rw [h.1];exact hj)] at hu
 rw [gD,gE (by rw [h.1];exact hj)]
 simpa using hu
theorem cj {e:TypeId} {q:IntKind} {w:World} {base n:Nat} {v:Value} {l:List Nat} (h:w.ownsRow base e 1 v n (l.map fun x:Nat=>Value.int q (x:Int))):∃ A c,v=.slice A n c/\aP e q w base A n c l:=by
 rcases h.2 with ⟨rfl,rfl⟩ | ⟨g,cap,cur,rfl,_⟩
 ·exact ⟨none,0,rfl,h⟩
 ·exact ⟨_,_,rfl,h⟩
theorem fH (w:World) (e:TypeId):(w.alloc (.cells #[] e)).ownsRow w.heap.size e 1 (.slice (some ⟨w.heap.size,0,none⟩) 0 0) 0 []:=by
 refine ⟨rfl,.inr ⟨w.heap.size,0,#[],rfl,Nat.le_refl _,hN _ _,Nat.le_refl _,by unfold maxLen;omega,rfl,rfl⟩⟩
theorem eQ (A:Option Addr) (n c:Nat) (l:List Nat) (w:World) (h:aq w A n c l) :
 Calls Tryz.prog 140 #[.slice A n c] w (gU l w):=by
 obtain ⟨i0,hi,hz0,hz1,hz2⟩:=info_parts kh
 rcases A with _ | ad
 ·have hn:n=0:=by
   rcases Nat.eq_zero_or_pos n with e | e
   ·exact e
   ·obtain ⟨b,off,e,_⟩:=h.lt e
    cases e
  subst hn
  obtain rfl:l=[]:=List.eq_nil_of_length_eq_zero h.len
  have hnil:(binOp BinOp.eql 22 (Value.slice none 0 c) (Value.slice none 0 0)).run Tryz.prog w=.ok (.bool true) w:=by kernel_rfl
  clear hi hz0 hz1 hz2
  go_enter Tryz.func140,Tryz.ntmps140
  go_wp2_with fail
  go_ret
  exact ⟨none,0,0,rfl,aP.nil _ _ _ _,kR⟩
 ·have hnil:(binOp BinOp.eql 22 (Value.slice (some ad) n c) (Value.slice none 0 0)).run Tryz.prog w=.ok (.bool false) w:=by kernel_rfl
  have K:K0 w (w.alloc (.cells #[] 126)):=kR.alloc _
  have hm:=h.max
  have hlen:=h.len
  have HN:=hid (h.keep0 K).row
  have HLEN:=hid hlen
  clear hlen h
  go_enter Tryz.func140,Tryz.ntmps140
  go_wp2_with (at_builtin;refine wpList_append_own _ rfl (.tmp 5) (.tmp 6) 22 rfl w.heap.size 126 i0 (.int .u32 0) 1 4 Tryz.underlying22 hi hz0 hz1 hz2 rfl (by decide) _ _ _ rfl (fH w 126) ad n c (l.map fun x:Nat=>Value.int .u32 (x:Int)) rfl (by rw [List.length_map,HLEN.out,Nat.mul_one]) HN.out.news ?a1 ?a2 ?a3 ?a4 ?_)
  case a1=>
   intro u hu
   obtain ⟨y,_,rfl⟩:=List.mem_map.1 hu
   rfl
  case a2=>unfold maxLen;omega
  case a3=>omega
  case a4=>simp
  intro v' w' hown hgrow _
  have K2:K0 w w':=K.grown hgrow (fun k hk=>.inr (by simp [Value.ownBlock] at hk;omega))
  have hown2:w'.ownsRow w.heap.size 126 1 v' n (l.map fun x:Nat=>Value.int .u32 (x:Int)):=by simpa using hown
  obtain ⟨A',c',rfl,own⟩:=cj hown2
  clear hown hgrow hown2
  go_wp2_with fail
  go_ret
  exact ⟨A',n,c',rfl,own,K2⟩
def dG (x:Int):Prop:=(aA x.natAbs).length<=48
def dr (x:Int) (w:World) (e:Ending) (w':World):Prop:=
 K0 w w'/\((¬ dG x/\e=.returned (.tuple #[al false none 0 0,.int .i64 6])) \/
  ∃ (A:Option Addr) (n c:Nat),dG x/\e=.returned (.tuple #[al (decide (x<0)) A n c,.int .i64 0])/\aP 126 .u32 w' w.heap.size A n c (aA x.natAbs))
theorem dP (neg:Bool) (l:List Nat):(ci neg l).natAbs=bA l:=by unfold ci;cases neg<;>simp
theorem jK (x:Int):ci (decide (x<0)) (aA x.natAbs)=x:=by
 unfold ci bA aA
 rw [bc BB2]
 by_cases h:x<0
 ·rw [dT h,if_pos rfl];omega
 ·rw [dF h];simp;omega
theorem bD {w:World} {B:Nat} {p q:Value} {t:TypeId} (hb:w.heap[B]? = some (.cells #[p,q] t (0,0))) (a b:Value) :
 ((w.setCell ⟨B,0,none⟩ a).setCell ⟨B,1,none⟩ b).cell? ⟨B,0,none⟩=some a/\((w.setCell ⟨B,0,none⟩ a).setCell ⟨B,1,none⟩ b).cell? ⟨B,1,none⟩=some b:=by
 have h:((w.setCell ⟨B,0,none⟩ a).setCell ⟨B,1,none⟩ b).heap[B]? = some (.cells #[a,b] t (0,0)):=by
  simp [World.setCell,Array.getElem?_modify,hb]
 exact ⟨by rw [cell_of_row _ _ _ _ _ _ h];rfl,by rw [cell_of_row _ _ _ _ _ _ h];rfl⟩
theorem cu {S:Nat->Prop} {w w2:World} {B:Nat} (h:ah S w w2) (hB:w.heap.size<=B) (a b:Value):ah S w ((w2.setCell ⟨B,0,none⟩ a).setCell ⟨B,1,none⟩ b):=
 (h.setCell (p:=⟨B,0,none⟩) (.inr hB) a).setCell (p:=⟨B,1,none⟩) (.inr hB) b
theorem ij {e:TypeId} {q:IntKind} {w2:World} {base n c B:Nat} {A:Option Addr} {l:List Nat} (h:aP e q w2 base A n c l) (hB:B<base) (a b:Value):aP e q ((w2.setCell ⟨B,0,none⟩ a).setCell ⟨B,1,none⟩ b) base A n c l:=by
 refine h.keep (S:=fun k=>k=B) (((ah.refl (fun k=>k=B) w2).setCell (p:=⟨B,0,none⟩) (.inl rfl) a).setCell (p:=⟨B,1,none⟩) (.inl rfl) b) (fun k off e1=>?_)
 have:=(h.fresh k off e1).1
 show ¬ k=B
 omega
theorem ke (neg:Bool) (A:Option Addr) (n c:Nat) (l:List Nat) (w:World) (h:aq w A n c l) :
 Calls Tryz.prog 158 #[.bool neg,.slice A n c] w (dr (ci neg l) w):=by
 have K:K0 w (w.alloc (.cells #[.bool false,.slice none 0 0] 24)):=kR.alloc _
 have h1:=h.keep0 K
 have H1:=hid h1
 have t1:=hid h1.trim
 have tm:=h1.trim.max
 have hfit:dG (ci neg l) ↔ cM l<=48:=by unfold dG cM;rw [dP]
 have hneg:mj neg l=(neg && decide (0<cM l)):=by
  unfold mj
  congr 1
  exact decide_eq_decide.2 (jH l).symm
 have hbi:=pC neg l
 rw [hneg] at hbi
 have HB:=hid hbi
 have HF:=hid hfit
 clear h h1 hfit hneg hbi
 by_cases hbig:48<cM l
 ·go_enter Tryz.func158,Tryz.ntmps158
  go_wp2_with fail
  refine (cE A n c l _ H1.out).mono ?_
  rintro e w1 ⟨rfl,rfl⟩
  go_wp2_with fail
  exact bodyPost_ret (v:=.tuple #[al false none 0 0,.int .i64 6]) (by simp [results,Tryz.results158,go_sem]) rfl ⟨kR.alloc _,.inl ⟨fun f=>by have:=HF.out.1 f;omega,rfl⟩⟩
 ·have hbig':decide ((48:Int)<(cM l:Int))=false:=dF (by omega)
  have hF:=hid (HF.out.2 (by omega))
  clear hbig
  cases neg with
  | false=>
   go_enter Tryz.func158,Tryz.ntmps158
   go_wp2_with fail
   refine (cE A n c l _ H1.out).mono ?_
   rintro e w1 ⟨rfl,rfl⟩
   go_wp2_with fail
   refine (eQ A _ c _ _ t1.out).mono ?_
   rintro e w2 ⟨A2,n2,c2,rfl,own,k2⟩
   have hb:=k2.heap (hN w (.cells #[.bool false,.slice none 0 0] 24)) (by simp)
   have r0:w2.cell? ⟨w.heap.size,0,none⟩=some (.bool false):=by rw [cell_of_row w2 _ _ _ _ _ hb];rfl
   have r1:w2.cell? ⟨w.heap.size,1,none⟩=some (.slice none 0 0):=by rw [cell_of_row w2 _ _ _ _ _ hb];rfl
   have f0:w2.frozen? ⟨w.heap.size,0,none⟩=false:=by simp [World.frozen?,hb]
   have f1:w2.frozen? ⟨w.heap.size,1,none⟩=false:=by simp [World.frozen?,hb]
   have OWN:=hid own
   have HBX:=hid hb
   have KK:=hid (K.trans k2)
   clear own hb k2 K
   go_wp2_with fail
   obtain ⟨e0,e1⟩:=bD HBX.out (.bool false) (.slice A2 n2 c2)
   refine bodyPost_ret (v:=.tuple #[al (decide (ci false l<0)) A2 n2 c2,.int .i64 0]) ?_ rfl ⟨cu KK.out (Nat.le_refl _) _ _,.inr ⟨A2,n2,c2,hF.out,rfl,?_⟩⟩
   ·have hbb:=HB.out
    rw [<- hbb]
    simp [results,Tryz.results158,go_sem,e0,e1]
   ·rw [dP]
    exact ij (OWN.out.mono (base':=w.heap.size+1) (by simp)) (Nat.lt_succ_self _) _ _ |>.mono (Nat.le_succ _)
  | true=>
   by_cases h0:0<cM l
   ·have h0':(0:Int)<(cM l:Int):=by omega
    have hp:decide (0<cM l)=true:=by simpa using h0
    clear h0
    go_enter Tryz.func158,Tryz.ntmps158
    go_wp2_with fail
    refine (cE A n c l _ H1.out).mono ?_
    rintro e w1 ⟨rfl,rfl⟩
    go_wp2_with fail
    refine (eQ A _ c _ _ t1.out).mono ?_
    rintro e w2 ⟨A2,n2,c2,rfl,own,k2⟩
    have hb:=k2.heap (hN w (.cells #[.bool false,.slice none 0 0] 24)) (by simp)
    have r0:w2.cell? ⟨w.heap.size,0,none⟩=some (.bool false):=by rw [cell_of_row w2 _ _ _ _ _ hb];rfl
    have r1:w2.cell? ⟨w.heap.size,1,none⟩=some (.slice none 0 0):=by rw [cell_of_row w2 _ _ _ _ _ hb];rfl
    have f0:w2.frozen? ⟨w.heap.size,0,none⟩=false:=by simp [World.frozen?,hb]
    have f1:w2.frozen? ⟨w.heap.size,1,none⟩=false:=by simp [World.frozen?,hb]
    have OWN:=hid own
    have HBX:=hid hb
    have KK:=hid (K.trans k2)
    clear own hb k2 K
    go_wp2_with fail
    obtain ⟨e0,e1⟩:=bD HBX.out (.bool true) (.slice A2 n2 c2)
    refine bodyPost_ret (v:=.tuple #[al (decide (ci true l<0)) A2 n2 c2,.int .i64 0]) ?_ rfl ⟨cu KK.out (Nat.le_refl _) _ _,.inr ⟨A2,n2,c2,hF.out,rfl,?_⟩⟩
    ·have hbb:=HB.out
     rw [<- hbb]
     simp [results,Tryz.results158,go_sem,e0,e1,hp]
    ·rw [dP]
     exact ij (OWN.out.mono (base':=w.heap.size+1) (by simp)) (Nat.lt_succ_self _) _ _ |>.mono (Nat.le_succ _)
   ·have h0':decide ((0:Int)<(cM l:Int))=false:=dF (by omega)
    have hp:decide (0<cM l)=false:=by simpa using h0
    clear h0
    go_enter Tryz.func158,Tryz.ntmps158
    go_wp2_with fail
    refine (cE A n c l _ H1.out).mono ?_
    rintro e w1 ⟨rfl,rfl⟩
    go_wp2_with fail
    refine (eQ A _ c _ _ t1.out).mono ?_
    rintro e w2 ⟨A2,n2,c2,rfl,own,k2⟩
    have hb:=k2.heap (hN w (.cells #[.bool false,.slice none 0 0] 24)) (by simp)
    have r0:w2.cell? ⟨w.heap.size,0,none⟩=some (.bool false):=by rw [cell_of_row w2 _ _ _ _ _ hb];rfl
    have r1:w2.cell? ⟨w.heap.size,1,none⟩=some (.slice none 0 0):=by rw [cell_of_row w2 _ _ _ _ _ hb];rfl
    have f0:w2.frozen? ⟨w.heap.size,0,none⟩=false:=by simp [World.frozen?,hb]
    have f1:w2.frozen? ⟨w.heap.size,1,none⟩=false:=by simp [World.frozen?,hb]
    have OWN:=hid own
    have HBX:=hid hb
    have KK:=hid (K.trans k2)
    clear own hb k2 K
    go_wp2_with fail
    obtain ⟨e0,e1⟩:=bD HBX.out (.bool false) (.slice A2 n2 c2)
    refine bodyPost_ret (v:=.tuple #[al (decide (ci true l<0)) A2 n2 c2,.int .i64 0]) ?_ rfl ⟨cu KK.out (Nat.le_refl _) _ _,.inr ⟨A2,n2,c2,hF.out,rfl,?_⟩⟩
    ·have hbb:=HB.out
     rw [<- hbb]
     simp [results,Tryz.results158,go_sem,e0,e1,hp]
    ·rw [dP]
     exact ij (OWN.out.mono (base':=w.heap.size+1) (by simp)) (Nat.lt_succ_self _) _ _ |>.mono (Nat.le_succ _)
theorem iM (x:Int):dG x ↔ x.natAbs<BB ^ 48:=aM BB2 _ _
theorem aP.num {w:World} {base n c:Nat} {A:Option Addr} {x:Int} (h:aP 126 .u32 w base A n c (aA x.natAbs)) (hf:dG x):aq w A n c (aA x.natAbs):=by
 have hl:=h.len
 unfold dG at hf
 exact h.toLimbs (aw BB2 _) (by omega)
theorem lU {x:Int} {w w1 w2:World} {B:Nat} (k:K0 w w1) (hB:w.heap.size<=B) (hB1:B<w1.heap.size) {p q:Value} (hb:w1.heap[B]? = some (.cells #[p,q] 24 (0,0))) {e:Ending} (h:dr x w1 e w2) :
 ∃ (neg:Bool) (A:Option Addr) (n c:Nat) (f:Int),e=.returned (.tuple #[al neg A n c,.int .i64 f]) /\
  w2.cell? ⟨B,0,none⟩=some p/\w2.cell? ⟨B,1,none⟩=some q/\w2.frozen? ⟨B,0,none⟩=false/\w2.frozen? ⟨B,1,none⟩=false /\
  ((w2.setCell ⟨B,0,none⟩ (.bool neg)).setCell ⟨B,1,none⟩ (.slice A n c)).cell? ⟨B,0,none⟩=some (.bool neg) /\
  ((w2.setCell ⟨B,0,none⟩ (.bool neg)).setCell ⟨B,1,none⟩ (.slice A n c)).cell? ⟨B,1,none⟩=some (.slice A n c) /\
  dr x w (.returned (.tuple #[al neg A n c,.int .i64 f])) ((w2.setCell ⟨B,0,none⟩ (.bool neg)).setCell ⟨B,1,none⟩ (.slice A n c)):=by
 obtain ⟨k2,h⟩:=h
 have hb2:=k2.heap hb (by simp)
 have c0:w2.cell? ⟨B,0,none⟩=some p:=by rw [cell_of_row w2 _ _ _ _ _ hb2];rfl
 have c1:w2.cell? ⟨B,1,none⟩=some q:=by rw [cell_of_row w2 _ _ _ _ _ hb2];rfl
 have f0:w2.frozen? ⟨B,0,none⟩=false:=by simp [World.frozen?,hb2]
 have f1:w2.frozen? ⟨B,1,none⟩=false:=by simp [World.frozen?,hb2]
 rcases h with ⟨hn,rfl⟩ | ⟨A,n,c,hf,rfl,own⟩
 ·obtain ⟨e0,e1⟩:=bD hb2 (.bool false) (.slice none 0 0)
  exact ⟨false,none,0,0,6,rfl,c0,c1,f0,f1,e0,e1,cu (k.trans k2) hB _ _,.inl ⟨hn,rfl⟩⟩
 ·obtain ⟨e0,e1⟩:=bD hb2 (.bool (decide (x<0))) (.slice A n c)
  exact ⟨_,A,n,c,0,rfl,c0,c1,f0,f1,e0,e1,cu (k.trans k2) hB _ _,.inr ⟨A,n,c,hf,rfl,(ij own hB1 _ _).mono k.size⟩⟩
def er (neg:Bool) (l:List Nat) (neg':Bool) (l':List Nat):Bool:=decide (neg=neg'/\l=l')
theorem uf {l l':List Nat} (hl:l.length=l'.length) (h:∀ j,j<l.length->l.getD j 0=l'.getD j 0):l=l':=by
 refine List.ext_getElem hl fun j h1 h2=>?_
 have:=h j h1
 rw [gD,gD,gE h1,gE h2] at this
 exact this
theorem mS (neg:Bool) (A:Option Addr) (n c:Nat) (l:List Nat) (neg':Bool) (A':Option Addr) (n' c':Nat) (l':List Nat) (w:World) (h:aq w A n c l) (h':aq w A' n' c' l') :
 Calls Tryz.prog 45 #[al neg A n c,al neg' A' n' c'] w (BoolPost (er neg l neg' l') w):=by
 have K:K0 w ((w.alloc (.cells #[.bool neg,.slice A n c] 24)).alloc (.cells #[.bool neg',.slice A' n' c'] 24)):=(kR.alloc _).alloc _
 have hb1:((w.alloc (.cells #[.bool neg,.slice A n c] 24)).alloc (.cells #[.bool neg',.slice A' n' c'] 24)).heap[w.heap.size]? = some (.cells #[.bool neg,.slice A n c] 24 (0,0)):=by
  rw [Below.heap_alloc _ _ _ (by simp)];exact hN w _
 have hb2:((w.alloc (.cells #[.bool neg,.slice A n c] 24)).alloc (.cells #[.bool neg',.slice A' n' c'] 24)).heap[w.heap.size+1]? = some (.cells #[.bool neg',.slice A' n' c'] 24 (0,0)):=by
  have:=hN (w.alloc (.cells #[.bool neg,.slice A n c] 24)) (.cells #[.bool neg',.slice A' n' c'] 24)
  rwa [World.size_alloc] at this
 have HH:=hid (h.keep0 K)
 have HH':=hid (h'.keep0 K)
 have hlen:=hid h.len
 have hlen':=hid h'.len
 have hm:=h.max
 have hm':=h'.max
 clear h h'
 by_cases hneg:neg=neg'
 ·subst hneg
  by_cases hn:n=n'
  ·subst hn
   go_enter Tryz.func45,Tryz.ntmps45
   go_wp2_with fail
   generalize w.heap.size=Ba at hb1 hb2 ⊢
   generalize (w.alloc (.cells #[.bool neg,.slice A n c] 24)).alloc (.cells #[.bool neg,.slice A' n c'] 24)=w1 at K hb1 hb2 HH HH' ⊢
   have HC:=hid (fun (w':World) (K':K0 w1 w')=>(show w'.cell? ⟨Ba,0,none⟩=some (.bool neg)/\w'.cell? ⟨Ba,1,none⟩=some (.slice A n c)/\w'.cell? ⟨Ba+1,0,none⟩=some (.bool neg)/\w'.cell? ⟨Ba+1,1,none⟩=some (.slice A' n c') from by
    have g1:=K'.heap hb1 (by simp)
    have g2:=K'.heap hb2 (by simp)
    refine ⟨?_,?_,?_,?_⟩
    ·rw [cell_of_row w' _ _ _ _ _ g1];rfl
    ·rw [cell_of_row w' _ _ _ _ _ g1];rfl
    ·rw [cell_of_row w' _ _ _ _ _ g2];rfl
    ·rw [cell_of_row w' _ _ _ _ _ g2];rfl))
   have HK:=hid K
   clear hb1 hb2 K
   obtain ⟨c0,c1,c2,c3⟩:=HC.out _ kR
   go_loopw [5] (fun iv wr=>∃ k:Nat,k<=n/\iv=.int .i64 (k:Int)/\(∀ j,j<k->l.getD j 0=l'.getD j 0)/\K0 w1 wr) (fun iv _=>(n - (intOf iv).toNat))
   case atStart=>exact ⟨0,Nat.zero_le _,rfl,fun j h1=>by omega,kR⟩
   case round=>
    obtain ⟨k,hk,rfl,he,KW⟩:=hrel
    have HE:=hid he
    clear he c0 c1 c2 c3
    obtain ⟨c0,c1,c2,c3⟩:=HC.out _ KW
    by_cases hkn:k<n
    ·obtain ⟨b1,o1,rfl,hb1,q1⟩:=(HH.out.row.keep0 KW).2 k hkn
     obtain ⟨b2,o2,rfl,hb2,q2⟩:=(HH'.out.row.keep0 KW).2 k hkn
     obtain ⟨x,hx⟩:∃ x,x=l.getD k 0:=⟨_,rfl⟩
     obtain ⟨y,hy⟩:∃ y,y=l'.getD k 0:=⟨_,rfl⟩
     rw [<- hx] at q1
     rw [<- hy] at q2
     have HX:=hid hx
     have HY:=hid hy
     have i0:(0:Int)<=(k:Int):=by omega
     have i1:(k:Int)<(n:Int):=by omega
     by_cases hxy:x=y
     ·subst hxy
      clear hx hy
      go_wp2_with fail
      go_quiet (fail)
      go_wp2_with fail
      go_roundw
      case rel=>exact ⟨k+1,by omega,by go_num,fun j h1=>by
       by_cases e:j=k
       ·rw [e,<- HX.out,<- HY.out]
       ·exact HE.out j (by omega),KW.drewN _⟩
      case measure=>simp [intOf];omega
     ·have hb:((x:Int) != (y:Int))=true:=by
       rw [bne_iff_ne];omega
      have hf:er neg l neg l'=false:=dF (fun e=>hxy (by rw [hx,hy,e.2]))
      have HF:=hid hf
      clear hx hy hxy hf
      go_wp2_with fail
      go_quiet (fail)
      go_wp2_with fail
      go_ret
      exact ⟨by rw [HF.out];rfl,(HK.out.trans KW).drewN _⟩
    ·have hl:l=l':=uf (by rw [hlen.out,hlen'.out]) (fun j hj=>HE.out j (by rw [hlen.out] at hj;omega))
     have hd:decide ((k:Int)<(n:Int))=false:=dF (by omega)
     have HL:=hid (show er neg l neg l'=true from dT ⟨rfl,hl⟩)
     clear hl
     go_wp2_with fail
     go_ret
     exact ⟨by rw [HL.out];rfl,HK.out.trans KW⟩
  ·have hq:((n:Int) != (n':Int))=true:=by rw [bne_iff_ne];omega
   have HF:=hid (show er neg l neg l'=false from dF (fun e=>hn (by rw [<- hlen.out,<- hlen'.out,e.2])))
   have HK:=hid K
   clear hn hb1 hb2 K
   go_enter Tryz.func45,Tryz.ntmps45
   go_wp2_with fail
   go_ret
   exact ⟨by rw [HF.out];rfl,HK.out⟩
 ·have HF:=hid (show er neg l neg' l'=false from dF (fun e=>hneg e.1))
  have HK:=hid K
  have hbn:(neg != neg')=true:=by simpa using hneg
  have hbn2:(!neg == neg')=true:=by cases neg<;>cases neg'<;>simp at hneg ⊢
  clear hneg hb1 hb2 K
  go_enter Tryz.func45,Tryz.ntmps45
  go_wp2_with fail
  go_ret
  exact ⟨by rw [HF.out];rfl,HK.out⟩
def eJ (F:Nat->Nat->Nat) (n k:Nat):List Nat:=(List.range n).map fun i=>if i<k then F i (bx BB F i) % BB else 0
theorem mX (F:Nat->Nat->Nat) (n:Nat):eJ F n n=cB BB F n:=by
 unfold eJ cB
 refine List.map_congr_left fun i hi=>?_
 rw [if_pos (List.mem_range.1 hi)]
theorem mW (F:Nat->Nat->Nat) (n k:Nat) (hk:k<n):(eJ F n k).set k (F k (bx BB F k) % BB)=eJ F n (k+1):=by
 refine List.ext_getElem? fun i=>?_
 rw [List.getElem?_set]
 unfold eJ
 by_cases hi:i<n
 ·by_cases e:k=i
  ·subst e
   simp [hi]
  ·rw [if_neg e,List.getElem?_map,List.getElem?_map,List.getElem?_range hi]
   simp only [Option.map_some]
   by_cases h:i<k
   ·rw [if_pos h,if_pos (by omega)]
   ·rw [if_neg h,if_neg (by omega)]
 ·rw [List.getElem?_eq_none (by simp;omega),if_neg (by omega),List.getElem?_eq_none (by simp;omega)]
theorem ro (n:Nat):(madeCells #[Value.int .u32 0] n).toList=(List.replicate n 0).map fun x:Nat=>Value.int .u32 (x:Int):=by
 refine List.ext_getElem? fun i=>?_
 by_cases hi:i<n
 ·simp [madeCells,hi,Nat.mod_one]
 ·simp [madeCells,hi]
theorem lT (F:Nat->Nat->Nat) (n:Nat):eJ F n 0=List.replicate n 0:=by
 unfold eJ
 simp only [Nat.not_lt_zero,if_false]
 rw [List.map_const',List.length_range]
theorem ue (w:World) (n:Nat) (hn:n<=100000):aP 126 .u32 (w.alloc (.cells (madeCells #[Value.int .u32 0] n) 126)) w.heap.size (some ⟨w.heap.size,0,none⟩) n n (List.replicate n 0):=by
 refine ⟨by simp,.inr ⟨w.heap.size,n,madeCells #[Value.int .u32 0] n,rfl,Nat.le_refl _,hN _ _,Nat.le_refl _,by unfold maxLen;omega,by simp [size_madeCells],?_⟩⟩
 rw [ro,List.take_of_length_le (by simp)]
theorem ud (n:Nat) (hn:n<=100000) (W:World):(Instr.makeSlice 22 (.int .i64 (n:Int)) (.int .i64 (n:Int))).run Tryz.prog W=.ok (.slice (some ⟨W.heap.size,0,none⟩) n n) (W.alloc (.cells (madeCells #[Value.int .u32 0] n) 126)):=by
 obtain ⟨i0,hi,hz0,hz1,hz2⟩:=info_parts kh
 have:=run_make (P:=Tryz.prog) W 22 126 i0 _ Tryz.underlying22 hi hz0 .i64 .i64 (n:Int) (n:Int) (by omega) (by omega) (by rw [hz2];omega) (by omega)
 rw [hz1] at this
 simpa [Value.cells] using this
theorem yh (n b1 b2:Nat) (F:Nat->Nat->Nat) (w:World) (hn:n<=100000) (hF:∀ i,i<n->F i (bx BB F i)<=18446744073709551615)
 (hcall:∀ i w',i<n->K0 w w'->Calls Tryz.prog 156 #[.int .i64 (i:Int),.int .u64 (bx BB F i:Nat),.pointer (some ⟨b1,0,none⟩),.pointer (some ⟨b2,0,none⟩)] w' fun e w''=>e=.returned (.int .u64 (F i (bx BB F i):Nat))/\K0 w' w'') :
 Calls Tryz.prog 155 #[.int .i64 (n:Int),.func (.func 156) #[] #[.pointer (some ⟨b1,0,none⟩),.pointer (some ⟨b2,0,none⟩)]] w (gU (cB BB F n) w):=by
 have hmk:=fun W:World=>ud n hn W
 have HF:=hid hF
 have HC:=hid hcall
 have own:=ue w n hn
 have K:K0 w (w.alloc (.cells (madeCells #[Value.int .u32 0] n) 126)):=kR.alloc _
 rw [<- lT F n] at own
 clear hF hcall
 go_enter Tryz.func155,Tryz.ntmps155
 go_wp2_with fail
 clear hmk
 generalize hB:w.heap.size=B at own ⊢
 generalize w.alloc (.cells (madeCells #[Value.int .u32 0] n) 126)=w1 at own K ⊢
 have HB:=hid hB
 clear hB
 go_loopw [6,7,8,12] (fun cv _ _ iv wr=>∃ k:Nat,k<=n/\iv=.int .i64 k/\cv=.int .u64 (bx BB F k:Nat)/\aP 126 .u32 wr B (some ⟨B,0,none⟩) n n (eJ F n k)/\K0 w wr) (fun _ _ _ iv _=>n - (intOf iv).toNat)
 case atStart=>exact ⟨0,Nat.zero_le _,rfl,rfl,own,K⟩
 case round=>
  clear own K
  obtain ⟨k,hk,rfl,rfl,own,K⟩:=hrel
  by_cases hlt:k<n
  ·have hf:=HF.out k hlt
   have OWN:=hid own
   clear own
   go_wp2_with fail
   refine (HC.out k _ hlt K).mono ?_
   rintro e w2 ⟨rfl,k2⟩
   have own2:=OWN.out.keep0 k2
   have K2:=K.trans k2
   obtain ⟨b,off,e1,hb,hc⟩:=own2.row.2 k hlt
   injection e1 with e1
   injection e1 with e1a e1b _
   subst e1a e1b
   rw [Nat.zero_add] at hc
   have hfz:=own2.frozen _ _ rfl k
   generalize (eJ F n k).getD k 0=y at hc
   have OWN2:=hid own2
   have hsuc:F k (bx BB F k) / BB=bx BB F (k+1):=rfl
   have hset:=mW F n k hlt
   have HSUC:=hid hsuc
   have HSET:=hid hset
   obtain ⟨x,hx⟩:∃ x,x=F k (bx BB F k):=⟨_,rfl⟩
   rw [<- hx] at hf HSUC HSET ⊢
   clear hx hsuc hset own2 hb K OWN k2
   have hd:(x:Int) / 4294967296=((bx BB F (k+1):Nat):Int):=by rw [<- HSUC.out];unfold BB;omega
   have hm:(x:Int) % 4294967296=((x % BB:Nat):Int):=by unfold BB;omega
   have HD:=hid hd
   have HM:=hid hm
   clear hd hm
   go_wp2_with fail
   go_roundw
   case rel=>exact ⟨k+1,by omega,by go_num,by rw [HD.out],by rw [HM.out,<- HSET.out];exact OWN2.out.set hlt _,K2.setCell (p:=⟨B,k,none⟩) (.inr (by rw [HB.out];exact Nat.le_refl _)) _⟩
   case measure=>simp [intOf];omega
  ·obtain rfl:k=n:=by omega
   have OWN:=hid own
   clear own
   go_wp2_with fail
   go_ret
   have o:=OWN.out
   rw [mX] at o
   exact ⟨some ⟨B,0,none⟩,k,k,rfl,o.mono (by rw [HB.out];exact Nat.le_refl _),K⟩
def wu (x:Nat) (w:World) (e:Ending) (w':World):Prop:=e=.returned (.int .u64 (x:Int))/\K0 w w'
theorem lK (B:Nat):∀ (l:List Nat) (i y:Nat),i<l.length->val B (l.set i y)+B ^ i * l.getD i 0=val B l+B ^ i * y
 | [],i,y,h=>by simp at h
 | x :: l,0,y,_=>by simp [val];omega
 | x :: l,i+1,y,h=>by
  have ih:=lK B l i y (by simpa using h)
  rw [List.set_cons_succ,val,val,List.getD_cons_succ,Nat.pow_succ,Nat.mul_comm (B ^ i) B,Nat.mul_assoc,Nat.mul_assoc]
  have:B * (val B (l.set i y)+B ^ i * l.getD i 0)=B * (val B l+B ^ i * y):=by rw [ih]
  rw [Nat.mul_add,Nat.mul_add] at this
  omega
theorem Low.set {B:Nat} {l:List Nat} (h:Low B l) (i:Nat) {y:Nat} (hy:y<B):Low B (l.set i y):=by
 intro x hx
 rcases List.mem_or_eq_of_mem_set hx with h1 | h1
 ·exact h x h1
 ·rw [h1];exact hy
section
variable {B:Nat} (hB:B=2 ^ 32)
include hB
end
end Go.Proofs.YtonnikipeokkaaaGreatDoor
