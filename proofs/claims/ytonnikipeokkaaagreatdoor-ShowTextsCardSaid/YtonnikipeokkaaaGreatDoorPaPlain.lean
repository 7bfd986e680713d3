/-
  The tokens of a text: plain Lean, no program in sight. What
-/
import Derived.Lib.ValidLaws
import Derived.Test.YtonnikipeokkaaaGreatDoorN2
namespace Go.Proofs.YtonnikipeokkaaaGreatDoor
open Go.Lib (hid)
open Go.Lib
def bS (p:UInt8->Bool) (l:List UInt8) (a:Nat):Nat:=a+((l.drop a).takeWhile p).length
theorem mM (p:UInt8->Bool):∀ (l:List UInt8) (n:Nat),n<=l.length->(∀ j,j<n->p (l.getD j 0)=true)->(n=l.length\/p (l.getD n 0)=false)->(l.takeWhile p).length=n
 | [],n,hn,_,_=>by simp at hn;simp [hn]
 | x :: l,0,_,_,hs=>by
  rcases hs with h | h
  ·simp at h
  ·have hx:p x=false:=by simpa using h
   simp [hx]
 | x :: l,n+1,hn,h,hs=>by
  have hx:p x=true:=by simpa using h 0 (by omega)
  have ih:=mM p l n (by simpa using hn) (fun j hj=>by simpa using h (j+1) (by omega)) (by
   rcases hs with e | e
   ·exact .inl (by simpa using e)
   ·exact .inr (by simpa using e))
  rw [List.takeWhile_cons,if_pos hx,List.length_cons,ih]
theorem dC (l:List UInt8) (a j:Nat):(l.drop a).getD j 0=l.getD (a+j) 0:=by
 rw [gD,gD,List.getElem?_drop]
theorem ap {l:List UInt8} {i:Nat} (h:i<l.length):l.drop i=l.getD i 0 :: l.drop (i+1):=by
 rw [List.drop_eq_getElem_cons h,gD,gE h]
 rfl
theorem dA {p:UInt8->Bool} {l:List UInt8} {a:Nat} (h:a<l.length) (hp:p (l.getD a 0)=true):bS p l (a+1)=bS p l a:=by
 unfold bS
 rw [ap h,List.takeWhile_cons,if_pos hp,List.length_cons]
 omega
theorem eM {p:UInt8->Bool} {l:List UInt8} {a:Nat} (h:a<l.length) (hp:p (l.getD a 0)=false):bS p l a=a:=by
 unfold bS
 rw [ap h,List.takeWhile_cons,if_neg (by rw [hp];decide)]
 rfl
theorem gd {p:UInt8->Bool} {l:List UInt8} {a:Nat} (h:l.length<=a):bS p l a=a:=by
 unfold bS
 rw [List.drop_of_length_le h]
 rfl
theorem gF (p:UInt8->Bool) {l:List UInt8} {a:Nat} (h:a<=l.length):bS p l a<=l.length:=by
 unfold bS
 have:=(List.takeWhile_sublist p (l:=l.drop a)).length_le
 rw [List.length_drop] at this
 omega
theorem pP (p:UInt8->Bool) (l:List UInt8) (a:Nat):a<=bS p l a:=Nat.le_add_right _ _
def bO (b:UInt8):Bool:=b == 9 || b == 10 || b == 12 || b == 13 || b == 32
def aX (b:UInt8):Bool:=bO b || [40,41,91,93,34,59,39,96,44].contains b
def bZ:Nat->List UInt8->Option Nat
 | deep,a :: b :: t=>
  if a=35/\b=124 then (bZ (deep+1) t).map (· + 2)
  else if a=124/\b=35 then (if deep<=1 then some 2 else (bZ (deep - 1) t).map (· + 2))
  else (bZ deep (b :: t)).map (· + 1)
 | _,_=>none
theorem iJ:∀ (l:List UInt8) (deep n:Nat),bZ deep l=some n->2<=n/\n<=l.length:=by
 intro l
 induction hl:l.length using Nat.strongRecOn generalizing l with
 | _ k ih=>
  intro deep n h
  match l,hl with
  | [],_=>simp [bZ] at h
  | [x],_=>simp [bZ] at h
  | a :: b :: t,hl=>
   simp only [List.length_cons] at hl
   rw [bZ] at h
   split at h
   ·cases hc:bZ (deep+1) t with
    | none=>rw [hc] at h;simp at h
    | some m=>
     rw [hc] at h
     have:=ih t.length (by omega) t rfl (deep+1) m hc
     simp at h
     omega
   ·split at h
    ·split at h
     ·simp at h;omega
     ·cases hc:bZ (deep - 1) t with
      | none=>rw [hc] at h;simp at h
      | some m=>
       rw [hc] at h
       have:=ih t.length (by omega) t rfl (deep - 1) m hc
       simp at h
       omega
    ·cases hc:bZ deep (b :: t) with
     | none=>rw [hc] at h;simp at h
     | some m=>
      rw [hc] at h
      have:=ih (b :: t).length (by simp only [List.length_cons];omega) (b :: t) rfl deep m hc
      simp at h
      simp only [List.length_cons] at this
      omega
theorem ux:∀ (l y:List UInt8) (deep n:Nat),bZ deep l=some n->bZ deep (l++y)=some n:=by
 intro l
 induction hl:l.length using Nat.strongRecOn generalizing l with
 | _ k ih=>
  intro y deep n h
  match l,hl with
  | [],_=>simp [bZ] at h
  | [x],_=>simp [bZ] at h
  | a :: b :: t,hl=>
   simp only [List.length_cons] at hl
   rw [bZ] at h
   rw [List.cons_append,List.cons_append,bZ]
   split at h
   ·rename_i hc
    rw [if_pos hc]
    cases hm:bZ (deep+1) t with
    | none=>rw [hm] at h;simp at h
    | some m=>rw [hm] at h;rw [ih t.length (by omega) t rfl y _ m hm];exact h
   ·rename_i hc
    rw [if_neg hc]
    split at h
    ·rename_i hd
     rw [if_pos hd]
     split at h
     ·rename_i he;rw [if_pos he];exact h
     ·rename_i he
      rw [if_neg he]
      cases hm:bZ (deep - 1) t with
      | none=>rw [hm] at h;simp at h
      | some m=>rw [hm] at h;rw [ih t.length (by omega) t rfl y _ m hm];exact h
    ·rename_i hd
     rw [if_neg hd]
     cases hm:bZ deep (b :: t) with
     | none=>rw [hm] at h;simp at h
     | some m=>rw [hm] at h;rw [<- List.cons_append,ih (b :: t).length (by simp only [List.length_cons];omega) (b :: t) rfl y _ m hm];exact h
def aV:Nat->List UInt8->Except Nat Nat
 | _,[]=>.ok 0
 | n+1,_ :: t=>match aV n t with | .ok m=>.ok (m+1) | .error m=>.error (m+1)
 | 0,c :: t=>
  if bO c=true then (match aV 0 t with | .ok m=>.ok (m+1) | .error m=>.error (m+1))
  else if c=59 then (match aV (t.takeWhile (fun b=>b != 10)).length t with | .ok m=>.ok (m+1) | .error m=>.error (m+1))
  else if c=35/\t.head? = some 124 then
   match bZ 1 (t.drop 1) with
   | none=>.error 0
   | some k=>(match aV (1+k) t with | .ok m=>.ok (m+1) | .error m=>.error (m+1))
  else .ok 0
def upE (n:Nat):Except Nat Nat->Except Nat Nat
 | .ok m=>.ok (n+m)
 | .error m=>.error (n+m)
theorem sg (r:Except Nat Nat):upE 0 r=r:=by cases r<;>simp [upE]
theorem g6:∀ (n:Nat) (l:List UInt8),n<=l.length->aV n l=upE n (aV 0 (l.drop n))
 | 0,l,_=>by rw [sg];rfl
 | n+1,[],h=>by simp at h
 | n+1,c :: t,h=>by
  rw [List.drop_succ_cons,aV,g6 n t (by simpa using h)]
  cases aV 0 (t.drop n)<;>simp [upE]<;>omega
def aC (l:List UInt8) (i:Nat):Except Nat Nat:=upE i (aV 0 (l.drop i))
theorem jO {l:List UInt8}:aC l l.length=.ok l.length:=by
 unfold aC;rw [List.drop_length];rfl
theorem io {l:List UInt8} {i:Nat} (h:i<l.length) (h1:bO (l.getD i 0)=true):aC l i=aC l (i+1):=by
 unfold aC
 rw [ap h,aV,if_pos h1]
 cases aV 0 (l.drop (i+1))<;>simp [upE]<;>omega
theorem uL:bO 59=false:=by decide
theorem nR:bO 35=false:=by decide
theorem je {l:List UInt8} {i:Nat} (h:i<l.length) (h1:l.getD i 0=59):aC l i=aC l (bS (fun b=>b != 10) l i):=by
 have e:bS (fun b=>b != 10) l i=i+1+((l.drop (i+1)).takeWhile (fun b=>b != 10)).length:=by
  rw [<- dA h (by rw [h1];decide)];rfl
 unfold aC
 rw [e,ap h,aV,h1,uL,if_neg (by decide),if_pos rfl,g6 _ _ (List.takeWhile_sublist _).length_le,List.drop_drop]
 cases aV 0 (l.drop (i+1+((l.drop (i+1)).takeWhile (fun b=>b != 10)).length))<;>simp [upE]<;>omega
theorem fF (l:List UInt8) (i:Nat) (x:UInt8):(l.drop i).head? = some x ↔ i<l.length/\l.getD i 0=x:=by
 by_cases h:i<l.length
 ·rw [ap h];simp [h]
 ·rw [List.drop_of_length_le (by omega)];simp [h]
theorem jP {l:List UInt8} {i k:Nat} (h:i+1<l.length) (h1:l.getD i 0=35) (h2:l.getD (i+1) 0=124) (hc:bZ 1 (l.drop (i+2))=some k):aC l i=aC l (i+2+k):=by
 have hk:=iJ _ _ _ hc
 rw [List.length_drop] at hk
 unfold aC
 rw [ap (show i<l.length by omega),aV,h1,nR,if_neg (by decide),if_neg (by decide),if_pos ⟨rfl,(fF _ _ _).2 ⟨h,h2⟩⟩,List.drop_drop,show i+1+1=i+2 from rfl,hc]
 simp only
 rw [g6 _ _ (by rw [List.length_drop];omega),List.drop_drop,show i+1+(1+k)=i+2+k by omega]
 cases aV 0 (l.drop (i+2+k))<;>simp [upE]<;>omega
theorem jd {l:List UInt8} {i:Nat} (h:i+1<l.length) (h1:l.getD i 0=35) (h2:l.getD (i+1) 0=124) (hc:bZ 1 (l.drop (i+2))=none):aC l i=.error i:=by
 unfold aC
 rw [ap (show i<l.length by omega),aV,h1,nR,if_neg (by decide),if_neg (by decide),if_pos ⟨rfl,(fF _ _ _).2 ⟨h,h2⟩⟩,List.drop_drop,show i+1+1=i+2 from rfl,hc]
 rfl
theorem jc {l:List UInt8} {i:Nat} (h:i<l.length) (h1:bO (l.getD i 0)=false) (h2:l.getD i 0 ≠ 59) (h3:¬ (i+1<l.length/\l.getD i 0=35/\l.getD (i+1) 0=124)):aC l i=.ok i:=by
 unfold aC
 rw [ap h,aV,h1,if_neg (by decide),if_neg h2,if_neg (by rintro ⟨a,b⟩;obtain ⟨c,d⟩:=(fF _ _ _).1 b;exact h3 ⟨c,a,d⟩)]
 rfl
def ga (b:UInt8):Option Nat:=
 if 48<=b.toNat/\b.toNat<=57 then some (b.toNat - 48)
 else if 97<=b.toNat/\b.toNat<=102 then some (b.toNat - 87)
 else if 65<=b.toNat/\b.toNat<=70 then some (b.toNat - 55) else none
def bn (n:Nat):Bool:=decide (n<0xD800\/0xE000<=n/\n<=0x10FFFF)
def ib:List UInt8->Nat->Option Nat
 | [],n=>some n
 | b :: t,n=>match ga b with
  | none=>none
  | some v=>ib t (n * 16+v)
def df (l:List UInt8):Option Nat:=
 if l.length<1\/6<l.length then none else
 match ib l 0 with
 | none=>none
 | some n=>if bn n then some n else none
def aI (c:Nat):List UInt8:=
 if c<0x80 then [UInt8.ofNat c]
 else if c<0x800 then [UInt8.ofNat (0xC0+c / 64),UInt8.ofNat (0x80+c % 64)]
 else if c<0x10000 then [UInt8.ofNat (0xE0+c / 4096),UInt8.ofNat (0x80+c / 64 % 64),UInt8.ofNat (0x80+c % 64)]
 else [UInt8.ofNat (0xF0+c / 262144),UInt8.ofNat (0x80+c / 4096 % 64),UInt8.ofNat (0x80+c / 64 % 64),UInt8.ofNat (0x80+c % 64)]
theorem vU {b:UInt8} {v:Nat} (h:ga b=some v):v<16:=by
 unfold ga at h
 split at h
 ·injection h;omega
 ·split at h
  ·injection h;omega
  ·split at h
   ·injection h;omega
   ·cases h
inductive yv where
 | open_
 | bad
 | ok (out:List UInt8) (n:Nat)
def eT (u:List UInt8):Option Nat:=if (u.takeWhile (fun b=>b != 59)).length<u.length then some (u.takeWhile (fun b=>b != 59)).length else none
def bN (by_:UInt8):List UInt8->yv
 | []=>.open_
 | d :: u=>
  if d=92\/d=34 then .ok [d] 1
  else if d=110 then .ok [10] 1
  else if d=116 then .ok [9] 1
  else if d=114 then .ok [13] 1
  else if d=120 then
   match eT u with
   | none=>.bad
   | some k=>match df (u.take k) with
    | none=>.bad
    | some r=>.ok (aI r) (k+2)
  else if d=124/\by_=124 then .ok [124] 1
  else .bad
inductive dh where
 | open_
 | bad (i:Nat)
 | ok (out:List UInt8) (n:Nat)
def dh.up (out:List UInt8) (k:Nat):dh->dh
 | .open_=>.open_
 | .bad i=>.bad (k+i)
 | .ok o n=>.ok (out++o) (k+n)
theorem dh.up_up (a b:List UInt8) (j k:Nat) (r:dh):(r.up b k).up a j=r.up (a++b) (j+k):=by
 cases r<;>simp [dh.up,Nat.add_assoc]
theorem dh.up_zero (r:dh):r.up [] 0=r:=by cases r<;>simp [dh.up]
def dj (by_:UInt8):Nat->List UInt8->dh
 | _,[]=>.open_
 | n+1,_ :: t=>(dj by_ n t).up [] 1
 | 0,c :: t=>
  if c=by_ then .ok [] 1
  else if c ≠ 92 then (dj by_ 0 t).up [c] 1
  else match bN by_ t with
   | .open_=>.open_
   | .bad=>.bad 0
   | .ok out m=>(dj by_ m t).up out 1
theorem la (by_:UInt8):∀ (n:Nat) (l:List UInt8),n<=l.length->dj by_ n l=(dj by_ 0 (l.drop n)).up [] n
 | 0,l,_=>by rw [dh.up_zero];rfl
 | n+1,[],h=>by simp at h
 | n+1,c :: t,h=>by
  rw [List.drop_succ_cons,dj,la by_ n t (by simpa using h),dh.up_up,List.nil_append,Nat.add_comm]
theorem jz {u:List UInt8} {k:Nat} (h:eT u=some k):k<u.length:=by
 unfold eT at h
 split at h
 ·injection h;omega
 ·cases h
theorem l9 {by_:UInt8} {l out:List UInt8} {n:Nat} (h:bN by_ l=.ok out n):1<=n/\n<=l.length:=by
 cases l with
 | nil=>cases h
 | cons d u=>
  rw [bN] at h
  rw [List.length_cons]
  split at h
  ·injection h;omega
  split at h
  ·injection h;omega
  split at h
  ·injection h;omega
  split at h
  ·injection h;omega
  split at h
  ·split at h
   ·cases h
   ·rename_i k hk
    have:=jz hk
    split at h
    ·cases h
    ·injection h;omega
  split at h
  ·injection h;omega
  ·cases h
def dm (by_:UInt8) (l:List UInt8) (i:Nat) (out:List UInt8):dh:=(dj by_ 0 (l.drop i)).up out i
theorem ld (by_:UInt8) (l out:List UInt8):dm by_ l l.length out=.open_:=by
 unfold dm;rw [List.drop_length];rfl
theorem jm {by_:UInt8} {l out:List UInt8} {i:Nat} (h:i<l.length) (h1:l.getD i 0=by_):dm by_ l i out=.ok out (i+1):=by
 unfold dm
 rw [ap h,dj,if_pos h1]
 simp [dh.up]
theorem jl {by_:UInt8} {l out:List UInt8} {i:Nat} (h:i<l.length) (h1:l.getD i 0 ≠ by_) (h2:l.getD i 0 ≠ 92):dm by_ l i out=dm by_ l (i+1) (out++[l.getD i 0]):=by
 unfold dm
 rw [ap h,dj,if_neg h1,if_pos h2,dh.up_up]
theorem j3 {by_:UInt8} {l out:List UInt8} {i:Nat} (h:i<l.length) (h1:l.getD i 0 ≠ by_) (h2:l.getD i 0=92) (h3:bN by_ (l.drop (i+1))=.open_):dm by_ l i out=.open_:=by
 unfold dm
 rw [ap h,dj,if_neg h1,if_neg (by simp only [h2,ne_eq,not_true_eq_false,not_false_eq_true]),h3]
 rfl
theorem lf {by_:UInt8} {l out:List UInt8} {i:Nat} (h:i<l.length) (h1:l.getD i 0 ≠ by_) (h2:l.getD i 0=92) (h3:bN by_ (l.drop (i+1))=.bad):dm by_ l i out=.bad i:=by
 unfold dm
 rw [ap h,dj,if_neg h1,if_neg (by simp only [h2,ne_eq,not_true_eq_false,not_false_eq_true]),h3]
 rfl
theorem lc {by_:UInt8} {l out o:List UInt8} {i n:Nat} (h:i<l.length) (h1:l.getD i 0 ≠ by_) (h2:l.getD i 0=92) (h3:bN by_ (l.drop (i+1))=.ok o n):dm by_ l i out=dm by_ l (i+1+n) (out++o):=by
 unfold dm
 rw [ap h,dj,if_neg h1,if_neg (by simp only [h2,ne_eq,not_true_eq_false,not_false_eq_true]),h3]
 simp only
 rw [la _ _ _ (l9 h3).2,dh.up_up,dh.up_up,List.drop_drop,List.append_nil,Nat.add_assoc]
def dl:Nat->List UInt8->Option (List Nat)
 | 0,_=>some []
 | f+1,l=>if l=[] then some [] else if (decodeL l).1=65533/\(decodeL l).2=1 then none else (dl f (l.drop (decodeL l).2)).map ((decodeL l).1 :: ·)
def au (l:List UInt8):Option (List Nat):=dl l.length l
inductive ig where
 | no
 | tru
 | fls
 | chr (c:Nat)
 | int (x:Int)
 | str (t:List UInt8)
 | sym (t:List UInt8)
structure Tk where
 kind:Nat
 len:Nat
 sq:Bool
 d:ig
def cA (sym:Bool) (t:List UInt8):Except Nat ig:=
 match au t with
 | none=>.error 9
 | some r=>if sym=true/\t=[] then .error 9 else if 62<r.length then .error 6 else .ok (if sym then .sym t else .str t)
def aN (t:List UInt8):Option Nat:=
 if t=[110,117,108] then some 0
 else if t=[97,108,97,114,109] then some 7
 else if t=[98,97,99,107,115,112,97,99,101] then some 8
 else if t=[116,97,98] then some 9
 else if t=[110,101,119,108,105,110,101] then some 10
 else if t=[114,101,116,117,114,110] then some 13
 else if t=[101,115,99,97,112,101] then some 27
 else if t=[115,112,97,99,101] then some 32
 else if t=[100,101,108,101,116,101] then some 127
 else none
def gp (t:List UInt8):Except Nat (Nat × Nat):=
 if t=[] then .error 11
 else if (decodeL t).1=65533/\(decodeL t).2=1 then .error 9
 else
  let n:=(decodeL t).2
  let m:=((t.drop n).takeWhile (fun b=>!aX b)).length
  if m=0 then .ok ((decodeL t).1,n)
  else match aN (t.take (n+m)) with
   | some v=>.ok (v,n+m)
   | none=>if (decodeL t).1=120 then
    (match df ((t.drop n).take m) with
    | some r=>.ok (r,n+m)
    | none=>.error 9)
    else .error 9
def bh (b:UInt8):Bool:=!aX b && b != 124
def fs (w:List UInt8):Except Nat (Nat × ig):=
 if w=[46] then .ok (8,.no)
 else if w=[35,116]\/w=[35,116,114,117,101] then .ok (9,.tru)
 else if w=[35,102]\/w=[35,102,97,108,115,101] then .ok (9,.fls)
 else if w.head? = some 35 then .error 9
 else match aJ w with
  | some x=>if (aA x.natAbs).length<=48 then .ok (9,.int x) else .error 6
  | none=>match cA true w with
   | .ok d=>.ok (9,d)
   | .error c=>.error c
def jr:List UInt8->Except (Nat × Nat) Tk
 | []=>.error (0,9)
 | c :: t=>
  if c=40\/c=91 then .ok ⟨1,1,c == 91,.no⟩
  else if c=41\/c=93 then .ok ⟨2,1,c == 93,.no⟩
  else if c=39 then .ok ⟨4,1,false,.no⟩
  else if c=96 then .ok ⟨5,1,false,.no⟩
  else if c=44 then (if t.head? = some 64 then .ok ⟨7,2,false,.no⟩ else .ok ⟨6,1,false,.no⟩)
  else if c=34\/c=124 then
   match dj c 0 t with
   | .open_=>.error (0,11)
   | .bad i=>.error (1+i,9)
   | .ok out n=>match cA (c == 124) out with
    | .ok d=>.ok ⟨9,1+n,false,d⟩
    | .error e=>.error (0,e)
  else if c=35/\t.head? = some 40 then .ok ⟨3,2,false,.no⟩
  else if c=35/\t.head? = some 92 then
   match gp (t.drop 1) with
   | .ok (v,n)=>.ok ⟨9,2+n,false,.chr v⟩
   | .error e=>.error (0,e)
  else match fs ((c :: t).takeWhile bh) with
   | .ok (k,d)=>.ok ⟨k,((c :: t).takeWhile bh).length,false,d⟩
   | .error e=>.error (0,e)
def iE (l:List UInt8) (i:Nat):Except (Nat × Nat) (Nat × Tk):=
 match aC l i with
 | .error p=>.error (p,11)
 | .ok j=>if j=l.length then .ok (j,⟨0,0,false,.no⟩) else
  match jr (l.drop j) with
  | .error (p,c)=>.error (j+p,c)
  | .ok t=>.ok (j,t)
theorem lL (p:UInt8->Bool):∀ x:List UInt8,x.drop (x.takeWhile p).length=[]\/∃ d t,x.drop (x.takeWhile p).length=d :: t/\p d=false
 | []=>.inl rfl
 | c :: t=>by
  by_cases h:p c=true
  ·rw [List.takeWhile_cons,if_pos h,List.length_cons,List.drop_succ_cons]
   exact lL p t
  ·rw [List.takeWhile_cons,if_neg h]
   exact .inr ⟨c,t,rfl,by simpa using h⟩
theorem mB (p:UInt8->Bool):∀ (x z:List UInt8),z.take (x.takeWhile p).length=x.take (x.takeWhile p).length->(z.drop (x.takeWhile p).length=[]\/∃ d t,z.drop (x.takeWhile p).length=d :: t/\p d=false)->z.takeWhile p=x.takeWhile p
 | [],z,_,h=>by
  simp only [List.takeWhile_nil,List.length_nil,List.drop_zero] at h ⊢
  rcases h with h | ⟨d,t,h,g⟩
  ·rw [h];rfl
  ·rw [h,List.takeWhile_cons,if_neg (by rw [g];decide)]
 | c :: t,z,e,h=>by
  by_cases hc:p c=true
  ·rw [List.takeWhile_cons,if_pos hc,List.length_cons] at e h
   cases z with
   | nil=>simp at e
   | cons d u=>
    rw [List.take_succ_cons,List.take_succ_cons] at e
    injection e with e1 e2
    rw [List.drop_succ_cons] at h
    rw [List.takeWhile_cons,List.takeWhile_cons,e1,if_pos hc,if_pos hc,mB p t u e2 h]
  ·rw [List.takeWhile_cons,if_neg hc] at e h ⊢
   rcases h with h | ⟨d,u,h,g⟩
   ·simp only [List.length_nil,List.drop_zero] at h
    rw [h];rfl
   ·simp only [List.length_nil,List.drop_zero] at h
    rw [h,List.takeWhile_cons,if_neg (by rw [g];decide)]
theorem vc (p:UInt8->Bool) (x:List UInt8):x.take (x.takeWhile p).length=x.takeWhile p:=by
 induction x with
 | nil=>rfl
 | cons c t ih=>
  by_cases hc:p c=true
  ·rw [List.takeWhile_cons,if_pos hc,List.length_cons,List.take_succ_cons,ih]
  ·rw [List.takeWhile_cons,if_neg hc];rfl
theorem wK (p:UInt8->Bool) (hp:p 10=false) (x y:List UInt8):(x++10 :: y).takeWhile p=x.takeWhile p:=by
 induction x with
 | nil=>rw [List.nil_append,List.takeWhile_cons,if_neg (by rw [hp];decide)];rfl
 | cons c t ih=>
  by_cases hc:p c=true
  ·rw [List.cons_append,List.takeWhile_cons,if_pos hc,List.takeWhile_cons,if_pos hc,ih]
  ·rw [List.cons_append,List.takeWhile_cons,if_neg hc,List.takeWhile_cons,if_neg hc]
theorem fw {x z:List UInt8} {n j:Nat} (h:z.take n=x.take n) (hj:j<n):z.getD j 0=x.getD j 0:=by
 have:=congrArg (fun l=>l.getD j 0) h
 simp only [gD,List.getElem?_take,if_pos hj] at this
 rw [gD,gD]
 exact this
theorem iQ {x z:List UInt8} {n m:Nat} (h:z.take n=x.take n) (hm:m<=n):z.take m=x.take m:=by
 have:=congrArg (List.take m) h
 rwa [List.take_take,List.take_take,Nat.min_eq_left hm] at this
theorem jb {x z:List UInt8} {n:Nat} (h:z.take n=x.take n) (hn:n<=x.length):n<=z.length:=by
 have:=congrArg List.length h
 rw [List.length_take,List.length_take] at this
 omega
theorem jM (y:List UInt8):∀ (x:List UInt8) (n m:Nat),n<=x.length->aV n x=.ok m ->
 (m<x.length->aV n (x++10 :: y)=.ok m)/\(m=x.length->aV n (x++10 :: y)=upE (x.length+1) (aV 0 y))/\m<=x.length
 | [],n,m,hn,h=>by
  have:n=0:=by simpa using hn
  subst this
  rw [aV] at h
  injection h with h
  refine ⟨by intro h2;simp at h2,fun _=>?_,by omega⟩
  rw [List.nil_append,aV,if_pos (by decide)]
  cases aV 0 y<;>simp [upE]<;>omega
 | c :: t,n+1,m,hn,h=>by
  rw [aV] at h
  cases hs:aV n t with
  | error e=>rw [hs] at h;cases h
  | ok k=>
   rw [hs] at h
   injection h with h
   obtain ⟨a,b,d⟩:=jM y t n k (by simpa using hn) hs
   simp only [List.length_cons]
   refine ⟨fun hm=>?_,fun hm=>?_,by omega⟩
   ·rw [List.cons_append,aV,a (by omega),<- h]
   ·rw [List.cons_append,aV,b (by omega)]
    cases aV 0 y<;>simp [upE]<;>omega
 | c :: t,0,m,hn,h=>by
  rw [aV] at h
  have key:∀ (k:Nat),k<=t.length->(match aV k t with | .ok m=>Except.ok (m+1) | .error m=>.error (m+1))=(Except.ok m:Except Nat Nat) ->
   (m<t.length+1->(match aV k (t++10 :: y) with | .ok m=>Except.ok (m+1) | .error m=>.error (m+1))=(Except.ok m:Except Nat Nat))/\(m=t.length+1->(match aV k (t++10 :: y) with | .ok m=>Except.ok (m+1) | .error m=>.error (m+1))=upE (t.length+1+1) (aV 0 y))/\m<=t.length+1:=by
   intro k hk h
   cases hs:aV k t with
   | error e=>rw [hs] at h;cases h
   | ok j=>
    rw [hs] at h
    injection h with h
    obtain ⟨a,b,d⟩:=jM y t k j hk hs
    refine ⟨fun hm=>?_,fun hm=>?_,by omega⟩
    ·rw [a (by omega),<- h]
    ·rw [b (by omega)]
     cases aV 0 y<;>simp [upE]<;>omega
  rw [List.cons_append,aV,List.length_cons]
  by_cases h1:bO c=true
  ·rw [if_pos h1] at h ⊢
   exact key 0 (by omega) h
  rw [if_neg h1] at h ⊢
  by_cases h2:c=59
  ·rw [if_pos h2] at h ⊢
   rw [wK _ (by decide)]
   exact key _ (List.takeWhile_sublist _).length_le h
  rw [if_neg h2] at h ⊢
  by_cases h3:c=35/\t.head? = some 124
  ·cases t with
   | nil=>simp at h3
   | cons d u=>
    have hd:d=124:=by simpa using h3.2
    rw [if_pos h3] at h
    rw [List.cons_append,if_pos (by exact h3)]
    simp only [List.drop_succ_cons,List.drop_zero] at h ⊢
    cases hc:bZ 1 u with
    | none=>rw [hc] at h;cases h
    | some k=>
     have:=iJ _ _ _ hc
     rw [hc] at h
     rw [ux _ _ _ _ hc]
     exact key _ (by simp only [List.length_cons];omega) h
  ·rw [if_neg h3] at h
   rw [if_neg (by
    cases t with
    | nil=>simp
    | cons d u=>exact h3)]
   injection h with h
   exact ⟨fun _=>by rw [h],fun hm=>by omega,by omega⟩
theorem oy {x z:List UInt8} {k:Nat} (h:eT x=some k) (e:z.take (k+1)=x.take (k+1)):eT z=some k:=by
 have hk:=jz h
 have e1:(x.takeWhile (fun b=>b != 59)).length=k:=by
  unfold eT at h
  split at h
  ·injection h
  ·cases h
 have hz:=jb e (by omega)
 have hd:x.getD k 0=59:=by
  rcases lL (fun b=>b != 59) x with h2 | ⟨d,t,h2,g⟩
  ·rw [e1] at h2;have:=congrArg List.length h2;rw [List.length_drop] at this;simp at this;omega
  ·rw [e1] at h2
   rw [show x.getD k 0=d by have:=dC x k 0;rw [Nat.add_zero,h2] at this;exact this.symm]
   simpa using g
 have hz2:z.getD k 0=59:=by rw [fw e (by omega),hd]
 have e3:z.takeWhile (fun b=>b != 59)=x.takeWhile (fun b=>b != 59):=by
  refine mB _ _ _ (by rw [e1];exact iQ e (by omega)) ?_
  rw [e1]
  refine .inr ⟨59,z.drop (k+1),?_,by decide⟩
  rw [ap (by omega),hz2]
 unfold eT
 rw [e3,e1,if_pos (by omega)]
theorem pm {by_:UInt8} {x z out:List UInt8} {n:Nat} (h:bN by_ x=.ok out n) (e:z.take n=x.take n):bN by_ z=.ok out n:=by
 have hn:=l9 h
 cases x with
 | nil=>cases h
 | cons d u=>
  obtain ⟨m,rfl⟩:∃ m,n=m+1:=⟨n - 1,by omega⟩
  cases z with
  | nil=>simp at e
  | cons d' v=>
   rw [List.take_succ_cons,List.take_succ_cons] at e
   injection e with e1 e2
   subst e1
   rw [bN] at h ⊢
   split at h
   ·rename_i c;rw [if_pos c];exact h
   rename_i c;rw [if_neg c]
   split at h
   ·rename_i c;rw [if_pos c];exact h
   rename_i c;rw [if_neg c]
   split at h
   ·rename_i c;rw [if_pos c];exact h
   rename_i c;rw [if_neg c]
   split at h
   ·rename_i c;rw [if_pos c];exact h
   rename_i c;rw [if_neg c]
   split at h
   ·rename_i c;rw [if_pos c]
    cases hs:eT u with
    | none=>rw [hs] at h;cases h
    | some k=>
     rw [hs] at h
     simp only at h
     cases hc:df (u.take k) with
     | none=>rw [hc] at h;cases h
     | some r=>
      rw [hc] at h
      injection h with h1 h2
      have hm:m=k+1:=by omega
      rw [hm] at e2
      rw [oy hs e2]
      simp only
      rw [iQ e2 (by omega),hc]
      simp only
      rw [h1,h2]
   rename_i c;rw [if_neg c]
   split at h
   ·rename_i c;rw [if_pos c];exact h
   ·cases h
theorem dh.up_ok {out o:List UInt8} {k n:Nat} {r:dh} (h:r.up out k=.ok o n):∃ o' n',r=.ok o' n'/\o=out++o'/\n=k+n':=by
 cases r with
 | open_=>cases h
 | bad=>cases h
 | ok o' n'=>injection h with h1 h2;exact ⟨o',n',rfl,h1.symm,h2.symm⟩
theorem fQ (by_:UInt8):∀ (x z:List UInt8) (k:Nat) (out:List UInt8) (n:Nat),dj by_ k x=.ok out n->z.take n=x.take n->dj by_ k z=.ok out n/\k<n/\n<=x.length
 | [],_,k,out,n,h,_=>by cases k<;>cases h
 | c :: t,z,k+1,out,n,h,e=>by
  rw [dj] at h
  obtain ⟨o,m,h1,h2,h3⟩:=dh.up_ok h
  rw [show n=m+1 by omega] at e ⊢
  cases z with
  | nil=>simp at e
  | cons d v=>
   rw [List.take_succ_cons,List.take_succ_cons] at e
   injection e with e1 e2
   obtain ⟨a,b,c⟩:=fQ by_ t v k o m h1 e2
   rw [dj,a,List.length_cons]
   refine ⟨?_,by omega,by omega⟩
   rw [h2]
   simp [dh.up,Nat.add_comm]
 | c :: t,z,0,out,n,h,e=>by
  rw [dj] at h
  by_cases h1:c=by_
  ·rw [if_pos h1] at h
   injection h with h2 h3
   subst h2;subst h3
   cases z with
   | nil=>simp at e
   | cons d v=>
    rw [List.take_succ_cons,List.take_succ_cons] at e
    injection e with e1 e2
    rw [dj,if_pos (by rw [e1];exact h1),List.length_cons]
    exact ⟨rfl,by omega,by omega⟩
  rw [if_neg h1] at h
  by_cases h2:c ≠ 92
  ·rw [if_pos h2] at h
   obtain ⟨o,m,h3,h4,h5⟩:=dh.up_ok h
   rw [show n=m+1 by omega] at e ⊢
   cases z with
   | nil=>simp at e
   | cons d v=>
    rw [List.take_succ_cons,List.take_succ_cons] at e
    injection e with e1 e2
    obtain ⟨a,b,q⟩:=fQ by_ t v 0 o m h3 e2
    rw [dj,e1,if_neg h1,if_pos h2,a,List.length_cons]
    refine ⟨?_,by omega,by omega⟩
    rw [h4]
    simp [dh.up,Nat.add_comm]
  rw [if_neg h2] at h
  cases he:bN by_ t with
  | open_=>rw [he] at h;cases h
  | bad=>rw [he] at h;cases h
  | ok o j=>
   rw [he] at h
   simp only at h
   obtain ⟨o2,m,h3,h4,h5⟩:=dh.up_ok h
   rw [show n=m+1 by omega] at e ⊢
   cases z with
   | nil=>simp at e
   | cons d v=>
    rw [List.take_succ_cons,List.take_succ_cons] at e
    injection e with e1 e2
    obtain ⟨a,b,q⟩:=fQ by_ t v j o2 m h3 e2
    rw [dj,e1,if_neg h1,if_neg h2,pm he (iQ e2 (by omega)),List.length_cons]
    simp only
    rw [a]
    refine ⟨?_,by omega,by omega⟩
    rw [h4]
    simp [dh.up,Nat.add_comm]
theorem dh.up_bad {out:List UInt8} {k i:Nat} {r:dh} (h:r.up out k=.bad i):∃ i',r=.bad i'/\i=k+i':=by
 cases r with
 | open_=>cases h
 | bad i'=>injection h with h1;exact ⟨i',rfl,h1.symm⟩
 | ok=>cases h
theorem kP (n n' b0 b1 b2 b3 c1 c2 c3 w:Nat) (h:decodeN n b0 b1 b2 b3 ≠ (65533,1)) (hw:(decodeN n b0 b1 b2 b3).2=w) (hn:w<=n') (h1:1<w->c1=b1) (h2:2<w->c2=b2) (h3:3<w->c3=b3):decodeN n' b0 c1 c2 c3=decodeN n b0 b1 b2 b3:=by
 unfold decodeN at h hw ⊢
 by_cases a0:b0<128
 ·rw [if_pos a0,if_pos a0]
 rw [if_neg a0] at h hw
 rw [if_neg a0,if_neg a0]
 by_cases a1:b0 / 32=6/\(1<n/\b1 / 64=2)
 ·rw [if_pos a1] at h hw
  by_cases g:b0 % 32 * 64+b1 % 64 >= 128
  ·rw [if_pos g] at hw
   simp only at hw
   obtain rfl:=h1 (by omega)
   rw [if_pos a1,if_pos (by omega)]
  ·rw [if_neg g] at h;exact absurd rfl h
 rw [if_neg a1] at h hw
 rw [if_neg a1]
 by_cases a2:b0 / 16=14/\(1<n/\b1 / 64=2)/\(2<n/\b2 / 64=2)
 ·rw [if_pos a2] at h hw
  split at hw
  ·rename_i g
   simp only at hw
   obtain rfl:=h1 (by omega)
   obtain rfl:=h2 (by omega)
   rw [if_neg (by omega),if_pos (by omega),if_pos a2]
  ·rename_i g
   rw [if_neg g] at h;exact absurd rfl h
 rw [if_neg a2] at h hw
 rw [if_neg a2]
 by_cases a3:b0 / 8=30/\(1<n/\b1 / 64=2)/\(2<n/\b2 / 64=2)/\(3<n/\b3 / 64=2)
 ·rw [if_pos a3] at h hw
  split at hw
  ·rename_i g
   simp only at hw
   obtain rfl:=h1 (by omega)
   obtain rfl:=h2 (by omega)
   obtain rfl:=h3 (by omega)
   rw [if_neg (by omega),if_neg (by omega),if_pos (by omega),if_pos a3]
  ·rename_i g
   rw [if_neg g] at h;exact absurd rfl h
 ·rw [if_neg a3] at h;exact absurd rfl h
theorem rL {p:Nat × Nat} (h:¬ (p.1=65533/\p.2=1)):p ≠ (65533,1):=by
 rintro rfl;exact h ⟨rfl,rfl⟩
theorem kO (n b0 b1 b2 b3:Nat) (h:1<=n):1<=(decodeN n b0 b1 b2 b3).2/\(decodeN n b0 b1 b2 b3).2<=n:=by
 unfold decodeN
 repeat' split
 all_goals simp only
 all_goals omega
theorem bo {x:List UInt8} (h:x ≠ []):1<=(decodeL x).2/\(decodeL x).2<=x.length:=by
 rw [decodeL_N]
 exact kO _ _ _ _ _ (List.length_pos_iff.2 h)
theorem gX {x z:List UInt8} (hx:x ≠ []) (h:¬ ((decodeL x).1=65533/\(decodeL x).2=1)) (e:z.take (decodeL x).2=x.take (decodeL x).2):decodeL z=decodeL x:=by
 have hw:=bo hx
 have hz:=jb e hw.2
 have key:∀ w,(decodeL x).2=w->decodeL z=decodeL x:=by
  intro w hw2
  rw [hw2] at hw hz e
  rw [decodeL_N x] at h hw2
  rw [decodeL_N z,decodeL_N x]
  rw [fw e (show 0<w by omega)]
  exact kP _ _ _ _ _ _ _ _ _ w (rL h) hw2 hz (fun g=>by rw [fw e g]) (fun g=>by rw [fw e g]) (fun g=>by rw [fw e g])
 exact key _ rfl
def fX (l:List UInt8) (at_:Int):Except (Nat × Nat) (Nat × Tk):=
 if 4096<l.length then .error (0,12) else if at_<0\/(l.length:Int)<at_ then .error (0,1) else iE l at_.toNat
theorem pJ:∀ (x:List UInt8) (n m:Nat),n<=x.length->aV n x=.ok m->m<=x.length:=fun x n m hn h=>(jM [] x n m hn h).2.2
theorem il:∀ (x:List UInt8) (n m:Nat),n<=x.length->aV n x=.error m->m<x.length
 | [],n,m,_,h=>by cases n<;>cases h
 | c :: t,n+1,m,hn,h=>by
  rw [aV] at h
  cases hs:aV n t with
  | ok e=>rw [hs] at h;cases h
  | error k=>
   rw [hs] at h
   injection h with h
   have:=il t n k (by simpa using hn) hs
   simp only [List.length_cons];omega
 | c :: t,0,m,hn,h=>by
  rw [aV] at h
  have key:∀ k,k<=t.length->(match aV k t with | .ok m=>Except.ok (m+1) | .error m=>.error (m+1))=(Except.error m:Except Nat Nat)->m<(c :: t).length:=by
   intro k hk h
   cases hs:aV k t with
   | ok e=>rw [hs] at h;cases h
   | error j=>
    rw [hs] at h
    injection h with h
    have:=il t k j hk hs
    simp only [List.length_cons];omega
  split at h
  ·exact key 0 (by omega) h
  split at h
  ·exact key _ (List.takeWhile_sublist _).length_le h
  split at h
  ·rename_i g
   cases hc:bZ 1 (t.drop 1) with
   | none=>rw [hc] at h;injection h with h;rw [<- h];simp
   | some k=>
    have:=iJ _ _ _ hc
    rw [List.length_drop] at this
    rw [hc] at h
    exact key _ (by omega) h
  ·cases h
theorem kV {b:Bool} {t:List UInt8} {e:Nat} (h:cA b t=.error e):e=6\/e=9:=by
 unfold cA at h
 split at h
 ·injection h;omega
 split at h
 ·injection h;omega
 split at h
 ·injection h;omega
 ·cases h
theorem py {t:List UInt8} {e:Nat} (h:gp t=.error e):e=9\/e=11:=by
 unfold gp at h
 split at h
 ·injection h;omega
 split at h
 ·injection h;omega
 simp only at h
 split at h
 ·cases h
 split at h
 ·cases h
 split at h
 ·split at h
  ·cases h
  ·injection h;omega
 ·injection h;omega
theorem p7 {t:List UInt8} {e:Nat} (h:fs t=.error e):e=6\/e=9:=by
 unfold fs at h
 split at h
 ·cases h
 split at h
 ·cases h
 split at h
 ·cases h
 split at h
 ·injection h;omega
 split at h
 ·split at h
  ·cases h
  ·injection h;omega
 ·split at h
  ·cases h
  ·rename_i g
   injection h with h
   have:=kV g
   omega
theorem jB (by_:UInt8):∀ (x:List UInt8) (k i:Nat),dj by_ k x=.bad i->i<x.length
 | [],k,i,h=>by cases k<;>cases h
 | c :: t,k+1,i,h=>by
  rw [dj] at h
  obtain ⟨j,h1,h2⟩:=dh.up_bad h
  have:=jB by_ t k j h1
  rw [List.length_cons];omega
 | c :: t,0,i,h=>by
  rw [dj] at h
  rw [List.length_cons]
  split at h
  ·cases h
  split at h
  ·obtain ⟨j,h1,h2⟩:=dh.up_bad h
   have:=jB by_ t 0 j h1
   omega
  split at h
  ·cases h
  ·injection h;omega
  ·obtain ⟨j,h1,h2⟩:=dh.up_bad h
   have:=jB by_ t _ j h1
   omega
theorem oc {x:List UInt8} {p c:Nat} (hx:x ≠ []) (h:jr x=.error (p,c)):p<x.length/\(c=6\/c=9\/c=11):=by
 cases x with
 | nil=>exact absurd rfl hx
 | cons b u=>
  rw [jr] at h
  rw [List.length_cons]
  split at h
  ·cases h
  split at h
  ·cases h
  split at h
  ·cases h
  split at h
  ·cases h
  split at h
  ·split at h<;>cases h
  split at h
  ·split at h
   ·injection h with h;injection h;omega
   ·rename_i i hq
    have:=jB _ _ _ _ hq
    injection h with h;injection h;omega
   ·split at h
    ·cases h
    ·rename_i e he
     have:=kV he
     injection h with h;injection h;omega
  split at h
  ·cases h
  split at h
  ·split at h
   ·cases h
   ·rename_i e he
    have:=py he
    injection h with h;injection h;omega
  ·split at h
   ·cases h
   ·rename_i e he
    have:=p7 he
    injection h with h;injection h;omega
theorem rq {l:List UInt8} {i p c:Nat} (hi:i<=l.length) (h:iE l i=.error (p,c)):p<l.length/\(c=6\/c=9\/c=11):=by
 unfold iE at h
 cases hs:aC l i with
 | error k=>
  rw [hs] at h
  injection h with h;injection h with h1 h2
  unfold aC at hs
  cases hq:aV 0 (l.drop i) with
  | ok m=>rw [hq] at hs;cases hs
  | error m=>
   rw [hq] at hs
   injection hs with hs
   have:=il _ _ _ (by omega) hq
   rw [List.length_drop] at this
   omega
 | ok k=>
  have hk:i<=k/\k<=l.length:=by
   unfold aC at hs
   cases hq:aV 0 (l.drop i) with
   | error p=>rw [hq] at hs;cases hs
   | ok m=>
    rw [hq] at hs
    injection hs with hs
    have:=pJ _ _ _ (by omega) hq
    rw [List.length_drop] at this
    omega
  rw [hs] at h
  simp only at h
  split at h
  ·cases h
  ·rename_i g
   cases ht:jr (l.drop k) with
   | ok t'=>rw [ht] at h;cases h
   | error e=>
    obtain ⟨q,d⟩:=e
    rw [ht] at h
    injection h with h;injection h with h1 h2
    have hne:l.drop k ≠ []:=by
     intro hh
     have:=congrArg List.length hh
     rw [List.length_drop] at this
     simp at this
     omega
    have:=oc hne ht
    rw [List.length_drop] at this
    omega
inductive Raw where
 | mk (k c:Int) (neg:Bool) (mag:List Nat) (t:ByteArray) (l:List Raw)
def Raw.nil:Raw:=.mk 0 0 false [] ⟨#[]⟩ []
def dn (a d:Raw):Raw:=.mk 7 0 false [] ⟨#[]⟩ [a,d]
def aQ:List Raw->Raw->Raw
 | [],d=>d
 | x :: l,d=>dn x (aQ l d)
theorem ln {l:List UInt8} {i:Int} {p c:Nat} (h:fX l i=.error (p,c)):c=1\/c=6\/c=9\/c=11\/c=12:=by
 unfold fX at h
 split at h
 ·injection h with h;injection h;omega
 split at h
 ·injection h with h;injection h;omega
 ·have:=(rq (by omega) h).2
  omega
end Go.Proofs.YtonnikipeokkaaaGreatDoor
