/-
  The shower's pairs: the lemmas of what stands, and the walk.
-/
import Derived.Test.YtonnikipeokkaaaGreatDoorSwZ
import Derived.Deep.LoopGhost
namespace Go.Proofs.YtonnikipeokkaaaGreatDoor
open Go.Lib (hid)
open Go.RowKit Go.Lib
def TabT (w:World):Prop:=bE w/\gu w/\w.cell? ⟨6,15,none⟩=some (.int .u8 4)
theorem TabT.keep {w w':World} (h:TabT w) (k:K0 w w'):TabT w':=
 ⟨h.1.keep k,h.2.1.keep k,(k.cell (bL w _ h.2.2) id).trans h.2.2⟩
def TS (base:Nat) (w:World):Prop:=∀ W:World,ah (fun x=>base<=x) w W->TabT W
theorem TS.keep {base:Nat} {w W:World} {S:Nat->Prop} (h:TS base w) (k:ah S w W) (hs:∀ x,S x->base<=x):TS base W:=fun W' k'=>h W' ((k.mono (fun x _ h=>hs x h)).trans k')
theorem TS.now {base:Nat} {w:World} (h:TS base w):TabT w:=h w kR
theorem TS.start {w:World} (h:TabT w):TS w.heap.size w:=fun _ k=>h.keep (k.mono (fun x lt h=>by omega))
def Off (b:Nat) (g:Option Nat) (x:Nat):Prop:=¬ Sg b g x
structure dt (base:Nat) (W:World) (b:Nat) (pl:Bool) (l:List UInt8) (g:Option Nat):Prop where
 b6:6<base
 ts:TS base W
 sb:∀ x,Sg b g x->base<=x
 sh:aL W b pl l g
theorem dt.hb {base:Nat} {W:World} {b:Nat} {pl:Bool} {l:List UInt8} {g:Option Nat} (E:dt base W b pl l g):base<=W.heap.size:=
 Nat.le_of_lt (Nat.lt_of_le_of_lt (E.sb b (.inl rfl)) (E.sh.lt b (.inl rfl)))
theorem dt.keep {base:Nat} {W W':World} {b:Nat} {pl:Bool} {l:List UInt8} {g:Option Nat} (E:dt base W b pl l g) {S:Nat->Prop} (k:ah S W W') (hs:∀ x,S x->base<=x/\¬ Sg b g x):dt base W' b pl l g:=
 ⟨E.b6,E.ts.keep k (fun x h=>(hs x h).1),E.sb,E.sh.keep k (fun x hx h=>(hs x h).2 hx)⟩
theorem dt.keep0 {base:Nat} {W W':World} {b:Nat} {pl:Bool} {l:List UInt8} {g:Option Nat} (E:dt base W b pl l g) (k:K0 W W'):dt base W' b pl l g:=E.keep k (fun _ h=>h.elim)
theorem dt.wrote {base:Nat} {W W':World} {b:Nat} {pl:Bool} {l l':List UInt8} {g:Option Nat} (E:dt base W b pl l g) (h:br W b pl l' g W'):∃ g',dt base W' b pl l' g'/\kJ W g g'/\ah (Sg b g) W W':=by
 obtain ⟨g',h1,h2,h3⟩:=h
 refine ⟨g',⟨E.b6,E.ts.keep h3 E.sb,?_,h1⟩,h2,h3⟩
 rintro x (rfl | hx)
 ·exact E.sb x (.inl rfl)
 ·rcases h2 with rfl | ⟨k,rfl,hk⟩
  ·exact E.sb x (.inr hx)
  ·injection hx with hx
   have:=E.hb
   omega
theorem dt.low {base:Nat} {W:World} {b:Nat} {pl:Bool} {l:List UInt8} {g:Option Nat} (E:dt base W b pl l g) (h:Sg b g 6):False:=by
 have:=E.sb 6 h
 have:=E.b6
 omega
theorem dt.pl {base:Nat} {W:World} {b:Nat} {pl:Bool} {l:List UInt8} {g:Option Nat} (E:dt base W b pl l g):W.cell? ⟨b,2,none⟩=some (.bool pl):=by
 obtain ⟨a,v,_,h,_⟩:=E.sh
 rw [Lib.cell_of_heap h]
 rfl
theorem rN {W W':World} {b:Nat} {g g':Option Nat} {P:Nat->Prop} {x:Raw} {p:PV} (h:ay (fun y=>P y/\Off b g y) (fun y=>P y/\Off b g y) W x p) (hn:kJ W g g') (k:ah (Sg b g) W W'):ay (fun y=>P y/\Off b g' y) (fun y=>P y/\Off b g' y) W' x p:=by
 have h1:ay (fun y=>y<W.heap.size/\P y/\Off b g y) (fun y=>y<W.heap.size/\P y/\Off b g y) W x p:=h.mono (fun _ lt h=>⟨lt,h⟩) (fun _ lt h=>⟨lt,h⟩)
 have h2:=h1.keep k (fun y hy=>⟨fun o=>o.2.2 hy,fun o=>o.2.2 hy⟩)
 have key:∀ y,(y<W.heap.size/\P y/\Off b g y)->P y/\Off b g' y:=by
  rintro y ⟨lt,hp,ho⟩
  refine ⟨hp,?_⟩
  rcases hn with rfl | ⟨z,rfl,hz⟩
  ·exact ho
  ·rintro (rfl | hy)
   ·exact ho (.inl rfl)
   ·injection hy with hy
    omega
 exact h2.mono (fun y _ h=>key y h) (fun y _ h=>key y h)
structure PSw (base:Nat) (w:World) (b:Nat) (pl:Bool) (T:List UInt8) (g:Option Nat) (B0:Nat) (x:Raw) (p:PV) (acc pend:List UInt8) (g':Option Nat) (wr:World):Prop where
 box:wr.heap[B0]? = some (.cells (cL x p) 27 (0,0))
 env:dt base wr b pl acc g'
 dat:ay (fun y=>y<B0/\Off b g' y) (fun y=>y<B0/\Off b g' y) wr x p
 eq:acc++pend=T
 ng:kJ w g g'
 kp:ah (Sg b g) w wr
 lo:w.heap.size<=B0
 bl:base<=B0
theorem rj {w:World} {b:Nat} {X:Array Value} {T:TypeId} {fz:Nat × Nat} (h:w.heap[b]? = some (.cells X T fz)) (hT:T ≠ 126):¬ iK w b:=bI h hT
namespace PSw
variable {base:Nat} {w:World} {b:Nat} {pl:Bool} {T:List UInt8} {g:Option Nat} {B0:Nat} {x:Raw} {p:PV} {acc pend:List UInt8} {g':Option Nat} {wr:World}
theorem len (h:PSw base w b pl T g B0 x p acc pend g' wr):acc.length+pend.length=T.length:=by rw [<- h.eq,List.length_append]
theorem off (h:PSw base w b pl T g B0 x p acc pend g' wr):¬ Sg b g' B0:=by
 intro hs
 obtain ⟨X,Y,fz,e,hY⟩:=h.env.sh.types B0 hs
 rw [h.box] at e
 injection e with e
 injection e with _ e
 subst e
 rcases hY with h | h<;>exact absurd h (by decide)
theorem start (E:dt base w b pl acc g) (D:ay (Off b g) (Off b g) w x p) (hT:acc++pend=T):PSw base w b pl T g w.heap.size x p acc pend g (w.alloc (.cells (cL x p) 27)):=
 ⟨hN _ _,E.keep0 (kR.alloc _),(D.mono (fun y lt h=>⟨lt,h⟩) (fun y lt h=>⟨lt,h⟩)).keep0 (kR.alloc _),hT,.inl rfl,kR.alloc _,Nat.le_refl _,E.hb⟩
theorem keep0 {W:World} (h:PSw base w b pl T g B0 x p acc pend g' wr) (k:K0 wr W):PSw base w b pl T g B0 x p acc pend g' W:=
 ⟨k.heap h.box id,h.env.keep0 k,h.dat.keep0 k,h.eq,h.ng,h.kp.join k (fun _ _ h=>h.elim),h.lo,h.bl⟩
theorem wrote {W:World} {s:List UInt8} (h:PSw base w b pl T g B0 x p acc (s++pend) g' wr) (hw:br wr b pl (acc++s) g' W):∃ g2,PSw base w b pl T g B0 x p (acc++s) pend g2 W:=by
 obtain ⟨g2,e1,e2,e3⟩:=h.env.wrote hw
 have hw2:br w b pl (acc++s) g W:=br.trans h.ng h.kp ⟨g2,e1.sh,e2,e3⟩
 refine ⟨g2,e3.heap h.box h.off,e1,rN h.dat e2 e3,by rw [List.append_assoc];exact h.eq,?_,h.kp.join e3 (fun i hi hs=>?_),h.lo,h.bl⟩
 ·rcases e2 with rfl | ⟨z,rfl,hz⟩
  ·exact h.ng
  ·exact .inr ⟨z,rfl,Nat.le_trans h.kp.size hz⟩
 ·rcases hs with rfl | hs
  ·exact .inl rfl
  ·rcases h.ng with e | ⟨z,e,hz⟩
   ·rw [e] at hs;exact .inr hs
   ·rw [e] at hs;injection hs with hs;omega
theorem done (h:PSw base w b pl T g B0 x p acc [] g' wr):br w b pl T g wr:=by
 have e:=h.eq
 rw [List.append_nil] at e
 exact ⟨g',e ▸ h.env.sh,h.ng,h.kp⟩
theorem put {x2:Raw} {p2:PV} (h:PSw base w b pl T g B0 x p acc pend g' wr) (D:ay (fun y=>y<B0/\Off b g' y) (fun y=>y<B0/\Off b g' y) wr x2 p2):PSw base w b pl T g B0 x2 p2 acc pend g' (bX wr B0 (.int .i64 x2.k) (.int .i32 x2.c) (.bool x2.neg) (.slice p2.A p2.n p2.cp) (.string x2.t) (.slice p2.B p2.m p2.cap)):=by
 have k:=cF wr B0 (.int .i64 x2.k) (.int .i32 x2.c) (.bool x2.neg) (.slice p2.A p2.n p2.cp) (.string x2.t) (.slice p2.B p2.m p2.cap)
 refine ⟨dR h.box _ _ _ _ _ _,h.env.keep k ?_,D.keep k ?_,h.eq,h.ng,h.kp.join k ?_,h.lo,h.bl⟩
 ·rintro y rfl
  exact ⟨h.bl,h.off⟩
 ·rintro y rfl
  exact ⟨fun o=>by have:=o.1;omega,fun o=>by have:=o.1;omega⟩
 ·rintro i hi rfl
  have:=h.lo
  omega
theorem put_env (h:PSw base w b pl T g B0 x p acc pend g' wr) (x2:Raw) (p2:PV):dt base (bX wr B0 (.int .i64 x2.k) (.int .i32 x2.c) (.bool x2.neg) (.slice p2.A p2.n p2.cp) (.string x2.t) (.slice p2.B p2.m p2.cap)) b pl acc g'/\kJ w g g'/\ah (Sg b g) w (bX wr B0 (.int .i64 x2.k) (.int .i32 x2.c) (.bool x2.neg) (.slice p2.A p2.n p2.cp) (.string x2.t) (.slice p2.B p2.m p2.cap)):=by
 have k:=cF wr B0 (.int .i64 x2.k) (.int .i32 x2.c) (.bool x2.neg) (.slice p2.A p2.n p2.cp) (.string x2.t) (.slice p2.B p2.m p2.cap)
 refine ⟨h.env.keep k ?_,h.ng,h.kp.join k ?_⟩
 ·rintro y rfl
  exact ⟨h.bl,h.off⟩
 ·rintro i hi rfl
  have:=h.lo
  omega
theorem fresh {W:World} {x2:Raw} {p2:PV} (h:PSw base w b pl T g B0 x p acc pend g' W) (hsh:aL wr b pl acc g') (hB:B0<wr.heap.size) (D:bR (fun y=>wr.heap.size<=y) W x2 p2):ay (fun y=>y ≠ B0/\Off b g' y) (fun y=>y ≠ B0/\Off b g' y) W x2 p2:=by
 refine ay.mono D (fun y _ hy=>⟨?_,?_⟩) (fun y _ hy=>⟨by omega,fun hs=>?_⟩)
 ·rintro rfl
  exact bI h.box (by decide) hy
 ·intro hs
  obtain ⟨X,Y,fz,e,hY⟩:=h.env.sh.types y hs
  refine rj e ?_ hy
  rcases hY with rfl | rfl<;>decide
 ·have:=hsh.lt y hs
  omega
end PSw
end Go.Proofs.YtonnikipeokkaaaGreatDoor
