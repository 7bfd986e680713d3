/-
  Rows of data; pairs made from a row's end. The document's re
-/
import Derived.Test.YtonnikipeokkaaaGreatDoorPaDoc
import Derived.IntWalk
namespace Go.Proofs.YtonnikipeokkaaaGreatDoor
open Go.Lib (hid)
open Go.RowKit Go.Lib
theorem kj:(Tryz.prog.info? 27).map (fun i=>(i.zero,i.size,i.bytes))=some (some (.agg #[.int .i64 0,.int .i32 0,.bool false,.slice none 0 0,.string ⟨#[]⟩,.slice none 0 0]),6,88):=by kernel_rfl
def kC (x:Raw × PV):List Value:=[.int .i64 x.1.k,.int .i32 x.1.c,.bool x.1.neg,.slice x.2.A x.2.n x.2.cp,.string x.1.t,.slice x.2.B x.2.m x.2.cap]
theorem nF {w:World} {base n c:Nat} {A:Option Addr} {xs:List Value} (h:w.ownsRow base 27 6 (.slice A n c) n xs):∀ b,(Value.slice A n c).ownBlock=some b->base<=b/\b<w.heap.size/\¬ iK w b:=by
 intro b hb
 rcases h.2 with ⟨hv,h0⟩ | ⟨g,cap,cur,hv,hg,hh,h1,h2⟩
 ·injection hv with e1 _ _
  subst e1
  cases hb
 ·injection hv with e1 _ _
  subst e1
  injection hb with hb
  subst hb
  exact ⟨hg,az hh,bI hh (by decide)⟩
theorem pq {w:World} {base k:Nat} {v:Value} {xs:List Value} (h:w.ownsRow base 27 6 v (k+1) xs):∃ A c,v=.slice A (k+1) c:=by
 rcases h.2 with ⟨hv,h0⟩ | ⟨g,cap,cur,hv,_⟩
 ·omega
 ·exact ⟨_,_,hv⟩
theorem gQ {S:Nat->Prop} {w w':World} {base n c:Nat} {A:Option Addr} {xs:List Value} (h:w.ownsRow base 27 6 (.slice A n c) n xs) (K:ah S w w') (hs:∀ b,(Value.slice A n c).ownBlock=some b->¬ S b):w'.ownsRow base 27 6 (.slice A n c) n xs:=by
 refine ⟨h.1,?_⟩
 rcases h.2 with ⟨hv,h0⟩ | ⟨g,cap,cur,hv,hg,hh,h1,h2⟩
 ·exact .inl ⟨hv,h0⟩
 ·refine .inr ⟨g,cap,cur,hv,hg,K.heap hh (hs g ?_),h1,h2⟩
  injection hv with e1 _ _
  subst e1
  rfl
theorem fa {w:World} {base n c:Nat} {A:Option Addr} {xs:List Value} (h:w.ownsRow base 27 6 (.slice A n c) n xs):n<=c:=by
 rcases h.2 with ⟨hv,h0⟩ | ⟨g,cap,cur,hv,hg,hh,h1,_⟩
 ·omega
 ·injection hv with _ _ e3
  omega
theorem rH {w:World} {base n c:Nat} {A:Option Addr} {xs:List Value} (h:w.ownsRow base 27 6 (.slice A n c) n xs) (hn:0<n):∃ g,A=some ⟨g,0,none⟩/\base<=g:=by
 rcases h.2 with ⟨hv,h0⟩ | ⟨g,cap,cur,hv,hg,_⟩
 ·omega
 ·injection hv with e1 _ _
  exact ⟨g,e1,hg⟩
theorem nH:∀ (xs:List (Raw × PV)) (i:Nat) (h:i<xs.length),∀ f,f<6->(xs.flatMap kC)[6 * i+f]? = (kC xs[i])[f]?
 | v :: vs,0,_,f,hf=>by
  rw [List.flatMap_cons,Nat.mul_zero,Nat.zero_add,List.getElem?_append_left (by unfold kC;exact hf)]
  rfl
 | v :: vs,i+1,h,f,hf=>by
  rw [List.flatMap_cons,List.getElem?_append_right (by unfold kC;simp only [List.length_cons,List.length_nil];omega)]
  have:6 * (i+1)+f - (kC v).length=6 * i+f:=by unfold kC;simp only [List.length_cons,List.length_nil];omega
  rw [this]
  exact nH vs i (by simpa using h) f hf
theorem rI {w:World} {base n c g:Nat} {xs:List (Raw × PV)} (h:w.ownsRow base 27 6 (.slice (some ⟨g,0,none⟩) n c) n (xs.flatMap kC)) {i:Nat} (hi:i<xs.length):cV w g 0 i xs[i].1 xs[i].2:=by
 intro f u hu
 have hf:f<6:=by
  match f,hu with
  | 0,_ | 1,_ | 2,_ | 3,_ | 4,_ | 5,_=>omega
  | f+6,hu=>simp [cL] at hu
 have h2:=nH xs i hi f hf
 have h3:(kC xs[i])[f]? = some u:=by
  match f,hu with
  | 0,hu | 1,hu | 2,hu | 3,hu | 4,hu | 5,hu=>rw [<- hu];rfl
  | f+6,hu=>simp [cL] at hu
 rw [h3] at h2
 have:=World.ownsRow.cellAt h (6 * i+f) (by
  have:=(List.getElem?_eq_some_iff.1 h2).1
  rw [h.1] at this
  exact this)
 rw [Nat.zero_add,Nat.mul_comm i 6,this,h2]
def Oth (B:Nat) (v:Value) (b:Nat):Prop:=B<=b/\v.ownBlock ≠ some b
theorem lZ {w:World} {B:Nat} {x0 x1 x2 x3 x4 x5:Value} (h:w.heap[B]? = some (.cells #[x0,x1,x2,x3,x4,x5] 27 (0,0))):∀ j u,[x0,x1,x2,x3,x4,x5][j]? = some u->w.cell? ((⟨B,0,none⟩:Addr).add j)=some u:=by
 intro j u hu
 rw [Addr.add_lit,Nat.zero_add,cell_of_row w _ _ _ _ _ h,<- hu]
 simp
end Go.Proofs.YtonnikipeokkaaaGreatDoor
