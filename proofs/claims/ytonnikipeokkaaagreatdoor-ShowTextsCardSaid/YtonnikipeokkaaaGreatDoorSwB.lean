/-
  The shower's builder: what its writers do, and String.
-/
import Derived.Test.YtonnikipeokkaaaGreatDoorSwShelf
import Derived.Test.YtonnikipeokkaaaGreatDoorPaPlain
import Derived.Lib.FrozenHead2
import Derived.Lib.RuneBytes
namespace Go.Proofs.YtonnikipeokkaaaGreatDoor
set_option maxRecDepth 100000
set_option maxHeartbeats 4000000
open Go.Lib (hid)
open Go.RowKit Go.Lib
theorem rg {w:World} {base base':Nat} {e:TypeId} {size:Nat} {v:Value} {n:Nat} {xs:List Value} (h:w.ownsRow base e size v n xs) (hb:base'<=base):w.ownsRow base' e size v n xs:=
 ⟨h.1,h.2.imp id fun ⟨g,cap,cur,h1,h2,h3⟩=>⟨g,cap,cur,h1,Nat.le_trans hb h2,h3⟩⟩
theorem rz {w w':World} (h:w.grownBy w' none) (row:Option Nat):w.grownBy w' row:=⟨h.os,h.tape,h.output,h.size,fun i hi _=>h.block i hi (by simp)⟩
theorem bT {P:Program} (w:World) {ops:Array Oper} {rest:List Oper} {o:Oper} {a:Act} {Q:Exit->Act->World->Prop} (hgd:o.guard=none) (s x:Operand) (t:TypeId)
 (ho:o.op=.call { callee:=.builtin .append,args:=#[s,x],argTypes:=#[t,t] })
 (base:Nat) (e:TypeId) (i:TypeInfo) (z:Value) (size bytes:Nat) (ht:P.underlying t=some (.slice e)) (hi:P.info? e=some i) (hz:i.zero=some z)
 (hsize:i.size=size) (hby:i.bytes=bytes) (hzs:z.cells.size=size) (hsz:0<size)
 (v:Value) (n:Nat) (xs:List Value) (hs:a.eval s=v) (hown:w.ownsRow base e size v n xs)
 (ad:Addr) (m c:Nat) (news:List Value) (hx:a.eval x=.slice (some ad) m c) (hl:news.length=m * size) (hnews:∀ j u,news[j]? = some u->w.cell? (ad.add j)=some u) (h1:∀ u ∈ news,u.oneCell'=true)
 (h63:n+m<=maxLen) (hbytes:(n+m) * bytes<=140737488355328) (hbase:base<=w.heap.size) (hm:0<m)
 (h:∀ v' w',w'.ownsRow base e size v' (n+m) (xs++news)->w.grownBy w' v.ownBlock->(∀ b,v'.ownBlock=some b->v.ownBlock=some b\/w.heap.size<=b)->wpList P ops Q rest (a.put o.dst v') w'):wpList P ops Q (o :: rest) a w:=by
 have grow:∀ (ao:Option Addr) (cap:Nat),v=.slice ao n cap->(ao=none->n=0/\cap=0)->(∀ b,ao=some b->∀ j u,xs[j]? = some u->w.cell? (b.add j)=some u)->cap<n+m->wpList P ops Q (o :: rest) a w:=by
  intro ao cap hv h0 hcells hfull
  refine wpList_append_grows w hgd s x t ho e i z size bytes ht hi hz hsize hby hzs hsz ao n cap xs (hs.trans hv) h0 hown.1 hcells ad m c news hx hl hnews h1 hfull h63 hbytes ?_
  intro v' w' ho' hg'
  exact h v' w' (rg ho' hbase) (rz hg' _) (fun b hb=>.inr (ho'.lt b hb).1)
 rcases hown.2 with ⟨hv,h0⟩ | ⟨g,cap,cur,hv,_⟩
 ·subst h0
  exact grow none 0 hv (fun _=>⟨rfl,rfl⟩) (fun b hb=>by cases hb) (by omega)
 ·by_cases hroom:n+m<=cap
  ·subst hv
   refine wpList_append_fits w hgd s x t ho base e i size ht hi hsize g n cap xs hs hown ad m c news hx hl hnews h1 hroom ?_
   intro w' ho' hg'
   exact h _ w' ho' hg' (fun b hb=>.inl hb)
  ·refine grow (some ⟨g,0,none⟩) cap hv (fun hb=>by cases hb) (fun b hb=>?_) (by omega)
   obtain rfl:(⟨g,0,none⟩:Addr)=b:=by injection hb
   exact hown.cells (by rw [hv];rfl)
theorem fZ {P:Program} (w:World) (t u ty e:TypeId) (i:TypeInfo) (ht:P.underlying t=some (.slice e)) (hu:P.underlying u=some .string) (hi:P.info? e=some i) (hz:i.zero=some (.int .u8 0))
 (hsize:i.size=1) (hby:i.bytes=1)
 (v:Value) (n:Nat) (xs:List Value) (hown:w.ownsRow 0 e 1 v n xs) (s:ByteArray)
 (h63:n+s.size<=maxLen) (hbytes:n+s.size<=140737488355328) :
 ∃ v' w',(Builtin.append_ #[t,u] ty #[v,.string s]).run P w=.ok v' w'/\w'.ownsRow 0 e 1 v' (n+s.size) (xs++strCells s)/\w.grownBy w' v.ownBlock /\
  (v'=.slice none 0 0 ↔ v=.slice none 0 0/\s.size=0)/\(∀ b,v'.ownBlock=some b->v.ownBlock=some b\/w.heap.size<=b):=by
 obtain ⟨v',w',hr,h2,h3,h4⟩:=run_append_own_string (P:=P) w 0 t u ty e i ht hu hi hz hsize hby v n xs hown s h63 hbytes (Nat.zero_le _)
 refine ⟨v',w',hr,h2,h3,h4,?_⟩
 have hxl:xs.length=n:=by simpa using hown.1
 rcases hown.2 with ⟨rfl,rfl⟩ | ⟨g,cap,cur,rfl,hbg,hg,hnc,hcm,hcs,htake⟩
 ·obtain ⟨v2,w2,hr2,k2,_⟩:=run_append_own_string (P:=P) w w.heap.size t u ty e i ht hu hi hz hsize hby (.slice none 0 0) 0 xs ⟨hown.1,.inl ⟨rfl,rfl⟩⟩ s h63 hbytes (Nat.le_refl _)
  rw [hr] at hr2
  injection hr2 with e1 e2
  subst e1
  exact fun b hb=>.inr (k2.lt b hb).1
 ·by_cases hroom:n+s.size<=cap
  ·have hr2:=run_append_room_string (P:=P) w t u ty e i ht hu hi hsize g n cap cur hg s hroom (by unfold maxLen at h63;omega)
   rw [hr] at hr2
   injection hr2 with e1 e2
   subst e1
   exact fun b hb=>.inl hb
  ·have holds:∀ j u,xs[j]? = some u->w.cell? ((⟨g,0,none⟩:Addr).add j)=some u:=hown.cells (g:=g) rfl
   have hr2:=run_append_grow_string (P:=P) w t u ty e i (.int .u8 0) ht hu hi hz ⟨g,0,none⟩ n cap xs (by rw [hsize];simpa using hxl) holds s (by omega) (by unfold maxLen at h63;omega) (by rw [hby];exact growslice_fits (by omega) (by omega))
   rw [hr] at hr2
   injection hr2 with e1 e2
   subst e1
   intro b hb
   right
   simp only [Value.ownBlock,Option.some.injEq] at hb
   omega
theorem fm {P:Program} (w:World) {ops:Array Oper} {rest:List Oper} {o:Oper} {a:Act} {Q:Exit->Act->World->Prop} (hgd:o.guard=none) (sl x:Operand) (t u:TypeId)
 (ho:o.op=.call { callee:=.builtin .append,args:=#[sl,x],argTypes:=#[t,u] })
 (e:TypeId) (i:TypeInfo) (ht:P.underlying t=some (.slice e)) (hu:P.underlying u=some .string) (hi:P.info? e=some i) (hz:i.zero=some (.int .u8 0))
 (hsize:i.size=1) (hby:i.bytes=1)
 (v:Value) (n:Nat) (xs:List Value) (hs:a.eval sl=v) (hown:w.ownsRow 0 e 1 v n xs) (s:ByteArray) (hx:a.eval x=.string s)
 (h63:n+s.size<=maxLen) (hbytes:n+s.size<=140737488355328)
 (h:∀ v' w',w'.ownsRow 0 e 1 v' (n+s.size) (xs++strCells s)->w.grownBy w' v.ownBlock->(v'=.slice none 0 0 ↔ v=.slice none 0 0/\s.size=0)->(∀ b,v'.ownBlock=some b->v.ownBlock=some b\/w.heap.size<=b)->wpList P ops Q rest (a.put o.dst v') w'):wpList P ops Q (o :: rest) a w:=by
 refine wpList_plain hgd fun K hK=>?_
 obtain ⟨v',w',hr,h2,h3,h4,h5⟩:=fZ w t u o.type e i ht hu hi hz hsize hby v n xs hown s h63 hbytes
 unfold Oper.wp execOp
 simp only [ho,resolve,invoke,builtin,Sem.run_bind,Sem.run_pure,Result.andThen_ok,List.map_toArray,List.map_cons,List.map_nil,hs,hx,hr]
 exact hK _ _ (h v' w' h2 h3 h4 h5)
def fV (w:World) (b:Nat) (a:Option Addr) (v:Value) (pl:Bool) (l:List UInt8) (g:Option Nat):Prop:=
 w.heap[b]? = some (.cells #[.pointer a,v,.bool pl] 135 (0,0))/\w.ownsRow 0 5 1 v l.length (byteCells l)/\v.ownBlock=g/\(l=[]->v=.slice none 0 0)
def aL (w:World) (b:Nat) (pl:Bool) (l:List UInt8) (g:Option Nat):Prop:=
 ∃ (a:Option Addr) (v:Value),(a=none\/a=some ⟨b,0,none⟩)/\fV w b a v pl l g
def Sg (b:Nat) (g:Option Nat) (x:Nat):Prop:=x=b\/some x=g
def kJ (w:World) (g g':Option Nat):Prop:=g'=g\/∃ k,g'=some k/\w.heap.size<=k
def br (w:World) (b:Nat) (pl:Bool) (l:List UInt8) (g:Option Nat) (w':World):Prop:=
 ∃ g',aL w' b pl l g'/\kJ w g g'/\ah (Sg b g) w w'
theorem br.trans {w w' w'':World} {b:Nat} {pl:Bool} {l:List UInt8} {g g':Option Nat} (hn:kJ w g g') (hk:ah (Sg b g) w w') (h:br w' b pl l g' w''):br w b pl l g w'':=by
 obtain ⟨g2,h1,h2,h3⟩:=h
 refine ⟨g2,h1,?_,hk.join h3 (fun i hi hs=>?_)⟩
 ·rcases h2 with rfl | ⟨k,rfl,hk2⟩
  ·exact hn
  ·exact .inr ⟨k,rfl,Nat.le_trans hk.size hk2⟩
 ·rcases hs with rfl | hs
  ·exact .inl rfl
  ·rcases hn with rfl | ⟨k,rfl,hk2⟩
   ·exact .inr hs
   ·injection hs with hs
    omega
theorem eb {w:World} {b:Nat} {o:Obj} (h:w.heap[b]? = some o):b<w.heap.size:=by
 rcases Nat.lt_or_ge b w.heap.size with h' | h'
 ·exact h'
 ·simp [Array.getElem?_eq_none h'] at h
theorem j8 {w:World} {e T:TypeId} {v:Value} {n:Nat} {xs:List Value} {b:Nat} {cs:Array Value} {fr:Nat × Nat} (hown:w.ownsRow 0 e 1 v n xs) (hb:w.heap[b]? = some (.cells cs T fr)) (hTe:T ≠ e):v.ownBlock ≠ some b:=
 ownBlock_neF (World.ownsRowF_of hown) hb hTe
theorem aL.keep {w w':World} {b:Nat} {pl:Bool} {l:List UInt8} {g:Option Nat} (h:aL w b pl l g) {S:Nat->Prop} (k:ah S w w') (hs:∀ x,Sg b g x->¬ S x):aL w' b pl l g:=by
 obtain ⟨a,v,ha,h1,h2,h3,h4⟩:=h
 refine ⟨a,v,ha,k.heap h1 (hs b (.inl rfl)),⟨h2.1,?_⟩,h3,h4⟩
 rcases h2.2 with hv | ⟨g',cap,cur,hv,hg,hh,rest⟩
 ·exact .inl hv
 ·refine .inr ⟨g',cap,cur,hv,hg,k.heap hh (hs g' (.inr ?_)),rest⟩
  rw [<- h3,hv]
  rfl
theorem aL.keep0 {w w':World} {b:Nat} {pl:Bool} {l:List UInt8} {g:Option Nat} (h:aL w b pl l g) (k:K0 w w'):aL w' b pl l g:=h.keep k (fun _ _=>id)
theorem aL.lt {w:World} {b:Nat} {pl:Bool} {l:List UInt8} {g:Option Nat} (h:aL w b pl l g):∀ x,Sg b g x->x<w.heap.size:=by
 obtain ⟨a,v,ha,h1,h2,h3,h4⟩:=h
 rintro x (rfl | hx)
 ·exact eb h1
 ·rcases h2.2 with ⟨hv,_⟩ | ⟨g',cap,cur,hv,hg,hh,rest⟩
  ·rw [hv] at h3;rw [<- h3] at hx;cases hx
  ·rw [hv] at h3;rw [<- h3] at hx;injection hx with hx;subst hx;exact eb hh
theorem aL.types {w:World} {b:Nat} {pl:Bool} {l:List UInt8} {g:Option Nat} (h:aL w b pl l g):∀ x,Sg b g x->∃ X T fz,w.heap[x]? = some (.cells X T fz)/\(T=135\/T=5):=by
 obtain ⟨a,v,ha,h1,h2,h3,h4⟩:=h
 rintro x (rfl | hx)
 ·exact ⟨_,_,_,h1,.inl rfl⟩
 ·rcases h2.2 with ⟨hv,_⟩ | ⟨g',cap,cur,hv,hg,hh,rest⟩
  ·rw [hv] at h3;rw [<- h3] at hx;cases hx
  ·rw [hv] at h3;rw [<- h3] at hx;injection hx with hx;subst hx;exact ⟨_,_,_,hh,.inr rfl⟩
theorem aL.new (w:World) (pl:Bool):aL (w.alloc (.cells #[.pointer none,.slice none 0 0,.bool pl] 135)) w.heap.size pl [] none:=
 ⟨none,.slice none 0 0,.inl rfl,hN _ _,⟨rfl,.inl ⟨rfl,rfl⟩⟩,rfl,fun _=>rfl⟩
theorem vS:(Tryz.prog.info? 133).map (·.size)=some 2:=Tryz.Builder_Extra_156.sizeBuilder
theorem vR:liesAt Tryz.prog Tryz.prog.depth 135 (3 / Tryz.prog.cellsOf 135) 0 133 1=true:=by kernel_rfl
theorem d7:(Tryz.prog.info? 5).map (fun i=>(i.zero,i.size,i.bytes))=some (some (.int .u8 0),1,1):=Tryz.Builder_Extra_156.infoByte
theorem ox {w:World} {b:Nat} {a:Option Addr} {v v':Value} {pl:Bool} {l:List UInt8} (hb:w.heap[b]? = some (.cells #[.pointer a,v,.bool pl] 135 (0,0))) (hown:w.ownsRow 0 5 1 v' l.length (byteCells l)) (hnil:l=[]->v'=.slice none 0 0) :
 fV (w.setCell ⟨b,1,none⟩ v') b a v' pl l v'.ownBlock:=by
 have hne:=j8 hown hb (by decide)
 refine ⟨by simp [World.setCell,Array.getElem?_modify,hb],?_,rfl,hnil⟩
 exact hown.kept (row:=some b) ⟨rfl,rfl,rfl,by simp [World.setCell],fun k _ hk=>Below.heap_setCell _ _ _ _ (fun e=>hk (by simp [e]))⟩ (Or.inr hne)
theorem jQ (w:World) (b:Nat) (pl:Bool) (l:List UInt8) (g:Option Nat) (h:aL w b pl l g) :
 Calls Tryz.prog 139 #[.pointer (some ⟨b,0,none⟩)] w fun e w'=>e=.returned (.tuple #[])/\(∃ v,fV w' b (some ⟨b,0,none⟩) v pl l g)/\ah (fun x=>x=b) w w':=by
 obtain ⟨a,v,ha,hc⟩:=h
 obtain ⟨j,hj,hjs⟩:=Option.map_eq_some_iff.1 vS
 have hb:=hc.1
 rcases ha with rfl | rfl
 ·have h0:w.cell? ⟨b,0,none⟩=some (.pointer none):=by rw [Lib.cell_of_heap hb];rfl
  have hfz:w.frozen? ⟨b,0,none⟩=false:=Lib.frozen_of_heap hb 0
  have hsh:w.shape? b=some (135,3):=by simp [World.shape?,hb]
  have HP:=hid (show fV (w.setCell ⟨b,0,none⟩ (.pointer (some ⟨b,0,none⟩))) b (some ⟨b,0,none⟩) v pl l g from by
   obtain ⟨h1,h2,h3,h4⟩:=hc
   have hne:=j8 h2 h1 (by decide)
   refine ⟨by simp [World.setCell,Array.getElem?_modify,h1],?_,h3,h4⟩
   exact h2.kept (row:=some b) ⟨rfl,rfl,rfl,by simp [World.setCell],fun k _ hk=>Below.heap_setCell _ _ _ _ (fun e=>hk (by simp [e]))⟩ (Or.inr hne))
  clear hb hc
  go_enter Tryz.func139,Tryz.ntmps139
  go_wp2_with fail
  rw [Lib.run_to_unsafe w ⟨b,0,none⟩ Tryz.underlying131 Tryz.underlying95 hj (by rw [hjs];decide) hsh (Nat.zero_lt_succ 2)]
  simp only [Result.andThen]
  rw [Oper.upon_value]
  go_wp2_with fail
  rw [run_callFunc_extern Tryz.func162 (by kernel_rfl) (by kernel_rfl) (by kernel_rfl) (e:=Extern.AbiNoEscape.same) (by kernel_rfl)]
  rw [Lib.run_noEscape]
  simp only [Result.andThen]
  rw [Oper.upon_value]
  go_wp2_with fail
  rw [Lib.run_from_unsafe w ⟨b,0,none⟩ Tryz.underlying95 Tryz.underlying131 hj hsh vR]
  simp only [Result.andThen]
  rw [Oper.upon_value]
  go_wp2_with fail
  go_end0
  exact ⟨rfl,⟨v,HP.out⟩,cG (S:=fun x=>x=b) rfl 0 _⟩
 ·have h0:w.cell? ⟨b,0,none⟩=some (.pointer (some ⟨b,0,none⟩)):=by rw [Lib.cell_of_heap hb];rfl
  have HP:=hid hc
  clear hb hc
  go_enter Tryz.func139,Tryz.ntmps139
  go_wp2_with fail
  rw [Lib.run_neq_ptr_same w _ Tryz.underlying131 hj]
  go_wp2_with fail
  go_end0
  exact ⟨rfl,⟨v,HP.out⟩,kR⟩
theorem pc {w w1:World} {g:Option Nat} {v v':Value} {n:Nat} {xs:List Value} (hs:w.heap.size<=w1.heap.size) (hg:v.ownBlock=g) (hnil:v'=.slice none 0 0->v=.slice none 0 0) {w2:World} (hown:w2.ownsRow 0 5 1 v' n xs) (h:∀ b,v'.ownBlock=some b->v.ownBlock=some b\/w1.heap.size<=b):kJ w g v'.ownBlock:=by
 rcases hown.2 with ⟨hv,hz⟩ | ⟨g',cap,cur,hv,_,hh,_⟩
 ·left
  rw [<- hg,hnil hv,hv]
 ·have e:v'.ownBlock=some g':=by rw [hv];rfl
  rcases h g' e with h | h
  ·left;rw [<- hg,e,h]
  ·right;exact ⟨g',e,Nat.le_trans hs h⟩
theorem qk (w:World) (b:Nat) (pl:Bool) (l:List UInt8) (g:Option Nat) (s:ByteArray) (h:aL w b pl l g) (hlen:l.length+s.size<=140737488355328) :
 Calls Tryz.prog 107 #[.pointer (some ⟨b,0,none⟩),.string s] w fun e w'=>e=.returned (.tuple #[.int .i64 s.size,.nilIface])/\br w b pl (l++s.data.toList) g w':=by
 obtain ⟨i0,hi,hz0,hz1,hz2⟩:=info_parts d7
 have HC:=hid (jQ w b pl l g h)
 clear h
 go_enter Tryz.func107,Tryz.ntmps107
 go_wp2_with fail
 refine HC.out.mono ?_
 rintro e w1 ⟨rfl,⟨v,hbk,hown,hg,hnil⟩,k1⟩
 have HNE:=hid (j8 hown hbk (by decide))
 have c0:w1.cell? ⟨b,0,none⟩=some (.pointer (some ⟨b,0,none⟩)):=by rw [Lib.cell_of_heap hbk];rfl
 have c1:w1.cell? ⟨b,1,none⟩=some v:=by rw [Lib.cell_of_heap hbk];rfl
 have HN:=hid hnil
 have HG0:=hid hg
 clear hnil hg
 try dsimp only
 go_wp2_with (at_builtin;refine fm _ rfl _ _ 70 9 rfl 5 i0 Tryz.underlying70 Tryz.underlying9 hi hz0 hz1 hz2 _ _ _ rfl hown s rfl ?c3 ?c4 ?_)
 case c3=>unfold maxLen;omega
 case c4=>omega
 intro v' w2 hown' hgrow hnil' hblk
 have hlt:b<w1.heap.size:=eb hbk
 have hb2:w2.heap[b]? = some (.cells #[.pointer (some ⟨b,0,none⟩),v,.bool pl] 135 (0,0)):=by
  rw [hgrow.block b hlt (fun e=>HNE.out e.symm)]
  exact hbk
 have d0:w2.cell? ⟨b,0,none⟩=some (.pointer (some ⟨b,0,none⟩)):=by rw [Lib.cell_of_heap hb2];rfl
 have d1:w2.cell? ⟨b,1,none⟩=some v:=by rw [Lib.cell_of_heap hb2];rfl
 have f1:w2.frozen? ⟨b,1,none⟩=false:=Lib.frozen_of_heap hb2 1
 have hrow:w2.ownsRow 0 5 1 v' (l++s.data.toList).length (byteCells (l++s.data.toList)):=by
  rw [byteCells_append,<- Lib.strCells_eq,List.length_append,<- Lib.size_eq]
  exact hown'
 have HP:=hid (show fV (w2.setCell ⟨b,1,none⟩ v') b (some ⟨b,0,none⟩) v' pl (l++s.data.toList) v'.ownBlock from ox hb2 hrow (fun e=>by
  obtain ⟨e1,e2⟩:=List.append_eq_nil_iff.1 e
  exact hnil'.2 ⟨HN.out e1,by first | (rw [Lib.size_eq,e2];rfl) | (apply ByteArray.ext;apply Array.ext';rw [e2];rfl)⟩))
 have HG:=hid (pc k1.size HG0.out (fun e=>(hnil'.1 e).1) hown' hblk)
 have HK:=hid (show ah (Sg b g) w (w2.setCell ⟨b,1,none⟩ v') from by
  have kk:ah (Sg b g) w w1:=k1.mono (fun _ _ e=>.inl e)
  exact (kk.grown hgrow (fun k e=>.inl (.inr (by rw [<- HG0.out,e])))).setCell (p:=⟨b,1,none⟩) (.inl (.inl rfl)) _)
 obtain ⟨ao,n',cap,rfl⟩:∃ ao n' cap,v'=.slice ao n' cap:=by
  rcases hown'.2 with ⟨hv,_⟩ | ⟨g,cap,cur,hv,_⟩
  ·exact ⟨_,_,_,hv⟩
  ·exact ⟨_,_,_,hv⟩
 clear hown' hrow hnil' hgrow hb2 hbk hown hblk
 go_wp2_with fail
 go_ret2
 exact ⟨rfl,_,⟨_,_,.inr rfl,HP.out⟩,HG.out,HK.out⟩
theorem jy (w:World) (b:Nat) (pl:Bool) (l:List UInt8) (g:Option Nat) (c:UInt8) (h:aL w b pl l g) (hlen:l.length+1<=140737488355328) :
 Calls Tryz.prog 113 #[.pointer (some ⟨b,0,none⟩),.int .u8 (c.toNat:Int)] w fun e w'=>e=.returned .nilIface/\br w b pl (l++[c]) g w':=by
 obtain ⟨i0,hi,hz0,hz1,hz2⟩:=info_parts d7
 have HC:=hid (jQ w b pl l g h)
 obtain ⟨x,hx⟩:∃ x:Int,x=(c.toNat:Int):=⟨_,rfl⟩
 rw [<- hx]
 have HX:=hid hx
 clear h hx
 go_enter Tryz.func113,Tryz.ntmps113
 go_wp2_with fail
 refine HC.out.mono ?_
 rintro e w1 ⟨rfl,⟨v,hbk,hown,hg,hnil⟩,k1⟩
 have HNE:=hid (j8 hown hbk (by decide))
 have c0:w1.cell? ⟨b,0,none⟩=some (.pointer (some ⟨b,0,none⟩)):=by rw [Lib.cell_of_heap hbk];rfl
 have c1:w1.cell? ⟨b,1,none⟩=some v:=by rw [Lib.cell_of_heap hbk];rfl
 have HG0:=hid hg
 clear hnil hg
 try dsimp only
 go_wp2_with (at_builtin;refine bT _ rfl _ _ 70 rfl 0 5 i0 (.int .u8 0) 1 1 Tryz.underlying70 hi hz0 hz1 hz2 rfl (by decide) _ _ _ rfl (hown.alloc _) ⟨w1.heap.size,0,none⟩ 1 1 [.int .u8 x] rfl rfl ?c1 ?c2 ?c3 ?c4 ?c5 (by decide) ?_)
 case c1=>
  intro j u hj
  match j,hj with
  | 0,hj=>simp at hj;subst hj;simp [Addr.add]
  | (j+1),hj=>simp at hj
 case c2=>intro u hu;simp at hu;subst hu;rfl
 case c3=>unfold maxLen;omega
 case c4=>omega
 case c5=>simp
 intro v' w2 hown' hgrow hblk
 have hlt:b<w1.heap.size:=eb hbk
 have hb2:w2.heap[b]? = some (.cells #[.pointer (some ⟨b,0,none⟩),v,.bool pl] 135 (0,0)):=by
  rw [hgrow.block b (by rw [World.size_alloc];omega) (fun e=>HNE.out e.symm),Lib.alloc_old w1 _ b hlt]
  exact hbk
 have d0:w2.cell? ⟨b,0,none⟩=some (.pointer (some ⟨b,0,none⟩)):=by rw [Lib.cell_of_heap hb2];rfl
 have d1:w2.cell? ⟨b,1,none⟩=some v:=by rw [Lib.cell_of_heap hb2];rfl
 have f1:w2.frozen? ⟨b,1,none⟩=false:=Lib.frozen_of_heap hb2 1
 have hrow:w2.ownsRow 0 5 1 v' (l++[c]).length (byteCells (l++[c])):=by
  rw [byteCells_append,List.length_append,show byteCells [c]=[.int .u8 x] from by rw [HX.out];rfl]
  exact hown'
 have HP:=hid (show fV (w2.setCell ⟨b,1,none⟩ v') b (some ⟨b,0,none⟩) v' pl (l++[c]) v'.ownBlock from ox hb2 hrow (fun e=>by simp at e))
 have HG:=hid (show kJ w g v'.ownBlock from pc (w1:=w1) k1.size HG0.out (fun e=>by
  exfalso
  rcases hown'.2 with ⟨_,h0⟩ | ⟨g,cap,cur,hv,_⟩
  ·omega
  ·rw [e] at hv;cases hv) hown' (fun k hk=>(hblk k hk).imp id (fun h=>by omega)))
 have HK:=hid (show ah (Sg b g) w (w2.setCell ⟨b,1,none⟩ v') from by
  have kk:ah (Sg b g) w w1:=k1.mono (fun _ _ e=>.inl e)
  exact ((kk.alloc _).grown hgrow (fun k e=>.inl (.inr (by rw [<- HG0.out,e])))).setCell (p:=⟨b,1,none⟩) (.inl (.inl rfl)) _)
 obtain ⟨ao,n',cap,rfl⟩:∃ ao n' cap,v'=.slice ao n' cap:=by
  rcases hown'.2 with ⟨hv,_⟩ | ⟨g,cap,cur,hv,_⟩
  ·exact ⟨_,_,_,hv⟩
  ·exact ⟨_,_,_,hv⟩
 clear hown' hrow hgrow hb2 hbk hown hblk
 go_wp2_with fail
 go_ret
 exact ⟨rfl,_,⟨_,_,.inr rfl,HP.out⟩,HG.out,HK.out⟩
def eE (v:Value) (n:Nat) (xs news:List Value) (w:World) (e:Ending) (w':World):Prop:=
 ∃ v',e=.returned v'/\w'.ownsRow 0 5 1 v' (n+news.length) (xs++news)/\∃ o,(w.alloc o).grownBy w' v.ownBlock /\ ∀ b,v'.ownBlock=some b->v.ownBlock=some b\/w.heap.size<=b
theorem sN (v:Value) (n:Nat) (xs:List Value) (r:Int) (h0:0<=r) (h1:r<=127) (w:World) (hown:w.ownsRow 0 5 1 v n xs) (hlen:n+4<=140737488355328) :
 Calls Tryz.prog 146 #[v,.int .i32 r] w (eE v n xs [.int .u8 (r)] w):=by
 obtain ⟨i0,hi,hz0,hz1,hz2⟩:=info_parts d7
 go_enter Tryz.func146,Tryz.ntmps146
 go_wp2_with (at_builtin;refine bT _ rfl _ _ 70 rfl 0 5 i0 (.int .u8 0) 1 1 Tryz.underlying70 hi hz0 hz1 hz2 rfl (by decide) _ _ _ rfl (hown.alloc _) ⟨w.heap.size,0,none⟩ 1 1 [.int .u8 (r)] rfl rfl ?c1 ?c2 ?c3 ?c4 ?c5 (by decide) ?_)
 case c1=>
  intro j u hj
  match j,hj with
  | 0,hj=>simp at hj;subst hj;simp [Addr.add]
  | (j+1),hj=>simp at hj
 case c2=>intro u hu;simp at hu;subst hu;rfl
 case c3=>unfold maxLen;omega
 case c4=>omega
 case c5=>simp
 intro v' w2 hown' hgrow hblk
 go_wp2_with fail
 go_ret
 exact ⟨_,rfl,hown',_,hgrow,fun b hb=>(hblk b hb).imp id (fun h=>by omega)⟩
theorem sM (v:Value) (n:Nat) (xs:List Value) (r:Int) (h0:128<=r) (h1:r<=2047) (w:World) (hown:w.ownsRow 0 5 1 v n xs) (hlen:n+4<=140737488355328) :
 Calls Tryz.prog 167 #[v,.int .i32 r] w (eE v n xs [.int .u8 (192+r / 64),.int .u8 (128+r % 64)] w):=by
 obtain ⟨i0,hi,hz0,hz1,hz2⟩:=info_parts d7
 go_enter Tryz.func167,Tryz.ntmps167
 go_wp2_with (at_builtin;refine bT _ rfl _ _ 70 rfl 0 5 i0 (.int .u8 0) 1 1 Tryz.underlying70 hi hz0 hz1 hz2 rfl (by decide) _ _ _ rfl (hown.alloc _) ⟨w.heap.size,0,none⟩ 2 2 [.int .u8 (192+r / 64),.int .u8 (128+r % 64)] rfl rfl ?c1 ?c2 ?c3 ?c4 ?c5 (by decide) ?_)
 case c1=>
  intro j u hj
  match j,hj with
  | 0,hj=>simp at hj;subst hj;simp [Addr.add]
  | 1,hj=>simp at hj;subst hj;simp [Addr.add]
  | (j+2),hj=>simp at hj
 case c2=>intro u hu;simp at hu;rcases hu with rfl | rfl<;>rfl
 case c3=>unfold maxLen;omega
 case c4=>omega
 case c5=>simp
 intro v' w2 hown' hgrow hblk
 go_wp2_with fail
 go_ret
 exact ⟨_,rfl,hown',_,hgrow,fun b hb=>(hblk b hb).imp id (fun h=>by omega)⟩
theorem vo (v:Value) (n:Nat) (xs:List Value) (r:Int) (h0:2048<=r) (h1:r<55296) (w:World) (hown:w.ownsRow 0 5 1 v n xs) (hlen:n+4<=140737488355328) :
 Calls Tryz.prog 167 #[v,.int .i32 r] w (eE v n xs [.int .u8 (224+r / 4096),.int .u8 (128+r / 64 % 64),.int .u8 (128+r % 64)] w):=by
 obtain ⟨i0,hi,hz0,hz1,hz2⟩:=info_parts d7
 go_enter Tryz.func167,Tryz.ntmps167
 go_wp2_with (at_builtin;refine bT _ rfl _ _ 70 rfl 0 5 i0 (.int .u8 0) 1 1 Tryz.underlying70 hi hz0 hz1 hz2 rfl (by decide) _ _ _ rfl (hown.alloc _) ⟨w.heap.size,0,none⟩ 3 3 [.int .u8 (224+r / 4096),.int .u8 (128+r / 64 % 64),.int .u8 (128+r % 64)] rfl rfl ?c1 ?c2 ?c3 ?c4 ?c5 (by decide) ?_)
 case c1=>
  intro j u hj
  match j,hj with
  | 0,hj=>simp at hj;subst hj;simp [Addr.add]
  | 1,hj=>simp at hj;subst hj;simp [Addr.add]
  | 2,hj=>simp at hj;subst hj;simp [Addr.add]
  | (j+3),hj=>simp at hj
 case c2=>intro u hu;simp at hu;rcases hu with rfl | rfl | rfl<;>rfl
 case c3=>unfold maxLen;omega
 case c4=>omega
 case c5=>simp
 intro v' w2 hown' hgrow hblk
 go_wp2_with fail
 go_ret
 exact ⟨_,rfl,hown',_,hgrow,fun b hb=>(hblk b hb).imp id (fun h=>by omega)⟩
theorem vp (v:Value) (n:Nat) (xs:List Value) (r:Int) (h0:57343<r) (h1:r<=65535) (w:World) (hown:w.ownsRow 0 5 1 v n xs) (hlen:n+4<=140737488355328) :
 Calls Tryz.prog 167 #[v,.int .i32 r] w (eE v n xs [.int .u8 (224+r / 4096),.int .u8 (128+r / 64 % 64),.int .u8 (128+r % 64)] w):=by
 obtain ⟨i0,hi,hz0,hz1,hz2⟩:=info_parts d7
 go_enter Tryz.func167,Tryz.ntmps167
 go_wp2_with (at_builtin;refine bT _ rfl _ _ 70 rfl 0 5 i0 (.int .u8 0) 1 1 Tryz.underlying70 hi hz0 hz1 hz2 rfl (by decide) _ _ _ rfl (hown.alloc _) ⟨w.heap.size,0,none⟩ 3 3 [.int .u8 (224+r / 4096),.int .u8 (128+r / 64 % 64),.int .u8 (128+r % 64)] rfl rfl ?c1 ?c2 ?c3 ?c4 ?c5 (by decide) ?_)
 case c1=>
  intro j u hj
  match j,hj with
  | 0,hj=>simp at hj;subst hj;simp [Addr.add]
  | 1,hj=>simp at hj;subst hj;simp [Addr.add]
  | 2,hj=>simp at hj;subst hj;simp [Addr.add]
  | (j+3),hj=>simp at hj
 case c2=>intro u hu;simp at hu;rcases hu with rfl | rfl | rfl<;>rfl
 case c3=>unfold maxLen;omega
 case c4=>omega
 case c5=>simp
 intro v' w2 hown' hgrow hblk
 go_wp2_with fail
 go_ret
 exact ⟨_,rfl,hown',_,hgrow,fun b hb=>(hblk b hb).imp id (fun h=>by omega)⟩
theorem qm (v:Value) (n:Nat) (xs:List Value) (r:Int) (h0:65536<=r) (h1:r<=1114111) (w:World) (hown:w.ownsRow 0 5 1 v n xs) (hlen:n+4<=140737488355328) :
 Calls Tryz.prog 167 #[v,.int .i32 r] w (eE v n xs [.int .u8 (240+r / 262144),.int .u8 (128+r / 4096 % 64),.int .u8 (128+r / 64 % 64),.int .u8 (128+r % 64)] w):=by
 obtain ⟨i0,hi,hz0,hz1,hz2⟩:=info_parts d7
 go_enter Tryz.func167,Tryz.ntmps167
 go_wp2_with (at_builtin;refine bT _ rfl _ _ 70 rfl 0 5 i0 (.int .u8 0) 1 1 Tryz.underlying70 hi hz0 hz1 hz2 rfl (by decide) _ _ _ rfl (hown.alloc _) ⟨w.heap.size,0,none⟩ 4 4 [.int .u8 (240+r / 262144),.int .u8 (128+r / 4096 % 64),.int .u8 (128+r / 64 % 64),.int .u8 (128+r % 64)] rfl rfl ?c1 ?c2 ?c3 ?c4 ?c5 (by decide) ?_)
 case c1=>
  intro j u hj
  match j,hj with
  | 0,hj=>simp at hj;subst hj;simp [Addr.add]
  | 1,hj=>simp at hj;subst hj;simp [Addr.add]
  | 2,hj=>simp at hj;subst hj;simp [Addr.add]
  | 3,hj=>simp at hj;subst hj;simp [Addr.add]
  | (j+4),hj=>simp at hj
 case c2=>intro u hu;simp at hu;rcases hu with rfl | rfl | rfl | rfl<;>rfl
 case c3=>unfold maxLen;omega
 case c4=>omega
 case c5=>simp
 intro v' w2 hown' hgrow hblk
 go_wp2_with fail
 go_ret
 exact ⟨_,rfl,hown',_,hgrow,fun b hb=>(hblk b hb).imp id (fun h=>by omega)⟩
theorem qb {n:Nat} {r:Int} (h:r=(n:Int)):(r<=127->byteCells (aI n)=[.int .u8 r])/\(128<=r->r<=2047->byteCells (aI n)=[.int .u8 (192+r / 64),.int .u8 (128+r % 64)]) /\
 (2048<=r->r<=65535->byteCells (aI n)=[.int .u8 (224+r / 4096),.int .u8 (128+r / 64 % 64),.int .u8 (128+r % 64)])/\(65536<=r->r<=1114111->byteCells (aI n)=[.int .u8 (240+r / 262144),.int .u8 (128+r / 4096 % 64),.int .u8 (128+r / 64 % 64),.int .u8 (128+r % 64)]):=by
 have nb:∀ k:Nat,k<256->(UInt8.ofNat k).toNat=k:=fun k hk=>by simp only [UInt8.toNat_ofNat'];omega
 unfold aI
 refine ⟨fun h1=>?_,fun h1 h2=>?_,fun h1 h2=>?_,fun h1 h2=>?_⟩
 ·rw [if_pos (by omega)]
  simp only [byteCells,List.map_cons,List.map_nil]
  rw [nb n (by omega),h]
 ·rw [if_neg (by omega),if_pos (by omega)]
  simp only [byteCells,List.map_cons,List.map_nil]
  rw [nb _ (by omega),nb _ (by omega),h]
  congr 2
 ·rw [if_neg (by omega),if_neg (by omega),if_pos (by omega)]
  simp only [byteCells,List.map_cons,List.map_nil]
  rw [nb _ (by omega),nb _ (by omega),nb _ (by omega),h]
  congr 2
 ·rw [if_neg (by omega),if_neg (by omega),if_neg (by omega)]
  simp only [byteCells,List.map_cons,List.map_nil]
  rw [nb _ (by omega),nb _ (by omega),nb _ (by omega),nb _ (by omega),h]
  congr 2
theorem fO (v:Value) (n:Nat) (xs news:List Value) (r:Int) (h0:127<r) (h1:r<=1114111) (w:World) (H:Hid (Calls Tryz.prog 167 #[v,.int .i32 r] w (eE v n xs news w))):Calls Tryz.prog 146 #[v,.int .i32 r] w (eE v n xs news w):=by
 go_enter Tryz.func146,Tryz.ntmps146
 go_wp2_with fail
 refine H.out.mono ?_
 rintro e w1 ⟨v',rfl,h1,o,h2,h3⟩
 have HQ:=hid (And.intro h1 (And.intro h2 h3))
 clear h1 h2 h3
 try dsimp only
 go_wp2_with fail
 go_ret
 exact ⟨_,rfl,HQ.out.1,o,HQ.out.2⟩
theorem sO (v:Value) (n:Nat) (xs:List Value) (c:Nat) (hc:bn c=true) (w:World) (hown:w.ownsRow 0 5 1 v n xs) (hlen:n+4<=140737488355328) :
 Calls Tryz.prog 146 #[v,.int .i32 (c:Int)] w (eE v n xs (byteCells (aI c)) w):=by
 have hb:=of_decide_eq_true hc
 obtain ⟨r,hr⟩:∃ r:Int,r=(c:Int):=⟨_,rfl⟩
 obtain ⟨u1,u2,u3,u4⟩:=qb hr
 rw [<- hr]
 by_cases c0:r<=127
 ·rw [u1 c0];exact sN v n xs r (by omega) c0 w hown hlen
 by_cases c1:r<=2047
 ·rw [u2 (by omega) c1];exact fO v n xs _ r (by omega) (by omega) w (hid (sM v n xs r (by omega) c1 w hown hlen))
 by_cases c2:r<55296
 ·rw [u3 (by omega) (by omega)];exact fO v n xs _ r (by omega) (by omega) w (hid (vo v n xs r (by omega) c2 w hown hlen))
 by_cases c3:r<=65535
 ·rw [u3 (by omega) (by omega)];exact fO v n xs _ r (by omega) (by omega) w (hid (vp v n xs r (by omega) c3 w hown hlen))
 ·rw [u4 (by omega) (by omega)];exact fO v n xs _ r (by omega) (by omega) w (hid (qm v n xs r (by omega) (by omega) w hown hlen))
theorem iP (c:Nat):1<=(aI c).length/\(aI c).length<=4:=by
 unfold aI
 split
 ·simp
 ·split
  ·simp
  ·split<;>simp
theorem gC (w:World) (b:Nat) (pl:Bool) (l:List UInt8) (g:Option Nat) (c:Nat) (hc:bn c=true) (h:aL w b pl l g) (hlen:l.length+4<=140737488355328) :
 Calls Tryz.prog 109 #[.pointer (some ⟨b,0,none⟩),.int .i32 (c:Int)] w fun e w'=>(∃ k:Int,e=.returned (.tuple #[.int .i64 k,.nilIface]))/\br w b pl (l++aI c) g w':=by
 have HC:=hid (jQ w b pl l g h)
 have HR:=hid (fun (v:Value) (xs:List Value) (W:World) (ho:W.ownsRow 0 5 1 v l.length xs)=>sO v l.length xs c hc W ho hlen)
 obtain ⟨x,hx⟩:∃ x:Int,x=(c:Int):=⟨_,rfl⟩
 rw [<- hx] at HR ⊢
 clear h hx
 go_enter Tryz.func109,Tryz.ntmps109
 go_wp2_with fail
 refine HC.out.mono ?_
 rintro e w1 ⟨rfl,⟨v,hbk,hown,hg,hnil⟩,k1⟩
 have hne:=j8 hown hbk (by decide)
 obtain ⟨ao,cap,hv⟩:∃ ao cap,v=.slice ao l.length cap:=by
  rcases hown.2 with ⟨hv,h0⟩ | ⟨g,cap,cur,hv,_⟩
  ·exact ⟨none,0,by rw [hv,h0]⟩
  ·exact ⟨_,_,hv⟩
 subst hv
 have c0:w1.cell? ⟨b,0,none⟩=some (.pointer (some ⟨b,0,none⟩)):=by rw [Lib.cell_of_heap hbk];rfl
 have c1:w1.cell? ⟨b,1,none⟩=some (.slice ao l.length cap):=by rw [Lib.cell_of_heap hbk];rfl
 have HO:=hid hown
 have HB:=hid hbk
 have HG0:=hid hg
 have HNE:=hid hne
 clear hnil hown hbk hg hne
 try dsimp only
 go_wp2_with fail
 refine (HR.out _ _ _ HO.out).mono ?_
 rintro e w2 ⟨v',rfl,hown',o,hgrow,hblk⟩
 have hlt:b<w1.heap.size:=eb HB.out
 have hb2:w2.heap[b]? = some (.cells #[.pointer (some ⟨b,0,none⟩),.slice ao l.length cap,.bool pl] 135 (0,0)):=by
  rw [hgrow.block b (by rw [World.size_alloc];omega) (fun e=>HNE.out e.symm),Lib.alloc_old w1 _ b hlt]
  exact HB.out
 have d0:w2.cell? ⟨b,0,none⟩=some (.pointer (some ⟨b,0,none⟩)):=by rw [Lib.cell_of_heap hb2];rfl
 have d1:w2.cell? ⟨b,1,none⟩=some (.slice ao l.length cap):=by rw [Lib.cell_of_heap hb2];rfl
 have f1:w2.frozen? ⟨b,1,none⟩=false:=Lib.frozen_of_heap hb2 1
 have hlb:(byteCells (aI c)).length=(aI c).length:=byteCells_length _
 have hrow:w2.ownsRow 0 5 1 v' (l++aI c).length (byteCells (l++aI c)):=by
  rw [byteCells_append,List.length_append,<- hlb]
  exact hown'
 have hul:=iP c
 obtain ⟨g',cap',hv'⟩:∃ g' cap',v'=.slice (some ⟨g',0,none⟩) (l++aI c).length cap':=by
  rcases hrow.2 with ⟨_,h0⟩ | ⟨g',cap',cur,hv,_⟩
  ·rw [List.length_append] at h0;omega
  ·exact ⟨g',cap',hv⟩
 have HP:=hid (show fV (w2.setCell ⟨b,1,none⟩ v') b (some ⟨b,0,none⟩) v' pl (l++aI c) v'.ownBlock from ox hb2 hrow (fun e=>by
  obtain ⟨_,e2⟩:=List.append_eq_nil_iff.1 e
  rw [e2] at hul
  simp at hul))
 have HG:=hid (show kJ w g v'.ownBlock from pc (w1:=w1) k1.size HG0.out (fun e=>by rw [e] at hv';cases hv') hown' hblk)
 have HK:=hid (show ah (Sg b g) w (w2.setCell ⟨b,1,none⟩ v') from by
  have kk:ah (Sg b g) w w1:=k1.mono (fun _ _ e=>.inl e)
  exact ((kk.alloc _).grown hgrow (fun k e=>.inl (.inr (by rw [<- HG0.out,e])))).setCell (p:=⟨b,1,none⟩) (.inl (.inl rfl)) _)
 subst hv'
 generalize (l++aI c).length=m at *
 clear hown' hrow hgrow hb2 hblk hlb hul k1
 try dsimp only
 go_wp2_with fail
 go_ret2
 exact ⟨⟨_,rfl⟩,_,⟨_,_,.inr rfl,HP.out⟩,HG.out,HK.out⟩
end Go.Proofs.YtonnikipeokkaaaGreatDoor
