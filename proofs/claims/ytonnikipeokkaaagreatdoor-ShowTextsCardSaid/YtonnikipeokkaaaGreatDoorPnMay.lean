/-
  The document's bare: has a datum nothing but what is named?
  The document's plain: may a datum be, but for its depth? (Pr
  The document's Depth.
  The document's May: may a datum be? And: what is read may be
-/
import Derived.Test.YtonnikipeokkaaaGreatDoorPaDoc
import Derived.Test.YtonnikipeokkaaaGreatDoorPnNum
import Derived.Test.YtonnikipeokkaaaGreatDoorPrGood
namespace Go.Proofs.YtonnikipeokkaaaGreatDoor
set_option maxRecDepth 100000
set_option maxHeartbeats 2000000
open Go.Lib (hid)
open Go.RowKit Go.Lib
def ar (c1 c2 c4 c8:Bool) (r:Raw):Bool:=(c1 || decide (r.c=0)) && ((c2 || (!r.neg && decide (r.mag=[]))) && ((c4 || decide (r.t=⟨#[]⟩)) && (c8 || decide (r.l=[]))))
theorem so {t:ByteArray}:t.toList=ByteArray.toList ⟨#[]⟩ ↔ t=⟨#[]⟩:=⟨kD,fun h=>by rw [h]⟩
theorem cN {t:ByteArray}:t.toList=[] ↔ t=⟨#[]⟩:=⟨fun h=>kD (h.trans (by rw [Lib.toList_data])),fun h=>by rw [h,Lib.toList_data]⟩
theorem xW (r:Raw) (p:PV) (W:World) (q0:(r.c == 0)=false):Calls Tryz.prog 74 #[rawV r p,.int .i64 0] W (BoolPost false W):=by
 have hb1:(W.alloc (.cells (rwC r.k r.c r.neg p.A p.n p.cp r.t p.B p.m p.cap) 27)).heap[W.heap.size]? = some (.cells (rwC r.k r.c r.neg p.A p.n p.cp r.t p.B p.m p.cap) 27 (0,0)):=hN W _
 obtain ⟨a0,a1,a2,a3,a4,a5⟩:=aa hb1
 clear hb1
 go_enter Tryz.func74,Tryz.ntmps74
 go_wp2_with fail
 go_ret
 exact ⟨rfl,kR.alloc _⟩
theorem xV (r:Raw) (p:PV) (W:World) (q0:(r.c == 0)=true) (q1:r.neg=true):Calls Tryz.prog 74 #[rawV r p,.int .i64 0] W (BoolPost false W):=by
 have hb1:(W.alloc (.cells (rwC r.k r.c r.neg p.A p.n p.cp r.t p.B p.m p.cap) 27)).heap[W.heap.size]? = some (.cells (rwC r.k r.c r.neg p.A p.n p.cp r.t p.B p.m p.cap) 27 (0,0)):=hN W _
 obtain ⟨a0,a1,a2,a3,a4,a5⟩:=aa hb1
 clear hb1
 rw [q1] at a2
 go_enter Tryz.func74,Tryz.ntmps74
 go_wp2_with fail
 go_ret
 exact ⟨rfl,kR.alloc _⟩
theorem xS (r:Raw) (p:PV) (W:World) (q0:(r.c == 0)=true) (q1:r.neg=false) (q2:((p.n:Int) == 0)=false):Calls Tryz.prog 74 #[rawV r p,.int .i64 0] W (BoolPost false W):=by
 have hb1:(W.alloc (.cells (rwC r.k r.c r.neg p.A p.n p.cp r.t p.B p.m p.cap) 27)).heap[W.heap.size]? = some (.cells (rwC r.k r.c r.neg p.A p.n p.cp r.t p.B p.m p.cap) 27 (0,0)):=hN W _
 obtain ⟨a0,a1,a2,a3,a4,a5⟩:=aa hb1
 clear hb1
 rw [q1] at a2
 go_enter Tryz.func74,Tryz.ntmps74
 go_wp2_with fail
 go_ret
 exact ⟨rfl,kR.alloc _⟩
theorem xR (r:Raw) (p:PV) (W:World) (q0:(r.c == 0)=true) (q1:r.neg=false) (q2:((p.n:Int) == 0)=true) (q3:¬ r.t.toList=[]):Calls Tryz.prog 74 #[rawV r p,.int .i64 0] W (BoolPost false W):=by
 have hb1:(W.alloc (.cells (rwC r.k r.c r.neg p.A p.n p.cp r.t p.B p.m p.cap) 27)).heap[W.heap.size]? = some (.cells (rwC r.k r.c r.neg p.A p.n p.cp r.t p.B p.m p.cap) 27 (0,0)):=hN W _
 obtain ⟨a0,a1,a2,a3,a4,a5⟩:=aa hb1
 clear hb1
 rw [q1] at a2
 go_enter Tryz.func74,Tryz.ntmps74
 go_wp2_with fail
 go_ret
 exact ⟨rfl,kR.alloc _⟩
theorem xU (r:Raw) (p:PV) (W:World) (q0:(r.c == 0)=true) (q1:r.neg=false) (q2:((p.n:Int) == 0)=true) (q3:r.t.toList=[]) (q4:((p.m:Int) == 0)=false):Calls Tryz.prog 74 #[rawV r p,.int .i64 0] W (BoolPost false W):=by
 have hb1:(W.alloc (.cells (rwC r.k r.c r.neg p.A p.n p.cp r.t p.B p.m p.cap) 27)).heap[W.heap.size]? = some (.cells (rwC r.k r.c r.neg p.A p.n p.cp r.t p.B p.m p.cap) 27 (0,0)):=hN W _
 obtain ⟨a0,a1,a2,a3,a4,a5⟩:=aa hb1
 clear hb1
 rw [q1] at a2
 go_enter Tryz.func74,Tryz.ntmps74
 go_wp2_with fail
 go_ret
 exact ⟨rfl,kR.alloc _⟩
theorem xQ (r:Raw) (p:PV) (W:World) (q0:(r.c == 0)=true) (q1:r.neg=false) (q2:((p.n:Int) == 0)=true) (q3:r.t.toList=[]) (q4:((p.m:Int) == 0)=true):Calls Tryz.prog 74 #[rawV r p,.int .i64 0] W (BoolPost true W):=by
 have hb1:(W.alloc (.cells (rwC r.k r.c r.neg p.A p.n p.cp r.t p.B p.m p.cap) 27)).heap[W.heap.size]? = some (.cells (rwC r.k r.c r.neg p.A p.n p.cp r.t p.B p.m p.cap) 27 (0,0)):=hN W _
 obtain ⟨a0,a1,a2,a3,a4,a5⟩:=aa hb1
 clear hb1
 rw [q1] at a2
 go_enter Tryz.func74,Tryz.ntmps74
 go_wp2_with fail
 go_ret
 exact ⟨rfl,kR.alloc _⟩
theorem fK (r:Raw) (p:PV) (W:World) (hn:r.mag.length=p.n) (hm:r.l.length=p.m):Calls Tryz.prog 74 #[rawV r p,.int .i64 0] W (BoolPost (ar false false false false r) W):=by
 have en:(r.mag=[]) ↔ p.n=0:=by rw [<- List.length_eq_zero_iff,hn]
 have em:(r.l=[]) ↔ p.m=0:=by rw [<- List.length_eq_zero_iff,hm]
 have sn:∀ n:Nat,¬ n=0->((n:Int) == 0)=false:=fun n h=>bF.2 (by omega)
 have yn:∀ n:Nat,n=0->((n:Int) == 0)=true:=fun n h=>beq_iff_eq.2 (by omega)
 by_cases hc:r.c=0
 case neg=>
  have e:ar false false false false r=false:=by unfold ar;rw [dF hc];simp
  rw [e];exact xW r p W (bF.2 hc)
 by_cases hg:r.neg=false
 case neg=>
  have e:ar false false false false r=false:=by unfold ar;rw [show r.neg=true from by simpa using hg];simp
  rw [e];exact xV r p W (beq_iff_eq.2 hc) (by simpa using hg)
 by_cases hn9:p.n=0
 case neg=>
  have e:ar false false false false r=false:=by unfold ar;rw [dF (mt en.1 hn9)];simp
  rw [e];exact xS r p W (beq_iff_eq.2 hc) hg (sn _ hn9)
 by_cases ht:r.t=⟨#[]⟩
 case neg=>
  have e:ar false false false false r=false:=by unfold ar;rw [dF ht];simp
  rw [e];exact xR r p W (beq_iff_eq.2 hc) hg (yn _ hn9) (fun h=>ht (cN.1 h))
 by_cases hl:p.m=0
 case neg=>
  have e:ar false false false false r=false:=by unfold ar;rw [dF (mt em.1 hl)];simp
  rw [e];exact xU r p W (beq_iff_eq.2 hc) hg (yn _ hn9) (cN.2 ht) (sn _ hl)
 have e:ar false false false false r=true:=by unfold ar;rw [dT hc,hg,dT (en.2 hn9),dT ht,dT (em.2 hl)];rfl
 rw [e];exact xQ r p W (beq_iff_eq.2 hc) hg (yn _ hn9) (cN.2 ht) (yn _ hl)
theorem xP (r:Raw) (p:PV) (W:World) (q1:r.neg=true):Calls Tryz.prog 74 #[rawV r p,.int .i64 1] W (BoolPost false W):=by
 have hb1:(W.alloc (.cells (rwC r.k r.c r.neg p.A p.n p.cp r.t p.B p.m p.cap) 27)).heap[W.heap.size]? = some (.cells (rwC r.k r.c r.neg p.A p.n p.cp r.t p.B p.m p.cap) 27 (0,0)):=hN W _
 obtain ⟨a0,a1,a2,a3,a4,a5⟩:=aa hb1
 clear hb1
 rw [q1] at a2
 go_enter Tryz.func74,Tryz.ntmps74
 go_wp2_with fail
 go_ret
 exact ⟨rfl,kR.alloc _⟩
theorem xN (r:Raw) (p:PV) (W:World) (q1:r.neg=false) (q2:((p.n:Int) == 0)=false):Calls Tryz.prog 74 #[rawV r p,.int .i64 1] W (BoolPost false W):=by
 have hb1:(W.alloc (.cells (rwC r.k r.c r.neg p.A p.n p.cp r.t p.B p.m p.cap) 27)).heap[W.heap.size]? = some (.cells (rwC r.k r.c r.neg p.A p.n p.cp r.t p.B p.m p.cap) 27 (0,0)):=hN W _
 obtain ⟨a0,a1,a2,a3,a4,a5⟩:=aa hb1
 clear hb1
 rw [q1] at a2
 go_enter Tryz.func74,Tryz.ntmps74
 go_wp2_with fail
 go_ret
 exact ⟨rfl,kR.alloc _⟩
theorem xM (r:Raw) (p:PV) (W:World) (q1:r.neg=false) (q2:((p.n:Int) == 0)=true) (q3:¬ r.t.toList=[]):Calls Tryz.prog 74 #[rawV r p,.int .i64 1] W (BoolPost false W):=by
 have hb1:(W.alloc (.cells (rwC r.k r.c r.neg p.A p.n p.cp r.t p.B p.m p.cap) 27)).heap[W.heap.size]? = some (.cells (rwC r.k r.c r.neg p.A p.n p.cp r.t p.B p.m p.cap) 27 (0,0)):=hN W _
 obtain ⟨a0,a1,a2,a3,a4,a5⟩:=aa hb1
 clear hb1
 rw [q1] at a2
 go_enter Tryz.func74,Tryz.ntmps74
 go_wp2_with fail
 go_ret
 exact ⟨rfl,kR.alloc _⟩
theorem xO (r:Raw) (p:PV) (W:World) (q1:r.neg=false) (q2:((p.n:Int) == 0)=true) (q3:r.t.toList=[]) (q4:((p.m:Int) == 0)=false):Calls Tryz.prog 74 #[rawV r p,.int .i64 1] W (BoolPost false W):=by
 have hb1:(W.alloc (.cells (rwC r.k r.c r.neg p.A p.n p.cp r.t p.B p.m p.cap) 27)).heap[W.heap.size]? = some (.cells (rwC r.k r.c r.neg p.A p.n p.cp r.t p.B p.m p.cap) 27 (0,0)):=hN W _
 obtain ⟨a0,a1,a2,a3,a4,a5⟩:=aa hb1
 clear hb1
 rw [q1] at a2
 go_enter Tryz.func74,Tryz.ntmps74
 go_wp2_with fail
 go_ret
 exact ⟨rfl,kR.alloc _⟩
theorem xL (r:Raw) (p:PV) (W:World) (q1:r.neg=false) (q2:((p.n:Int) == 0)=true) (q3:r.t.toList=[]) (q4:((p.m:Int) == 0)=true):Calls Tryz.prog 74 #[rawV r p,.int .i64 1] W (BoolPost true W):=by
 have hb1:(W.alloc (.cells (rwC r.k r.c r.neg p.A p.n p.cp r.t p.B p.m p.cap) 27)).heap[W.heap.size]? = some (.cells (rwC r.k r.c r.neg p.A p.n p.cp r.t p.B p.m p.cap) 27 (0,0)):=hN W _
 obtain ⟨a0,a1,a2,a3,a4,a5⟩:=aa hb1
 clear hb1
 rw [q1] at a2
 go_enter Tryz.func74,Tryz.ntmps74
 go_wp2_with fail
 go_ret
 exact ⟨rfl,kR.alloc _⟩
theorem rW (r:Raw) (p:PV) (W:World) (hn:r.mag.length=p.n) (hm:r.l.length=p.m):Calls Tryz.prog 74 #[rawV r p,.int .i64 1] W (BoolPost (ar true false false false r) W):=by
 have en:(r.mag=[]) ↔ p.n=0:=by rw [<- List.length_eq_zero_iff,hn]
 have em:(r.l=[]) ↔ p.m=0:=by rw [<- List.length_eq_zero_iff,hm]
 have sn:∀ n:Nat,¬ n=0->((n:Int) == 0)=false:=fun n h=>bF.2 (by omega)
 have yn:∀ n:Nat,n=0->((n:Int) == 0)=true:=fun n h=>beq_iff_eq.2 (by omega)
 by_cases hg:r.neg=false
 case neg=>
  have e:ar true false false false r=false:=by unfold ar;rw [show r.neg=true from by simpa using hg];simp
  rw [e];exact xP r p W (by simpa using hg)
 by_cases hn9:p.n=0
 case neg=>
  have e:ar true false false false r=false:=by unfold ar;rw [dF (mt en.1 hn9)];simp
  rw [e];exact xN r p W hg (sn _ hn9)
 by_cases ht:r.t=⟨#[]⟩
 case neg=>
  have e:ar true false false false r=false:=by unfold ar;rw [dF ht];simp
  rw [e];exact xM r p W hg (yn _ hn9) (fun h=>ht (cN.1 h))
 by_cases hl:p.m=0
 case neg=>
  have e:ar true false false false r=false:=by unfold ar;rw [dF (mt em.1 hl)];simp
  rw [e];exact xO r p W hg (yn _ hn9) (cN.2 ht) (sn _ hl)
 have e:ar true false false false r=true:=by unfold ar;rw [hg,dT (en.2 hn9),dT ht,dT (em.2 hl)];rfl
 rw [e];exact xL r p W hg (yn _ hn9) (cN.2 ht) (yn _ hl)
theorem xK (r:Raw) (p:PV) (W:World) (q0:(r.c == 0)=false):Calls Tryz.prog 74 #[rawV r p,.int .i64 2] W (BoolPost false W):=by
 have hb1:(W.alloc (.cells (rwC r.k r.c r.neg p.A p.n p.cp r.t p.B p.m p.cap) 27)).heap[W.heap.size]? = some (.cells (rwC r.k r.c r.neg p.A p.n p.cp r.t p.B p.m p.cap) 27 (0,0)):=hN W _
 obtain ⟨a0,a1,a2,a3,a4,a5⟩:=aa hb1
 clear hb1
 go_enter Tryz.func74,Tryz.ntmps74
 go_wp2_with fail
 go_ret
 exact ⟨rfl,kR.alloc _⟩
theorem xI (r:Raw) (p:PV) (W:World) (q0:(r.c == 0)=true) (q3:¬ r.t.toList=[]):Calls Tryz.prog 74 #[rawV r p,.int .i64 2] W (BoolPost false W):=by
 have hb1:(W.alloc (.cells (rwC r.k r.c r.neg p.A p.n p.cp r.t p.B p.m p.cap) 27)).heap[W.heap.size]? = some (.cells (rwC r.k r.c r.neg p.A p.n p.cp r.t p.B p.m p.cap) 27 (0,0)):=hN W _
 obtain ⟨a0,a1,a2,a3,a4,a5⟩:=aa hb1
 clear hb1
 go_enter Tryz.func74,Tryz.ntmps74
 go_wp2_with fail
 go_ret
 exact ⟨rfl,kR.alloc _⟩
theorem xJ (r:Raw) (p:PV) (W:World) (q0:(r.c == 0)=true) (q3:r.t.toList=[]) (q4:((p.m:Int) == 0)=false):Calls Tryz.prog 74 #[rawV r p,.int .i64 2] W (BoolPost false W):=by
 have hb1:(W.alloc (.cells (rwC r.k r.c r.neg p.A p.n p.cp r.t p.B p.m p.cap) 27)).heap[W.heap.size]? = some (.cells (rwC r.k r.c r.neg p.A p.n p.cp r.t p.B p.m p.cap) 27 (0,0)):=hN W _
 obtain ⟨a0,a1,a2,a3,a4,a5⟩:=aa hb1
 clear hb1
 go_enter Tryz.func74,Tryz.ntmps74
 go_wp2_with fail
 go_ret
 exact ⟨rfl,kR.alloc _⟩
theorem xH (r:Raw) (p:PV) (W:World) (q0:(r.c == 0)=true) (q3:r.t.toList=[]) (q4:((p.m:Int) == 0)=true):Calls Tryz.prog 74 #[rawV r p,.int .i64 2] W (BoolPost true W):=by
 have hb1:(W.alloc (.cells (rwC r.k r.c r.neg p.A p.n p.cp r.t p.B p.m p.cap) 27)).heap[W.heap.size]? = some (.cells (rwC r.k r.c r.neg p.A p.n p.cp r.t p.B p.m p.cap) 27 (0,0)):=hN W _
 obtain ⟨a0,a1,a2,a3,a4,a5⟩:=aa hb1
 clear hb1
 go_enter Tryz.func74,Tryz.ntmps74
 go_wp2_with fail
 go_ret
 exact ⟨rfl,kR.alloc _⟩
theorem rV (r:Raw) (p:PV) (W:World) (hn:r.mag.length=p.n) (hm:r.l.length=p.m):Calls Tryz.prog 74 #[rawV r p,.int .i64 2] W (BoolPost (ar false true false false r) W):=by
 have en:(r.mag=[]) ↔ p.n=0:=by rw [<- List.length_eq_zero_iff,hn]
 have em:(r.l=[]) ↔ p.m=0:=by rw [<- List.length_eq_zero_iff,hm]
 have sn:∀ n:Nat,¬ n=0->((n:Int) == 0)=false:=fun n h=>bF.2 (by omega)
 have yn:∀ n:Nat,n=0->((n:Int) == 0)=true:=fun n h=>beq_iff_eq.2 (by omega)
 by_cases hc:r.c=0
 case neg=>
  have e:ar false true false false r=false:=by unfold ar;rw [dF hc];simp
  rw [e];exact xK r p W (bF.2 hc)
 by_cases ht:r.t=⟨#[]⟩
 case neg=>
  have e:ar false true false false r=false:=by unfold ar;rw [dF ht];simp
  rw [e];exact xI r p W (beq_iff_eq.2 hc) (fun h=>ht (cN.1 h))
 by_cases hl:p.m=0
 case neg=>
  have e:ar false true false false r=false:=by unfold ar;rw [dF (mt em.1 hl)];simp
  rw [e];exact xJ r p W (beq_iff_eq.2 hc) (cN.2 ht) (sn _ hl)
 have e:ar false true false false r=true:=by unfold ar;rw [dT hc,dT ht,dT (em.2 hl)];rfl
 rw [e];exact xH r p W (beq_iff_eq.2 hc) (cN.2 ht) (yn _ hl)
theorem xG (r:Raw) (p:PV) (W:World) (q0:(r.c == 0)=false):Calls Tryz.prog 74 #[rawV r p,.int .i64 4] W (BoolPost false W):=by
 have hb1:(W.alloc (.cells (rwC r.k r.c r.neg p.A p.n p.cp r.t p.B p.m p.cap) 27)).heap[W.heap.size]? = some (.cells (rwC r.k r.c r.neg p.A p.n p.cp r.t p.B p.m p.cap) 27 (0,0)):=hN W _
 obtain ⟨a0,a1,a2,a3,a4,a5⟩:=aa hb1
 clear hb1
 go_enter Tryz.func74,Tryz.ntmps74
 go_wp2_with fail
 go_ret
 exact ⟨rfl,kR.alloc _⟩
theorem xF (r:Raw) (p:PV) (W:World) (q0:(r.c == 0)=true) (q1:r.neg=true):Calls Tryz.prog 74 #[rawV r p,.int .i64 4] W (BoolPost false W):=by
 have hb1:(W.alloc (.cells (rwC r.k r.c r.neg p.A p.n p.cp r.t p.B p.m p.cap) 27)).heap[W.heap.size]? = some (.cells (rwC r.k r.c r.neg p.A p.n p.cp r.t p.B p.m p.cap) 27 (0,0)):=hN W _
 obtain ⟨a0,a1,a2,a3,a4,a5⟩:=aa hb1
 clear hb1
 rw [q1] at a2
 go_enter Tryz.func74,Tryz.ntmps74
 go_wp2_with fail
 go_ret
 exact ⟨rfl,kR.alloc _⟩
theorem xD (r:Raw) (p:PV) (W:World) (q0:(r.c == 0)=true) (q1:r.neg=false) (q2:((p.n:Int) == 0)=false):Calls Tryz.prog 74 #[rawV r p,.int .i64 4] W (BoolPost false W):=by
 have hb1:(W.alloc (.cells (rwC r.k r.c r.neg p.A p.n p.cp r.t p.B p.m p.cap) 27)).heap[W.heap.size]? = some (.cells (rwC r.k r.c r.neg p.A p.n p.cp r.t p.B p.m p.cap) 27 (0,0)):=hN W _
 obtain ⟨a0,a1,a2,a3,a4,a5⟩:=aa hb1
 clear hb1
 rw [q1] at a2
 go_enter Tryz.func74,Tryz.ntmps74
 go_wp2_with fail
 go_ret
 exact ⟨rfl,kR.alloc _⟩
theorem xE (r:Raw) (p:PV) (W:World) (q0:(r.c == 0)=true) (q1:r.neg=false) (q2:((p.n:Int) == 0)=true) (q4:((p.m:Int) == 0)=false):Calls Tryz.prog 74 #[rawV r p,.int .i64 4] W (BoolPost false W):=by
 have hb1:(W.alloc (.cells (rwC r.k r.c r.neg p.A p.n p.cp r.t p.B p.m p.cap) 27)).heap[W.heap.size]? = some (.cells (rwC r.k r.c r.neg p.A p.n p.cp r.t p.B p.m p.cap) 27 (0,0)):=hN W _
 obtain ⟨a0,a1,a2,a3,a4,a5⟩:=aa hb1
 clear hb1
 rw [q1] at a2
 go_enter Tryz.func74,Tryz.ntmps74
 go_wp2_with fail
 go_ret
 exact ⟨rfl,kR.alloc _⟩
theorem xC (r:Raw) (p:PV) (W:World) (q0:(r.c == 0)=true) (q1:r.neg=false) (q2:((p.n:Int) == 0)=true) (q4:((p.m:Int) == 0)=true):Calls Tryz.prog 74 #[rawV r p,.int .i64 4] W (BoolPost true W):=by
 have hb1:(W.alloc (.cells (rwC r.k r.c r.neg p.A p.n p.cp r.t p.B p.m p.cap) 27)).heap[W.heap.size]? = some (.cells (rwC r.k r.c r.neg p.A p.n p.cp r.t p.B p.m p.cap) 27 (0,0)):=hN W _
 obtain ⟨a0,a1,a2,a3,a4,a5⟩:=aa hb1
 clear hb1
 rw [q1] at a2
 go_enter Tryz.func74,Tryz.ntmps74
 go_wp2_with fail
 go_ret
 exact ⟨rfl,kR.alloc _⟩
theorem lE (r:Raw) (p:PV) (W:World) (hn:r.mag.length=p.n) (hm:r.l.length=p.m):Calls Tryz.prog 74 #[rawV r p,.int .i64 4] W (BoolPost (ar false false true false r) W):=by
 have en:(r.mag=[]) ↔ p.n=0:=by rw [<- List.length_eq_zero_iff,hn]
 have em:(r.l=[]) ↔ p.m=0:=by rw [<- List.length_eq_zero_iff,hm]
 have sn:∀ n:Nat,¬ n=0->((n:Int) == 0)=false:=fun n h=>bF.2 (by omega)
 have yn:∀ n:Nat,n=0->((n:Int) == 0)=true:=fun n h=>beq_iff_eq.2 (by omega)
 by_cases hc:r.c=0
 case neg=>
  have e:ar false false true false r=false:=by unfold ar;rw [dF hc];simp
  rw [e];exact xG r p W (bF.2 hc)
 by_cases hg:r.neg=false
 case neg=>
  have e:ar false false true false r=false:=by unfold ar;rw [show r.neg=true from by simpa using hg];simp
  rw [e];exact xF r p W (beq_iff_eq.2 hc) (by simpa using hg)
 by_cases hn9:p.n=0
 case neg=>
  have e:ar false false true false r=false:=by unfold ar;rw [dF (mt en.1 hn9)];simp
  rw [e];exact xD r p W (beq_iff_eq.2 hc) hg (sn _ hn9)
 by_cases hl:p.m=0
 case neg=>
  have e:ar false false true false r=false:=by unfold ar;rw [dF (mt em.1 hl)];simp
  rw [e];exact xE r p W (beq_iff_eq.2 hc) hg (yn _ hn9) (sn _ hl)
 have e:ar false false true false r=true:=by unfold ar;rw [dT hc,hg,dT (en.2 hn9),dT (em.2 hl)];rfl
 rw [e];exact xC r p W (beq_iff_eq.2 hc) hg (yn _ hn9) (yn _ hl)
theorem xB (r:Raw) (p:PV) (W:World) (q0:(r.c == 0)=false):Calls Tryz.prog 74 #[rawV r p,.int .i64 8] W (BoolPost false W):=by
 have hb1:(W.alloc (.cells (rwC r.k r.c r.neg p.A p.n p.cp r.t p.B p.m p.cap) 27)).heap[W.heap.size]? = some (.cells (rwC r.k r.c r.neg p.A p.n p.cp r.t p.B p.m p.cap) 27 (0,0)):=hN W _
 obtain ⟨a0,a1,a2,a3,a4,a5⟩:=aa hb1
 clear hb1
 go_enter Tryz.func74,Tryz.ntmps74
 go_wp2_with fail
 go_ret
 exact ⟨rfl,kR.alloc _⟩
theorem xA (r:Raw) (p:PV) (W:World) (q0:(r.c == 0)=true) (q1:r.neg=true):Calls Tryz.prog 74 #[rawV r p,.int .i64 8] W (BoolPost false W):=by
 have hb1:(W.alloc (.cells (rwC r.k r.c r.neg p.A p.n p.cp r.t p.B p.m p.cap) 27)).heap[W.heap.size]? = some (.cells (rwC r.k r.c r.neg p.A p.n p.cp r.t p.B p.m p.cap) 27 (0,0)):=hN W _
 obtain ⟨a0,a1,a2,a3,a4,a5⟩:=aa hb1
 clear hb1
 rw [q1] at a2
 go_enter Tryz.func74,Tryz.ntmps74
 go_wp2_with fail
 go_ret
 exact ⟨rfl,kR.alloc _⟩
theorem xz (r:Raw) (p:PV) (W:World) (q0:(r.c == 0)=true) (q1:r.neg=false) (q2:((p.n:Int) == 0)=false):Calls Tryz.prog 74 #[rawV r p,.int .i64 8] W (BoolPost false W):=by
 have hb1:(W.alloc (.cells (rwC r.k r.c r.neg p.A p.n p.cp r.t p.B p.m p.cap) 27)).heap[W.heap.size]? = some (.cells (rwC r.k r.c r.neg p.A p.n p.cp r.t p.B p.m p.cap) 27 (0,0)):=hN W _
 obtain ⟨a0,a1,a2,a3,a4,a5⟩:=aa hb1
 clear hb1
 rw [q1] at a2
 go_enter Tryz.func74,Tryz.ntmps74
 go_wp2_with fail
 go_ret
 exact ⟨rfl,kR.alloc _⟩
theorem xy (r:Raw) (p:PV) (W:World) (q0:(r.c == 0)=true) (q1:r.neg=false) (q2:((p.n:Int) == 0)=true) (q3:¬ r.t.toList=[]):Calls Tryz.prog 74 #[rawV r p,.int .i64 8] W (BoolPost false W):=by
 have hb1:(W.alloc (.cells (rwC r.k r.c r.neg p.A p.n p.cp r.t p.B p.m p.cap) 27)).heap[W.heap.size]? = some (.cells (rwC r.k r.c r.neg p.A p.n p.cp r.t p.B p.m p.cap) 27 (0,0)):=hN W _
 obtain ⟨a0,a1,a2,a3,a4,a5⟩:=aa hb1
 clear hb1
 rw [q1] at a2
 go_enter Tryz.func74,Tryz.ntmps74
 go_wp2_with fail
 go_ret
 exact ⟨rfl,kR.alloc _⟩
theorem xx (r:Raw) (p:PV) (W:World) (q0:(r.c == 0)=true) (q1:r.neg=false) (q2:((p.n:Int) == 0)=true) (q3:r.t.toList=[]):Calls Tryz.prog 74 #[rawV r p,.int .i64 8] W (BoolPost true W):=by
 have hb1:(W.alloc (.cells (rwC r.k r.c r.neg p.A p.n p.cp r.t p.B p.m p.cap) 27)).heap[W.heap.size]? = some (.cells (rwC r.k r.c r.neg p.A p.n p.cp r.t p.B p.m p.cap) 27 (0,0)):=hN W _
 obtain ⟨a0,a1,a2,a3,a4,a5⟩:=aa hb1
 clear hb1
 rw [q1] at a2
 go_enter Tryz.func74,Tryz.ntmps74
 go_wp2_with fail
 go_ret
 exact ⟨rfl,kR.alloc _⟩
theorem lD (r:Raw) (p:PV) (W:World) (hn:r.mag.length=p.n) (hm:r.l.length=p.m):Calls Tryz.prog 74 #[rawV r p,.int .i64 8] W (BoolPost (ar false false false true r) W):=by
 have en:(r.mag=[]) ↔ p.n=0:=by rw [<- List.length_eq_zero_iff,hn]
 have em:(r.l=[]) ↔ p.m=0:=by rw [<- List.length_eq_zero_iff,hm]
 have sn:∀ n:Nat,¬ n=0->((n:Int) == 0)=false:=fun n h=>bF.2 (by omega)
 have yn:∀ n:Nat,n=0->((n:Int) == 0)=true:=fun n h=>beq_iff_eq.2 (by omega)
 by_cases hc:r.c=0
 case neg=>
  have e:ar false false false true r=false:=by unfold ar;rw [dF hc];simp
  rw [e];exact xB r p W (bF.2 hc)
 by_cases hg:r.neg=false
 case neg=>
  have e:ar false false false true r=false:=by unfold ar;rw [show r.neg=true from by simpa using hg];simp
  rw [e];exact xA r p W (beq_iff_eq.2 hc) (by simpa using hg)
 by_cases hn9:p.n=0
 case neg=>
  have e:ar false false false true r=false:=by unfold ar;rw [dF (mt en.1 hn9)];simp
  rw [e];exact xz r p W (beq_iff_eq.2 hc) hg (sn _ hn9)
 by_cases ht:r.t=⟨#[]⟩
 case neg=>
  have e:ar false false false true r=false:=by unfold ar;rw [dF ht];simp
  rw [e];exact xy r p W (beq_iff_eq.2 hc) hg (yn _ hn9) (fun h=>ht (cN.1 h))
 have e:ar false false false true r=true:=by unfold ar;rw [dT hc,hg,dT (en.2 hn9),dT ht];rfl
 rw [e];exact xx r p W (beq_iff_eq.2 hc) hg (yn _ hn9) (cN.2 ht)
end Go.Proofs.YtonnikipeokkaaaGreatDoor

namespace Go.Proofs.YtonnikipeokkaaaGreatDoor
set_option maxRecDepth 100000
set_option maxHeartbeats 4000000
open Go.Lib (hid)
open Go.RowKit Go.Lib
def gr (c:Int):Bool:=decide (0<=c) && bn c.toNat
def fv (o:Option (List Nat)) (sym:Bool):Bool:=
 match o with
 | some r=>decide (r.length<=62) && (!sym || decide (0<r.length))
 | none=>false
mutual
def aS:Raw->Bool
 | .mk k c neg mag t l=>
  if k=0\/k=1\/k=2\/k=9\/k=10 then ar false false false false (.mk k c neg mag t l)
  else if k=3 then ar true false false false (.mk k c neg mag t l) && gr c
  else if k=4 then ar false true false false (.mk k c neg mag t l) && kc neg mag
  else if k=5 then ar false false true false (.mk k c neg mag t l) && fv (au t.data.toList) false
  else if k=6 then ar false false true false (.mk k c neg mag t l) && fv (au t.data.toList) true
  else if k=7 then (ar false false false true (.mk k c neg mag t l) && decide (l.length=2)) && bG l
  else if k=8 then (ar false false false true (.mk k c neg mag t l) && decide (l.length<=62)) && bG l
  else false
def bG:List Raw->Bool
 | []=>true
 | x :: l=>aS x && bG l
end
theorem dH (r:Raw):aS r =
 if r.k=0\/r.k=1\/r.k=2\/r.k=9\/r.k=10 then ar false false false false r
 else if r.k=3 then ar true false false false r && gr r.c
 else if r.k=4 then ar false true false false r && kc r.neg r.mag
 else if r.k=5 then ar false false true false r && fv (au r.t.data.toList) false
 else if r.k=6 then ar false false true false r && fv (au r.t.data.toList) true
 else if r.k=7 then (ar false false false true r && decide (r.l.length=2)) && bG r.l
 else if r.k=8 then (ar false false false true r && decide (r.l.length<=62)) && bG r.l
 else false:=by
 cases r with
 | mk k c neg mag t l=>rw [aS];rfl
theorem fi {l:List Raw}:bG l=true ↔ ∀ i (hi:i<l.length),aS l[i]=true:=by
 induction l with
 | nil=>rw [bG];simp
 | cons x l ih=>
  rw [bG,Bool.and_eq_true,ih]
  constructor
  ·rintro ⟨h0,h⟩ i hi
   cases i with
   | zero=>exact h0
   | succ i=>exact h i (by simpa using hi)
  ·intro h
   exact ⟨h 0 (by simp),fun i hi=>h (i+1) (by simpa using hi)⟩
theorem fR {l:List Raw} {i:Nat} (hi:i<l.length) (h:aS l[i]=false):bG l=false:=by
 rw [Bool.eq_false_iff]
 intro hp
 rw [fi.1 hp i hi] at h
 cases h
inductive dX:Raw->Prop
 | mk {r:Raw} (ht:r.t.size<=1000000) (hm:r.mag.length<=9000) (h:∀ i (hi:i<r.l.length),dX r.l[i]):dX r
theorem oI (c:Int) (w:World):Calls Tryz.prog 75 #[.int .i32 c] w fun e w'=>e=.returned (.bool (gr c))/\w=w':=by
 by_cases h:0<=c
 ·have e:gr c=bn c.toNat:=by unfold gr;rw [dT h,Bool.true_and]
  rw [e]
  exact eP c.toNat c (by omega) w
 ·have e:gr c=false:=by unfold gr;rw [dF h,Bool.false_and]
  have h0:decide (0<=c)=false:=dF h
  rw [e]
  clear e h
  go_enter Tryz.func75,Tryz.ntmps75
  go_wp2_with fail
  go_ret
  exact ⟨rfl,rfl⟩
theorem tQ (r:Raw) (p:PV) (W:World) (s0:(r.k == 0)=true) (b:Bool) (HB:Hid (∀ w1:World,Calls Tryz.prog 74 #[rawV r p,.int .i64 0] w1 (BoolPost b w1))):Calls Tryz.prog 46 #[rawV r p] W (BoolPost b W):=by
 have hb1:(W.alloc (.cells (rwC r.k r.c r.neg p.A p.n p.cp r.t p.B p.m p.cap) 27)).heap[W.heap.size]? = some (.cells (rwC r.k r.c r.neg p.A p.n p.cp r.t p.B p.m p.cap) 27 (0,0)):=hN W _
 have HB1:=hid hb1
 have HK1:=hid (show K0 W (W.alloc (.cells (rwC r.k r.c r.neg p.A p.n p.cp r.t p.B p.m p.cap) 27)) from kR.alloc _)
 obtain ⟨a0,a1,a2,a3,a4,a5⟩:=aa hb1
 clear hb1
 go_enter Tryz.func46,Tryz.ntmps46
 go_wp2_with fail
 generalize W.alloc (.cells (rwC r.k r.c r.neg p.A p.n p.cp r.t p.B p.m p.cap) 27)=w1 at *
 refine (HB.out _).mono ?_
 rintro e w2 ⟨rfl,k2⟩
 have HB2:=hid (k2.heap HB1.out (by simp))
 have HK2:=hid (HK1.out.trans k2)
 clear a0 a1 a2 a3 a4 a5 k2
 obtain ⟨a0,a1,a2,a3,a4,a5⟩:=aa HB2.out
 go_wp2_with fail
 go_ret
 exact ⟨rfl,HK2.out⟩
theorem tN (r:Raw) (p:PV) (W:World) (s0:(r.k == 0)=false) (s1:(r.k == 1)=true) (b:Bool) (HB:Hid (∀ w1:World,Calls Tryz.prog 74 #[rawV r p,.int .i64 0] w1 (BoolPost b w1))):Calls Tryz.prog 46 #[rawV r p] W (BoolPost b W):=by
 have hb1:(W.alloc (.cells (rwC r.k r.c r.neg p.A p.n p.cp r.t p.B p.m p.cap) 27)).heap[W.heap.size]? = some (.cells (rwC r.k r.c r.neg p.A p.n p.cp r.t p.B p.m p.cap) 27 (0,0)):=hN W _
 have HB1:=hid hb1
 have HK1:=hid (show K0 W (W.alloc (.cells (rwC r.k r.c r.neg p.A p.n p.cp r.t p.B p.m p.cap) 27)) from kR.alloc _)
 obtain ⟨a0,a1,a2,a3,a4,a5⟩:=aa hb1
 clear hb1
 go_enter Tryz.func46,Tryz.ntmps46
 go_wp2_with fail
 generalize W.alloc (.cells (rwC r.k r.c r.neg p.A p.n p.cp r.t p.B p.m p.cap) 27)=w1 at *
 refine (HB.out _).mono ?_
 rintro e w2 ⟨rfl,k2⟩
 have HB2:=hid (k2.heap HB1.out (by simp))
 have HK2:=hid (HK1.out.trans k2)
 clear a0 a1 a2 a3 a4 a5 k2
 obtain ⟨a0,a1,a2,a3,a4,a5⟩:=aa HB2.out
 go_wp2_with fail
 go_ret
 exact ⟨rfl,HK2.out⟩
theorem tM (r:Raw) (p:PV) (W:World) (s0:(r.k == 0)=false) (s1:(r.k == 1)=false) (s2:(r.k == 2)=true) (b:Bool) (HB:Hid (∀ w1:World,Calls Tryz.prog 74 #[rawV r p,.int .i64 0] w1 (BoolPost b w1))):Calls Tryz.prog 46 #[rawV r p] W (BoolPost b W):=by
 have hb1:(W.alloc (.cells (rwC r.k r.c r.neg p.A p.n p.cp r.t p.B p.m p.cap) 27)).heap[W.heap.size]? = some (.cells (rwC r.k r.c r.neg p.A p.n p.cp r.t p.B p.m p.cap) 27 (0,0)):=hN W _
 have HB1:=hid hb1
 have HK1:=hid (show K0 W (W.alloc (.cells (rwC r.k r.c r.neg p.A p.n p.cp r.t p.B p.m p.cap) 27)) from kR.alloc _)
 obtain ⟨a0,a1,a2,a3,a4,a5⟩:=aa hb1
 clear hb1
 go_enter Tryz.func46,Tryz.ntmps46
 go_wp2_with fail
 generalize W.alloc (.cells (rwC r.k r.c r.neg p.A p.n p.cp r.t p.B p.m p.cap) 27)=w1 at *
 refine (HB.out _).mono ?_
 rintro e w2 ⟨rfl,k2⟩
 have HB2:=hid (k2.heap HB1.out (by simp))
 have HK2:=hid (HK1.out.trans k2)
 clear a0 a1 a2 a3 a4 a5 k2
 obtain ⟨a0,a1,a2,a3,a4,a5⟩:=aa HB2.out
 go_wp2_with fail
 go_ret
 exact ⟨rfl,HK2.out⟩
theorem tL (r:Raw) (p:PV) (W:World) (s0:(r.k == 0)=false) (s1:(r.k == 1)=false) (s2:(r.k == 2)=false) (s9:(r.k == 9)=true) (b:Bool) (HB:Hid (∀ w1:World,Calls Tryz.prog 74 #[rawV r p,.int .i64 0] w1 (BoolPost b w1))):Calls Tryz.prog 46 #[rawV r p] W (BoolPost b W):=by
 have hb1:(W.alloc (.cells (rwC r.k r.c r.neg p.A p.n p.cp r.t p.B p.m p.cap) 27)).heap[W.heap.size]? = some (.cells (rwC r.k r.c r.neg p.A p.n p.cp r.t p.B p.m p.cap) 27 (0,0)):=hN W _
 have HB1:=hid hb1
 have HK1:=hid (show K0 W (W.alloc (.cells (rwC r.k r.c r.neg p.A p.n p.cp r.t p.B p.m p.cap) 27)) from kR.alloc _)
 obtain ⟨a0,a1,a2,a3,a4,a5⟩:=aa hb1
 clear hb1
 go_enter Tryz.func46,Tryz.ntmps46
 go_wp2_with fail
 generalize W.alloc (.cells (rwC r.k r.c r.neg p.A p.n p.cp r.t p.B p.m p.cap) 27)=w1 at *
 refine (HB.out _).mono ?_
 rintro e w2 ⟨rfl,k2⟩
 have HB2:=hid (k2.heap HB1.out (by simp))
 have HK2:=hid (HK1.out.trans k2)
 clear a0 a1 a2 a3 a4 a5 k2
 obtain ⟨a0,a1,a2,a3,a4,a5⟩:=aa HB2.out
 go_wp2_with fail
 go_ret
 exact ⟨rfl,HK2.out⟩
theorem rd (r:Raw) (p:PV) (W:World) (s0:(r.k == 0)=false) (s1:(r.k == 1)=false) (s2:(r.k == 2)=false) (s9:(r.k == 9)=false) (s10:(r.k == 10)=true) (b:Bool) (HB:Hid (∀ w1:World,Calls Tryz.prog 74 #[rawV r p,.int .i64 0] w1 (BoolPost b w1))):Calls Tryz.prog 46 #[rawV r p] W (BoolPost b W):=by
 have hb1:(W.alloc (.cells (rwC r.k r.c r.neg p.A p.n p.cp r.t p.B p.m p.cap) 27)).heap[W.heap.size]? = some (.cells (rwC r.k r.c r.neg p.A p.n p.cp r.t p.B p.m p.cap) 27 (0,0)):=hN W _
 have HB1:=hid hb1
 have HK1:=hid (show K0 W (W.alloc (.cells (rwC r.k r.c r.neg p.A p.n p.cp r.t p.B p.m p.cap) 27)) from kR.alloc _)
 obtain ⟨a0,a1,a2,a3,a4,a5⟩:=aa hb1
 clear hb1
 go_enter Tryz.func46,Tryz.ntmps46
 go_wp2_with fail
 generalize W.alloc (.cells (rwC r.k r.c r.neg p.A p.n p.cp r.t p.B p.m p.cap) 27)=w1 at *
 refine (HB.out _).mono ?_
 rintro e w2 ⟨rfl,k2⟩
 have HB2:=hid (k2.heap HB1.out (by simp))
 have HK2:=hid (HK1.out.trans k2)
 clear a0 a1 a2 a3 a4 a5 k2
 obtain ⟨a0,a1,a2,a3,a4,a5⟩:=aa HB2.out
 go_wp2_with fail
 go_ret
 exact ⟨rfl,HK2.out⟩
theorem tK (r:Raw) (p:PV) (W:World) (s0:(r.k == 0)=false) (s1:(r.k == 1)=false) (s2:(r.k == 2)=false) (s9:(r.k == 9)=false) (s10:(r.k == 10)=false) (s3:(r.k == 3)=true) (HB:Hid (∀ w1:World,Calls Tryz.prog 74 #[rawV r p,.int .i64 1] w1 (BoolPost false w1))):Calls Tryz.prog 46 #[rawV r p] W (BoolPost false W):=by
 have hb1:(W.alloc (.cells (rwC r.k r.c r.neg p.A p.n p.cp r.t p.B p.m p.cap) 27)).heap[W.heap.size]? = some (.cells (rwC r.k r.c r.neg p.A p.n p.cp r.t p.B p.m p.cap) 27 (0,0)):=hN W _
 have HB1:=hid hb1
 have HK1:=hid (show K0 W (W.alloc (.cells (rwC r.k r.c r.neg p.A p.n p.cp r.t p.B p.m p.cap) 27)) from kR.alloc _)
 obtain ⟨a0,a1,a2,a3,a4,a5⟩:=aa hb1
 clear hb1
 go_enter Tryz.func46,Tryz.ntmps46
 go_wp2_with fail
 generalize W.alloc (.cells (rwC r.k r.c r.neg p.A p.n p.cp r.t p.B p.m p.cap) 27)=w1 at *
 refine (HB.out _).mono ?_
 rintro e w2 ⟨rfl,k2⟩
 have HB2:=hid (k2.heap HB1.out (by simp))
 have HK2:=hid (HK1.out.trans k2)
 clear a0 a1 a2 a3 a4 a5 k2
 obtain ⟨a0,a1,a2,a3,a4,a5⟩:=aa HB2.out
 go_wp2_with fail
 go_ret
 exact ⟨rfl,HK2.out⟩
theorem tJ (r:Raw) (p:PV) (W:World) (s0:(r.k == 0)=false) (s1:(r.k == 1)=false) (s2:(r.k == 2)=false) (s9:(r.k == 9)=false) (s10:(r.k == 10)=false) (s3:(r.k == 3)=true) (b:Bool) (HB:Hid (∀ w1:World,Calls Tryz.prog 74 #[rawV r p,.int .i64 1] w1 (BoolPost true w1))) (HC:Hid (∀ w1:World,Calls Tryz.prog 75 #[.int .i32 r.c] w1 (fun e w9=>e=.returned (.bool b)/\w1=w9))):Calls Tryz.prog 46 #[rawV r p] W (BoolPost b W):=by
 have hb1:(W.alloc (.cells (rwC r.k r.c r.neg p.A p.n p.cp r.t p.B p.m p.cap) 27)).heap[W.heap.size]? = some (.cells (rwC r.k r.c r.neg p.A p.n p.cp r.t p.B p.m p.cap) 27 (0,0)):=hN W _
 have HB1:=hid hb1
 have HK1:=hid (show K0 W (W.alloc (.cells (rwC r.k r.c r.neg p.A p.n p.cp r.t p.B p.m p.cap) 27)) from kR.alloc _)
 obtain ⟨a0,a1,a2,a3,a4,a5⟩:=aa hb1
 clear hb1
 go_enter Tryz.func46,Tryz.ntmps46
 go_wp2_with fail
 generalize W.alloc (.cells (rwC r.k r.c r.neg p.A p.n p.cp r.t p.B p.m p.cap) 27)=w1 at *
 refine (HB.out _).mono ?_
 rintro e w2 ⟨rfl,k2⟩
 have HB2:=hid (k2.heap HB1.out (by simp))
 have HK2:=hid (HK1.out.trans k2)
 clear a0 a1 a2 a3 a4 a5 k2
 obtain ⟨a0,a1,a2,a3,a4,a5⟩:=aa HB2.out
 go_wp2_with fail
 refine (HC.out _).mono ?_
 rintro e w3 ⟨rfl,rfl⟩
 go_wp2_with fail
 go_ret
 exact ⟨rfl,HK2.out⟩
theorem tI (r:Raw) (p:PV) (W:World) (s0:(r.k == 0)=false) (s1:(r.k == 1)=false) (s2:(r.k == 2)=false) (s9:(r.k == 9)=false) (s10:(r.k == 10)=false) (s3:(r.k == 3)=false) (s4:(r.k == 4)=true) (HB:Hid (∀ w1:World,Calls Tryz.prog 74 #[rawV r p,.int .i64 2] w1 (BoolPost false w1))):Calls Tryz.prog 46 #[rawV r p] W (BoolPost false W):=by
 have hb1:(W.alloc (.cells (rwC r.k r.c r.neg p.A p.n p.cp r.t p.B p.m p.cap) 27)).heap[W.heap.size]? = some (.cells (rwC r.k r.c r.neg p.A p.n p.cp r.t p.B p.m p.cap) 27 (0,0)):=hN W _
 have HB1:=hid hb1
 have HK1:=hid (show K0 W (W.alloc (.cells (rwC r.k r.c r.neg p.A p.n p.cp r.t p.B p.m p.cap) 27)) from kR.alloc _)
 obtain ⟨a0,a1,a2,a3,a4,a5⟩:=aa hb1
 clear hb1
 go_enter Tryz.func46,Tryz.ntmps46
 go_wp2_with fail
 generalize W.alloc (.cells (rwC r.k r.c r.neg p.A p.n p.cp r.t p.B p.m p.cap) 27)=w1 at *
 refine (HB.out _).mono ?_
 rintro e w2 ⟨rfl,k2⟩
 have HB2:=hid (k2.heap HB1.out (by simp))
 have HK2:=hid (HK1.out.trans k2)
 clear a0 a1 a2 a3 a4 a5 k2
 obtain ⟨a0,a1,a2,a3,a4,a5⟩:=aa HB2.out
 go_wp2_with fail
 go_ret
 exact ⟨rfl,HK2.out⟩
theorem tH (r:Raw) (p:PV) (W:World) (s0:(r.k == 0)=false) (s1:(r.k == 1)=false) (s2:(r.k == 2)=false) (s9:(r.k == 9)=false) (s10:(r.k == 10)=false) (s3:(r.k == 3)=false) (s4:(r.k == 4)=true) (b:Bool) (HB:Hid (∀ w1:World,Calls Tryz.prog 74 #[rawV r p,.int .i64 2] w1 (BoolPost true w1))) (HC:Hid (∀ w1:World,K0 W w1->Calls Tryz.prog 76 #[al r.neg p.A p.n p.cp] w1 (BoolPost b w1))):Calls Tryz.prog 46 #[rawV r p] W (BoolPost b W):=by
 have hb1:(W.alloc (.cells (rwC r.k r.c r.neg p.A p.n p.cp r.t p.B p.m p.cap) 27)).heap[W.heap.size]? = some (.cells (rwC r.k r.c r.neg p.A p.n p.cp r.t p.B p.m p.cap) 27 (0,0)):=hN W _
 have HB1:=hid hb1
 have HK1:=hid (show K0 W (W.alloc (.cells (rwC r.k r.c r.neg p.A p.n p.cp r.t p.B p.m p.cap) 27)) from kR.alloc _)
 obtain ⟨a0,a1,a2,a3,a4,a5⟩:=aa hb1
 clear hb1
 go_enter Tryz.func46,Tryz.ntmps46
 go_wp2_with fail
 generalize W.alloc (.cells (rwC r.k r.c r.neg p.A p.n p.cp r.t p.B p.m p.cap) 27)=w1 at *
 refine (HB.out _).mono ?_
 rintro e w2 ⟨rfl,k2⟩
 have HB2:=hid (k2.heap HB1.out (by simp))
 have HK2:=hid (HK1.out.trans k2)
 clear a0 a1 a2 a3 a4 a5 k2
 obtain ⟨a0,a1,a2,a3,a4,a5⟩:=aa HB2.out
 go_wp2_with fail
 refine (HC.out _ HK2.out).mono ?_
 rintro e w3 ⟨rfl,k2⟩
 have HB3:=hid (k2.heap HB2.out (by simp))
 have HK3:=hid (HK2.out.trans k2)
 clear a0 a1 a2 a3 a4 a5 k2
 obtain ⟨a0,a1,a2,a3,a4,a5⟩:=aa HB3.out
 go_wp2_with fail
 go_ret
 exact ⟨rfl,HK3.out⟩
theorem oX (r:Raw) (p:PV) (W:World) (s0:(r.k == 0)=false) (s1:(r.k == 1)=false) (s2:(r.k == 2)=false) (s9:(r.k == 9)=false) (s10:(r.k == 10)=false) (s3:(r.k == 3)=false) (s4:(r.k == 4)=false) (s5:(r.k == 5)=true) (HR:Hid (∀ w1:World,Calls Tryz.prog 63 #[.string r.t] w1 (fun e w9=>e=.returned (.tuple #[.slice none 0 0,.bool false])/\K0 w1 w9))) (HB:Hid (∀ w1:World,Calls Tryz.prog 74 #[rawV r p,.int .i64 4] w1 (BoolPost false w1)))  : Calls Tryz.prog 46 #[rawV r p] W (BoolPost false W):=by
 have hb1:(W.alloc (.cells (rwC r.k r.c r.neg p.A p.n p.cp r.t p.B p.m p.cap) 27)).heap[W.heap.size]? = some (.cells (rwC r.k r.c r.neg p.A p.n p.cp r.t p.B p.m p.cap) 27 (0,0)):=hN W _
 have HB1:=hid hb1
 have HK1:=hid (show K0 W (W.alloc (.cells (rwC r.k r.c r.neg p.A p.n p.cp r.t p.B p.m p.cap) 27)) from kR.alloc _)
 obtain ⟨a0,a1,a2,a3,a4,a5⟩:=aa hb1
 clear hb1
 go_enter Tryz.func46,Tryz.ntmps46
 go_wp2_with fail
 generalize W.alloc (.cells (rwC r.k r.c r.neg p.A p.n p.cp r.t p.B p.m p.cap) 27)=w1 at *
 refine (HR.out _).mono ?_
 rintro e w2 ⟨rfl,k2⟩
 have HB2:=hid (k2.heap HB1.out (by simp))
 have HK2:=hid (HK1.out.trans k2)
 clear a0 a1 a2 a3 a4 a5 k2
 obtain ⟨a0,a1,a2,a3,a4,a5⟩:=aa HB2.out
 go_wp2_with fail
 refine (HB.out _).mono ?_
 rintro e w3 ⟨rfl,k2⟩
 have HB3:=hid (k2.heap HB2.out (by simp))
 have HK3:=hid (HK2.out.trans k2)
 clear a0 a1 a2 a3 a4 a5 k2
 obtain ⟨a0,a1,a2,a3,a4,a5⟩:=aa HB3.out
 go_wp2_with fail
 go_ret
 exact ⟨rfl,HK3.out⟩
theorem oW (r:Raw) (p:PV) (W:World) (s0:(r.k == 0)=false) (s1:(r.k == 1)=false) (s2:(r.k == 2)=false) (s9:(r.k == 9)=false) (s10:(r.k == 10)=false) (s3:(r.k == 3)=false) (s4:(r.k == 4)=false) (s5:(r.k == 5)=true) (HR:Hid (∀ w1:World,Calls Tryz.prog 63 #[.string r.t] w1 (fun e w9=>e=.returned (.tuple #[.slice none 0 0,.bool false])/\K0 w1 w9))) (HB:Hid (∀ w1:World,Calls Tryz.prog 74 #[rawV r p,.int .i64 4] w1 (BoolPost true w1)))  : Calls Tryz.prog 46 #[rawV r p] W (BoolPost false W):=by
 have hb1:(W.alloc (.cells (rwC r.k r.c r.neg p.A p.n p.cp r.t p.B p.m p.cap) 27)).heap[W.heap.size]? = some (.cells (rwC r.k r.c r.neg p.A p.n p.cp r.t p.B p.m p.cap) 27 (0,0)):=hN W _
 have HB1:=hid hb1
 have HK1:=hid (show K0 W (W.alloc (.cells (rwC r.k r.c r.neg p.A p.n p.cp r.t p.B p.m p.cap) 27)) from kR.alloc _)
 obtain ⟨a0,a1,a2,a3,a4,a5⟩:=aa hb1
 clear hb1
 go_enter Tryz.func46,Tryz.ntmps46
 go_wp2_with fail
 generalize W.alloc (.cells (rwC r.k r.c r.neg p.A p.n p.cp r.t p.B p.m p.cap) 27)=w1 at *
 refine (HR.out _).mono ?_
 rintro e w2 ⟨rfl,k2⟩
 have HB2:=hid (k2.heap HB1.out (by simp))
 have HK2:=hid (HK1.out.trans k2)
 clear a0 a1 a2 a3 a4 a5 k2
 obtain ⟨a0,a1,a2,a3,a4,a5⟩:=aa HB2.out
 go_wp2_with fail
 refine (HB.out _).mono ?_
 rintro e w3 ⟨rfl,k2⟩
 have HB3:=hid (k2.heap HB2.out (by simp))
 have HK3:=hid (HK2.out.trans k2)
 clear a0 a1 a2 a3 a4 a5 k2
 obtain ⟨a0,a1,a2,a3,a4,a5⟩:=aa HB3.out
 go_wp2_with fail
 go_ret
 exact ⟨rfl,HK3.out⟩
theorem oV (r:Raw) (p:PV) (W:World) (s0:(r.k == 0)=false) (s1:(r.k == 1)=false) (s2:(r.k == 2)=false) (s9:(r.k == 9)=false) (s10:(r.k == 10)=false) (s3:(r.k == 3)=false) (s4:(r.k == 4)=false) (s5:(r.k == 5)=true) (n:Nat) (HR:Hid (∀ w1:World,Calls Tryz.prog 63 #[.string r.t] w1 (fun e w9=>(∃ A c,e=.returned (.tuple #[.slice A n c,.bool true]))/\K0 w1 w9))) (HB:Hid (∀ w1:World,Calls Tryz.prog 74 #[rawV r p,.int .i64 4] w1 (BoolPost false w1)))  : Calls Tryz.prog 46 #[rawV r p] W (BoolPost false W):=by
 have hb1:(W.alloc (.cells (rwC r.k r.c r.neg p.A p.n p.cp r.t p.B p.m p.cap) 27)).heap[W.heap.size]? = some (.cells (rwC r.k r.c r.neg p.A p.n p.cp r.t p.B p.m p.cap) 27 (0,0)):=hN W _
 have HB1:=hid hb1
 have HK1:=hid (show K0 W (W.alloc (.cells (rwC r.k r.c r.neg p.A p.n p.cp r.t p.B p.m p.cap) 27)) from kR.alloc _)
 obtain ⟨a0,a1,a2,a3,a4,a5⟩:=aa hb1
 clear hb1
 go_enter Tryz.func46,Tryz.ntmps46
 go_wp2_with fail
 generalize W.alloc (.cells (rwC r.k r.c r.neg p.A p.n p.cp r.t p.B p.m p.cap) 27)=w1 at *
 refine (HR.out _).mono ?_
 rintro e w2 ⟨⟨A,c,rfl⟩,k2⟩
 have HB2:=hid (k2.heap HB1.out (by simp))
 have HK2:=hid (HK1.out.trans k2)
 clear a0 a1 a2 a3 a4 a5 k2
 obtain ⟨a0,a1,a2,a3,a4,a5⟩:=aa HB2.out
 go_wp2_with fail
 refine (HB.out _).mono ?_
 rintro e w3 ⟨rfl,k2⟩
 have HB3:=hid (k2.heap HB2.out (by simp))
 have HK3:=hid (HK2.out.trans k2)
 clear a0 a1 a2 a3 a4 a5 k2
 obtain ⟨a0,a1,a2,a3,a4,a5⟩:=aa HB3.out
 go_wp2_with fail
 go_ret
 exact ⟨rfl,HK3.out⟩
theorem nl (r:Raw) (p:PV) (W:World) (s0:(r.k == 0)=false) (s1:(r.k == 1)=false) (s2:(r.k == 2)=false) (s9:(r.k == 9)=false) (s10:(r.k == 10)=false) (s3:(r.k == 3)=false) (s4:(r.k == 4)=false) (s5:(r.k == 5)=true) (n:Nat) (HR:Hid (∀ w1:World,Calls Tryz.prog 63 #[.string r.t] w1 (fun e w9=>(∃ A c,e=.returned (.tuple #[.slice A n c,.bool true]))/\K0 w1 w9))) (HB:Hid (∀ w1:World,Calls Tryz.prog 74 #[rawV r p,.int .i64 4] w1 (BoolPost true w1))) (hL:decide ((n:Int)<=62)=false):Calls Tryz.prog 46 #[rawV r p] W (BoolPost false W):=by
 have hb1:(W.alloc (.cells (rwC r.k r.c r.neg p.A p.n p.cp r.t p.B p.m p.cap) 27)).heap[W.heap.size]? = some (.cells (rwC r.k r.c r.neg p.A p.n p.cp r.t p.B p.m p.cap) 27 (0,0)):=hN W _
 have HB1:=hid hb1
 have HK1:=hid (show K0 W (W.alloc (.cells (rwC r.k r.c r.neg p.A p.n p.cp r.t p.B p.m p.cap) 27)) from kR.alloc _)
 obtain ⟨a0,a1,a2,a3,a4,a5⟩:=aa hb1
 clear hb1
 go_enter Tryz.func46,Tryz.ntmps46
 go_wp2_with fail
 generalize W.alloc (.cells (rwC r.k r.c r.neg p.A p.n p.cp r.t p.B p.m p.cap) 27)=w1 at *
 refine (HR.out _).mono ?_
 rintro e w2 ⟨⟨A,c,rfl⟩,k2⟩
 have HB2:=hid (k2.heap HB1.out (by simp))
 have HK2:=hid (HK1.out.trans k2)
 clear a0 a1 a2 a3 a4 a5 k2
 obtain ⟨a0,a1,a2,a3,a4,a5⟩:=aa HB2.out
 go_wp2_with fail
 refine (HB.out _).mono ?_
 rintro e w3 ⟨rfl,k2⟩
 have HB3:=hid (k2.heap HB2.out (by simp))
 have HK3:=hid (HK2.out.trans k2)
 clear a0 a1 a2 a3 a4 a5 k2
 obtain ⟨a0,a1,a2,a3,a4,a5⟩:=aa HB3.out
 go_wp2_with fail
 go_ret
 exact ⟨rfl,HK3.out⟩
theorem nj (r:Raw) (p:PV) (W:World) (s0:(r.k == 0)=false) (s1:(r.k == 1)=false) (s2:(r.k == 2)=false) (s9:(r.k == 9)=false) (s10:(r.k == 10)=false) (s3:(r.k == 3)=false) (s4:(r.k == 4)=false) (s5:(r.k == 5)=true) (n:Nat) (HR:Hid (∀ w1:World,Calls Tryz.prog 63 #[.string r.t] w1 (fun e w9=>(∃ A c,e=.returned (.tuple #[.slice A n c,.bool true]))/\K0 w1 w9))) (HB:Hid (∀ w1:World,Calls Tryz.prog 74 #[rawV r p,.int .i64 4] w1 (BoolPost true w1))) (hL:(n:Int)<=62):Calls Tryz.prog 46 #[rawV r p] W (BoolPost true W):=by
 have hb1:(W.alloc (.cells (rwC r.k r.c r.neg p.A p.n p.cp r.t p.B p.m p.cap) 27)).heap[W.heap.size]? = some (.cells (rwC r.k r.c r.neg p.A p.n p.cp r.t p.B p.m p.cap) 27 (0,0)):=hN W _
 have HB1:=hid hb1
 have HK1:=hid (show K0 W (W.alloc (.cells (rwC r.k r.c r.neg p.A p.n p.cp r.t p.B p.m p.cap) 27)) from kR.alloc _)
 obtain ⟨a0,a1,a2,a3,a4,a5⟩:=aa hb1
 clear hb1
 go_enter Tryz.func46,Tryz.ntmps46
 go_wp2_with fail
 generalize W.alloc (.cells (rwC r.k r.c r.neg p.A p.n p.cp r.t p.B p.m p.cap) 27)=w1 at *
 refine (HR.out _).mono ?_
 rintro e w2 ⟨⟨A,c,rfl⟩,k2⟩
 have HB2:=hid (k2.heap HB1.out (by simp))
 have HK2:=hid (HK1.out.trans k2)
 clear a0 a1 a2 a3 a4 a5 k2
 obtain ⟨a0,a1,a2,a3,a4,a5⟩:=aa HB2.out
 go_wp2_with fail
 refine (HB.out _).mono ?_
 rintro e w3 ⟨rfl,k2⟩
 have HB3:=hid (k2.heap HB2.out (by simp))
 have HK3:=hid (HK2.out.trans k2)
 clear a0 a1 a2 a3 a4 a5 k2
 obtain ⟨a0,a1,a2,a3,a4,a5⟩:=aa HB3.out
 go_wp2_with fail
 go_ret
 exact ⟨rfl,HK3.out⟩
theorem oU (r:Raw) (p:PV) (W:World) (s0:(r.k == 0)=false) (s1:(r.k == 1)=false) (s2:(r.k == 2)=false) (s9:(r.k == 9)=false) (s10:(r.k == 10)=false) (s3:(r.k == 3)=false) (s4:(r.k == 4)=false) (s5:(r.k == 5)=false) (s6:(r.k == 6)=true) (HR:Hid (∀ w1:World,Calls Tryz.prog 63 #[.string r.t] w1 (fun e w9=>e=.returned (.tuple #[.slice none 0 0,.bool false])/\K0 w1 w9))) (HB:Hid (∀ w1:World,Calls Tryz.prog 74 #[rawV r p,.int .i64 4] w1 (BoolPost false w1)))  : Calls Tryz.prog 46 #[rawV r p] W (BoolPost false W):=by
 have hb1:(W.alloc (.cells (rwC r.k r.c r.neg p.A p.n p.cp r.t p.B p.m p.cap) 27)).heap[W.heap.size]? = some (.cells (rwC r.k r.c r.neg p.A p.n p.cp r.t p.B p.m p.cap) 27 (0,0)):=hN W _
 have HB1:=hid hb1
 have HK1:=hid (show K0 W (W.alloc (.cells (rwC r.k r.c r.neg p.A p.n p.cp r.t p.B p.m p.cap) 27)) from kR.alloc _)
 obtain ⟨a0,a1,a2,a3,a4,a5⟩:=aa hb1
 clear hb1
 go_enter Tryz.func46,Tryz.ntmps46
 go_wp2_with fail
 generalize W.alloc (.cells (rwC r.k r.c r.neg p.A p.n p.cp r.t p.B p.m p.cap) 27)=w1 at *
 refine (HR.out _).mono ?_
 rintro e w2 ⟨rfl,k2⟩
 have HB2:=hid (k2.heap HB1.out (by simp))
 have HK2:=hid (HK1.out.trans k2)
 clear a0 a1 a2 a3 a4 a5 k2
 obtain ⟨a0,a1,a2,a3,a4,a5⟩:=aa HB2.out
 go_wp2_with fail
 refine (HB.out _).mono ?_
 rintro e w3 ⟨rfl,k2⟩
 have HB3:=hid (k2.heap HB2.out (by simp))
 have HK3:=hid (HK2.out.trans k2)
 clear a0 a1 a2 a3 a4 a5 k2
 obtain ⟨a0,a1,a2,a3,a4,a5⟩:=aa HB3.out
 go_wp2_with fail
 go_ret
 exact ⟨rfl,HK3.out⟩
theorem oT (r:Raw) (p:PV) (W:World) (s0:(r.k == 0)=false) (s1:(r.k == 1)=false) (s2:(r.k == 2)=false) (s9:(r.k == 9)=false) (s10:(r.k == 10)=false) (s3:(r.k == 3)=false) (s4:(r.k == 4)=false) (s5:(r.k == 5)=false) (s6:(r.k == 6)=true) (HR:Hid (∀ w1:World,Calls Tryz.prog 63 #[.string r.t] w1 (fun e w9=>e=.returned (.tuple #[.slice none 0 0,.bool false])/\K0 w1 w9))) (HB:Hid (∀ w1:World,Calls Tryz.prog 74 #[rawV r p,.int .i64 4] w1 (BoolPost true w1)))  : Calls Tryz.prog 46 #[rawV r p] W (BoolPost false W):=by
 have hb1:(W.alloc (.cells (rwC r.k r.c r.neg p.A p.n p.cp r.t p.B p.m p.cap) 27)).heap[W.heap.size]? = some (.cells (rwC r.k r.c r.neg p.A p.n p.cp r.t p.B p.m p.cap) 27 (0,0)):=hN W _
 have HB1:=hid hb1
 have HK1:=hid (show K0 W (W.alloc (.cells (rwC r.k r.c r.neg p.A p.n p.cp r.t p.B p.m p.cap) 27)) from kR.alloc _)
 obtain ⟨a0,a1,a2,a3,a4,a5⟩:=aa hb1
 clear hb1
 go_enter Tryz.func46,Tryz.ntmps46
 go_wp2_with fail
 generalize W.alloc (.cells (rwC r.k r.c r.neg p.A p.n p.cp r.t p.B p.m p.cap) 27)=w1 at *
 refine (HR.out _).mono ?_
 rintro e w2 ⟨rfl,k2⟩
 have HB2:=hid (k2.heap HB1.out (by simp))
 have HK2:=hid (HK1.out.trans k2)
 clear a0 a1 a2 a3 a4 a5 k2
 obtain ⟨a0,a1,a2,a3,a4,a5⟩:=aa HB2.out
 go_wp2_with fail
 refine (HB.out _).mono ?_
 rintro e w3 ⟨rfl,k2⟩
 have HB3:=hid (k2.heap HB2.out (by simp))
 have HK3:=hid (HK2.out.trans k2)
 clear a0 a1 a2 a3 a4 a5 k2
 obtain ⟨a0,a1,a2,a3,a4,a5⟩:=aa HB3.out
 go_wp2_with fail
 go_ret
 exact ⟨rfl,HK3.out⟩
theorem oS (r:Raw) (p:PV) (W:World) (s0:(r.k == 0)=false) (s1:(r.k == 1)=false) (s2:(r.k == 2)=false) (s9:(r.k == 9)=false) (s10:(r.k == 10)=false) (s3:(r.k == 3)=false) (s4:(r.k == 4)=false) (s5:(r.k == 5)=false) (s6:(r.k == 6)=true) (n:Nat) (HR:Hid (∀ w1:World,Calls Tryz.prog 63 #[.string r.t] w1 (fun e w9=>(∃ A c,e=.returned (.tuple #[.slice A n c,.bool true]))/\K0 w1 w9))) (HB:Hid (∀ w1:World,Calls Tryz.prog 74 #[rawV r p,.int .i64 4] w1 (BoolPost false w1)))  : Calls Tryz.prog 46 #[rawV r p] W (BoolPost false W):=by
 have hb1:(W.alloc (.cells (rwC r.k r.c r.neg p.A p.n p.cp r.t p.B p.m p.cap) 27)).heap[W.heap.size]? = some (.cells (rwC r.k r.c r.neg p.A p.n p.cp r.t p.B p.m p.cap) 27 (0,0)):=hN W _
 have HB1:=hid hb1
 have HK1:=hid (show K0 W (W.alloc (.cells (rwC r.k r.c r.neg p.A p.n p.cp r.t p.B p.m p.cap) 27)) from kR.alloc _)
 obtain ⟨a0,a1,a2,a3,a4,a5⟩:=aa hb1
 clear hb1
 go_enter Tryz.func46,Tryz.ntmps46
 go_wp2_with fail
 generalize W.alloc (.cells (rwC r.k r.c r.neg p.A p.n p.cp r.t p.B p.m p.cap) 27)=w1 at *
 refine (HR.out _).mono ?_
 rintro e w2 ⟨⟨A,c,rfl⟩,k2⟩
 have HB2:=hid (k2.heap HB1.out (by simp))
 have HK2:=hid (HK1.out.trans k2)
 clear a0 a1 a2 a3 a4 a5 k2
 obtain ⟨a0,a1,a2,a3,a4,a5⟩:=aa HB2.out
 go_wp2_with fail
 refine (HB.out _).mono ?_
 rintro e w3 ⟨rfl,k2⟩
 have HB3:=hid (k2.heap HB2.out (by simp))
 have HK3:=hid (HK2.out.trans k2)
 clear a0 a1 a2 a3 a4 a5 k2
 obtain ⟨a0,a1,a2,a3,a4,a5⟩:=aa HB3.out
 go_wp2_with fail
 go_ret
 exact ⟨rfl,HK3.out⟩
theorem ni (r:Raw) (p:PV) (W:World) (s0:(r.k == 0)=false) (s1:(r.k == 1)=false) (s2:(r.k == 2)=false) (s9:(r.k == 9)=false) (s10:(r.k == 10)=false) (s3:(r.k == 3)=false) (s4:(r.k == 4)=false) (s5:(r.k == 5)=false) (s6:(r.k == 6)=true) (n:Nat) (HR:Hid (∀ w1:World,Calls Tryz.prog 63 #[.string r.t] w1 (fun e w9=>(∃ A c,e=.returned (.tuple #[.slice A n c,.bool true]))/\K0 w1 w9))) (HB:Hid (∀ w1:World,Calls Tryz.prog 74 #[rawV r p,.int .i64 4] w1 (BoolPost true w1))) (hL:decide ((n:Int)<=62)=false):Calls Tryz.prog 46 #[rawV r p] W (BoolPost false W):=by
 have hb1:(W.alloc (.cells (rwC r.k r.c r.neg p.A p.n p.cp r.t p.B p.m p.cap) 27)).heap[W.heap.size]? = some (.cells (rwC r.k r.c r.neg p.A p.n p.cp r.t p.B p.m p.cap) 27 (0,0)):=hN W _
 have HB1:=hid hb1
 have HK1:=hid (show K0 W (W.alloc (.cells (rwC r.k r.c r.neg p.A p.n p.cp r.t p.B p.m p.cap) 27)) from kR.alloc _)
 obtain ⟨a0,a1,a2,a3,a4,a5⟩:=aa hb1
 clear hb1
 go_enter Tryz.func46,Tryz.ntmps46
 go_wp2_with fail
 generalize W.alloc (.cells (rwC r.k r.c r.neg p.A p.n p.cp r.t p.B p.m p.cap) 27)=w1 at *
 refine (HR.out _).mono ?_
 rintro e w2 ⟨⟨A,c,rfl⟩,k2⟩
 have HB2:=hid (k2.heap HB1.out (by simp))
 have HK2:=hid (HK1.out.trans k2)
 clear a0 a1 a2 a3 a4 a5 k2
 obtain ⟨a0,a1,a2,a3,a4,a5⟩:=aa HB2.out
 go_wp2_with fail
 refine (HB.out _).mono ?_
 rintro e w3 ⟨rfl,k2⟩
 have HB3:=hid (k2.heap HB2.out (by simp))
 have HK3:=hid (HK2.out.trans k2)
 clear a0 a1 a2 a3 a4 a5 k2
 obtain ⟨a0,a1,a2,a3,a4,a5⟩:=aa HB3.out
 go_wp2_with fail
 go_ret
 exact ⟨rfl,HK3.out⟩
theorem nf (r:Raw) (p:PV) (W:World) (s0:(r.k == 0)=false) (s1:(r.k == 1)=false) (s2:(r.k == 2)=false) (s9:(r.k == 9)=false) (s10:(r.k == 10)=false) (s3:(r.k == 3)=false) (s4:(r.k == 4)=false) (s5:(r.k == 5)=false) (s6:(r.k == 6)=true) (n:Nat) (HR:Hid (∀ w1:World,Calls Tryz.prog 63 #[.string r.t] w1 (fun e w9=>(∃ A c,e=.returned (.tuple #[.slice A n c,.bool true]))/\K0 w1 w9))) (HB:Hid (∀ w1:World,Calls Tryz.prog 74 #[rawV r p,.int .i64 4] w1 (BoolPost true w1))) (hL:(n:Int)<=62) (h0:decide (0<n)=false):Calls Tryz.prog 46 #[rawV r p] W (BoolPost false W):=by
 have hb1:(W.alloc (.cells (rwC r.k r.c r.neg p.A p.n p.cp r.t p.B p.m p.cap) 27)).heap[W.heap.size]? = some (.cells (rwC r.k r.c r.neg p.A p.n p.cp r.t p.B p.m p.cap) 27 (0,0)):=hN W _
 have HB1:=hid hb1
 have HK1:=hid (show K0 W (W.alloc (.cells (rwC r.k r.c r.neg p.A p.n p.cp r.t p.B p.m p.cap) 27)) from kR.alloc _)
 obtain ⟨a0,a1,a2,a3,a4,a5⟩:=aa hb1
 clear hb1
 go_enter Tryz.func46,Tryz.ntmps46
 go_wp2_with fail
 generalize W.alloc (.cells (rwC r.k r.c r.neg p.A p.n p.cp r.t p.B p.m p.cap) 27)=w1 at *
 refine (HR.out _).mono ?_
 rintro e w2 ⟨⟨A,c,rfl⟩,k2⟩
 have HB2:=hid (k2.heap HB1.out (by simp))
 have HK2:=hid (HK1.out.trans k2)
 clear a0 a1 a2 a3 a4 a5 k2
 obtain ⟨a0,a1,a2,a3,a4,a5⟩:=aa HB2.out
 go_wp2_with fail
 refine (HB.out _).mono ?_
 rintro e w3 ⟨rfl,k2⟩
 have HB3:=hid (k2.heap HB2.out (by simp))
 have HK3:=hid (HK2.out.trans k2)
 clear a0 a1 a2 a3 a4 a5 k2
 obtain ⟨a0,a1,a2,a3,a4,a5⟩:=aa HB3.out
 go_wp2_with fail
 go_ret
 exact ⟨rfl,HK3.out⟩
theorem nh (r:Raw) (p:PV) (W:World) (s0:(r.k == 0)=false) (s1:(r.k == 1)=false) (s2:(r.k == 2)=false) (s9:(r.k == 9)=false) (s10:(r.k == 10)=false) (s3:(r.k == 3)=false) (s4:(r.k == 4)=false) (s5:(r.k == 5)=false) (s6:(r.k == 6)=true) (n:Nat) (HR:Hid (∀ w1:World,Calls Tryz.prog 63 #[.string r.t] w1 (fun e w9=>(∃ A c,e=.returned (.tuple #[.slice A n c,.bool true]))/\K0 w1 w9))) (HB:Hid (∀ w1:World,Calls Tryz.prog 74 #[rawV r p,.int .i64 4] w1 (BoolPost true w1))) (hL:(n:Int)<=62) (h0:decide (0<n)=true):Calls Tryz.prog 46 #[rawV r p] W (BoolPost true W):=by
 have hb1:(W.alloc (.cells (rwC r.k r.c r.neg p.A p.n p.cp r.t p.B p.m p.cap) 27)).heap[W.heap.size]? = some (.cells (rwC r.k r.c r.neg p.A p.n p.cp r.t p.B p.m p.cap) 27 (0,0)):=hN W _
 have HB1:=hid hb1
 have HK1:=hid (show K0 W (W.alloc (.cells (rwC r.k r.c r.neg p.A p.n p.cp r.t p.B p.m p.cap) 27)) from kR.alloc _)
 obtain ⟨a0,a1,a2,a3,a4,a5⟩:=aa hb1
 clear hb1
 go_enter Tryz.func46,Tryz.ntmps46
 go_wp2_with fail
 generalize W.alloc (.cells (rwC r.k r.c r.neg p.A p.n p.cp r.t p.B p.m p.cap) 27)=w1 at *
 refine (HR.out _).mono ?_
 rintro e w2 ⟨⟨A,c,rfl⟩,k2⟩
 have HB2:=hid (k2.heap HB1.out (by simp))
 have HK2:=hid (HK1.out.trans k2)
 clear a0 a1 a2 a3 a4 a5 k2
 obtain ⟨a0,a1,a2,a3,a4,a5⟩:=aa HB2.out
 go_wp2_with fail
 refine (HB.out _).mono ?_
 rintro e w3 ⟨rfl,k2⟩
 have HB3:=hid (k2.heap HB2.out (by simp))
 have HK3:=hid (HK2.out.trans k2)
 clear a0 a1 a2 a3 a4 a5 k2
 obtain ⟨a0,a1,a2,a3,a4,a5⟩:=aa HB3.out
 go_wp2_with fail
 go_ret
 exact ⟨rfl,HK3.out⟩
theorem rb (r:Raw) (p:PV) (W:World) (s0:(r.k == 0)=false) (s1:(r.k == 1)=false) (s2:(r.k == 2)=false) (s9:(r.k == 9)=false) (s10:(r.k == 10)=false) (s3:(r.k == 3)=false) (s4:(r.k == 4)=false) (s5:(r.k == 5)=false) (s6:(r.k == 6)=false) (s7:(r.k == 7)=true) (HB:Hid (∀ w1:World,Calls Tryz.prog 74 #[rawV r p,.int .i64 8] w1 (BoolPost false w1))):Calls Tryz.prog 46 #[rawV r p] W (BoolPost false W):=by
 have hb1:(W.alloc (.cells (rwC r.k r.c r.neg p.A p.n p.cp r.t p.B p.m p.cap) 27)).heap[W.heap.size]? = some (.cells (rwC r.k r.c r.neg p.A p.n p.cp r.t p.B p.m p.cap) 27 (0,0)):=hN W _
 have HB1:=hid hb1
 have HK1:=hid (show K0 W (W.alloc (.cells (rwC r.k r.c r.neg p.A p.n p.cp r.t p.B p.m p.cap) 27)) from kR.alloc _)
 obtain ⟨a0,a1,a2,a3,a4,a5⟩:=aa hb1
 clear hb1
 go_enter Tryz.func46,Tryz.ntmps46
 go_wp2_with fail
 generalize W.alloc (.cells (rwC r.k r.c r.neg p.A p.n p.cp r.t p.B p.m p.cap) 27)=w1 at *
 refine (HB.out _).mono ?_
 rintro e w2 ⟨rfl,k2⟩
 have HB2:=hid (k2.heap HB1.out (by simp))
 have HK2:=hid (HK1.out.trans k2)
 clear a0 a1 a2 a3 a4 a5 k2
 obtain ⟨a0,a1,a2,a3,a4,a5⟩:=aa HB2.out
 go_wp2_with fail
 go_ret
 exact ⟨rfl,HK2.out⟩
theorem q8 (r:Raw) (p:PV) (W:World) (s0:(r.k == 0)=false) (s1:(r.k == 1)=false) (s2:(r.k == 2)=false) (s9:(r.k == 9)=false) (s10:(r.k == 10)=false) (s3:(r.k == 3)=false) (s4:(r.k == 4)=false) (s5:(r.k == 5)=false) (s6:(r.k == 6)=false) (s7:(r.k == 7)=false) (s8:(r.k == 8)=true) (HB:Hid (∀ w1:World,Calls Tryz.prog 74 #[rawV r p,.int .i64 8] w1 (BoolPost false w1))):Calls Tryz.prog 46 #[rawV r p] W (BoolPost false W):=by
 have hb1:(W.alloc (.cells (rwC r.k r.c r.neg p.A p.n p.cp r.t p.B p.m p.cap) 27)).heap[W.heap.size]? = some (.cells (rwC r.k r.c r.neg p.A p.n p.cp r.t p.B p.m p.cap) 27 (0,0)):=hN W _
 have HB1:=hid hb1
 have HK1:=hid (show K0 W (W.alloc (.cells (rwC r.k r.c r.neg p.A p.n p.cp r.t p.B p.m p.cap) 27)) from kR.alloc _)
 obtain ⟨a0,a1,a2,a3,a4,a5⟩:=aa hb1
 clear hb1
 go_enter Tryz.func46,Tryz.ntmps46
 go_wp2_with fail
 generalize W.alloc (.cells (rwC r.k r.c r.neg p.A p.n p.cp r.t p.B p.m p.cap) 27)=w1 at *
 refine (HB.out _).mono ?_
 rintro e w2 ⟨rfl,k2⟩
 have HB2:=hid (k2.heap HB1.out (by simp))
 have HK2:=hid (HK1.out.trans k2)
 clear a0 a1 a2 a3 a4 a5 k2
 obtain ⟨a0,a1,a2,a3,a4,a5⟩:=aa HB2.out
 go_wp2_with fail
 go_ret
 exact ⟨rfl,HK2.out⟩
theorem q9 (r:Raw) (p:PV) (W:World) (s0:(r.k == 0)=false) (s1:(r.k == 1)=false) (s2:(r.k == 2)=false) (s9:(r.k == 9)=false) (s10:(r.k == 10)=false) (s3:(r.k == 3)=false) (s4:(r.k == 4)=false) (s5:(r.k == 5)=false) (s6:(r.k == 6)=false) (s7:(r.k == 7)=true) (HB:Hid (∀ w1:World,Calls Tryz.prog 74 #[rawV r p,.int .i64 8] w1 (BoolPost true w1))) (h2:((p.m:Int) != 2)=true):Calls Tryz.prog 46 #[rawV r p] W (BoolPost false W):=by
 have hb1:(W.alloc (.cells (rwC r.k r.c r.neg p.A p.n p.cp r.t p.B p.m p.cap) 27)).heap[W.heap.size]? = some (.cells (rwC r.k r.c r.neg p.A p.n p.cp r.t p.B p.m p.cap) 27 (0,0)):=hN W _
 have HB1:=hid hb1
 have HK1:=hid (show K0 W (W.alloc (.cells (rwC r.k r.c r.neg p.A p.n p.cp r.t p.B p.m p.cap) 27)) from kR.alloc _)
 obtain ⟨a0,a1,a2,a3,a4,a5⟩:=aa hb1
 clear hb1
 go_enter Tryz.func46,Tryz.ntmps46
 go_wp2_with fail
 generalize W.alloc (.cells (rwC r.k r.c r.neg p.A p.n p.cp r.t p.B p.m p.cap) 27)=w1 at *
 refine (HB.out _).mono ?_
 rintro e w2 ⟨rfl,k2⟩
 have HB2:=hid (k2.heap HB1.out (by simp))
 have HK2:=hid (HK1.out.trans k2)
 clear a0 a1 a2 a3 a4 a5 k2
 obtain ⟨a0,a1,a2,a3,a4,a5⟩:=aa HB2.out
 go_wp2_with fail
 go_ret
 exact ⟨rfl,HK2.out⟩
theorem q6 (r:Raw) (p:PV) (W:World) (s0:(r.k == 0)=false) (s1:(r.k == 1)=false) (s2:(r.k == 2)=false) (s9:(r.k == 9)=false) (s10:(r.k == 10)=false) (s3:(r.k == 3)=false) (s4:(r.k == 4)=false) (s5:(r.k == 5)=false) (s6:(r.k == 6)=false) (s7:(r.k == 7)=false) (s8:(r.k == 8)=true) (HB:Hid (∀ w1:World,Calls Tryz.prog 74 #[rawV r p,.int .i64 8] w1 (BoolPost true w1))) (h2:(62:Int)<(p.m:Int)):Calls Tryz.prog 46 #[rawV r p] W (BoolPost false W):=by
 have hb1:(W.alloc (.cells (rwC r.k r.c r.neg p.A p.n p.cp r.t p.B p.m p.cap) 27)).heap[W.heap.size]? = some (.cells (rwC r.k r.c r.neg p.A p.n p.cp r.t p.B p.m p.cap) 27 (0,0)):=hN W _
 have HB1:=hid hb1
 have HK1:=hid (show K0 W (W.alloc (.cells (rwC r.k r.c r.neg p.A p.n p.cp r.t p.B p.m p.cap) 27)) from kR.alloc _)
 obtain ⟨a0,a1,a2,a3,a4,a5⟩:=aa hb1
 clear hb1
 go_enter Tryz.func46,Tryz.ntmps46
 go_wp2_with fail
 generalize W.alloc (.cells (rwC r.k r.c r.neg p.A p.n p.cp r.t p.B p.m p.cap) 27)=w1 at *
 refine (HB.out _).mono ?_
 rintro e w2 ⟨rfl,k2⟩
 have HB2:=hid (k2.heap HB1.out (by simp))
 have HK2:=hid (HK1.out.trans k2)
 clear a0 a1 a2 a3 a4 a5 k2
 obtain ⟨a0,a1,a2,a3,a4,a5⟩:=aa HB2.out
 go_wp2_with fail
 go_ret
 exact ⟨rfl,HK2.out⟩
theorem vM (r:Raw) (p:PV) (W:World) (s0:(r.k == 0)=false) (s1:(r.k == 1)=false) (s2:(r.k == 2)=false) (s9:(r.k == 9)=false) (s10:(r.k == 10)=false) (s3:(r.k == 3)=false) (s4:(r.k == 4)=false) (s5:(r.k == 5)=false) (s6:(r.k == 6)=false) (s7:(r.k == 7)=false) (s8:(r.k == 8)=false)  : Calls Tryz.prog 46 #[rawV r p] W (BoolPost false W):=by
 have hb1:(W.alloc (.cells (rwC r.k r.c r.neg p.A p.n p.cp r.t p.B p.m p.cap) 27)).heap[W.heap.size]? = some (.cells (rwC r.k r.c r.neg p.A p.n p.cp r.t p.B p.m p.cap) 27 (0,0)):=hN W _
 have HB1:=hid hb1
 have HK1:=hid (show K0 W (W.alloc (.cells (rwC r.k r.c r.neg p.A p.n p.cp r.t p.B p.m p.cap) 27)) from kR.alloc _)
 obtain ⟨a0,a1,a2,a3,a4,a5⟩:=aa hb1
 clear hb1
 go_enter Tryz.func46,Tryz.ntmps46
 go_wp2_with fail
 generalize W.alloc (.cells (rwC r.k r.c r.neg p.A p.n p.cp r.t p.B p.m p.cap) 27)=w1 at *
 go_ret
 exact ⟨rfl,HK1.out⟩
structure rX (W:World) (r:Raw) (p:PV) (i B1:Nat) (wr:World):Prop where
 K:K0 W wr
 h1:wr.heap[B1]? = some (.cells (rwC r.k r.c r.neg p.A p.n p.cp r.t p.B p.m p.cap) 27 (0,0))
 le:i<=r.l.length
 upto:∀ j (h:j<r.l.length),j<i->aS r.l[j]=true
theorem ra {Q:Nat->Prop} (r:Raw) (p:PV) (W:World) (s0:(r.k == 0)=false) (s1:(r.k == 1)=false) (s2:(r.k == 2)=false) (s9:(r.k == 9)=false) (s10:(r.k == 10)=false) (s3:(r.k == 3)=false) (s4:(r.k == 4)=false) (s5:(r.k == 5)=false) (s6:(r.k == 6)=false) (s7:(r.k == 7)=true) (HB:Hid (∀ w1:World,Calls Tryz.prog 74 #[rawV r p,.int .i64 8] w1 (BoolPost true w1))) (h2:((p.m:Int) != 2)=false) (hL62:p.m<=62) (w:World) (hW:K0 w W) (vs:Nat->PV) (HROW:Hid (0<p.m->∃ b off,p.B=some ⟨b,off,.none⟩/\Q b /\ ∀ i (h:i<r.l.length),cV w b off i r.l[i] (vs i))) (HL:Hid (r.l.length=p.m))
 (IH:Hid (∀ i (h:i<r.l.length) (w':World),K0 w w'->Calls Tryz.prog 46 #[rawV r.l[i] (vs i)] w' (BoolPost (aS r.l[i]) w'))):Calls Tryz.prog 46 #[rawV r p] W (BoolPost (bG r.l) W):=by
 have hb1:(W.alloc (.cells (rwC r.k r.c r.neg p.A p.n p.cp r.t p.B p.m p.cap) 27)).heap[W.heap.size]? = some (.cells (rwC r.k r.c r.neg p.A p.n p.cp r.t p.B p.m p.cap) 27 (0,0)):=hN W _
 have HB1:=hid hb1
 have HK1:=hid (show K0 W (W.alloc (.cells (rwC r.k r.c r.neg p.A p.n p.cp r.t p.B p.m p.cap) 27)) from kR.alloc _)
 obtain ⟨a0,a1,a2,a3,a4,a5⟩:=aa hb1
 clear hb1
 go_enter Tryz.func46,Tryz.ntmps46
 go_wp2_with fail
 generalize W.alloc (.cells (rwC r.k r.c r.neg p.A p.n p.cp r.t p.B p.m p.cap) 27)=w1 at *
 have h3:decide ((62:Int)<(p.m:Int))=false:=dF (by omega)
 refine (HB.out _).mono ?_
 rintro e w2 ⟨rfl,k2⟩
 have HB2:=hid (k2.heap HB1.out (by simp))
 have HK2:=hid (HK1.out.trans k2)
 clear a0 a1 a2 a3 a4 a5 k2
 obtain ⟨a0,a1,a2,a3,a4,a5⟩:=aa HB2.out
 go_wp2_with fail
 have HW:=hid hW
 have HST:=hid (show rX W r p 0 W.heap.size w2 from ⟨HK2.out,HB2.out,Nat.zero_le _,fun j _ h=>absurd h (Nat.not_lt_zero _)⟩)
 clear hW a0 a1 a2 a3 a4 a5
 generalize hB1:W.heap.size=B1 at *
 go_loopw [5] (fun iv wr=>∃ i:Nat,iv=.int .i64 (i:Int)/\rX W r p i B1 wr) (fun iv _=>p.m - (intOf iv).toNat)
 case atStart=>exact ⟨0,rfl,HST.out⟩
 case round=>
  obtain ⟨i,rfl,hst⟩:=hrel
  have hx1:=hst.h1
  have HS2:=hid hst
  clear hst
  obtain ⟨a0,a1,a2,a3,a4,a5⟩:=aa hx1
  clear hx1 a0 a1 a2 a3 a4
  by_cases hlt:i<p.m
  ·have hi1:i<r.l.length:=by rw [HL.out];exact hlt
   obtain ⟨g,o,eB,_,hrw⟩:=HROW.out (by omega)
   have hic:=(hrw i hi1).keep (HW.out.trans HS2.out.K) id
   have HC1:=hid (fun (w':World) (K:K0 wr w')=>IH.out i hi1 w' ((HW.out.trans HS2.out.K).trans K))
   have HNO:=hid (fun (h:aS r.l[i]=false)=>fR hi1 h)
   have HNX:=hid (fun (h:aS r.l[i]=true) (w':World) (K:K0 wr w')=>(show rX W r p (i+1) B1 w' from ⟨HS2.out.K.trans K,K.heap HS2.out.h1 id,hi1,fun j h1 h3=>by
    by_cases e:j=i
    ·subst e;exact h
    ·exact HS2.out.upto j h1 (by omega)⟩))
   obtain ⟨x,hx⟩:∃ x,x=r.l[i]:=⟨_,rfl⟩
   rw [<- hx] at HC1 HNO HNX
   obtain ⟨r0,r1,r2,r3,r4,r5⟩:=hic.cells
   rw [<- hx] at r0 r1 r2 r4
   obtain ⟨v,hv⟩:∃ v,v=vs i:=⟨_,rfl⟩
   rw [<- hv] at HC1 r3 r5
   rw [eB] at a5
   clear eB hv hic hx hrw
   have l1:decide ((i:Int)<(p.m:Int))=true:=dT (by omega)
   have l2:decide (i<p.m)=true:=dT hlt
   have hi0:(0:Int)<=(i:Int):=Int.natCast_nonneg _
   have j1:(i:Int)<(p.m:Int):=by omega
   go_wp2_with fail
   obtain ⟨b,hb⟩:∃ b,b=aS x:=⟨_,rfl⟩
   rw [<- hb] at HC1 HNO HNX
   clear hb
   refine (HC1.out _ kR).mono ?_
   rintro e w5 ⟨rfl,k5⟩
   clear r0 r1 r2 r3 r4 r5 a5
   cases b with
   | true=>
    have HN3:=hid (HNX.out rfl _ k5)
    clear k5
    go_wp2_with fail
    go_roundw
    case rel=>exact ⟨i+1,by go_num,HN3.out⟩
    case measure=>simp only [intOf];omega
   | false=>
    have HK5:=hid (HS2.out.K.trans k5)
    have HF:=hid (HNO.out rfl)
    clear k5
    go_wp2_with fail
    go_ret
    exact ⟨(show Ending.returned (.bool false)=Ending.returned (.bool (bG r.l)) by rw [HF.out]),HK5.out⟩
  ·have l1:decide ((i:Int)<(p.m:Int))=false:=dF (by omega)
   have l2:decide (i<p.m)=false:=dF hlt
   have HT:=hid (show bG r.l=true from fi.2 (fun j hj=>HS2.out.upto j hj (by rw [HL.out] at hj;omega)))
   go_wp2_with fail
   go_ret
   exact ⟨(show Ending.returned (.bool true)=Ending.returned (.bool (bG r.l)) by rw [HT.out]),HS2.out.K⟩
theorem q7 {Q:Nat->Prop} (r:Raw) (p:PV) (W:World) (s0:(r.k == 0)=false) (s1:(r.k == 1)=false) (s2:(r.k == 2)=false) (s9:(r.k == 9)=false) (s10:(r.k == 10)=false) (s3:(r.k == 3)=false) (s4:(r.k == 4)=false) (s5:(r.k == 5)=false) (s6:(r.k == 6)=false) (s7:(r.k == 7)=false) (s8:(r.k == 8)=true) (HB:Hid (∀ w1:World,Calls Tryz.prog 74 #[rawV r p,.int .i64 8] w1 (BoolPost true w1))) (h2:decide ((62:Int)<(p.m:Int))=false) (hL62:p.m<=62) (w:World) (hW:K0 w W) (vs:Nat->PV) (HROW:Hid (0<p.m->∃ b off,p.B=some ⟨b,off,.none⟩/\Q b /\ ∀ i (h:i<r.l.length),cV w b off i r.l[i] (vs i))) (HL:Hid (r.l.length=p.m))
 (IH:Hid (∀ i (h:i<r.l.length) (w':World),K0 w w'->Calls Tryz.prog 46 #[rawV r.l[i] (vs i)] w' (BoolPost (aS r.l[i]) w'))):Calls Tryz.prog 46 #[rawV r p] W (BoolPost (bG r.l) W):=by
 have hb1:(W.alloc (.cells (rwC r.k r.c r.neg p.A p.n p.cp r.t p.B p.m p.cap) 27)).heap[W.heap.size]? = some (.cells (rwC r.k r.c r.neg p.A p.n p.cp r.t p.B p.m p.cap) 27 (0,0)):=hN W _
 have HB1:=hid hb1
 have HK1:=hid (show K0 W (W.alloc (.cells (rwC r.k r.c r.neg p.A p.n p.cp r.t p.B p.m p.cap) 27)) from kR.alloc _)
 obtain ⟨a0,a1,a2,a3,a4,a5⟩:=aa hb1
 clear hb1
 go_enter Tryz.func46,Tryz.ntmps46
 go_wp2_with fail
 generalize W.alloc (.cells (rwC r.k r.c r.neg p.A p.n p.cp r.t p.B p.m p.cap) 27)=w1 at *
 refine (HB.out _).mono ?_
 rintro e w2 ⟨rfl,k2⟩
 have HB2:=hid (k2.heap HB1.out (by simp))
 have HK2:=hid (HK1.out.trans k2)
 clear a0 a1 a2 a3 a4 a5 k2
 obtain ⟨a0,a1,a2,a3,a4,a5⟩:=aa HB2.out
 go_wp2_with fail
 have HW:=hid hW
 have HST:=hid (show rX W r p 0 W.heap.size w2 from ⟨HK2.out,HB2.out,Nat.zero_le _,fun j _ h=>absurd h (Nat.not_lt_zero _)⟩)
 clear hW a0 a1 a2 a3 a4 a5
 generalize hB1:W.heap.size=B1 at *
 go_loopw [5] (fun iv wr=>∃ i:Nat,iv=.int .i64 (i:Int)/\rX W r p i B1 wr) (fun iv _=>p.m - (intOf iv).toNat)
 case atStart=>exact ⟨0,rfl,HST.out⟩
 case round=>
  obtain ⟨i,rfl,hst⟩:=hrel
  have hx1:=hst.h1
  have HS2:=hid hst
  clear hst
  obtain ⟨a0,a1,a2,a3,a4,a5⟩:=aa hx1
  clear hx1 a0 a1 a2 a3 a4
  by_cases hlt:i<p.m
  ·have hi1:i<r.l.length:=by rw [HL.out];exact hlt
   obtain ⟨g,o,eB,_,hrw⟩:=HROW.out (by omega)
   have hic:=(hrw i hi1).keep (HW.out.trans HS2.out.K) id
   have HC1:=hid (fun (w':World) (K:K0 wr w')=>IH.out i hi1 w' ((HW.out.trans HS2.out.K).trans K))
   have HNO:=hid (fun (h:aS r.l[i]=false)=>fR hi1 h)
   have HNX:=hid (fun (h:aS r.l[i]=true) (w':World) (K:K0 wr w')=>(show rX W r p (i+1) B1 w' from ⟨HS2.out.K.trans K,K.heap HS2.out.h1 id,hi1,fun j h1 h3=>by
    by_cases e:j=i
    ·subst e;exact h
    ·exact HS2.out.upto j h1 (by omega)⟩))
   obtain ⟨x,hx⟩:∃ x,x=r.l[i]:=⟨_,rfl⟩
   rw [<- hx] at HC1 HNO HNX
   obtain ⟨r0,r1,r2,r3,r4,r5⟩:=hic.cells
   rw [<- hx] at r0 r1 r2 r4
   obtain ⟨v,hv⟩:∃ v,v=vs i:=⟨_,rfl⟩
   rw [<- hv] at HC1 r3 r5
   rw [eB] at a5
   clear eB hv hic hx hrw
   have l1:decide ((i:Int)<(p.m:Int))=true:=dT (by omega)
   have l2:decide (i<p.m)=true:=dT hlt
   have hi0:(0:Int)<=(i:Int):=Int.natCast_nonneg _
   have j1:(i:Int)<(p.m:Int):=by omega
   go_wp2_with fail
   obtain ⟨b,hb⟩:∃ b,b=aS x:=⟨_,rfl⟩
   rw [<- hb] at HC1 HNO HNX
   clear hb
   refine (HC1.out _ kR).mono ?_
   rintro e w5 ⟨rfl,k5⟩
   clear r0 r1 r2 r3 r4 r5 a5
   cases b with
   | true=>
    have HN3:=hid (HNX.out rfl _ k5)
    clear k5
    go_wp2_with fail
    go_roundw
    case rel=>exact ⟨i+1,by go_num,HN3.out⟩
    case measure=>simp only [intOf];omega
   | false=>
    have HK5:=hid (HS2.out.K.trans k5)
    have HF:=hid (HNO.out rfl)
    clear k5
    go_wp2_with fail
    go_ret
    exact ⟨(show Ending.returned (.bool false)=Ending.returned (.bool (bG r.l)) by rw [HF.out]),HK5.out⟩
  ·have l1:decide ((i:Int)<(p.m:Int))=false:=dF (by omega)
   have l2:decide (i<p.m)=false:=dF hlt
   have HT:=hid (show bG r.l=true from fi.2 (fun j hj=>HS2.out.upto j hj (by rw [HL.out] at hj;omega)))
   go_wp2_with fail
   go_ret
   exact ⟨(show Ending.returned (.bool true)=Ending.returned (.bool (bG r.l)) by rw [HT.out]),HS2.out.K⟩
theorem q5 {N P:Nat->Prop} {w:World} {r:Raw} {p:PV} (h:ay N P w r p):dX r->∀ (W:World),K0 w W->Calls Tryz.prog 46 #[rawV r p] W (BoolPost (aS r) W):=by
 induction h with
 | @mk r p num nP len mcap big vs row ch ih=>
  intro hS W hW
  obtain ⟨ht,hmag,hit⟩:=hS
  have hn:=num.len
  have nk:∀ {j:Int},¬ r.k=j->(r.k == j)=false:=fun h=>bF.2 h
  have yk:∀ {j:Int},r.k=j->(r.k == j)=true:=fun h=>beq_iff_eq.2 h
  rw [dH]
  by_cases n0:r.k=0
  ·rw [if_pos (by simp [n0])]
   exact tQ r p W (yk n0) _ (hid (fun w1=>fK r p w1 hn len))
  by_cases n1:r.k=1
  ·rw [if_pos (by simp [n1])]
   exact tN r p W (nk n0) (yk n1) _ (hid (fun w1=>fK r p w1 hn len))
  by_cases n2:r.k=2
  ·rw [if_pos (by simp [n2])]
   exact tM r p W (nk n0) (nk n1) (yk n2) _ (hid (fun w1=>fK r p w1 hn len))
  by_cases n9:r.k=9
  ·rw [if_pos (by simp [n9])]
   exact tL r p W (nk n0) (nk n1) (nk n2) (yk n9) _ (hid (fun w1=>fK r p w1 hn len))
  by_cases n10:r.k=10
  ·rw [if_pos (by simp [n10])]
   exact rd r p W (nk n0) (nk n1) (nk n2) (nk n9) (yk n10) _ (hid (fun w1=>fK r p w1 hn len))
  rw [if_neg (by simp [n0,n1,n2,n9,n10])]
  by_cases n3:r.k=3
  ·rw [if_pos n3]
   have HB:=hid (fun w1=>rW r p w1 hn len)
   cases hb:ar true false false false r with
   | false=>
    rw [hb] at HB
    exact tK r p W (nk n0) (nk n1) (nk n2) (nk n9) (nk n10) (yk n3) HB
   | true=>
    rw [hb] at HB
    rw [Bool.true_and]
    exact tJ r p W (nk n0) (nk n1) (nk n2) (nk n9) (nk n10) (yk n3) _ HB (hid (fun w1=>oI r.c w1))
  rw [if_neg n3]
  by_cases n4:r.k=4
  ·rw [if_pos n4]
   have HB:=hid (fun w1=>rV r p w1 hn len)
   cases hb:ar false true false false r with
   | false=>
    rw [hb] at HB
    exact tI r p W (nk n0) (nk n1) (nk n2) (nk n9) (nk n10) (nk n3) (yk n4) HB
   | true=>
    rw [hb] at HB
    rw [Bool.true_and]
    exact tH r p W (nk n0) (nk n1) (nk n2) (nk n9) (nk n10) (nk n3) (yk n4) _ HB (hid (fun w1 K=>tf r.neg p.A p.n p.cp r.mag w1 ((num.keep0 hW).keep0 K) (by omega)))
  rw [if_neg n4]
  by_cases n5:r.k=5
  ·rw [if_pos n5]
   have HB:=hid (fun w1=>lE r p w1 hn len)
   cases hb:ar false false true false r with
   | false=>
    rw [hb] at HB
    have HR:=hid (fun w1=>bU r.t w1 ht)
    unfold aE at HR
    cases hr:au r.t.data.toList with
    | none=>
     rw [hr] at HR
     exact oX r p W (nk n0) (nk n1) (nk n2) (nk n9) (nk n10) (nk n3) (nk n4) (yk n5) HR HB
    | some rr=>
     rw [hr] at HR
     have HS:=hid (fun w1=>(HR.out w1).mono (fun e w9 h=>(show (∃ A c,e=.returned (.tuple #[.slice A rr.length c,.bool true]))/\K0 w1 w9 from by obtain ⟨A,c,he,_,hk⟩:=h;exact ⟨⟨A,c,he⟩,hk⟩)))
     exact oV r p W (nk n0) (nk n1) (nk n2) (nk n9) (nk n10) (nk n3) (nk n4) (yk n5) rr.length HS HB
   | true=>
    rw [hb] at HB
    have HR:=hid (fun w1=>bU r.t w1 ht)
    unfold aE at HR
    cases hr:au r.t.data.toList with
    | none=>
     rw [hr] at HR
     exact oW r p W (nk n0) (nk n1) (nk n2) (nk n9) (nk n10) (nk n3) (nk n4) (yk n5) HR HB
    | some rr=>
     rw [hr] at HR
     have HS:=hid (fun w1=>(HR.out w1).mono (fun e w9 h=>(show (∃ A c,e=.returned (.tuple #[.slice A rr.length c,.bool true]))/\K0 w1 w9 from by obtain ⟨A,c,he,_,hk⟩:=h;exact ⟨⟨A,c,he⟩,hk⟩)))
     unfold fv
     rw [Bool.true_and]
     simp only
     by_cases h62:rr.length<=62
     ·rw [dT h62,Bool.true_and]
      exact nj r p W (nk n0) (nk n1) (nk n2) (nk n9) (nk n10) (nk n3) (nk n4) (yk n5) rr.length HS HB (by omega)
     ·rw [dF h62,Bool.false_and]
      exact nl r p W (nk n0) (nk n1) (nk n2) (nk n9) (nk n10) (nk n3) (nk n4) (yk n5) rr.length HS HB (dF (by omega))
  rw [if_neg n5]
  by_cases n6:r.k=6
  ·rw [if_pos n6]
   have HB:=hid (fun w1=>lE r p w1 hn len)
   cases hb:ar false false true false r with
   | false=>
    rw [hb] at HB
    have HR:=hid (fun w1=>bU r.t w1 ht)
    unfold aE at HR
    cases hr:au r.t.data.toList with
    | none=>
     rw [hr] at HR
     exact oU r p W (nk n0) (nk n1) (nk n2) (nk n9) (nk n10) (nk n3) (nk n4) (nk n5) (yk n6) HR HB
    | some rr=>
     rw [hr] at HR
     have HS:=hid (fun w1=>(HR.out w1).mono (fun e w9 h=>(show (∃ A c,e=.returned (.tuple #[.slice A rr.length c,.bool true]))/\K0 w1 w9 from by obtain ⟨A,c,he,_,hk⟩:=h;exact ⟨⟨A,c,he⟩,hk⟩)))
     exact oS r p W (nk n0) (nk n1) (nk n2) (nk n9) (nk n10) (nk n3) (nk n4) (nk n5) (yk n6) rr.length HS HB
   | true=>
    rw [hb] at HB
    have HR:=hid (fun w1=>bU r.t w1 ht)
    unfold aE at HR
    cases hr:au r.t.data.toList with
    | none=>
     rw [hr] at HR
     exact oT r p W (nk n0) (nk n1) (nk n2) (nk n9) (nk n10) (nk n3) (nk n4) (nk n5) (yk n6) HR HB
    | some rr=>
     rw [hr] at HR
     have HS:=hid (fun w1=>(HR.out w1).mono (fun e w9 h=>(show (∃ A c,e=.returned (.tuple #[.slice A rr.length c,.bool true]))/\K0 w1 w9 from by obtain ⟨A,c,he,_,hk⟩:=h;exact ⟨⟨A,c,he⟩,hk⟩)))
     unfold fv
     rw [Bool.true_and]
     simp only
     by_cases h62:rr.length<=62
     ·rw [dT h62,Bool.true_and]
      by_cases h0:0<rr.length
      ·rw [dT h0]
       exact nh r p W (nk n0) (nk n1) (nk n2) (nk n9) (nk n10) (nk n3) (nk n4) (nk n5) (yk n6) rr.length HS HB (by omega) (dT h0)
      ·rw [dF h0]
       exact nf r p W (nk n0) (nk n1) (nk n2) (nk n9) (nk n10) (nk n3) (nk n4) (nk n5) (yk n6) rr.length HS HB (by omega) (dF h0)
     ·rw [dF h62,Bool.false_and]
      exact ni r p W (nk n0) (nk n1) (nk n2) (nk n9) (nk n10) (nk n3) (nk n4) (nk n5) (yk n6) rr.length HS HB (dF (by omega))
  rw [if_neg n6]
  by_cases n7:r.k=7
  ·rw [if_pos n7]
   have HB:=hid (fun w1=>lD r p w1 hn len)
   cases hb:ar false false false true r with
   | false=>
    rw [hb] at HB
    exact rb r p W (nk n0) (nk n1) (nk n2) (nk n9) (nk n10) (nk n3) (nk n4) (nk n5) (nk n6) (yk n7) HB
   | true=>
    rw [hb] at HB
    rw [Bool.true_and]
    by_cases h2:r.l.length=2
    ·rw [dT h2,Bool.true_and]
     exact ra (Q:=P) r p W (nk n0) (nk n1) (nk n2) (nk n9) (nk n10) (nk n3) (nk n4) (nk n5) (nk n6) (yk n7) HB (by simp;omega) (by omega) _ hW vs (hid row) (hid len) (hid (fun i hi w9 K=>ih i hi (hit i hi) w9 K))
    ·rw [dF h2,Bool.false_and]
     exact q9 r p W (nk n0) (nk n1) (nk n2) (nk n9) (nk n10) (nk n3) (nk n4) (nk n5) (nk n6) (yk n7) HB (by simp;omega)
  rw [if_neg n7]
  by_cases n8:r.k=8
  ·rw [if_pos n8]
   have HB:=hid (fun w1=>lD r p w1 hn len)
   cases hb:ar false false false true r with
   | false=>
    rw [hb] at HB
    exact q8 r p W (nk n0) (nk n1) (nk n2) (nk n9) (nk n10) (nk n3) (nk n4) (nk n5) (nk n6) (nk n7) (yk n8) HB
   | true=>
    rw [hb] at HB
    rw [Bool.true_and]
    by_cases h2:r.l.length<=62
    ·rw [dT h2,Bool.true_and]
     exact q7 (Q:=P) r p W (nk n0) (nk n1) (nk n2) (nk n9) (nk n10) (nk n3) (nk n4) (nk n5) (nk n6) (nk n7) (yk n8) HB (dF (by omega)) (by omega) _ hW vs (hid row) (hid len) (hid (fun i hi w9 K=>ih i hi (hit i hi) w9 K))
    ·rw [dF h2,Bool.false_and]
     exact q6 r p W (nk n0) (nk n1) (nk n2) (nk n9) (nk n10) (nk n3) (nk n4) (nk n5) (nk n6) (nk n7) (yk n8) HB (by omega)
  rw [if_neg n8]
  exact vM r p W (nk n0) (nk n1) (nk n2) (nk n9) (nk n10) (nk n3) (nk n4) (nk n5) (nk n6) (nk n7) (nk n8)
end Go.Proofs.YtonnikipeokkaaaGreatDoor

namespace Go.Proofs.YtonnikipeokkaaaGreatDoor
set_option maxRecDepth 100000
set_option maxHeartbeats 4000000
open Go.Lib (hid)
open Go.RowKit Go.Lib
def fd (f:Nat->Nat):Nat->Nat
 | 0=>0
 | n+1=>max (fd f n) (f n)
theorem j4 (f:Nat->Nat):∀ n,fd f (n+1)=max (f 0) (fd (fun i=>f (i+1)) n)
 | 0=>by simp [fd]
 | n+1=>by
  rw [fd,j4 f n,fd]
  omega
theorem lh (f:Nat->Nat) {i:Nat}:∀ {n},i<=n->fd f i<=fd f n
 | 0,h=>by
  obtain rfl:i=0:=by omega
  exact Nat.le_refl _
 | n+1,h=>by
  rcases Nat.lt_or_ge i (n+1) with h1 | h1
  ·exact Nat.le_trans (lh f (by omega:i<=n)) (by rw [fd];omega)
  ·obtain rfl:i=n+1:=by omega
   exact Nat.le_refl _
theorem ne {f g:Nat->Nat}:∀ n,(∀ i,i<n->f i=g i)->fd f n=fd g n
 | 0,_=>rfl
 | n+1,h=>by rw [fd,fd,ne n (fun i hi=>h i (by omega)),h n (by omega)]
def dQ (k:Int) (l:List Raw) (i:Nat):Nat:=
 match l[i]? with
 | some x=>if k=7/\i+1=l.length/\x.k=7 then aO x else aO x+1
 | none=>0
theorem ky (k:Int):∀ l:List Raw,fT k l=fd (dQ k l) l.length
 | []=>by rw [fT];rfl
 | x :: l=>by
  rw [fT,ky k l,List.length_cons,j4,ne (f:=fun i=>dQ k (x :: l) (i+1)) (g:=dQ k l)]
  ·congr 1
   unfold dQ
   simp only [List.getElem?_cons_zero,List.length_cons]
   have e:(l=[]) ↔ 0+1=l.length+1:=⟨fun h=>by rw [h];rfl,fun h=>List.eq_nil_of_length_eq_zero (by omega)⟩
   simp only [e]
  ·intro i _
   unfold dQ
   simp only [List.getElem?_cons_succ,List.length_cons,Nat.add_right_cancel_iff]
theorem iH (r:Raw):aO r=max (if r.k=8 then 1 else 0) (fd (dQ r.k r.l) r.l.length):=by
 cases r with
 | mk k c neg mag t l=>rw [aO,ky];rfl
theorem eR {r:Raw} {i:Nat} (hi:i<r.l.length):fd (dQ r.k r.l) i<=aO r/\dQ r.k r.l i<=aO r:=by
 have h:=lh (dQ r.k r.l) (i:=i+1) (n:=r.l.length) hi
 rw [fd] at h
 rw [iH]
 omega
theorem ik {r:Raw} {i:Nat} (hi:i<r.l.length):dQ r.k r.l i=if r.k=7/\i+1=r.l.length/\r.l[i].k=7 then aO r.l[i] else aO r.l[i]+1:=by
 unfold dQ
 rw [gE hi]
theorem kw {r:Raw} {i:Nat} (hi:i<r.l.length):aO r.l[i]<=aO r:=by
 have h:=(eR hi).2
 rw [ik hi] at h
 split at h<;>omega
structure xZ (W:World) (r:Raw) (p:PV) (i d B1:Nat) (wr:World):Prop where
 K:K0 W wr
 h1:wr.heap[B1]? = some (.cells (rwC r.k r.c r.neg p.A p.n p.cp r.t p.B p.m p.cap) 27 (0,0))
 le:i<=r.l.length
 d:d=fd (dQ r.k r.l) i
theorem v7 {P:Nat->Prop} (r:Raw) (p:PV) (W:World) (w:World) (hW:K0 w W)
 (hm:p.m<=9223372036854775807) (hD:aO r<=4000000000000000000) (vs:Nat->PV) (HROW:Hid (0<p.m->∃ b off,p.B=some ⟨b,off,.none⟩/\P b /\ ∀ i (h:i<r.l.length),cV w b off i r.l[i] (vs i))) (HL:Hid (r.l.length=p.m))
 (IH:Hid (∀ i (h:i<r.l.length) (w':World),K0 w w'->Calls Tryz.prog 33 #[rawV r.l[i] (vs i)] w' (fun e w9=>e=.returned (.int .i64 (aO r.l[i]:Int))/\K0 w' w9))):Calls Tryz.prog 33 #[rawV r p] W (fun e w9=>e=.returned (.int .i64 (aO r:Int))/\K0 W w9):=by
 have hb1:(W.alloc (.cells (rwC r.k r.c r.neg p.A p.n p.cp r.t p.B p.m p.cap) 27)).heap[W.heap.size]? = some (.cells (rwC r.k r.c r.neg p.A p.n p.cp r.t p.B p.m p.cap) 27 (0,0)):=hN W _
 have HST:=hid (show xZ W r p 0 0 W.heap.size (W.alloc (.cells (rwC r.k r.c r.neg p.A p.n p.cp r.t p.B p.m p.cap) 27)) from ⟨kR.alloc _,hb1,Nat.zero_le _,rfl⟩)
 have HW:=hid hW
 have HDD:=hid hD
 clear hW hb1 hD
 go_enter Tryz.func33,Tryz.ntmps33
 go_wp2_with fail
 generalize W.alloc (.cells (rwC r.k r.c r.neg p.A p.n p.cp r.t p.B p.m p.cap) 27)=w1 at *
 generalize hB1:W.heap.size=B1 at *
 go_loopw [3,4,5] (fun nv iv _ wr=>∃ (d i:Nat),nv=.int .i64 (d:Int)/\iv=.int .i64 (i:Int)/\xZ W r p i d B1 wr) (fun _ iv _ _=>p.m - (intOf iv).toNat)
 case atStart=>exact ⟨0,0,rfl,rfl,HST.out⟩
 case round=>
  obtain ⟨d,i,rfl,rfl,hst⟩:=hrel
  have hx1:=hst.h1
  have HS2:=hid hst
  have hbig:=hm
  clear hst
  obtain ⟨a0,a1,a2,a3,a4,a5⟩:=aa hx1
  clear hx1 a1 a2 a3 a4
  by_cases hlt:i<p.m
  ·have hi1:i<r.l.length:=by rw [HL.out];exact hlt
   obtain ⟨g,o,eB,_,hrw⟩:=HROW.out (by omega)
   have hic:=(hrw i hi1).keep (HW.out.trans HS2.out.K) id
   have HC1:=hid (fun (w':World) (K:K0 wr w')=>IH.out i hi1 w' ((HW.out.trans HS2.out.K).trans K))
   have HNX:=hid (fun (w':World) (K:K0 wr w')=>(show xZ W r p (i+1) (max d (dQ r.k r.l i)) B1 w' from ⟨HS2.out.K.trans K,K.heap HS2.out.h1 id,hi1,by rw [fd,<- HS2.out.d]⟩))
   have hde:=(eR hi1).1
   rw [<- HS2.out.d] at hde
   have hst:=ik hi1
   have hsl:=(eR hi1).2
   have hD:=HDD.out
   obtain ⟨y,hy⟩:∃ y,y=dQ r.k r.l i:=⟨_,rfl⟩
   obtain ⟨x,hx⟩:∃ x,x=r.l[i]:=⟨_,rfl⟩
   rw [<- hy] at HNX hst hsl
   rw [<- hx] at HC1 hst
   rw [HL.out] at hst
   obtain ⟨r0,r1,r2,r3,r4,r5⟩:=hic.cells
   rw [<- hx] at r0 r1 r2 r4
   obtain ⟨v,hv⟩:∃ v,v=vs i:=⟨_,rfl⟩
   rw [<- hv] at HC1 r3 r5
   obtain ⟨z,hz⟩:∃ z,z=aO x:=⟨_,rfl⟩
   rw [<- hz] at HC1 hst
   have a5k:=a5
   rw [eB] at a5
   have HQ:=hid (fun (w':World) (K:K0 wr w')=>(show w'.cell? ⟨B1,0,none⟩=some (.int .i64 r.k)/\w'.cell? ⟨B1,5,none⟩=some (.slice (some ⟨g,o,none⟩) p.m p.cap)/\w'.cell? ⟨g,o+i * 6,none⟩=some (.int .i64 x.k) from ⟨(K.cell (bL wr _ a0) id).trans a0,(K.cell (bL wr _ a5) id).trans a5,(K.cell (bL wr _ r0) id).trans r0⟩))
   clear eB a5k hv hic hx hrw hy hz
   have l1:decide ((i:Int)<(p.m:Int))=true:=dT (by omega)
   have l2:decide (i<p.m)=true:=dT hlt
   have hi0:(0:Int)<=(i:Int):=Int.natCast_nonneg _
   have j1:(i:Int)<(p.m:Int):=by omega
   go_wp2_with fail
   refine (HC1.out _ kR).mono ?_
   rintro e w5 ⟨rfl,k5⟩
   clear r0 r1 r2 r3 r4 r5 a0 a5
   obtain ⟨a0,a5,r0⟩:=HQ.out _ k5
   have HN3:=hid (HNX.out _ k5)
   clear k5
   by_cases h7:r.k=7
   ·have s1:(r.k == 7)=true:=beq_iff_eq.2 h7
    by_cases hla:i+1=p.m
    ·have s2:((i:Int) == (p.m:Int) - 1)=true:=beq_iff_eq.2 (by omega)
     by_cases hx7:x.k=7
     ·have s3:(x.k == 7)=true:=beq_iff_eq.2 hx7
      rw [if_pos ⟨h7,hla,hx7⟩] at hst
      subst hst
      clear h7 hx7 hla
      go_wp2_with fail
      go_roundw
      case rel=>exact ⟨_,i+1,by go_num,by go_num,HN3.out⟩
      case measure=>simp only [intOf];omega
     ·have s3:(x.k == 7)=false:=bF.2 hx7
      rw [if_neg (fun h=>hx7 h.2.2)] at hst
      subst hst
      clear h7 hx7 hla
      go_wp2_with fail
      go_roundw
      case rel=>exact ⟨_,i+1,by go_num,by go_num,HN3.out⟩
      case measure=>simp only [intOf];omega
    ·have s2:((i:Int) == (p.m:Int) - 1)=false:=bF.2 (by omega)
     rw [if_neg (fun h=>hla h.2.1)] at hst
     subst hst
     clear h7 hla
     go_wp2_with fail
     go_roundw
     case rel=>exact ⟨_,i+1,by go_num,by go_num,HN3.out⟩
     case measure=>simp only [intOf];omega
   ·have s1:(r.k == 7)=false:=bF.2 h7
    rw [if_neg (fun h=>h7 h.1)] at hst
    subst hst
    go_wp2_with fail
    go_roundw
    case rel=>exact ⟨_,i+1,by go_num,by go_num,HN3.out⟩
    case measure=>simp only [intOf];omega
  ·have l1:decide ((i:Int)<(p.m:Int))=false:=dF (by omega)
   have l2:decide (i<p.m)=false:=dF hlt
   have hd:=HS2.out.d
   have hle:=HS2.out.le
   rw [HL.out] at hle
   have hi:i=r.l.length:=by rw [HL.out];omega
   rw [hi] at hd
   have hdep:=iH r
   rw [<- hd] at hdep
   clear hi
   by_cases h8:r.k=8
   ·have s1:(r.k == 8)=true:=beq_iff_eq.2 h8
    rw [if_pos h8] at hdep
    have HDP:=hid hdep
    clear hdep hd h8
    go_wp2_with fail
    go_ret
    exact ⟨by rw [HDP.out,Nat.max_comm];go_num,HS2.out.K⟩
   ·have s1:(r.k == 8)=false:=bF.2 h8
    rw [if_neg h8,Nat.max_eq_right (Nat.zero_le _)] at hdep
    have HDP:=hid hdep
    clear hdep hd
    go_wp2_with fail
    go_ret
    exact ⟨by rw [HDP.out];rfl,HS2.out.K⟩
theorem rJ {N P:Nat->Prop} {w:World} {r:Raw} {p:PV} (h:ay N P w r p):aO r<=4000000000000000000->∀ (W:World),K0 w W->Calls Tryz.prog 33 #[rawV r p] W (fun e w9=>e=.returned (.int .i64 (aO r:Int))/\K0 W w9):=by
 induction h with
 | @mk r p num nP len mcap big vs row ch ih=>
  intro hD W hW
  exact v7 (P:=P) r p W _ hW (by omega) hD vs (hid row) (hid len) (hid (fun i hi w' K=>ih i hi (Nat.le_trans (kw hi) hD) w' K))
end Go.Proofs.YtonnikipeokkaaaGreatDoor

namespace Go.Proofs.YtonnikipeokkaaaGreatDoor
set_option maxRecDepth 100000
set_option maxHeartbeats 4000000
open Go.Lib (hid)
open Go.RowKit Go.Lib
def eF (r:Raw):Bool:=aS r && decide (aO r<=64)
theorem qC {N P:Nat->Prop} {w:World} {r:Raw} {p:PV} (h:ay N P w r p) (hS:dX r) (hD:aO r<=4000000000000000000):Calls Tryz.prog 22 #[rawV r p] w (BoolPost (eF r) w):=by
 have HP:=hid (fun (W:World) (K:K0 w W)=>q5 h hS W K)
 have HD:=hid (fun (W:World) (K:K0 w W)=>rJ h hD W K)
 have hmay:eF r=(aS r && decide (aO r<=64)):=rfl
 obtain ⟨m,hm⟩:∃ m,m=eF r:=⟨_,rfl⟩
 rw [<- hm] at hmay ⊢
 clear hm
 generalize aS r=b at HP hmay
 generalize aO r=d at HD hmay
 have HM:=hid hmay
 have hb1:(w.alloc (.cells (rwC r.k r.c r.neg p.A p.n p.cp r.t p.B p.m p.cap) 27)).heap[w.heap.size]? = some (.cells (rwC r.k r.c r.neg p.A p.n p.cp r.t p.B p.m p.cap) 27 (0,0)):=hN w _
 have HB1:=hid hb1
 have HK1:=hid (show K0 w (w.alloc (.cells (rwC r.k r.c r.neg p.A p.n p.cp r.t p.B p.m p.cap) 27)) from kR.alloc _)
 obtain ⟨a0,a1,a2,a3,a4,a5⟩:=aa hb1
 clear hb1 h hS hD hmay
 go_enter Tryz.func22,Tryz.ntmps22
 go_wp2_with fail
 generalize w.alloc (.cells (rwC r.k r.c r.neg p.A p.n p.cp r.t p.B p.m p.cap) 27)=w1 at *
 refine (HP.out _ HK1.out).mono ?_
 rintro e w2 ⟨rfl,k2⟩
 have HB2:=hid (k2.heap HB1.out (by simp))
 have HK2:=hid (HK1.out.trans k2)
 clear a0 a1 a2 a3 a4 a5 k2
 obtain ⟨a0,a1,a2,a3,a4,a5⟩:=aa HB2.out
 cases b with
 | false=>
  go_wp2_with fail
  go_ret
  exact ⟨by rw [HM.out];rfl,HK2.out⟩
 | true=>
  go_wp2_with fail
  refine (HD.out _ HK2.out).mono ?_
  rintro e w3 ⟨rfl,k3⟩
  have HK3:=hid (HK2.out.trans k3)
  clear a0 a1 a2 a3 a4 a5 k3
  go_wp2_with fail
  go_ret
  exact ⟨by rw [HM.out,Bool.true_and];go_num,HK3.out⟩
end Go.Proofs.YtonnikipeokkaaaGreatDoor
