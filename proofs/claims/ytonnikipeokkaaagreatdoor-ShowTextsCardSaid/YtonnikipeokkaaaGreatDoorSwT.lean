/-
  The program's plain: walks in cases, join. (Printed by gen_s
  The program's plain, of any datum.
  A datum's weight. (Printed by gen_sweigh.py.)
  The program's Depth and May. (Printed by gen_sdep.py.)
-/
import Derived.Test.YtonnikipeokkaaaGreatDoorSwP
namespace Go.Proofs.YtonnikipeokkaaaGreatDoor
set_option maxRecDepth 100000
set_option maxHeartbeats 8000000
open Go.Lib (hid)
open Go.RowKit Go.Lib
theorem oN (r:Raw) (p:PV) (W:World) (h:r.k<0):Calls Tryz.prog 105 #[rawV r p] W (BoolPost false W):=by
 have hb1:(W.alloc (.cells (rwC r.k r.c r.neg p.A p.n p.cp r.t p.B p.m p.cap) 27)).heap[W.heap.size]? = some (.cells (rwC r.k r.c r.neg p.A p.n p.cp r.t p.B p.m p.cap) 27 (0,0)):=hN W _
 have HB1:=hid hb1
 have HK1:=hid (show K0 W (W.alloc (.cells (rwC r.k r.c r.neg p.A p.n p.cp r.t p.B p.m p.cap) 27)) from kR.alloc _)
 obtain ⟨a0,a1,a2,a3,a4,a5⟩:=aa hb1
 clear hb1
 go_enter Tryz.func105,Tryz.ntmps105
 go_wp2_with fail
 generalize W.alloc (.cells (rwC r.k r.c r.neg p.A p.n p.cp r.t p.B p.m p.cap) 27)=w1 at *
 generalize W.heap.size=B1 at *
 go_quiet (fail)
 go_wp2_with fail
 go_ret
 exact ⟨rfl,HK1.out.drewN _⟩
theorem oQ (r:Raw) (p:PV) (W:World) (h:decide (r.k<0)=false) (h2:10<r.k):Calls Tryz.prog 105 #[rawV r p] W (BoolPost false W):=by
 have hb1:(W.alloc (.cells (rwC r.k r.c r.neg p.A p.n p.cp r.t p.B p.m p.cap) 27)).heap[W.heap.size]? = some (.cells (rwC r.k r.c r.neg p.A p.n p.cp r.t p.B p.m p.cap) 27 (0,0)):=hN W _
 have HB1:=hid hb1
 have HK1:=hid (show K0 W (W.alloc (.cells (rwC r.k r.c r.neg p.A p.n p.cp r.t p.B p.m p.cap) 27)) from kR.alloc _)
 obtain ⟨a0,a1,a2,a3,a4,a5⟩:=aa hb1
 clear hb1
 go_enter Tryz.func105,Tryz.ntmps105
 go_wp2_with fail
 generalize W.alloc (.cells (rwC r.k r.c r.neg p.A p.n p.cp r.t p.B p.m p.cap) 27)=w1 at *
 generalize W.heap.size=B1 at *
 go_quiet (fail)
 go_wp2_with fail
 go_ret
 exact ⟨rfl,HK1.out.drewN _⟩
theorem d9 (r:Raw) (p:PV) (W:World) (h:decide (r.k<0)=false) (h2:decide (10<r.k)=false) (c:Int) (neg:Bool) (A:Option Addr) (n cp:Nat) (t:ByteArray) (B:Option Addr) (m cap:Nat) (b:Bool) (HO:Hid (∀ w:World,Calls Tryz.prog 133 #[rawV r p] w (gv c neg A n cp t B m cap r.k w))) (HF:Hid (∀ w:World,K0 W w->Calls Tryz.prog 132 #[rawV r p,.agg (rwC r.k c neg A n cp t B m cap)] w (BoolPost b w))) (hb:Hid (b=false)):Calls Tryz.prog 105 #[rawV r p] W (BoolPost false W):=by
 have hb1:(W.alloc (.cells (rwC r.k r.c r.neg p.A p.n p.cp r.t p.B p.m p.cap) 27)).heap[W.heap.size]? = some (.cells (rwC r.k r.c r.neg p.A p.n p.cp r.t p.B p.m p.cap) 27 (0,0)):=hN W _
 have HB1:=hid hb1
 have HK1:=hid (show K0 W (W.alloc (.cells (rwC r.k r.c r.neg p.A p.n p.cp r.t p.B p.m p.cap) 27)) from kR.alloc _)
 obtain ⟨a0,a1,a2,a3,a4,a5⟩:=aa hb1
 clear hb1
 go_enter Tryz.func105,Tryz.ntmps105
 go_wp2_with fail
 generalize W.alloc (.cells (rwC r.k r.c r.neg p.A p.n p.cp r.t p.B p.m p.cap) 27)=w1 at *
 generalize W.heap.size=B1 at *
 rw [hb.out] at HF
 have HCL:=hid (fun (w':World) (K:K0 w1 w')=>(show (w'.cell? ⟨B1,0,none⟩=some (.int .i64 r.k)/\w'.cell? ⟨B1,1,none⟩=some (.int .i32 r.c)/\w'.cell? ⟨B1,2,none⟩=some (.bool r.neg)/\w'.cell? ⟨B1,3,none⟩=some (.slice p.A p.n p.cp)/\w'.cell? ⟨B1,4,none⟩=some (.string r.t)/\w'.cell? ⟨B1,5,none⟩=some (.slice p.B p.m p.cap))/\K0 w1 w' from by
  obtain ⟨e0,e1,e2,e3,e4,e5⟩:=aa (K.heap HB1.out id)
  exact ⟨⟨e0,e1,e2,e3,e4,e5⟩,K⟩))
 have Kd:K0 w1 w1.drew:=kR.drew
 clear a0 a1 a2 a3 a4 a5
 go_region_held3 (fun w'=>(w'.cell? ⟨B1,0,none⟩=some (.int .i64 r.k)/\w'.cell? ⟨B1,1,none⟩=some (.int .i32 r.c)/\w'.cell? ⟨B1,2,none⟩=some (.bool r.neg)/\w'.cell? ⟨B1,3,none⟩=some (.slice p.A p.n p.cp)/\w'.cell? ⟨B1,4,none⟩=some (.string r.t)/\w'.cell? ⟨B1,5,none⟩=some (.slice p.B p.m p.cap))/\K0 w1 w')
  (first | exact HCL.out _ Kd | exact HCL.out _ (by assumption))
  (first
   | (go_at_call 133;go_split_ands;(with_reducible refine (HO.out _).mono ?_);rintro e w5 ⟨rfl,k5⟩;have K5:=ah.trans (by assumption) k5)
   | (go_at_call 132;go_split_ands;(with_reducible refine (HF.out _ (HK1.out.trans (by assumption))).mono ?_);rintro e w6 ⟨rfl,k6⟩;have K6:=ah.trans (by assumption) k6))
 have HK6:=hid (HK1.out.trans K6)
 obtain ⟨a0,a1,a2,a3,a4,a5⟩:=aa (K6.heap HB1.out id)
 clear K5 K6 Kd
 try dsimp only
 go_wp2_with fail
 go_ret
 exact ⟨rfl,HK6.out⟩
theorem tE (r:Raw) (p:PV) (W:World) (h:decide (r.k<0)=false) (h2:decide (10<r.k)=false) (s3:(r.k == 3)=false) (s4:(r.k == 4)=false) (s6:(r.k == 6)=false) (s5:(r.k == 5)=false) (s7:(r.k == 7)=false) (s8:(r.k == 8)=false) (c:Int) (neg:Bool) (A:Option Addr) (n cp:Nat) (t:ByteArray) (B:Option Addr) (m cap:Nat) (b:Bool) (HO:Hid (∀ w:World,Calls Tryz.prog 133 #[rawV r p] w (gv c neg A n cp t B m cap r.k w))) (HF:Hid (∀ w:World,K0 W w->Calls Tryz.prog 132 #[rawV r p,.agg (rwC r.k c neg A n cp t B m cap)] w (BoolPost b w))) (hb:Hid (b=true))  : Calls Tryz.prog 105 #[rawV r p] W (BoolPost true W):=by
 have hb1:(W.alloc (.cells (rwC r.k r.c r.neg p.A p.n p.cp r.t p.B p.m p.cap) 27)).heap[W.heap.size]? = some (.cells (rwC r.k r.c r.neg p.A p.n p.cp r.t p.B p.m p.cap) 27 (0,0)):=hN W _
 have HB1:=hid hb1
 have HK1:=hid (show K0 W (W.alloc (.cells (rwC r.k r.c r.neg p.A p.n p.cp r.t p.B p.m p.cap) 27)) from kR.alloc _)
 obtain ⟨a0,a1,a2,a3,a4,a5⟩:=aa hb1
 clear hb1
 go_enter Tryz.func105,Tryz.ntmps105
 go_wp2_with fail
 generalize W.alloc (.cells (rwC r.k r.c r.neg p.A p.n p.cp r.t p.B p.m p.cap) 27)=w1 at *
 generalize W.heap.size=B1 at *
 rw [hb.out] at HF
 have HCL:=hid (fun (w':World) (K:K0 w1 w')=>(show (w'.cell? ⟨B1,0,none⟩=some (.int .i64 r.k)/\w'.cell? ⟨B1,1,none⟩=some (.int .i32 r.c)/\w'.cell? ⟨B1,2,none⟩=some (.bool r.neg)/\w'.cell? ⟨B1,3,none⟩=some (.slice p.A p.n p.cp)/\w'.cell? ⟨B1,4,none⟩=some (.string r.t)/\w'.cell? ⟨B1,5,none⟩=some (.slice p.B p.m p.cap))/\K0 w1 w' from by
  obtain ⟨e0,e1,e2,e3,e4,e5⟩:=aa (K.heap HB1.out id)
  exact ⟨⟨e0,e1,e2,e3,e4,e5⟩,K⟩))
 have Kd:K0 w1 w1.drew:=kR.drew
 clear a0 a1 a2 a3 a4 a5
 go_region_held3 (fun w'=>(w'.cell? ⟨B1,0,none⟩=some (.int .i64 r.k)/\w'.cell? ⟨B1,1,none⟩=some (.int .i32 r.c)/\w'.cell? ⟨B1,2,none⟩=some (.bool r.neg)/\w'.cell? ⟨B1,3,none⟩=some (.slice p.A p.n p.cp)/\w'.cell? ⟨B1,4,none⟩=some (.string r.t)/\w'.cell? ⟨B1,5,none⟩=some (.slice p.B p.m p.cap))/\K0 w1 w')
  (first | exact HCL.out _ Kd | exact HCL.out _ (by assumption))
  (first
   | (go_at_call 133;go_split_ands;(with_reducible refine (HO.out _).mono ?_);rintro e w5 ⟨rfl,k5⟩;have K5:=ah.trans (by assumption) k5)
   | (go_at_call 132;go_split_ands;(with_reducible refine (HF.out _ (HK1.out.trans (by assumption))).mono ?_);rintro e w6 ⟨rfl,k6⟩;have K6:=ah.trans (by assumption) k6))
 have HK6:=hid (HK1.out.trans K6)
 obtain ⟨a0,a1,a2,a3,a4,a5⟩:=aa (K6.heap HB1.out id)
 clear K5 K6 Kd
 try dsimp only
 go_wp2_with fail
 go_ret
 exact ⟨rfl,HK6.out⟩
theorem qZ (r:Raw) (p:PV) (W:World) (h:decide (r.k<0)=false) (h2:decide (10<r.k)=false) (s3:(r.k == 3)=true) (c:Int) (neg:Bool) (A:Option Addr) (n cp:Nat) (t:ByteArray) (B:Option Addr) (m cap:Nat) (b:Bool) (HO:Hid (∀ w:World,Calls Tryz.prog 133 #[rawV r p] w (gv c neg A n cp t B m cap r.k w))) (HF:Hid (∀ w:World,K0 W w->Calls Tryz.prog 132 #[rawV r p,.agg (rwC r.k c neg A n cp t B m cap)] w (BoolPost b w))) (hb:Hid (b=true)) (v:Bool) (HC:Hid (∀ w:World,K0 W w->Calls Tryz.prog 134 #[.int .i32 r.c] w (BoolPost v w))):Calls Tryz.prog 105 #[rawV r p] W (BoolPost v W):=by
 have hb1:(W.alloc (.cells (rwC r.k r.c r.neg p.A p.n p.cp r.t p.B p.m p.cap) 27)).heap[W.heap.size]? = some (.cells (rwC r.k r.c r.neg p.A p.n p.cp r.t p.B p.m p.cap) 27 (0,0)):=hN W _
 have HB1:=hid hb1
 have HK1:=hid (show K0 W (W.alloc (.cells (rwC r.k r.c r.neg p.A p.n p.cp r.t p.B p.m p.cap) 27)) from kR.alloc _)
 obtain ⟨a0,a1,a2,a3,a4,a5⟩:=aa hb1
 clear hb1
 go_enter Tryz.func105,Tryz.ntmps105
 go_wp2_with fail
 generalize W.alloc (.cells (rwC r.k r.c r.neg p.A p.n p.cp r.t p.B p.m p.cap) 27)=w1 at *
 generalize W.heap.size=B1 at *
 rw [hb.out] at HF
 have HCL:=hid (fun (w':World) (K:K0 w1 w')=>(show (w'.cell? ⟨B1,0,none⟩=some (.int .i64 r.k)/\w'.cell? ⟨B1,1,none⟩=some (.int .i32 r.c)/\w'.cell? ⟨B1,2,none⟩=some (.bool r.neg)/\w'.cell? ⟨B1,3,none⟩=some (.slice p.A p.n p.cp)/\w'.cell? ⟨B1,4,none⟩=some (.string r.t)/\w'.cell? ⟨B1,5,none⟩=some (.slice p.B p.m p.cap))/\K0 w1 w' from by
  obtain ⟨e0,e1,e2,e3,e4,e5⟩:=aa (K.heap HB1.out id)
  exact ⟨⟨e0,e1,e2,e3,e4,e5⟩,K⟩))
 have Kd:K0 w1 w1.drew:=kR.drew
 clear a0 a1 a2 a3 a4 a5
 go_region_held3 (fun w'=>(w'.cell? ⟨B1,0,none⟩=some (.int .i64 r.k)/\w'.cell? ⟨B1,1,none⟩=some (.int .i32 r.c)/\w'.cell? ⟨B1,2,none⟩=some (.bool r.neg)/\w'.cell? ⟨B1,3,none⟩=some (.slice p.A p.n p.cp)/\w'.cell? ⟨B1,4,none⟩=some (.string r.t)/\w'.cell? ⟨B1,5,none⟩=some (.slice p.B p.m p.cap))/\K0 w1 w')
  (first | exact HCL.out _ Kd | exact HCL.out _ (by assumption))
  (first
   | (go_at_call 133;go_split_ands;(with_reducible refine (HO.out _).mono ?_);rintro e w5 ⟨rfl,k5⟩;have K5:=ah.trans (by assumption) k5)
   | (go_at_call 132;go_split_ands;(with_reducible refine (HF.out _ (HK1.out.trans (by assumption))).mono ?_);rintro e w6 ⟨rfl,k6⟩;have K6:=ah.trans (by assumption) k6))
 have HK6:=hid (HK1.out.trans K6)
 obtain ⟨a0,a1,a2,a3,a4,a5⟩:=aa (K6.heap HB1.out id)
 clear K5 K6 Kd
 try dsimp only
 go_wp2_with fail
 refine (HC.out _ HK6.out).mono ?_
 rintro e w7 ⟨rfl,k7⟩
 have HK7:=hid (HK6.out.trans k7)
 clear k7
 try dsimp only
 go_wp2_with fail
 go_ret
 exact ⟨rfl,HK7.out⟩
theorem qY (r:Raw) (p:PV) (W:World) (h:decide (r.k<0)=false) (h2:decide (10<r.k)=false) (s3:(r.k == 3)=false) (s4:(r.k == 4)=true) (c:Int) (neg:Bool) (A:Option Addr) (n cp:Nat) (t:ByteArray) (B:Option Addr) (m cap:Nat) (b:Bool) (HO:Hid (∀ w:World,Calls Tryz.prog 133 #[rawV r p] w (gv c neg A n cp t B m cap r.k w))) (HF:Hid (∀ w:World,K0 W w->Calls Tryz.prog 132 #[rawV r p,.agg (rwC r.k c neg A n cp t B m cap)] w (BoolPost b w))) (hb:Hid (b=true)) (v:Bool) (HC:Hid (∀ w:World,K0 W w->Calls Tryz.prog 135 #[al r.neg p.A p.n p.cp] w (BoolPost v w))):Calls Tryz.prog 105 #[rawV r p] W (BoolPost v W):=by
 have hb1:(W.alloc (.cells (rwC r.k r.c r.neg p.A p.n p.cp r.t p.B p.m p.cap) 27)).heap[W.heap.size]? = some (.cells (rwC r.k r.c r.neg p.A p.n p.cp r.t p.B p.m p.cap) 27 (0,0)):=hN W _
 have HB1:=hid hb1
 have HK1:=hid (show K0 W (W.alloc (.cells (rwC r.k r.c r.neg p.A p.n p.cp r.t p.B p.m p.cap) 27)) from kR.alloc _)
 obtain ⟨a0,a1,a2,a3,a4,a5⟩:=aa hb1
 clear hb1
 go_enter Tryz.func105,Tryz.ntmps105
 go_wp2_with fail
 generalize W.alloc (.cells (rwC r.k r.c r.neg p.A p.n p.cp r.t p.B p.m p.cap) 27)=w1 at *
 generalize W.heap.size=B1 at *
 rw [hb.out] at HF
 have HCL:=hid (fun (w':World) (K:K0 w1 w')=>(show (w'.cell? ⟨B1,0,none⟩=some (.int .i64 r.k)/\w'.cell? ⟨B1,1,none⟩=some (.int .i32 r.c)/\w'.cell? ⟨B1,2,none⟩=some (.bool r.neg)/\w'.cell? ⟨B1,3,none⟩=some (.slice p.A p.n p.cp)/\w'.cell? ⟨B1,4,none⟩=some (.string r.t)/\w'.cell? ⟨B1,5,none⟩=some (.slice p.B p.m p.cap))/\K0 w1 w' from by
  obtain ⟨e0,e1,e2,e3,e4,e5⟩:=aa (K.heap HB1.out id)
  exact ⟨⟨e0,e1,e2,e3,e4,e5⟩,K⟩))
 have Kd:K0 w1 w1.drew:=kR.drew
 clear a0 a1 a2 a3 a4 a5
 go_region_held3 (fun w'=>(w'.cell? ⟨B1,0,none⟩=some (.int .i64 r.k)/\w'.cell? ⟨B1,1,none⟩=some (.int .i32 r.c)/\w'.cell? ⟨B1,2,none⟩=some (.bool r.neg)/\w'.cell? ⟨B1,3,none⟩=some (.slice p.A p.n p.cp)/\w'.cell? ⟨B1,4,none⟩=some (.string r.t)/\w'.cell? ⟨B1,5,none⟩=some (.slice p.B p.m p.cap))/\K0 w1 w')
  (first | exact HCL.out _ Kd | exact HCL.out _ (by assumption))
  (first
   | (go_at_call 133;go_split_ands;(with_reducible refine (HO.out _).mono ?_);rintro e w5 ⟨rfl,k5⟩;have K5:=ah.trans (by assumption) k5)
   | (go_at_call 132;go_split_ands;(with_reducible refine (HF.out _ (HK1.out.trans (by assumption))).mono ?_);rintro e w6 ⟨rfl,k6⟩;have K6:=ah.trans (by assumption) k6))
 have HK6:=hid (HK1.out.trans K6)
 obtain ⟨a0,a1,a2,a3,a4,a5⟩:=aa (K6.heap HB1.out id)
 clear K5 K6 Kd
 try dsimp only
 go_wp2_with fail
 refine (HC.out _ HK6.out).mono ?_
 rintro e w7 ⟨rfl,k7⟩
 have HK7:=hid (HK6.out.trans k7)
 clear k7
 try dsimp only
 go_wp2_with fail
 go_ret
 exact ⟨rfl,HK7.out⟩
theorem qW (r:Raw) (p:PV) (W:World) (h:decide (r.k<0)=false) (h2:decide (10<r.k)=false) (s3:(r.k == 3)=false) (s4:(r.k == 4)=false) (s6:(r.k == 6)=true) (c:Int) (neg:Bool) (A:Option Addr) (n cp:Nat) (t:ByteArray) (B:Option Addr) (m cap:Nat) (b:Bool) (HO:Hid (∀ w:World,Calls Tryz.prog 133 #[rawV r p] w (gv c neg A n cp t B m cap r.k w))) (HF:Hid (∀ w:World,K0 W w->Calls Tryz.prog 132 #[rawV r p,.agg (rwC r.k c neg A n cp t B m cap)] w (BoolPost b w))) (hb:Hid (b=true)) (v:Bool) (HC:Hid (∀ w:World,K0 W w->Calls Tryz.prog 136 #[.string r.t,.int .i64 1] w (BoolPost v w))):Calls Tryz.prog 105 #[rawV r p] W (BoolPost v W):=by
 have hb1:(W.alloc (.cells (rwC r.k r.c r.neg p.A p.n p.cp r.t p.B p.m p.cap) 27)).heap[W.heap.size]? = some (.cells (rwC r.k r.c r.neg p.A p.n p.cp r.t p.B p.m p.cap) 27 (0,0)):=hN W _
 have HB1:=hid hb1
 have HK1:=hid (show K0 W (W.alloc (.cells (rwC r.k r.c r.neg p.A p.n p.cp r.t p.B p.m p.cap) 27)) from kR.alloc _)
 obtain ⟨a0,a1,a2,a3,a4,a5⟩:=aa hb1
 clear hb1
 go_enter Tryz.func105,Tryz.ntmps105
 go_wp2_with fail
 generalize W.alloc (.cells (rwC r.k r.c r.neg p.A p.n p.cp r.t p.B p.m p.cap) 27)=w1 at *
 generalize W.heap.size=B1 at *
 rw [hb.out] at HF
 have HCL:=hid (fun (w':World) (K:K0 w1 w')=>(show (w'.cell? ⟨B1,0,none⟩=some (.int .i64 r.k)/\w'.cell? ⟨B1,1,none⟩=some (.int .i32 r.c)/\w'.cell? ⟨B1,2,none⟩=some (.bool r.neg)/\w'.cell? ⟨B1,3,none⟩=some (.slice p.A p.n p.cp)/\w'.cell? ⟨B1,4,none⟩=some (.string r.t)/\w'.cell? ⟨B1,5,none⟩=some (.slice p.B p.m p.cap))/\K0 w1 w' from by
  obtain ⟨e0,e1,e2,e3,e4,e5⟩:=aa (K.heap HB1.out id)
  exact ⟨⟨e0,e1,e2,e3,e4,e5⟩,K⟩))
 have Kd:K0 w1 w1.drew:=kR.drew
 clear a0 a1 a2 a3 a4 a5
 go_region_held3 (fun w'=>(w'.cell? ⟨B1,0,none⟩=some (.int .i64 r.k)/\w'.cell? ⟨B1,1,none⟩=some (.int .i32 r.c)/\w'.cell? ⟨B1,2,none⟩=some (.bool r.neg)/\w'.cell? ⟨B1,3,none⟩=some (.slice p.A p.n p.cp)/\w'.cell? ⟨B1,4,none⟩=some (.string r.t)/\w'.cell? ⟨B1,5,none⟩=some (.slice p.B p.m p.cap))/\K0 w1 w')
  (first | exact HCL.out _ Kd | exact HCL.out _ (by assumption))
  (first
   | (go_at_call 133;go_split_ands;(with_reducible refine (HO.out _).mono ?_);rintro e w5 ⟨rfl,k5⟩;have K5:=ah.trans (by assumption) k5)
   | (go_at_call 132;go_split_ands;(with_reducible refine (HF.out _ (HK1.out.trans (by assumption))).mono ?_);rintro e w6 ⟨rfl,k6⟩;have K6:=ah.trans (by assumption) k6))
 have HK6:=hid (HK1.out.trans K6)
 obtain ⟨a0,a1,a2,a3,a4,a5⟩:=aa (K6.heap HB1.out id)
 clear K5 K6 Kd
 try dsimp only
 go_wp2_with fail
 refine (HC.out _ HK6.out).mono ?_
 rintro e w7 ⟨rfl,k7⟩
 have HK7:=hid (HK6.out.trans k7)
 clear k7
 try dsimp only
 go_wp2_with fail
 go_ret
 exact ⟨rfl,HK7.out⟩
theorem qX (r:Raw) (p:PV) (W:World) (h:decide (r.k<0)=false) (h2:decide (10<r.k)=false) (s3:(r.k == 3)=false) (s4:(r.k == 4)=false) (s6:(r.k == 6)=false) (s5:(r.k == 5)=true) (c:Int) (neg:Bool) (A:Option Addr) (n cp:Nat) (t:ByteArray) (B:Option Addr) (m cap:Nat) (b:Bool) (HO:Hid (∀ w:World,Calls Tryz.prog 133 #[rawV r p] w (gv c neg A n cp t B m cap r.k w))) (HF:Hid (∀ w:World,K0 W w->Calls Tryz.prog 132 #[rawV r p,.agg (rwC r.k c neg A n cp t B m cap)] w (BoolPost b w))) (hb:Hid (b=true)) (v:Bool) (HC:Hid (∀ w:World,K0 W w->Calls Tryz.prog 136 #[.string r.t,.int .i64 0] w (BoolPost v w))):Calls Tryz.prog 105 #[rawV r p] W (BoolPost v W):=by
 have hb1:(W.alloc (.cells (rwC r.k r.c r.neg p.A p.n p.cp r.t p.B p.m p.cap) 27)).heap[W.heap.size]? = some (.cells (rwC r.k r.c r.neg p.A p.n p.cp r.t p.B p.m p.cap) 27 (0,0)):=hN W _
 have HB1:=hid hb1
 have HK1:=hid (show K0 W (W.alloc (.cells (rwC r.k r.c r.neg p.A p.n p.cp r.t p.B p.m p.cap) 27)) from kR.alloc _)
 obtain ⟨a0,a1,a2,a3,a4,a5⟩:=aa hb1
 clear hb1
 go_enter Tryz.func105,Tryz.ntmps105
 go_wp2_with fail
 generalize W.alloc (.cells (rwC r.k r.c r.neg p.A p.n p.cp r.t p.B p.m p.cap) 27)=w1 at *
 generalize W.heap.size=B1 at *
 rw [hb.out] at HF
 have HCL:=hid (fun (w':World) (K:K0 w1 w')=>(show (w'.cell? ⟨B1,0,none⟩=some (.int .i64 r.k)/\w'.cell? ⟨B1,1,none⟩=some (.int .i32 r.c)/\w'.cell? ⟨B1,2,none⟩=some (.bool r.neg)/\w'.cell? ⟨B1,3,none⟩=some (.slice p.A p.n p.cp)/\w'.cell? ⟨B1,4,none⟩=some (.string r.t)/\w'.cell? ⟨B1,5,none⟩=some (.slice p.B p.m p.cap))/\K0 w1 w' from by
  obtain ⟨e0,e1,e2,e3,e4,e5⟩:=aa (K.heap HB1.out id)
  exact ⟨⟨e0,e1,e2,e3,e4,e5⟩,K⟩))
 have Kd:K0 w1 w1.drew:=kR.drew
 clear a0 a1 a2 a3 a4 a5
 go_region_held3 (fun w'=>(w'.cell? ⟨B1,0,none⟩=some (.int .i64 r.k)/\w'.cell? ⟨B1,1,none⟩=some (.int .i32 r.c)/\w'.cell? ⟨B1,2,none⟩=some (.bool r.neg)/\w'.cell? ⟨B1,3,none⟩=some (.slice p.A p.n p.cp)/\w'.cell? ⟨B1,4,none⟩=some (.string r.t)/\w'.cell? ⟨B1,5,none⟩=some (.slice p.B p.m p.cap))/\K0 w1 w')
  (first | exact HCL.out _ Kd | exact HCL.out _ (by assumption))
  (first
   | (go_at_call 133;go_split_ands;(with_reducible refine (HO.out _).mono ?_);rintro e w5 ⟨rfl,k5⟩;have K5:=ah.trans (by assumption) k5)
   | (go_at_call 132;go_split_ands;(with_reducible refine (HF.out _ (HK1.out.trans (by assumption))).mono ?_);rintro e w6 ⟨rfl,k6⟩;have K6:=ah.trans (by assumption) k6))
 have HK6:=hid (HK1.out.trans K6)
 obtain ⟨a0,a1,a2,a3,a4,a5⟩:=aa (K6.heap HB1.out id)
 clear K5 K6 Kd
 try dsimp only
 go_wp2_with fail
 refine (HC.out _ HK6.out).mono ?_
 rintro e w7 ⟨rfl,k7⟩
 have HK7:=hid (HK6.out.trans k7)
 clear k7
 try dsimp only
 go_wp2_with fail
 go_ret
 exact ⟨rfl,HK7.out⟩
theorem oP (r:Raw) (p:PV) (W:World) (h:decide (r.k<0)=false) (h2:decide (10<r.k)=false) (s3:(r.k == 3)=false) (s4:(r.k == 4)=false) (s6:(r.k == 6)=false) (s5:(r.k == 5)=false) (s7:(r.k == 7)=true) (c:Int) (neg:Bool) (A:Option Addr) (n cp:Nat) (t:ByteArray) (B:Option Addr) (m cap:Nat) (b:Bool) (HO:Hid (∀ w:World,Calls Tryz.prog 133 #[rawV r p] w (gv c neg A n cp t B m cap r.k w))) (HF:Hid (∀ w:World,K0 W w->Calls Tryz.prog 132 #[rawV r p,.agg (rwC r.k c neg A n cp t B m cap)] w (BoolPost b w))) (hb:Hid (b=true)) (hm:((p.m:Int) == 2)=false):Calls Tryz.prog 105 #[rawV r p] W (BoolPost false W):=by
 have hb1:(W.alloc (.cells (rwC r.k r.c r.neg p.A p.n p.cp r.t p.B p.m p.cap) 27)).heap[W.heap.size]? = some (.cells (rwC r.k r.c r.neg p.A p.n p.cp r.t p.B p.m p.cap) 27 (0,0)):=hN W _
 have HB1:=hid hb1
 have HK1:=hid (show K0 W (W.alloc (.cells (rwC r.k r.c r.neg p.A p.n p.cp r.t p.B p.m p.cap) 27)) from kR.alloc _)
 obtain ⟨a0,a1,a2,a3,a4,a5⟩:=aa hb1
 clear hb1
 go_enter Tryz.func105,Tryz.ntmps105
 go_wp2_with fail
 generalize W.alloc (.cells (rwC r.k r.c r.neg p.A p.n p.cp r.t p.B p.m p.cap) 27)=w1 at *
 generalize W.heap.size=B1 at *
 rw [hb.out] at HF
 have HCL:=hid (fun (w':World) (K:K0 w1 w')=>(show (w'.cell? ⟨B1,0,none⟩=some (.int .i64 r.k)/\w'.cell? ⟨B1,1,none⟩=some (.int .i32 r.c)/\w'.cell? ⟨B1,2,none⟩=some (.bool r.neg)/\w'.cell? ⟨B1,3,none⟩=some (.slice p.A p.n p.cp)/\w'.cell? ⟨B1,4,none⟩=some (.string r.t)/\w'.cell? ⟨B1,5,none⟩=some (.slice p.B p.m p.cap))/\K0 w1 w' from by
  obtain ⟨e0,e1,e2,e3,e4,e5⟩:=aa (K.heap HB1.out id)
  exact ⟨⟨e0,e1,e2,e3,e4,e5⟩,K⟩))
 have Kd:K0 w1 w1.drew:=kR.drew
 clear a0 a1 a2 a3 a4 a5
 go_region_held3 (fun w'=>(w'.cell? ⟨B1,0,none⟩=some (.int .i64 r.k)/\w'.cell? ⟨B1,1,none⟩=some (.int .i32 r.c)/\w'.cell? ⟨B1,2,none⟩=some (.bool r.neg)/\w'.cell? ⟨B1,3,none⟩=some (.slice p.A p.n p.cp)/\w'.cell? ⟨B1,4,none⟩=some (.string r.t)/\w'.cell? ⟨B1,5,none⟩=some (.slice p.B p.m p.cap))/\K0 w1 w')
  (first | exact HCL.out _ Kd | exact HCL.out _ (by assumption))
  (first
   | (go_at_call 133;go_split_ands;(with_reducible refine (HO.out _).mono ?_);rintro e w5 ⟨rfl,k5⟩;have K5:=ah.trans (by assumption) k5)
   | (go_at_call 132;go_split_ands;(with_reducible refine (HF.out _ (HK1.out.trans (by assumption))).mono ?_);rintro e w6 ⟨rfl,k6⟩;have K6:=ah.trans (by assumption) k6))
 have HK6:=hid (HK1.out.trans K6)
 obtain ⟨a0,a1,a2,a3,a4,a5⟩:=aa (K6.heap HB1.out id)
 clear K5 K6 Kd
 try dsimp only
 go_wp2_with fail
 go_ret
 exact ⟨rfl,HK6.out⟩
theorem qV (r:Raw) (p:PV) (W:World) (h:decide (r.k<0)=false) (h2:decide (10<r.k)=false) (s3:(r.k == 3)=false) (s4:(r.k == 4)=false) (s6:(r.k == 6)=false) (s5:(r.k == 5)=false) (s7:(r.k == 7)=true) (c:Int) (neg:Bool) (A:Option Addr) (n cp:Nat) (t:ByteArray) (B:Option Addr) (m cap:Nat) (b:Bool) (HO:Hid (∀ w:World,Calls Tryz.prog 133 #[rawV r p] w (gv c neg A n cp t B m cap r.k w))) (HF:Hid (∀ w:World,K0 W w->Calls Tryz.prog 132 #[rawV r p,.agg (rwC r.k c neg A n cp t B m cap)] w (BoolPost b w))) (hb:Hid (b=true)) (hm:((p.m:Int) == 2)=true) (hm2:(p.m:Int)<=62) (v:Bool) (HC:Hid (∀ w:World,K0 W w->Calls Tryz.prog 137 #[.slice p.B p.m p.cap,.func (.func 138) #[] #[]] w (BoolPost v w))):Calls Tryz.prog 105 #[rawV r p] W (BoolPost (!v) W):=by
 have hb1:(W.alloc (.cells (rwC r.k r.c r.neg p.A p.n p.cp r.t p.B p.m p.cap) 27)).heap[W.heap.size]? = some (.cells (rwC r.k r.c r.neg p.A p.n p.cp r.t p.B p.m p.cap) 27 (0,0)):=hN W _
 have HB1:=hid hb1
 have HK1:=hid (show K0 W (W.alloc (.cells (rwC r.k r.c r.neg p.A p.n p.cp r.t p.B p.m p.cap) 27)) from kR.alloc _)
 obtain ⟨a0,a1,a2,a3,a4,a5⟩:=aa hb1
 clear hb1
 go_enter Tryz.func105,Tryz.ntmps105
 go_wp2_with fail
 generalize W.alloc (.cells (rwC r.k r.c r.neg p.A p.n p.cp r.t p.B p.m p.cap) 27)=w1 at *
 generalize W.heap.size=B1 at *
 rw [hb.out] at HF
 have HCL:=hid (fun (w':World) (K:K0 w1 w')=>(show (w'.cell? ⟨B1,0,none⟩=some (.int .i64 r.k)/\w'.cell? ⟨B1,1,none⟩=some (.int .i32 r.c)/\w'.cell? ⟨B1,2,none⟩=some (.bool r.neg)/\w'.cell? ⟨B1,3,none⟩=some (.slice p.A p.n p.cp)/\w'.cell? ⟨B1,4,none⟩=some (.string r.t)/\w'.cell? ⟨B1,5,none⟩=some (.slice p.B p.m p.cap))/\K0 w1 w' from by
  obtain ⟨e0,e1,e2,e3,e4,e5⟩:=aa (K.heap HB1.out id)
  exact ⟨⟨e0,e1,e2,e3,e4,e5⟩,K⟩))
 have Kd:K0 w1 w1.drew:=kR.drew
 clear a0 a1 a2 a3 a4 a5
 go_region_held3 (fun w'=>(w'.cell? ⟨B1,0,none⟩=some (.int .i64 r.k)/\w'.cell? ⟨B1,1,none⟩=some (.int .i32 r.c)/\w'.cell? ⟨B1,2,none⟩=some (.bool r.neg)/\w'.cell? ⟨B1,3,none⟩=some (.slice p.A p.n p.cp)/\w'.cell? ⟨B1,4,none⟩=some (.string r.t)/\w'.cell? ⟨B1,5,none⟩=some (.slice p.B p.m p.cap))/\K0 w1 w')
  (first | exact HCL.out _ Kd | exact HCL.out _ (by assumption))
  (first
   | (go_at_call 133;go_split_ands;(with_reducible refine (HO.out _).mono ?_);rintro e w5 ⟨rfl,k5⟩;have K5:=ah.trans (by assumption) k5)
   | (go_at_call 132;go_split_ands;(with_reducible refine (HF.out _ (HK1.out.trans (by assumption))).mono ?_);rintro e w6 ⟨rfl,k6⟩;have K6:=ah.trans (by assumption) k6))
 have HK6:=hid (HK1.out.trans K6)
 obtain ⟨a0,a1,a2,a3,a4,a5⟩:=aa (K6.heap HB1.out id)
 clear K5 K6 Kd
 try dsimp only
 go_wp2_with fail
 refine (HC.out _ HK6.out).mono ?_
 rintro e w7 ⟨rfl,k7⟩
 have HK7:=hid (HK6.out.trans k7)
 clear k7
 try dsimp only
 go_wp2_with fail
 go_ret
 exact ⟨rfl,HK7.out⟩
theorem oO (r:Raw) (p:PV) (W:World) (h:decide (r.k<0)=false) (h2:decide (10<r.k)=false) (s3:(r.k == 3)=false) (s4:(r.k == 4)=false) (s6:(r.k == 6)=false) (s5:(r.k == 5)=false) (s7:(r.k == 7)=false) (s8:(r.k == 8)=true) (c:Int) (neg:Bool) (A:Option Addr) (n cp:Nat) (t:ByteArray) (B:Option Addr) (m cap:Nat) (b:Bool) (HO:Hid (∀ w:World,Calls Tryz.prog 133 #[rawV r p] w (gv c neg A n cp t B m cap r.k w))) (HF:Hid (∀ w:World,K0 W w->Calls Tryz.prog 132 #[rawV r p,.agg (rwC r.k c neg A n cp t B m cap)] w (BoolPost b w))) (hb:Hid (b=true)) (hm:decide ((p.m:Int)<=62)=false):Calls Tryz.prog 105 #[rawV r p] W (BoolPost false W):=by
 have hb1:(W.alloc (.cells (rwC r.k r.c r.neg p.A p.n p.cp r.t p.B p.m p.cap) 27)).heap[W.heap.size]? = some (.cells (rwC r.k r.c r.neg p.A p.n p.cp r.t p.B p.m p.cap) 27 (0,0)):=hN W _
 have HB1:=hid hb1
 have HK1:=hid (show K0 W (W.alloc (.cells (rwC r.k r.c r.neg p.A p.n p.cp r.t p.B p.m p.cap) 27)) from kR.alloc _)
 obtain ⟨a0,a1,a2,a3,a4,a5⟩:=aa hb1
 clear hb1
 go_enter Tryz.func105,Tryz.ntmps105
 go_wp2_with fail
 generalize W.alloc (.cells (rwC r.k r.c r.neg p.A p.n p.cp r.t p.B p.m p.cap) 27)=w1 at *
 generalize W.heap.size=B1 at *
 rw [hb.out] at HF
 have HCL:=hid (fun (w':World) (K:K0 w1 w')=>(show (w'.cell? ⟨B1,0,none⟩=some (.int .i64 r.k)/\w'.cell? ⟨B1,1,none⟩=some (.int .i32 r.c)/\w'.cell? ⟨B1,2,none⟩=some (.bool r.neg)/\w'.cell? ⟨B1,3,none⟩=some (.slice p.A p.n p.cp)/\w'.cell? ⟨B1,4,none⟩=some (.string r.t)/\w'.cell? ⟨B1,5,none⟩=some (.slice p.B p.m p.cap))/\K0 w1 w' from by
  obtain ⟨e0,e1,e2,e3,e4,e5⟩:=aa (K.heap HB1.out id)
  exact ⟨⟨e0,e1,e2,e3,e4,e5⟩,K⟩))
 have Kd:K0 w1 w1.drew:=kR.drew
 clear a0 a1 a2 a3 a4 a5
 go_region_held3 (fun w'=>(w'.cell? ⟨B1,0,none⟩=some (.int .i64 r.k)/\w'.cell? ⟨B1,1,none⟩=some (.int .i32 r.c)/\w'.cell? ⟨B1,2,none⟩=some (.bool r.neg)/\w'.cell? ⟨B1,3,none⟩=some (.slice p.A p.n p.cp)/\w'.cell? ⟨B1,4,none⟩=some (.string r.t)/\w'.cell? ⟨B1,5,none⟩=some (.slice p.B p.m p.cap))/\K0 w1 w')
  (first | exact HCL.out _ Kd | exact HCL.out _ (by assumption))
  (first
   | (go_at_call 133;go_split_ands;(with_reducible refine (HO.out _).mono ?_);rintro e w5 ⟨rfl,k5⟩;have K5:=ah.trans (by assumption) k5)
   | (go_at_call 132;go_split_ands;(with_reducible refine (HF.out _ (HK1.out.trans (by assumption))).mono ?_);rintro e w6 ⟨rfl,k6⟩;have K6:=ah.trans (by assumption) k6))
 have HK6:=hid (HK1.out.trans K6)
 obtain ⟨a0,a1,a2,a3,a4,a5⟩:=aa (K6.heap HB1.out id)
 clear K5 K6 Kd
 try dsimp only
 go_wp2_with fail
 go_ret
 exact ⟨rfl,HK6.out⟩
theorem qU (r:Raw) (p:PV) (W:World) (h:decide (r.k<0)=false) (h2:decide (10<r.k)=false) (s3:(r.k == 3)=false) (s4:(r.k == 4)=false) (s6:(r.k == 6)=false) (s5:(r.k == 5)=false) (s7:(r.k == 7)=false) (s8:(r.k == 8)=true) (c:Int) (neg:Bool) (A:Option Addr) (n cp:Nat) (t:ByteArray) (B:Option Addr) (m cap:Nat) (b:Bool) (HO:Hid (∀ w:World,Calls Tryz.prog 133 #[rawV r p] w (gv c neg A n cp t B m cap r.k w))) (HF:Hid (∀ w:World,K0 W w->Calls Tryz.prog 132 #[rawV r p,.agg (rwC r.k c neg A n cp t B m cap)] w (BoolPost b w))) (hb:Hid (b=true)) (hm:(p.m:Int)<=62) (v:Bool) (HC:Hid (∀ w:World,K0 W w->Calls Tryz.prog 137 #[.slice p.B p.m p.cap,.func (.func 138) #[] #[]] w (BoolPost v w))):Calls Tryz.prog 105 #[rawV r p] W (BoolPost (!v) W):=by
 have hb1:(W.alloc (.cells (rwC r.k r.c r.neg p.A p.n p.cp r.t p.B p.m p.cap) 27)).heap[W.heap.size]? = some (.cells (rwC r.k r.c r.neg p.A p.n p.cp r.t p.B p.m p.cap) 27 (0,0)):=hN W _
 have HB1:=hid hb1
 have HK1:=hid (show K0 W (W.alloc (.cells (rwC r.k r.c r.neg p.A p.n p.cp r.t p.B p.m p.cap) 27)) from kR.alloc _)
 obtain ⟨a0,a1,a2,a3,a4,a5⟩:=aa hb1
 clear hb1
 go_enter Tryz.func105,Tryz.ntmps105
 go_wp2_with fail
 generalize W.alloc (.cells (rwC r.k r.c r.neg p.A p.n p.cp r.t p.B p.m p.cap) 27)=w1 at *
 generalize W.heap.size=B1 at *
 rw [hb.out] at HF
 have HCL:=hid (fun (w':World) (K:K0 w1 w')=>(show (w'.cell? ⟨B1,0,none⟩=some (.int .i64 r.k)/\w'.cell? ⟨B1,1,none⟩=some (.int .i32 r.c)/\w'.cell? ⟨B1,2,none⟩=some (.bool r.neg)/\w'.cell? ⟨B1,3,none⟩=some (.slice p.A p.n p.cp)/\w'.cell? ⟨B1,4,none⟩=some (.string r.t)/\w'.cell? ⟨B1,5,none⟩=some (.slice p.B p.m p.cap))/\K0 w1 w' from by
  obtain ⟨e0,e1,e2,e3,e4,e5⟩:=aa (K.heap HB1.out id)
  exact ⟨⟨e0,e1,e2,e3,e4,e5⟩,K⟩))
 have Kd:K0 w1 w1.drew:=kR.drew
 clear a0 a1 a2 a3 a4 a5
 go_region_held3 (fun w'=>(w'.cell? ⟨B1,0,none⟩=some (.int .i64 r.k)/\w'.cell? ⟨B1,1,none⟩=some (.int .i32 r.c)/\w'.cell? ⟨B1,2,none⟩=some (.bool r.neg)/\w'.cell? ⟨B1,3,none⟩=some (.slice p.A p.n p.cp)/\w'.cell? ⟨B1,4,none⟩=some (.string r.t)/\w'.cell? ⟨B1,5,none⟩=some (.slice p.B p.m p.cap))/\K0 w1 w')
  (first | exact HCL.out _ Kd | exact HCL.out _ (by assumption))
  (first
   | (go_at_call 133;go_split_ands;(with_reducible refine (HO.out _).mono ?_);rintro e w5 ⟨rfl,k5⟩;have K5:=ah.trans (by assumption) k5)
   | (go_at_call 132;go_split_ands;(with_reducible refine (HF.out _ (HK1.out.trans (by assumption))).mono ?_);rintro e w6 ⟨rfl,k6⟩;have K6:=ah.trans (by assumption) k6))
 have HK6:=hid (HK1.out.trans K6)
 obtain ⟨a0,a1,a2,a3,a4,a5⟩:=aa (K6.heap HB1.out id)
 clear K5 K6 Kd
 try dsimp only
 go_wp2_with fail
 refine (HC.out _ HK6.out).mono ?_
 rintro e w7 ⟨rfl,k7⟩
 have HK7:=hid (HK6.out.trans k7)
 clear k7
 try dsimp only
 go_wp2_with fail
 go_ret
 exact ⟨rfl,HK7.out⟩
end Go.Proofs.YtonnikipeokkaaaGreatDoor

namespace Go.Proofs.YtonnikipeokkaaaGreatDoor
open Go.Lib (hid)
open Go.RowKit Go.Lib
theorem vW (c1 c2 c4 c8:Bool) (r:Raw) (m:Nat) (hl:r.l.length=m):(r.k == r.k && (r.c == (if c1 then r.c else 0) && (r.neg == (if c2 then r.neg else false) && (decide (r.mag=if c2 then r.mag else []) && (r.t.toList == (if c4 then r.t else ⟨#[]⟩).toList && (m:Int) == ((if c8 then m else 0:Nat):Int))))))=ar c1 c2 c4 c8 r:=by
 have e8:((m:Int) == ((if c8 then m else 0:Nat):Int))=(c8 || decide (r.l=[])):=by
  cases c8 with
  | true=>simp
  | false=>
   rw [Bool.eq_iff_iff,beq_iff_eq,Bool.false_or,decide_eq_true_iff,<- List.length_eq_zero_iff,hl]
   simp
 have e4:(r.t.toList == (if c4 then r.t else ⟨#[]⟩).toList)=(c4 || decide (r.t=⟨#[]⟩)):=by
  cases c4 with
  | true=>simp
  | false=>
   rw [Bool.eq_iff_iff,beq_iff_eq,Bool.false_or,decide_eq_true_iff]
   exact so
 have e2:(r.neg == (if c2 then r.neg else false) && decide (r.mag=if c2 then r.mag else []))=(c2 || (!r.neg && decide (r.mag=[]))):=by
  cases c2 with
  | true=>simp
  | false=>cases r.neg<;>simp
 have e1:(r.c == (if c1 then r.c else 0))=(c1 || decide (r.c=0)):=by
  cases c1 with
  | true=>simp
  | false=>
   rw [Bool.eq_iff_iff,beq_iff_eq,Bool.false_or,decide_eq_true_iff]
   simp
 unfold ar
 rw [e8,e4,<- Bool.and_assoc (r.neg == _),e2,e1]
 simp
theorem oa (c:Int):Lib.validRune c=gr c:=by
 unfold Lib.validRune gr bn
 rw [Bool.eq_iff_iff]
 simp only [Bool.and_eq_true,decide_eq_true_iff]
 omega
theorem oR {N P:Nat->Prop} {w:World} {r:Raw} {p:PV} (h:ay N P w r p):dX r->bE w->∀ W:World,K0 w W->Calls Tryz.prog 105 #[rawV r p] W (BoolPost (aS r) W):=by
 induction h with
 | @mk r p num nP len mcap big vs row ch ih=>
  intro hS hT W hW
  have hSm:∀ i (hi:i<r.l.length),dX r.l[i]:=by cases hS with | mk _ _ h=>exact h
  have hts:r.t.size<=1000000:=by cases hS with | mk h _ _=>exact h
  by_cases n0:r.k<0
  ·have e:aS r=false:=by rw [dH,if_neg (by omega),if_neg (by omega),if_neg (by omega),if_neg (by omega),if_neg (by omega),if_neg (by omega),if_neg (by omega)]
   rw [e]
   exact oN r p W n0
  by_cases n1:10<r.k
  ·have e:aS r=false:=by rw [dH,if_neg (by omega),if_neg (by omega),if_neg (by omega),if_neg (by omega),if_neg (by omega),if_neg (by omega),if_neg (by omega)]
   rw [e]
   exact oQ r p W (dF n0) n1
  have d0:decide (r.k<0)=false:=dF n0
  have d1:decide (10<r.k)=false:=dF n1
  have bt:∀ j:Int,r.k=j->(r.k == j)=true:=fun j e=>beq_iff_eq.2 e
  have bf:∀ j:Int,r.k ≠ j->(r.k == j)=false:=fun j e=>bF.2 e
  have hnum:∀ w:World,K0 W w->aq w p.A p.n p.cp r.mag:=fun w K=>num.keep0 (hW.trans K)
  have hflat:∀ (c1 c2 c4 c8:Bool) (A:Option Addr) (n cp:Nat) (B:Option Addr) (cap:Nat),(∀ w:World,K0 W w->aq w A n cp (if c2 then r.mag else []))->∀ w:World,K0 W w ->
   Calls Tryz.prog 132 #[rawV r p,.agg (rwC r.k (if c1 then r.c else 0) (if c2 then r.neg else false) A n cp (if c4 then r.t else ⟨#[]⟩) B (if c8 then p.m else 0) cap)] w (BoolPost (ar c1 c2 c4 c8 r) w):=by
   intro c1 c2 c4 c8 A n cp B cap hl w K
   have:=uo r.k r.c r.neg p.A p.n p.cp r.t p.B p.m p.cap r.k (if c1 then r.c else 0) (if c2 then r.neg else false) A n cp (if c4 then r.t else ⟨#[]⟩) B (if c8 then p.m else 0) cap r.mag (if c2 then r.mag else []) w (hnum w K) (hl w K)
   rw [vW c1 c2 c4 c8 r p.m len] at this
   exact this
  have hnone:∀ w:World,K0 W w->aq w none 0 0 ([]:List Nat):=fun w _=>eX w
  have hcont:∀ w:World,K0 W w->Calls Tryz.prog 137 #[.slice p.B p.m p.cap,.func (.func 138) #[] #[]] w (BoolPost (!bG r.l) w):=fun w K=>
   rM r.l vs p.B p.m p.cap w len (by omega) (fun hm=>by
    obtain ⟨bb,off,e,_,hi⟩:=row hm
    exact ⟨bb,off,e,fun i h=>(hi i h).keep (hW.trans K) id⟩) (fun i h W' K'=>ih i h (hSm i h) hT W' ((hW.trans K).trans K'))
  by_cases k3:r.k=3
  ·have F:=hflat true false false false none 0 0 none 0 hnone
   have E:aS r=(ar true false false false r && gr r.c):=by rw [dH,if_neg (by omega),if_pos k3]
   have O:=fun w=>xe r.k r.c r.neg p.A p.n p.cp r.t p.B p.m p.cap w (bt 3 k3)
   rw [E]
   cases hb:ar true false false false r with
   | false=>exact d9 r p W d0 d1 _ _ _ _ _ _ _ _ _ _ (hid O) (hid (by rw [hb] at F;exact F)) (hid rfl)
   | true=>
    refine qZ r p W d0 d1 (bt 3 k3) _ _ _ _ _ _ _ _ _ _ (hid O) (hid (by rw [hb] at F;exact F)) (hid rfl) _ (hid (fun w K=>?_))
    rw [<- oa]
    exact (Tryz.utf8_ValidRune r.c w).mono fun e w' h=>⟨h.1,by rw [h.2];exact kR⟩
  by_cases k4:r.k=4
  ·have F:=hflat false true false false p.A p.n p.cp none 0 hnum
   have E:aS r=(ar false true false false r && kc r.neg r.mag):=by rw [dH,if_neg (by omega),if_neg k3,if_pos k4]
   have O:=fun w=>xd r.k r.c r.neg p.A p.n p.cp r.t p.B p.m p.cap w (bf 3 k3) (bt 4 k4)
   rw [E]
   cases hb:ar false true false false r with
   | false=>exact d9 r p W d0 d1 _ _ _ _ _ _ _ _ _ _ (hid O) (hid (by rw [hb] at F;exact F)) (hid rfl)
   | true=>exact qY r p W d0 d1 (bf 3 k3) (bt 4 k4) _ _ _ _ _ _ _ _ _ _ (hid O) (hid (by rw [hb] at F;exact F)) (hid rfl) _ (hid (fun w K=>vQ r.neg p.A p.n p.cp r.mag w (hnum w K)))
  by_cases k5:r.k=5
  ·have F:=hflat false false true false none 0 0 none 0 hnone
   have E:aS r=(ar false false true false r && fv (au r.t.data.toList) false):=by rw [dH,if_neg (by omega),if_neg k3,if_neg k4,if_pos k5]
   have O:=fun w=>xc r.k r.c r.neg p.A p.n p.cp r.t p.B p.m p.cap w (bf 3 k3) (bf 4 k4) (bt 5 k5)
   rw [E]
   cases hb:ar false false true false r with
   | false=>exact d9 r p W d0 d1 _ _ _ _ _ _ _ _ _ _ (hid O) (hid (by rw [hb] at F;exact F)) (hid rfl)
   | true=>exact qX r p W d0 d1 (bf 3 k3) (bf 4 k4) (bf 6 (by omega)) (bt 5 k5) _ _ _ _ _ _ _ _ _ _ (hid O) (hid (by rw [hb] at F;exact F)) (hid rfl) _ (hid (fun w K=>lg r.t false w (by omega) (hT.keep (hW.trans K))))
  by_cases k6:r.k=6
  ·have F:=hflat false false true false none 0 0 none 0 hnone
   have E:aS r=(ar false false true false r && fv (au r.t.data.toList) true):=by rw [dH,if_neg (by omega),if_neg k3,if_neg k4,if_neg k5,if_pos k6]
   have O:=fun w=>wZ r.k r.c r.neg p.A p.n p.cp r.t p.B p.m p.cap w (bf 3 k3) (bf 4 k4) (bf 5 k5) (bt 6 k6)
   rw [E]
   cases hb:ar false false true false r with
   | false=>exact d9 r p W d0 d1 _ _ _ _ _ _ _ _ _ _ (hid O) (hid (by rw [hb] at F;exact F)) (hid rfl)
   | true=>exact qW r p W d0 d1 (bf 3 k3) (bf 4 k4) (bt 6 k6) _ _ _ _ _ _ _ _ _ _ (hid O) (hid (by rw [hb] at F;exact F)) (hid rfl) _ (hid (fun w K=>lg r.t true w (by omega) (hT.keep (hW.trans K))))
  by_cases k7:r.k=7
  ·have F:=hflat false false false true none 0 0 p.B p.cap hnone
   have E:aS r=((ar false false false true r && decide (r.l.length=2)) && bG r.l):=by rw [dH,if_neg (by omega),if_neg k3,if_neg k4,if_neg k5,if_neg k6,if_pos k7]
   have O:=fun w=>wY r.k r.c r.neg p.A p.n p.cp r.t p.B p.m p.cap w (bf 3 k3) (bf 4 k4) (bf 5 k5) (bf 6 k6) (bt 7 k7)
   rw [E]
   cases hb:ar false false false true r with
   | false=>exact d9 r p W d0 d1 _ _ _ _ _ _ _ _ _ _ (hid O) (hid (by rw [hb] at F;exact F)) (hid rfl)
   | true=>
    by_cases hm:p.m=2
    ·rw [dT (by omega),Bool.and_true,Bool.true_and,<- Bool.not_not (b:=bG r.l)]
     exact qV r p W d0 d1 (bf 3 k3) (bf 4 k4) (bf 6 k6) (bf 5 k5) (bt 7 k7) _ _ _ _ _ _ _ _ _ _ (hid O) (hid (by rw [hb] at F;exact F)) (hid rfl) (beq_iff_eq.2 (by omega)) (by omega) _ (hid hcont)
    ·rw [dF (by omega)]
     exact oP r p W d0 d1 (bf 3 k3) (bf 4 k4) (bf 6 k6) (bf 5 k5) (bt 7 k7) _ _ _ _ _ _ _ _ _ _ (hid O) (hid (by rw [hb] at F;exact F)) (hid rfl) (bF.2 (by omega))
  by_cases k8:r.k=8
  ·have F:=hflat false false false true none 0 0 p.B p.cap hnone
   have E:aS r=((ar false false false true r && decide (r.l.length<=62)) && bG r.l):=by rw [dH,if_neg (by omega),if_neg k3,if_neg k4,if_neg k5,if_neg k6,if_neg k7,if_pos k8]
   have O:=fun w=>wX r.k r.c r.neg p.A p.n p.cp r.t p.B p.m p.cap w (bf 3 k3) (bf 4 k4) (bf 5 k5) (bf 6 k6) (bf 7 k7) (bt 8 k8)
   rw [E]
   cases hb:ar false false false true r with
   | false=>exact d9 r p W d0 d1 _ _ _ _ _ _ _ _ _ _ (hid O) (hid (by rw [hb] at F;exact F)) (hid rfl)
   | true=>
    by_cases hm:p.m<=62
    ·rw [dT (by omega),Bool.and_true,Bool.true_and,<- Bool.not_not (b:=bG r.l)]
     exact qU r p W d0 d1 (bf 3 k3) (bf 4 k4) (bf 6 k6) (bf 5 k5) (bf 7 k7) (bt 8 k8) _ _ _ _ _ _ _ _ _ _ (hid O) (hid (by rw [hb] at F;exact F)) (hid rfl) (by omega) _ (hid hcont)
    ·rw [dF (by omega)]
     exact oO r p W d0 d1 (bf 3 k3) (bf 4 k4) (bf 6 k6) (bf 5 k5) (bf 7 k7) (bt 8 k8) _ _ _ _ _ _ _ _ _ _ (hid O) (hid (by rw [hb] at F;exact F)) (hid rfl) (dF (by omega))
  ·have F:=hflat false false false false none 0 0 none 0 hnone
   have E:aS r=ar false false false false r:=by rw [dH,if_pos (by omega)]
   have O:=fun w=>wW r.k r.c r.neg p.A p.n p.cp r.t p.B p.m p.cap w (bf 3 k3) (bf 4 k4) (bf 5 k5) (bf 6 k6) (bf 7 k7) (bf 8 k8)
   rw [E]
   cases hb:ar false false false false r with
   | false=>exact d9 r p W d0 d1 _ _ _ _ _ _ _ _ _ _ (hid O) (hid (by rw [hb] at F;exact F)) (hid rfl)
   | true=>exact tE r p W d0 d1 (bf 3 k3) (bf 4 k4) (bf 6 k6) (bf 5 k5) (bf 7 k7) (bf 8 k8) _ _ _ _ _ _ _ _ _ _ (hid O) (hid (by rw [hb] at F;exact F)) (hid rfl)
end Go.Proofs.YtonnikipeokkaaaGreatDoor

namespace Go.Proofs.YtonnikipeokkaaaGreatDoor
set_option maxRecDepth 100000
set_option maxHeartbeats 8000000
open Go.Lib (hid)
open Go.RowKit Go.Lib
structure pH (w:World) (A:Option Addr) (n c:Nat) (l:List Nat):Prop where
 row:cT .u32 w A n l
 low:Low BB l
 cap:n<=c
 max:n<=maxLen
inductive RawX (w:World):Raw->PV->Prop
 | mk {r:Raw} {p:PV} (num:pH w p.A p.n p.cp r.mag) (len:r.l.length=p.m) (mcap:p.m<=p.cap) (big:p.m<=maxLen) (vs:Nat->PV)
  (row:0<p.m->∃ b off,p.B=some ⟨b,off,.none⟩ /\ ∀ i (h:i<r.l.length),cV w b off i r.l[i] (vs i)) (ch:∀ i (h:i<r.l.length),RawX w r.l[i] (vs i)):RawX w r p
mutual
def bW:Raw->Int->Int
 | .mk _ _ _ mag t l,n=>if 3000<t.size\/300<mag.length then -1 else cJ l (n - 1)
def cJ:List Raw->Int->Int
 | [],n=>n
 | x :: l,n=>if 0<=n then cJ l (bW x n) else n
end
theorem p9 (r:Raw) (n:Int):bW r n=if 3000<r.t.size\/300<r.mag.length then -1 else cJ r.l (n - 1):=by
 cases r with
 | mk k c neg mag t l=>rw [bW];rfl
theorem mw (l:List Raw) {n:Int} (h:n<0):cJ l n=n:=by
 cases l with
 | nil=>rw [cJ]
 | cons x l=>rw [cJ,if_neg (by omega)]
theorem mx {l:List Raw} {i:Nat} (hi:i<l.length) {n:Int} (h:0<=n):cJ (l.drop i) n=cJ (l.drop (i+1)) (bW l[i] n):=by
 rw [List.drop_eq_getElem_cons hi,cJ,if_pos h]
mutual
theorem iO:∀ (r:Raw) (n:Int),0<=n->-1<=bW r n/\bW r n<=n - 1
 | .mk _ _ _ mag t l,n,h=>by
  rw [bW]
  split
  ·omega
  ·exact gw l (n - 1) (by omega)
theorem gw:∀ (l:List Raw) (n:Int),-1<=n->-1<=cJ l n/\cJ l n<=n
 | [],n,h=>by rw [cJ];omega
 | x :: l,n,h=>by
  rw [cJ]
  split
  ·rename_i h0
   have h1:=iO x n h0
   have h2:=gw l (bW x n) h1.1
   omega
  ·omega
end
structure xX (W:World) (r:Raw) (p:PV) (n0:Int) (i:Nat) (c:Int) (B1:Nat) (wr:World):Prop where
 K:K0 W wr
 h1:wr.heap[B1]? = some (.cells (rwC r.k r.c r.neg p.A p.n p.cp r.t p.B p.m p.cap) 27 (0,0))
 le:i<=r.l.length
 eq:cJ r.l (n0 - 1)=cJ (r.l.drop i) c
 lo:-1<=c
 hi:c<=2000
theorem u7 (r:Raw) (A:Option Addr) (n cp:Nat) (B:Option Addr) (m cap:Nat) (n0:Int) (W:World) (w:World) (hW:K0 w W) (hn0:0<=n0) (hn1:n0<=2000) (HMG:Hid (r.mag.length=n)) (hnn:n<=maxLen)
 (hm:m<=maxLen) (vs:Nat->PV) (HROW:Hid (0<m->∃ b off,B=some ⟨b,off,.none⟩ /\ ∀ i (h:i<r.l.length),cV w b off i r.l[i] (vs i))) (HL:Hid (r.l.length=m))
 (IH:Hid (∀ i (h:i<r.l.length) (w':World) (c:Int),0<=c->c<=2000->K0 w w'->Calls Tryz.prog 47 #[rawV r.l[i] (vs i),.int .i64 c] w' (fun e w9=>e=.returned (.int .i64 (bW r.l[i] c))/\K0 w' w9))):Calls Tryz.prog 47 #[.agg (rwC r.k r.c r.neg A n cp r.t B m cap),.int .i64 n0] W (fun e w9=>e=.returned (.int .i64 (bW r n0))/\K0 W w9):=by
 have hb1:(W.alloc (.cells (rwC r.k r.c r.neg A n cp r.t B m cap) 27)).heap[W.heap.size]? = some (.cells (rwC r.k r.c r.neg A n cp r.t B m cap) 27 (0,0)):=hN W _
 have HST:=hid (show xX W r ⟨A,n,cp,B,m,cap⟩ n0 0 (n0 - 1) W.heap.size (W.alloc (.cells (rwC r.k r.c r.neg A n cp r.t B m cap) 27)) from ⟨kR.alloc _,hb1,Nat.zero_le _,rfl,by omega,by omega⟩)
 unfold maxLen at hnn hm
 have HW:=hid hW
 have HEQ:=hid (p9 r n0)
 obtain ⟨wr0,hwr⟩:∃ y,y=bW r n0:=⟨_,rfl⟩
 rw [<- hwr] at HEQ ⊢
 clear hwr
 obtain ⟨a0,a1,a2,a3,a4,a5⟩:=aa hb1
 clear hW hb1
 by_cases ht:3000<r.t.size
 ·have s1:decide ((3000:Int)<(r.t.size:Int))=true:=dT (by omega)
  have s2:decide (3000<r.t.size)=true:=dT ht
  have HE:=hid (HEQ.out.trans (if_pos (.inl ht)))
  clear ht
  go_enter Tryz.func47,Tryz.ntmps47
  go_wp2_with fail
  go_ret
  exact ⟨by rw [HE.out];rfl,HST.out.K⟩
 ·have s1:decide ((3000:Int)<(r.t.size:Int))=false:=dF (by omega)
  have s2:decide (3000<r.t.size)=false:=dF ht
  have HT:=hid ht
  clear ht
  by_cases hg:300<n
  ·have s3:decide ((300:Int)<(n:Int))=true:=dT (by omega)
   have s4:decide (300<n)=true:=dT hg
   have HE:=hid (HEQ.out.trans (if_pos (.inr (by rw [HMG.out];exact hg))))
   clear hg
   go_enter Tryz.func47,Tryz.ntmps47
   go_wp2_with fail
   go_ret
   exact ⟨by rw [HE.out];rfl,HST.out.K⟩
  ·have s3:decide ((300:Int)<(n:Int))=false:=dF (by omega)
   have s4:decide (300<n)=false:=dF hg
   have HE:=hid (HEQ.out.trans (if_neg (by rw [HMG.out];have:=HT.out;omega)))
   clear hg
   go_enter Tryz.func47,Tryz.ntmps47
   go_wp2_with fail
   generalize W.alloc (.cells (rwC r.k r.c r.neg A n cp r.t B m cap) 27)=w1 at *
   generalize hB1:W.heap.size=B1 at *
   clear a0 a1 a2 a3 a4 a5
   go_loopw [1,5] (fun nv iv wr=>∃ (c:Int) (i:Nat),nv=.int .i64 c/\iv=.int .i64 (i:Int)/\xX W r ⟨A,n,cp,B,m,cap⟩ n0 i c B1 wr) (fun _ iv _=>m - (intOf iv).toNat)
   case atStart=>exact ⟨n0 - 1,0,by go_num,rfl,HST.out⟩
   case round=>
    obtain ⟨c,i,rfl,rfl,hst⟩:=hrel
    have hx1:=hst.h1
    have HS2:=hid hst
    have hbig:=hm
    have hc1:=hst.lo
    have hc2:=hst.hi
    clear hst
    obtain ⟨a0,a1,a2,a3,a4,a5⟩:=aa hx1
    clear hx1 a0 a1 a2
    have hi0:(0:Int)<=(i:Int):=Int.natCast_nonneg _
    by_cases hlt:i<m
    ·have hi1:i<r.l.length:=by rw [HL.out];exact hlt
     have l1:decide ((i:Int)<(m:Int))=true:=dT (by omega)
     have l2:decide (i<m)=true:=dT hlt
     have j1:(i:Int)<(m:Int):=by omega
     by_cases hc:0<=c
     ·have l3:decide ((0:Int)<=c)=true:=dT hc
      have l4:decide (c<0)=false:=dF (by omega)
      obtain ⟨g,o,rfl,hrw⟩:=HROW.out (by omega)
      have hic:=(hrw i hi1).keep (HW.out.trans HS2.out.K) id
      have HC1:=hid (fun (w':World) (K:K0 wr w')=>IH.out i hi1 w' c hc hc2 ((HW.out.trans HS2.out.K).trans K))
      have hwl:=iO (r.l[i]'hi1) c hc
      have HNX:=hid (fun (w':World) (K:K0 wr w')=>(show xX W r ⟨A,n,cp,some ⟨g,o,none⟩,m,cap⟩ n0 (i+1) (bW (r.l[i]'hi1) c) B1 w' from ⟨HS2.out.K.trans K,K.heap HS2.out.h1 id,hi1,by rw [HS2.out.eq,mx hi1 hc],hwl.1,by omega⟩))
      obtain ⟨x,hx⟩:∃ x,x=r.l[i]'hi1:=⟨_,rfl⟩
      rw [<- hx] at HC1 HNX hwl
      obtain ⟨r0,r1,r2,r3,r4,r5⟩:=hic.cells
      rw [<- hx] at r0 r1 r2 r4
      obtain ⟨v,hv⟩:∃ v,v=vs i:=⟨_,rfl⟩
      rw [<- hv] at HC1 r3 r5
      obtain ⟨z,hz⟩:∃ z,z=bW x c:=⟨_,rfl⟩
      rw [<- hz] at HC1 HNX hwl
      clear hv hic hx hrw hz
      go_wp2_with fail
      refine (HC1.out _ kR).mono ?_
      rintro e w5 ⟨rfl,k5⟩
      have HN3:=hid (HNX.out _ k5)
      clear k5 r0 r1 r2 r3 r4 r5 a3 a4 a5
      go_wp2_with fail
      go_roundw
      case rel=>exact ⟨z,i+1,rfl,by go_num,HN3.out⟩
      case measure=>simp only [intOf];omega
     ·have l3:decide ((0:Int)<=c)=false:=dF hc
      have l4:decide (c<0)=true:=dT (by omega)
      have heq:=HS2.out.eq
      rw [mw _ (by omega:c<0)] at heq
      have HF:=hid (HE.out.trans heq)
      clear heq
      go_wp2_with fail
      go_ret
      exact ⟨by rw [HF.out];rfl,HS2.out.K⟩
    ·have l1:decide ((i:Int)<(m:Int))=false:=dF (by omega)
     have l2:decide (i<m)=false:=dF hlt
     have heq:=HS2.out.eq
     have hle:=HS2.out.le
     rw [HL.out] at hle
     rw [List.drop_of_length_le (by rw [HL.out];omega),cJ] at heq
     have HF:=hid (HE.out.trans heq)
     clear heq
     go_wp2_with fail
     go_ret
     exact ⟨by rw [HF.out];rfl,HS2.out.K⟩
theorem p8 {w:World} {r:Raw} {p:PV} (h:RawX w r p):∀ (W:World) (c:Int),0<=c->c<=2000->K0 w W->Calls Tryz.prog 47 #[rawV r p,.int .i64 c] W (fun e w9=>e=.returned (.int .i64 (bW r c))/\K0 W w9):=by
 induction h with
 | @mk r p num len mcap big vs row ch ih=>
  intro W c h0 h1 hW
  exact u7 r p.A p.n p.cp p.B p.m p.cap c W _ hW h0 h1 (hid num.row.1) num.max big vs (hid row) (hid len) (hid (fun i (hi:i<r.l.length) (w':World) c h0 h1 K=>ih i hi w' c h0 h1 K))
def dV (r:Raw):Bool:=decide (bW r 2000<0)
theorem ph {w:World} {r:Raw} {p:PV} (h:RawX w r p) (W:World) (hW:K0 w W):Calls Tryz.prog 27 #[rawV r p] W (BoolPost (dV r) W):=by
 have HK1:=hid (show K0 W (W.alloc (.cells (rwC r.k r.c r.neg p.A p.n p.cp r.t p.B p.m p.cap) 27)) from kR.alloc _)
 have HC:=hid (p8 h _ 2000 (by decide) (by decide) (hW.trans HK1.out))
 have hb1:(W.alloc (.cells (rwC r.k r.c r.neg p.A p.n p.cp r.t p.B p.m p.cap) 27)).heap[W.heap.size]? = some (.cells (rwC r.k r.c r.neg p.A p.n p.cp r.t p.B p.m p.cap) 27 (0,0)):=hN W _
 obtain ⟨a0,a1,a2,a3,a4,a5⟩:=aa hb1
 have HH:Hid (dV r=decide (bW r 2000<0)):=hid rfl
 generalize dV r=hv at HH ⊢
 generalize bW r 2000=z at HC HH
 clear hb1 h hW
 go_enter Tryz.func27,Tryz.ntmps27
 go_wp2_with fail
 refine HC.out.mono ?_
 rintro e w2 ⟨rfl,k2⟩
 have HK2:=hid (HK1.out.trans k2)
 clear k2 a0 a1 a2 a3 a4 a5
 go_wp2_with fail
 go_ret
 exact ⟨by rw [HH.out];rfl,HK2.out⟩
end Go.Proofs.YtonnikipeokkaaaGreatDoor

namespace Go.Proofs.YtonnikipeokkaaaGreatDoor
set_option maxRecDepth 100000
set_option maxHeartbeats 8000000
open Go.Lib (hid)
open Go.RowKit Go.Lib
structure rY (W:World) (r:Raw) (k:Int) (p:PV) (e8 i d B1:Nat) (wr:World):Prop where
 K:K0 W wr
 h1:wr.heap[B1]? = some (.cells (rwC k r.c r.neg p.A p.n p.cp r.t p.B p.m p.cap) 27 (0,0))
 le:i<=r.l.length
 d:d=max e8 (fd (dQ k r.l) i)
theorem tR {Q:Nat->Prop} (r:Raw) (k:Int) (HK:Hid (r.k=k)) (A:Option Addr) (n cp:Nat) (B:Option Addr) (m cap:Nat) (W:World) (w:World) (hW:K0 w W) (s8:(k == 8)=true)
 (hm:m<=1000000000000000000) (hD:aO r<=4000000000000000000) (vs:Nat->PV) (HROW:Hid (0<m->∃ b off,B=some ⟨b,off,.none⟩/\Q b /\ ∀ i (h:i<r.l.length),cV w b off i r.l[i] (vs i))) (HL:Hid (r.l.length=m))
 (IH:Hid (∀ i (h:i<r.l.length) (w':World),K0 w w'->Calls Tryz.prog 106 #[rawV r.l[i] (vs i)] w' (fun e w9=>e=.returned (.int .i64 (aO r.l[i]:Int))/\K0 w' w9))):Calls Tryz.prog 106 #[.agg (rwC k r.c r.neg A n cp r.t B m cap)] W (fun e w9=>e=.returned (.int .i64 (aO r:Int))/\K0 W w9):=by
 have hb1:(W.alloc (.cells (rwC k r.c r.neg A n cp r.t B m cap) 27)).heap[W.heap.size]? = some (.cells (rwC k r.c r.neg A n cp r.t B m cap) 27 (0,0)):=hN W _
 have HST:=hid (show rY W r k ⟨A,n,cp,B,m,cap⟩ 1 0 1 W.heap.size (W.alloc (.cells (rwC k r.c r.neg A n cp r.t B m cap) 27)) from ⟨kR.alloc _,hb1,Nat.zero_le _,rfl⟩)
 have HW:=hid hW
 have HDD:=hid hD
 have H8:=hid s8
 obtain ⟨a0,a1,a2,a3,a4,a5⟩:=aa hb1
 clear hW hb1 hD
 go_enter Tryz.func106,Tryz.ntmps106
 go_wp2_with fail
 generalize W.alloc (.cells (rwC k r.c r.neg A n cp r.t B m cap) 27)=w1 at *
 generalize hB1:W.heap.size=B1 at *
 clear a0 a1 a2 a3 a4 a5
 go_loopw [3,13] (fun nv iv wr=>∃ (d i:Nat),nv=.int .i64 (d:Int)/\iv=.int .i64 (i:Int)/\rY W r k ⟨A,n,cp,B,m,cap⟩ 1 i d B1 wr) (fun _ iv _=>m - (intOf iv).toNat)
 case atStart=>exact ⟨1,0,rfl,rfl,HST.out⟩
 case round=>
  obtain ⟨d,i,rfl,rfl,hst⟩:=hrel
  have hx1:=hst.h1
  have HS2:=hid hst
  have hbig:=hm
  clear hst
  obtain ⟨a0,a1,a2,a3,a4,a5⟩:=aa hx1
  clear hx1 a1 a2 a3 a4
  by_cases hlt:i<m
  ·have hi1:i<r.l.length:=by rw [HL.out];exact hlt
   obtain ⟨g,o,rfl,_,hrw⟩:=HROW.out (by omega)
   have hic:=(hrw i hi1).keep (HW.out.trans HS2.out.K) id
   have HC1:=hid (fun (w':World) (K:K0 wr w')=>IH.out i hi1 w' ((HW.out.trans HS2.out.K).trans K))
   have HNX:=hid (fun (w':World) (K:K0 wr w')=>(show rY W r k ⟨A,n,cp,some ⟨g,o,none⟩,m,cap⟩ 1 (i+1) (max d (dQ k r.l i)) B1 w' from ⟨HS2.out.K.trans K,K.heap HS2.out.h1 id,hi1,by rw [fd,<- Nat.max_assoc,<- HS2.out.d]⟩))
   have hde:d<=max 1 (aO r):=by rw [HS2.out.d];have:=(eR hi1).1;rw [HK.out] at this;omega
   have hst:=ik hi1
   have hsl:=(eR hi1).2
   rw [HK.out] at hst hsl
   have hD:=HDD.out
   obtain ⟨y,hy⟩:∃ y,y=dQ k r.l i:=⟨_,rfl⟩
   obtain ⟨x,hx⟩:∃ x,x=r.l[i]'hi1:=⟨_,rfl⟩
   rw [<- hy] at HNX hst hsl
   rw [<- hx] at HC1 hst
   rw [HL.out] at hst
   obtain ⟨r0,r1,r2,r3,r4,r5⟩:=hic.cells
   rw [<- hx] at r0 r1 r2 r4
   obtain ⟨v,hv⟩:∃ v,v=vs i:=⟨_,rfl⟩
   rw [<- hv] at HC1 r3 r5
   obtain ⟨z,hz⟩:∃ z,z=aO x:=⟨_,rfl⟩
   rw [<- hz] at HC1 hst
   have KA:K0 wr (wr.alloc (.cells (cL x v) 27)):=kR.alloc _
   have HKA:=hid KA
   have hxb:(wr.alloc (.cells (cL x v) 27)).heap[wr.heap.size]? = some (.cells (cL x v) 27 (0,0)):=hN _ _
   have HQ:=hid (fun (w':World) (K:K0 (wr.alloc (.cells (cL x v) 27)) w')=>(show w'.cell? ⟨B1,0,none⟩=some (.int .i64 k)/\w'.cell? ⟨B1,5,none⟩=some (.slice (some ⟨g,o,none⟩) m cap)/\w'.cell? ⟨wr.heap.size,0,none⟩=some (.int .i64 x.k) from ⟨((KA.trans K).cell (bL wr _ a0) id).trans a0,((KA.trans K).cell (bL wr _ a5) id).trans a5,(ae (K.heap hxb id)).1.1⟩))
   obtain ⟨⟨x0,x1,x2,x3,x4,x5⟩,_⟩:=ae hxb
   clear hv hic hx hrw hy hz hxb KA
   have l1:decide ((i:Int)<(m:Int))=true:=dT (by omega)
   have l2:decide (i<m)=true:=dT hlt
   have hi0:(0:Int)<=(i:Int):=Int.natCast_nonneg _
   have j1:(i:Int)<(m:Int):=by omega
   go_wp2_with fail
   refine (HC1.out _ HKA.out).mono ?_
   rintro e w5 ⟨rfl,k5⟩
   clear r0 r1 r2 r3 r4 r5 a0 a5 x0 x1 x2 x3 x4 x5
   obtain ⟨a0,a5,x0⟩:=HQ.out _ k5
   have HN3:=hid (HNX.out _ (HKA.out.trans k5))
   clear k5
   by_cases h7:k=7
   ·subst h7
    exact absurd H8.out (by decide)
   ·have s1:(k == 7)=false:=bF.2 h7
    rw [if_neg (fun h=>h7 h.1)] at hst
    subst hst
    go_wp2_with fail
    go_roundw
    case rel=>exact ⟨_,i+1,by go_num,by go_num,HN3.out⟩
    case measure=>simp only [intOf];omega
  ·have l1:decide ((i:Int)<(m:Int))=false:=dF (by omega)
   have l2:decide (i<m)=false:=dF hlt
   have hd:=HS2.out.d
   have hle:=HS2.out.le
   rw [HL.out] at hle
   have hi:i=r.l.length:=by rw [HL.out];omega
   rw [hi] at hd
   have hdep:=iH r
   rw [HK.out] at hdep
   rw [if_pos (beq_iff_eq.1 H8.out),<- hd] at hdep
   have HDP:=hid hdep
   clear hdep hd hi
   go_wp2_with fail
   go_ret
   exact ⟨by rw [HDP.out];rfl,HS2.out.K⟩
theorem tS {Q:Nat->Prop} (r:Raw) (k:Int) (HK:Hid (r.k=k)) (A:Option Addr) (n cp:Nat) (B:Option Addr) (m cap:Nat) (W:World) (w:World) (hW:K0 w W) (s8:(k == 8)=false)
 (hm:m<=1000000000000000000) (hD:aO r<=4000000000000000000) (vs:Nat->PV) (HROW:Hid (0<m->∃ b off,B=some ⟨b,off,.none⟩/\Q b /\ ∀ i (h:i<r.l.length),cV w b off i r.l[i] (vs i))) (HL:Hid (r.l.length=m))
 (IH:Hid (∀ i (h:i<r.l.length) (w':World),K0 w w'->Calls Tryz.prog 106 #[rawV r.l[i] (vs i)] w' (fun e w9=>e=.returned (.int .i64 (aO r.l[i]:Int))/\K0 w' w9))):Calls Tryz.prog 106 #[.agg (rwC k r.c r.neg A n cp r.t B m cap)] W (fun e w9=>e=.returned (.int .i64 (aO r:Int))/\K0 W w9):=by
 have hb1:(W.alloc (.cells (rwC k r.c r.neg A n cp r.t B m cap) 27)).heap[W.heap.size]? = some (.cells (rwC k r.c r.neg A n cp r.t B m cap) 27 (0,0)):=hN W _
 have HST:=hid (show rY W r k ⟨A,n,cp,B,m,cap⟩ 0 0 0 W.heap.size (W.alloc (.cells (rwC k r.c r.neg A n cp r.t B m cap) 27)) from ⟨kR.alloc _,hb1,Nat.zero_le _,rfl⟩)
 have HW:=hid hW
 have HDD:=hid hD
 have H8:=hid s8
 obtain ⟨a0,a1,a2,a3,a4,a5⟩:=aa hb1
 clear hW hb1 hD
 go_enter Tryz.func106,Tryz.ntmps106
 go_wp2_with fail
 generalize W.alloc (.cells (rwC k r.c r.neg A n cp r.t B m cap) 27)=w1 at *
 generalize hB1:W.heap.size=B1 at *
 clear a0 a1 a2 a3 a4 a5
 go_loopw [3,13] (fun nv iv wr=>∃ (d i:Nat),nv=.int .i64 (d:Int)/\iv=.int .i64 (i:Int)/\rY W r k ⟨A,n,cp,B,m,cap⟩ 0 i d B1 wr) (fun _ iv _=>m - (intOf iv).toNat)
 case atStart=>exact ⟨0,0,rfl,rfl,HST.out⟩
 case round=>
  obtain ⟨d,i,rfl,rfl,hst⟩:=hrel
  have hx1:=hst.h1
  have HS2:=hid hst
  have hbig:=hm
  clear hst
  obtain ⟨a0,a1,a2,a3,a4,a5⟩:=aa hx1
  clear hx1 a1 a2 a3 a4
  by_cases hlt:i<m
  ·have hi1:i<r.l.length:=by rw [HL.out];exact hlt
   obtain ⟨g,o,rfl,_,hrw⟩:=HROW.out (by omega)
   have hic:=(hrw i hi1).keep (HW.out.trans HS2.out.K) id
   have HC1:=hid (fun (w':World) (K:K0 wr w')=>IH.out i hi1 w' ((HW.out.trans HS2.out.K).trans K))
   have HNX:=hid (fun (w':World) (K:K0 wr w')=>(show rY W r k ⟨A,n,cp,some ⟨g,o,none⟩,m,cap⟩ 0 (i+1) (max d (dQ k r.l i)) B1 w' from ⟨HS2.out.K.trans K,K.heap HS2.out.h1 id,hi1,by rw [fd,<- Nat.max_assoc,<- HS2.out.d]⟩))
   have hde:d<=max 0 (aO r):=by rw [HS2.out.d];have:=(eR hi1).1;rw [HK.out] at this;omega
   have hst:=ik hi1
   have hsl:=(eR hi1).2
   rw [HK.out] at hst hsl
   have hD:=HDD.out
   obtain ⟨y,hy⟩:∃ y,y=dQ k r.l i:=⟨_,rfl⟩
   obtain ⟨x,hx⟩:∃ x,x=r.l[i]'hi1:=⟨_,rfl⟩
   rw [<- hy] at HNX hst hsl
   rw [<- hx] at HC1 hst
   rw [HL.out] at hst
   obtain ⟨r0,r1,r2,r3,r4,r5⟩:=hic.cells
   rw [<- hx] at r0 r1 r2 r4
   obtain ⟨v,hv⟩:∃ v,v=vs i:=⟨_,rfl⟩
   rw [<- hv] at HC1 r3 r5
   obtain ⟨z,hz⟩:∃ z,z=aO x:=⟨_,rfl⟩
   rw [<- hz] at HC1 hst
   have KA:K0 wr (wr.alloc (.cells (cL x v) 27)):=kR.alloc _
   have HKA:=hid KA
   have hxb:(wr.alloc (.cells (cL x v) 27)).heap[wr.heap.size]? = some (.cells (cL x v) 27 (0,0)):=hN _ _
   have HQ:=hid (fun (w':World) (K:K0 (wr.alloc (.cells (cL x v) 27)) w')=>(show w'.cell? ⟨B1,0,none⟩=some (.int .i64 k)/\w'.cell? ⟨B1,5,none⟩=some (.slice (some ⟨g,o,none⟩) m cap)/\w'.cell? ⟨wr.heap.size,0,none⟩=some (.int .i64 x.k) from ⟨((KA.trans K).cell (bL wr _ a0) id).trans a0,((KA.trans K).cell (bL wr _ a5) id).trans a5,(ae (K.heap hxb id)).1.1⟩))
   obtain ⟨⟨x0,x1,x2,x3,x4,x5⟩,_⟩:=ae hxb
   clear hv hic hx hrw hy hz hxb KA
   have l1:decide ((i:Int)<(m:Int))=true:=dT (by omega)
   have l2:decide (i<m)=true:=dT hlt
   have hi0:(0:Int)<=(i:Int):=Int.natCast_nonneg _
   have j1:(i:Int)<(m:Int):=by omega
   go_wp2_with fail
   refine (HC1.out _ HKA.out).mono ?_
   rintro e w5 ⟨rfl,k5⟩
   clear r0 r1 r2 r3 r4 r5 a0 a5 x0 x1 x2 x3 x4 x5
   obtain ⟨a0,a5,x0⟩:=HQ.out _ k5
   have HN3:=hid (HNX.out _ (HKA.out.trans k5))
   clear k5
   by_cases h7:k=7
   ·subst h7
    by_cases hla:i+1=m
    ·have s2:decide ((i:Int)+1<(m:Int))=false:=dF (by omega)
     by_cases hx7:x.k=7
     ·have s3:(x.k == 7)=true:=beq_iff_eq.2 hx7
      rw [if_pos ⟨rfl,hla,hx7⟩] at hst
      subst hst
      clear hx7 hla
      go_wp2_with fail
      go_roundw
      case rel=>exact ⟨_,i+1,by go_num,by go_num,HN3.out⟩
      case measure=>simp only [intOf];omega
     ·have s3:(x.k == 7)=false:=bF.2 hx7
      rw [if_neg (fun h=>hx7 h.2.2)] at hst
      subst hst
      clear hx7 hla
      go_wp2_with fail
      go_roundw
      case rel=>exact ⟨_,i+1,by go_num,by go_num,HN3.out⟩
      case measure=>simp only [intOf];omega
    ·have s2:decide ((i:Int)+1<(m:Int))=true:=dT (by omega)
     rw [if_neg (fun h=>hla h.2.1)] at hst
     subst hst
     clear hla
     go_wp2_with fail
     go_roundw
     case rel=>exact ⟨_,i+1,by go_num,by go_num,HN3.out⟩
     case measure=>simp only [intOf];omega
   ·have s1:(k == 7)=false:=bF.2 h7
    rw [if_neg (fun h=>h7 h.1)] at hst
    subst hst
    go_wp2_with fail
    go_roundw
    case rel=>exact ⟨_,i+1,by go_num,by go_num,HN3.out⟩
    case measure=>simp only [intOf];omega
  ·have l1:decide ((i:Int)<(m:Int))=false:=dF (by omega)
   have l2:decide (i<m)=false:=dF hlt
   have hd:=HS2.out.d
   have hle:=HS2.out.le
   rw [HL.out] at hle
   have hi:i=r.l.length:=by rw [HL.out];omega
   rw [hi] at hd
   have hdep:=iH r
   rw [HK.out] at hdep
   rw [if_neg (bF.1 H8.out),<- hd] at hdep
   have HDP:=hid hdep
   clear hdep hd hi
   go_wp2_with fail
   go_ret
   exact ⟨by rw [HDP.out];rfl,HS2.out.K⟩
theorem oZ {N P:Nat->Prop} {w:World} {r:Raw} {p:PV} (h:ay N P w r p):aO r<=4000000000000000000->∀ (W:World),K0 w W->Calls Tryz.prog 106 #[rawV r p] W (fun e w9=>e=.returned (.int .i64 (aO r:Int))/\K0 W w9):=by
 induction h with
 | @mk r p num nP len mcap big vs row ch ih=>
  intro hD W hW
  have IH:=hid (fun i (hi:i<r.l.length) (w':World) K=>ih i hi (Nat.le_trans (kw hi) hD) w' K)
  by_cases h8:r.k=8
  ·exact tR (Q:=P) r r.k (hid rfl) p.A p.n p.cp p.B p.m p.cap W _ hW (beq_iff_eq.2 h8) (by omega) hD vs (hid row) (hid len) IH
  ·exact tS (Q:=P) r r.k (hid rfl) p.A p.n p.cp p.B p.m p.cap W _ hW (bF.2 h8) (by omega) hD vs (hid row) (hid len) IH
theorem tF {N P:Nat->Prop} {w:World} {r:Raw} {p:PV} (h:ay N P w r p) (hS:dX r) (hD:aO r<=4000000000000000000) (hT:bE w):Calls Tryz.prog 77 #[rawV r p] w (BoolPost (eF r) w):=by
 have HP:=hid (fun (W:World) (K:K0 w W)=>oR h hS hT W K)
 have HD:=hid (fun (W:World) (K:K0 w W)=>oZ h hD W K)
 have hmay:eF r=(aS r && decide (aO r<=64)):=rfl
 obtain ⟨m,hm⟩:∃ m,m=eF r:=⟨_,rfl⟩
 rw [<- hm] at hmay ⊢
 clear hm
 generalize aS r=b at HP hmay
 generalize aO r=d at HD hmay
 have HM:=hid hmay
 have hb1:(w.alloc (.cells (rwC r.k r.c r.neg p.A p.n p.cp r.t p.B p.m p.cap) 27)).heap[w.heap.size]? = some (.cells (rwC r.k r.c r.neg p.A p.n p.cp r.t p.B p.m p.cap) 27 (0,0)):=hN w _
 have HB1:=hid hb1
 have HK1:=hid (show K0 w (w.alloc (.cells (rwC r.k r.c r.neg p.A p.n p.cp r.t p.B p.m p.cap) 27)) from kR.alloc _)
 obtain ⟨a0,a1,a2,a3,a4,a5⟩:=aa hb1
 clear hb1 h hS hD hmay hT
 go_enter Tryz.func77,Tryz.ntmps77
 go_wp2_with fail
 generalize w.alloc (.cells (rwC r.k r.c r.neg p.A p.n p.cp r.t p.B p.m p.cap) 27)=w1 at *
 refine (HP.out _ HK1.out).mono ?_
 rintro e w2 ⟨rfl,k2⟩
 have HB2:=hid (k2.heap HB1.out (by simp))
 have HK2:=hid (HK1.out.trans k2)
 clear a0 a1 a2 a3 a4 a5 k2
 obtain ⟨a0,a1,a2,a3,a4,a5⟩:=aa HB2.out
 cases b with
 | false=>
  go_wp2_with fail
  go_ret
  exact ⟨by rw [HM.out];rfl,HK2.out⟩
 | true=>
  go_wp2_with fail
  refine (HD.out _ HK2.out).mono ?_
  rintro e w3 ⟨rfl,k3⟩
  have HK3:=hid (HK2.out.trans k3)
  clear a0 a1 a2 a3 a4 a5 k3
  go_wp2_with fail
  go_ret
  exact ⟨by rw [HM.out,Bool.true_and];go_num,HK3.out⟩
end Go.Proofs.YtonnikipeokkaaaGreatDoor
