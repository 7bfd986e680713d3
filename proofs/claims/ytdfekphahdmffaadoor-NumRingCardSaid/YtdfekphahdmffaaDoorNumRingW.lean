/-
  The law NumRing: its walk.
-/
import Derived.Test.YtdfekphahdmffaaDoorLawAid
import Derived.Test.YtdfekphahdmffaaDoorNuMul
namespace Go.Proofs.YtdfekphahdmffaaDoor
open Go.RowKit

set_option maxRecDepth 100000 in
set_option maxHeartbeats 4000000 in
theorem ring_long1 (p1 : Bool) (A1 : Option Addr) (n1 c1 : Nat) (p2 : Bool) (A2 : Option Addr) (n2 c2 : Nat) (p3 : Bool) (A3 : Option Addr) (n3 c3 : Nat) (w : World) (ht : PowTab w) (h1 : 60 < n1) :
    Calls Tryd.prog 14 #[numArg p1 A1 n1 c1, numArg p2 A2 n2 c2, numArg p3 A3 n3 c3] w (BoolPost true w) := by
  have X0 := env3 w (.bool p1) (.slice A1 n1 c1) (.bool p2) (.slice A2 n2 c2) (.bool p3) (.slice A3 n3 c3)
  have HT := Lib.hid ht
  clear ht
  go_enter Tryd.func14, Tryd.ntmps14
  go_wp2_with fail
  generalize hB0 : w.heap.size = B0 at X0 ⊢
  have HSZ := Lib.hid (Nat.le_of_eq hB0)
  clear hB0
  generalize ((w.alloc (.cells #[.bool p1, .slice A1 n1 c1] 25)).alloc (.cells #[.bool p2, .slice A2 n2 c2] 25)).alloc (.cells #[.bool p3, .slice A3 n3 c3] 25) = w1 at X0 ⊢
  have HX := Lib.hid X0
  clear X0
  refine (long_any p1 A1 n1 c1 _).mono ?_
  rintro e w2 ⟨rfl, k2⟩
  rw [show decide (60 < n1) = true from decide_eq_true (by omega)]
  have HX1 := Lib.hid (HX.out.keep k2)
  clear HX k2
  have HX := Lib.hid HX1.out
  clear HX1
  obtain ⟨t0, t1, tl⟩ := HX.out.cells (.head _)
  obtain ⟨s0, s1, sl⟩ := HX.out.cells (.tail _ (.head _))
  obtain ⟨r0, r1, rl⟩ := HX.out.cells (.tail _ (.tail _ (.head _)))
  try dsimp only
  go_wp2_with fail
  clear t0 t1 tl s0 s1 sl r0 r1 rl
  refine (awake_any _ (HT.out.keep HX.out.k)).mono ?_
  rintro e wz ⟨rfl, kz⟩
  have HZ := Lib.hid (HX.out.k.trans kz)
  clear kz
  try dsimp only
  go_wp2_with fail
  go_ret
  exact ⟨rfl, HZ.out⟩
set_option maxRecDepth 100000 in
set_option maxHeartbeats 4000000 in
theorem ring_long2 (p1 : Bool) (A1 : Option Addr) (n1 c1 : Nat) (p2 : Bool) (A2 : Option Addr) (n2 c2 : Nat) (p3 : Bool) (A3 : Option Addr) (n3 c3 : Nat) (w : World) (ht : PowTab w) (h1 : n1 ≤ 60) (h2 : 60 < n2) :
    Calls Tryd.prog 14 #[numArg p1 A1 n1 c1, numArg p2 A2 n2 c2, numArg p3 A3 n3 c3] w (BoolPost true w) := by
  have X0 := env3 w (.bool p1) (.slice A1 n1 c1) (.bool p2) (.slice A2 n2 c2) (.bool p3) (.slice A3 n3 c3)
  have HT := Lib.hid ht
  clear ht
  go_enter Tryd.func14, Tryd.ntmps14
  go_wp2_with fail
  generalize hB0 : w.heap.size = B0 at X0 ⊢
  have HSZ := Lib.hid (Nat.le_of_eq hB0)
  clear hB0
  generalize ((w.alloc (.cells #[.bool p1, .slice A1 n1 c1] 25)).alloc (.cells #[.bool p2, .slice A2 n2 c2] 25)).alloc (.cells #[.bool p3, .slice A3 n3 c3] 25) = w1 at X0 ⊢
  have HX := Lib.hid X0
  clear X0
  refine (long_any p1 A1 n1 c1 _).mono ?_
  rintro e w2 ⟨rfl, k2⟩
  rw [show decide (60 < n1) = false from decide_eq_false (by omega)]
  have HX1 := Lib.hid (HX.out.keep k2)
  clear HX k2
  have HX := Lib.hid HX1.out
  clear HX1
  obtain ⟨t0, t1, tl⟩ := HX.out.cells (.head _)
  obtain ⟨s0, s1, sl⟩ := HX.out.cells (.tail _ (.head _))
  obtain ⟨r0, r1, rl⟩ := HX.out.cells (.tail _ (.tail _ (.head _)))
  try dsimp only
  go_wp2_with fail
  clear t0 t1 tl s0 s1 sl r0 r1 rl
  refine (long_any p2 A2 n2 c2 _).mono ?_
  rintro e w2 ⟨rfl, k2⟩
  rw [show decide (60 < n2) = true from decide_eq_true (by omega)]
  have HX1 := Lib.hid (HX.out.keep k2)
  clear HX k2
  have HX := Lib.hid HX1.out
  clear HX1
  obtain ⟨t0, t1, tl⟩ := HX.out.cells (.head _)
  obtain ⟨s0, s1, sl⟩ := HX.out.cells (.tail _ (.head _))
  obtain ⟨r0, r1, rl⟩ := HX.out.cells (.tail _ (.tail _ (.head _)))
  try dsimp only
  go_wp2_with fail
  clear t0 t1 tl s0 s1 sl r0 r1 rl
  refine (awake_any _ (HT.out.keep HX.out.k)).mono ?_
  rintro e wz ⟨rfl, kz⟩
  have HZ := Lib.hid (HX.out.k.trans kz)
  clear kz
  try dsimp only
  go_wp2_with fail
  go_ret
  exact ⟨rfl, HZ.out⟩
set_option maxRecDepth 100000 in
set_option maxHeartbeats 4000000 in
theorem ring_long3 (p1 : Bool) (A1 : Option Addr) (n1 c1 : Nat) (p2 : Bool) (A2 : Option Addr) (n2 c2 : Nat) (p3 : Bool) (A3 : Option Addr) (n3 c3 : Nat) (w : World) (ht : PowTab w) (h1 : n1 ≤ 60) (h2 : n2 ≤ 60) (h3 : 60 < n3) :
    Calls Tryd.prog 14 #[numArg p1 A1 n1 c1, numArg p2 A2 n2 c2, numArg p3 A3 n3 c3] w (BoolPost true w) := by
  have X0 := env3 w (.bool p1) (.slice A1 n1 c1) (.bool p2) (.slice A2 n2 c2) (.bool p3) (.slice A3 n3 c3)
  have HT := Lib.hid ht
  clear ht
  go_enter Tryd.func14, Tryd.ntmps14
  go_wp2_with fail
  generalize hB0 : w.heap.size = B0 at X0 ⊢
  have HSZ := Lib.hid (Nat.le_of_eq hB0)
  clear hB0
  generalize ((w.alloc (.cells #[.bool p1, .slice A1 n1 c1] 25)).alloc (.cells #[.bool p2, .slice A2 n2 c2] 25)).alloc (.cells #[.bool p3, .slice A3 n3 c3] 25) = w1 at X0 ⊢
  have HX := Lib.hid X0
  clear X0
  refine (long_any p1 A1 n1 c1 _).mono ?_
  rintro e w2 ⟨rfl, k2⟩
  rw [show decide (60 < n1) = false from decide_eq_false (by omega)]
  have HX1 := Lib.hid (HX.out.keep k2)
  clear HX k2
  have HX := Lib.hid HX1.out
  clear HX1
  obtain ⟨t0, t1, tl⟩ := HX.out.cells (.head _)
  obtain ⟨s0, s1, sl⟩ := HX.out.cells (.tail _ (.head _))
  obtain ⟨r0, r1, rl⟩ := HX.out.cells (.tail _ (.tail _ (.head _)))
  try dsimp only
  go_wp2_with fail
  clear t0 t1 tl s0 s1 sl r0 r1 rl
  refine (long_any p2 A2 n2 c2 _).mono ?_
  rintro e w2 ⟨rfl, k2⟩
  rw [show decide (60 < n2) = false from decide_eq_false (by omega)]
  have HX1 := Lib.hid (HX.out.keep k2)
  clear HX k2
  have HX := Lib.hid HX1.out
  clear HX1
  obtain ⟨t0, t1, tl⟩ := HX.out.cells (.head _)
  obtain ⟨s0, s1, sl⟩ := HX.out.cells (.tail _ (.head _))
  obtain ⟨r0, r1, rl⟩ := HX.out.cells (.tail _ (.tail _ (.head _)))
  try dsimp only
  go_wp2_with fail
  clear t0 t1 tl s0 s1 sl r0 r1 rl
  refine (long_any p3 A3 n3 c3 _).mono ?_
  rintro e w2 ⟨rfl, k2⟩
  rw [show decide (60 < n3) = true from decide_eq_true (by omega)]
  have HX1 := Lib.hid (HX.out.keep k2)
  clear HX k2
  have HX := Lib.hid HX1.out
  clear HX1
  obtain ⟨t0, t1, tl⟩ := HX.out.cells (.head _)
  obtain ⟨s0, s1, sl⟩ := HX.out.cells (.tail _ (.head _))
  obtain ⟨r0, r1, rl⟩ := HX.out.cells (.tail _ (.tail _ (.head _)))
  try dsimp only
  go_wp2_with fail
  clear t0 t1 tl s0 s1 sl r0 r1 rl
  refine (awake_any _ (HT.out.keep HX.out.k)).mono ?_
  rintro e wz ⟨rfl, kz⟩
  have HZ := Lib.hid (HX.out.k.trans kz)
  clear kz
  try dsimp only
  go_wp2_with fail
  go_ret
  exact ⟨rfl, HZ.out⟩
set_option maxRecDepth 100000 in
set_option maxHeartbeats 16000000 in
theorem ring_short (p1 : Bool) (A1 : Option Addr) (n1 c1 : Nat) (p2 : Bool) (A2 : Option Addr) (n2 c2 : Nat) (p3 : Bool) (A3 : Option Addr) (n3 c3 : Nat) (l1 l2 l3 : List Nat) (w : World) (ht : PowTab w) (h1 : n1 ≤ 60) (h2 : n2 ≤ 60) (h3 : n3 ≤ 60) (L1 : LimbsAt w A1 n1 c1 l1) (L2 : LimbsAt w A2 n2 c2 l2) (L3 : LimbsAt w A3 n3 c3 l3) :
    Calls Tryd.prog 14 #[numArg p1 A1 n1 c1, numArg p2 A2 n2 c2, numArg p3 A3 n3 c3] w (BoolPost true w) := by
  have HL := Lib.hid (And.intro L1 (And.intro L2 L3))
  clear L1 L2 L3
  have X0 := env3 w (.bool p1) (.slice A1 n1 c1) (.bool p2) (.slice A2 n2 c2) (.bool p3) (.slice A3 n3 c3)
  have HT := Lib.hid ht
  clear ht
  go_enter Tryd.func14, Tryd.ntmps14
  go_wp2_with fail
  generalize hB0 : w.heap.size = B0 at X0 ⊢
  have HSZ := Lib.hid (Nat.le_of_eq hB0)
  clear hB0
  generalize ((w.alloc (.cells #[.bool p1, .slice A1 n1 c1] 25)).alloc (.cells #[.bool p2, .slice A2 n2 c2] 25)).alloc (.cells #[.bool p3, .slice A3 n3 c3] 25) = w1 at X0 ⊢
  have HX := Lib.hid X0
  clear X0
  have HX1 := Lib.hid (((HX.out.num (HL.out.1.keep0 HX.out.k)).num (HL.out.2.1.keep0 HX.out.k)).num (HL.out.2.2.keep0 HX.out.k))
  clear HX
  have HX := Lib.hid HX1.out
  clear HX1
  refine (long_any p1 A1 n1 c1 _).mono ?_
  rintro e w2 ⟨rfl, k2⟩
  rw [show decide (60 < n1) = false from decide_eq_false (by omega)]
  have HX1 := Lib.hid (HX.out.keep k2)
  clear HX k2
  have HX := Lib.hid HX1.out
  clear HX1
  obtain ⟨t0, t1, tl⟩ := HX.out.cells (.head _)
  obtain ⟨s0, s1, sl⟩ := HX.out.cells (.tail _ (.head _))
  obtain ⟨r0, r1, rl⟩ := HX.out.cells (.tail _ (.tail _ (.head _)))
  try dsimp only
  go_wp2_with fail
  clear t0 t1 tl s0 s1 sl r0 r1 rl
  refine (long_any p2 A2 n2 c2 _).mono ?_
  rintro e w2 ⟨rfl, k2⟩
  rw [show decide (60 < n2) = false from decide_eq_false (by omega)]
  have HX1 := Lib.hid (HX.out.keep k2)
  clear HX k2
  have HX := Lib.hid HX1.out
  clear HX1
  obtain ⟨t0, t1, tl⟩ := HX.out.cells (.head _)
  obtain ⟨s0, s1, sl⟩ := HX.out.cells (.tail _ (.head _))
  obtain ⟨r0, r1, rl⟩ := HX.out.cells (.tail _ (.tail _ (.head _)))
  try dsimp only
  go_wp2_with fail
  clear t0 t1 tl s0 s1 sl r0 r1 rl
  refine (long_any p3 A3 n3 c3 _).mono ?_
  rintro e w2 ⟨rfl, k2⟩
  rw [show decide (60 < n3) = false from decide_eq_false (by omega)]
  have HX1 := Lib.hid (HX.out.keep k2)
  clear HX k2
  have HX := Lib.hid HX1.out
  clear HX1
  obtain ⟨t0, t1, tl⟩ := HX.out.cells (.head _)
  obtain ⟨s0, s1, sl⟩ := HX.out.cells (.tail _ (.head _))
  obtain ⟨r0, r1, rl⟩ := HX.out.cells (.tail _ (.tail _ (.head _)))
  try dsimp only
  go_wp2_with fail
  clear t0 t1 tl s0 s1 sl r0 r1 rl
  obtain ⟨xa, hxa⟩ : ∃ x, x = sval p1 l1 := ⟨_, rfl⟩
  obtain ⟨xb, hxb⟩ : ∃ x, x = sval p2 l2 := ⟨_, rfl⟩
  obtain ⟨xc, hxc⟩ : ∃ x, x = sval p3 l3 := ⟨_, rfl⟩
  have HV := Lib.hid (And.intro hxa (And.intro hxb hxc))
  clear hxa hxb hxc
  refine (norm_any p1 A1 n1 c1 l1 _ (HX.out.m _ (.tail _ (.tail _ (.head _))))).mono ?_
  intro e w_a hres
  rw [← HV.out.1] at hres
  obtain ⟨k_a, q_a, A_a, n_a, c_a, l_a, f_a, rfl, LM, ln_a, ho⟩ := hres.gen
  have HO_a := Lib.hid ho
  clear ho
  have HX1 := Lib.hid (HX.out.keep k_a)
  clear HX k_a
  have HX := Lib.hid HX1.out
  clear HX1
  have HX1 := Lib.hid (HX.out.num LM)
  clear HX LM
  have HX := Lib.hid HX1.out
  clear HX1
  obtain ⟨fz0, fz1⟩ := HX.out.frozen (.tail _ (.tail _ (.head _)))
  obtain ⟨t0, t1, tl⟩ := HX.out.cells (.head _)
  obtain ⟨s0, s1, sl⟩ := HX.out.cells (.tail _ (.head _))
  obtain ⟨r0, r1, rl⟩ := HX.out.cells (.tail _ (.tail _ (.head _)))
  try dsimp only
  go_wp2_with fail
  clear t0 t1 tl s0 s1 sl r0 r1 rl
  clear fz0 fz1
  have HX1 := Lib.hid (HX.out.set (bs' := [(B0 + 1 + 1, .bool p3, .slice A3 n3 c3), (B0 + 1, .bool p2, .slice A2 n2 c2)]) (.tail _ (.tail _ (.head _))) (by have := HSZ.out; omega) (List.forall_mem_cons.2 ⟨⟨(.head _), by dsimp only; omega⟩, (List.forall_mem_cons.2 ⟨⟨(.tail _ (.head _)), by dsimp only; omega⟩, (fun _ h => by cases h)⟩)⟩) (.bool q_a) (.slice A_a n_a c_a))
  clear HX
  have HX := Lib.hid HX1.out
  clear HX1
  refine (norm_any p2 A2 n2 c2 l2 _ (HX.out.m _ (.tail _ (.tail _ (.head _))))).mono ?_
  intro e w_b hres
  rw [← HV.out.2.1] at hres
  obtain ⟨k_b, q_b, A_b, n_b, c_b, l_b, f_b, rfl, LM, ln_b, ho⟩ := hres.gen
  have HO_b := Lib.hid ho
  clear ho
  have HX1 := Lib.hid (HX.out.keep k_b)
  clear HX k_b
  have HX := Lib.hid HX1.out
  clear HX1
  have HX1 := Lib.hid (HX.out.num LM)
  clear HX LM
  have HX := Lib.hid HX1.out
  clear HX1
  obtain ⟨fz0, fz1⟩ := HX.out.frozen (.tail _ (.tail _ (.head _)))
  obtain ⟨r0, r1, rl⟩ := HX.out.cells (.head _)
  obtain ⟨t0, t1, tl⟩ := HX.out.cells (.tail _ (.head _))
  obtain ⟨s0, s1, sl⟩ := HX.out.cells (.tail _ (.tail _ (.head _)))
  try dsimp only
  go_wp2_with fail
  clear r0 r1 rl t0 t1 tl s0 s1 sl
  clear fz0 fz1
  have HX1 := Lib.hid (HX.out.set (bs' := [(B0, .bool q_a, .slice A_a n_a c_a), (B0 + 1 + 1, .bool p3, .slice A3 n3 c3)]) (.tail _ (.tail _ (.head _))) (by have := HSZ.out; omega) (List.forall_mem_cons.2 ⟨⟨(.head _), by dsimp only; omega⟩, (List.forall_mem_cons.2 ⟨⟨(.tail _ (.head _)), by dsimp only; omega⟩, (fun _ h => by cases h)⟩)⟩) (.bool q_b) (.slice A_b n_b c_b))
  clear HX
  have HX := Lib.hid HX1.out
  clear HX1
  refine (norm_any p3 A3 n3 c3 l3 _ (HX.out.m _ (.tail _ (.tail _ (.head _))))).mono ?_
  intro e w_c hres
  rw [← HV.out.2.2] at hres
  obtain ⟨k_c, q_c, A_c, n_c, c_c, l_c, f_c, rfl, LM, ln_c, ho⟩ := hres.gen
  have HO_c := Lib.hid ho
  clear ho hres
  have HX1 := Lib.hid (HX.out.keep k_c)
  clear HX k_c
  have HX := Lib.hid HX1.out
  clear HX1
  have HX1 := Lib.hid (HX.out.num LM)
  clear HX LM
  have HX := Lib.hid HX1.out
  clear HX1
  rcases HO_a.out.two with hf | hf
  · subst hf
    rcases HO_b.out.two with hf | hf
    · subst hf
      rcases HO_c.out.two with hf | hf
      · subst hf
        obtain ⟨fz0, fz1⟩ := HX.out.frozen (.tail _ (.tail _ (.head _)))
        obtain ⟨s0, s1, sl⟩ := HX.out.cells (.head _)
        obtain ⟨r0, r1, rl⟩ := HX.out.cells (.tail _ (.head _))
        obtain ⟨t0, t1, tl⟩ := HX.out.cells (.tail _ (.tail _ (.head _)))
        try dsimp only
        go_wp2_with fail
        clear s0 s1 sl r0 r1 rl t0 t1 tl
        clear fz0 fz1
        have HX1 := Lib.hid (HX.out.set (bs' := [(B0 + 1, .bool q_b, .slice A_b n_b c_b), (B0, .bool q_a, .slice A_a n_a c_a)]) (.tail _ (.tail _ (.head _))) (by have := HSZ.out; omega) (List.forall_mem_cons.2 ⟨⟨(.head _), by dsimp only; omega⟩, (List.forall_mem_cons.2 ⟨⟨(.tail _ (.head _)), by dsimp only; omega⟩, (fun _ h => by cases h)⟩)⟩) (.bool q_c) (.slice A_c n_c c_c))
        clear HX
        have HX := Lib.hid HX1.out
        clear HX1
        have VA := Lib.hid HO_a.out.val
        have VB := Lib.hid HO_b.out.val
        have VC := Lib.hid HO_c.out.val
        refine (add_any q_a A_a n_a c_a l_a q_b A_b n_b c_b l_b _ (HX.out.m _ (.tail _ (.tail _ (.head _)))) (HX.out.m _ (.tail _ (.head _))) (by omega) (by omega)).mono ?_
        intro e w_x hres
        rw [VA.out, VB.out] at hres
        obtain ⟨k_x, q_x, A_x, n_x, c_x, l_x, f_x, rfl, LM, ln_x, ho⟩ := hres.gen
        have HO_x := Lib.hid ho
        clear ho hres
        have HX1 := Lib.hid (HX.out.keep k_x)
        clear HX k_x
        have HX := Lib.hid HX1.out
        clear HX1
        have HX1 := Lib.hid (HX.out.num LM)
        clear HX LM
        have HX := Lib.hid HX1.out
        clear HX1
        obtain ⟨t0, t1, tl⟩ := HX.out.cells (.head _)
        obtain ⟨s0, s1, sl⟩ := HX.out.cells (.tail _ (.head _))
        obtain ⟨r0, r1, rl⟩ := HX.out.cells (.tail _ (.tail _ (.head _)))
        try dsimp only
        go_wp2_with fail
        clear t0 t1 tl s0 s1 sl r0 r1 rl
        have HX1 := Lib.hid (HX.out.box (.bool q_x) (.slice A_x n_x c_x))
        clear HX
        have HX := Lib.hid HX1.out
        clear HX1
        refine (add_any q_b A_b n_b c_b l_b q_a A_a n_a c_a l_a _ (HX.out.m _ (.tail _ (.tail _ (.head _)))) (HX.out.m _ (.tail _ (.tail _ (.tail _ (.head _))))) (by omega) (by omega)).mono ?_
        intro e w_y hres
        rw [VB.out, VA.out, Int.add_comm xb xa] at hres
        obtain ⟨k_y, q_y, A_y, n_y, c_y, l_y, f_y, rfl, LM, ln_y, ho⟩ := hres.gen
        have HO_y := Lib.hid ho
        clear ho hres
        have HX1 := Lib.hid (HX.out.keep k_y)
        clear HX k_y
        have HX := Lib.hid HX1.out
        clear HX1
        have HX1 := Lib.hid (HX.out.num LM)
        clear HX LM
        have HX := Lib.hid HX1.out
        clear HX1
        obtain ⟨e1, e2, e3⟩ := HO_x.out.det HO_y.out
        subst e3
        have HE := Lib.hid (And.intro e1 e2)
        clear e1 e2
        obtain ⟨x0, x1, xl⟩ := HX.out.cells (.head _)
        obtain ⟨t0, t1, tl⟩ := HX.out.cells (.tail _ (.head _))
        obtain ⟨s0, s1, sl⟩ := HX.out.cells (.tail _ (.tail _ (.head _)))
        obtain ⟨r0, r1, rl⟩ := HX.out.cells (.tail _ (.tail _ (.tail _ (.head _))))
        try dsimp only
        go_wp2_with fail
        clear x0 x1 xl t0 t1 tl s0 s1 sl r0 r1 rl
        have HX1 := Lib.hid (HX.out.box (.bool q_y) (.slice A_y n_y c_y))
        clear HX
        have HX := Lib.hid HX1.out
        clear HX1
        refine (same_any q_x A_x n_x c_x l_x q_y A_y n_y c_y l_y _ (HX.out.m _ (.tail _ (.head _))) (HX.out.m _ (.head _))).mono ?_
        rintro e wi ⟨rfl, ki⟩
        rw [HE.out.1, HE.out.2, same_self]
        have HX1 := Lib.hid (HX.out.keep ki)
        clear HX ki
        have HX := Lib.hid HX1.out
        clear HX1
        rcases HO_x.out.two with hf | hf
        · subst hf
          obtain ⟨y0, y1, yl⟩ := HX.out.cells (.head _)
          obtain ⟨x0, x1, xl⟩ := HX.out.cells (.tail _ (.head _))
          obtain ⟨t0, t1, tl⟩ := HX.out.cells (.tail _ (.tail _ (.head _)))
          obtain ⟨s0, s1, sl⟩ := HX.out.cells (.tail _ (.tail _ (.tail _ (.head _))))
          obtain ⟨r0, r1, rl⟩ := HX.out.cells (.tail _ (.tail _ (.tail _ (.tail _ (.head _)))))
          try dsimp only
          go_wp2_with fail
          clear y0 y1 yl x0 x1 xl t0 t1 tl s0 s1 sl r0 r1 rl
          have VX := Lib.hid HO_x.out.val
          refine (sub_any q_x A_x n_x c_x l_x q_b A_b n_b c_b l_b _ (HX.out.m _ (.tail _ (.head _))) (HX.out.m _ (.tail _ (.tail _ (.tail _ (.head _))))) (by omega) (by omega)).mono ?_
          intro e w_z hres
          rw [VX.out, VB.out, show xa + xb - xb = xa from by omega] at hres
          obtain ⟨k_z, q_z, A_z, n_z, c_z, l_z, f_z, rfl, LM, ln_z, ho⟩ := hres.gen
          have HO_z := Lib.hid ho
          clear ho hres
          have HX1 := Lib.hid (HX.out.keep k_z)
          clear HX k_z
          have HX := Lib.hid HX1.out
          clear HX1
          have HX1 := Lib.hid (HX.out.num LM)
          clear HX LM
          have HX := Lib.hid HX1.out
          clear HX1
          obtain rfl := HO_z.out.ok HO_a.out.fits
          obtain ⟨e1, e2, _⟩ := HO_a.out.det HO_z.out
          have HE2 := Lib.hid (And.intro e1 e2)
          clear e1 e2
          obtain ⟨y0, y1, yl⟩ := HX.out.cells (.head _)
          obtain ⟨x0, x1, xl⟩ := HX.out.cells (.tail _ (.head _))
          obtain ⟨t0, t1, tl⟩ := HX.out.cells (.tail _ (.tail _ (.head _)))
          obtain ⟨s0, s1, sl⟩ := HX.out.cells (.tail _ (.tail _ (.tail _ (.head _))))
          obtain ⟨r0, r1, rl⟩ := HX.out.cells (.tail _ (.tail _ (.tail _ (.tail _ (.head _)))))
          try dsimp only
          go_wp2_with fail
          clear y0 y1 yl x0 x1 xl t0 t1 tl s0 s1 sl r0 r1 rl
          have HX1 := Lib.hid (HX.out.box (.bool q_z) (.slice A_z n_z c_z))
          clear HX
          have HX := Lib.hid HX1.out
          clear HX1
          refine (same_any q_z A_z n_z c_z l_z q_a A_a n_a c_a l_a _ (HX.out.m _ (.head _)) (HX.out.m _ (.tail _ (.tail _ (.tail _ (.tail _ (.tail _ (.head _)))))))).mono ?_
          rintro e wi ⟨rfl, ki⟩
          rw [HE2.out.1, HE2.out.2, same_self]
          have HX1 := Lib.hid (HX.out.keep ki)
          clear HX ki
          have HX := Lib.hid HX1.out
          clear HX1
          obtain ⟨z0, z1, zl⟩ := HX.out.cells (.head _)
          obtain ⟨y0, y1, yl⟩ := HX.out.cells (.tail _ (.head _))
          obtain ⟨x0, x1, xl⟩ := HX.out.cells (.tail _ (.tail _ (.head _)))
          obtain ⟨t0, t1, tl⟩ := HX.out.cells (.tail _ (.tail _ (.tail _ (.head _))))
          obtain ⟨s0, s1, sl⟩ := HX.out.cells (.tail _ (.tail _ (.tail _ (.tail _ (.head _)))))
          obtain ⟨r0, r1, rl⟩ := HX.out.cells (.tail _ (.tail _ (.tail _ (.tail _ (.tail _ (.head _))))))
          try dsimp only
          go_wp2_with fail
          clear z0 z1 zl y0 y1 yl x0 x1 xl t0 t1 tl s0 s1 sl r0 r1 rl
          refine (mul_any q_a A_a n_a c_a l_a q_b A_b n_b c_b l_b _ (HX.out.m _ (.tail _ (.tail _ (.tail _ (.tail _ (.tail _ (.head _))))))) (HX.out.m _ (.tail _ (.tail _ (.tail _ (.tail _ (.head _)))))) (by omega) (by omega)).mono ?_
          intro e w_pp hres
          rw [VA.out, VB.out] at hres
          obtain ⟨k_pp, q_pp, A_pp, n_pp, c_pp, l_pp, f_pp, rfl, LM, ln_pp, ho⟩ := hres.gen
          have HO_pp := Lib.hid ho
          clear ho hres
          have HX1 := Lib.hid (HX.out.keep k_pp)
          clear HX k_pp
          have HX := Lib.hid HX1.out
          clear HX1
          have HX1 := Lib.hid (HX.out.num LM)
          clear HX LM
          have HX := Lib.hid HX1.out
          clear HX1
          obtain ⟨z0, z1, zl⟩ := HX.out.cells (.head _)
          obtain ⟨y0, y1, yl⟩ := HX.out.cells (.tail _ (.head _))
          obtain ⟨x0, x1, xl⟩ := HX.out.cells (.tail _ (.tail _ (.head _)))
          obtain ⟨t0, t1, tl⟩ := HX.out.cells (.tail _ (.tail _ (.tail _ (.head _))))
          obtain ⟨s0, s1, sl⟩ := HX.out.cells (.tail _ (.tail _ (.tail _ (.tail _ (.head _)))))
          obtain ⟨r0, r1, rl⟩ := HX.out.cells (.tail _ (.tail _ (.tail _ (.tail _ (.tail _ (.head _))))))
          try dsimp only
          go_wp2_with fail
          clear z0 z1 zl y0 y1 yl x0 x1 xl t0 t1 tl s0 s1 sl r0 r1 rl
          have HX1 := Lib.hid (HX.out.box (.bool q_pp) (.slice A_pp n_pp c_pp))
          clear HX
          have HX := Lib.hid HX1.out
          clear HX1
          refine (mul_any q_b A_b n_b c_b l_b q_a A_a n_a c_a l_a _ (HX.out.m _ (.tail _ (.tail _ (.tail _ (.tail _ (.tail _ (.head _))))))) (HX.out.m _ (.tail _ (.tail _ (.tail _ (.tail _ (.tail _ (.tail _ (.head _)))))))) (by omega) (by omega)).mono ?_
          intro e w_o hres
          rw [VB.out, VA.out, Int.mul_comm xb xa] at hres
          obtain ⟨k_o, q_o, A_o, n_o, c_o, l_o, f_o, rfl, LM, ln_o, ho⟩ := hres.gen
          have HO_o := Lib.hid ho
          clear ho hres
          have HX1 := Lib.hid (HX.out.keep k_o)
          clear HX k_o
          have HX := Lib.hid HX1.out
          clear HX1
          have HX1 := Lib.hid (HX.out.num LM)
          clear HX LM
          have HX := Lib.hid HX1.out
          clear HX1
          obtain ⟨e1, e2, e3⟩ := HO_pp.out.det HO_o.out
          subst e3
          have HE3 := Lib.hid (And.intro e1 e2)
          clear e1 e2
          obtain ⟨pp0, pp1, ppl⟩ := HX.out.cells (.head _)
          obtain ⟨z0, z1, zl⟩ := HX.out.cells (.tail _ (.head _))
          obtain ⟨y0, y1, yl⟩ := HX.out.cells (.tail _ (.tail _ (.head _)))
          obtain ⟨x0, x1, xl⟩ := HX.out.cells (.tail _ (.tail _ (.tail _ (.head _))))
          obtain ⟨t0, t1, tl⟩ := HX.out.cells (.tail _ (.tail _ (.tail _ (.tail _ (.head _)))))
          obtain ⟨s0, s1, sl⟩ := HX.out.cells (.tail _ (.tail _ (.tail _ (.tail _ (.tail _ (.head _))))))
          obtain ⟨r0, r1, rl⟩ := HX.out.cells (.tail _ (.tail _ (.tail _ (.tail _ (.tail _ (.tail _ (.head _)))))))
          try dsimp only
          go_wp2_with fail
          clear pp0 pp1 ppl z0 z1 zl y0 y1 yl x0 x1 xl t0 t1 tl s0 s1 sl r0 r1 rl
          have HX1 := Lib.hid (HX.out.box (.bool q_o) (.slice A_o n_o c_o))
          clear HX
          have HX := Lib.hid HX1.out
          clear HX1
          refine (same_any q_pp A_pp n_pp c_pp l_pp q_o A_o n_o c_o l_o _ (HX.out.m _ (.tail _ (.head _))) (HX.out.m _ (.head _))).mono ?_
          rintro e wi ⟨rfl, ki⟩
          rw [HE3.out.1, HE3.out.2, same_self]
          have HX1 := Lib.hid (HX.out.keep ki)
          clear HX ki
          have HX := Lib.hid HX1.out
          clear HX1
          obtain ⟨o0, o1, ol⟩ := HX.out.cells (.head _)
          obtain ⟨pp0, pp1, ppl⟩ := HX.out.cells (.tail _ (.head _))
          obtain ⟨z0, z1, zl⟩ := HX.out.cells (.tail _ (.tail _ (.head _)))
          obtain ⟨y0, y1, yl⟩ := HX.out.cells (.tail _ (.tail _ (.tail _ (.head _))))
          obtain ⟨x0, x1, xl⟩ := HX.out.cells (.tail _ (.tail _ (.tail _ (.tail _ (.head _)))))
          obtain ⟨t0, t1, tl⟩ := HX.out.cells (.tail _ (.tail _ (.tail _ (.tail _ (.tail _ (.head _))))))
          obtain ⟨s0, s1, sl⟩ := HX.out.cells (.tail _ (.tail _ (.tail _ (.tail _ (.tail _ (.tail _ (.head _)))))))
          obtain ⟨r0, r1, rl⟩ := HX.out.cells (.tail _ (.tail _ (.tail _ (.tail _ (.tail _ (.tail _ (.tail _ (.head _))))))))
          try dsimp only
          go_wp2_with fail
          clear o0 o1 ol pp0 pp1 ppl z0 z1 zl y0 y1 yl x0 x1 xl t0 t1 tl s0 s1 sl r0 r1 rl
          refine (mul_any q_x A_x n_x c_x l_x q_c A_c n_c c_c l_c _ (HX.out.m _ (.tail _ (.tail _ (.tail _ (.tail _ (.head _)))))) (HX.out.m _ (.tail _ (.tail _ (.tail _ (.tail _ (.tail _ (.head _))))))) (by omega) (by omega)).mono ?_
          intro e w_u hres
          rw [VX.out, VC.out] at hres
          obtain ⟨k_u, q_u, A_u, n_u, c_u, l_u, f_u, rfl, LM, ln_u, ho⟩ := hres.gen
          have HO_u := Lib.hid ho
          clear ho hres
          have HX1 := Lib.hid (HX.out.keep k_u)
          clear HX k_u
          have HX := Lib.hid HX1.out
          clear HX1
          have HX1 := Lib.hid (HX.out.num LM)
          clear HX LM
          have HX := Lib.hid HX1.out
          clear HX1
          obtain ⟨o0, o1, ol⟩ := HX.out.cells (.head _)
          obtain ⟨pp0, pp1, ppl⟩ := HX.out.cells (.tail _ (.head _))
          obtain ⟨z0, z1, zl⟩ := HX.out.cells (.tail _ (.tail _ (.head _)))
          obtain ⟨y0, y1, yl⟩ := HX.out.cells (.tail _ (.tail _ (.tail _ (.head _))))
          obtain ⟨x0, x1, xl⟩ := HX.out.cells (.tail _ (.tail _ (.tail _ (.tail _ (.head _)))))
          obtain ⟨t0, t1, tl⟩ := HX.out.cells (.tail _ (.tail _ (.tail _ (.tail _ (.tail _ (.head _))))))
          obtain ⟨s0, s1, sl⟩ := HX.out.cells (.tail _ (.tail _ (.tail _ (.tail _ (.tail _ (.tail _ (.head _)))))))
          obtain ⟨r0, r1, rl⟩ := HX.out.cells (.tail _ (.tail _ (.tail _ (.tail _ (.tail _ (.tail _ (.tail _ (.head _))))))))
          try dsimp only
          go_wp2_with fail
          clear o0 o1 ol pp0 pp1 ppl z0 z1 zl y0 y1 yl x0 x1 xl t0 t1 tl s0 s1 sl r0 r1 rl
          have HX1 := Lib.hid (HX.out.box (.bool q_u) (.slice A_u n_u c_u))
          clear HX
          have HX := Lib.hid HX1.out
          clear HX1
          refine (mul_any q_a A_a n_a c_a l_a q_c A_c n_c c_c l_c _ (HX.out.m _ (.tail _ (.tail _ (.tail _ (.tail _ (.tail _ (.tail _ (.tail _ (.tail _ (.head _)))))))))) (HX.out.m _ (.tail _ (.tail _ (.tail _ (.tail _ (.tail _ (.tail _ (.head _)))))))) (by omega) (by omega)).mono ?_
          intro e w_v hres
          rw [VA.out, VC.out] at hres
          obtain ⟨k_v, q_v, A_v, n_v, c_v, l_v, f_v, rfl, LM, ln_v, ho⟩ := hres.gen
          have HO_v := Lib.hid ho
          clear ho hres
          have HX1 := Lib.hid (HX.out.keep k_v)
          clear HX k_v
          have HX := Lib.hid HX1.out
          clear HX1
          have HX1 := Lib.hid (HX.out.num LM)
          clear HX LM
          have HX := Lib.hid HX1.out
          clear HX1
          obtain ⟨u0, u1, ul⟩ := HX.out.cells (.head _)
          obtain ⟨o0, o1, ol⟩ := HX.out.cells (.tail _ (.head _))
          obtain ⟨pp0, pp1, ppl⟩ := HX.out.cells (.tail _ (.tail _ (.head _)))
          obtain ⟨z0, z1, zl⟩ := HX.out.cells (.tail _ (.tail _ (.tail _ (.head _))))
          obtain ⟨y0, y1, yl⟩ := HX.out.cells (.tail _ (.tail _ (.tail _ (.tail _ (.head _)))))
          obtain ⟨x0, x1, xl⟩ := HX.out.cells (.tail _ (.tail _ (.tail _ (.tail _ (.tail _ (.head _))))))
          obtain ⟨t0, t1, tl⟩ := HX.out.cells (.tail _ (.tail _ (.tail _ (.tail _ (.tail _ (.tail _ (.head _)))))))
          obtain ⟨s0, s1, sl⟩ := HX.out.cells (.tail _ (.tail _ (.tail _ (.tail _ (.tail _ (.tail _ (.tail _ (.head _))))))))
          obtain ⟨r0, r1, rl⟩ := HX.out.cells (.tail _ (.tail _ (.tail _ (.tail _ (.tail _ (.tail _ (.tail _ (.tail _ (.head _)))))))))
          try dsimp only
          go_wp2_with fail
          clear u0 u1 ul o0 o1 ol pp0 pp1 ppl z0 z1 zl y0 y1 yl x0 x1 xl t0 t1 tl s0 s1 sl r0 r1 rl
          have HX1 := Lib.hid (HX.out.box (.bool q_v) (.slice A_v n_v c_v))
          clear HX
          have HX := Lib.hid HX1.out
          clear HX1
          refine (mul_any q_b A_b n_b c_b l_b q_c A_c n_c c_c l_c _ (HX.out.m _ (.tail _ (.tail _ (.tail _ (.tail _ (.tail _ (.tail _ (.tail _ (.tail _ (.head _)))))))))) (HX.out.m _ (.tail _ (.tail _ (.tail _ (.tail _ (.tail _ (.tail _ (.tail _ (.head _))))))))) (by omega) (by omega)).mono ?_
          intro e w_m hres
          rw [VB.out, VC.out] at hres
          obtain ⟨k_m, q_m, A_m, n_m, c_m, l_m, f_m, rfl, LM, ln_m, ho⟩ := hres.gen
          have HO_m := Lib.hid ho
          clear ho hres
          have HX1 := Lib.hid (HX.out.keep k_m)
          clear HX k_m
          have HX := Lib.hid HX1.out
          clear HX1
          have HX1 := Lib.hid (HX.out.num LM)
          clear HX LM
          have HX := Lib.hid HX1.out
          clear HX1
          rcases HO_u.out.two with hf | hf
          · subst hf
            rcases HO_v.out.two with hf | hf
            · subst hf
              rcases HO_m.out.two with hf | hf
              · subst hf
                obtain ⟨v0, v1, vl⟩ := HX.out.cells (.head _)
                obtain ⟨u0, u1, ul⟩ := HX.out.cells (.tail _ (.head _))
                obtain ⟨o0, o1, ol⟩ := HX.out.cells (.tail _ (.tail _ (.head _)))
                obtain ⟨pp0, pp1, ppl⟩ := HX.out.cells (.tail _ (.tail _ (.tail _ (.head _))))
                obtain ⟨z0, z1, zl⟩ := HX.out.cells (.tail _ (.tail _ (.tail _ (.tail _ (.head _)))))
                obtain ⟨y0, y1, yl⟩ := HX.out.cells (.tail _ (.tail _ (.tail _ (.tail _ (.tail _ (.head _))))))
                obtain ⟨x0, x1, xl⟩ := HX.out.cells (.tail _ (.tail _ (.tail _ (.tail _ (.tail _ (.tail _ (.head _)))))))
                obtain ⟨t0, t1, tl⟩ := HX.out.cells (.tail _ (.tail _ (.tail _ (.tail _ (.tail _ (.tail _ (.tail _ (.head _))))))))
                obtain ⟨s0, s1, sl⟩ := HX.out.cells (.tail _ (.tail _ (.tail _ (.tail _ (.tail _ (.tail _ (.tail _ (.tail _ (.head _)))))))))
                obtain ⟨r0, r1, rl⟩ := HX.out.cells (.tail _ (.tail _ (.tail _ (.tail _ (.tail _ (.tail _ (.tail _ (.tail _ (.tail _ (.head _))))))))))
                try dsimp only
                go_wp2_with fail
                clear v0 v1 vl u0 u1 ul o0 o1 ol pp0 pp1 ppl z0 z1 zl y0 y1 yl x0 x1 xl t0 t1 tl s0 s1 sl r0 r1 rl
                have HX1 := Lib.hid (HX.out.box (.bool q_m) (.slice A_m n_m c_m))
                clear HX
                have HX := Lib.hid HX1.out
                clear HX1
                have VV := Lib.hid HO_v.out.val
                have VM := Lib.hid HO_m.out.val
                refine (add_any q_v A_v n_v c_v l_v q_m A_m n_m c_m l_m _ (HX.out.m _ (.tail _ (.head _))) (HX.out.m _ (.head _)) (by omega) (by omega)).mono ?_
                intro e w_d hres
                rw [VV.out, VM.out, ← Int.add_mul] at hres
                obtain ⟨k_d, q_d, A_d, n_d, c_d, l_d, f_d, rfl, LM, ln_d, ho⟩ := hres.gen
                have HO_d := Lib.hid ho
                clear ho hres
                have HX1 := Lib.hid (HX.out.keep k_d)
                clear HX k_d
                have HX := Lib.hid HX1.out
                clear HX1
                have HX1 := Lib.hid (HX.out.num LM)
                clear HX LM
                have HX := Lib.hid HX1.out
                clear HX1
                obtain rfl := HO_d.out.ok HO_u.out.fits
                obtain ⟨e1, e2, _⟩ := HO_u.out.det HO_d.out
                have HE4 := Lib.hid (And.intro e1 e2)
                clear e1 e2
                obtain ⟨m0, m1, ml⟩ := HX.out.cells (.head _)
                obtain ⟨v0, v1, vl⟩ := HX.out.cells (.tail _ (.head _))
                obtain ⟨u0, u1, ul⟩ := HX.out.cells (.tail _ (.tail _ (.head _)))
                obtain ⟨o0, o1, ol⟩ := HX.out.cells (.tail _ (.tail _ (.tail _ (.head _))))
                obtain ⟨pp0, pp1, ppl⟩ := HX.out.cells (.tail _ (.tail _ (.tail _ (.tail _ (.head _)))))
                obtain ⟨z0, z1, zl⟩ := HX.out.cells (.tail _ (.tail _ (.tail _ (.tail _ (.tail _ (.head _))))))
                obtain ⟨y0, y1, yl⟩ := HX.out.cells (.tail _ (.tail _ (.tail _ (.tail _ (.tail _ (.tail _ (.head _)))))))
                obtain ⟨x0, x1, xl⟩ := HX.out.cells (.tail _ (.tail _ (.tail _ (.tail _ (.tail _ (.tail _ (.tail _ (.head _))))))))
                obtain ⟨t0, t1, tl⟩ := HX.out.cells (.tail _ (.tail _ (.tail _ (.tail _ (.tail _ (.tail _ (.tail _ (.tail _ (.head _)))))))))
                obtain ⟨s0, s1, sl⟩ := HX.out.cells (.tail _ (.tail _ (.tail _ (.tail _ (.tail _ (.tail _ (.tail _ (.tail _ (.tail _ (.head _))))))))))
                obtain ⟨r0, r1, rl⟩ := HX.out.cells (.tail _ (.tail _ (.tail _ (.tail _ (.tail _ (.tail _ (.tail _ (.tail _ (.tail _ (.tail _ (.head _)))))))))))
                try dsimp only
                go_wp2_with fail
                clear m0 m1 ml v0 v1 vl u0 u1 ul o0 o1 ol pp0 pp1 ppl z0 z1 zl y0 y1 yl x0 x1 xl t0 t1 tl s0 s1 sl r0 r1 rl
                have HX1 := Lib.hid (HX.out.box (.bool q_d) (.slice A_d n_d c_d))
                clear HX
                have HX := Lib.hid HX1.out
                clear HX1
                refine (same_any q_d A_d n_d c_d l_d q_u A_u n_u c_u l_u _ (HX.out.m _ (.head _)) (HX.out.m _ (.tail _ (.tail _ (.tail _ (.head _)))))).mono ?_
                rintro e wi ⟨rfl, ki⟩
                rw [HE4.out.1, HE4.out.2, same_self]
                have HX1 := Lib.hid (HX.out.keep ki)
                clear HX ki
                have HX := Lib.hid HX1.out
                clear HX1
                obtain ⟨d0, d1, dl⟩ := HX.out.cells (.head _)
                obtain ⟨m0, m1, ml⟩ := HX.out.cells (.tail _ (.head _))
                obtain ⟨v0, v1, vl⟩ := HX.out.cells (.tail _ (.tail _ (.head _)))
                obtain ⟨u0, u1, ul⟩ := HX.out.cells (.tail _ (.tail _ (.tail _ (.head _))))
                obtain ⟨o0, o1, ol⟩ := HX.out.cells (.tail _ (.tail _ (.tail _ (.tail _ (.head _)))))
                obtain ⟨pp0, pp1, ppl⟩ := HX.out.cells (.tail _ (.tail _ (.tail _ (.tail _ (.tail _ (.head _))))))
                obtain ⟨z0, z1, zl⟩ := HX.out.cells (.tail _ (.tail _ (.tail _ (.tail _ (.tail _ (.tail _ (.head _)))))))
                obtain ⟨y0, y1, yl⟩ := HX.out.cells (.tail _ (.tail _ (.tail _ (.tail _ (.tail _ (.tail _ (.tail _ (.head _))))))))
                obtain ⟨x0, x1, xl⟩ := HX.out.cells (.tail _ (.tail _ (.tail _ (.tail _ (.tail _ (.tail _ (.tail _ (.tail _ (.head _)))))))))
                obtain ⟨t0, t1, tl⟩ := HX.out.cells (.tail _ (.tail _ (.tail _ (.tail _ (.tail _ (.tail _ (.tail _ (.tail _ (.tail _ (.head _))))))))))
                obtain ⟨s0, s1, sl⟩ := HX.out.cells (.tail _ (.tail _ (.tail _ (.tail _ (.tail _ (.tail _ (.tail _ (.tail _ (.tail _ (.tail _ (.head _)))))))))))
                obtain ⟨r0, r1, rl⟩ := HX.out.cells (.tail _ (.tail _ (.tail _ (.tail _ (.tail _ (.tail _ (.tail _ (.tail _ (.tail _ (.tail _ (.tail _ (.head _))))))))))))
                try dsimp only
                go_wp2_with fail
                clear d0 d1 dl m0 m1 ml v0 v1 vl u0 u1 ul o0 o1 ol pp0 pp1 ppl z0 z1 zl y0 y1 yl x0 x1 xl t0 t1 tl s0 s1 sl r0 r1 rl
                refine (awake_any _ (HT.out.keep HX.out.k)).mono ?_
                rintro e wz ⟨rfl, kz⟩
                have HZ := Lib.hid (HX.out.k.trans kz)
                clear kz
                try dsimp only
                go_wp2_with fail
                go_ret
                exact ⟨rfl, HZ.out⟩
              · subst hf
                obtain ⟨v0, v1, vl⟩ := HX.out.cells (.head _)
                obtain ⟨u0, u1, ul⟩ := HX.out.cells (.tail _ (.head _))
                obtain ⟨o0, o1, ol⟩ := HX.out.cells (.tail _ (.tail _ (.head _)))
                obtain ⟨pp0, pp1, ppl⟩ := HX.out.cells (.tail _ (.tail _ (.tail _ (.head _))))
                obtain ⟨z0, z1, zl⟩ := HX.out.cells (.tail _ (.tail _ (.tail _ (.tail _ (.head _)))))
                obtain ⟨y0, y1, yl⟩ := HX.out.cells (.tail _ (.tail _ (.tail _ (.tail _ (.tail _ (.head _))))))
                obtain ⟨x0, x1, xl⟩ := HX.out.cells (.tail _ (.tail _ (.tail _ (.tail _ (.tail _ (.tail _ (.head _)))))))
                obtain ⟨t0, t1, tl⟩ := HX.out.cells (.tail _ (.tail _ (.tail _ (.tail _ (.tail _ (.tail _ (.tail _ (.head _))))))))
                obtain ⟨s0, s1, sl⟩ := HX.out.cells (.tail _ (.tail _ (.tail _ (.tail _ (.tail _ (.tail _ (.tail _ (.tail _ (.head _)))))))))
                obtain ⟨r0, r1, rl⟩ := HX.out.cells (.tail _ (.tail _ (.tail _ (.tail _ (.tail _ (.tail _ (.tail _ (.tail _ (.tail _ (.head _))))))))))
                try dsimp only
                go_wp2_with fail
                clear v0 v1 vl u0 u1 ul o0 o1 ol pp0 pp1 ppl z0 z1 zl y0 y1 yl x0 x1 xl t0 t1 tl s0 s1 sl r0 r1 rl
                have HX1 := Lib.hid (HX.out.box (.bool q_m) (.slice A_m n_m c_m))
                clear HX
                have HX := Lib.hid HX1.out
                clear HX1
                refine (awake_any _ (HT.out.keep HX.out.k)).mono ?_
                rintro e wz ⟨rfl, kz⟩
                have HZ := Lib.hid (HX.out.k.trans kz)
                clear kz
                try dsimp only
                go_wp2_with fail
                go_ret
                exact ⟨rfl, HZ.out⟩
            · subst hf
              obtain ⟨v0, v1, vl⟩ := HX.out.cells (.head _)
              obtain ⟨u0, u1, ul⟩ := HX.out.cells (.tail _ (.head _))
              obtain ⟨o0, o1, ol⟩ := HX.out.cells (.tail _ (.tail _ (.head _)))
              obtain ⟨pp0, pp1, ppl⟩ := HX.out.cells (.tail _ (.tail _ (.tail _ (.head _))))
              obtain ⟨z0, z1, zl⟩ := HX.out.cells (.tail _ (.tail _ (.tail _ (.tail _ (.head _)))))
              obtain ⟨y0, y1, yl⟩ := HX.out.cells (.tail _ (.tail _ (.tail _ (.tail _ (.tail _ (.head _))))))
              obtain ⟨x0, x1, xl⟩ := HX.out.cells (.tail _ (.tail _ (.tail _ (.tail _ (.tail _ (.tail _ (.head _)))))))
              obtain ⟨t0, t1, tl⟩ := HX.out.cells (.tail _ (.tail _ (.tail _ (.tail _ (.tail _ (.tail _ (.tail _ (.head _))))))))
              obtain ⟨s0, s1, sl⟩ := HX.out.cells (.tail _ (.tail _ (.tail _ (.tail _ (.tail _ (.tail _ (.tail _ (.tail _ (.head _)))))))))
              obtain ⟨r0, r1, rl⟩ := HX.out.cells (.tail _ (.tail _ (.tail _ (.tail _ (.tail _ (.tail _ (.tail _ (.tail _ (.tail _ (.head _))))))))))
              try dsimp only
              go_wp2_with fail
              clear v0 v1 vl u0 u1 ul o0 o1 ol pp0 pp1 ppl z0 z1 zl y0 y1 yl x0 x1 xl t0 t1 tl s0 s1 sl r0 r1 rl
              have HX1 := Lib.hid (HX.out.box (.bool q_m) (.slice A_m n_m c_m))
              clear HX
              have HX := Lib.hid HX1.out
              clear HX1
              refine (awake_any _ (HT.out.keep HX.out.k)).mono ?_
              rintro e wz ⟨rfl, kz⟩
              have HZ := Lib.hid (HX.out.k.trans kz)
              clear kz
              try dsimp only
              go_wp2_with fail
              go_ret
              exact ⟨rfl, HZ.out⟩
          · subst hf
            obtain ⟨v0, v1, vl⟩ := HX.out.cells (.head _)
            obtain ⟨u0, u1, ul⟩ := HX.out.cells (.tail _ (.head _))
            obtain ⟨o0, o1, ol⟩ := HX.out.cells (.tail _ (.tail _ (.head _)))
            obtain ⟨pp0, pp1, ppl⟩ := HX.out.cells (.tail _ (.tail _ (.tail _ (.head _))))
            obtain ⟨z0, z1, zl⟩ := HX.out.cells (.tail _ (.tail _ (.tail _ (.tail _ (.head _)))))
            obtain ⟨y0, y1, yl⟩ := HX.out.cells (.tail _ (.tail _ (.tail _ (.tail _ (.tail _ (.head _))))))
            obtain ⟨x0, x1, xl⟩ := HX.out.cells (.tail _ (.tail _ (.tail _ (.tail _ (.tail _ (.tail _ (.head _)))))))
            obtain ⟨t0, t1, tl⟩ := HX.out.cells (.tail _ (.tail _ (.tail _ (.tail _ (.tail _ (.tail _ (.tail _ (.head _))))))))
            obtain ⟨s0, s1, sl⟩ := HX.out.cells (.tail _ (.tail _ (.tail _ (.tail _ (.tail _ (.tail _ (.tail _ (.tail _ (.head _)))))))))
            obtain ⟨r0, r1, rl⟩ := HX.out.cells (.tail _ (.tail _ (.tail _ (.tail _ (.tail _ (.tail _ (.tail _ (.tail _ (.tail _ (.head _))))))))))
            try dsimp only
            go_wp2_with fail
            clear v0 v1 vl u0 u1 ul o0 o1 ol pp0 pp1 ppl z0 z1 zl y0 y1 yl x0 x1 xl t0 t1 tl s0 s1 sl r0 r1 rl
            have HX1 := Lib.hid (HX.out.box (.bool q_m) (.slice A_m n_m c_m))
            clear HX
            have HX := Lib.hid HX1.out
            clear HX1
            refine (awake_any _ (HT.out.keep HX.out.k)).mono ?_
            rintro e wz ⟨rfl, kz⟩
            have HZ := Lib.hid (HX.out.k.trans kz)
            clear kz
            try dsimp only
            go_wp2_with fail
            go_ret
            exact ⟨rfl, HZ.out⟩
        · subst hf
          obtain ⟨y0, y1, yl⟩ := HX.out.cells (.head _)
          obtain ⟨x0, x1, xl⟩ := HX.out.cells (.tail _ (.head _))
          obtain ⟨t0, t1, tl⟩ := HX.out.cells (.tail _ (.tail _ (.head _)))
          obtain ⟨s0, s1, sl⟩ := HX.out.cells (.tail _ (.tail _ (.tail _ (.head _))))
          obtain ⟨r0, r1, rl⟩ := HX.out.cells (.tail _ (.tail _ (.tail _ (.tail _ (.head _)))))
          try dsimp only
          go_wp2_with fail
          clear y0 y1 yl x0 x1 xl t0 t1 tl s0 s1 sl r0 r1 rl
          refine (mul_any q_a A_a n_a c_a l_a q_b A_b n_b c_b l_b _ (HX.out.m _ (.tail _ (.tail _ (.tail _ (.tail _ (.head _)))))) (HX.out.m _ (.tail _ (.tail _ (.tail _ (.head _))))) (by omega) (by omega)).mono ?_
          intro e w_pp hres
          rw [VA.out, VB.out] at hres
          obtain ⟨k_pp, q_pp, A_pp, n_pp, c_pp, l_pp, f_pp, rfl, LM, ln_pp, ho⟩ := hres.gen
          have HO_pp := Lib.hid ho
          clear ho hres
          have HX1 := Lib.hid (HX.out.keep k_pp)
          clear HX k_pp
          have HX := Lib.hid HX1.out
          clear HX1
          have HX1 := Lib.hid (HX.out.num LM)
          clear HX LM
          have HX := Lib.hid HX1.out
          clear HX1
          obtain ⟨y0, y1, yl⟩ := HX.out.cells (.head _)
          obtain ⟨x0, x1, xl⟩ := HX.out.cells (.tail _ (.head _))
          obtain ⟨t0, t1, tl⟩ := HX.out.cells (.tail _ (.tail _ (.head _)))
          obtain ⟨s0, s1, sl⟩ := HX.out.cells (.tail _ (.tail _ (.tail _ (.head _))))
          obtain ⟨r0, r1, rl⟩ := HX.out.cells (.tail _ (.tail _ (.tail _ (.tail _ (.head _)))))
          try dsimp only
          go_wp2_with fail
          clear y0 y1 yl x0 x1 xl t0 t1 tl s0 s1 sl r0 r1 rl
          have HX1 := Lib.hid (HX.out.box (.bool q_pp) (.slice A_pp n_pp c_pp))
          clear HX
          have HX := Lib.hid HX1.out
          clear HX1
          refine (mul_any q_b A_b n_b c_b l_b q_a A_a n_a c_a l_a _ (HX.out.m _ (.tail _ (.tail _ (.tail _ (.tail _ (.head _)))))) (HX.out.m _ (.tail _ (.tail _ (.tail _ (.tail _ (.tail _ (.head _))))))) (by omega) (by omega)).mono ?_
          intro e w_o hres
          rw [VB.out, VA.out, Int.mul_comm xb xa] at hres
          obtain ⟨k_o, q_o, A_o, n_o, c_o, l_o, f_o, rfl, LM, ln_o, ho⟩ := hres.gen
          have HO_o := Lib.hid ho
          clear ho hres
          have HX1 := Lib.hid (HX.out.keep k_o)
          clear HX k_o
          have HX := Lib.hid HX1.out
          clear HX1
          have HX1 := Lib.hid (HX.out.num LM)
          clear HX LM
          have HX := Lib.hid HX1.out
          clear HX1
          obtain ⟨e1, e2, e3⟩ := HO_pp.out.det HO_o.out
          subst e3
          have HE3 := Lib.hid (And.intro e1 e2)
          clear e1 e2
          obtain ⟨pp0, pp1, ppl⟩ := HX.out.cells (.head _)
          obtain ⟨y0, y1, yl⟩ := HX.out.cells (.tail _ (.head _))
          obtain ⟨x0, x1, xl⟩ := HX.out.cells (.tail _ (.tail _ (.head _)))
          obtain ⟨t0, t1, tl⟩ := HX.out.cells (.tail _ (.tail _ (.tail _ (.head _))))
          obtain ⟨s0, s1, sl⟩ := HX.out.cells (.tail _ (.tail _ (.tail _ (.tail _ (.head _)))))
          obtain ⟨r0, r1, rl⟩ := HX.out.cells (.tail _ (.tail _ (.tail _ (.tail _ (.tail _ (.head _))))))
          try dsimp only
          go_wp2_with fail
          clear pp0 pp1 ppl y0 y1 yl x0 x1 xl t0 t1 tl s0 s1 sl r0 r1 rl
          have HX1 := Lib.hid (HX.out.box (.bool q_o) (.slice A_o n_o c_o))
          clear HX
          have HX := Lib.hid HX1.out
          clear HX1
          refine (same_any q_pp A_pp n_pp c_pp l_pp q_o A_o n_o c_o l_o _ (HX.out.m _ (.tail _ (.head _))) (HX.out.m _ (.head _))).mono ?_
          rintro e wi ⟨rfl, ki⟩
          rw [HE3.out.1, HE3.out.2, same_self]
          have HX1 := Lib.hid (HX.out.keep ki)
          clear HX ki
          have HX := Lib.hid HX1.out
          clear HX1
          obtain ⟨o0, o1, ol⟩ := HX.out.cells (.head _)
          obtain ⟨pp0, pp1, ppl⟩ := HX.out.cells (.tail _ (.head _))
          obtain ⟨y0, y1, yl⟩ := HX.out.cells (.tail _ (.tail _ (.head _)))
          obtain ⟨x0, x1, xl⟩ := HX.out.cells (.tail _ (.tail _ (.tail _ (.head _))))
          obtain ⟨t0, t1, tl⟩ := HX.out.cells (.tail _ (.tail _ (.tail _ (.tail _ (.head _)))))
          obtain ⟨s0, s1, sl⟩ := HX.out.cells (.tail _ (.tail _ (.tail _ (.tail _ (.tail _ (.head _))))))
          obtain ⟨r0, r1, rl⟩ := HX.out.cells (.tail _ (.tail _ (.tail _ (.tail _ (.tail _ (.tail _ (.head _)))))))
          try dsimp only
          go_wp2_with fail
          clear o0 o1 ol pp0 pp1 ppl y0 y1 yl x0 x1 xl t0 t1 tl s0 s1 sl r0 r1 rl
          refine (mul_any q_x A_x n_x c_x l_x q_c A_c n_c c_c l_c _ (HX.out.m _ (.tail _ (.tail _ (.tail _ (.head _))))) (HX.out.m _ (.tail _ (.tail _ (.tail _ (.tail _ (.head _)))))) (by omega) (by omega)).mono ?_
          intro e w_u hres
          rw [VC.out] at hres
          obtain ⟨k_u, q_u, A_u, n_u, c_u, l_u, f_u, rfl, LM, ln_u, ho⟩ := hres.gen
          have HO_u := Lib.hid ho
          clear ho hres
          have HX1 := Lib.hid (HX.out.keep k_u)
          clear HX k_u
          have HX := Lib.hid HX1.out
          clear HX1
          have HX1 := Lib.hid (HX.out.num LM)
          clear HX LM
          have HX := Lib.hid HX1.out
          clear HX1
          obtain ⟨o0, o1, ol⟩ := HX.out.cells (.head _)
          obtain ⟨pp0, pp1, ppl⟩ := HX.out.cells (.tail _ (.head _))
          obtain ⟨y0, y1, yl⟩ := HX.out.cells (.tail _ (.tail _ (.head _)))
          obtain ⟨x0, x1, xl⟩ := HX.out.cells (.tail _ (.tail _ (.tail _ (.head _))))
          obtain ⟨t0, t1, tl⟩ := HX.out.cells (.tail _ (.tail _ (.tail _ (.tail _ (.head _)))))
          obtain ⟨s0, s1, sl⟩ := HX.out.cells (.tail _ (.tail _ (.tail _ (.tail _ (.tail _ (.head _))))))
          obtain ⟨r0, r1, rl⟩ := HX.out.cells (.tail _ (.tail _ (.tail _ (.tail _ (.tail _ (.tail _ (.head _)))))))
          try dsimp only
          go_wp2_with fail
          clear o0 o1 ol pp0 pp1 ppl y0 y1 yl x0 x1 xl t0 t1 tl s0 s1 sl r0 r1 rl
          have HX1 := Lib.hid (HX.out.box (.bool q_u) (.slice A_u n_u c_u))
          clear HX
          have HX := Lib.hid HX1.out
          clear HX1
          refine (mul_any q_a A_a n_a c_a l_a q_c A_c n_c c_c l_c _ (HX.out.m _ (.tail _ (.tail _ (.tail _ (.tail _ (.tail _ (.tail _ (.tail _ (.head _))))))))) (HX.out.m _ (.tail _ (.tail _ (.tail _ (.tail _ (.tail _ (.head _))))))) (by omega) (by omega)).mono ?_
          intro e w_v hres
          rw [VA.out, VC.out] at hres
          obtain ⟨k_v, q_v, A_v, n_v, c_v, l_v, f_v, rfl, LM, ln_v, ho⟩ := hres.gen
          have HO_v := Lib.hid ho
          clear ho hres
          have HX1 := Lib.hid (HX.out.keep k_v)
          clear HX k_v
          have HX := Lib.hid HX1.out
          clear HX1
          have HX1 := Lib.hid (HX.out.num LM)
          clear HX LM
          have HX := Lib.hid HX1.out
          clear HX1
          obtain ⟨u0, u1, ul⟩ := HX.out.cells (.head _)
          obtain ⟨o0, o1, ol⟩ := HX.out.cells (.tail _ (.head _))
          obtain ⟨pp0, pp1, ppl⟩ := HX.out.cells (.tail _ (.tail _ (.head _)))
          obtain ⟨y0, y1, yl⟩ := HX.out.cells (.tail _ (.tail _ (.tail _ (.head _))))
          obtain ⟨x0, x1, xl⟩ := HX.out.cells (.tail _ (.tail _ (.tail _ (.tail _ (.head _)))))
          obtain ⟨t0, t1, tl⟩ := HX.out.cells (.tail _ (.tail _ (.tail _ (.tail _ (.tail _ (.head _))))))
          obtain ⟨s0, s1, sl⟩ := HX.out.cells (.tail _ (.tail _ (.tail _ (.tail _ (.tail _ (.tail _ (.head _)))))))
          obtain ⟨r0, r1, rl⟩ := HX.out.cells (.tail _ (.tail _ (.tail _ (.tail _ (.tail _ (.tail _ (.tail _ (.head _))))))))
          try dsimp only
          go_wp2_with fail
          clear u0 u1 ul o0 o1 ol pp0 pp1 ppl y0 y1 yl x0 x1 xl t0 t1 tl s0 s1 sl r0 r1 rl
          have HX1 := Lib.hid (HX.out.box (.bool q_v) (.slice A_v n_v c_v))
          clear HX
          have HX := Lib.hid HX1.out
          clear HX1
          refine (mul_any q_b A_b n_b c_b l_b q_c A_c n_c c_c l_c _ (HX.out.m _ (.tail _ (.tail _ (.tail _ (.tail _ (.tail _ (.tail _ (.tail _ (.head _))))))))) (HX.out.m _ (.tail _ (.tail _ (.tail _ (.tail _ (.tail _ (.tail _ (.head _)))))))) (by omega) (by omega)).mono ?_
          intro e w_m hres
          rw [VB.out, VC.out] at hres
          obtain ⟨k_m, q_m, A_m, n_m, c_m, l_m, f_m, rfl, LM, ln_m, ho⟩ := hres.gen
          have HO_m := Lib.hid ho
          clear ho hres
          have HX1 := Lib.hid (HX.out.keep k_m)
          clear HX k_m
          have HX := Lib.hid HX1.out
          clear HX1
          have HX1 := Lib.hid (HX.out.num LM)
          clear HX LM
          have HX := Lib.hid HX1.out
          clear HX1
          obtain ⟨v0, v1, vl⟩ := HX.out.cells (.head _)
          obtain ⟨u0, u1, ul⟩ := HX.out.cells (.tail _ (.head _))
          obtain ⟨o0, o1, ol⟩ := HX.out.cells (.tail _ (.tail _ (.head _)))
          obtain ⟨pp0, pp1, ppl⟩ := HX.out.cells (.tail _ (.tail _ (.tail _ (.head _))))
          obtain ⟨y0, y1, yl⟩ := HX.out.cells (.tail _ (.tail _ (.tail _ (.tail _ (.head _)))))
          obtain ⟨x0, x1, xl⟩ := HX.out.cells (.tail _ (.tail _ (.tail _ (.tail _ (.tail _ (.head _))))))
          obtain ⟨t0, t1, tl⟩ := HX.out.cells (.tail _ (.tail _ (.tail _ (.tail _ (.tail _ (.tail _ (.head _)))))))
          obtain ⟨s0, s1, sl⟩ := HX.out.cells (.tail _ (.tail _ (.tail _ (.tail _ (.tail _ (.tail _ (.tail _ (.head _))))))))
          obtain ⟨r0, r1, rl⟩ := HX.out.cells (.tail _ (.tail _ (.tail _ (.tail _ (.tail _ (.tail _ (.tail _ (.tail _ (.head _)))))))))
          try dsimp only
          go_wp2_with fail
          clear v0 v1 vl u0 u1 ul o0 o1 ol pp0 pp1 ppl y0 y1 yl x0 x1 xl t0 t1 tl s0 s1 sl r0 r1 rl
          have HX1 := Lib.hid (HX.out.box (.bool q_m) (.slice A_m n_m c_m))
          clear HX
          have HX := Lib.hid HX1.out
          clear HX1
          refine (awake_any _ (HT.out.keep HX.out.k)).mono ?_
          rintro e wz ⟨rfl, kz⟩
          have HZ := Lib.hid (HX.out.k.trans kz)
          clear kz
          try dsimp only
          go_wp2_with fail
          go_ret
          exact ⟨rfl, HZ.out⟩
      · subst hf
        obtain ⟨fz0, fz1⟩ := HX.out.frozen (.tail _ (.tail _ (.head _)))
        obtain ⟨s0, s1, sl⟩ := HX.out.cells (.head _)
        obtain ⟨r0, r1, rl⟩ := HX.out.cells (.tail _ (.head _))
        obtain ⟨t0, t1, tl⟩ := HX.out.cells (.tail _ (.tail _ (.head _)))
        try dsimp only
        go_wp2_with fail
        clear s0 s1 sl r0 r1 rl t0 t1 tl
        clear fz0 fz1
        have HX1 := Lib.hid (HX.out.set (bs' := [(B0 + 1, .bool q_b, .slice A_b n_b c_b), (B0, .bool q_a, .slice A_a n_a c_a)]) (.tail _ (.tail _ (.head _))) (by have := HSZ.out; omega) (List.forall_mem_cons.2 ⟨⟨(.head _), by dsimp only; omega⟩, (List.forall_mem_cons.2 ⟨⟨(.tail _ (.head _)), by dsimp only; omega⟩, (fun _ h => by cases h)⟩)⟩) (.bool q_c) (.slice A_c n_c c_c))
        clear HX
        have HX := Lib.hid HX1.out
        clear HX1
        refine (awake_any _ (HT.out.keep HX.out.k)).mono ?_
        rintro e wz ⟨rfl, kz⟩
        have HZ := Lib.hid (HX.out.k.trans kz)
        clear kz
        try dsimp only
        go_wp2_with fail
        go_ret
        exact ⟨rfl, HZ.out⟩
    · subst hf
      obtain ⟨fz0, fz1⟩ := HX.out.frozen (.tail _ (.tail _ (.head _)))
      obtain ⟨s0, s1, sl⟩ := HX.out.cells (.head _)
      obtain ⟨r0, r1, rl⟩ := HX.out.cells (.tail _ (.head _))
      obtain ⟨t0, t1, tl⟩ := HX.out.cells (.tail _ (.tail _ (.head _)))
      try dsimp only
      go_wp2_with fail
      clear s0 s1 sl r0 r1 rl t0 t1 tl
      clear fz0 fz1
      have HX1 := Lib.hid (HX.out.set (bs' := [(B0 + 1, .bool q_b, .slice A_b n_b c_b), (B0, .bool q_a, .slice A_a n_a c_a)]) (.tail _ (.tail _ (.head _))) (by have := HSZ.out; omega) (List.forall_mem_cons.2 ⟨⟨(.head _), by dsimp only; omega⟩, (List.forall_mem_cons.2 ⟨⟨(.tail _ (.head _)), by dsimp only; omega⟩, (fun _ h => by cases h)⟩)⟩) (.bool q_c) (.slice A_c n_c c_c))
      clear HX
      have HX := Lib.hid HX1.out
      clear HX1
      refine (awake_any _ (HT.out.keep HX.out.k)).mono ?_
      rintro e wz ⟨rfl, kz⟩
      have HZ := Lib.hid (HX.out.k.trans kz)
      clear kz
      try dsimp only
      go_wp2_with fail
      go_ret
      exact ⟨rfl, HZ.out⟩
  · subst hf
    obtain ⟨fz0, fz1⟩ := HX.out.frozen (.tail _ (.tail _ (.head _)))
    obtain ⟨s0, s1, sl⟩ := HX.out.cells (.head _)
    obtain ⟨r0, r1, rl⟩ := HX.out.cells (.tail _ (.head _))
    obtain ⟨t0, t1, tl⟩ := HX.out.cells (.tail _ (.tail _ (.head _)))
    try dsimp only
    go_wp2_with fail
    clear s0 s1 sl r0 r1 rl t0 t1 tl
    clear fz0 fz1
    have HX1 := Lib.hid (HX.out.set (bs' := [(B0 + 1, .bool q_b, .slice A_b n_b c_b), (B0, .bool q_a, .slice A_a n_a c_a)]) (.tail _ (.tail _ (.head _))) (by have := HSZ.out; omega) (List.forall_mem_cons.2 ⟨⟨(.head _), by dsimp only; omega⟩, (List.forall_mem_cons.2 ⟨⟨(.tail _ (.head _)), by dsimp only; omega⟩, (fun _ h => by cases h)⟩)⟩) (.bool q_c) (.slice A_c n_c c_c))
    clear HX
    have HX := Lib.hid HX1.out
    clear HX1
    refine (awake_any _ (HT.out.keep HX.out.k)).mono ?_
    rintro e wz ⟨rfl, kz⟩
    have HZ := Lib.hid (HX.out.k.trans kz)
    clear kz
    try dsimp only
    go_wp2_with fail
    go_ret
    exact ⟨rfl, HZ.out⟩
end Go.Proofs.YtdfekphahdmffaaDoor
