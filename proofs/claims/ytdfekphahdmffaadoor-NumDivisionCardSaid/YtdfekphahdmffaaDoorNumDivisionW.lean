/-
  The law NumDivision: its walk.
-/
import Derived.Test.YtdfekphahdmffaaDoorDivL
import Derived.Test.YtdfekphahdmffaaDoorNuMul
import Derived.Test.YtdfekphahdmffaaDoorNuQuo
namespace Go.Proofs.YtdfekphahdmffaaDoor
open Go.RowKit

set_option maxRecDepth 100000 in
set_option maxHeartbeats 4000000 in
theorem division_long1 (p1 : Bool) (A1 : Option Addr) (n1 c1 : Nat) (p2 : Bool) (A2 : Option Addr) (n2 c2 : Nat) (w : World) (ht : PowTab w) (h1 : 60 < n1) :
    Calls Tryd.prog 16 #[numArg p1 A1 n1 c1, numArg p2 A2 n2 c2] w (BoolPost true w) := by
  have X0 := env2 w (.bool p1) (.slice A1 n1 c1) (.bool p2) (.slice A2 n2 c2)
  have HT := Lib.hid ht
  clear ht
  go_enter Tryd.func16, Tryd.ntmps16
  go_wp2_with fail
  have hw1 : ((w.alloc (.cells #[.bool p1, .slice A1 n1 c1] 25)).alloc (.cells #[.bool p2, .slice A2 n2 c2] 25)).heap.size = w.heap.size + 1 + 1 := by simp only [World.size_alloc]
  generalize hB0 : w.heap.size = B0 at X0 hw1 ⊢
  have HSZ := Lib.hid (Nat.le_of_eq hB0)
  clear hB0
  generalize (w.alloc (.cells #[.bool p1, .slice A1 n1 c1] 25)).alloc (.cells #[.bool p2, .slice A2 n2 c2] 25) = w1 at X0 hw1 ⊢
  have HX := Lib.hid X0
  have HW1 := Lib.hid hw1
  clear X0 hw1
  refine (long_any p1 A1 n1 c1 _).mono ?_
  rintro e w2 ⟨rfl, k2⟩
  rw [show decide (60 < n1) = true from decide_eq_true (by omega)]
  have HX1 := Lib.hid (HX.out.keep k2)
  clear HX k2
  have HX := Lib.hid HX1.out
  clear HX1
  obtain ⟨s0, s1, sl⟩ := HX.out.cells (.head _)
  obtain ⟨r0, r1, rl⟩ := HX.out.cells (.tail _ (.head _))
  try dsimp only
  go_wp2_with fail
  clear s0 s1 sl r0 r1 rl
  refine (awake_any _ (HT.out.keep HX.out.k)).mono ?_
  rintro e wz ⟨rfl, kz⟩
  have HZ := Lib.hid (HX.out.k.trans kz)
  clear kz
  try dsimp only
  go_wp2_with fail
  go_ret
  exact ⟨rfl, HZ.out⟩
set_option maxRecDepth 100000 in
set_option maxHeartbeats 4000000 in
theorem division_long2 (p1 : Bool) (A1 : Option Addr) (n1 c1 : Nat) (p2 : Bool) (A2 : Option Addr) (n2 c2 : Nat) (w : World) (ht : PowTab w) (h1 : n1 ≤ 60) (h2 : 60 < n2) :
    Calls Tryd.prog 16 #[numArg p1 A1 n1 c1, numArg p2 A2 n2 c2] w (BoolPost true w) := by
  have X0 := env2 w (.bool p1) (.slice A1 n1 c1) (.bool p2) (.slice A2 n2 c2)
  have HT := Lib.hid ht
  clear ht
  go_enter Tryd.func16, Tryd.ntmps16
  go_wp2_with fail
  have hw1 : ((w.alloc (.cells #[.bool p1, .slice A1 n1 c1] 25)).alloc (.cells #[.bool p2, .slice A2 n2 c2] 25)).heap.size = w.heap.size + 1 + 1 := by simp only [World.size_alloc]
  generalize hB0 : w.heap.size = B0 at X0 hw1 ⊢
  have HSZ := Lib.hid (Nat.le_of_eq hB0)
  clear hB0
  generalize (w.alloc (.cells #[.bool p1, .slice A1 n1 c1] 25)).alloc (.cells #[.bool p2, .slice A2 n2 c2] 25) = w1 at X0 hw1 ⊢
  have HX := Lib.hid X0
  have HW1 := Lib.hid hw1
  clear X0 hw1
  refine (long_any p1 A1 n1 c1 _).mono ?_
  rintro e w2 ⟨rfl, k2⟩
  rw [show decide (60 < n1) = false from decide_eq_false (by omega)]
  have HX1 := Lib.hid (HX.out.keep k2)
  clear HX k2
  have HX := Lib.hid HX1.out
  clear HX1
  obtain ⟨s0, s1, sl⟩ := HX.out.cells (.head _)
  obtain ⟨r0, r1, rl⟩ := HX.out.cells (.tail _ (.head _))
  try dsimp only
  go_wp2_with fail
  clear s0 s1 sl r0 r1 rl
  refine (long_any p2 A2 n2 c2 _).mono ?_
  rintro e w2 ⟨rfl, k2⟩
  rw [show decide (60 < n2) = true from decide_eq_true (by omega)]
  have HX1 := Lib.hid (HX.out.keep k2)
  clear HX k2
  have HX := Lib.hid HX1.out
  clear HX1
  obtain ⟨s0, s1, sl⟩ := HX.out.cells (.head _)
  obtain ⟨r0, r1, rl⟩ := HX.out.cells (.tail _ (.head _))
  try dsimp only
  go_wp2_with fail
  clear s0 s1 sl r0 r1 rl
  refine (awake_any _ (HT.out.keep HX.out.k)).mono ?_
  rintro e wz ⟨rfl, kz⟩
  have HZ := Lib.hid (HX.out.k.trans kz)
  clear kz
  try dsimp only
  go_wp2_with fail
  go_ret
  exact ⟨rfl, HZ.out⟩
set_option maxRecDepth 100000 in
set_option maxHeartbeats 16000000 in
theorem division_short (p1 : Bool) (A1 : Option Addr) (n1 c1 : Nat) (p2 : Bool) (A2 : Option Addr) (n2 c2 : Nat) (l1 l2 : List Nat) (w : World) (ht : PowTab w) (h1 : n1 ≤ 60) (h2 : n2 ≤ 60) (L1 : LimbsAt w A1 n1 c1 l1) (L2 : LimbsAt w A2 n2 c2 l2) :
    Calls Tryd.prog 16 #[numArg p1 A1 n1 c1, numArg p2 A2 n2 c2] w (BoolPost true w) := by
  have HL := Lib.hid (And.intro L1 L2)
  clear L1 L2
  have X0 := env2 w (.bool p1) (.slice A1 n1 c1) (.bool p2) (.slice A2 n2 c2)
  have HT := Lib.hid ht
  clear ht
  go_enter Tryd.func16, Tryd.ntmps16
  go_wp2_with fail
  have hw1 : ((w.alloc (.cells #[.bool p1, .slice A1 n1 c1] 25)).alloc (.cells #[.bool p2, .slice A2 n2 c2] 25)).heap.size = w.heap.size + 1 + 1 := by simp only [World.size_alloc]
  generalize hB0 : w.heap.size = B0 at X0 hw1 ⊢
  have HSZ := Lib.hid (Nat.le_of_eq hB0)
  clear hB0
  generalize (w.alloc (.cells #[.bool p1, .slice A1 n1 c1] 25)).alloc (.cells #[.bool p2, .slice A2 n2 c2] 25) = w1 at X0 hw1 ⊢
  have HX := Lib.hid X0
  have HW1 := Lib.hid hw1
  clear X0 hw1
  have HX1 := Lib.hid ((HX.out.num (HL.out.1.keep0 HX.out.k)).num (HL.out.2.keep0 HX.out.k))
  clear HX
  have HX := Lib.hid HX1.out
  clear HX1
  refine (long_any p1 A1 n1 c1 _).mono ?_
  rintro e w2 ⟨rfl, k2⟩
  rw [show decide (60 < n1) = false from decide_eq_false (by omega)]
  have HX1 := Lib.hid (HX.out.keep k2)
  clear HX k2
  have HX := Lib.hid HX1.out
  clear HX1
  obtain ⟨s0, s1, sl⟩ := HX.out.cells (.head _)
  obtain ⟨r0, r1, rl⟩ := HX.out.cells (.tail _ (.head _))
  try dsimp only
  go_wp2_with fail
  clear s0 s1 sl r0 r1 rl
  refine (long_any p2 A2 n2 c2 _).mono ?_
  rintro e w2 ⟨rfl, k2⟩
  rw [show decide (60 < n2) = false from decide_eq_false (by omega)]
  have HX1 := Lib.hid (HX.out.keep k2)
  clear HX k2
  have HX := Lib.hid HX1.out
  clear HX1
  obtain ⟨s0, s1, sl⟩ := HX.out.cells (.head _)
  obtain ⟨r0, r1, rl⟩ := HX.out.cells (.tail _ (.head _))
  try dsimp only
  go_wp2_with fail
  clear s0 s1 sl r0 r1 rl
  obtain ⟨xa, hxa⟩ : ∃ x, x = sval p1 l1 := ⟨_, rfl⟩
  obtain ⟨xb, hxb⟩ : ∃ x, x = sval p2 l2 := ⟨_, rfl⟩
  have HV := Lib.hid (And.intro hxa hxb)
  clear hxa hxb
  refine (norm_any p1 A1 n1 c1 l1 _ (HX.out.m _ (.tail _ (.head _)))).mono ?_
  intro e w_a hres
  rw [← HV.out.1] at hres
  obtain ⟨k_a, q_a, A_a, n_a, c_a, l_a, f_a, rfl, LM, ln_a, ho⟩ := hres.gen
  have HO_a := Lib.hid ho
  clear ho
  have HX1 := Lib.hid (HX.out.keep k_a)
  clear HX k_a
  have HX := Lib.hid HX1.out
  clear HX1
  have HX1 := Lib.hid (HX.out.num LM)
  clear HX LM
  have HX := Lib.hid HX1.out
  clear HX1
  obtain ⟨fz0, fz1⟩ := HX.out.frozen (.tail _ (.head _))
  obtain ⟨s0, s1, sl⟩ := HX.out.cells (.head _)
  obtain ⟨r0, r1, rl⟩ := HX.out.cells (.tail _ (.head _))
  try dsimp only
  go_wp2_with fail
  clear s0 s1 sl r0 r1 rl
  clear fz0 fz1
  have HX1 := Lib.hid (HX.out.set (bs' := [(B0 + 1, .bool p2, .slice A2 n2 c2)]) (.tail _ (.head _)) (by have := HSZ.out; omega) (List.forall_mem_cons.2 ⟨⟨(.head _), by dsimp only; omega⟩, (fun _ h => by cases h)⟩) (.bool q_a) (.slice A_a n_a c_a))
  clear HX
  have HX := Lib.hid HX1.out
  clear HX1
  refine (norm_any p2 A2 n2 c2 l2 _ (HX.out.m _ (.tail _ (.head _)))).mono ?_
  intro e w_b hres
  rw [← HV.out.2] at hres
  obtain ⟨k_b, q_b, A_b, n_b, c_b, l_b, f_b, rfl, LM, ln_b, ho⟩ := hres.gen
  have HO_b := Lib.hid ho
  clear ho hres
  have HX1 := Lib.hid (HX.out.keep k_b)
  clear HX k_b
  have HX := Lib.hid HX1.out
  clear HX1
  have HX1 := Lib.hid (HX.out.num LM)
  clear HX LM
  have HX := Lib.hid HX1.out
  clear HX1
  rcases HO_a.out.two with hf | hf
  · subst hf
    rcases HO_b.out.two with hf | hf
    · subst hf
      obtain ⟨fz0, fz1⟩ := HX.out.frozen (.tail _ (.head _))
      obtain ⟨r0, r1, rl⟩ := HX.out.cells (.head _)
      obtain ⟨s0, s1, sl⟩ := HX.out.cells (.tail _ (.head _))
      try dsimp only
      go_wp2_with fail
      clear r0 r1 rl s0 s1 sl
      clear fz0 fz1
      have HX1 := Lib.hid (HX.out.set (bs' := [(B0, .bool q_a, .slice A_a n_a c_a)]) (.tail _ (.head _)) (by have := HSZ.out; omega) (List.forall_mem_cons.2 ⟨⟨(.head _), by dsimp only; omega⟩, (fun _ h => by cases h)⟩) (.bool q_b) (.slice A_b n_b c_b))
      clear HX
      have HX := Lib.hid HX1.out
      clear HX1
      have VA := Lib.hid HO_a.out.val
      have VB := Lib.hid HO_b.out.val
      refine (sign_any q_b A_b n_b c_b l_b _ (HX.out.m _ (.head _))).mono ?_
      rintro e wi ⟨rfl, ki⟩
      rw [VB.out]
      have HX1 := Lib.hid (HX.out.keep ki)
      clear HX ki
      have HX := Lib.hid HX1.out
      clear HX1
      by_cases hz : xb = 0
      · have hs : signI xb = 0 := by rw [hz]; rfl
        rw [hs]
        clear hs hz
        obtain ⟨s0, s1, sl⟩ := HX.out.cells (.head _)
        obtain ⟨r0, r1, rl⟩ := HX.out.cells (.tail _ (.head _))
        try dsimp only
        go_wp2_with fail
        clear s0 s1 sl r0 r1 rl
        refine (awake_any _ (HT.out.keep HX.out.k)).mono ?_
        rintro e wz ⟨rfl, kz⟩
        have HZ := Lib.hid (HX.out.k.trans kz)
        clear kz
        try dsimp only
        go_wp2_with fail
        go_ret
        exact ⟨rfl, HZ.out⟩
      · have hs : (signI xb == 0) = false := by rw [signI_zero]; exact decide_eq_false hz
        obtain ⟨z, hzz⟩ : ∃ z, z = signI xb := ⟨_, rfl⟩
        rw [← hzz] at hs ⊢
        have HZZ := Lib.hid hzz
        have DF := Lib.hid (div_facts xa xb hz)
        have HB0 := Lib.hid (show 0 < lval l_b from by have := (sval_zero q_b l_b).2; rw [VB.out] at this; omega)
        clear hzz hz
        obtain ⟨s0, s1, sl⟩ := HX.out.cells (.head _)
        obtain ⟨r0, r1, rl⟩ := HX.out.cells (.tail _ (.head _))
        try dsimp only
        go_wp2_with fail
        clear s0 s1 sl r0 r1 rl
        refine (quo_any q_a A_a n_a c_a l_a q_b A_b n_b c_b l_b _ (HX.out.m _ (.tail _ (.head _))) (HX.out.m _ (.head _)) (by omega) (by omega) HB0.out).mono ?_
        intro e w_q hres
        rw [VA.out, VB.out] at hres
        obtain ⟨k_q, q_q, A_q, n_q, c_q, l_q, f_q, rfl, LM, ln_q, ho⟩ := hres.gen
        have HO_q := Lib.hid ho
        clear ho hres
        have HX1 := Lib.hid (HX.out.keep k_q)
        clear HX k_q
        have HX := Lib.hid HX1.out
        clear HX1
        have HX1 := Lib.hid (HX.out.num LM)
        clear HX LM
        have HX := Lib.hid HX1.out
        clear HX1
        obtain rfl := HO_q.out.ok (HO_a.out.fits.le DF.out.qa)
        have V_q := Lib.hid HO_q.out.val
        obtain ⟨s0, s1, sl⟩ := HX.out.cells (.head _)
        obtain ⟨r0, r1, rl⟩ := HX.out.cells (.tail _ (.head _))
        try dsimp only
        go_wp2_with fail
        clear s0 s1 sl r0 r1 rl
        have HX1 := Lib.hid (HX.out.box (.bool q_q) (.slice A_q n_q c_q))
        clear HX
        have HX := Lib.hid HX1.out
        clear HX1
        refine (rem_any q_a A_a n_a c_a l_a q_b A_b n_b c_b l_b _ (HX.out.m _ (.tail _ (.tail _ (.head _)))) (HX.out.m _ (.tail _ (.head _))) (by omega) (by omega) HB0.out).mono ?_
        intro e w_y hres
        rw [VA.out, VB.out] at hres
        obtain ⟨k_y, q_y, A_y, n_y, c_y, l_y, f_y, rfl, LM, ln_y, ho⟩ := hres.gen
        have HO_y := Lib.hid ho
        clear ho hres
        have HX1 := Lib.hid (HX.out.keep k_y)
        clear HX k_y
        have HX := Lib.hid HX1.out
        clear HX1
        have HX1 := Lib.hid (HX.out.num LM)
        clear HX LM
        have HX := Lib.hid HX1.out
        clear HX1
        obtain rfl := HO_y.out.ok (HO_a.out.fits.le DF.out.ra)
        have V_y := Lib.hid HO_y.out.val
        obtain ⟨q0, q1, ql⟩ := HX.out.cells (.head _)
        obtain ⟨s0, s1, sl⟩ := HX.out.cells (.tail _ (.head _))
        obtain ⟨r0, r1, rl⟩ := HX.out.cells (.tail _ (.tail _ (.head _)))
        try dsimp only
        go_wp2_with fail
        clear q0 q1 ql s0 s1 sl r0 r1 rl
        have HX1 := Lib.hid (HX.out.box (.bool q_y) (.slice A_y n_y c_y))
        clear HX
        have HX := Lib.hid HX1.out
        clear HX1
        refine (mod_any q_a A_a n_a c_a l_a q_b A_b n_b c_b l_b _ (HX.out.m _ (.tail _ (.tail _ (.tail _ (.head _))))) (HX.out.m _ (.tail _ (.tail _ (.head _)))) (by omega) (by omega) HB0.out).mono ?_
        intro e w_m hres
        rw [VA.out, VB.out] at hres
        obtain ⟨k_m, q_m, A_m, n_m, c_m, l_m, f_m, rfl, LM, ln_m, ho⟩ := hres.gen
        have HO_m := Lib.hid ho
        clear ho hres
        have HX1 := Lib.hid (HX.out.keep k_m)
        clear HX k_m
        have HX := Lib.hid HX1.out
        clear HX1
        have HX1 := Lib.hid (HX.out.num LM)
        clear HX LM
        have HX := Lib.hid HX1.out
        clear HX1
        obtain rfl := HO_m.out.ok (HO_b.out.fits.le (Nat.le_of_lt DF.out.mb))
        have V_m := Lib.hid HO_m.out.val
        obtain ⟨y0, y1, yl⟩ := HX.out.cells (.head _)
        obtain ⟨q0, q1, ql⟩ := HX.out.cells (.tail _ (.head _))
        obtain ⟨s0, s1, sl⟩ := HX.out.cells (.tail _ (.tail _ (.head _)))
        obtain ⟨r0, r1, rl⟩ := HX.out.cells (.tail _ (.tail _ (.tail _ (.head _))))
        try dsimp only
        go_wp2_with fail
        clear y0 y1 yl q0 q1 ql s0 s1 sl r0 r1 rl
        have HX1 := Lib.hid (HX.out.box (.bool q_m) (.slice A_m n_m c_m))
        clear HX
        have HX := Lib.hid HX1.out
        clear HX1
        refine (mul_any q_q A_q n_q c_q l_q q_b A_b n_b c_b l_b _ (HX.out.m _ (.tail _ (.tail _ (.head _)))) (HX.out.m _ (.tail _ (.tail _ (.tail _ (.head _))))) (by omega) (by omega)).mono ?_
        intro e w_o hres
        rw [V_q.out, VB.out] at hres
        obtain ⟨k_o, q_o, A_o, n_o, c_o, l_o, f_o, rfl, LM, ln_o, ho⟩ := hres.gen
        have HO_o := Lib.hid ho
        clear ho hres
        have HX1 := Lib.hid (HX.out.keep k_o)
        clear HX k_o
        have HX := Lib.hid HX1.out
        clear HX1
        have HX1 := Lib.hid (HX.out.num LM)
        clear HX LM
        have HX := Lib.hid HX1.out
        clear HX1
        obtain rfl := HO_o.out.ok (HO_a.out.fits.le DF.out.qb)
        have V_o := Lib.hid HO_o.out.val
        obtain ⟨m0, m1, ml⟩ := HX.out.cells (.head _)
        obtain ⟨y0, y1, yl⟩ := HX.out.cells (.tail _ (.head _))
        obtain ⟨q0, q1, ql⟩ := HX.out.cells (.tail _ (.tail _ (.head _)))
        obtain ⟨s0, s1, sl⟩ := HX.out.cells (.tail _ (.tail _ (.tail _ (.head _))))
        obtain ⟨r0, r1, rl⟩ := HX.out.cells (.tail _ (.tail _ (.tail _ (.tail _ (.head _)))))
        try dsimp only
        go_wp2_with fail
        clear m0 m1 ml y0 y1 yl q0 q1 ql s0 s1 sl r0 r1 rl
        have HX1 := Lib.hid (HX.out.box (.bool q_o) (.slice A_o n_o c_o))
        clear HX
        have HX := Lib.hid HX1.out
        clear HX1
        refine (add_any q_o A_o n_o c_o l_o q_y A_y n_y c_y l_y _ (HX.out.m _ (.head _)) (HX.out.m _ (.tail _ (.tail _ (.head _)))) (by omega) (by omega)).mono ?_
        intro e w_x hres
        rw [V_o.out, V_y.out, DF.out.back] at hres
        obtain ⟨k_x, q_x, A_x, n_x, c_x, l_x, f_x, rfl, LM, ln_x, ho⟩ := hres.gen
        have HO_x := Lib.hid ho
        clear ho hres
        have HX1 := Lib.hid (HX.out.keep k_x)
        clear HX k_x
        have HX := Lib.hid HX1.out
        clear HX1
        have HX1 := Lib.hid (HX.out.num LM)
        clear HX LM
        have HX := Lib.hid HX1.out
        clear HX1
        obtain rfl := HO_x.out.ok HO_a.out.fits
        have V_x := Lib.hid HO_x.out.val
        obtain ⟨o0, o1, ol⟩ := HX.out.cells (.head _)
        obtain ⟨m0, m1, ml⟩ := HX.out.cells (.tail _ (.head _))
        obtain ⟨y0, y1, yl⟩ := HX.out.cells (.tail _ (.tail _ (.head _)))
        obtain ⟨q0, q1, ql⟩ := HX.out.cells (.tail _ (.tail _ (.tail _ (.head _))))
        obtain ⟨s0, s1, sl⟩ := HX.out.cells (.tail _ (.tail _ (.tail _ (.tail _ (.head _)))))
        obtain ⟨r0, r1, rl⟩ := HX.out.cells (.tail _ (.tail _ (.tail _ (.tail _ (.tail _ (.head _))))))
        try dsimp only
        go_wp2_with fail
        clear o0 o1 ol m0 m1 ml y0 y1 yl q0 q1 ql s0 s1 sl r0 r1 rl
        have HX1 := Lib.hid (HX.out.box (.bool q_x) (.slice A_x n_x c_x))
        clear HX
        have HX := Lib.hid HX1.out
        clear HX1
        refine (cmp_any q_x A_x n_x c_x l_x q_a A_a n_a c_a l_a _ (HX.out.m _ (.head _)) (HX.out.m _ (.tail _ (.tail _ (.tail _ (.tail _ (.tail _ (.tail _ (.head _))))))))).mono ?_
        rintro e w5 ⟨rfl, ki⟩
        rw [V_x.out, VA.out, cmp_self]
        have HX1 := Lib.hid (HX.out.keep ki)
        clear HX ki
        have HX := Lib.hid HX1.out
        clear HX1
        obtain ⟨x0, x1, xl⟩ := HX.out.cells (.head _)
        obtain ⟨o0, o1, ol⟩ := HX.out.cells (.tail _ (.head _))
        obtain ⟨m0, m1, ml⟩ := HX.out.cells (.tail _ (.tail _ (.head _)))
        obtain ⟨y0, y1, yl⟩ := HX.out.cells (.tail _ (.tail _ (.tail _ (.head _))))
        obtain ⟨q0, q1, ql⟩ := HX.out.cells (.tail _ (.tail _ (.tail _ (.tail _ (.head _)))))
        obtain ⟨s0, s1, sl⟩ := HX.out.cells (.tail _ (.tail _ (.tail _ (.tail _ (.tail _ (.head _))))))
        obtain ⟨r0, r1, rl⟩ := HX.out.cells (.tail _ (.tail _ (.tail _ (.tail _ (.tail _ (.tail _ (.head _)))))))
        try dsimp only
        go_wp2_with fail
        have Kd : Keep (fun _ => False) w5 w5.drew := (Keep.refl _ _).drew
        obtain ⟨By, hBy⟩ : ∃ B, B = w_y.heap.size := ⟨_, rfl⟩
        rw [← hBy] at y0 y1 yl ⊢
        obtain ⟨Bm, hBm⟩ : ∃ B, B = w_m.heap.size := ⟨_, rfl⟩
        rw [← hBm] at m0 m1 ml ⊢
        have HCC := Lib.hid (fun (w' : World) (K' : Keep (fun _ => False) w5 w') => (show w'.cell? ⟨B0, 0, none⟩ = some (.bool q_a) ∧ w'.cell? ⟨B0, 1, none⟩ = some (.slice A_a n_a c_a) ∧ w'.cell? ⟨B0 + 1, 0, none⟩ = some (.bool q_b) ∧ w'.cell? ⟨B0 + 1, 1, none⟩ = some (.slice A_b n_b c_b) ∧ w'.cell? ⟨By, 0, none⟩ = some (.bool q_y) ∧ w'.cell? ⟨By, 1, none⟩ = some (.slice A_y n_y c_y) ∧ w'.cell? ⟨Bm, 0, none⟩ = some (.bool q_m) ∧ w'.cell? ⟨Bm, 1, none⟩ = some (.slice A_m n_m c_m) from by
          obtain ⟨ra, rb, _⟩ := (HX.out.keep K').cells (.tail _ (.tail _ (.tail _ (.tail _ (.tail _ (.tail _ (.head _)))))))
          obtain ⟨sa, sb, _⟩ := (HX.out.keep K').cells (.tail _ (.tail _ (.tail _ (.tail _ (.tail _ (.head _))))))
          obtain ⟨ya, yb, _⟩ := (HX.out.keep K').cells (.tail _ (.tail _ (.tail _ (.head _))))
          obtain ⟨ma, mb, _⟩ := (HX.out.keep K').cells (.tail _ (.tail _ (.head _)))
          rw [hBy, hBm]
          exact ⟨ra, rb, sa, sb, ya, yb, ma, mb⟩))
        clear x0 x1 xl o0 o1 ol m0 m1 ml y0 y1 yl q0 q1 ql s0 s1 sl r0 r1 rl
        have HBE := Lib.hid (And.intro hBy hBm)
        clear hBy hBm
        obtain ⟨za, hza⟩ : ∃ z, z = signI xa := ⟨_, rfl⟩
        have HZA := Lib.hid hza
        clear hza
        have HCR := Lib.hid (show cmpI (sval false l_y) (sval false l_b) = -1 from by rw [show sval false l_y = ((sval q_y l_y).natAbs : Int) from by rw [sval_abs]; rfl, show sval false l_b = ((sval q_b l_b).natAbs : Int) from by rw [sval_abs]; rfl, V_y.out, VB.out]; unfold cmpI; rw [if_pos (by have := DF.out.rb; omega)])
        have HCM := Lib.hid (show cmpI (sval false l_m) (sval false l_b) = -1 from by rw [show sval false l_m = ((sval q_m l_m).natAbs : Int) from by rw [sval_abs]; rfl, show sval false l_b = ((sval q_b l_b).natAbs : Int) from by rw [sval_abs]; rfl, V_m.out, VB.out]; unfold cmpI; rw [if_pos (by have := DF.out.mb; omega)])
        refine wp_region_held_drew (S := fun w' => w'.cell? ⟨B0, 0, none⟩ = some (.bool q_a) ∧ w'.cell? ⟨B0, 1, none⟩ = some (.slice A_a n_a c_a) ∧ w'.cell? ⟨B0 + 1, 0, none⟩ = some (.bool q_b) ∧ w'.cell? ⟨B0 + 1, 1, none⟩ = some (.slice A_b n_b c_b) ∧ w'.cell? ⟨By, 0, none⟩ = some (.bool q_y) ∧ w'.cell? ⟨By, 1, none⟩ = some (.slice A_y n_y c_y) ∧ w'.cell? ⟨Bm, 0, none⟩ = some (.bool q_m) ∧ w'.cell? ⟨Bm, 1, none⟩ = some (.slice A_m n_m c_m)) (by kernel_rfl) (HCC.out _ Kd) (fun hHeld => ?_)
        refine wpAnyH_take (i := 0) (oi := _) (v := ?_) rfl (by kernel_rfl) (by kernel_rfl) (by kernel_rfl) (fun _ _ _ h => h) (Or.inl ⟨by rfl, ?_⟩) (by assumption) ?_
        rotate_left
        · (intro w hSw; (try dsimp only at hSw); go_simp)
          all_goals with_reducible rfl
        refine wpAnyH_take (i := 2) (oi := _) (v := ?_) rfl (by kernel_rfl) (by kernel_rfl) (by kernel_rfl) (fun _ _ _ h => h) (Or.inl ⟨by rfl, ?_⟩) (by assumption) ?_
        rotate_left
        · (intro w hSw; (try dsimp only at hSw); go_simp)
          all_goals with_reducible rfl
        try dsimp only [List.getElem_toArray, List.getElem_cons_succ, List.getElem_cons_zero]
        try simp only [Act.put, List.setIfInBounds_toArray, List.set_cons_zero, List.set_cons_succ]
        refine wpAnyH_ready (rs := [1]) (by kernel_rfl) (by simp) ?_
        refine AllReadyH.cons (o := _) rfl (fun K hK => ?_) AllReadyH.nil
        go_simp
        refine (abs_any q_y A_y n_y c_y _).mono ?_
        rintro e wr1 ⟨rfl, kr⟩
        have K1 : Keep (fun _ => False) w5 wr1 := Keep.trans Kd kr
        clear kr 
        try dsimp only
        go_wp2_with fail
        refine hK.out _ _ (HCC.out _ K1) (fun hHeld => ?_)
        clear hK K
        try dsimp only [List.getElem_toArray, List.getElem_cons_succ, List.getElem_cons_zero]
        try simp only [Act.put, List.setIfInBounds_toArray, List.set_cons_zero, List.set_cons_succ]
        refine wpAnyH_ready (rs := [3]) (by kernel_rfl) (by simp) ?_
        refine AllReadyH.cons (o := _) rfl (fun K hK => ?_) AllReadyH.nil
        go_simp
        refine (abs_any q_b A_b n_b c_b _).mono ?_
        rintro e wr2 ⟨rfl, kr⟩
        have K2 : Keep (fun _ => False) w5 wr2 := Keep.trans K1 kr
        clear kr K1
        try dsimp only
        go_wp2_with fail
        refine hK.out _ _ (HCC.out _ K2) (fun hHeld => ?_)
        clear hK K
        try dsimp only [List.getElem_toArray, List.getElem_cons_succ, List.getElem_cons_zero]
        try simp only [Act.put, List.setIfInBounds_toArray, List.set_cons_zero, List.set_cons_succ]
        refine wpAnyH_ready (rs := [4]) (by kernel_rfl) (by simp) ?_
        refine AllReadyH.cons (o := _) rfl (fun K hK => ?_) AllReadyH.nil
        go_simp
        refine (cmp_any false A_y n_y c_y l_y false A_b n_b c_b l_b _ ((HX.out.keep K2).m _ (.tail _ (.tail _ (.tail _ (.head _))))) ((HX.out.keep K2).m _ (.tail _ (.tail _ (.tail _ (.tail _ (.tail _ (.head _)))))))).mono ?_
        rintro e wr3 ⟨rfl, kr⟩
        rw [HCR.out]
        have K3 : Keep (fun _ => False) w5 wr3 := Keep.trans K2 kr
        clear kr K2
        try dsimp only
        go_wp2_with fail
        refine hK.out _ _ (HCC.out _ K3) (fun hHeld => ?_)
        clear hK K
        refine wpAnyH_take (i := 5) (oi := _) (v := ?_) rfl (by kernel_rfl) (by kernel_rfl) (by kernel_rfl) (fun _ _ _ h => h) (Or.inl ⟨by rfl, ?_⟩) (by assumption) ?_
        rotate_left
        · (intro w hSw; (try dsimp only at hSw); go_simp)
          all_goals with_reducible rfl
        refine wpAnyH_take (i := 6) (oi := _) (v := ?_) rfl (by kernel_rfl) (by kernel_rfl) (by kernel_rfl) (fun _ _ _ h => h) (Or.inl ⟨by rfl, ?_⟩) (by assumption) ?_
        rotate_left
        · (intro w hSw; (try dsimp only at hSw); go_simp)
          all_goals with_reducible rfl
        refine wpAnyH_take (i := 7) (oi := _) (v := ?_) rfl (by kernel_rfl) (by kernel_rfl) (by kernel_rfl) (fun _ _ _ h => h) (Or.inl ⟨by rfl, ?_⟩) (by assumption) ?_
        rotate_left
        · (intro w hSw; (try dsimp only at hSw); go_simp)
          all_goals with_reducible rfl
        refine wpAnyH_take (i := 9) (oi := _) (v := ?_) rfl (by kernel_rfl) (by kernel_rfl) (by kernel_rfl) (fun _ _ _ h => h) (Or.inl ⟨by rfl, ?_⟩) (by assumption) ?_
        rotate_left
        · (intro w hSw; (try dsimp only at hSw); go_simp)
          all_goals with_reducible rfl
        try dsimp only [List.getElem_toArray, List.getElem_cons_succ, List.getElem_cons_zero]
        try simp only [Act.put, List.setIfInBounds_toArray, List.set_cons_zero, List.set_cons_succ]
        refine wpAnyH_ready (rs := [8]) (by kernel_rfl) (by simp) ?_
        refine AllReadyH.cons (o := _) rfl (fun K hK => ?_) AllReadyH.nil
        go_simp
        refine (abs_any q_m A_m n_m c_m _).mono ?_
        rintro e wr4 ⟨rfl, kr⟩
        have K4 : Keep (fun _ => False) w5 wr4 := Keep.trans K3 kr
        clear kr K3
        try dsimp only
        go_wp2_with fail
        refine hK.out _ _ (HCC.out _ K4) (fun hHeld => ?_)
        clear hK K
        try dsimp only [List.getElem_toArray, List.getElem_cons_succ, List.getElem_cons_zero]
        try simp only [Act.put, List.setIfInBounds_toArray, List.set_cons_zero, List.set_cons_succ]
        refine wpAnyH_ready (rs := [10]) (by kernel_rfl) (by simp) ?_
        refine AllReadyH.cons (o := _) rfl (fun K hK => ?_) AllReadyH.nil
        go_simp
        refine (abs_any q_b A_b n_b c_b _).mono ?_
        rintro e wr5 ⟨rfl, kr⟩
        have K5 : Keep (fun _ => False) w5 wr5 := Keep.trans K4 kr
        clear kr K4
        try dsimp only
        go_wp2_with fail
        refine hK.out _ _ (HCC.out _ K5) (fun hHeld => ?_)
        clear hK K
        try dsimp only [List.getElem_toArray, List.getElem_cons_succ, List.getElem_cons_zero]
        try simp only [Act.put, List.setIfInBounds_toArray, List.set_cons_zero, List.set_cons_succ]
        refine wpAnyH_ready (rs := [11]) (by kernel_rfl) (by simp) ?_
        refine AllReadyH.cons (o := _) rfl (fun K hK => ?_) AllReadyH.nil
        go_simp
        refine (cmp_any false A_m n_m c_m l_m false A_b n_b c_b l_b _ ((HX.out.keep K5).m _ (.tail _ (.tail _ (.head _)))) ((HX.out.keep K5).m _ (.tail _ (.tail _ (.tail _ (.tail _ (.tail _ (.head _)))))))).mono ?_
        rintro e wr6 ⟨rfl, kr⟩
        rw [HCM.out]
        have K6 : Keep (fun _ => False) w5 wr6 := Keep.trans K5 kr
        clear kr K5
        try dsimp only
        go_wp2_with fail
        refine hK.out _ _ (HCC.out _ K6) (fun hHeld => ?_)
        clear hK K
        refine wpAnyH_take (i := 12) (oi := _) (v := ?_) rfl (by kernel_rfl) (by kernel_rfl) (by kernel_rfl) (fun _ _ _ h => h) (Or.inl ⟨by rfl, ?_⟩) (by assumption) ?_
        rotate_left
        · (intro w hSw; (try dsimp only at hSw); go_simp)
          all_goals with_reducible rfl
        refine wpAnyH_take (i := 13) (oi := _) (v := ?_) rfl (by kernel_rfl) (by kernel_rfl) (by kernel_rfl) (fun _ _ _ h => h) (Or.inl ⟨by rfl, ?_⟩) (by assumption) ?_
        rotate_left
        · (intro w hSw; (try dsimp only at hSw); go_simp)
          all_goals with_reducible rfl
        refine wpAnyH_take (i := 14) (oi := _) (v := ?_) rfl (by kernel_rfl) (by kernel_rfl) (by kernel_rfl) (fun _ _ _ h => h) (Or.inl ⟨by rfl, ?_⟩) (by assumption) ?_
        rotate_left
        · (intro w hSw; (try dsimp only at hSw); go_simp)
          all_goals with_reducible rfl
        refine wpAnyH_take (i := 15) (oi := _) (v := ?_) rfl (by kernel_rfl) (by kernel_rfl) (by kernel_rfl) (fun _ _ _ h => h) (Or.inl ⟨by rfl, ?_⟩) (by assumption) ?_
        rotate_left
        · (intro w hSw; (try dsimp only at hSw); go_simp)
          all_goals with_reducible rfl
        by_cases hr : xa.tmod xb = 0
        · have SR := Lib.hid (show signI (xa.tmod xb) = 0 from by rw [hr]; rfl)
          clear hr
          try dsimp only [List.getElem_toArray, List.getElem_cons_succ, List.getElem_cons_zero]
          try simp only [Act.put, List.setIfInBounds_toArray, List.set_cons_zero, List.set_cons_succ]
          refine wpAnyH_ready (rs := [16]) (by kernel_rfl) (by simp) ?_
          refine AllReadyH.cons (o := _) rfl (fun K hK => ?_) AllReadyH.nil
          go_simp
          refine (sign_any q_y A_y n_y c_y l_y _ ((HX.out.keep K6).m _ (.tail _ (.tail _ (.tail _ (.head _)))))).mono ?_
          rintro e wr7 ⟨rfl, kr⟩
          rw [V_y.out, SR.out]
          have K7 : Keep (fun _ => False) w5 wr7 := Keep.trans K6 kr
          clear kr K6
          try dsimp only
          go_wp2_with fail
          refine hK.out _ _ (HCC.out _ K7) (fun hHeld => ?_)
          clear hK K
          refine wpAnyH_take (i := 17) (oi := _) (v := ?_) rfl (by kernel_rfl) (by kernel_rfl) (by kernel_rfl) (fun _ _ _ h => h) (Or.inl ⟨by rfl, ?_⟩) (by assumption) ?_
          rotate_left
          · (intro w hSw; (try dsimp only at hSw); go_simp)
            all_goals with_reducible rfl
          refine wpAnyH_take (i := 18) (oi := _) (v := ?_) rfl (by kernel_rfl) (by kernel_rfl) (by kernel_rfl) (fun _ _ _ h => h) (Or.inl ⟨by rfl, ?_⟩) (by assumption) ?_
          rotate_left
          · (intro w hSw; (try dsimp only at hSw); go_simp)
            all_goals with_reducible rfl
          try dsimp only [List.getElem_toArray, List.getElem_cons_succ, List.getElem_cons_zero]
          try simp only [Act.put, List.setIfInBounds_toArray, List.set_cons_zero, List.set_cons_succ]
          refine wpAnyH_take (i := 19) (oi := _) (v := undef) rfl (by kernel_rfl) (by kernel_rfl) (by kernel_rfl) (fun _ _ _ h => h) (Or.inr ⟨by rfl, rfl⟩) (by assumption) ?_
          refine wpAnyH_take (i := 20) (oi := _) (v := undef) rfl (by kernel_rfl) (by kernel_rfl) (by kernel_rfl) (fun _ _ _ h => h) (Or.inr ⟨by rfl, rfl⟩) (by assumption) ?_
          refine wpAnyH_take (i := 21) (oi := _) (v := undef) rfl (by kernel_rfl) (by kernel_rfl) (by kernel_rfl) (fun _ _ _ h => h) (Or.inr ⟨by rfl, rfl⟩) (by assumption) ?_
          refine wpAnyH_take (i := 22) (oi := _) (v := undef) rfl (by kernel_rfl) (by kernel_rfl) (by kernel_rfl) (fun _ _ _ h => h) (Or.inr ⟨by rfl, rfl⟩) (by assumption) ?_
          refine wpAnyH_take (i := 23) (oi := _) (v := undef) rfl (by kernel_rfl) (by kernel_rfl) (by kernel_rfl) (fun _ _ _ h => h) (Or.inr ⟨by rfl, rfl⟩) (by assumption) ?_
          try dsimp only [List.getElem_toArray, List.getElem_cons_succ, List.getElem_cons_zero]
          try simp only [Act.put, List.setIfInBounds_toArray, List.set_cons_zero, List.set_cons_succ]
          refine wpAnyH_take (i := 24) (oi := _) (v := ?_) rfl (by kernel_rfl) (by kernel_rfl) (by kernel_rfl) (fun _ _ _ h => h) (Or.inl ⟨by rfl, ?_⟩) (by assumption) ?_
          rotate_left
          · (intro w hSw; (try dsimp only at hSw); go_simp)
            all_goals with_reducible rfl
          refine wpAnyH_take (i := 25) (oi := _) (v := ?_) rfl (by kernel_rfl) (by kernel_rfl) (by kernel_rfl) (fun _ _ _ h => h) (Or.inl ⟨by rfl, ?_⟩) (by assumption) ?_
          rotate_left
          · (intro w hSw; (try dsimp only at hSw); go_simp)
            all_goals with_reducible rfl
          refine wpAnyH_take (i := 26) (oi := _) (v := ?_) rfl (by kernel_rfl) (by kernel_rfl) (by kernel_rfl) (fun _ _ _ h => h) (Or.inl ⟨by rfl, ?_⟩) (by assumption) ?_
          rotate_left
          · (intro w hSw; (try dsimp only at hSw); go_simp)
            all_goals with_reducible rfl
          refine wpAnyH_take (i := 27) (oi := _) (v := ?_) rfl (by kernel_rfl) (by kernel_rfl) (by kernel_rfl) (fun _ _ _ h => h) (Or.inl ⟨by rfl, ?_⟩) (by assumption) ?_
          rotate_left
          · (intro w hSw; (try dsimp only at hSw); go_simp)
            all_goals with_reducible rfl
          by_cases hm : xa.fmod xb = 0
          · have SM := Lib.hid (show signI (xa.fmod xb) = 0 from by rw [hm]; rfl)
            clear hm
            try dsimp only [List.getElem_toArray, List.getElem_cons_succ, List.getElem_cons_zero]
            try simp only [Act.put, List.setIfInBounds_toArray, List.set_cons_zero, List.set_cons_succ]
            refine wpAnyH_ready (rs := [28]) (by kernel_rfl) (by simp) ?_
            refine AllReadyH.cons (o := _) rfl (fun K hK => ?_) AllReadyH.nil
            go_simp
            refine (sign_any q_m A_m n_m c_m l_m _ ((HX.out.keep K7).m _ (.tail _ (.tail _ (.head _))))).mono ?_
            rintro e wr8 ⟨rfl, kr⟩
            rw [V_m.out, SM.out]
            have K8 : Keep (fun _ => False) w5 wr8 := Keep.trans K7 kr
            clear kr K7
            try dsimp only
            go_wp2_with fail
            refine hK.out _ _ (HCC.out _ K8) (fun hHeld => ?_)
            clear hK K
            refine wpAnyH_take (i := 29) (oi := _) (v := ?_) rfl (by kernel_rfl) (by kernel_rfl) (by kernel_rfl) (fun _ _ _ h => h) (Or.inl ⟨by rfl, ?_⟩) (by assumption) ?_
            rotate_left
            · (intro w hSw; (try dsimp only at hSw); go_simp)
              all_goals with_reducible rfl
            refine wpAnyH_take (i := 30) (oi := _) (v := ?_) rfl (by kernel_rfl) (by kernel_rfl) (by kernel_rfl) (fun _ _ _ h => h) (Or.inl ⟨by rfl, ?_⟩) (by assumption) ?_
            rotate_left
            · (intro w hSw; (try dsimp only at hSw); go_simp)
              all_goals with_reducible rfl
            try dsimp only [List.getElem_toArray, List.getElem_cons_succ, List.getElem_cons_zero]
            try simp only [Act.put, List.setIfInBounds_toArray, List.set_cons_zero, List.set_cons_succ]
            refine wpAnyH_take (i := 31) (oi := _) (v := undef) rfl (by kernel_rfl) (by kernel_rfl) (by kernel_rfl) (fun _ _ _ h => h) (Or.inr ⟨by rfl, rfl⟩) (by assumption) ?_
            refine wpAnyH_take (i := 32) (oi := _) (v := undef) rfl (by kernel_rfl) (by kernel_rfl) (by kernel_rfl) (fun _ _ _ h => h) (Or.inr ⟨by rfl, rfl⟩) (by assumption) ?_
            refine wpAnyH_take (i := 33) (oi := _) (v := undef) rfl (by kernel_rfl) (by kernel_rfl) (by kernel_rfl) (fun _ _ _ h => h) (Or.inr ⟨by rfl, rfl⟩) (by assumption) ?_
            refine wpAnyH_take (i := 34) (oi := _) (v := undef) rfl (by kernel_rfl) (by kernel_rfl) (by kernel_rfl) (fun _ _ _ h => h) (Or.inr ⟨by rfl, rfl⟩) (by assumption) ?_
            refine wpAnyH_take (i := 35) (oi := _) (v := undef) rfl (by kernel_rfl) (by kernel_rfl) (by kernel_rfl) (fun _ _ _ h => h) (Or.inr ⟨by rfl, rfl⟩) (by assumption) ?_
            try dsimp only [List.getElem_toArray, List.getElem_cons_succ, List.getElem_cons_zero]
            try simp only [Act.put, List.setIfInBounds_toArray, List.set_cons_zero, List.set_cons_succ]
            refine wpAnyH_take (i := 36) (oi := _) (v := ?_) rfl (by kernel_rfl) (by kernel_rfl) (by kernel_rfl) (fun _ _ _ h => h) (Or.inl ⟨by rfl, ?_⟩) (by assumption) ?_
            rotate_left
            · (intro w hSw; (try dsimp only at hSw); go_simp)
              all_goals with_reducible rfl
            refine wpAnyH_take (i := 37) (oi := _) (v := ?_) rfl (by kernel_rfl) (by kernel_rfl) (by kernel_rfl) (fun _ _ _ h => h) (Or.inl ⟨by rfl, ?_⟩) (by assumption) ?_
            rotate_left
            · (intro w hSw; (try dsimp only at hSw); go_simp)
              all_goals with_reducible rfl
            try dsimp only [List.getElem_toArray, List.getElem_cons_succ, List.getElem_cons_zero]
            try simp only [Act.put, List.setIfInBounds_toArray, List.set_cons_zero, List.set_cons_succ]
            refine wpAnyH_done (by kernel_rfl) ?_ _
            have KK := K8
            clear K8
            have HX1 := Lib.hid (HX.out.keep KK)
            clear HX
            have HX := Lib.hid HX1.out
            clear HX1
            clear HCC KK
            have hBE := HBE.out
            rw [hBE.1, hBE.2]
            clear hBE
            have hfit : Fits (xa.fmod xb - xa.tmod xb) := by
              rcases DF.out.d with h | h
              · rw [h]; exact small_fits (by decide)
              · rw [h]; exact HO_b.out.fits
            obtain ⟨x0, x1, xl⟩ := HX.out.cells (.head _)
            obtain ⟨o0, o1, ol⟩ := HX.out.cells (.tail _ (.head _))
            obtain ⟨m0, m1, ml⟩ := HX.out.cells (.tail _ (.tail _ (.head _)))
            obtain ⟨y0, y1, yl⟩ := HX.out.cells (.tail _ (.tail _ (.tail _ (.head _))))
            obtain ⟨q0, q1, ql⟩ := HX.out.cells (.tail _ (.tail _ (.tail _ (.tail _ (.head _)))))
            obtain ⟨s0, s1, sl⟩ := HX.out.cells (.tail _ (.tail _ (.tail _ (.tail _ (.tail _ (.head _))))))
            obtain ⟨r0, r1, rl⟩ := HX.out.cells (.tail _ (.tail _ (.tail _ (.tail _ (.tail _ (.tail _ (.head _)))))))
            try dsimp only
            go_wp2_with fail
            clear x0 x1 xl o0 o1 ol m0 m1 ml y0 y1 yl q0 q1 ql s0 s1 sl r0 r1 rl
            refine (sub_any q_m A_m n_m c_m l_m q_y A_y n_y c_y l_y _ (HX.out.m _ (.tail _ (.tail _ (.head _)))) (HX.out.m _ (.tail _ (.tail _ (.tail _ (.head _))))) (by omega) (by omega)).mono ?_
            intro e w_d hres
            rw [V_m.out, V_y.out] at hres
            obtain ⟨k_d, q_d, A_d, n_d, c_d, l_d, f_d, rfl, LM, ln_d, ho⟩ := hres.gen
            have HO_d := Lib.hid ho
            clear ho hres
            have HX1 := Lib.hid (HX.out.keep k_d)
            clear HX k_d
            have HX := Lib.hid HX1.out
            clear HX1
            have HX1 := Lib.hid (HX.out.num LM)
            clear HX LM
            have HX := Lib.hid HX1.out
            clear HX1
            obtain rfl := HO_d.out.ok hfit
            have V_d := Lib.hid HO_d.out.val
            obtain ⟨x0, x1, xl⟩ := HX.out.cells (.head _)
            obtain ⟨o0, o1, ol⟩ := HX.out.cells (.tail _ (.head _))
            obtain ⟨m0, m1, ml⟩ := HX.out.cells (.tail _ (.tail _ (.head _)))
            obtain ⟨y0, y1, yl⟩ := HX.out.cells (.tail _ (.tail _ (.tail _ (.head _))))
            obtain ⟨q0, q1, ql⟩ := HX.out.cells (.tail _ (.tail _ (.tail _ (.tail _ (.head _)))))
            obtain ⟨s0, s1, sl⟩ := HX.out.cells (.tail _ (.tail _ (.tail _ (.tail _ (.tail _ (.head _))))))
            obtain ⟨r0, r1, rl⟩ := HX.out.cells (.tail _ (.tail _ (.tail _ (.tail _ (.tail _ (.tail _ (.head _)))))))
            try dsimp only
            go_wp2_with fail
            clear x0 x1 xl o0 o1 ol m0 m1 ml y0 y1 yl q0 q1 ql s0 s1 sl r0 r1 rl
            have HX1 := Lib.hid (HX.out.box (.bool q_d) (.slice A_d n_d c_d))
            clear HX
            have HX := Lib.hid HX1.out
            clear HX1
            refine (sign_any q_d A_d n_d c_d l_d _ (HX.out.m _ (.head _))).mono ?_
            rintro e wi ⟨rfl, ki⟩
            rw [V_d.out]
            have HX1 := Lib.hid (HX.out.keep ki)
            clear HX ki
            have HX := Lib.hid HX1.out
            clear HX1
            by_cases hd : xa.fmod xb - xa.tmod xb = 0
            · rw [show signI (xa.fmod xb - xa.tmod xb) = 0 from by rw [hd]; rfl]
              clear hd
              obtain ⟨d0, d1, dl⟩ := HX.out.cells (.head _)
              obtain ⟨x0, x1, xl⟩ := HX.out.cells (.tail _ (.head _))
              obtain ⟨o0, o1, ol⟩ := HX.out.cells (.tail _ (.tail _ (.head _)))
              obtain ⟨m0, m1, ml⟩ := HX.out.cells (.tail _ (.tail _ (.tail _ (.head _))))
              obtain ⟨y0, y1, yl⟩ := HX.out.cells (.tail _ (.tail _ (.tail _ (.tail _ (.head _)))))
              obtain ⟨q0, q1, ql⟩ := HX.out.cells (.tail _ (.tail _ (.tail _ (.tail _ (.tail _ (.head _))))))
              obtain ⟨s0, s1, sl⟩ := HX.out.cells (.tail _ (.tail _ (.tail _ (.tail _ (.tail _ (.tail _ (.head _)))))))
              obtain ⟨r0, r1, rl⟩ := HX.out.cells (.tail _ (.tail _ (.tail _ (.tail _ (.tail _ (.tail _ (.tail _ (.head _))))))))
              try dsimp only
              go_wp2_with fail
              clear d0 d1 dl x0 x1 xl o0 o1 ol m0 m1 ml y0 y1 yl q0 q1 ql s0 s1 sl r0 r1 rl
              refine (awake_any _ (HT.out.keep HX.out.k)).mono ?_
              rintro e wz ⟨rfl, kz⟩
              have HZ := Lib.hid (HX.out.k.trans kz)
              clear kz
              try dsimp only
              go_wp2_with fail
              go_ret
              exact ⟨rfl, HZ.out⟩
            · have hs : (signI (xa.fmod xb - xa.tmod xb) == 0) = false := by rw [signI_zero]; exact decide_eq_false hd
              have hdb := DF.out.d.resolve_left hd
              obtain ⟨zd, hzd⟩ : ∃ z, z = signI (xa.fmod xb - xa.tmod xb) := ⟨_, rfl⟩
              rw [← hzd] at hs ⊢
              have HDB := Lib.hid hdb
              clear hzd hdb hd
              obtain ⟨d0, d1, dl⟩ := HX.out.cells (.head _)
              obtain ⟨x0, x1, xl⟩ := HX.out.cells (.tail _ (.head _))
              obtain ⟨o0, o1, ol⟩ := HX.out.cells (.tail _ (.tail _ (.head _)))
              obtain ⟨m0, m1, ml⟩ := HX.out.cells (.tail _ (.tail _ (.tail _ (.head _))))
              obtain ⟨y0, y1, yl⟩ := HX.out.cells (.tail _ (.tail _ (.tail _ (.tail _ (.head _)))))
              obtain ⟨q0, q1, ql⟩ := HX.out.cells (.tail _ (.tail _ (.tail _ (.tail _ (.tail _ (.head _))))))
              obtain ⟨s0, s1, sl⟩ := HX.out.cells (.tail _ (.tail _ (.tail _ (.tail _ (.tail _ (.tail _ (.head _)))))))
              obtain ⟨r0, r1, rl⟩ := HX.out.cells (.tail _ (.tail _ (.tail _ (.tail _ (.tail _ (.tail _ (.tail _ (.head _))))))))
              try dsimp only
              go_wp2_with fail
              clear d0 d1 dl x0 x1 xl o0 o1 ol m0 m1 ml y0 y1 yl q0 q1 ql s0 s1 sl r0 r1 rl
              refine (cmp_any q_d A_d n_d c_d l_d q_b A_b n_b c_b l_b _ (HX.out.m _ (.head _)) (HX.out.m _ (.tail _ (.tail _ (.tail _ (.tail _ (.tail _ (.tail _ (.head _))))))))).mono ?_
              rintro e wi ⟨rfl, ki⟩
              rw [V_d.out, VB.out, HDB.out, cmp_self]
              have HX1 := Lib.hid (HX.out.keep ki)
              clear HX ki
              have HX := Lib.hid HX1.out
              clear HX1
              obtain ⟨d0, d1, dl⟩ := HX.out.cells (.head _)
              obtain ⟨x0, x1, xl⟩ := HX.out.cells (.tail _ (.head _))
              obtain ⟨o0, o1, ol⟩ := HX.out.cells (.tail _ (.tail _ (.head _)))
              obtain ⟨m0, m1, ml⟩ := HX.out.cells (.tail _ (.tail _ (.tail _ (.head _))))
              obtain ⟨y0, y1, yl⟩ := HX.out.cells (.tail _ (.tail _ (.tail _ (.tail _ (.head _)))))
              obtain ⟨q0, q1, ql⟩ := HX.out.cells (.tail _ (.tail _ (.tail _ (.tail _ (.tail _ (.head _))))))
              obtain ⟨s0, s1, sl⟩ := HX.out.cells (.tail _ (.tail _ (.tail _ (.tail _ (.tail _ (.tail _ (.head _)))))))
              obtain ⟨r0, r1, rl⟩ := HX.out.cells (.tail _ (.tail _ (.tail _ (.tail _ (.tail _ (.tail _ (.tail _ (.head _))))))))
              try dsimp only
              go_wp2_with fail
              clear d0 d1 dl x0 x1 xl o0 o1 ol m0 m1 ml y0 y1 yl q0 q1 ql s0 s1 sl r0 r1 rl
              refine (awake_any _ (HT.out.keep HX.out.k)).mono ?_
              rintro e wz ⟨rfl, kz⟩
              have HZ := Lib.hid (HX.out.k.trans kz)
              clear kz
              try dsimp only
              go_wp2_with fail
              go_ret
              exact ⟨rfl, HZ.out⟩
          · have SM := Lib.hid (show signI (xa.fmod xb) = z from by rw [HZZ.out]; exact DF.out.ms hm)
            have hmb : (z != 0) = true := by rw [← SM.out]; simp only [bne_iff_ne, ne_eq]; intro h; rw [show signI (xa.fmod xb) = 0 ↔ xa.fmod xb = 0 from by unfold signI; (repeat' split) <;> omega] at h; exact hm h
            clear hm
            try dsimp only [List.getElem_toArray, List.getElem_cons_succ, List.getElem_cons_zero]
            try simp only [Act.put, List.setIfInBounds_toArray, List.set_cons_zero, List.set_cons_succ]
            refine wpAnyH_ready (rs := [28]) (by kernel_rfl) (by simp) ?_
            refine AllReadyH.cons (o := _) rfl (fun K hK => ?_) AllReadyH.nil
            go_simp
            refine (sign_any q_m A_m n_m c_m l_m _ ((HX.out.keep K7).m _ (.tail _ (.tail _ (.head _))))).mono ?_
            rintro e wr8 ⟨rfl, kr⟩
            rw [V_m.out, SM.out]
            have K8 : Keep (fun _ => False) w5 wr8 := Keep.trans K7 kr
            clear kr K7
            try dsimp only
            go_wp2_with fail
            refine hK.out _ _ (HCC.out _ K8) (fun hHeld => ?_)
            clear hK K
            refine wpAnyH_take (i := 29) (oi := _) (v := ?_) rfl (by kernel_rfl) (by kernel_rfl) (by kernel_rfl) (fun _ _ _ h => h) (Or.inl ⟨by rfl, ?_⟩) (by assumption) ?_
            rotate_left
            · (intro w hSw; (try dsimp only at hSw); go_simp)
              all_goals with_reducible rfl
            refine wpAnyH_take (i := 30) (oi := _) (v := ?_) rfl (by kernel_rfl) (by kernel_rfl) (by kernel_rfl) (fun _ _ _ h => h) (Or.inl ⟨by rfl, ?_⟩) (by assumption) ?_
            rotate_left
            · (intro w hSw; (try dsimp only at hSw); go_simp)
              all_goals with_reducible rfl
            refine wpAnyH_take (i := 31) (oi := _) (v := ?_) rfl (by kernel_rfl) (by kernel_rfl) (by kernel_rfl) (fun _ _ _ h => h) (Or.inl ⟨by rfl, ?_⟩) (by assumption) ?_
            rotate_left
            · (intro w hSw; (try dsimp only at hSw); go_simp)
              all_goals with_reducible rfl
            refine wpAnyH_take (i := 33) (oi := _) (v := ?_) rfl (by kernel_rfl) (by kernel_rfl) (by kernel_rfl) (fun _ _ _ h => h) (Or.inl ⟨by rfl, ?_⟩) (by assumption) ?_
            rotate_left
            · (intro w hSw; (try dsimp only at hSw); go_simp)
              all_goals with_reducible rfl
            try dsimp only [List.getElem_toArray, List.getElem_cons_succ, List.getElem_cons_zero]
            try simp only [Act.put, List.setIfInBounds_toArray, List.set_cons_zero, List.set_cons_succ]
            refine wpAnyH_ready (rs := [32]) (by kernel_rfl) (by simp) ?_
            refine AllReadyH.cons (o := _) rfl (fun K hK => ?_) AllReadyH.nil
            go_simp
            refine (sign_any q_m A_m n_m c_m l_m _ ((HX.out.keep K8).m _ (.tail _ (.tail _ (.head _))))).mono ?_
            rintro e wr9 ⟨rfl, kr⟩
            rw [V_m.out, SM.out]
            have K9 : Keep (fun _ => False) w5 wr9 := Keep.trans K8 kr
            clear kr K8
            try dsimp only
            go_wp2_with fail
            refine hK.out _ _ (HCC.out _ K9) (fun hHeld => ?_)
            clear hK K
            try dsimp only [List.getElem_toArray, List.getElem_cons_succ, List.getElem_cons_zero]
            try simp only [Act.put, List.setIfInBounds_toArray, List.set_cons_zero, List.set_cons_succ]
            refine wpAnyH_ready (rs := [34]) (by kernel_rfl) (by simp) ?_
            refine AllReadyH.cons (o := _) rfl (fun K hK => ?_) AllReadyH.nil
            go_simp
            refine (sign_any q_b A_b n_b c_b l_b _ ((HX.out.keep K9).m _ (.tail _ (.tail _ (.tail _ (.tail _ (.tail _ (.head _)))))))).mono ?_
            rintro e wr10 ⟨rfl, kr⟩
            rw [VB.out, ← HZZ.out]
            have K10 : Keep (fun _ => False) w5 wr10 := Keep.trans K9 kr
            clear kr K9
            try dsimp only
            go_wp2_with fail
            refine hK.out _ _ (HCC.out _ K10) (fun hHeld => ?_)
            clear hK K
            refine wpAnyH_take (i := 35) (oi := _) (v := ?_) rfl (by kernel_rfl) (by kernel_rfl) (by kernel_rfl) (fun _ _ _ h => h) (Or.inl ⟨by rfl, ?_⟩) (by assumption) ?_
            rotate_left
            · (intro w hSw; (try dsimp only at hSw); go_simp)
              all_goals with_reducible rfl
            refine wpAnyH_take (i := 36) (oi := _) (v := ?_) rfl (by kernel_rfl) (by kernel_rfl) (by kernel_rfl) (fun _ _ _ h => h) (Or.inl ⟨by rfl, ?_⟩) (by assumption) ?_
            rotate_left
            · (intro w hSw; (try dsimp only at hSw); go_simp)
              all_goals with_reducible rfl
            refine wpAnyH_take (i := 37) (oi := _) (v := ?_) rfl (by kernel_rfl) (by kernel_rfl) (by kernel_rfl) (fun _ _ _ h => h) (Or.inl ⟨by rfl, ?_⟩) (by assumption) ?_
            rotate_left
            · (intro w hSw; (try dsimp only at hSw); go_simp)
              all_goals with_reducible rfl
            try dsimp only [List.getElem_toArray, List.getElem_cons_succ, List.getElem_cons_zero]
            try simp only [Act.put, List.setIfInBounds_toArray, List.set_cons_zero, List.set_cons_succ]
            refine wpAnyH_done (by kernel_rfl) ?_ _
            have KK := K10
            clear K10
            have HX1 := Lib.hid (HX.out.keep KK)
            clear HX
            have HX := Lib.hid HX1.out
            clear HX1
            clear HCC KK
            have hBE := HBE.out
            rw [hBE.1, hBE.2]
            clear hBE
            have hfit : Fits (xa.fmod xb - xa.tmod xb) := by
              rcases DF.out.d with h | h
              · rw [h]; exact small_fits (by decide)
              · rw [h]; exact HO_b.out.fits
            obtain ⟨x0, x1, xl⟩ := HX.out.cells (.head _)
            obtain ⟨o0, o1, ol⟩ := HX.out.cells (.tail _ (.head _))
            obtain ⟨m0, m1, ml⟩ := HX.out.cells (.tail _ (.tail _ (.head _)))
            obtain ⟨y0, y1, yl⟩ := HX.out.cells (.tail _ (.tail _ (.tail _ (.head _))))
            obtain ⟨q0, q1, ql⟩ := HX.out.cells (.tail _ (.tail _ (.tail _ (.tail _ (.head _)))))
            obtain ⟨s0, s1, sl⟩ := HX.out.cells (.tail _ (.tail _ (.tail _ (.tail _ (.tail _ (.head _))))))
            obtain ⟨r0, r1, rl⟩ := HX.out.cells (.tail _ (.tail _ (.tail _ (.tail _ (.tail _ (.tail _ (.head _)))))))
            try dsimp only
            go_wp2_with fail
            clear x0 x1 xl o0 o1 ol m0 m1 ml y0 y1 yl q0 q1 ql s0 s1 sl r0 r1 rl
            refine (sub_any q_m A_m n_m c_m l_m q_y A_y n_y c_y l_y _ (HX.out.m _ (.tail _ (.tail _ (.head _)))) (HX.out.m _ (.tail _ (.tail _ (.tail _ (.head _))))) (by omega) (by omega)).mono ?_
            intro e w_d hres
            rw [V_m.out, V_y.out] at hres
            obtain ⟨k_d, q_d, A_d, n_d, c_d, l_d, f_d, rfl, LM, ln_d, ho⟩ := hres.gen
            have HO_d := Lib.hid ho
            clear ho hres
            have HX1 := Lib.hid (HX.out.keep k_d)
            clear HX k_d
            have HX := Lib.hid HX1.out
            clear HX1
            have HX1 := Lib.hid (HX.out.num LM)
            clear HX LM
            have HX := Lib.hid HX1.out
            clear HX1
            obtain rfl := HO_d.out.ok hfit
            have V_d := Lib.hid HO_d.out.val
            obtain ⟨x0, x1, xl⟩ := HX.out.cells (.head _)
            obtain ⟨o0, o1, ol⟩ := HX.out.cells (.tail _ (.head _))
            obtain ⟨m0, m1, ml⟩ := HX.out.cells (.tail _ (.tail _ (.head _)))
            obtain ⟨y0, y1, yl⟩ := HX.out.cells (.tail _ (.tail _ (.tail _ (.head _))))
            obtain ⟨q0, q1, ql⟩ := HX.out.cells (.tail _ (.tail _ (.tail _ (.tail _ (.head _)))))
            obtain ⟨s0, s1, sl⟩ := HX.out.cells (.tail _ (.tail _ (.tail _ (.tail _ (.tail _ (.head _))))))
            obtain ⟨r0, r1, rl⟩ := HX.out.cells (.tail _ (.tail _ (.tail _ (.tail _ (.tail _ (.tail _ (.head _)))))))
            try dsimp only
            go_wp2_with fail
            clear x0 x1 xl o0 o1 ol m0 m1 ml y0 y1 yl q0 q1 ql s0 s1 sl r0 r1 rl
            have HX1 := Lib.hid (HX.out.box (.bool q_d) (.slice A_d n_d c_d))
            clear HX
            have HX := Lib.hid HX1.out
            clear HX1
            refine (sign_any q_d A_d n_d c_d l_d _ (HX.out.m _ (.head _))).mono ?_
            rintro e wi ⟨rfl, ki⟩
            rw [V_d.out]
            have HX1 := Lib.hid (HX.out.keep ki)
            clear HX ki
            have HX := Lib.hid HX1.out
            clear HX1
            by_cases hd : xa.fmod xb - xa.tmod xb = 0
            · rw [show signI (xa.fmod xb - xa.tmod xb) = 0 from by rw [hd]; rfl]
              clear hd
              obtain ⟨d0, d1, dl⟩ := HX.out.cells (.head _)
              obtain ⟨x0, x1, xl⟩ := HX.out.cells (.tail _ (.head _))
              obtain ⟨o0, o1, ol⟩ := HX.out.cells (.tail _ (.tail _ (.head _)))
              obtain ⟨m0, m1, ml⟩ := HX.out.cells (.tail _ (.tail _ (.tail _ (.head _))))
              obtain ⟨y0, y1, yl⟩ := HX.out.cells (.tail _ (.tail _ (.tail _ (.tail _ (.head _)))))
              obtain ⟨q0, q1, ql⟩ := HX.out.cells (.tail _ (.tail _ (.tail _ (.tail _ (.tail _ (.head _))))))
              obtain ⟨s0, s1, sl⟩ := HX.out.cells (.tail _ (.tail _ (.tail _ (.tail _ (.tail _ (.tail _ (.head _)))))))
              obtain ⟨r0, r1, rl⟩ := HX.out.cells (.tail _ (.tail _ (.tail _ (.tail _ (.tail _ (.tail _ (.tail _ (.head _))))))))
              try dsimp only
              go_wp2_with fail
              clear d0 d1 dl x0 x1 xl o0 o1 ol m0 m1 ml y0 y1 yl q0 q1 ql s0 s1 sl r0 r1 rl
              refine (awake_any _ (HT.out.keep HX.out.k)).mono ?_
              rintro e wz ⟨rfl, kz⟩
              have HZ := Lib.hid (HX.out.k.trans kz)
              clear kz
              try dsimp only
              go_wp2_with fail
              go_ret
              exact ⟨rfl, HZ.out⟩
            · have hs : (signI (xa.fmod xb - xa.tmod xb) == 0) = false := by rw [signI_zero]; exact decide_eq_false hd
              have hdb := DF.out.d.resolve_left hd
              obtain ⟨zd, hzd⟩ : ∃ z, z = signI (xa.fmod xb - xa.tmod xb) := ⟨_, rfl⟩
              rw [← hzd] at hs ⊢
              have HDB := Lib.hid hdb
              clear hzd hdb hd
              obtain ⟨d0, d1, dl⟩ := HX.out.cells (.head _)
              obtain ⟨x0, x1, xl⟩ := HX.out.cells (.tail _ (.head _))
              obtain ⟨o0, o1, ol⟩ := HX.out.cells (.tail _ (.tail _ (.head _)))
              obtain ⟨m0, m1, ml⟩ := HX.out.cells (.tail _ (.tail _ (.tail _ (.head _))))
              obtain ⟨y0, y1, yl⟩ := HX.out.cells (.tail _ (.tail _ (.tail _ (.tail _ (.head _)))))
              obtain ⟨q0, q1, ql⟩ := HX.out.cells (.tail _ (.tail _ (.tail _ (.tail _ (.tail _ (.head _))))))
              obtain ⟨s0, s1, sl⟩ := HX.out.cells (.tail _ (.tail _ (.tail _ (.tail _ (.tail _ (.tail _ (.head _)))))))
              obtain ⟨r0, r1, rl⟩ := HX.out.cells (.tail _ (.tail _ (.tail _ (.tail _ (.tail _ (.tail _ (.tail _ (.head _))))))))
              try dsimp only
              go_wp2_with fail
              clear d0 d1 dl x0 x1 xl o0 o1 ol m0 m1 ml y0 y1 yl q0 q1 ql s0 s1 sl r0 r1 rl
              refine (cmp_any q_d A_d n_d c_d l_d q_b A_b n_b c_b l_b _ (HX.out.m _ (.head _)) (HX.out.m _ (.tail _ (.tail _ (.tail _ (.tail _ (.tail _ (.tail _ (.head _))))))))).mono ?_
              rintro e wi ⟨rfl, ki⟩
              rw [V_d.out, VB.out, HDB.out, cmp_self]
              have HX1 := Lib.hid (HX.out.keep ki)
              clear HX ki
              have HX := Lib.hid HX1.out
              clear HX1
              obtain ⟨d0, d1, dl⟩ := HX.out.cells (.head _)
              obtain ⟨x0, x1, xl⟩ := HX.out.cells (.tail _ (.head _))
              obtain ⟨o0, o1, ol⟩ := HX.out.cells (.tail _ (.tail _ (.head _)))
              obtain ⟨m0, m1, ml⟩ := HX.out.cells (.tail _ (.tail _ (.tail _ (.head _))))
              obtain ⟨y0, y1, yl⟩ := HX.out.cells (.tail _ (.tail _ (.tail _ (.tail _ (.head _)))))
              obtain ⟨q0, q1, ql⟩ := HX.out.cells (.tail _ (.tail _ (.tail _ (.tail _ (.tail _ (.head _))))))
              obtain ⟨s0, s1, sl⟩ := HX.out.cells (.tail _ (.tail _ (.tail _ (.tail _ (.tail _ (.tail _ (.head _)))))))
              obtain ⟨r0, r1, rl⟩ := HX.out.cells (.tail _ (.tail _ (.tail _ (.tail _ (.tail _ (.tail _ (.tail _ (.head _))))))))
              try dsimp only
              go_wp2_with fail
              clear d0 d1 dl x0 x1 xl o0 o1 ol m0 m1 ml y0 y1 yl q0 q1 ql s0 s1 sl r0 r1 rl
              refine (awake_any _ (HT.out.keep HX.out.k)).mono ?_
              rintro e wz ⟨rfl, kz⟩
              have HZ := Lib.hid (HX.out.k.trans kz)
              clear kz
              try dsimp only
              go_wp2_with fail
              go_ret
              exact ⟨rfl, HZ.out⟩
        · have SR := Lib.hid (show signI (xa.tmod xb) = za from by rw [HZA.out]; exact DF.out.rs hr)
          have hra : (za != 0) = true := by rw [← SR.out]; simp only [bne_iff_ne, ne_eq]; intro h; rw [show signI (xa.tmod xb) = 0 ↔ xa.tmod xb = 0 from by unfold signI; (repeat' split) <;> omega] at h; exact hr h
          clear hr
          try dsimp only [List.getElem_toArray, List.getElem_cons_succ, List.getElem_cons_zero]
          try simp only [Act.put, List.setIfInBounds_toArray, List.set_cons_zero, List.set_cons_succ]
          refine wpAnyH_ready (rs := [16]) (by kernel_rfl) (by simp) ?_
          refine AllReadyH.cons (o := _) rfl (fun K hK => ?_) AllReadyH.nil
          go_simp
          refine (sign_any q_y A_y n_y c_y l_y _ ((HX.out.keep K6).m _ (.tail _ (.tail _ (.tail _ (.head _)))))).mono ?_
          rintro e wr7 ⟨rfl, kr⟩
          rw [V_y.out, SR.out]
          have K7 : Keep (fun _ => False) w5 wr7 := Keep.trans K6 kr
          clear kr K6
          try dsimp only
          go_wp2_with fail
          refine hK.out _ _ (HCC.out _ K7) (fun hHeld => ?_)
          clear hK K
          refine wpAnyH_take (i := 17) (oi := _) (v := ?_) rfl (by kernel_rfl) (by kernel_rfl) (by kernel_rfl) (fun _ _ _ h => h) (Or.inl ⟨by rfl, ?_⟩) (by assumption) ?_
          rotate_left
          · (intro w hSw; (try dsimp only at hSw); go_simp)
            all_goals with_reducible rfl
          refine wpAnyH_take (i := 18) (oi := _) (v := ?_) rfl (by kernel_rfl) (by kernel_rfl) (by kernel_rfl) (fun _ _ _ h => h) (Or.inl ⟨by rfl, ?_⟩) (by assumption) ?_
          rotate_left
          · (intro w hSw; (try dsimp only at hSw); go_simp)
            all_goals with_reducible rfl
          refine wpAnyH_take (i := 19) (oi := _) (v := ?_) rfl (by kernel_rfl) (by kernel_rfl) (by kernel_rfl) (fun _ _ _ h => h) (Or.inl ⟨by rfl, ?_⟩) (by assumption) ?_
          rotate_left
          · (intro w hSw; (try dsimp only at hSw); go_simp)
            all_goals with_reducible rfl
          refine wpAnyH_take (i := 21) (oi := _) (v := ?_) rfl (by kernel_rfl) (by kernel_rfl) (by kernel_rfl) (fun _ _ _ h => h) (Or.inl ⟨by rfl, ?_⟩) (by assumption) ?_
          rotate_left
          · (intro w hSw; (try dsimp only at hSw); go_simp)
            all_goals with_reducible rfl
          try dsimp only [List.getElem_toArray, List.getElem_cons_succ, List.getElem_cons_zero]
          try simp only [Act.put, List.setIfInBounds_toArray, List.set_cons_zero, List.set_cons_succ]
          refine wpAnyH_ready (rs := [20]) (by kernel_rfl) (by simp) ?_
          refine AllReadyH.cons (o := _) rfl (fun K hK => ?_) AllReadyH.nil
          go_simp
          refine (sign_any q_y A_y n_y c_y l_y _ ((HX.out.keep K7).m _ (.tail _ (.tail _ (.tail _ (.head _)))))).mono ?_
          rintro e wr8 ⟨rfl, kr⟩
          rw [V_y.out, SR.out]
          have K8 : Keep (fun _ => False) w5 wr8 := Keep.trans K7 kr
          clear kr K7
          try dsimp only
          go_wp2_with fail
          refine hK.out _ _ (HCC.out _ K8) (fun hHeld => ?_)
          clear hK K
          try dsimp only [List.getElem_toArray, List.getElem_cons_succ, List.getElem_cons_zero]
          try simp only [Act.put, List.setIfInBounds_toArray, List.set_cons_zero, List.set_cons_succ]
          refine wpAnyH_ready (rs := [22]) (by kernel_rfl) (by simp) ?_
          refine AllReadyH.cons (o := _) rfl (fun K hK => ?_) AllReadyH.nil
          go_simp
          refine (sign_any q_a A_a n_a c_a l_a _ ((HX.out.keep K8).m _ (.tail _ (.tail _ (.tail _ (.tail _ (.tail _ (.tail _ (.head _))))))))).mono ?_
          rintro e wr9 ⟨rfl, kr⟩
          rw [VA.out, ← HZA.out]
          have K9 : Keep (fun _ => False) w5 wr9 := Keep.trans K8 kr
          clear kr K8
          try dsimp only
          go_wp2_with fail
          refine hK.out _ _ (HCC.out _ K9) (fun hHeld => ?_)
          clear hK K
          refine wpAnyH_take (i := 23) (oi := _) (v := ?_) rfl (by kernel_rfl) (by kernel_rfl) (by kernel_rfl) (fun _ _ _ h => h) (Or.inl ⟨by rfl, ?_⟩) (by assumption) ?_
          rotate_left
          · (intro w hSw; (try dsimp only at hSw); go_simp)
            all_goals with_reducible rfl
          refine wpAnyH_take (i := 24) (oi := _) (v := ?_) rfl (by kernel_rfl) (by kernel_rfl) (by kernel_rfl) (fun _ _ _ h => h) (Or.inl ⟨by rfl, ?_⟩) (by assumption) ?_
          rotate_left
          · (intro w hSw; (try dsimp only at hSw); go_simp)
            all_goals with_reducible rfl
          refine wpAnyH_take (i := 25) (oi := _) (v := ?_) rfl (by kernel_rfl) (by kernel_rfl) (by kernel_rfl) (fun _ _ _ h => h) (Or.inl ⟨by rfl, ?_⟩) (by assumption) ?_
          rotate_left
          · (intro w hSw; (try dsimp only at hSw); go_simp)
            all_goals with_reducible rfl
          refine wpAnyH_take (i := 26) (oi := _) (v := ?_) rfl (by kernel_rfl) (by kernel_rfl) (by kernel_rfl) (fun _ _ _ h => h) (Or.inl ⟨by rfl, ?_⟩) (by assumption) ?_
          rotate_left
          · (intro w hSw; (try dsimp only at hSw); go_simp)
            all_goals with_reducible rfl
          refine wpAnyH_take (i := 27) (oi := _) (v := ?_) rfl (by kernel_rfl) (by kernel_rfl) (by kernel_rfl) (fun _ _ _ h => h) (Or.inl ⟨by rfl, ?_⟩) (by assumption) ?_
          rotate_left
          · (intro w hSw; (try dsimp only at hSw); go_simp)
            all_goals with_reducible rfl
          by_cases hm : xa.fmod xb = 0
          · have SM := Lib.hid (show signI (xa.fmod xb) = 0 from by rw [hm]; rfl)
            clear hm
            try dsimp only [List.getElem_toArray, List.getElem_cons_succ, List.getElem_cons_zero]
            try simp only [Act.put, List.setIfInBounds_toArray, List.set_cons_zero, List.set_cons_succ]
            refine wpAnyH_ready (rs := [28]) (by kernel_rfl) (by simp) ?_
            refine AllReadyH.cons (o := _) rfl (fun K hK => ?_) AllReadyH.nil
            go_simp
            refine (sign_any q_m A_m n_m c_m l_m _ ((HX.out.keep K9).m _ (.tail _ (.tail _ (.head _))))).mono ?_
            rintro e wr10 ⟨rfl, kr⟩
            rw [V_m.out, SM.out]
            have K10 : Keep (fun _ => False) w5 wr10 := Keep.trans K9 kr
            clear kr K9
            try dsimp only
            go_wp2_with fail
            refine hK.out _ _ (HCC.out _ K10) (fun hHeld => ?_)
            clear hK K
            refine wpAnyH_take (i := 29) (oi := _) (v := ?_) rfl (by kernel_rfl) (by kernel_rfl) (by kernel_rfl) (fun _ _ _ h => h) (Or.inl ⟨by rfl, ?_⟩) (by assumption) ?_
            rotate_left
            · (intro w hSw; (try dsimp only at hSw); go_simp)
              all_goals with_reducible rfl
            refine wpAnyH_take (i := 30) (oi := _) (v := ?_) rfl (by kernel_rfl) (by kernel_rfl) (by kernel_rfl) (fun _ _ _ h => h) (Or.inl ⟨by rfl, ?_⟩) (by assumption) ?_
            rotate_left
            · (intro w hSw; (try dsimp only at hSw); go_simp)
              all_goals with_reducible rfl
            try dsimp only [List.getElem_toArray, List.getElem_cons_succ, List.getElem_cons_zero]
            try simp only [Act.put, List.setIfInBounds_toArray, List.set_cons_zero, List.set_cons_succ]
            refine wpAnyH_take (i := 31) (oi := _) (v := undef) rfl (by kernel_rfl) (by kernel_rfl) (by kernel_rfl) (fun _ _ _ h => h) (Or.inr ⟨by rfl, rfl⟩) (by assumption) ?_
            refine wpAnyH_take (i := 32) (oi := _) (v := undef) rfl (by kernel_rfl) (by kernel_rfl) (by kernel_rfl) (fun _ _ _ h => h) (Or.inr ⟨by rfl, rfl⟩) (by assumption) ?_
            refine wpAnyH_take (i := 33) (oi := _) (v := undef) rfl (by kernel_rfl) (by kernel_rfl) (by kernel_rfl) (fun _ _ _ h => h) (Or.inr ⟨by rfl, rfl⟩) (by assumption) ?_
            refine wpAnyH_take (i := 34) (oi := _) (v := undef) rfl (by kernel_rfl) (by kernel_rfl) (by kernel_rfl) (fun _ _ _ h => h) (Or.inr ⟨by rfl, rfl⟩) (by assumption) ?_
            refine wpAnyH_take (i := 35) (oi := _) (v := undef) rfl (by kernel_rfl) (by kernel_rfl) (by kernel_rfl) (fun _ _ _ h => h) (Or.inr ⟨by rfl, rfl⟩) (by assumption) ?_
            try dsimp only [List.getElem_toArray, List.getElem_cons_succ, List.getElem_cons_zero]
            try simp only [Act.put, List.setIfInBounds_toArray, List.set_cons_zero, List.set_cons_succ]
            refine wpAnyH_take (i := 36) (oi := _) (v := ?_) rfl (by kernel_rfl) (by kernel_rfl) (by kernel_rfl) (fun _ _ _ h => h) (Or.inl ⟨by rfl, ?_⟩) (by assumption) ?_
            rotate_left
            · (intro w hSw; (try dsimp only at hSw); go_simp)
              all_goals with_reducible rfl
            refine wpAnyH_take (i := 37) (oi := _) (v := ?_) rfl (by kernel_rfl) (by kernel_rfl) (by kernel_rfl) (fun _ _ _ h => h) (Or.inl ⟨by rfl, ?_⟩) (by assumption) ?_
            rotate_left
            · (intro w hSw; (try dsimp only at hSw); go_simp)
              all_goals with_reducible rfl
            try dsimp only [List.getElem_toArray, List.getElem_cons_succ, List.getElem_cons_zero]
            try simp only [Act.put, List.setIfInBounds_toArray, List.set_cons_zero, List.set_cons_succ]
            refine wpAnyH_done (by kernel_rfl) ?_ _
            have KK := K10
            clear K10
            have HX1 := Lib.hid (HX.out.keep KK)
            clear HX
            have HX := Lib.hid HX1.out
            clear HX1
            clear HCC KK
            have hBE := HBE.out
            rw [hBE.1, hBE.2]
            clear hBE
            have hfit : Fits (xa.fmod xb - xa.tmod xb) := by
              rcases DF.out.d with h | h
              · rw [h]; exact small_fits (by decide)
              · rw [h]; exact HO_b.out.fits
            obtain ⟨x0, x1, xl⟩ := HX.out.cells (.head _)
            obtain ⟨o0, o1, ol⟩ := HX.out.cells (.tail _ (.head _))
            obtain ⟨m0, m1, ml⟩ := HX.out.cells (.tail _ (.tail _ (.head _)))
            obtain ⟨y0, y1, yl⟩ := HX.out.cells (.tail _ (.tail _ (.tail _ (.head _))))
            obtain ⟨q0, q1, ql⟩ := HX.out.cells (.tail _ (.tail _ (.tail _ (.tail _ (.head _)))))
            obtain ⟨s0, s1, sl⟩ := HX.out.cells (.tail _ (.tail _ (.tail _ (.tail _ (.tail _ (.head _))))))
            obtain ⟨r0, r1, rl⟩ := HX.out.cells (.tail _ (.tail _ (.tail _ (.tail _ (.tail _ (.tail _ (.head _)))))))
            try dsimp only
            go_wp2_with fail
            clear x0 x1 xl o0 o1 ol m0 m1 ml y0 y1 yl q0 q1 ql s0 s1 sl r0 r1 rl
            refine (sub_any q_m A_m n_m c_m l_m q_y A_y n_y c_y l_y _ (HX.out.m _ (.tail _ (.tail _ (.head _)))) (HX.out.m _ (.tail _ (.tail _ (.tail _ (.head _))))) (by omega) (by omega)).mono ?_
            intro e w_d hres
            rw [V_m.out, V_y.out] at hres
            obtain ⟨k_d, q_d, A_d, n_d, c_d, l_d, f_d, rfl, LM, ln_d, ho⟩ := hres.gen
            have HO_d := Lib.hid ho
            clear ho hres
            have HX1 := Lib.hid (HX.out.keep k_d)
            clear HX k_d
            have HX := Lib.hid HX1.out
            clear HX1
            have HX1 := Lib.hid (HX.out.num LM)
            clear HX LM
            have HX := Lib.hid HX1.out
            clear HX1
            obtain rfl := HO_d.out.ok hfit
            have V_d := Lib.hid HO_d.out.val
            obtain ⟨x0, x1, xl⟩ := HX.out.cells (.head _)
            obtain ⟨o0, o1, ol⟩ := HX.out.cells (.tail _ (.head _))
            obtain ⟨m0, m1, ml⟩ := HX.out.cells (.tail _ (.tail _ (.head _)))
            obtain ⟨y0, y1, yl⟩ := HX.out.cells (.tail _ (.tail _ (.tail _ (.head _))))
            obtain ⟨q0, q1, ql⟩ := HX.out.cells (.tail _ (.tail _ (.tail _ (.tail _ (.head _)))))
            obtain ⟨s0, s1, sl⟩ := HX.out.cells (.tail _ (.tail _ (.tail _ (.tail _ (.tail _ (.head _))))))
            obtain ⟨r0, r1, rl⟩ := HX.out.cells (.tail _ (.tail _ (.tail _ (.tail _ (.tail _ (.tail _ (.head _)))))))
            try dsimp only
            go_wp2_with fail
            clear x0 x1 xl o0 o1 ol m0 m1 ml y0 y1 yl q0 q1 ql s0 s1 sl r0 r1 rl
            have HX1 := Lib.hid (HX.out.box (.bool q_d) (.slice A_d n_d c_d))
            clear HX
            have HX := Lib.hid HX1.out
            clear HX1
            refine (sign_any q_d A_d n_d c_d l_d _ (HX.out.m _ (.head _))).mono ?_
            rintro e wi ⟨rfl, ki⟩
            rw [V_d.out]
            have HX1 := Lib.hid (HX.out.keep ki)
            clear HX ki
            have HX := Lib.hid HX1.out
            clear HX1
            by_cases hd : xa.fmod xb - xa.tmod xb = 0
            · rw [show signI (xa.fmod xb - xa.tmod xb) = 0 from by rw [hd]; rfl]
              clear hd
              obtain ⟨d0, d1, dl⟩ := HX.out.cells (.head _)
              obtain ⟨x0, x1, xl⟩ := HX.out.cells (.tail _ (.head _))
              obtain ⟨o0, o1, ol⟩ := HX.out.cells (.tail _ (.tail _ (.head _)))
              obtain ⟨m0, m1, ml⟩ := HX.out.cells (.tail _ (.tail _ (.tail _ (.head _))))
              obtain ⟨y0, y1, yl⟩ := HX.out.cells (.tail _ (.tail _ (.tail _ (.tail _ (.head _)))))
              obtain ⟨q0, q1, ql⟩ := HX.out.cells (.tail _ (.tail _ (.tail _ (.tail _ (.tail _ (.head _))))))
              obtain ⟨s0, s1, sl⟩ := HX.out.cells (.tail _ (.tail _ (.tail _ (.tail _ (.tail _ (.tail _ (.head _)))))))
              obtain ⟨r0, r1, rl⟩ := HX.out.cells (.tail _ (.tail _ (.tail _ (.tail _ (.tail _ (.tail _ (.tail _ (.head _))))))))
              try dsimp only
              go_wp2_with fail
              clear d0 d1 dl x0 x1 xl o0 o1 ol m0 m1 ml y0 y1 yl q0 q1 ql s0 s1 sl r0 r1 rl
              refine (awake_any _ (HT.out.keep HX.out.k)).mono ?_
              rintro e wz ⟨rfl, kz⟩
              have HZ := Lib.hid (HX.out.k.trans kz)
              clear kz
              try dsimp only
              go_wp2_with fail
              go_ret
              exact ⟨rfl, HZ.out⟩
            · have hs : (signI (xa.fmod xb - xa.tmod xb) == 0) = false := by rw [signI_zero]; exact decide_eq_false hd
              have hdb := DF.out.d.resolve_left hd
              obtain ⟨zd, hzd⟩ : ∃ z, z = signI (xa.fmod xb - xa.tmod xb) := ⟨_, rfl⟩
              rw [← hzd] at hs ⊢
              have HDB := Lib.hid hdb
              clear hzd hdb hd
              obtain ⟨d0, d1, dl⟩ := HX.out.cells (.head _)
              obtain ⟨x0, x1, xl⟩ := HX.out.cells (.tail _ (.head _))
              obtain ⟨o0, o1, ol⟩ := HX.out.cells (.tail _ (.tail _ (.head _)))
              obtain ⟨m0, m1, ml⟩ := HX.out.cells (.tail _ (.tail _ (.tail _ (.head _))))
              obtain ⟨y0, y1, yl⟩ := HX.out.cells (.tail _ (.tail _ (.tail _ (.tail _ (.head _)))))
              obtain ⟨q0, q1, ql⟩ := HX.out.cells (.tail _ (.tail _ (.tail _ (.tail _ (.tail _ (.head _))))))
              obtain ⟨s0, s1, sl⟩ := HX.out.cells (.tail _ (.tail _ (.tail _ (.tail _ (.tail _ (.tail _ (.head _)))))))
              obtain ⟨r0, r1, rl⟩ := HX.out.cells (.tail _ (.tail _ (.tail _ (.tail _ (.tail _ (.tail _ (.tail _ (.head _))))))))
              try dsimp only
              go_wp2_with fail
              clear d0 d1 dl x0 x1 xl o0 o1 ol m0 m1 ml y0 y1 yl q0 q1 ql s0 s1 sl r0 r1 rl
              refine (cmp_any q_d A_d n_d c_d l_d q_b A_b n_b c_b l_b _ (HX.out.m _ (.head _)) (HX.out.m _ (.tail _ (.tail _ (.tail _ (.tail _ (.tail _ (.tail _ (.head _))))))))).mono ?_
              rintro e wi ⟨rfl, ki⟩
              rw [V_d.out, VB.out, HDB.out, cmp_self]
              have HX1 := Lib.hid (HX.out.keep ki)
              clear HX ki
              have HX := Lib.hid HX1.out
              clear HX1
              obtain ⟨d0, d1, dl⟩ := HX.out.cells (.head _)
              obtain ⟨x0, x1, xl⟩ := HX.out.cells (.tail _ (.head _))
              obtain ⟨o0, o1, ol⟩ := HX.out.cells (.tail _ (.tail _ (.head _)))
              obtain ⟨m0, m1, ml⟩ := HX.out.cells (.tail _ (.tail _ (.tail _ (.head _))))
              obtain ⟨y0, y1, yl⟩ := HX.out.cells (.tail _ (.tail _ (.tail _ (.tail _ (.head _)))))
              obtain ⟨q0, q1, ql⟩ := HX.out.cells (.tail _ (.tail _ (.tail _ (.tail _ (.tail _ (.head _))))))
              obtain ⟨s0, s1, sl⟩ := HX.out.cells (.tail _ (.tail _ (.tail _ (.tail _ (.tail _ (.tail _ (.head _)))))))
              obtain ⟨r0, r1, rl⟩ := HX.out.cells (.tail _ (.tail _ (.tail _ (.tail _ (.tail _ (.tail _ (.tail _ (.head _))))))))
              try dsimp only
              go_wp2_with fail
              clear d0 d1 dl x0 x1 xl o0 o1 ol m0 m1 ml y0 y1 yl q0 q1 ql s0 s1 sl r0 r1 rl
              refine (awake_any _ (HT.out.keep HX.out.k)).mono ?_
              rintro e wz ⟨rfl, kz⟩
              have HZ := Lib.hid (HX.out.k.trans kz)
              clear kz
              try dsimp only
              go_wp2_with fail
              go_ret
              exact ⟨rfl, HZ.out⟩
          · have SM := Lib.hid (show signI (xa.fmod xb) = z from by rw [HZZ.out]; exact DF.out.ms hm)
            have hmb : (z != 0) = true := by rw [← SM.out]; simp only [bne_iff_ne, ne_eq]; intro h; rw [show signI (xa.fmod xb) = 0 ↔ xa.fmod xb = 0 from by unfold signI; (repeat' split) <;> omega] at h; exact hm h
            clear hm
            try dsimp only [List.getElem_toArray, List.getElem_cons_succ, List.getElem_cons_zero]
            try simp only [Act.put, List.setIfInBounds_toArray, List.set_cons_zero, List.set_cons_succ]
            refine wpAnyH_ready (rs := [28]) (by kernel_rfl) (by simp) ?_
            refine AllReadyH.cons (o := _) rfl (fun K hK => ?_) AllReadyH.nil
            go_simp
            refine (sign_any q_m A_m n_m c_m l_m _ ((HX.out.keep K9).m _ (.tail _ (.tail _ (.head _))))).mono ?_
            rintro e wr10 ⟨rfl, kr⟩
            rw [V_m.out, SM.out]
            have K10 : Keep (fun _ => False) w5 wr10 := Keep.trans K9 kr
            clear kr K9
            try dsimp only
            go_wp2_with fail
            refine hK.out _ _ (HCC.out _ K10) (fun hHeld => ?_)
            clear hK K
            refine wpAnyH_take (i := 29) (oi := _) (v := ?_) rfl (by kernel_rfl) (by kernel_rfl) (by kernel_rfl) (fun _ _ _ h => h) (Or.inl ⟨by rfl, ?_⟩) (by assumption) ?_
            rotate_left
            · (intro w hSw; (try dsimp only at hSw); go_simp)
              all_goals with_reducible rfl
            refine wpAnyH_take (i := 30) (oi := _) (v := ?_) rfl (by kernel_rfl) (by kernel_rfl) (by kernel_rfl) (fun _ _ _ h => h) (Or.inl ⟨by rfl, ?_⟩) (by assumption) ?_
            rotate_left
            · (intro w hSw; (try dsimp only at hSw); go_simp)
              all_goals with_reducible rfl
            refine wpAnyH_take (i := 31) (oi := _) (v := ?_) rfl (by kernel_rfl) (by kernel_rfl) (by kernel_rfl) (fun _ _ _ h => h) (Or.inl ⟨by rfl, ?_⟩) (by assumption) ?_
            rotate_left
            · (intro w hSw; (try dsimp only at hSw); go_simp)
              all_goals with_reducible rfl
            refine wpAnyH_take (i := 33) (oi := _) (v := ?_) rfl (by kernel_rfl) (by kernel_rfl) (by kernel_rfl) (fun _ _ _ h => h) (Or.inl ⟨by rfl, ?_⟩) (by assumption) ?_
            rotate_left
            · (intro w hSw; (try dsimp only at hSw); go_simp)
              all_goals with_reducible rfl
            try dsimp only [List.getElem_toArray, List.getElem_cons_succ, List.getElem_cons_zero]
            try simp only [Act.put, List.setIfInBounds_toArray, List.set_cons_zero, List.set_cons_succ]
            refine wpAnyH_ready (rs := [32]) (by kernel_rfl) (by simp) ?_
            refine AllReadyH.cons (o := _) rfl (fun K hK => ?_) AllReadyH.nil
            go_simp
            refine (sign_any q_m A_m n_m c_m l_m _ ((HX.out.keep K10).m _ (.tail _ (.tail _ (.head _))))).mono ?_
            rintro e wr11 ⟨rfl, kr⟩
            rw [V_m.out, SM.out]
            have K11 : Keep (fun _ => False) w5 wr11 := Keep.trans K10 kr
            clear kr K10
            try dsimp only
            go_wp2_with fail
            refine hK.out _ _ (HCC.out _ K11) (fun hHeld => ?_)
            clear hK K
            try dsimp only [List.getElem_toArray, List.getElem_cons_succ, List.getElem_cons_zero]
            try simp only [Act.put, List.setIfInBounds_toArray, List.set_cons_zero, List.set_cons_succ]
            refine wpAnyH_ready (rs := [34]) (by kernel_rfl) (by simp) ?_
            refine AllReadyH.cons (o := _) rfl (fun K hK => ?_) AllReadyH.nil
            go_simp
            refine (sign_any q_b A_b n_b c_b l_b _ ((HX.out.keep K11).m _ (.tail _ (.tail _ (.tail _ (.tail _ (.tail _ (.head _)))))))).mono ?_
            rintro e wr12 ⟨rfl, kr⟩
            rw [VB.out, ← HZZ.out]
            have K12 : Keep (fun _ => False) w5 wr12 := Keep.trans K11 kr
            clear kr K11
            try dsimp only
            go_wp2_with fail
            refine hK.out _ _ (HCC.out _ K12) (fun hHeld => ?_)
            clear hK K
            refine wpAnyH_take (i := 35) (oi := _) (v := ?_) rfl (by kernel_rfl) (by kernel_rfl) (by kernel_rfl) (fun _ _ _ h => h) (Or.inl ⟨by rfl, ?_⟩) (by assumption) ?_
            rotate_left
            · (intro w hSw; (try dsimp only at hSw); go_simp)
              all_goals with_reducible rfl
            refine wpAnyH_take (i := 36) (oi := _) (v := ?_) rfl (by kernel_rfl) (by kernel_rfl) (by kernel_rfl) (fun _ _ _ h => h) (Or.inl ⟨by rfl, ?_⟩) (by assumption) ?_
            rotate_left
            · (intro w hSw; (try dsimp only at hSw); go_simp)
              all_goals with_reducible rfl
            refine wpAnyH_take (i := 37) (oi := _) (v := ?_) rfl (by kernel_rfl) (by kernel_rfl) (by kernel_rfl) (fun _ _ _ h => h) (Or.inl ⟨by rfl, ?_⟩) (by assumption) ?_
            rotate_left
            · (intro w hSw; (try dsimp only at hSw); go_simp)
              all_goals with_reducible rfl
            try dsimp only [List.getElem_toArray, List.getElem_cons_succ, List.getElem_cons_zero]
            try simp only [Act.put, List.setIfInBounds_toArray, List.set_cons_zero, List.set_cons_succ]
            refine wpAnyH_done (by kernel_rfl) ?_ _
            have KK := K12
            clear K12
            have HX1 := Lib.hid (HX.out.keep KK)
            clear HX
            have HX := Lib.hid HX1.out
            clear HX1
            clear HCC KK
            have hBE := HBE.out
            rw [hBE.1, hBE.2]
            clear hBE
            have hfit : Fits (xa.fmod xb - xa.tmod xb) := by
              rcases DF.out.d with h | h
              · rw [h]; exact small_fits (by decide)
              · rw [h]; exact HO_b.out.fits
            obtain ⟨x0, x1, xl⟩ := HX.out.cells (.head _)
            obtain ⟨o0, o1, ol⟩ := HX.out.cells (.tail _ (.head _))
            obtain ⟨m0, m1, ml⟩ := HX.out.cells (.tail _ (.tail _ (.head _)))
            obtain ⟨y0, y1, yl⟩ := HX.out.cells (.tail _ (.tail _ (.tail _ (.head _))))
            obtain ⟨q0, q1, ql⟩ := HX.out.cells (.tail _ (.tail _ (.tail _ (.tail _ (.head _)))))
            obtain ⟨s0, s1, sl⟩ := HX.out.cells (.tail _ (.tail _ (.tail _ (.tail _ (.tail _ (.head _))))))
            obtain ⟨r0, r1, rl⟩ := HX.out.cells (.tail _ (.tail _ (.tail _ (.tail _ (.tail _ (.tail _ (.head _)))))))
            try dsimp only
            go_wp2_with fail
            clear x0 x1 xl o0 o1 ol m0 m1 ml y0 y1 yl q0 q1 ql s0 s1 sl r0 r1 rl
            refine (sub_any q_m A_m n_m c_m l_m q_y A_y n_y c_y l_y _ (HX.out.m _ (.tail _ (.tail _ (.head _)))) (HX.out.m _ (.tail _ (.tail _ (.tail _ (.head _))))) (by omega) (by omega)).mono ?_
            intro e w_d hres
            rw [V_m.out, V_y.out] at hres
            obtain ⟨k_d, q_d, A_d, n_d, c_d, l_d, f_d, rfl, LM, ln_d, ho⟩ := hres.gen
            have HO_d := Lib.hid ho
            clear ho hres
            have HX1 := Lib.hid (HX.out.keep k_d)
            clear HX k_d
            have HX := Lib.hid HX1.out
            clear HX1
            have HX1 := Lib.hid (HX.out.num LM)
            clear HX LM
            have HX := Lib.hid HX1.out
            clear HX1
            obtain rfl := HO_d.out.ok hfit
            have V_d := Lib.hid HO_d.out.val
            obtain ⟨x0, x1, xl⟩ := HX.out.cells (.head _)
            obtain ⟨o0, o1, ol⟩ := HX.out.cells (.tail _ (.head _))
            obtain ⟨m0, m1, ml⟩ := HX.out.cells (.tail _ (.tail _ (.head _)))
            obtain ⟨y0, y1, yl⟩ := HX.out.cells (.tail _ (.tail _ (.tail _ (.head _))))
            obtain ⟨q0, q1, ql⟩ := HX.out.cells (.tail _ (.tail _ (.tail _ (.tail _ (.head _)))))
            obtain ⟨s0, s1, sl⟩ := HX.out.cells (.tail _ (.tail _ (.tail _ (.tail _ (.tail _ (.head _))))))
            obtain ⟨r0, r1, rl⟩ := HX.out.cells (.tail _ (.tail _ (.tail _ (.tail _ (.tail _ (.tail _ (.head _)))))))
            try dsimp only
            go_wp2_with fail
            clear x0 x1 xl o0 o1 ol m0 m1 ml y0 y1 yl q0 q1 ql s0 s1 sl r0 r1 rl
            have HX1 := Lib.hid (HX.out.box (.bool q_d) (.slice A_d n_d c_d))
            clear HX
            have HX := Lib.hid HX1.out
            clear HX1
            refine (sign_any q_d A_d n_d c_d l_d _ (HX.out.m _ (.head _))).mono ?_
            rintro e wi ⟨rfl, ki⟩
            rw [V_d.out]
            have HX1 := Lib.hid (HX.out.keep ki)
            clear HX ki
            have HX := Lib.hid HX1.out
            clear HX1
            by_cases hd : xa.fmod xb - xa.tmod xb = 0
            · rw [show signI (xa.fmod xb - xa.tmod xb) = 0 from by rw [hd]; rfl]
              clear hd
              obtain ⟨d0, d1, dl⟩ := HX.out.cells (.head _)
              obtain ⟨x0, x1, xl⟩ := HX.out.cells (.tail _ (.head _))
              obtain ⟨o0, o1, ol⟩ := HX.out.cells (.tail _ (.tail _ (.head _)))
              obtain ⟨m0, m1, ml⟩ := HX.out.cells (.tail _ (.tail _ (.tail _ (.head _))))
              obtain ⟨y0, y1, yl⟩ := HX.out.cells (.tail _ (.tail _ (.tail _ (.tail _ (.head _)))))
              obtain ⟨q0, q1, ql⟩ := HX.out.cells (.tail _ (.tail _ (.tail _ (.tail _ (.tail _ (.head _))))))
              obtain ⟨s0, s1, sl⟩ := HX.out.cells (.tail _ (.tail _ (.tail _ (.tail _ (.tail _ (.tail _ (.head _)))))))
              obtain ⟨r0, r1, rl⟩ := HX.out.cells (.tail _ (.tail _ (.tail _ (.tail _ (.tail _ (.tail _ (.tail _ (.head _))))))))
              try dsimp only
              go_wp2_with fail
              clear d0 d1 dl x0 x1 xl o0 o1 ol m0 m1 ml y0 y1 yl q0 q1 ql s0 s1 sl r0 r1 rl
              refine (awake_any _ (HT.out.keep HX.out.k)).mono ?_
              rintro e wz ⟨rfl, kz⟩
              have HZ := Lib.hid (HX.out.k.trans kz)
              clear kz
              try dsimp only
              go_wp2_with fail
              go_ret
              exact ⟨rfl, HZ.out⟩
            · have hs : (signI (xa.fmod xb - xa.tmod xb) == 0) = false := by rw [signI_zero]; exact decide_eq_false hd
              have hdb := DF.out.d.resolve_left hd
              obtain ⟨zd, hzd⟩ : ∃ z, z = signI (xa.fmod xb - xa.tmod xb) := ⟨_, rfl⟩
              rw [← hzd] at hs ⊢
              have HDB := Lib.hid hdb
              clear hzd hdb hd
              obtain ⟨d0, d1, dl⟩ := HX.out.cells (.head _)
              obtain ⟨x0, x1, xl⟩ := HX.out.cells (.tail _ (.head _))
              obtain ⟨o0, o1, ol⟩ := HX.out.cells (.tail _ (.tail _ (.head _)))
              obtain ⟨m0, m1, ml⟩ := HX.out.cells (.tail _ (.tail _ (.tail _ (.head _))))
              obtain ⟨y0, y1, yl⟩ := HX.out.cells (.tail _ (.tail _ (.tail _ (.tail _ (.head _)))))
              obtain ⟨q0, q1, ql⟩ := HX.out.cells (.tail _ (.tail _ (.tail _ (.tail _ (.tail _ (.head _))))))
              obtain ⟨s0, s1, sl⟩ := HX.out.cells (.tail _ (.tail _ (.tail _ (.tail _ (.tail _ (.tail _ (.head _)))))))
              obtain ⟨r0, r1, rl⟩ := HX.out.cells (.tail _ (.tail _ (.tail _ (.tail _ (.tail _ (.tail _ (.tail _ (.head _))))))))
              try dsimp only
              go_wp2_with fail
              clear d0 d1 dl x0 x1 xl o0 o1 ol m0 m1 ml y0 y1 yl q0 q1 ql s0 s1 sl r0 r1 rl
              refine (cmp_any q_d A_d n_d c_d l_d q_b A_b n_b c_b l_b _ (HX.out.m _ (.head _)) (HX.out.m _ (.tail _ (.tail _ (.tail _ (.tail _ (.tail _ (.tail _ (.head _))))))))).mono ?_
              rintro e wi ⟨rfl, ki⟩
              rw [V_d.out, VB.out, HDB.out, cmp_self]
              have HX1 := Lib.hid (HX.out.keep ki)
              clear HX ki
              have HX := Lib.hid HX1.out
              clear HX1
              obtain ⟨d0, d1, dl⟩ := HX.out.cells (.head _)
              obtain ⟨x0, x1, xl⟩ := HX.out.cells (.tail _ (.head _))
              obtain ⟨o0, o1, ol⟩ := HX.out.cells (.tail _ (.tail _ (.head _)))
              obtain ⟨m0, m1, ml⟩ := HX.out.cells (.tail _ (.tail _ (.tail _ (.head _))))
              obtain ⟨y0, y1, yl⟩ := HX.out.cells (.tail _ (.tail _ (.tail _ (.tail _ (.head _)))))
              obtain ⟨q0, q1, ql⟩ := HX.out.cells (.tail _ (.tail _ (.tail _ (.tail _ (.tail _ (.head _))))))
              obtain ⟨s0, s1, sl⟩ := HX.out.cells (.tail _ (.tail _ (.tail _ (.tail _ (.tail _ (.tail _ (.head _)))))))
              obtain ⟨r0, r1, rl⟩ := HX.out.cells (.tail _ (.tail _ (.tail _ (.tail _ (.tail _ (.tail _ (.tail _ (.head _))))))))
              try dsimp only
              go_wp2_with fail
              clear d0 d1 dl x0 x1 xl o0 o1 ol m0 m1 ml y0 y1 yl q0 q1 ql s0 s1 sl r0 r1 rl
              refine (awake_any _ (HT.out.keep HX.out.k)).mono ?_
              rintro e wz ⟨rfl, kz⟩
              have HZ := Lib.hid (HX.out.k.trans kz)
              clear kz
              try dsimp only
              go_wp2_with fail
              go_ret
              exact ⟨rfl, HZ.out⟩
    · subst hf
      obtain ⟨fz0, fz1⟩ := HX.out.frozen (.tail _ (.head _))
      obtain ⟨r0, r1, rl⟩ := HX.out.cells (.head _)
      obtain ⟨s0, s1, sl⟩ := HX.out.cells (.tail _ (.head _))
      try dsimp only
      go_wp2_with fail
      clear r0 r1 rl s0 s1 sl
      clear fz0 fz1
      have HX1 := Lib.hid (HX.out.set (bs' := [(B0, .bool q_a, .slice A_a n_a c_a)]) (.tail _ (.head _)) (by have := HSZ.out; omega) (List.forall_mem_cons.2 ⟨⟨(.head _), by dsimp only; omega⟩, (fun _ h => by cases h)⟩) (.bool q_b) (.slice A_b n_b c_b))
      clear HX
      have HX := Lib.hid HX1.out
      clear HX1
      refine (awake_any _ (HT.out.keep HX.out.k)).mono ?_
      rintro e wz ⟨rfl, kz⟩
      have HZ := Lib.hid (HX.out.k.trans kz)
      clear kz
      try dsimp only
      go_wp2_with fail
      go_ret
      exact ⟨rfl, HZ.out⟩
  · subst hf
    obtain ⟨fz0, fz1⟩ := HX.out.frozen (.tail _ (.head _))
    obtain ⟨r0, r1, rl⟩ := HX.out.cells (.head _)
    obtain ⟨s0, s1, sl⟩ := HX.out.cells (.tail _ (.head _))
    try dsimp only
    go_wp2_with fail
    clear r0 r1 rl s0 s1 sl
    clear fz0 fz1
    have HX1 := Lib.hid (HX.out.set (bs' := [(B0, .bool q_a, .slice A_a n_a c_a)]) (.tail _ (.head _)) (by have := HSZ.out; omega) (List.forall_mem_cons.2 ⟨⟨(.head _), by dsimp only; omega⟩, (fun _ h => by cases h)⟩) (.bool q_b) (.slice A_b n_b c_b))
    clear HX
    have HX := Lib.hid HX1.out
    clear HX1
    refine (awake_any _ (HT.out.keep HX.out.k)).mono ?_
    rintro e wz ⟨rfl, kz⟩
    have HZ := Lib.hid (HX.out.k.trans kz)
    clear kz
    try dsimp only
    go_wp2_with fail
    go_ret
    exact ⟨rfl, HZ.out⟩
end Go.Proofs.YtdfekphahdmffaaDoor
