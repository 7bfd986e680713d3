/-
  The law NumCancel: its walk.
-/
import Derived.Test.YtdfekphahdmffaaDoorLawAid
import Derived.Test.YtdfekphahdmffaaDoorNuMul
import Derived.Test.YtdfekphahdmffaaDoorNuQuo
namespace Go.Proofs.YtdfekphahdmffaaDoor
open Go.RowKit

set_option maxRecDepth 100000 in
set_option maxHeartbeats 4000000 in
theorem cancel_long1 (p1 : Bool) (A1 : Option Addr) (n1 c1 : Nat) (p2 : Bool) (A2 : Option Addr) (n2 c2 : Nat) (w : World) (ht : PowTab w) (h1 : 24 < n1) :
    Calls Tryd.prog 15 #[numArg p1 A1 n1 c1, numArg p2 A2 n2 c2] w (BoolPost true w) := by
  have i1 : (24 : Int) < (n1 : Int) := by omega
  have X0 := env2 w (.bool p1) (.slice A1 n1 c1) (.bool p2) (.slice A2 n2 c2)
  have HT := Lib.hid ht
  clear ht
  go_enter Tryd.func15, Tryd.ntmps15
  go_wp2_with fail
  generalize hB0 : w.heap.size = B0 at X0 ⊢
  have HSZ := Lib.hid (Nat.le_of_eq hB0)
  clear hB0
  generalize (w.alloc (.cells #[.bool p1, .slice A1 n1 c1] 25)).alloc (.cells #[.bool p2, .slice A2 n2 c2] 25) = w1 at X0 ⊢
  have HX := Lib.hid X0
  clear X0
  refine (awake_any _ (HT.out.keep HX.out.k)).mono ?_
  rintro e wz ⟨rfl, kz⟩
  have HZ := Lib.hid (HX.out.k.trans kz)
  clear kz
  try dsimp only
  go_wp2_with fail
  go_ret
  exact ⟨rfl, HZ.out⟩
set_option maxRecDepth 100000 in
set_option maxHeartbeats 4000000 in
theorem cancel_long2 (p1 : Bool) (A1 : Option Addr) (n1 c1 : Nat) (p2 : Bool) (A2 : Option Addr) (n2 c2 : Nat) (w : World) (ht : PowTab w) (h1 : ¬ 24 < n1) (h2 : 24 < n2) :
    Calls Tryd.prog 15 #[numArg p1 A1 n1 c1, numArg p2 A2 n2 c2] w (BoolPost true w) := by
  have i1 : decide ((24 : Int) < (n1 : Int)) = false := decide_eq_false (by omega)
  have i2 : (24 : Int) < (n2 : Int) := by omega
  have X0 := env2 w (.bool p1) (.slice A1 n1 c1) (.bool p2) (.slice A2 n2 c2)
  have HT := Lib.hid ht
  clear ht
  go_enter Tryd.func15, Tryd.ntmps15
  go_wp2_with fail
  generalize hB0 : w.heap.size = B0 at X0 ⊢
  have HSZ := Lib.hid (Nat.le_of_eq hB0)
  clear hB0
  generalize (w.alloc (.cells #[.bool p1, .slice A1 n1 c1] 25)).alloc (.cells #[.bool p2, .slice A2 n2 c2] 25) = w1 at X0 ⊢
  have HX := Lib.hid X0
  clear X0
  refine (awake_any _ (HT.out.keep HX.out.k)).mono ?_
  rintro e wz ⟨rfl, kz⟩
  have HZ := Lib.hid (HX.out.k.trans kz)
  clear kz
  try dsimp only
  go_wp2_with fail
  go_ret
  exact ⟨rfl, HZ.out⟩
set_option maxRecDepth 100000 in
set_option maxHeartbeats 4000000 in
theorem cancel_zero (p1 : Bool) (A1 : Option Addr) (n1 c1 : Nat) (p2 : Bool) (A2 : Option Addr) (n2 c2 : Nat) (l1 l2 : List Nat) (w : World) (ht : PowTab w) (h1 : ¬ 24 < n1) (h2 : ¬ 24 < n2) (L1 : LimbsAt w A1 n1 c1 l1) (L2 : LimbsAt w A2 n2 c2 l2) (hz : lval l2 = 0) :
    Calls Tryd.prog 15 #[numArg p1 A1 n1 c1, numArg p2 A2 n2 c2] w (BoolPost true w) := by
  have i1 : decide ((24 : Int) < (n1 : Int)) = false := decide_eq_false (by omega)
  have i2 : decide ((24 : Int) < (n2 : Int)) = false := decide_eq_false (by omega)
  have HL := Lib.hid (And.intro L1 L2)
  clear L1 L2
  have HS := Lib.hid (show signI (sval p2 l2) = 0 from by rw [(sval_zero p2 l2).2 hz]; rfl)
  clear hz
  have X0 := env2 w (.bool p1) (.slice A1 n1 c1) (.bool p2) (.slice A2 n2 c2)
  have HT := Lib.hid ht
  clear ht
  go_enter Tryd.func15, Tryd.ntmps15
  go_wp2_with fail
  generalize hB0 : w.heap.size = B0 at X0 ⊢
  have HSZ := Lib.hid (Nat.le_of_eq hB0)
  clear hB0
  generalize (w.alloc (.cells #[.bool p1, .slice A1 n1 c1] 25)).alloc (.cells #[.bool p2, .slice A2 n2 c2] 25) = w1 at X0 ⊢
  have HX := Lib.hid X0
  clear X0
  have HX1 := Lib.hid ((HX.out.num (HL.out.1.keep0 HX.out.k)).num (HL.out.2.keep0 HX.out.k))
  clear HX
  have HX := Lib.hid HX1.out
  clear HX1
  refine (sign_any p2 A2 n2 c2 l2 _ (HX.out.m _ (.head _))).mono ?_
  rintro e wi ⟨rfl, ki⟩
  rw [HS.out]
  have HX1 := Lib.hid (HX.out.keep ki)
  clear HX ki
  have HX := Lib.hid HX1.out
  clear HX1
  obtain ⟨s0, s1, sl⟩ := HX.out.cells (.head _)
  obtain ⟨r0, r1, rl⟩ := HX.out.cells (.tail _ (.head _))
  try dsimp only
  go_wp2_with fail
  clear s0 s1 sl r0 r1 rl
  refine (awake_any _ (HT.out.keep HX.out.k)).mono ?_
  rintro e wz ⟨rfl, kz⟩
  have HZ := Lib.hid (HX.out.k.trans kz)
  clear kz
  try dsimp only
  go_wp2_with fail
  go_ret
  exact ⟨rfl, HZ.out⟩
set_option maxRecDepth 100000 in
set_option maxHeartbeats 4000000 in
theorem cancel_main (p1 : Bool) (A1 : Option Addr) (n1 c1 : Nat) (p2 : Bool) (A2 : Option Addr) (n2 c2 : Nat) (l1 l2 : List Nat) (w : World) (ht : PowTab w) (h1 : ¬ 24 < n1) (h2 : ¬ 24 < n2) (L1 : LimbsAt w A1 n1 c1 l1) (L2 : LimbsAt w A2 n2 c2 l2) (hz : 0 < lval l2) :
    Calls Tryd.prog 15 #[numArg p1 A1 n1 c1, numArg p2 A2 n2 c2] w (BoolPost true w) := by
  have i1 : decide ((24 : Int) < (n1 : Int)) = false := decide_eq_false (by omega)
  have i2 : decide ((24 : Int) < (n2 : Int)) = false := decide_eq_false (by omega)
  have HL := Lib.hid (And.intro L1 L2)
  clear L1 L2
  have HF1 := Lib.hid (show Fits (sval p1 l1 * sval p2 l2) from mul_fits (by have := val_lt HL.out.1.low; rw [HL.out.1.len] at this; exact Nat.lt_of_lt_of_le this (Nat.pow_le_pow_right (by unfold BB; omega) (by omega))) (by have := val_lt HL.out.2.low; rw [HL.out.2.len] at this; exact Nat.lt_of_lt_of_le this (Nat.pow_le_pow_right (by unfold BB; omega) (by omega))))
  have HF2 := Lib.hid (show Fits (sval p1 l1) from (Fits_iff _).2 (by rw [sval_abs]; have := val_lt HL.out.1.low; rw [HL.out.1.len] at this; exact Nat.lt_of_lt_of_le this (Nat.pow_le_pow_right (by unfold BB; omega) (by omega))))
  have hb0 : sval p2 l2 ≠ 0 := fun h => by have := (sval_zero p2 l2).1 h; omega
  have HB := Lib.hid hb0
  have HZ2 := Lib.hid hz
  obtain ⟨z, hzz⟩ : ∃ z, z = signI (sval p2 l2) := ⟨_, rfl⟩
  have hz0 : (z == 0) = false := by
    rw [hzz, signI_zero]
    have := sval_zero p2 l2
    exact decide_eq_false (by omega)
  have HZZ := Lib.hid hzz
  obtain ⟨xx, hx⟩ : ∃ x, x = sval p1 l1 := ⟨_, rfl⟩
  obtain ⟨yy, hy⟩ : ∃ y, y = sval p2 l2 := ⟨_, rfl⟩
  rw [← hx, ← hy] at HF1
  rw [← hx] at HF2
  rw [← hy] at HB
  have HXE := Lib.hid hx
  have HYE := Lib.hid hy
  clear hzz hb0 hz hx hy
  have X0 := env2 w (.bool p1) (.slice A1 n1 c1) (.bool p2) (.slice A2 n2 c2)
  have HT := Lib.hid ht
  clear ht
  go_enter Tryd.func15, Tryd.ntmps15
  go_wp2_with fail
  generalize hB0 : w.heap.size = B0 at X0 ⊢
  have HSZ := Lib.hid (Nat.le_of_eq hB0)
  clear hB0
  generalize (w.alloc (.cells #[.bool p1, .slice A1 n1 c1] 25)).alloc (.cells #[.bool p2, .slice A2 n2 c2] 25) = w1 at X0 ⊢
  have HX := Lib.hid X0
  clear X0
  have HX1 := Lib.hid ((HX.out.num (HL.out.1.keep0 HX.out.k)).num (HL.out.2.keep0 HX.out.k))
  clear HX
  have HX := Lib.hid HX1.out
  clear HX1
  refine (sign_any p2 A2 n2 c2 l2 _ (HX.out.m _ (.head _))).mono ?_
  rintro e wi ⟨rfl, ki⟩
  rw [← HZZ.out]
  have HX1 := Lib.hid (HX.out.keep ki)
  clear HX ki
  have HX := Lib.hid HX1.out
  clear HX1
  obtain ⟨s0, s1, sl⟩ := HX.out.cells (.head _)
  obtain ⟨r0, r1, rl⟩ := HX.out.cells (.tail _ (.head _))
  try dsimp only
  go_wp2_with fail
  clear s0 s1 sl r0 r1 rl
  refine (mul_any p1 A1 n1 c1 l1 p2 A2 n2 c2 l2 _ (HX.out.m _ (.tail _ (.head _))) (HX.out.m _ (.head _)) (by omega) (by omega)).mono ?_
  intro e w_pp hres
  obtain ⟨k_pp, q_pp, A_pp, n_pp, c_pp, hq_pp, rfl, LM, ln_pp, sv⟩ := hres.yes (by rw [← HXE.out, ← HYE.out]; exact HF1.out)
  have SV_pp := Lib.hid sv
  clear sv
  have HX1 := Lib.hid (HX.out.keep k_pp)
  clear HX k_pp
  have HX := Lib.hid HX1.out
  clear HX1
  have HX1 := Lib.hid (HX.out.num LM)
  clear HX LM
  have HX := Lib.hid HX1.out
  clear HX1
  obtain ⟨s0, s1, sl⟩ := HX.out.cells (.head _)
  obtain ⟨r0, r1, rl⟩ := HX.out.cells (.tail _ (.head _))
  try dsimp only
  go_wp2_with fail
  clear s0 s1 sl r0 r1 rl
  have HX1 := Lib.hid (HX.out.box (.bool q_pp) (.slice A_pp n_pp c_pp))
  clear HX
  have HX := Lib.hid HX1.out
  clear HX1
  have E_qq := Lib.hid (show Int.tdiv (sval q_pp (limbs (sval p1 l1 * sval p2 l2).natAbs)) (sval p2 l2) = xx from by rw [SV_pp.out, ← HXE.out, ← HYE.out]; exact Int.mul_tdiv_cancel _ HB.out)
  refine (quo_any q_pp A_pp n_pp c_pp _ p2 A2 n2 c2 l2 _ (HX.out.m _ (.head _)) (HX.out.m _ (.tail _ (.head _))) (by omega) (by omega) HZ2.out).mono ?_
  intro e w_qq hres
  obtain ⟨k_qq, q_qq, A_qq, n_qq, c_qq, hq_qq, rfl, LM, ln_qq, sv⟩ := hres.yes (E_qq.out ▸ HF2.out)
  have SV_qq := Lib.hid sv
  clear sv
  have HX1 := Lib.hid (HX.out.keep k_qq)
  clear HX k_qq
  have HX := Lib.hid HX1.out
  clear HX1
  have HX1 := Lib.hid (HX.out.num LM)
  clear HX LM
  have HX := Lib.hid HX1.out
  clear HX1
  obtain ⟨pp0, pp1, ppl⟩ := HX.out.cells (.head _)
  obtain ⟨s0, s1, sl⟩ := HX.out.cells (.tail _ (.head _))
  obtain ⟨r0, r1, rl⟩ := HX.out.cells (.tail _ (.tail _ (.head _)))
  try dsimp only
  go_wp2_with fail
  clear pp0 pp1 ppl s0 s1 sl r0 r1 rl
  have HX1 := Lib.hid (HX.out.box (.bool q_qq) (.slice A_qq n_qq c_qq))
  clear HX
  have HX := Lib.hid HX1.out
  clear HX1
  have E_rr := Lib.hid (show Int.tmod (sval q_pp (limbs (sval p1 l1 * sval p2 l2).natAbs)) (sval p2 l2) = 0 from by rw [SV_pp.out, ← HXE.out, ← HYE.out]; exact Int.mul_tmod_left _ _)
  refine (rem_any q_pp A_pp n_pp c_pp _ p2 A2 n2 c2 l2 _ (HX.out.m _ (.tail _ (.head _))) (HX.out.m _ (.tail _ (.tail _ (.head _)))) (by omega) (by omega) HZ2.out).mono ?_
  intro e w_rr hres
  obtain ⟨k_rr, q_rr, A_rr, n_rr, c_rr, hq_rr, rfl, LM, ln_rr, sv⟩ := hres.yes (E_rr.out ▸ (small_fits (by decide)))
  have SV_rr := Lib.hid sv
  clear sv
  have HX1 := Lib.hid (HX.out.keep k_rr)
  clear HX k_rr
  have HX := Lib.hid HX1.out
  clear HX1
  have HX1 := Lib.hid (HX.out.num LM)
  clear HX LM
  have HX := Lib.hid HX1.out
  clear HX1
  obtain ⟨qq0, qq1, qql⟩ := HX.out.cells (.head _)
  obtain ⟨pp0, pp1, ppl⟩ := HX.out.cells (.tail _ (.head _))
  obtain ⟨s0, s1, sl⟩ := HX.out.cells (.tail _ (.tail _ (.head _)))
  obtain ⟨r0, r1, rl⟩ := HX.out.cells (.tail _ (.tail _ (.tail _ (.head _))))
  try dsimp only
  go_wp2_with fail
  clear qq0 qq1 qql pp0 pp1 ppl s0 s1 sl r0 r1 rl
  have HX1 := Lib.hid (HX.out.box (.bool q_rr) (.slice A_rr n_rr c_rr))
  clear HX
  have HX := Lib.hid HX1.out
  clear HX1
  have E_mm := Lib.hid (show Int.fmod (sval q_pp (limbs (sval p1 l1 * sval p2 l2).natAbs)) (sval p2 l2) = 0 from by rw [SV_pp.out, ← HXE.out, ← HYE.out]; exact Int.mul_fmod_left _ _)
  refine (mod_any q_pp A_pp n_pp c_pp _ p2 A2 n2 c2 l2 _ (HX.out.m _ (.tail _ (.tail _ (.head _)))) (HX.out.m _ (.tail _ (.tail _ (.tail _ (.head _))))) (by omega) (by omega) HZ2.out).mono ?_
  intro e w_mm hres
  obtain ⟨k_mm, q_mm, A_mm, n_mm, c_mm, hq_mm, rfl, LM, ln_mm, sv⟩ := hres.yes (E_mm.out ▸ (small_fits (by decide)))
  have SV_mm := Lib.hid sv
  clear sv
  have HX1 := Lib.hid (HX.out.keep k_mm)
  clear HX k_mm
  have HX := Lib.hid HX1.out
  clear HX1
  have HX1 := Lib.hid (HX.out.num LM)
  clear HX LM
  have HX := Lib.hid HX1.out
  clear HX1
  obtain ⟨rr0, rr1, rrl⟩ := HX.out.cells (.head _)
  obtain ⟨qq0, qq1, qql⟩ := HX.out.cells (.tail _ (.head _))
  obtain ⟨pp0, pp1, ppl⟩ := HX.out.cells (.tail _ (.tail _ (.head _)))
  obtain ⟨s0, s1, sl⟩ := HX.out.cells (.tail _ (.tail _ (.tail _ (.head _))))
  obtain ⟨r0, r1, rl⟩ := HX.out.cells (.tail _ (.tail _ (.tail _ (.tail _ (.head _)))))
  try dsimp only
  go_wp2_with fail
  clear rr0 rr1 rrl qq0 qq1 qql pp0 pp1 ppl s0 s1 sl r0 r1 rl
  have HX1 := Lib.hid (HX.out.box (.bool q_mm) (.slice A_mm n_mm c_mm))
  clear HX
  have HX := Lib.hid HX1.out
  clear HX1
  refine (cmp_any q_qq A_qq n_qq c_qq _ p1 A1 n1 c1 l1 _ (HX.out.m _ (.tail _ (.tail _ (.head _)))) (HX.out.m _ (.tail _ (.tail _ (.tail _ (.tail _ (.tail _ (.head _)))))))).mono ?_
  rintro e wi ⟨rfl, ki⟩
  rw [SV_qq.out, E_qq.out, ← HXE.out, cmp_self]
  have HX1 := Lib.hid (HX.out.keep ki)
  clear HX ki
  have HX := Lib.hid HX1.out
  clear HX1
  obtain ⟨mm0, mm1, mml⟩ := HX.out.cells (.head _)
  obtain ⟨rr0, rr1, rrl⟩ := HX.out.cells (.tail _ (.head _))
  obtain ⟨qq0, qq1, qql⟩ := HX.out.cells (.tail _ (.tail _ (.head _)))
  obtain ⟨pp0, pp1, ppl⟩ := HX.out.cells (.tail _ (.tail _ (.tail _ (.head _))))
  obtain ⟨s0, s1, sl⟩ := HX.out.cells (.tail _ (.tail _ (.tail _ (.tail _ (.head _)))))
  obtain ⟨r0, r1, rl⟩ := HX.out.cells (.tail _ (.tail _ (.tail _ (.tail _ (.tail _ (.head _))))))
  try dsimp only
  go_wp2_with fail
  clear mm0 mm1 mml rr0 rr1 rrl qq0 qq1 qql pp0 pp1 ppl s0 s1 sl r0 r1 rl
  refine (sign_any q_rr A_rr n_rr c_rr _ _ (HX.out.m _ (.tail _ (.head _)))).mono ?_
  rintro e wi ⟨rfl, ki⟩
  rw [SV_rr.out, E_rr.out, show signI 0 = 0 from rfl]
  have HX1 := Lib.hid (HX.out.keep ki)
  clear HX ki
  have HX := Lib.hid HX1.out
  clear HX1
  obtain ⟨mm0, mm1, mml⟩ := HX.out.cells (.head _)
  obtain ⟨rr0, rr1, rrl⟩ := HX.out.cells (.tail _ (.head _))
  obtain ⟨qq0, qq1, qql⟩ := HX.out.cells (.tail _ (.tail _ (.head _)))
  obtain ⟨pp0, pp1, ppl⟩ := HX.out.cells (.tail _ (.tail _ (.tail _ (.head _))))
  obtain ⟨s0, s1, sl⟩ := HX.out.cells (.tail _ (.tail _ (.tail _ (.tail _ (.head _)))))
  obtain ⟨r0, r1, rl⟩ := HX.out.cells (.tail _ (.tail _ (.tail _ (.tail _ (.tail _ (.head _))))))
  try dsimp only
  go_wp2_with fail
  clear mm0 mm1 mml rr0 rr1 rrl qq0 qq1 qql pp0 pp1 ppl s0 s1 sl r0 r1 rl
  refine (sign_any q_mm A_mm n_mm c_mm _ _ (HX.out.m _ (.head _))).mono ?_
  rintro e wi ⟨rfl, ki⟩
  rw [SV_mm.out, E_mm.out, show signI 0 = 0 from rfl]
  have HX1 := Lib.hid (HX.out.keep ki)
  clear HX ki
  have HX := Lib.hid HX1.out
  clear HX1
  obtain ⟨mm0, mm1, mml⟩ := HX.out.cells (.head _)
  obtain ⟨rr0, rr1, rrl⟩ := HX.out.cells (.tail _ (.head _))
  obtain ⟨qq0, qq1, qql⟩ := HX.out.cells (.tail _ (.tail _ (.head _)))
  obtain ⟨pp0, pp1, ppl⟩ := HX.out.cells (.tail _ (.tail _ (.tail _ (.head _))))
  obtain ⟨s0, s1, sl⟩ := HX.out.cells (.tail _ (.tail _ (.tail _ (.tail _ (.head _)))))
  obtain ⟨r0, r1, rl⟩ := HX.out.cells (.tail _ (.tail _ (.tail _ (.tail _ (.tail _ (.head _))))))
  try dsimp only
  go_wp2_with fail
  clear mm0 mm1 mml rr0 rr1 rrl qq0 qq1 qql pp0 pp1 ppl s0 s1 sl r0 r1 rl
  refine (awake_any _ (HT.out.keep HX.out.k)).mono ?_
  rintro e wz ⟨rfl, kz⟩
  have HZ := Lib.hid (HX.out.k.trans kz)
  clear kz
  try dsimp only
  go_wp2_with fail
  go_ret
  exact ⟨rfl, HZ.out⟩
end Go.Proofs.YtdfekphahdmffaaDoor
