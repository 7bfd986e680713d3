/-
  The law NumMay: its walk.
-/
import Derived.Test.YtdfekphahdmffaaDoorRfTurn
import Derived.Test.YtdfekphahdmffaaDoorRfMay
import Derived.Test.YtdfekphahdmffaaDoorRfCopy
import Derived.Test.YtdfekphahdmffaaDoorNuFix
import Derived.BigQuiet
namespace Go.Proofs.YtdfekphahdmffaaDoor
open Go.RowKit

/-- An answer is written over: what was there ahead of it stays, values too. -/
theorem EnvV.spoil {w w0 w' w'' : World} {bs0 bs vs0 vs : List (Nat × Value × Value)} {ms0 ms ks0 ks : List (Option Addr × Nat × Nat × List Nat)} {base n c : Nat} {A : Option Addr} {l : List Nat} (h0 : EnvV w bs0 ms0 vs0 ks0 w0) (h : EnvV w bs ms vs ks w') (k0 : Keep (fun _ => False) w0 w')
    (kk : Keep (fun b => 0 < n ∧ A = some ⟨b, 0, none⟩) w' w'') (own : OwnR 63 .u32 w' base A n c l) (hb : w0.heap.size ≤ base) (hbs : ∀ x ∈ bs, ∃ p, x.2.1 = .bool p) : EnvV w bs ms0 vs0 ks0 w'' ∧ Keep (fun _ => False) w0 w'' := by
  obtain ⟨he, hk⟩ := Env.spoil h0.e h.e k0 kk own hb hbs
  exact ⟨⟨he, fun x hx => (h0.v x hx).keep hk, fun x hx => (h0.b x hx).keep0 hk⟩, hk⟩
theorem cmp_sign (x : Int) : cmpI x 0 = signI x := by
  unfold cmpI signI
  repeat' split
  all_goals omega
theorem small_len {x : Int} {n : Nat} (h : (bits2 x.natAbs).length = n) : n ≤ 60 ↔ x.natAbs < 1152921504606846976 := by
  rw [← h]
  exact digs_len_le two2 x.natAbs 60
theorem nil_bits (w : World) : BitsAt w none 0 0 (bits2 (0 : Int).natAbs) := by
  rw [show (0 : Int).natAbs = 0 from rfl]
  unfold bits2
  rw [digs_zero]
  exact ⟨RowAt.nil _ _ _, Low.nil 2, Nat.le_refl _, by omega⟩
theorem low60 : sval true [0, 268435456] = -1152921504606846976 := by rfl
theorem limbs60 (w : World) : LimbsAt (w.alloc (.cells #[.int .u32 0, .int .u32 268435456] 63)) (some ⟨w.heap.size, 0, none⟩) 2 2 [0, 268435456] := two_limbs w 0 268435456 (by unfold BB; omega) (by unfold BB; omega)
set_option maxRecDepth 100000 in
set_option maxHeartbeats 4000000 in
theorem may_long1 (p1 : Bool) (A1 : Option Addr) (n1 c1 : Nat) (w : World) (ht : PowTab w) (h1 : 60 < n1) :
    Calls Tryd.prog 13 #[numArg p1 A1 n1 c1] w (BoolPost true w) := by
  have X0 := env1 w (.bool p1) (.slice A1 n1 c1)
  have HT := Lib.hid ht
  clear ht
  go_enter Tryd.func13, Tryd.ntmps13
  go_wp2_with fail
  have hw1 : (w.alloc (.cells #[.bool p1, .slice A1 n1 c1] 25)).heap.size = w.heap.size + 1 := by simp only [World.size_alloc]
  generalize hB0 : w.heap.size = B0 at X0 hw1 ⊢
  have HSZ := Lib.hid (Nat.le_of_eq hB0)
  clear hB0
  generalize w.alloc (.cells #[.bool p1, .slice A1 n1 c1] 25) = w1 at X0 hw1 ⊢
  have HX := Lib.hid X0
  have HW1 := Lib.hid hw1
  clear X0 hw1
  refine (long_any p1 A1 n1 c1 _).mono ?_
  rintro e w2 ⟨rfl, k2⟩
  rw [show decide (60 < n1) = true from decide_eq_true (by omega)]
  have HX1 := Lib.hid (HX.out.keep k2)
  clear HX k2
  have HX := Lib.hid HX1.out
  clear HX1
  obtain ⟨r0, r1, rl⟩ := HX.out.cells (.head _)
  try dsimp only
  go_wp2_with fail
  clear r0 r1 rl
  refine (awake_any _ (HT.out.keep HX.out.k)).mono ?_
  rintro e wz ⟨rfl, kz⟩
  have HZ := Lib.hid (HX.out.k.trans kz)
  clear kz
  try dsimp only
  go_wp2_with fail
  go_ret
  exact ⟨rfl, HZ.out⟩
set_option maxRecDepth 100000 in
set_option maxHeartbeats 16000000 in
theorem may_short (p1 : Bool) (A1 : Option Addr) (n1 c1 : Nat) (l1 : List Nat) (w : World) (ht : PowTab w) (h1 : n1 ≤ 60) (L1 : LimbsAt w A1 n1 c1 l1) :
    Calls Tryd.prog 13 #[numArg p1 A1 n1 c1] w (BoolPost true w) := by
  have HL := Lib.hid L1
  clear L1
  obtain ⟨xa, hxa⟩ : ∃ x, x = sval p1 l1 := ⟨_, rfl⟩
  obtain ⟨z1, hz1⟩ : ∃ z, z = decide (xa < 0) := ⟨_, rfl⟩
  obtain ⟨zt, hzt⟩ : ∃ z, z = decide (-xa < 0) := ⟨_, rfl⟩
  obtain ⟨mb, hmb⟩ : ∃ m, m = mayB p1 l1 := ⟨_, rfl⟩
  obtain ⟨sg, hsg⟩ : ∃ s, s = signI xa := ⟨_, rfl⟩
  have HV := Lib.hid hxa
  have HZ := Lib.hid hz1
  have HZT := Lib.hid hzt
  have HMB := Lib.hid hmb
  have HSG := Lib.hid hsg
  clear hxa hz1 hzt hmb hsg
  have X0 := env1 w (.bool p1) (.slice A1 n1 c1)
  have HT := Lib.hid ht
  clear ht
  go_enter Tryd.func13, Tryd.ntmps13
  go_wp2_with fail
  have hw1 : (w.alloc (.cells #[.bool p1, .slice A1 n1 c1] 25)).heap.size = w.heap.size + 1 := by simp only [World.size_alloc]
  generalize hB0 : w.heap.size = B0 at X0 hw1 ⊢
  have HSZ := Lib.hid (Nat.le_of_eq hB0)
  clear hB0
  generalize w.alloc (.cells #[.bool p1, .slice A1 n1 c1] 25) = w1 at X0 hw1 ⊢
  have HX := Lib.hid X0
  have HW1 := Lib.hid hw1
  clear X0 hw1
  have HX1 := Lib.hid (HX.out.num (HL.out.keep0 HX.out.k))
  clear HX
  have HX := Lib.hid HX1.out
  clear HX1
  refine (long_any p1 A1 n1 c1 _).mono ?_
  rintro e w2 ⟨rfl, k2⟩
  rw [show decide (60 < n1) = false from decide_eq_false (by omega)]
  have HX1 := Lib.hid (HX.out.keep k2)
  clear HX k2
  have HX := Lib.hid HX1.out
  clear HX1
  obtain ⟨r0, r1, rl⟩ := HX.out.cells (.head _)
  try dsimp only
  go_wp2_with fail
  clear r0 r1 rl
  refine (copy_any p1 A1 n1 c1 l1 _ (HX.out.m _ (.head _))).mono ?_
  rintro e w3 ⟨A5, n5, c5, rfl, oo, kk⟩
  have ln5 : n5 ≤ 60 := by have h8 := oo.len; have h9 := HL.out.len; omega
  have HX1 := Lib.hid ((HX.out.keep kk).num (oo.toLimbs HL.out.low (by omega)))
  clear HX oo kk
  have HX := Lib.hid HX1.out
  clear HX1
  obtain ⟨r0, r1, rl⟩ := HX.out.cells (.head _)
  try dsimp only
  go_wp2_with fail
  clear r0 r1 rl
  have HX1 := Lib.hid (HX.out.box (.bool p1) (.slice A5 n5 c5))
  clear HX
  have HX := Lib.hid HX1.out
  clear HX1
  generalize w3.alloc (.cells #[.bool p1, .slice A5 n5 c5] 25) = w4 at HX ⊢
  generalize w3.heap.size = B5 at HX ⊢
  obtain ⟨f0, f1, fl⟩ := HX.out.cells (.head _)
  obtain ⟨r0, r1, rl⟩ := HX.out.cells (.tail _ (.head _))
  try dsimp only
  go_wp2_with fail
  clear f0 f1 fl r0 r1 rl
  refine (val_z HZ.out HV.out (HX.out.m _ (.head _)) ln5).mono ?_
  rintro e w5 ⟨A7, n7, c7, rfl, b7, ln7, kk⟩
  have HX1 := Lib.hid (((EnvV.start HX.out).keep kk).bits b7)
  clear HX b7 kk
  have HX := Lib.hid HX1.out
  clear HX1
  obtain ⟨f0, f1, fl⟩ := HX.out.cells (.head _)
  obtain ⟨r0, r1, rl⟩ := HX.out.cells (.tail _ (.head _))
  try dsimp only
  go_wp2_with fail
  clear f0 f1 fl r0 r1 rl
  have HX1 := Lib.hid (HX.out.boxV (.bool z1) (.slice A7 n7 c7))
  clear HX
  have HX := Lib.hid HX1.out
  clear HX1
  generalize w5.alloc (.cells #[.bool z1, .slice A7 n7 c7] 34) = w51 at HX ⊢
  generalize w5.heap.size = B7 at HX ⊢
  obtain ⟨f0, f1, fl⟩ := HX.out.cells (.head _)
  obtain ⟨r0, r1, rl⟩ := HX.out.cells (.tail _ (.head _))
  obtain ⟨i0, i1, il⟩ := HX.out.cellsV (.head _)
  try dsimp only
  go_wp2_with fail
  clear f0 f1 fl r0 r1 rl i0 i1 il
  have H0 := HX
  refine (norm_any p1 A1 n1 c1 l1 _ (HX.out.e.m _ (.tail _ (.head _)))).mono ?_
  intro e w_x hres
  rw [← HV.out] at hres
  obtain ⟨k_x, q_x, A_x, n_x, c_x, l_x, f_x, rfl, OW, LM, ln_x, ho⟩ := hres.own
  have HO_x := Lib.hid ho
  have OW_x := Lib.hid OW
  have KK_x := Lib.hid k_x
  clear ho hres OW
  have HX1 := Lib.hid (HX.out.keep k_x)
  clear HX k_x
  have HX := Lib.hid HX1.out
  clear HX1
  have HX1 := Lib.hid (HX.out.num LM)
  clear HX LM
  have HX := Lib.hid HX1.out
  clear HX1
  have K0 := KK_x
  obtain ⟨f0, f1, fl⟩ := HX.out.cells (.head _)
  obtain ⟨r0, r1, rl⟩ := HX.out.cells (.tail _ (.head _))
  obtain ⟨i0, i1, il⟩ := HX.out.cellsV (.head _)
  try dsimp only
  go_wp2_with fail
  clear f0 f1 fl r0 r1 rl i0 i1 il
  have HX1 := Lib.hid (HX.out.box (.bool q_x) (.slice A_x n_x c_x))
  clear HX
  have HX := Lib.hid HX1.out
  clear HX1
  have OW1 := Lib.hid (OW_x.out.keep0 ((Keep.refl (fun _ => False) w_x).alloc (.cells #[.bool q_x, .slice A_x n_x c_x] 25)))
  clear OW_x
  have OW_x := OW1
  clear OW1
  have KW1 := Lib.hid (K0.out.alloc (.cells #[.bool q_x, .slice A_x n_x c_x] 25))
  clear K0
  have K0 := KW1
  clear KW1
  have SZ_x := Lib.hid (KK_x.out.alloc (.cells #[.bool q_x, .slice A_x n_x c_x] 25)).size
  clear KK_x
  generalize hw5 : w_x.alloc (.cells #[.bool q_x, .slice A_x n_x c_x] 25) = w6 at HX K0 SZ_x OW_x ⊢
  clear hw5
  generalize w_x.heap.size = Bx at HX ⊢
  have ON_x := OW_x
  have KN_x := Lib.hid K0.out.size
  refine (neg_any p1 A1 n1 c1 l1 _ (HX.out.e.m _ (.tail _ (.tail _ (.head _))))).mono ?_
  intro e w_y hres
  rw [sval_not, ← HV.out] at hres
  obtain ⟨k_y, q_y, A_y, n_y, c_y, l_y, f_y, rfl, OW, LM, ln_y, ho⟩ := hres.own
  have HO_y := Lib.hid ho
  have OW_y := Lib.hid OW
  have KK_y := Lib.hid k_y
  clear ho hres OW
  have HX1 := Lib.hid (HX.out.keep k_y)
  clear HX k_y
  have HX := Lib.hid HX1.out
  clear HX1
  have HX1 := Lib.hid (HX.out.num LM)
  clear HX LM
  have HX := Lib.hid HX1.out
  clear HX1
  have OW1 := Lib.hid (OW_x.out.keep0 KK_y.out)
  clear OW_x
  have OW_x := OW1
  clear OW1
  have KW1 := Lib.hid (K0.out.trans KK_y.out)
  clear K0
  have K0 := KW1
  clear KW1
  obtain ⟨x0, x1, xl⟩ := HX.out.cells (.head _)
  obtain ⟨f0, f1, fl⟩ := HX.out.cells (.tail _ (.head _))
  obtain ⟨r0, r1, rl⟩ := HX.out.cells (.tail _ (.tail _ (.head _)))
  obtain ⟨i0, i1, il⟩ := HX.out.cellsV (.head _)
  try dsimp only
  go_wp2_with fail
  clear x0 x1 xl f0 f1 fl r0 r1 rl i0 i1 il
  have HX1 := Lib.hid (HX.out.box (.bool q_y) (.slice A_y n_y c_y))
  clear HX
  have HX := Lib.hid HX1.out
  clear HX1
  have OW1 := Lib.hid (OW_x.out.keep0 ((Keep.refl (fun _ => False) w_y).alloc (.cells #[.bool q_y, .slice A_y n_y c_y] 25)))
  clear OW_x
  have OW_x := OW1
  clear OW1
  have OW1 := Lib.hid (OW_y.out.keep0 ((Keep.refl (fun _ => False) w_y).alloc (.cells #[.bool q_y, .slice A_y n_y c_y] 25)))
  clear OW_y
  have OW_y := OW1
  clear OW1
  have KW1 := Lib.hid (K0.out.alloc (.cells #[.bool q_y, .slice A_y n_y c_y] 25))
  clear K0
  have K0 := KW1
  clear KW1
  have SZ_y := Lib.hid (KK_y.out.alloc (.cells #[.bool q_y, .slice A_y n_y c_y] 25)).size
  clear KK_y
  generalize hw5 : w_y.alloc (.cells #[.bool q_y, .slice A_y n_y c_y] 25) = w7 at HX K0 SZ_y OW_x OW_y ⊢
  clear hw5
  generalize w_y.heap.size = By at HX ⊢
  have ON_y := OW_y
  have KN_y := Lib.hid K0.out.size
  obtain ⟨y0, y1, yl⟩ := HX.out.cells (.head _)
  obtain ⟨x0, x1, xl⟩ := HX.out.cells (.tail _ (.head _))
  obtain ⟨f0, f1, fl⟩ := HX.out.cells (.tail _ (.tail _ (.head _)))
  obtain ⟨r0, r1, rl⟩ := HX.out.cells (.tail _ (.tail _ (.tail _ (.head _))))
  obtain ⟨i0, i1, il⟩ := HX.out.cellsV (.head _)
  have Kd : Keep (fun _ => False) w7 w7.drew := (Keep.refl _ _).drew
  have HCC := Lib.hid (fun (w' : World) (K' : Keep (fun _ => False) w7 w') => (show w'.cell? ⟨B0, 0, none⟩ = some (.bool p1) ∧ w'.cell? ⟨B0, 1, none⟩ = some (.slice A1 n1 c1) ∧ w'.cell? ⟨B5, 0, none⟩ = some (.bool p1) ∧ w'.cell? ⟨B5, 1, none⟩ = some (.slice A5 n5 c5) ∧ w'.cell? ⟨Bx, 0, none⟩ = some (.bool q_x) ∧ w'.cell? ⟨Bx, 1, none⟩ = some (.slice A_x n_x c_x) ∧ w'.cell? ⟨By, 0, none⟩ = some (.bool q_y) ∧ w'.cell? ⟨By, 1, none⟩ = some (.slice A_y n_y c_y) ∧ w'.cell? ⟨B7, 0, none⟩ = some (.bool z1) ∧ w'.cell? ⟨B7, 1, none⟩ = some (.slice A7 n7 c7) from by
    obtain ⟨ra, rb, _⟩ := (HX.out.keep K').cells (.tail _ (.tail _ (.tail _ (.head _))))
    obtain ⟨fa, fb, _⟩ := (HX.out.keep K').cells (.tail _ (.tail _ (.head _)))
    obtain ⟨xa, xb, _⟩ := (HX.out.keep K').cells (.tail _ (.head _))
    obtain ⟨ya, yb, _⟩ := (HX.out.keep K').cells (.head _)
    obtain ⟨ia, ib, _⟩ := (HX.out.keep K').cellsV (.head _)
    exact ⟨ra, rb, fa, fb, xa, xb, ya, yb, ia, ib⟩))
  clear y0 y1 yl x0 x1 xl f0 f1 fl r0 r1 rl i0 i1 il
  refine wp_region_held_drew (S := fun w' => w'.cell? ⟨B0, 0, none⟩ = some (.bool p1) ∧ w'.cell? ⟨B0, 1, none⟩ = some (.slice A1 n1 c1) ∧ w'.cell? ⟨B5, 0, none⟩ = some (.bool p1) ∧ w'.cell? ⟨B5, 1, none⟩ = some (.slice A5 n5 c5) ∧ w'.cell? ⟨Bx, 0, none⟩ = some (.bool q_x) ∧ w'.cell? ⟨Bx, 1, none⟩ = some (.slice A_x n_x c_x) ∧ w'.cell? ⟨By, 0, none⟩ = some (.bool q_y) ∧ w'.cell? ⟨By, 1, none⟩ = some (.slice A_y n_y c_y) ∧ w'.cell? ⟨B7, 0, none⟩ = some (.bool z1) ∧ w'.cell? ⟨B7, 1, none⟩ = some (.slice A7 n7 c7)) (by kernel_rfl) (HCC.out _ Kd) (fun hHeld => ?_)
  refine wpAnyH_take (i := 0) (oi := _) (v := ?_) rfl (by kernel_rfl) (by kernel_rfl) (by kernel_rfl) (fun _ _ _ h => h) (Or.inl ⟨by rfl, ?_⟩) (by assumption) ?_
  rotate_left
  · (intro w hSw; (try dsimp only at hSw); go_simp)
    all_goals with_reducible rfl
  refine wpAnyH_take (i := 2) (oi := _) (v := ?_) rfl (by kernel_rfl) (by kernel_rfl) (by kernel_rfl) (fun _ _ _ h => h) (Or.inl ⟨by rfl, ?_⟩) (by assumption) ?_
  rotate_left
  · (intro w hSw; (try dsimp only at hSw); go_simp)
    all_goals with_reducible rfl
  try dsimp only [List.getElem_toArray, List.getElem_cons_succ, List.getElem_cons_zero]
  try simp only [Act.put, List.setIfInBounds_toArray, List.set_cons_zero, List.set_cons_succ]
  refine wpAnyH_ready (rs := [1]) (by kernel_rfl) (by simp) ?_
  refine AllReadyH.cons (o := _) rfl (fun K hK => ?_) AllReadyH.nil
  go_simp
  refine (may_any p1 A1 n1 c1 l1 _ ((HX.out.keep Kd).e.m _ (.tail _ (.tail _ (.tail _ (.head _)))))).mono ?_
  rintro e wr1 ⟨rfl, kr⟩
  rw [← HMB.out]
  have K1 : Keep (fun _ => False) w7 wr1 := Keep.trans Kd kr
  clear kr 
  try dsimp only
  go_wp2_with fail
  refine hK.out _ _ (HCC.out _ K1) (fun hHeld => ?_)
  clear hK K
  try dsimp only [List.getElem_toArray, List.getElem_cons_succ, List.getElem_cons_zero]
  try simp only [Act.put, List.setIfInBounds_toArray, List.set_cons_zero, List.set_cons_succ]
  refine wpAnyH_ready (rs := [3]) (by kernel_rfl) (by simp) ?_
  refine AllReadyH.cons (o := _) rfl (fun K hK => ?_) AllReadyH.nil
  go_simp
  refine (rmay_any p1 A5 n5 c5 l1 _ ((HX.out.keep K1).e.m _ (.tail _ (.tail _ (.head _)))) ln5).mono ?_
  rintro e wr2 ⟨rfl, kr⟩
  rw [← HMB.out]
  have K2 : Keep (fun _ => False) w7 wr2 := Keep.trans K1 kr
  clear kr K1
  try dsimp only
  go_wp2_with fail
  refine hK.out _ _ (HCC.out _ K2) (fun hHeld => ?_)
  clear hK K
  try dsimp only [List.getElem_toArray, List.getElem_cons_succ, List.getElem_cons_zero]
  try simp only [Act.put, List.setIfInBounds_toArray, List.set_cons_zero, List.set_cons_succ]
  refine wpAnyH_take (i := 4) (oi := _) (v := ?_) rfl (by kernel_rfl) (by kernel_rfl) (by kernel_rfl) (fun _ _ _ h => h) (Or.inl ⟨by rfl, ?_⟩) (by assumption) ?_
  rotate_left
  · (intro w hSw; (try dsimp only at hSw); go_simp)
    all_goals with_reducible rfl
  refine wpAnyH_take (i := 5) (oi := _) (v := ?_) rfl (by kernel_rfl) (by kernel_rfl) (by kernel_rfl) (fun _ _ _ h => h) (Or.inl ⟨by rfl, ?_⟩) (by assumption) ?_
  rotate_left
  · (intro w hSw; (try dsimp only at hSw); go_simp)
    all_goals with_reducible rfl
  try dsimp only [List.getElem_toArray, List.getElem_cons_succ, List.getElem_cons_zero]
  try simp only [Act.put, List.setIfInBounds_toArray, List.set_cons_zero, List.set_cons_succ]
  refine wpAnyH_take (i := 6) (oi := _) (v := ?_) rfl (by kernel_rfl) (by kernel_rfl) (by kernel_rfl) (fun _ _ _ h => h) (Or.inl ⟨by rfl, ?_⟩) (by assumption) ?_
  rotate_left
  · (intro w hSw; (try dsimp only at hSw); go_simp)
    all_goals with_reducible rfl
  refine wpAnyH_take (i := 7) (oi := _) (v := ?_) rfl (by kernel_rfl) (by kernel_rfl) (by kernel_rfl) (fun _ _ _ h => h) (Or.inl ⟨by rfl, ?_⟩) (by assumption) ?_
  rotate_left
  · (intro w hSw; (try dsimp only at hSw); go_simp)
    all_goals with_reducible rfl
  try dsimp only [List.getElem_toArray, List.getElem_cons_succ, List.getElem_cons_zero]
  try simp only [Act.put, List.setIfInBounds_toArray, List.set_cons_zero, List.set_cons_succ]
  refine wpAnyH_take (i := 8) (oi := _) (v := ?_) rfl (by kernel_rfl) (by kernel_rfl) (by kernel_rfl) (fun _ _ _ h => h) (Or.inl ⟨by rfl, ?_⟩) (by assumption) ?_
  rotate_left
  · (intro w hSw; (try dsimp only at hSw); go_simp)
    all_goals with_reducible rfl
  try dsimp only [List.getElem_toArray, List.getElem_cons_succ, List.getElem_cons_zero]
  try simp only [Act.put, List.setIfInBounds_toArray, List.set_cons_zero, List.set_cons_succ]
  refine wpAnyH_ready (rs := [9]) (by kernel_rfl) (by simp) ?_
  refine AllReadyH.cons (o := _) rfl (fun K hK => ?_) AllReadyH.nil
  go_simp
  refine (is_z HZ.out HO_x.out ((HX.out.keep K2).e.m _ (.tail _ (.head _))) ((HX.out.keep K2).b _ (.head _))).mono ?_
  rintro e wr3 ⟨rfl, kr⟩
  have K3 : Keep (fun _ => False) w7 wr3 := Keep.trans K2 kr
  clear kr K2
  try dsimp only
  go_wp2_with fail
  refine hK.out _ _ (HCC.out _ K3) (fun hHeld => ?_)
  clear hK K
  refine wpAnyH_take (i := 10) (oi := _) (v := ?_) rfl (by kernel_rfl) (by kernel_rfl) (by kernel_rfl) (fun _ _ _ h => h) (Or.inl ⟨by rfl, ?_⟩) (by assumption) ?_
  rotate_left
  · (intro w hSw; (try dsimp only at hSw); go_simp)
    all_goals with_reducible rfl
  try dsimp only [List.getElem_toArray, List.getElem_cons_succ, List.getElem_cons_zero]
  try simp only [Act.put, List.setIfInBounds_toArray, List.set_cons_zero, List.set_cons_succ]
  refine wpAnyH_take (i := 11) (oi := _) (v := ?_) rfl (by kernel_rfl) (by kernel_rfl) (by kernel_rfl) (fun _ _ _ h => h) (Or.inl ⟨by rfl, ?_⟩) (by assumption) ?_
  rotate_left
  · (intro w hSw; (try dsimp only at hSw); go_simp)
    all_goals with_reducible rfl
  refine wpAnyH_take (i := 12) (oi := _) (v := ?_) rfl (by kernel_rfl) (by kernel_rfl) (by kernel_rfl) (fun _ _ _ h => h) (Or.inl ⟨by rfl, ?_⟩) (by assumption) ?_
  rotate_left
  · (intro w hSw; (try dsimp only at hSw); go_simp)
    all_goals with_reducible rfl
  try dsimp only [List.getElem_toArray, List.getElem_cons_succ, List.getElem_cons_zero]
  try simp only [Act.put, List.setIfInBounds_toArray, List.set_cons_zero, List.set_cons_succ]
  refine wpAnyH_take (i := 13) (oi := _) (v := ?_) rfl (by kernel_rfl) (by kernel_rfl) (by kernel_rfl) (fun _ _ _ h => h) (Or.inl ⟨by rfl, ?_⟩) (by assumption) ?_
  rotate_left
  · (intro w hSw; (try dsimp only at hSw); go_simp)
    all_goals with_reducible rfl
  refine wpAnyH_take (i := 14) (oi := _) (v := ?_) rfl (by kernel_rfl) (by kernel_rfl) (by kernel_rfl) (fun _ _ _ h => h) (Or.inl ⟨by rfl, ?_⟩) (by assumption) ?_
  rotate_left
  · (intro w hSw; (try dsimp only at hSw); go_simp)
    all_goals with_reducible rfl
  try dsimp only [List.getElem_toArray, List.getElem_cons_succ, List.getElem_cons_zero]
  try simp only [Act.put, List.setIfInBounds_toArray, List.set_cons_zero, List.set_cons_succ]
  refine wpAnyH_take (i := 15) (oi := _) (v := ?_) rfl (by kernel_rfl) (by kernel_rfl) (by kernel_rfl) (fun _ _ _ h => h) (Or.inl ⟨by rfl, ?_⟩) (by assumption) ?_
  rotate_left
  · (intro w hSw; (try dsimp only at hSw); go_simp)
    all_goals with_reducible rfl
  try dsimp only [List.getElem_toArray, List.getElem_cons_succ, List.getElem_cons_zero]
  try simp only [Act.put, List.setIfInBounds_toArray, List.set_cons_zero, List.set_cons_succ]
  refine wpAnyH_ready (rs := [16]) (by kernel_rfl) (by simp) ?_
  refine AllReadyH.cons (o := _) rfl (fun K hK => ?_) AllReadyH.nil
  go_simp
  refine (turn_b xa z1 zt A7 n7 c7 _ HZ.out HZT.out ((HX.out.keep K3).b _ (.head _))).mono ?_
  rintro e wr4 ⟨n11, rfl, b11, kr⟩
  have HB11 := Lib.hid b11
  clear b11
  have K4 : Keep (fun _ => False) w7 wr4 := Keep.trans K3 kr
  clear kr K3
  try dsimp only
  go_wp2_with fail
  refine hK.out _ _ (HCC.out _ K4) (fun hHeld => ?_)
  clear hK K
  try dsimp only [List.getElem_toArray, List.getElem_cons_succ, List.getElem_cons_zero]
  try simp only [Act.put, List.setIfInBounds_toArray, List.set_cons_zero, List.set_cons_succ]
  refine wpAnyH_ready (rs := [17]) (by kernel_rfl) (by simp) ?_
  refine AllReadyH.cons (o := _) rfl (fun K hK => ?_) AllReadyH.nil
  go_simp
  refine (is_z HZT.out HO_y.out ((HX.out.keep K4).e.m _ (.head _)) HB11.out).mono ?_
  rintro e wr5 ⟨rfl, kr⟩
  have K5 : Keep (fun _ => False) w7 wr5 := Keep.trans K4 kr
  clear kr K4
  try dsimp only
  go_wp2_with fail
  refine hK.out _ _ (HCC.out _ K5) (fun hHeld => ?_)
  clear hK K
  refine wpAnyH_take (i := 18) (oi := _) (v := ?_) rfl (by kernel_rfl) (by kernel_rfl) (by kernel_rfl) (fun _ _ _ h => h) (Or.inl ⟨by rfl, ?_⟩) (by assumption) ?_
  rotate_left
  · (intro w hSw; (try dsimp only at hSw); go_simp)
    all_goals with_reducible rfl
  try dsimp only [List.getElem_toArray, List.getElem_cons_succ, List.getElem_cons_zero]
  try simp only [Act.put, List.setIfInBounds_toArray, List.set_cons_zero, List.set_cons_succ]
  refine wpAnyH_take (i := 19) (oi := _) (v := ?_) rfl (by kernel_rfl) (by kernel_rfl) (by kernel_rfl) (fun _ _ _ h => h) (Or.inl ⟨by rfl, ?_⟩) (by assumption) ?_
  rotate_left
  · (intro w hSw; (try dsimp only at hSw); go_simp)
    all_goals with_reducible rfl
  refine wpAnyH_take (i := 20) (oi := _) (v := ?_) rfl (by kernel_rfl) (by kernel_rfl) (by kernel_rfl) (fun _ _ _ h => h) (Or.inl ⟨by rfl, ?_⟩) (by assumption) ?_
  rotate_left
  · (intro w hSw; (try dsimp only at hSw); go_simp)
    all_goals with_reducible rfl
  try dsimp only [List.getElem_toArray, List.getElem_cons_succ, List.getElem_cons_zero]
  try simp only [Act.put, List.setIfInBounds_toArray, List.set_cons_zero, List.set_cons_succ]
  refine wpAnyH_take (i := 21) (oi := _) (v := ?_) rfl (by kernel_rfl) (by kernel_rfl) (by kernel_rfl) (fun _ _ _ h => h) (Or.inl ⟨by rfl, ?_⟩) (by assumption) ?_
  rotate_left
  · (intro w hSw; (try dsimp only at hSw); go_simp)
    all_goals with_reducible rfl
  refine wpAnyH_take (i := 23) (oi := _) (v := ?_) rfl (by kernel_rfl) (by kernel_rfl) (by kernel_rfl) (fun _ _ _ h => h) (Or.inl ⟨by rfl, ?_⟩) (by assumption) ?_
  rotate_left
  · (intro w hSw; (try dsimp only at hSw); go_simp)
    all_goals with_reducible rfl
  try dsimp only [List.getElem_toArray, List.getElem_cons_succ, List.getElem_cons_zero]
  try simp only [Act.put, List.setIfInBounds_toArray, List.set_cons_zero, List.set_cons_succ]
  refine wpAnyH_take (i := 24) (oi := _) (v := ?_) rfl (by kernel_rfl) (by kernel_rfl) (by kernel_rfl) (fun _ _ _ h => h) (Or.inl ⟨by rfl, ?_⟩) (by assumption) ?_
  rotate_left
  · (intro w hSw; (try dsimp only at hSw); go_simp)
    all_goals with_reducible rfl
  try dsimp only [List.getElem_toArray, List.getElem_cons_succ, List.getElem_cons_zero]
  try simp only [Act.put, List.setIfInBounds_toArray, List.set_cons_zero, List.set_cons_succ]
  refine wpAnyH_ready (rs := [22]) (by kernel_rfl) (by simp) ?_
  refine AllReadyH.cons (o := _) rfl (fun K hK => ?_) AllReadyH.nil
  go_simp
  refine (sign_any p1 A1 n1 c1 l1 _ ((HX.out.keep K5).e.m _ (.tail _ (.tail _ (.tail _ (.head _)))))).mono ?_
  rintro e wr6 ⟨rfl, kr⟩
  rw [← HV.out, ← HSG.out]
  have K6 : Keep (fun _ => False) w7 wr6 := Keep.trans K5 kr
  clear kr K5
  try dsimp only
  go_wp2_with fail
  refine hK.out _ _ (HCC.out _ K6) (fun hHeld => ?_)
  clear hK K
  try dsimp only [List.getElem_toArray, List.getElem_cons_succ, List.getElem_cons_zero]
  try simp only [Act.put, List.setIfInBounds_toArray, List.set_cons_zero, List.set_cons_succ]
  refine wpAnyH_ready (rs := [25]) (by kernel_rfl) (by simp) ?_
  refine AllReadyH.cons (o := _) rfl (fun K hK => ?_) AllReadyH.nil
  go_simp
  refine (rcmp_any xa 0 z1 false A7 n7 c7 none 0 0 _ HZ.out (by rfl) ((HX.out.keep K6).b _ (.head _)) (nil_bits _)).mono ?_
  rintro e wr7 ⟨rfl, kr⟩
  rw [cmp_sign, ← HSG.out]
  have K7 : Keep (fun _ => False) w7 wr7 := Keep.trans K6 kr
  clear kr K6
  try dsimp only
  go_wp2_with fail
  refine hK.out _ _ (HCC.out _ K7) (fun hHeld => ?_)
  clear hK K
  refine wpAnyH_take (i := 26) (oi := _) (v := ?_) rfl (by kernel_rfl) (by kernel_rfl) (by kernel_rfl) (fun _ _ _ h => h) (Or.inl ⟨by rfl, ?_⟩) (by assumption) ?_
  rotate_left
  · (intro w hSw; (try dsimp only at hSw); go_simp)
    all_goals with_reducible rfl
  try dsimp only [List.getElem_toArray, List.getElem_cons_succ, List.getElem_cons_zero]
  try simp only [Act.put, List.setIfInBounds_toArray, List.set_cons_zero, List.set_cons_succ]
  refine wpAnyH_take (i := 27) (oi := _) (v := ?_) rfl (by kernel_rfl) (by kernel_rfl) (by kernel_rfl) (fun _ _ _ h => h) (Or.inl ⟨by rfl, ?_⟩) (by assumption) ?_
  rotate_left
  · (intro w hSw; (try dsimp only at hSw); go_simp)
    all_goals with_reducible rfl
  try dsimp only [List.getElem_toArray, List.getElem_cons_succ, List.getElem_cons_zero]
  try simp only [Act.put, List.setIfInBounds_toArray, List.set_cons_zero, List.set_cons_succ]
  refine wpAnyH_done (by kernel_rfl) ?_ _
  have KK := K7
  clear K7
  have OW1 := Lib.hid (OW_x.out.keep0 KK)
  clear OW_x
  have OW_x := OW1
  clear OW1
  have OW1 := Lib.hid (OW_y.out.keep0 KK)
  clear OW_y
  have OW_y := OW1
  clear OW1
  have KW1 := Lib.hid (K0.out.trans KK)
  clear K0
  have K0 := KW1
  clear KW1
  have HX1 := Lib.hid (HX.out.keep KK)
  clear HX
  have HX := Lib.hid HX1.out
  clear HX1
  clear HCC KK
  obtain ⟨y0, y1, yl⟩ := HX.out.cells (.head _)
  obtain ⟨x0, x1, xl⟩ := HX.out.cells (.tail _ (.head _))
  obtain ⟨f0, f1, fl⟩ := HX.out.cells (.tail _ (.tail _ (.head _)))
  obtain ⟨r0, r1, rl⟩ := HX.out.cells (.tail _ (.tail _ (.tail _ (.head _))))
  obtain ⟨i0, i1, il⟩ := HX.out.cellsV (.head _)
  try dsimp only
  go_wp2_with fail
  clear y0 y1 yl x0 x1 xl f0 f1 fl r0 r1 rl i0 i1 il
  refine (spoil_any _ q_x A_x n_x c_x l_x _ OW_x.out (by omega)).mono ?_
  rintro e ws0 ⟨rfl, ks⟩
  obtain ⟨hx1, hk1⟩ := EnvV.spoil H0.out HX.out K0.out ks OW_x.out (Nat.le_refl _) (List.forall_mem_cons.2 ⟨⟨_, rfl⟩, (List.forall_mem_cons.2 ⟨⟨_, rfl⟩, (List.forall_mem_cons.2 ⟨⟨_, rfl⟩, (List.forall_mem_cons.2 ⟨⟨_, rfl⟩, (fun _ h => by cases h)⟩)⟩)⟩)⟩)
  clear HX
  have HX := Lib.hid hx1
  clear hx1
  have OW1 := Lib.hid (OW_x.out.off OW_y.out ks w6 (Nat.le_refl _) ON_x.out)
  clear OW_y
  have OW_y := OW1
  clear OW1
  clear K0
  have K0 := Lib.hid hk1
  clear hk1 ks
  obtain ⟨y0, y1, yl⟩ := HX.out.cells (.head _)
  obtain ⟨x0, x1, xl⟩ := HX.out.cells (.tail _ (.head _))
  obtain ⟨f0, f1, fl⟩ := HX.out.cells (.tail _ (.tail _ (.head _)))
  obtain ⟨r0, r1, rl⟩ := HX.out.cells (.tail _ (.tail _ (.tail _ (.head _))))
  obtain ⟨i0, i1, il⟩ := HX.out.cellsV (.head _)
  try dsimp only
  go_wp2_with fail
  clear y0 y1 yl x0 x1 xl f0 f1 fl r0 r1 rl i0 i1 il
  refine (spoil_any _ q_y A_y n_y c_y l_y _ OW_y.out (by omega)).mono ?_
  rintro e ws1 ⟨rfl, ks⟩
  obtain ⟨hx1, hk1⟩ := EnvV.spoil H0.out HX.out K0.out ks OW_y.out KN_x.out (List.forall_mem_cons.2 ⟨⟨_, rfl⟩, (List.forall_mem_cons.2 ⟨⟨_, rfl⟩, (List.forall_mem_cons.2 ⟨⟨_, rfl⟩, (List.forall_mem_cons.2 ⟨⟨_, rfl⟩, (fun _ h => by cases h)⟩)⟩)⟩)⟩)
  clear HX
  have HX := Lib.hid hx1
  clear hx1
  clear K0
  have K0 := Lib.hid hk1
  clear hk1 ks
  obtain ⟨y0, y1, yl⟩ := HX.out.cells (.head _)
  obtain ⟨x0, x1, xl⟩ := HX.out.cells (.tail _ (.head _))
  obtain ⟨f0, f1, fl⟩ := HX.out.cells (.tail _ (.tail _ (.head _)))
  obtain ⟨r0, r1, rl⟩ := HX.out.cells (.tail _ (.tail _ (.tail _ (.head _))))
  obtain ⟨i0, i1, il⟩ := HX.out.cellsV (.head _)
  try dsimp only
  go_wp2_with fail
  clear y0 y1 yl x0 x1 xl f0 f1 fl r0 r1 rl i0 i1 il
  clear K0 OW_x OW_y ON_x ON_y KN_x KN_y SZ_x SZ_y H0 HO_x HO_y
  have HSL := Lib.hid (show n7 ≤ 60 ↔ xa.natAbs < 1152921504606846976 from small_len (HX.out.b _ (.head _)).len)
  refine (fix_any p1 A1 n1 c1 l1 _ (HX.out.e.m _ (.tail _ (.head _)))).mono ?_
  rintro e wf ⟨rfl, kf⟩
  rw [← HV.out]
  have HX1 := Lib.hid (HX.out.keep kf)
  clear HX kf
  have HX := Lib.hid HX1.out
  clear HX1
  rcases (by omega : (n7 ≤ 60) ∨ (¬ n7 ≤ 60 ∧ ¬ xa < 0) ∨ (¬ n7 ≤ 60 ∧ xa = -1152921504606846976) ∨ (¬ n7 ≤ 60 ∧ xa < 0 ∧ xa ≠ -1152921504606846976)) with hp | hp | hp | hp
  · skip
    have hsm : Small xa := by have h9 := HSL.out; unfold Small; omega
    rw [if_pos hsm, decide_eq_true hsm]
    have HSM := Lib.hid hsm
    clear hsm
    have t1 : (n7 : Int) ≤ 60 := by omega
    clear hp
    obtain ⟨y0, y1, yl⟩ := HX.out.cells (.head _)
    obtain ⟨x0, x1, xl⟩ := HX.out.cells (.tail _ (.head _))
    obtain ⟨f0, f1, fl⟩ := HX.out.cells (.tail _ (.tail _ (.head _)))
    obtain ⟨r0, r1, rl⟩ := HX.out.cells (.tail _ (.tail _ (.tail _ (.head _))))
    obtain ⟨i0, i1, il⟩ := HX.out.cellsV (.head _)
    try dsimp only
    go_wp2_with fail
    clear y0 y1 yl x0 x1 xl f0 f1 fl r0 r1 rl i0 i1 il
    clear t1
    obtain ⟨y0, y1, yl⟩ := HX.out.cells (.head _)
    obtain ⟨x0, x1, xl⟩ := HX.out.cells (.tail _ (.head _))
    obtain ⟨f0, f1, fl⟩ := HX.out.cells (.tail _ (.tail _ (.head _)))
    obtain ⟨r0, r1, rl⟩ := HX.out.cells (.tail _ (.tail _ (.tail _ (.head _))))
    obtain ⟨i0, i1, il⟩ := HX.out.cellsV (.head _)
    have Kd : Keep (fun _ => False) wf wf.drew := (Keep.refl _ _).drew
    have HCC := Lib.hid (fun (w' : World) (K' : Keep (fun _ => False) wf w') => (show w'.cell? ⟨B0, 0, none⟩ = some (.bool p1) ∧ w'.cell? ⟨B0, 1, none⟩ = some (.slice A1 n1 c1) ∧ w'.cell? ⟨B5, 0, none⟩ = some (.bool p1) ∧ w'.cell? ⟨B5, 1, none⟩ = some (.slice A5 n5 c5) ∧ w'.cell? ⟨B7, 0, none⟩ = some (.bool z1) ∧ w'.cell? ⟨B7, 1, none⟩ = some (.slice A7 n7 c7) from by
      obtain ⟨ra, rb, _⟩ := (HX.out.keep K').cells (.tail _ (.tail _ (.tail _ (.head _))))
      obtain ⟨fa, fb, _⟩ := (HX.out.keep K').cells (.tail _ (.tail _ (.head _)))
      obtain ⟨ia, ib, _⟩ := (HX.out.keep K').cellsV (.head _)
      exact ⟨ra, rb, fa, fb, ia, ib⟩))
    clear y0 y1 yl x0 x1 xl f0 f1 fl r0 r1 rl i0 i1 il
    refine wp_region_held_drew (S := fun w' => w'.cell? ⟨B0, 0, none⟩ = some (.bool p1) ∧ w'.cell? ⟨B0, 1, none⟩ = some (.slice A1 n1 c1) ∧ w'.cell? ⟨B5, 0, none⟩ = some (.bool p1) ∧ w'.cell? ⟨B5, 1, none⟩ = some (.slice A5 n5 c5) ∧ w'.cell? ⟨B7, 0, none⟩ = some (.bool z1) ∧ w'.cell? ⟨B7, 1, none⟩ = some (.slice A7 n7 c7)) (by kernel_rfl) (HCC.out _ Kd) (fun hHeld => ?_)
    refine wpAnyH_take (i := 0) (oi := _) (v := ?_) rfl (by kernel_rfl) (by kernel_rfl) (by kernel_rfl) (fun _ _ _ h => h) (Or.inl ⟨by rfl, ?_⟩) (by assumption) ?_
    rotate_left
    · (intro w hSw; (try dsimp only at hSw); go_simp)
      all_goals with_reducible rfl
    refine wpAnyH_take (i := 1) (oi := _) (v := ?_) rfl (by kernel_rfl) (by kernel_rfl) (by kernel_rfl) (fun _ _ _ h => h) (Or.inl ⟨by rfl, ?_⟩) (by assumption) ?_
    rotate_left
    · (intro w hSw; (try dsimp only at hSw); go_simp)
      all_goals with_reducible rfl
    try dsimp only [List.getElem_toArray, List.getElem_cons_succ, List.getElem_cons_zero]
    try simp only [Act.put, List.setIfInBounds_toArray, List.set_cons_zero, List.set_cons_succ]
    refine wpAnyH_take (i := 2) (oi := _) (v := ?_) rfl (by kernel_rfl) (by kernel_rfl) (by kernel_rfl) (fun _ _ _ h => h) (Or.inl ⟨by rfl, ?_⟩) (by assumption) ?_
    rotate_left
    · (intro w hSw; (try dsimp only at hSw); go_simp)
      all_goals with_reducible rfl
    refine wpAnyH_take (i := 3) (oi := _) (v := ?_) rfl (by kernel_rfl) (by kernel_rfl) (by kernel_rfl) (fun _ _ _ h => h) (Or.inl ⟨by rfl, ?_⟩) (by assumption) ?_
    rotate_left
    · (intro w hSw; (try dsimp only at hSw); go_simp)
      all_goals with_reducible rfl
    try dsimp only [List.getElem_toArray, List.getElem_cons_succ, List.getElem_cons_zero]
    try simp only [Act.put, List.setIfInBounds_toArray, List.set_cons_zero, List.set_cons_succ]
    refine wpAnyH_take (i := 5) (oi := _) (v := ?_) rfl (by kernel_rfl) (by kernel_rfl) (by kernel_rfl) (fun _ _ _ h => h) (Or.inl ⟨by rfl, ?_⟩) (by assumption) ?_
    rotate_left
    · (intro w hSw; (try dsimp only at hSw); go_simp)
      all_goals with_reducible rfl
    try dsimp only [List.getElem_toArray, List.getElem_cons_succ, List.getElem_cons_zero]
    try simp only [Act.put, List.setIfInBounds_toArray, List.set_cons_zero, List.set_cons_succ]
    refine wpAnyH_ready (rs := [4]) (by kernel_rfl) (by simp) ?_
    refine AllReadyH.cons (o := _) rfl (fun K hK => ?_) AllReadyH.nil
    go_simp
    refine (of_any xa _ (by have h9 := HSM.out; unfold Small at h9; omega) (by have h9 := HSM.out; unfold Small at h9; omega)).mono ?_
    rintro e wr1 ⟨kr, A_1, n_1, c_1, rfl, oo⟩
    rw [← HZ.out]
    have HF := Lib.hid (show Fits xa from of_fits (by have h9 := HSM.out; unfold Small at h9; unfold BB; omega))
    have LO := Lib.hid (oo.num HF.out)
    clear oo
    have K1 : Keep (fun _ => False) wf wr1 := Keep.trans Kd kr
    clear kr 
    try dsimp only
    go_wp2_with fail
    refine hK.out _ _ (HCC.out _ K1) (fun hHeld => ?_)
    clear hK K
    try dsimp only [List.getElem_toArray, List.getElem_cons_succ, List.getElem_cons_zero]
    try simp only [Act.put, List.setIfInBounds_toArray, List.set_cons_zero, List.set_cons_succ]
    refine wpAnyH_ready (rs := [6]) (by kernel_rfl) (by simp) ?_
    refine AllReadyH.cons (o := _) rfl (fun K hK => ?_) AllReadyH.nil
    go_simp
    refine (is_z HZ.out (.inl ⟨HF.out, HZ.out, rfl, rfl⟩) LO.out ((HX.out.keep K1).b _ (.head _))).mono ?_
    rintro e wr2 ⟨rfl, kr⟩
    have K2 : Keep (fun _ => False) wf wr2 := Keep.trans K1 kr
    clear kr K1
    try dsimp only
    go_wp2_with fail
    refine hK.out _ _ (HCC.out _ K2) (fun hHeld => ?_)
    clear hK K
    refine wpAnyH_take (i := 7) (oi := _) (v := ?_) rfl (by kernel_rfl) (by kernel_rfl) (by kernel_rfl) (fun _ _ _ h => h) (Or.inl ⟨by rfl, ?_⟩) (by assumption) ?_
    rotate_left
    · (intro w hSw; (try dsimp only at hSw); go_simp)
      all_goals with_reducible rfl
    try dsimp only [List.getElem_toArray, List.getElem_cons_succ, List.getElem_cons_zero]
    try simp only [Act.put, List.setIfInBounds_toArray, List.set_cons_zero, List.set_cons_succ]
    refine wpAnyH_take (i := 8) (oi := _) (v := ?_) rfl (by kernel_rfl) (by kernel_rfl) (by kernel_rfl) (fun _ _ _ h => h) (Or.inl ⟨by rfl, ?_⟩) (by assumption) ?_
    rotate_left
    · (intro w hSw; (try dsimp only at hSw); go_simp)
      all_goals with_reducible rfl
    refine wpAnyH_take (i := 9) (oi := _) (v := ?_) rfl (by kernel_rfl) (by kernel_rfl) (by kernel_rfl) (fun _ _ _ h => h) (Or.inl ⟨by rfl, ?_⟩) (by assumption) ?_
    rotate_left
    · (intro w hSw; (try dsimp only at hSw); go_simp)
      all_goals with_reducible rfl
    try dsimp only [List.getElem_toArray, List.getElem_cons_succ, List.getElem_cons_zero]
    try simp only [Act.put, List.setIfInBounds_toArray, List.set_cons_zero, List.set_cons_succ]
    refine wpAnyH_take (i := 10) (oi := _) (v := ?_) rfl (by kernel_rfl) (by kernel_rfl) (by kernel_rfl) (fun _ _ _ h => h) (Or.inl ⟨by rfl, ?_⟩) (by assumption) ?_
    rotate_left
    · (intro w hSw; (try dsimp only at hSw); go_simp)
      all_goals with_reducible rfl
    try dsimp only [List.getElem_toArray, List.getElem_cons_succ, List.getElem_cons_zero]
    try simp only [Act.put, List.setIfInBounds_toArray, List.set_cons_zero, List.set_cons_succ]
    refine wpAnyH_ready (rs := [11]) (by kernel_rfl) (by simp) ?_
    refine AllReadyH.cons (o := _) rfl (fun K hK => ?_) AllReadyH.nil
    go_simp
    refine (same_any p1 A1 n1 c1 l1 p1 A5 n5 c5 l1 _ ((HX.out.keep K2).e.m _ (.tail _ (.head _))) ((HX.out.keep K2).e.m _ (.head _))).mono ?_
    rintro e wr3 ⟨rfl, kr⟩
    rw [same_self]
    have K3 : Keep (fun _ => False) wf wr3 := Keep.trans K2 kr
    clear kr K2
    try dsimp only
    go_wp2_with fail
    refine hK.out _ _ (HCC.out _ K3) (fun hHeld => ?_)
    clear hK K
    refine wpAnyH_take (i := 12) (oi := _) (v := ?_) rfl (by kernel_rfl) (by kernel_rfl) (by kernel_rfl) (fun _ _ _ h => h) (Or.inl ⟨by rfl, ?_⟩) (by assumption) ?_
    rotate_left
    · (intro w hSw; (try dsimp only at hSw); go_simp)
      all_goals with_reducible rfl
    try dsimp only [List.getElem_toArray, List.getElem_cons_succ, List.getElem_cons_zero]
    try simp only [Act.put, List.setIfInBounds_toArray, List.set_cons_zero, List.set_cons_succ]
    refine wpAnyH_take (i := 13) (oi := _) (v := ?_) rfl (by kernel_rfl) (by kernel_rfl) (by kernel_rfl) (fun _ _ _ h => h) (Or.inl ⟨by rfl, ?_⟩) (by assumption) ?_
    rotate_left
    · (intro w hSw; (try dsimp only at hSw); go_simp)
      all_goals with_reducible rfl
    try dsimp only [List.getElem_toArray, List.getElem_cons_succ, List.getElem_cons_zero]
    try simp only [Act.put, List.setIfInBounds_toArray, List.set_cons_zero, List.set_cons_succ]
    refine wpAnyH_ready (rs := [14]) (by kernel_rfl) (by simp) ?_
    refine AllReadyH.cons (o := _) rfl (fun K hK => ?_) AllReadyH.nil
    go_simp
    refine (awake_any _ (HT.out.keep (HX.out.keep K3).k)).mono ?_
    rintro e wr4 ⟨rfl, kr⟩
    have K4 : Keep (fun _ => False) wf wr4 := Keep.trans K3 kr
    clear kr K3
    try dsimp only
    go_wp2_with fail
    refine hK.out _ _ (HCC.out _ K4) (fun hHeld => ?_)
    clear hK K
    refine wpAnyH_take (i := 15) (oi := _) (v := ?_) rfl (by kernel_rfl) (by kernel_rfl) (by kernel_rfl) (fun _ _ _ h => h) (Or.inl ⟨by rfl, ?_⟩) (by assumption) ?_
    rotate_left
    · (intro w hSw; (try dsimp only at hSw); go_simp)
      all_goals with_reducible rfl
    try dsimp only [List.getElem_toArray, List.getElem_cons_succ, List.getElem_cons_zero]
    try simp only [Act.put, List.setIfInBounds_toArray, List.set_cons_zero, List.set_cons_succ]
    refine wpAnyH_take (i := 16) (oi := _) (v := ?_) rfl (by kernel_rfl) (by kernel_rfl) (by kernel_rfl) (fun _ _ _ h => h) (Or.inl ⟨by rfl, ?_⟩) (by assumption) ?_
    rotate_left
    · (intro w hSw; (try dsimp only at hSw); go_simp)
      all_goals with_reducible rfl
    try dsimp only [List.getElem_toArray, List.getElem_cons_succ, List.getElem_cons_zero]
    try simp only [Act.put, List.setIfInBounds_toArray, List.set_cons_zero, List.set_cons_succ]
    refine wpAnyH_done (by kernel_rfl) ?_ _
    have KK := K4
    clear K4
    have HZ9 := Lib.hid (HX.out.keep KK).k
    clear HCC
    try dsimp only
    go_wp2_with fail
    go_ret
    exact ⟨rfl, HZ9.out⟩
  · skip
    have hsm : ¬ Small xa := by have h9 := HSL.out; unfold Small; omega
    rw [if_neg hsm, decide_eq_false hsm]
    clear hsm
    have t1 : decide ((n7 : Int) ≤ 60) = false := decide_eq_false (by omega)
    have t2 : decide (n7 ≤ 60) = false := decide_eq_false (by omega)
    obtain rfl : z1 = false := by rw [HZ.out]; exact decide_eq_false hp.2
    clear hp
    obtain ⟨y0, y1, yl⟩ := HX.out.cells (.head _)
    obtain ⟨x0, x1, xl⟩ := HX.out.cells (.tail _ (.head _))
    obtain ⟨f0, f1, fl⟩ := HX.out.cells (.tail _ (.tail _ (.head _)))
    obtain ⟨r0, r1, rl⟩ := HX.out.cells (.tail _ (.tail _ (.tail _ (.head _))))
    obtain ⟨i0, i1, il⟩ := HX.out.cellsV (.head _)
    try dsimp only
    go_wp2_with fail
    clear y0 y1 yl x0 x1 xl f0 f1 fl r0 r1 rl i0 i1 il
    clear t1 t2
    obtain ⟨y0, y1, yl⟩ := HX.out.cells (.head _)
    obtain ⟨x0, x1, xl⟩ := HX.out.cells (.tail _ (.head _))
    obtain ⟨f0, f1, fl⟩ := HX.out.cells (.tail _ (.tail _ (.head _)))
    obtain ⟨r0, r1, rl⟩ := HX.out.cells (.tail _ (.tail _ (.tail _ (.head _))))
    obtain ⟨i0, i1, il⟩ := HX.out.cellsV (.head _)
    have Kd : Keep (fun _ => False) wf wf.drew := (Keep.refl _ _).drew
    have HCC := Lib.hid (fun (w' : World) (K' : Keep (fun _ => False) wf w') => (show w'.cell? ⟨B0, 0, none⟩ = some (.bool p1) ∧ w'.cell? ⟨B0, 1, none⟩ = some (.slice A1 n1 c1) ∧ w'.cell? ⟨B5, 0, none⟩ = some (.bool p1) ∧ w'.cell? ⟨B5, 1, none⟩ = some (.slice A5 n5 c5) ∧ w'.cell? ⟨B7, 0, none⟩ = some (.bool false) ∧ w'.cell? ⟨B7, 1, none⟩ = some (.slice A7 n7 c7) from by
      obtain ⟨ra, rb, _⟩ := (HX.out.keep K').cells (.tail _ (.tail _ (.tail _ (.head _))))
      obtain ⟨fa, fb, _⟩ := (HX.out.keep K').cells (.tail _ (.tail _ (.head _)))
      obtain ⟨ia, ib, _⟩ := (HX.out.keep K').cellsV (.head _)
      exact ⟨ra, rb, fa, fb, ia, ib⟩))
    clear y0 y1 yl x0 x1 xl f0 f1 fl r0 r1 rl i0 i1 il
    refine wp_region_held_drew (S := fun w' => w'.cell? ⟨B0, 0, none⟩ = some (.bool p1) ∧ w'.cell? ⟨B0, 1, none⟩ = some (.slice A1 n1 c1) ∧ w'.cell? ⟨B5, 0, none⟩ = some (.bool p1) ∧ w'.cell? ⟨B5, 1, none⟩ = some (.slice A5 n5 c5) ∧ w'.cell? ⟨B7, 0, none⟩ = some (.bool false) ∧ w'.cell? ⟨B7, 1, none⟩ = some (.slice A7 n7 c7)) (by kernel_rfl) (HCC.out _ Kd) (fun hHeld => ?_)
    refine wpAnyH_take (i := 0) (oi := _) (v := ?_) rfl (by kernel_rfl) (by kernel_rfl) (by kernel_rfl) (fun _ _ _ h => h) (Or.inl ⟨by rfl, ?_⟩) (by assumption) ?_
    rotate_left
    · (intro w hSw; (try dsimp only at hSw); go_simp)
      all_goals with_reducible rfl
    refine wpAnyH_take (i := 1) (oi := _) (v := ?_) rfl (by kernel_rfl) (by kernel_rfl) (by kernel_rfl) (fun _ _ _ h => h) (Or.inl ⟨by rfl, ?_⟩) (by assumption) ?_
    rotate_left
    · (intro w hSw; (try dsimp only at hSw); go_simp)
      all_goals with_reducible rfl
    try dsimp only [List.getElem_toArray, List.getElem_cons_succ, List.getElem_cons_zero]
    try simp only [Act.put, List.setIfInBounds_toArray, List.set_cons_zero, List.set_cons_succ]
    refine wpAnyH_take (i := 2) (oi := _) (v := ?_) rfl (by kernel_rfl) (by kernel_rfl) (by kernel_rfl) (fun _ _ _ h => h) (Or.inl ⟨by rfl, ?_⟩) (by assumption) ?_
    rotate_left
    · (intro w hSw; (try dsimp only at hSw); go_simp)
      all_goals with_reducible rfl
    try dsimp only [List.getElem_toArray, List.getElem_cons_succ, List.getElem_cons_zero]
    try simp only [Act.put, List.setIfInBounds_toArray, List.set_cons_zero, List.set_cons_succ]
    refine wpAnyH_take (i := 3) (oi := _) (v := undef) rfl (by kernel_rfl) (by kernel_rfl) (by kernel_rfl) (fun _ _ _ h => h) (Or.inr ⟨by rfl, rfl⟩) (by assumption) ?_
    refine wpAnyH_take (i := 4) (oi := _) (v := undef) rfl (by kernel_rfl) (by kernel_rfl) (by kernel_rfl) (fun _ _ _ h => h) (Or.inr ⟨by rfl, rfl⟩) (by assumption) ?_
    refine wpAnyH_take (i := 5) (oi := _) (v := undef) rfl (by kernel_rfl) (by kernel_rfl) (by kernel_rfl) (fun _ _ _ h => h) (Or.inr ⟨by rfl, rfl⟩) (by assumption) ?_
    refine wpAnyH_take (i := 6) (oi := _) (v := undef) rfl (by kernel_rfl) (by kernel_rfl) (by kernel_rfl) (fun _ _ _ h => h) (Or.inr ⟨by rfl, rfl⟩) (by assumption) ?_
    try dsimp only [List.getElem_toArray, List.getElem_cons_succ, List.getElem_cons_zero]
    try simp only [Act.put, List.setIfInBounds_toArray, List.set_cons_zero, List.set_cons_succ]
    refine wpAnyH_take (i := 7) (oi := _) (v := ?_) rfl (by kernel_rfl) (by kernel_rfl) (by kernel_rfl) (fun _ _ _ h => h) (Or.inl ⟨by rfl, ?_⟩) (by assumption) ?_
    rotate_left
    · (intro w hSw; (try dsimp only at hSw); go_simp)
      all_goals with_reducible rfl
    refine wpAnyH_take (i := 8) (oi := _) (v := ?_) rfl (by kernel_rfl) (by kernel_rfl) (by kernel_rfl) (fun _ _ _ h => h) (Or.inl ⟨by rfl, ?_⟩) (by assumption) ?_
    rotate_left
    · (intro w hSw; (try dsimp only at hSw); go_simp)
      all_goals with_reducible rfl
    try dsimp only [List.getElem_toArray, List.getElem_cons_succ, List.getElem_cons_zero]
    try simp only [Act.put, List.setIfInBounds_toArray, List.set_cons_zero, List.set_cons_succ]
    refine wpAnyH_take (i := 9) (oi := _) (v := ?_) rfl (by kernel_rfl) (by kernel_rfl) (by kernel_rfl) (fun _ _ _ h => h) (Or.inl ⟨by rfl, ?_⟩) (by assumption) ?_
    rotate_left
    · (intro w hSw; (try dsimp only at hSw); go_simp)
      all_goals with_reducible rfl
    refine wpAnyH_take (i := 10) (oi := _) (v := ?_) rfl (by kernel_rfl) (by kernel_rfl) (by kernel_rfl) (fun _ _ _ h => h) (Or.inl ⟨by rfl, ?_⟩) (by assumption) ?_
    rotate_left
    · (intro w hSw; (try dsimp only at hSw); go_simp)
      all_goals with_reducible rfl
    try dsimp only [List.getElem_toArray, List.getElem_cons_succ, List.getElem_cons_zero]
    try simp only [Act.put, List.setIfInBounds_toArray, List.set_cons_zero, List.set_cons_succ]
    refine wpAnyH_ready (rs := [11]) (by kernel_rfl) (by simp) ?_
    refine AllReadyH.cons (o := _) rfl (fun K hK => ?_) AllReadyH.nil
    go_simp
    refine (same_any p1 A1 n1 c1 l1 p1 A5 n5 c5 l1 _ ((HX.out.keep Kd).e.m _ (.tail _ (.head _))) ((HX.out.keep Kd).e.m _ (.head _))).mono ?_
    rintro e wr1 ⟨rfl, kr⟩
    rw [same_self]
    have K1 : Keep (fun _ => False) wf wr1 := Keep.trans Kd kr
    clear kr 
    try dsimp only
    go_wp2_with fail
    refine hK.out _ _ (HCC.out _ K1) (fun hHeld => ?_)
    clear hK K
    try dsimp only [List.getElem_toArray, List.getElem_cons_succ, List.getElem_cons_zero]
    try simp only [Act.put, List.setIfInBounds_toArray, List.set_cons_zero, List.set_cons_succ]
    refine wpAnyH_take (i := 12) (oi := _) (v := ?_) rfl (by kernel_rfl) (by kernel_rfl) (by kernel_rfl) (fun _ _ _ h => h) (Or.inl ⟨by rfl, ?_⟩) (by assumption) ?_
    rotate_left
    · (intro w hSw; (try dsimp only at hSw); go_simp)
      all_goals with_reducible rfl
    refine wpAnyH_take (i := 13) (oi := _) (v := ?_) rfl (by kernel_rfl) (by kernel_rfl) (by kernel_rfl) (fun _ _ _ h => h) (Or.inl ⟨by rfl, ?_⟩) (by assumption) ?_
    rotate_left
    · (intro w hSw; (try dsimp only at hSw); go_simp)
      all_goals with_reducible rfl
    try dsimp only [List.getElem_toArray, List.getElem_cons_succ, List.getElem_cons_zero]
    try simp only [Act.put, List.setIfInBounds_toArray, List.set_cons_zero, List.set_cons_succ]
    refine wpAnyH_ready (rs := [14]) (by kernel_rfl) (by simp) ?_
    refine AllReadyH.cons (o := _) rfl (fun K hK => ?_) AllReadyH.nil
    go_simp
    refine (awake_any _ (HT.out.keep (HX.out.keep K1).k)).mono ?_
    rintro e wr2 ⟨rfl, kr⟩
    have K2 : Keep (fun _ => False) wf wr2 := Keep.trans K1 kr
    clear kr K1
    try dsimp only
    go_wp2_with fail
    refine hK.out _ _ (HCC.out _ K2) (fun hHeld => ?_)
    clear hK K
    try dsimp only [List.getElem_toArray, List.getElem_cons_succ, List.getElem_cons_zero]
    try simp only [Act.put, List.setIfInBounds_toArray, List.set_cons_zero, List.set_cons_succ]
    refine wpAnyH_take (i := 15) (oi := _) (v := ?_) rfl (by kernel_rfl) (by kernel_rfl) (by kernel_rfl) (fun _ _ _ h => h) (Or.inl ⟨by rfl, ?_⟩) (by assumption) ?_
    rotate_left
    · (intro w hSw; (try dsimp only at hSw); go_simp)
      all_goals with_reducible rfl
    refine wpAnyH_take (i := 16) (oi := _) (v := ?_) rfl (by kernel_rfl) (by kernel_rfl) (by kernel_rfl) (fun _ _ _ h => h) (Or.inl ⟨by rfl, ?_⟩) (by assumption) ?_
    rotate_left
    · (intro w hSw; (try dsimp only at hSw); go_simp)
      all_goals with_reducible rfl
    try dsimp only [List.getElem_toArray, List.getElem_cons_succ, List.getElem_cons_zero]
    try simp only [Act.put, List.setIfInBounds_toArray, List.set_cons_zero, List.set_cons_succ]
    refine wpAnyH_done (by kernel_rfl) ?_ _
    have KK := K2
    clear K2
    have HZ9 := Lib.hid (HX.out.keep KK).k
    clear HCC
    try dsimp only
    go_wp2_with fail
    go_ret
    exact ⟨rfl, HZ9.out⟩
  · skip
    have hsm : Small xa := by have h9 := HSL.out; unfold Small; omega
    rw [if_pos hsm, decide_eq_true hsm]
    have HSM := Lib.hid hsm
    clear hsm
    have t1 : decide ((n7 : Int) ≤ 60) = false := decide_eq_false (by omega)
    have t2 : decide (n7 ≤ 60) = false := decide_eq_false (by omega)
    obtain rfl : z1 = true := by rw [HZ.out]; exact decide_eq_true (by omega)
    have HCM := Lib.hid (show cmpI xa (sval true [0, 268435456]) = 0 from by rw [low60, hp.2, cmp_self])
    clear hp
    obtain ⟨y0, y1, yl⟩ := HX.out.cells (.head _)
    obtain ⟨x0, x1, xl⟩ := HX.out.cells (.tail _ (.head _))
    obtain ⟨f0, f1, fl⟩ := HX.out.cells (.tail _ (.tail _ (.head _)))
    obtain ⟨r0, r1, rl⟩ := HX.out.cells (.tail _ (.tail _ (.tail _ (.head _))))
    obtain ⟨i0, i1, il⟩ := HX.out.cellsV (.head _)
    try dsimp only
    go_wp2_with fail
    clear y0 y1 yl x0 x1 xl f0 f1 fl r0 r1 rl i0 i1 il
    have KA : Keep (fun _ => False) wf (wf.alloc (.cells #[.int .u32 0, .int .u32 268435456] 63)) := (Keep.refl _ _).alloc _
    refine (cmp_any p1 A1 n1 c1 l1 true _ 2 2 [0, 268435456] _ ((HX.out.e.m _ (.tail _ (.head _))).keep0 KA) (limbs60 wf)).mono ?_
    rintro e wc ⟨rfl, kc⟩
    rw [← HV.out, HCM.out]
    have kc2 := KA.trans kc
    clear kc KA
    have HX1 := Lib.hid (HX.out.keep kc2)
    clear HX kc2
    have HX := Lib.hid HX1.out
    clear HX1
    obtain ⟨y0, y1, yl⟩ := HX.out.cells (.head _)
    obtain ⟨x0, x1, xl⟩ := HX.out.cells (.tail _ (.head _))
    obtain ⟨f0, f1, fl⟩ := HX.out.cells (.tail _ (.tail _ (.head _)))
    obtain ⟨r0, r1, rl⟩ := HX.out.cells (.tail _ (.tail _ (.tail _ (.head _))))
    obtain ⟨i0, i1, il⟩ := HX.out.cellsV (.head _)
    try dsimp only
    go_wp2_with fail
    clear y0 y1 yl x0 x1 xl f0 f1 fl r0 r1 rl i0 i1 il
    clear t1 t2
    obtain ⟨y0, y1, yl⟩ := HX.out.cells (.head _)
    obtain ⟨x0, x1, xl⟩ := HX.out.cells (.tail _ (.head _))
    obtain ⟨f0, f1, fl⟩ := HX.out.cells (.tail _ (.tail _ (.head _)))
    obtain ⟨r0, r1, rl⟩ := HX.out.cells (.tail _ (.tail _ (.tail _ (.head _))))
    obtain ⟨i0, i1, il⟩ := HX.out.cellsV (.head _)
    have Kd : Keep (fun _ => False) wc wc.drew := (Keep.refl _ _).drew
    have HCC := Lib.hid (fun (w' : World) (K' : Keep (fun _ => False) wc w') => (show w'.cell? ⟨B0, 0, none⟩ = some (.bool p1) ∧ w'.cell? ⟨B0, 1, none⟩ = some (.slice A1 n1 c1) ∧ w'.cell? ⟨B5, 0, none⟩ = some (.bool p1) ∧ w'.cell? ⟨B5, 1, none⟩ = some (.slice A5 n5 c5) ∧ w'.cell? ⟨B7, 0, none⟩ = some (.bool true) ∧ w'.cell? ⟨B7, 1, none⟩ = some (.slice A7 n7 c7) from by
      obtain ⟨ra, rb, _⟩ := (HX.out.keep K').cells (.tail _ (.tail _ (.tail _ (.head _))))
      obtain ⟨fa, fb, _⟩ := (HX.out.keep K').cells (.tail _ (.tail _ (.head _)))
      obtain ⟨ia, ib, _⟩ := (HX.out.keep K').cellsV (.head _)
      exact ⟨ra, rb, fa, fb, ia, ib⟩))
    clear y0 y1 yl x0 x1 xl f0 f1 fl r0 r1 rl i0 i1 il
    refine wp_region_held_drew (S := fun w' => w'.cell? ⟨B0, 0, none⟩ = some (.bool p1) ∧ w'.cell? ⟨B0, 1, none⟩ = some (.slice A1 n1 c1) ∧ w'.cell? ⟨B5, 0, none⟩ = some (.bool p1) ∧ w'.cell? ⟨B5, 1, none⟩ = some (.slice A5 n5 c5) ∧ w'.cell? ⟨B7, 0, none⟩ = some (.bool true) ∧ w'.cell? ⟨B7, 1, none⟩ = some (.slice A7 n7 c7)) (by kernel_rfl) (HCC.out _ Kd) (fun hHeld => ?_)
    refine wpAnyH_take (i := 0) (oi := _) (v := ?_) rfl (by kernel_rfl) (by kernel_rfl) (by kernel_rfl) (fun _ _ _ h => h) (Or.inl ⟨by rfl, ?_⟩) (by assumption) ?_
    rotate_left
    · (intro w hSw; (try dsimp only at hSw); go_simp)
      all_goals with_reducible rfl
    refine wpAnyH_take (i := 1) (oi := _) (v := ?_) rfl (by kernel_rfl) (by kernel_rfl) (by kernel_rfl) (fun _ _ _ h => h) (Or.inl ⟨by rfl, ?_⟩) (by assumption) ?_
    rotate_left
    · (intro w hSw; (try dsimp only at hSw); go_simp)
      all_goals with_reducible rfl
    try dsimp only [List.getElem_toArray, List.getElem_cons_succ, List.getElem_cons_zero]
    try simp only [Act.put, List.setIfInBounds_toArray, List.set_cons_zero, List.set_cons_succ]
    refine wpAnyH_take (i := 2) (oi := _) (v := ?_) rfl (by kernel_rfl) (by kernel_rfl) (by kernel_rfl) (fun _ _ _ h => h) (Or.inl ⟨by rfl, ?_⟩) (by assumption) ?_
    rotate_left
    · (intro w hSw; (try dsimp only at hSw); go_simp)
      all_goals with_reducible rfl
    refine wpAnyH_take (i := 3) (oi := _) (v := ?_) rfl (by kernel_rfl) (by kernel_rfl) (by kernel_rfl) (fun _ _ _ h => h) (Or.inl ⟨by rfl, ?_⟩) (by assumption) ?_
    rotate_left
    · (intro w hSw; (try dsimp only at hSw); go_simp)
      all_goals with_reducible rfl
    try dsimp only [List.getElem_toArray, List.getElem_cons_succ, List.getElem_cons_zero]
    try simp only [Act.put, List.setIfInBounds_toArray, List.set_cons_zero, List.set_cons_succ]
    refine wpAnyH_take (i := 5) (oi := _) (v := ?_) rfl (by kernel_rfl) (by kernel_rfl) (by kernel_rfl) (fun _ _ _ h => h) (Or.inl ⟨by rfl, ?_⟩) (by assumption) ?_
    rotate_left
    · (intro w hSw; (try dsimp only at hSw); go_simp)
      all_goals with_reducible rfl
    try dsimp only [List.getElem_toArray, List.getElem_cons_succ, List.getElem_cons_zero]
    try simp only [Act.put, List.setIfInBounds_toArray, List.set_cons_zero, List.set_cons_succ]
    refine wpAnyH_ready (rs := [4]) (by kernel_rfl) (by simp) ?_
    refine AllReadyH.cons (o := _) rfl (fun K hK => ?_) AllReadyH.nil
    go_simp
    refine (of_any xa _ (by have h9 := HSM.out; unfold Small at h9; omega) (by have h9 := HSM.out; unfold Small at h9; omega)).mono ?_
    rintro e wr1 ⟨kr, A_1, n_1, c_1, rfl, oo⟩
    rw [← HZ.out]
    have HF := Lib.hid (show Fits xa from of_fits (by have h9 := HSM.out; unfold Small at h9; unfold BB; omega))
    have LO := Lib.hid (oo.num HF.out)
    clear oo
    have K1 : Keep (fun _ => False) wc wr1 := Keep.trans Kd kr
    clear kr 
    try dsimp only
    go_wp2_with fail
    refine hK.out _ _ (HCC.out _ K1) (fun hHeld => ?_)
    clear hK K
    try dsimp only [List.getElem_toArray, List.getElem_cons_succ, List.getElem_cons_zero]
    try simp only [Act.put, List.setIfInBounds_toArray, List.set_cons_zero, List.set_cons_succ]
    refine wpAnyH_ready (rs := [6]) (by kernel_rfl) (by simp) ?_
    refine AllReadyH.cons (o := _) rfl (fun K hK => ?_) AllReadyH.nil
    go_simp
    refine (is_z HZ.out (.inl ⟨HF.out, HZ.out, rfl, rfl⟩) LO.out ((HX.out.keep K1).b _ (.head _))).mono ?_
    rintro e wr2 ⟨rfl, kr⟩
    have K2 : Keep (fun _ => False) wc wr2 := Keep.trans K1 kr
    clear kr K1
    try dsimp only
    go_wp2_with fail
    refine hK.out _ _ (HCC.out _ K2) (fun hHeld => ?_)
    clear hK K
    refine wpAnyH_take (i := 7) (oi := _) (v := ?_) rfl (by kernel_rfl) (by kernel_rfl) (by kernel_rfl) (fun _ _ _ h => h) (Or.inl ⟨by rfl, ?_⟩) (by assumption) ?_
    rotate_left
    · (intro w hSw; (try dsimp only at hSw); go_simp)
      all_goals with_reducible rfl
    try dsimp only [List.getElem_toArray, List.getElem_cons_succ, List.getElem_cons_zero]
    try simp only [Act.put, List.setIfInBounds_toArray, List.set_cons_zero, List.set_cons_succ]
    refine wpAnyH_take (i := 8) (oi := _) (v := ?_) rfl (by kernel_rfl) (by kernel_rfl) (by kernel_rfl) (fun _ _ _ h => h) (Or.inl ⟨by rfl, ?_⟩) (by assumption) ?_
    rotate_left
    · (intro w hSw; (try dsimp only at hSw); go_simp)
      all_goals with_reducible rfl
    refine wpAnyH_take (i := 9) (oi := _) (v := ?_) rfl (by kernel_rfl) (by kernel_rfl) (by kernel_rfl) (fun _ _ _ h => h) (Or.inl ⟨by rfl, ?_⟩) (by assumption) ?_
    rotate_left
    · (intro w hSw; (try dsimp only at hSw); go_simp)
      all_goals with_reducible rfl
    try dsimp only [List.getElem_toArray, List.getElem_cons_succ, List.getElem_cons_zero]
    try simp only [Act.put, List.setIfInBounds_toArray, List.set_cons_zero, List.set_cons_succ]
    refine wpAnyH_take (i := 10) (oi := _) (v := ?_) rfl (by kernel_rfl) (by kernel_rfl) (by kernel_rfl) (fun _ _ _ h => h) (Or.inl ⟨by rfl, ?_⟩) (by assumption) ?_
    rotate_left
    · (intro w hSw; (try dsimp only at hSw); go_simp)
      all_goals with_reducible rfl
    try dsimp only [List.getElem_toArray, List.getElem_cons_succ, List.getElem_cons_zero]
    try simp only [Act.put, List.setIfInBounds_toArray, List.set_cons_zero, List.set_cons_succ]
    refine wpAnyH_ready (rs := [11]) (by kernel_rfl) (by simp) ?_
    refine AllReadyH.cons (o := _) rfl (fun K hK => ?_) AllReadyH.nil
    go_simp
    refine (same_any p1 A1 n1 c1 l1 p1 A5 n5 c5 l1 _ ((HX.out.keep K2).e.m _ (.tail _ (.head _))) ((HX.out.keep K2).e.m _ (.head _))).mono ?_
    rintro e wr3 ⟨rfl, kr⟩
    rw [same_self]
    have K3 : Keep (fun _ => False) wc wr3 := Keep.trans K2 kr
    clear kr K2
    try dsimp only
    go_wp2_with fail
    refine hK.out _ _ (HCC.out _ K3) (fun hHeld => ?_)
    clear hK K
    refine wpAnyH_take (i := 12) (oi := _) (v := ?_) rfl (by kernel_rfl) (by kernel_rfl) (by kernel_rfl) (fun _ _ _ h => h) (Or.inl ⟨by rfl, ?_⟩) (by assumption) ?_
    rotate_left
    · (intro w hSw; (try dsimp only at hSw); go_simp)
      all_goals with_reducible rfl
    try dsimp only [List.getElem_toArray, List.getElem_cons_succ, List.getElem_cons_zero]
    try simp only [Act.put, List.setIfInBounds_toArray, List.set_cons_zero, List.set_cons_succ]
    refine wpAnyH_take (i := 13) (oi := _) (v := ?_) rfl (by kernel_rfl) (by kernel_rfl) (by kernel_rfl) (fun _ _ _ h => h) (Or.inl ⟨by rfl, ?_⟩) (by assumption) ?_
    rotate_left
    · (intro w hSw; (try dsimp only at hSw); go_simp)
      all_goals with_reducible rfl
    try dsimp only [List.getElem_toArray, List.getElem_cons_succ, List.getElem_cons_zero]
    try simp only [Act.put, List.setIfInBounds_toArray, List.set_cons_zero, List.set_cons_succ]
    refine wpAnyH_ready (rs := [14]) (by kernel_rfl) (by simp) ?_
    refine AllReadyH.cons (o := _) rfl (fun K hK => ?_) AllReadyH.nil
    go_simp
    refine (awake_any _ (HT.out.keep (HX.out.keep K3).k)).mono ?_
    rintro e wr4 ⟨rfl, kr⟩
    have K4 : Keep (fun _ => False) wc wr4 := Keep.trans K3 kr
    clear kr K3
    try dsimp only
    go_wp2_with fail
    refine hK.out _ _ (HCC.out _ K4) (fun hHeld => ?_)
    clear hK K
    refine wpAnyH_take (i := 15) (oi := _) (v := ?_) rfl (by kernel_rfl) (by kernel_rfl) (by kernel_rfl) (fun _ _ _ h => h) (Or.inl ⟨by rfl, ?_⟩) (by assumption) ?_
    rotate_left
    · (intro w hSw; (try dsimp only at hSw); go_simp)
      all_goals with_reducible rfl
    try dsimp only [List.getElem_toArray, List.getElem_cons_succ, List.getElem_cons_zero]
    try simp only [Act.put, List.setIfInBounds_toArray, List.set_cons_zero, List.set_cons_succ]
    refine wpAnyH_take (i := 16) (oi := _) (v := ?_) rfl (by kernel_rfl) (by kernel_rfl) (by kernel_rfl) (fun _ _ _ h => h) (Or.inl ⟨by rfl, ?_⟩) (by assumption) ?_
    rotate_left
    · (intro w hSw; (try dsimp only at hSw); go_simp)
      all_goals with_reducible rfl
    try dsimp only [List.getElem_toArray, List.getElem_cons_succ, List.getElem_cons_zero]
    try simp only [Act.put, List.setIfInBounds_toArray, List.set_cons_zero, List.set_cons_succ]
    refine wpAnyH_done (by kernel_rfl) ?_ _
    have KK := K4
    clear K4
    have HZ9 := Lib.hid (HX.out.keep KK).k
    clear HCC
    try dsimp only
    go_wp2_with fail
    go_ret
    exact ⟨rfl, HZ9.out⟩
  · skip
    have hsm : ¬ Small xa := by have h9 := HSL.out; unfold Small; omega
    rw [if_neg hsm, decide_eq_false hsm]
    clear hsm
    have t1 : decide ((n7 : Int) ≤ 60) = false := decide_eq_false (by omega)
    have t2 : decide (n7 ≤ 60) = false := decide_eq_false (by omega)
    obtain rfl : z1 = true := by rw [HZ.out]; exact decide_eq_true (by omega)
    obtain ⟨cm, hcm⟩ : ∃ c, c = cmpI xa (sval true [0, 268435456]) := ⟨_, rfl⟩
    have hc0 : (cm == 0) = false := by
      rw [hcm, low60, beq_eq_false_iff_ne]
      unfold cmpI
      repeat' split
      all_goals omega
    have HCM := Lib.hid hcm.symm
    clear hcm
    clear hp
    obtain ⟨y0, y1, yl⟩ := HX.out.cells (.head _)
    obtain ⟨x0, x1, xl⟩ := HX.out.cells (.tail _ (.head _))
    obtain ⟨f0, f1, fl⟩ := HX.out.cells (.tail _ (.tail _ (.head _)))
    obtain ⟨r0, r1, rl⟩ := HX.out.cells (.tail _ (.tail _ (.tail _ (.head _))))
    obtain ⟨i0, i1, il⟩ := HX.out.cellsV (.head _)
    try dsimp only
    go_wp2_with fail
    clear y0 y1 yl x0 x1 xl f0 f1 fl r0 r1 rl i0 i1 il
    have KA : Keep (fun _ => False) wf (wf.alloc (.cells #[.int .u32 0, .int .u32 268435456] 63)) := (Keep.refl _ _).alloc _
    refine (cmp_any p1 A1 n1 c1 l1 true _ 2 2 [0, 268435456] _ ((HX.out.e.m _ (.tail _ (.head _))).keep0 KA) (limbs60 wf)).mono ?_
    rintro e wc ⟨rfl, kc⟩
    rw [← HV.out, HCM.out]
    have kc2 := KA.trans kc
    clear kc KA
    have HX1 := Lib.hid (HX.out.keep kc2)
    clear HX kc2
    have HX := Lib.hid HX1.out
    clear HX1
    obtain ⟨y0, y1, yl⟩ := HX.out.cells (.head _)
    obtain ⟨x0, x1, xl⟩ := HX.out.cells (.tail _ (.head _))
    obtain ⟨f0, f1, fl⟩ := HX.out.cells (.tail _ (.tail _ (.head _)))
    obtain ⟨r0, r1, rl⟩ := HX.out.cells (.tail _ (.tail _ (.tail _ (.head _))))
    obtain ⟨i0, i1, il⟩ := HX.out.cellsV (.head _)
    try dsimp only
    go_wp2_with fail
    clear y0 y1 yl x0 x1 xl f0 f1 fl r0 r1 rl i0 i1 il
    clear t1 t2 hc0
    obtain ⟨y0, y1, yl⟩ := HX.out.cells (.head _)
    obtain ⟨x0, x1, xl⟩ := HX.out.cells (.tail _ (.head _))
    obtain ⟨f0, f1, fl⟩ := HX.out.cells (.tail _ (.tail _ (.head _)))
    obtain ⟨r0, r1, rl⟩ := HX.out.cells (.tail _ (.tail _ (.tail _ (.head _))))
    obtain ⟨i0, i1, il⟩ := HX.out.cellsV (.head _)
    have Kd : Keep (fun _ => False) wc wc.drew := (Keep.refl _ _).drew
    have HCC := Lib.hid (fun (w' : World) (K' : Keep (fun _ => False) wc w') => (show w'.cell? ⟨B0, 0, none⟩ = some (.bool p1) ∧ w'.cell? ⟨B0, 1, none⟩ = some (.slice A1 n1 c1) ∧ w'.cell? ⟨B5, 0, none⟩ = some (.bool p1) ∧ w'.cell? ⟨B5, 1, none⟩ = some (.slice A5 n5 c5) ∧ w'.cell? ⟨B7, 0, none⟩ = some (.bool true) ∧ w'.cell? ⟨B7, 1, none⟩ = some (.slice A7 n7 c7) from by
      obtain ⟨ra, rb, _⟩ := (HX.out.keep K').cells (.tail _ (.tail _ (.tail _ (.head _))))
      obtain ⟨fa, fb, _⟩ := (HX.out.keep K').cells (.tail _ (.tail _ (.head _)))
      obtain ⟨ia, ib, _⟩ := (HX.out.keep K').cellsV (.head _)
      exact ⟨ra, rb, fa, fb, ia, ib⟩))
    clear y0 y1 yl x0 x1 xl f0 f1 fl r0 r1 rl i0 i1 il
    refine wp_region_held_drew (S := fun w' => w'.cell? ⟨B0, 0, none⟩ = some (.bool p1) ∧ w'.cell? ⟨B0, 1, none⟩ = some (.slice A1 n1 c1) ∧ w'.cell? ⟨B5, 0, none⟩ = some (.bool p1) ∧ w'.cell? ⟨B5, 1, none⟩ = some (.slice A5 n5 c5) ∧ w'.cell? ⟨B7, 0, none⟩ = some (.bool true) ∧ w'.cell? ⟨B7, 1, none⟩ = some (.slice A7 n7 c7)) (by kernel_rfl) (HCC.out _ Kd) (fun hHeld => ?_)
    refine wpAnyH_take (i := 0) (oi := _) (v := ?_) rfl (by kernel_rfl) (by kernel_rfl) (by kernel_rfl) (fun _ _ _ h => h) (Or.inl ⟨by rfl, ?_⟩) (by assumption) ?_
    rotate_left
    · (intro w hSw; (try dsimp only at hSw); go_simp)
      all_goals with_reducible rfl
    refine wpAnyH_take (i := 1) (oi := _) (v := ?_) rfl (by kernel_rfl) (by kernel_rfl) (by kernel_rfl) (fun _ _ _ h => h) (Or.inl ⟨by rfl, ?_⟩) (by assumption) ?_
    rotate_left
    · (intro w hSw; (try dsimp only at hSw); go_simp)
      all_goals with_reducible rfl
    try dsimp only [List.getElem_toArray, List.getElem_cons_succ, List.getElem_cons_zero]
    try simp only [Act.put, List.setIfInBounds_toArray, List.set_cons_zero, List.set_cons_succ]
    refine wpAnyH_take (i := 2) (oi := _) (v := ?_) rfl (by kernel_rfl) (by kernel_rfl) (by kernel_rfl) (fun _ _ _ h => h) (Or.inl ⟨by rfl, ?_⟩) (by assumption) ?_
    rotate_left
    · (intro w hSw; (try dsimp only at hSw); go_simp)
      all_goals with_reducible rfl
    try dsimp only [List.getElem_toArray, List.getElem_cons_succ, List.getElem_cons_zero]
    try simp only [Act.put, List.setIfInBounds_toArray, List.set_cons_zero, List.set_cons_succ]
    refine wpAnyH_take (i := 3) (oi := _) (v := undef) rfl (by kernel_rfl) (by kernel_rfl) (by kernel_rfl) (fun _ _ _ h => h) (Or.inr ⟨by rfl, rfl⟩) (by assumption) ?_
    refine wpAnyH_take (i := 4) (oi := _) (v := undef) rfl (by kernel_rfl) (by kernel_rfl) (by kernel_rfl) (fun _ _ _ h => h) (Or.inr ⟨by rfl, rfl⟩) (by assumption) ?_
    refine wpAnyH_take (i := 5) (oi := _) (v := undef) rfl (by kernel_rfl) (by kernel_rfl) (by kernel_rfl) (fun _ _ _ h => h) (Or.inr ⟨by rfl, rfl⟩) (by assumption) ?_
    refine wpAnyH_take (i := 6) (oi := _) (v := undef) rfl (by kernel_rfl) (by kernel_rfl) (by kernel_rfl) (fun _ _ _ h => h) (Or.inr ⟨by rfl, rfl⟩) (by assumption) ?_
    try dsimp only [List.getElem_toArray, List.getElem_cons_succ, List.getElem_cons_zero]
    try simp only [Act.put, List.setIfInBounds_toArray, List.set_cons_zero, List.set_cons_succ]
    refine wpAnyH_take (i := 7) (oi := _) (v := ?_) rfl (by kernel_rfl) (by kernel_rfl) (by kernel_rfl) (fun _ _ _ h => h) (Or.inl ⟨by rfl, ?_⟩) (by assumption) ?_
    rotate_left
    · (intro w hSw; (try dsimp only at hSw); go_simp)
      all_goals with_reducible rfl
    refine wpAnyH_take (i := 8) (oi := _) (v := ?_) rfl (by kernel_rfl) (by kernel_rfl) (by kernel_rfl) (fun _ _ _ h => h) (Or.inl ⟨by rfl, ?_⟩) (by assumption) ?_
    rotate_left
    · (intro w hSw; (try dsimp only at hSw); go_simp)
      all_goals with_reducible rfl
    try dsimp only [List.getElem_toArray, List.getElem_cons_succ, List.getElem_cons_zero]
    try simp only [Act.put, List.setIfInBounds_toArray, List.set_cons_zero, List.set_cons_succ]
    refine wpAnyH_take (i := 9) (oi := _) (v := ?_) rfl (by kernel_rfl) (by kernel_rfl) (by kernel_rfl) (fun _ _ _ h => h) (Or.inl ⟨by rfl, ?_⟩) (by assumption) ?_
    rotate_left
    · (intro w hSw; (try dsimp only at hSw); go_simp)
      all_goals with_reducible rfl
    refine wpAnyH_take (i := 10) (oi := _) (v := ?_) rfl (by kernel_rfl) (by kernel_rfl) (by kernel_rfl) (fun _ _ _ h => h) (Or.inl ⟨by rfl, ?_⟩) (by assumption) ?_
    rotate_left
    · (intro w hSw; (try dsimp only at hSw); go_simp)
      all_goals with_reducible rfl
    try dsimp only [List.getElem_toArray, List.getElem_cons_succ, List.getElem_cons_zero]
    try simp only [Act.put, List.setIfInBounds_toArray, List.set_cons_zero, List.set_cons_succ]
    refine wpAnyH_ready (rs := [11]) (by kernel_rfl) (by simp) ?_
    refine AllReadyH.cons (o := _) rfl (fun K hK => ?_) AllReadyH.nil
    go_simp
    refine (same_any p1 A1 n1 c1 l1 p1 A5 n5 c5 l1 _ ((HX.out.keep Kd).e.m _ (.tail _ (.head _))) ((HX.out.keep Kd).e.m _ (.head _))).mono ?_
    rintro e wr1 ⟨rfl, kr⟩
    rw [same_self]
    have K1 : Keep (fun _ => False) wc wr1 := Keep.trans Kd kr
    clear kr 
    try dsimp only
    go_wp2_with fail
    refine hK.out _ _ (HCC.out _ K1) (fun hHeld => ?_)
    clear hK K
    try dsimp only [List.getElem_toArray, List.getElem_cons_succ, List.getElem_cons_zero]
    try simp only [Act.put, List.setIfInBounds_toArray, List.set_cons_zero, List.set_cons_succ]
    refine wpAnyH_take (i := 12) (oi := _) (v := ?_) rfl (by kernel_rfl) (by kernel_rfl) (by kernel_rfl) (fun _ _ _ h => h) (Or.inl ⟨by rfl, ?_⟩) (by assumption) ?_
    rotate_left
    · (intro w hSw; (try dsimp only at hSw); go_simp)
      all_goals with_reducible rfl
    refine wpAnyH_take (i := 13) (oi := _) (v := ?_) rfl (by kernel_rfl) (by kernel_rfl) (by kernel_rfl) (fun _ _ _ h => h) (Or.inl ⟨by rfl, ?_⟩) (by assumption) ?_
    rotate_left
    · (intro w hSw; (try dsimp only at hSw); go_simp)
      all_goals with_reducible rfl
    try dsimp only [List.getElem_toArray, List.getElem_cons_succ, List.getElem_cons_zero]
    try simp only [Act.put, List.setIfInBounds_toArray, List.set_cons_zero, List.set_cons_succ]
    refine wpAnyH_ready (rs := [14]) (by kernel_rfl) (by simp) ?_
    refine AllReadyH.cons (o := _) rfl (fun K hK => ?_) AllReadyH.nil
    go_simp
    refine (awake_any _ (HT.out.keep (HX.out.keep K1).k)).mono ?_
    rintro e wr2 ⟨rfl, kr⟩
    have K2 : Keep (fun _ => False) wc wr2 := Keep.trans K1 kr
    clear kr K1
    try dsimp only
    go_wp2_with fail
    refine hK.out _ _ (HCC.out _ K2) (fun hHeld => ?_)
    clear hK K
    try dsimp only [List.getElem_toArray, List.getElem_cons_succ, List.getElem_cons_zero]
    try simp only [Act.put, List.setIfInBounds_toArray, List.set_cons_zero, List.set_cons_succ]
    refine wpAnyH_take (i := 15) (oi := _) (v := ?_) rfl (by kernel_rfl) (by kernel_rfl) (by kernel_rfl) (fun _ _ _ h => h) (Or.inl ⟨by rfl, ?_⟩) (by assumption) ?_
    rotate_left
    · (intro w hSw; (try dsimp only at hSw); go_simp)
      all_goals with_reducible rfl
    refine wpAnyH_take (i := 16) (oi := _) (v := ?_) rfl (by kernel_rfl) (by kernel_rfl) (by kernel_rfl) (fun _ _ _ h => h) (Or.inl ⟨by rfl, ?_⟩) (by assumption) ?_
    rotate_left
    · (intro w hSw; (try dsimp only at hSw); go_simp)
      all_goals with_reducible rfl
    try dsimp only [List.getElem_toArray, List.getElem_cons_succ, List.getElem_cons_zero]
    try simp only [Act.put, List.setIfInBounds_toArray, List.set_cons_zero, List.set_cons_succ]
    refine wpAnyH_done (by kernel_rfl) ?_ _
    have KK := K2
    clear K2
    have HZ9 := Lib.hid (HX.out.keep KK).k
    clear HCC
    try dsimp only
    go_wp2_with fail
    go_ret
    exact ⟨rfl, HZ9.out⟩
end Go.Proofs.YtdfekphahdmffaaDoor
