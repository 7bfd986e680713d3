/-
  The law NumParts: its walk.
-/
import Derived.Test.YtdfekphahdmffaaDoorGcdL
import Derived.Test.YtdfekphahdmffaaDoorNuQuo
namespace Go.Proofs.YtdfekphahdmffaaDoor
open Go.RowKit

set_option maxRecDepth 100000 in
set_option maxHeartbeats 4000000 in
theorem parts_long1 (p1 : Bool) (A1 : Option Addr) (n1 c1 : Nat) (p2 : Bool) (A2 : Option Addr) (n2 c2 : Nat) (w : World) (ht : PowTab w) (h1 : 24 < n1) :
    Calls Tryd.prog 12 #[numArg p1 A1 n1 c1, numArg p2 A2 n2 c2] w (BoolPost true w) := by
  have i1 : (24 : Int) < (n1 : Int) := by omega
  have X0 := env2 w (.bool p1) (.slice A1 n1 c1) (.bool p2) (.slice A2 n2 c2)
  have HT := Lib.hid ht
  clear ht
  go_enter Tryd.func12, Tryd.ntmps12
  go_wp2_with fail
  have hw1 : ((w.alloc (.cells #[.bool p1, .slice A1 n1 c1] 25)).alloc (.cells #[.bool p2, .slice A2 n2 c2] 25)).heap.size = w.heap.size + 1 + 1 := by simp only [World.size_alloc]
  generalize hB0 : w.heap.size = B0 at X0 hw1 ⊢
  have HSZ := Lib.hid (Nat.le_of_eq hB0)
  clear hB0
  generalize (w.alloc (.cells #[.bool p1, .slice A1 n1 c1] 25)).alloc (.cells #[.bool p2, .slice A2 n2 c2] 25) = w1 at X0 hw1 ⊢
  have HX := Lib.hid X0
  have HW1 := Lib.hid hw1
  clear X0 hw1
  refine (awake_any _ (HT.out.keep HX.out.k)).mono ?_
  rintro e wz ⟨rfl, kz⟩
  have HZ := Lib.hid (HX.out.k.trans kz)
  clear kz
  try dsimp only
  go_wp2_with fail
  go_ret
  exact ⟨rfl, HZ.out⟩
set_option maxRecDepth 100000 in
set_option maxHeartbeats 4000000 in
theorem parts_long2 (p1 : Bool) (A1 : Option Addr) (n1 c1 : Nat) (p2 : Bool) (A2 : Option Addr) (n2 c2 : Nat) (w : World) (ht : PowTab w) (h1 : ¬ 24 < n1) (h2 : 24 < n2) :
    Calls Tryd.prog 12 #[numArg p1 A1 n1 c1, numArg p2 A2 n2 c2] w (BoolPost true w) := by
  have i1 : decide ((24 : Int) < (n1 : Int)) = false := decide_eq_false (by omega)
  have i2 : (24 : Int) < (n2 : Int) := by omega
  have X0 := env2 w (.bool p1) (.slice A1 n1 c1) (.bool p2) (.slice A2 n2 c2)
  have HT := Lib.hid ht
  clear ht
  go_enter Tryd.func12, Tryd.ntmps12
  go_wp2_with fail
  have hw1 : ((w.alloc (.cells #[.bool p1, .slice A1 n1 c1] 25)).alloc (.cells #[.bool p2, .slice A2 n2 c2] 25)).heap.size = w.heap.size + 1 + 1 := by simp only [World.size_alloc]
  generalize hB0 : w.heap.size = B0 at X0 hw1 ⊢
  have HSZ := Lib.hid (Nat.le_of_eq hB0)
  clear hB0
  generalize (w.alloc (.cells #[.bool p1, .slice A1 n1 c1] 25)).alloc (.cells #[.bool p2, .slice A2 n2 c2] 25) = w1 at X0 hw1 ⊢
  have HX := Lib.hid X0
  have HW1 := Lib.hid hw1
  clear X0 hw1
  refine (awake_any _ (HT.out.keep HX.out.k)).mono ?_
  rintro e wz ⟨rfl, kz⟩
  have HZ := Lib.hid (HX.out.k.trans kz)
  clear kz
  try dsimp only
  go_wp2_with fail
  go_ret
  exact ⟨rfl, HZ.out⟩
set_option maxRecDepth 100000 in
set_option maxHeartbeats 16000000 in
theorem parts_zero (p1 : Bool) (A1 : Option Addr) (n1 c1 : Nat) (p2 : Bool) (A2 : Option Addr) (n2 c2 : Nat) (l1 l2 : List Nat) (w : World) (ht : PowTab w) (h1 : ¬ 24 < n1) (h2 : ¬ 24 < n2) (L1 : LimbsAt w A1 n1 c1 l1) (L2 : LimbsAt w A2 n2 c2 l2) (ha : sval p1 l1 = 0) (hb : sval p2 l2 = 0) :
    Calls Tryd.prog 12 #[numArg p1 A1 n1 c1, numArg p2 A2 n2 c2] w (BoolPost true w) := by
  have i1 : decide ((24 : Int) < (n1 : Int)) = false := decide_eq_false (by omega)
  have i2 : decide ((24 : Int) < (n2 : Int)) = false := decide_eq_false (by omega)
  have hfa : lval l1 < BB ^ 24 := by have := val_lt L1.low; rw [L1.len] at this; exact Nat.lt_of_lt_of_le this (Nat.pow_le_pow_right (by unfold BB; omega) (by omega))
  have hfb : lval l2 < BB ^ 24 := by have := val_lt L2.low; rw [L2.len] at this; exact Nat.lt_of_lt_of_le this (Nat.pow_le_pow_right (by unfold BB; omega) (by omega))
  obtain ⟨xa, hxa⟩ : ∃ x, x = sval p1 l1 := ⟨_, rfl⟩
  obtain ⟨xb, hxb⟩ : ∃ x, x = sval p2 l2 := ⟨_, rfl⟩
  obtain ⟨gg, hgg⟩ : ∃ G, G = Nat.gcd (lval l1) (lval l2) := ⟨_, rfl⟩
  have hg2 : gg = Nat.gcd xa.natAbs xb.natAbs := by rw [hgg, hxa, hxb, sval_abs, sval_abs]
  rw [← hxa] at ha
  rw [← hxb] at hb
  have h48 : BB ^ 24 ≤ BB ^ 48 := Nat.pow_le_pow_right (by unfold BB; omega) (by omega)
  have HFG := Lib.hid (show Fits (gg : Int) from (Fits_iff _).2 (by rw [Int.natAbs_natCast, hg2]; exact Nat.lt_of_lt_of_le (gcd_le (by rw [hxa, sval_abs]; exact hfa) (by rw [hxb, sval_abs]; exact hfb)) h48))
  have HFA := Lib.hid (show Fits xa from (Fits_iff _).2 (by rw [hxa, sval_abs]; exact Nat.lt_of_lt_of_le hfa h48))
  have HFB := Lib.hid (show Fits xb from (Fits_iff _).2 (by rw [hxb, sval_abs]; exact Nat.lt_of_lt_of_le hfb h48))
  have HV := Lib.hid (And.intro hxa (And.intro hxb hgg))
  have hg0 : gg = 0 := by rw [hg2, ha, hb]; rfl
  have HSG := Lib.hid (show signI (gg : Int) = 0 from by rw [hg0]; rfl)
  have HSA := Lib.hid (show signI (sval p1 l1) = 0 from by rw [← hxa, ha]; rfl)
  have HSB := Lib.hid (show signI (sval p2 l2) = 0 from by rw [← hxb, hb]; rfl)
  clear hg0 ha hb
  have HL := Lib.hid (And.intro L1 L2)
  clear L1 L2 hfa hfb hg2 h48 hxa hxb hgg
  have X0 := env2 w (.bool p1) (.slice A1 n1 c1) (.bool p2) (.slice A2 n2 c2)
  have HT := Lib.hid ht
  clear ht
  go_enter Tryd.func12, Tryd.ntmps12
  go_wp2_with fail
  have hw1 : ((w.alloc (.cells #[.bool p1, .slice A1 n1 c1] 25)).alloc (.cells #[.bool p2, .slice A2 n2 c2] 25)).heap.size = w.heap.size + 1 + 1 := by simp only [World.size_alloc]
  generalize hB0 : w.heap.size = B0 at X0 hw1 ⊢
  have HSZ := Lib.hid (Nat.le_of_eq hB0)
  clear hB0
  generalize (w.alloc (.cells #[.bool p1, .slice A1 n1 c1] 25)).alloc (.cells #[.bool p2, .slice A2 n2 c2] 25) = w1 at X0 hw1 ⊢
  have HX := Lib.hid X0
  have HW1 := Lib.hid hw1
  clear X0 hw1
  have HX1 := Lib.hid ((HX.out.num (HL.out.1.keep0 HX.out.k)).num (HL.out.2.keep0 HX.out.k))
  clear HX
  have HX := Lib.hid HX1.out
  clear HX1
  refine (gcd2_any p1 A1 n1 c1 l1 p2 A2 n2 c2 l2 _ (HX.out.m _ (.tail _ (.head _))) (HX.out.m _ (.head _)) (by omega) (by omega) _ HW1.out.symm).mono ?_
  intro e w_g hres
  rw [← HV.out.2.2] at hres
  obtain ⟨k_g, q_g, A_g, n_g, c_g, l_g, f_g, rfl, LM, ln_g, ho⟩ := hres.gen
  have HO_g := Lib.hid ho
  clear ho hres
  have HX1 := Lib.hid ((HX.out.list _).keep k_g)
  clear HX k_g
  have HX := Lib.hid HX1.out
  clear HX1
  have HX1 := Lib.hid (HX.out.num LM)
  clear HX LM
  have HX := Lib.hid HX1.out
  clear HX1
  obtain rfl := HO_g.out.ok HFG.out
  have V_g := Lib.hid HO_g.out.val
  obtain ⟨s0, s1, sl⟩ := HX.out.cells (.head _)
  obtain ⟨r0, r1, rl⟩ := HX.out.cells (.tail _ (.head _))
  try dsimp only
  go_wp2_with fail
  clear s0 s1 sl r0 r1 rl
  have HX1 := Lib.hid (HX.out.box (.bool q_g) (.slice A_g n_g c_g))
  clear HX
  have HX := Lib.hid HX1.out
  clear HX1
  generalize hw5 : w_g.alloc (.cells #[.bool q_g, .slice A_g n_g c_g] 25) = w5 at HX ⊢
  clear hw5
  generalize w_g.heap.size = Bg at HX ⊢
  obtain ⟨g0, g1, gl⟩ := HX.out.cells (.head _)
  obtain ⟨s0, s1, sl⟩ := HX.out.cells (.tail _ (.head _))
  obtain ⟨r0, r1, rl⟩ := HX.out.cells (.tail _ (.tail _ (.head _)))
  have Kd : Keep (fun _ => False) w5 w5.drew := (Keep.refl _ _).drew
  have HCC := Lib.hid (fun (w' : World) (K' : Keep (fun _ => False) w5 w') => (show w'.cell? ⟨B0, 0, none⟩ = some (.bool p1) ∧ w'.cell? ⟨B0, 1, none⟩ = some (.slice A1 n1 c1) ∧ w'.cell? ⟨B0 + 1, 0, none⟩ = some (.bool p2) ∧ w'.cell? ⟨B0 + 1, 1, none⟩ = some (.slice A2 n2 c2) ∧ w'.cell? ⟨Bg, 0, none⟩ = some (.bool q_g) ∧ w'.cell? ⟨Bg, 1, none⟩ = some (.slice A_g n_g c_g) from by
    obtain ⟨ra, rb, _⟩ := (HX.out.keep K').cells (.tail _ (.tail _ (.head _)))
    obtain ⟨sa, sb, _⟩ := (HX.out.keep K').cells (.tail _ (.head _))
    obtain ⟨ga, gb, _⟩ := (HX.out.keep K').cells (.head _)
    exact ⟨ra, rb, sa, sb, ga, gb⟩))
  clear g0 g1 gl s0 s1 sl r0 r1 rl
  refine wp_region_held_drew (S := fun w' => w'.cell? ⟨B0, 0, none⟩ = some (.bool p1) ∧ w'.cell? ⟨B0, 1, none⟩ = some (.slice A1 n1 c1) ∧ w'.cell? ⟨B0 + 1, 0, none⟩ = some (.bool p2) ∧ w'.cell? ⟨B0 + 1, 1, none⟩ = some (.slice A2 n2 c2) ∧ w'.cell? ⟨Bg, 0, none⟩ = some (.bool q_g) ∧ w'.cell? ⟨Bg, 1, none⟩ = some (.slice A_g n_g c_g)) (by kernel_rfl) (HCC.out _ Kd) (fun hHeld => ?_)
  refine wpAnyH_take (i := 0) (oi := _) (v := ?_) rfl (by kernel_rfl) (by kernel_rfl) (by kernel_rfl) (fun _ _ _ h => h) (Or.inl ⟨by rfl, ?_⟩) (by assumption) ?_
  rotate_left
  · (intro w hSw; (try dsimp only at hSw); go_simp)
    all_goals with_reducible rfl
  refine wpAnyH_take (i := 1) (oi := _) (v := ?_) rfl (by kernel_rfl) (by kernel_rfl) (by kernel_rfl) (fun _ _ _ h => h) (Or.inl ⟨by rfl, ?_⟩) (by assumption) ?_
  rotate_left
  · (intro w hSw; (try dsimp only at hSw); go_simp)
    all_goals with_reducible rfl
  try dsimp only [List.getElem_toArray, List.getElem_cons_succ, List.getElem_cons_zero]
  try simp only [Act.put, List.setIfInBounds_toArray, List.set_cons_zero, List.set_cons_succ]
  refine wpAnyH_take (i := 2) (oi := _) (v := ?_) rfl (by kernel_rfl) (by kernel_rfl) (by kernel_rfl) (fun _ _ _ h => h) (Or.inl ⟨by rfl, ?_⟩) (by assumption) ?_
  rotate_left
  · (intro w hSw; (try dsimp only at hSw); go_simp)
    all_goals with_reducible rfl
  refine wpAnyH_take (i := 3) (oi := _) (v := ?_) rfl (by kernel_rfl) (by kernel_rfl) (by kernel_rfl) (fun _ _ _ h => h) (Or.inl ⟨by rfl, ?_⟩) (by assumption) ?_
  rotate_left
  · (intro w hSw; (try dsimp only at hSw); go_simp)
    all_goals with_reducible rfl
  try dsimp only [List.getElem_toArray, List.getElem_cons_succ, List.getElem_cons_zero]
  try simp only [Act.put, List.setIfInBounds_toArray, List.set_cons_zero, List.set_cons_succ]
  refine wpAnyH_ready (rs := [4]) (by kernel_rfl) (by simp) ?_
  refine AllReadyH.cons (o := _) rfl (fun K hK => ?_) AllReadyH.nil
  go_simp
  refine (sign_any q_g A_g n_g c_g l_g _ ((HX.out.keep Kd).m _ (.head _))).mono ?_
  rintro e wr1 ⟨rfl, kr⟩
  rw [V_g.out, HSG.out]
  have K1 : Keep (fun _ => False) w5 wr1 := Keep.trans Kd kr
  clear kr 
  try dsimp only
  go_wp2_with fail
  refine hK.out _ _ (HCC.out _ K1) (fun hHeld => ?_)
  clear hK K
  try dsimp only [List.getElem_toArray, List.getElem_cons_succ, List.getElem_cons_zero]
  try simp only [Act.put, List.setIfInBounds_toArray, List.set_cons_zero, List.set_cons_succ]
  refine wpAnyH_take (i := 5) (oi := _) (v := ?_) rfl (by kernel_rfl) (by kernel_rfl) (by kernel_rfl) (fun _ _ _ h => h) (Or.inl ⟨by rfl, ?_⟩) (by assumption) ?_
  rotate_left
  · (intro w hSw; (try dsimp only at hSw); go_simp)
    all_goals with_reducible rfl
  refine wpAnyH_take (i := 6) (oi := _) (v := ?_) rfl (by kernel_rfl) (by kernel_rfl) (by kernel_rfl) (fun _ _ _ h => h) (Or.inl ⟨by rfl, ?_⟩) (by assumption) ?_
  rotate_left
  · (intro w hSw; (try dsimp only at hSw); go_simp)
    all_goals with_reducible rfl
  try dsimp only [List.getElem_toArray, List.getElem_cons_succ, List.getElem_cons_zero]
  try simp only [Act.put, List.setIfInBounds_toArray, List.set_cons_zero, List.set_cons_succ]
  refine wpAnyH_take (i := 7) (oi := _) (v := ?_) rfl (by kernel_rfl) (by kernel_rfl) (by kernel_rfl) (fun _ _ _ h => h) (Or.inl ⟨by rfl, ?_⟩) (by assumption) ?_
  rotate_left
  · (intro w hSw; (try dsimp only at hSw); go_simp)
    all_goals with_reducible rfl
  refine wpAnyH_take (i := 8) (oi := _) (v := ?_) rfl (by kernel_rfl) (by kernel_rfl) (by kernel_rfl) (fun _ _ _ h => h) (Or.inl ⟨by rfl, ?_⟩) (by assumption) ?_
  rotate_left
  · (intro w hSw; (try dsimp only at hSw); go_simp)
    all_goals with_reducible rfl
  try dsimp only [List.getElem_toArray, List.getElem_cons_succ, List.getElem_cons_zero]
  try simp only [Act.put, List.setIfInBounds_toArray, List.set_cons_zero, List.set_cons_succ]
  refine wpAnyH_take (i := 11) (oi := _) (v := ?_) rfl (by kernel_rfl) (by kernel_rfl) (by kernel_rfl) (fun _ _ _ h => h) (Or.inl ⟨by rfl, ?_⟩) (by assumption) ?_
  rotate_left
  · (intro w hSw; (try dsimp only at hSw); go_simp)
    all_goals with_reducible rfl
  try dsimp only [List.getElem_toArray, List.getElem_cons_succ, List.getElem_cons_zero]
  try simp only [Act.put, List.setIfInBounds_toArray, List.set_cons_zero, List.set_cons_succ]
  refine wpAnyH_ready (rs := [9]) (by kernel_rfl) (by simp) ?_
  refine AllReadyH.cons (o := _) rfl (fun K hK => ?_) AllReadyH.nil
  go_simp
  refine (sign_any q_g A_g n_g c_g l_g _ ((HX.out.keep K1).m _ (.head _))).mono ?_
  rintro e wr2 ⟨rfl, kr⟩
  rw [V_g.out, HSG.out]
  have K2 : Keep (fun _ => False) w5 wr2 := Keep.trans K1 kr
  clear kr K1
  try dsimp only
  go_wp2_with fail
  refine hK.out _ _ (HCC.out _ K2) (fun hHeld => ?_)
  clear hK K
  refine wpAnyH_take (i := 10) (oi := _) (v := ?_) rfl (by kernel_rfl) (by kernel_rfl) (by kernel_rfl) (fun _ _ _ h => h) (Or.inl ⟨by rfl, ?_⟩) (by assumption) ?_
  rotate_left
  · (intro w hSw; (try dsimp only at hSw); go_simp)
    all_goals with_reducible rfl
  try dsimp only [List.getElem_toArray, List.getElem_cons_succ, List.getElem_cons_zero]
  try simp only [Act.put, List.setIfInBounds_toArray, List.set_cons_zero, List.set_cons_succ]
  refine wpAnyH_ready (rs := [12]) (by kernel_rfl) (by simp) ?_
  refine AllReadyH.cons (o := _) rfl (fun K hK => ?_) AllReadyH.nil
  go_simp
  refine (sign_any p1 A1 n1 c1 l1 _ ((HX.out.keep K2).m _ (.tail _ (.tail _ (.head _))))).mono ?_
  rintro e wr3 ⟨rfl, kr⟩
  rw [HSA.out]
  have K3 : Keep (fun _ => False) w5 wr3 := Keep.trans K2 kr
  clear kr K2
  try dsimp only
  go_wp2_with fail
  refine hK.out _ _ (HCC.out _ K3) (fun hHeld => ?_)
  clear hK K
  try dsimp only [List.getElem_toArray, List.getElem_cons_succ, List.getElem_cons_zero]
  try simp only [Act.put, List.setIfInBounds_toArray, List.set_cons_zero, List.set_cons_succ]
  refine wpAnyH_take (i := 13) (oi := _) (v := ?_) rfl (by kernel_rfl) (by kernel_rfl) (by kernel_rfl) (fun _ _ _ h => h) (Or.inl ⟨by rfl, ?_⟩) (by assumption) ?_
  rotate_left
  · (intro w hSw; (try dsimp only at hSw); go_simp)
    all_goals with_reducible rfl
  refine wpAnyH_take (i := 14) (oi := _) (v := ?_) rfl (by kernel_rfl) (by kernel_rfl) (by kernel_rfl) (fun _ _ _ h => h) (Or.inl ⟨by rfl, ?_⟩) (by assumption) ?_
  rotate_left
  · (intro w hSw; (try dsimp only at hSw); go_simp)
    all_goals with_reducible rfl
  try dsimp only [List.getElem_toArray, List.getElem_cons_succ, List.getElem_cons_zero]
  try simp only [Act.put, List.setIfInBounds_toArray, List.set_cons_zero, List.set_cons_succ]
  refine wpAnyH_take (i := 15) (oi := _) (v := ?_) rfl (by kernel_rfl) (by kernel_rfl) (by kernel_rfl) (fun _ _ _ h => h) (Or.inl ⟨by rfl, ?_⟩) (by assumption) ?_
  rotate_left
  · (intro w hSw; (try dsimp only at hSw); go_simp)
    all_goals with_reducible rfl
  try dsimp only [List.getElem_toArray, List.getElem_cons_succ, List.getElem_cons_zero]
  try simp only [Act.put, List.setIfInBounds_toArray, List.set_cons_zero, List.set_cons_succ]
  refine wpAnyH_ready (rs := [16]) (by kernel_rfl) (by simp) ?_
  refine AllReadyH.cons (o := _) rfl (fun K hK => ?_) AllReadyH.nil
  go_simp
  refine (sign_any p2 A2 n2 c2 l2 _ ((HX.out.keep K3).m _ (.tail _ (.head _)))).mono ?_
  rintro e wr4 ⟨rfl, kr⟩
  rw [HSB.out]
  have K4 : Keep (fun _ => False) w5 wr4 := Keep.trans K3 kr
  clear kr K3
  try dsimp only
  go_wp2_with fail
  refine hK.out _ _ (HCC.out _ K4) (fun hHeld => ?_)
  clear hK K
  refine wpAnyH_take (i := 17) (oi := _) (v := ?_) rfl (by kernel_rfl) (by kernel_rfl) (by kernel_rfl) (fun _ _ _ h => h) (Or.inl ⟨by rfl, ?_⟩) (by assumption) ?_
  rotate_left
  · (intro w hSw; (try dsimp only at hSw); go_simp)
    all_goals with_reducible rfl
  try dsimp only [List.getElem_toArray, List.getElem_cons_succ, List.getElem_cons_zero]
  try simp only [Act.put, List.setIfInBounds_toArray, List.set_cons_zero, List.set_cons_succ]
  refine wpAnyH_take (i := 18) (oi := _) (v := ?_) rfl (by kernel_rfl) (by kernel_rfl) (by kernel_rfl) (fun _ _ _ h => h) (Or.inl ⟨by rfl, ?_⟩) (by assumption) ?_
  rotate_left
  · (intro w hSw; (try dsimp only at hSw); go_simp)
    all_goals with_reducible rfl
  refine wpAnyH_take (i := 19) (oi := _) (v := ?_) rfl (by kernel_rfl) (by kernel_rfl) (by kernel_rfl) (fun _ _ _ h => h) (Or.inl ⟨by rfl, ?_⟩) (by assumption) ?_
  rotate_left
  · (intro w hSw; (try dsimp only at hSw); go_simp)
    all_goals with_reducible rfl
  try dsimp only [List.getElem_toArray, List.getElem_cons_succ, List.getElem_cons_zero]
  try simp only [Act.put, List.setIfInBounds_toArray, List.set_cons_zero, List.set_cons_succ]
  refine wpAnyH_take (i := 20) (oi := _) (v := ?_) rfl (by kernel_rfl) (by kernel_rfl) (by kernel_rfl) (fun _ _ _ h => h) (Or.inl ⟨by rfl, ?_⟩) (by assumption) ?_
  rotate_left
  · (intro w hSw; (try dsimp only at hSw); go_simp)
    all_goals with_reducible rfl
  try dsimp only [List.getElem_toArray, List.getElem_cons_succ, List.getElem_cons_zero]
  try simp only [Act.put, List.setIfInBounds_toArray, List.set_cons_zero, List.set_cons_succ]
  refine wpAnyH_done (by kernel_rfl) ?_ _
  have KK := K4
  clear K4
  have HX1 := Lib.hid (HX.out.keep KK)
  clear HX
  have HX := Lib.hid HX1.out
  clear HX1
  clear HCC KK
  obtain ⟨g0, g1, gl⟩ := HX.out.cells (.head _)
  obtain ⟨s0, s1, sl⟩ := HX.out.cells (.tail _ (.head _))
  obtain ⟨r0, r1, rl⟩ := HX.out.cells (.tail _ (.tail _ (.head _)))
  try dsimp only
  go_wp2_with fail
  clear g0 g1 gl s0 s1 sl r0 r1 rl
  refine (sign_any q_g A_g n_g c_g l_g _ (HX.out.m _ (.head _))).mono ?_
  rintro e wi ⟨rfl, ki⟩
  rw [V_g.out, HSG.out]
  have HX1 := Lib.hid (HX.out.keep ki)
  clear HX ki
  have HX := Lib.hid HX1.out
  clear HX1
  obtain ⟨g0, g1, gl⟩ := HX.out.cells (.head _)
  obtain ⟨s0, s1, sl⟩ := HX.out.cells (.tail _ (.head _))
  obtain ⟨r0, r1, rl⟩ := HX.out.cells (.tail _ (.tail _ (.head _)))
  try dsimp only
  go_wp2_with fail
  clear g0 g1 gl s0 s1 sl r0 r1 rl
  refine (awake_any _ (HT.out.keep HX.out.k)).mono ?_
  rintro e wz ⟨rfl, kz⟩
  have HZ := Lib.hid (HX.out.k.trans kz)
  clear kz
  try dsimp only
  go_wp2_with fail
  go_ret
  exact ⟨rfl, HZ.out⟩
set_option maxRecDepth 100000 in
set_option maxHeartbeats 16000000 in
theorem parts_left (p1 : Bool) (A1 : Option Addr) (n1 c1 : Nat) (p2 : Bool) (A2 : Option Addr) (n2 c2 : Nat) (l1 l2 : List Nat) (w : World) (ht : PowTab w) (h1 : ¬ 24 < n1) (h2 : ¬ 24 < n2) (L1 : LimbsAt w A1 n1 c1 l1) (L2 : LimbsAt w A2 n2 c2 l2) (ha : sval p1 l1 ≠ 0) :
    Calls Tryd.prog 12 #[numArg p1 A1 n1 c1, numArg p2 A2 n2 c2] w (BoolPost true w) := by
  have i1 : decide ((24 : Int) < (n1 : Int)) = false := decide_eq_false (by omega)
  have i2 : decide ((24 : Int) < (n2 : Int)) = false := decide_eq_false (by omega)
  have hfa : lval l1 < BB ^ 24 := by have := val_lt L1.low; rw [L1.len] at this; exact Nat.lt_of_lt_of_le this (Nat.pow_le_pow_right (by unfold BB; omega) (by omega))
  have hfb : lval l2 < BB ^ 24 := by have := val_lt L2.low; rw [L2.len] at this; exact Nat.lt_of_lt_of_le this (Nat.pow_le_pow_right (by unfold BB; omega) (by omega))
  obtain ⟨xa, hxa⟩ : ∃ x, x = sval p1 l1 := ⟨_, rfl⟩
  obtain ⟨xb, hxb⟩ : ∃ x, x = sval p2 l2 := ⟨_, rfl⟩
  obtain ⟨gg, hgg⟩ : ∃ G, G = Nat.gcd (lval l1) (lval l2) := ⟨_, rfl⟩
  have hg2 : gg = Nat.gcd xa.natAbs xb.natAbs := by rw [hgg, hxa, hxb, sval_abs, sval_abs]
  rw [← hxa] at ha
  have h48 : BB ^ 24 ≤ BB ^ 48 := Nat.pow_le_pow_right (by unfold BB; omega) (by omega)
  have HFG := Lib.hid (show Fits (gg : Int) from (Fits_iff _).2 (by rw [Int.natAbs_natCast, hg2]; exact Nat.lt_of_lt_of_le (gcd_le (by rw [hxa, sval_abs]; exact hfa) (by rw [hxb, sval_abs]; exact hfb)) h48))
  have HFA := Lib.hid (show Fits xa from (Fits_iff _).2 (by rw [hxa, sval_abs]; exact Nat.lt_of_lt_of_le hfa h48))
  have HFB := Lib.hid (show Fits xb from (Fits_iff _).2 (by rw [hxb, sval_abs]; exact Nat.lt_of_lt_of_le hfb h48))
  have HV := Lib.hid (And.intro hxa (And.intro hxb hgg))
  have GF := Lib.hid (show GcdF xa xb gg from by rw [hg2]; exact gcd_facts (.inl ha))
  have HSG := Lib.hid (show signI (gg : Int) = 1 from by have := GF.out.pos; unfold signI; rw [if_neg (by omega), if_pos (by omega)])
  obtain ⟨sn, hsn⟩ : ∃ s, s = signI (sval p1 l1) := ⟨_, rfl⟩
  have hsz : (sn == 0) = false := by rw [hsn, signI_zero, ← hxa]; exact decide_eq_false ha
  have HSN := Lib.hid hsn
  clear hsn
  clear ha
  have HL := Lib.hid (And.intro L1 L2)
  clear L1 L2 hfa hfb hg2 h48 hxa hxb hgg
  have X0 := env2 w (.bool p1) (.slice A1 n1 c1) (.bool p2) (.slice A2 n2 c2)
  have HT := Lib.hid ht
  clear ht
  go_enter Tryd.func12, Tryd.ntmps12
  go_wp2_with fail
  have hw1 : ((w.alloc (.cells #[.bool p1, .slice A1 n1 c1] 25)).alloc (.cells #[.bool p2, .slice A2 n2 c2] 25)).heap.size = w.heap.size + 1 + 1 := by simp only [World.size_alloc]
  generalize hB0 : w.heap.size = B0 at X0 hw1 ⊢
  have HSZ := Lib.hid (Nat.le_of_eq hB0)
  clear hB0
  generalize (w.alloc (.cells #[.bool p1, .slice A1 n1 c1] 25)).alloc (.cells #[.bool p2, .slice A2 n2 c2] 25) = w1 at X0 hw1 ⊢
  have HX := Lib.hid X0
  have HW1 := Lib.hid hw1
  clear X0 hw1
  have HX1 := Lib.hid ((HX.out.num (HL.out.1.keep0 HX.out.k)).num (HL.out.2.keep0 HX.out.k))
  clear HX
  have HX := Lib.hid HX1.out
  clear HX1
  refine (gcd2_any p1 A1 n1 c1 l1 p2 A2 n2 c2 l2 _ (HX.out.m _ (.tail _ (.head _))) (HX.out.m _ (.head _)) (by omega) (by omega) _ HW1.out.symm).mono ?_
  intro e w_g hres
  rw [← HV.out.2.2] at hres
  obtain ⟨k_g, q_g, A_g, n_g, c_g, l_g, f_g, rfl, LM, ln_g, ho⟩ := hres.gen
  have HO_g := Lib.hid ho
  clear ho hres
  have HX1 := Lib.hid ((HX.out.list _).keep k_g)
  clear HX k_g
  have HX := Lib.hid HX1.out
  clear HX1
  have HX1 := Lib.hid (HX.out.num LM)
  clear HX LM
  have HX := Lib.hid HX1.out
  clear HX1
  obtain rfl := HO_g.out.ok HFG.out
  have V_g := Lib.hid HO_g.out.val
  obtain ⟨s0, s1, sl⟩ := HX.out.cells (.head _)
  obtain ⟨r0, r1, rl⟩ := HX.out.cells (.tail _ (.head _))
  try dsimp only
  go_wp2_with fail
  clear s0 s1 sl r0 r1 rl
  have HX1 := Lib.hid (HX.out.box (.bool q_g) (.slice A_g n_g c_g))
  clear HX
  have HX := Lib.hid HX1.out
  clear HX1
  generalize hw5 : w_g.alloc (.cells #[.bool q_g, .slice A_g n_g c_g] 25) = w5 at HX ⊢
  clear hw5
  generalize w_g.heap.size = Bg at HX ⊢
  obtain ⟨g0, g1, gl⟩ := HX.out.cells (.head _)
  obtain ⟨s0, s1, sl⟩ := HX.out.cells (.tail _ (.head _))
  obtain ⟨r0, r1, rl⟩ := HX.out.cells (.tail _ (.tail _ (.head _)))
  have Kd : Keep (fun _ => False) w5 w5.drew := (Keep.refl _ _).drew
  have HCC := Lib.hid (fun (w' : World) (K' : Keep (fun _ => False) w5 w') => (show w'.cell? ⟨B0, 0, none⟩ = some (.bool p1) ∧ w'.cell? ⟨B0, 1, none⟩ = some (.slice A1 n1 c1) ∧ w'.cell? ⟨B0 + 1, 0, none⟩ = some (.bool p2) ∧ w'.cell? ⟨B0 + 1, 1, none⟩ = some (.slice A2 n2 c2) ∧ w'.cell? ⟨Bg, 0, none⟩ = some (.bool q_g) ∧ w'.cell? ⟨Bg, 1, none⟩ = some (.slice A_g n_g c_g) from by
    obtain ⟨ra, rb, _⟩ := (HX.out.keep K').cells (.tail _ (.tail _ (.head _)))
    obtain ⟨sa, sb, _⟩ := (HX.out.keep K').cells (.tail _ (.head _))
    obtain ⟨ga, gb, _⟩ := (HX.out.keep K').cells (.head _)
    exact ⟨ra, rb, sa, sb, ga, gb⟩))
  clear g0 g1 gl s0 s1 sl r0 r1 rl
  refine wp_region_held_drew (S := fun w' => w'.cell? ⟨B0, 0, none⟩ = some (.bool p1) ∧ w'.cell? ⟨B0, 1, none⟩ = some (.slice A1 n1 c1) ∧ w'.cell? ⟨B0 + 1, 0, none⟩ = some (.bool p2) ∧ w'.cell? ⟨B0 + 1, 1, none⟩ = some (.slice A2 n2 c2) ∧ w'.cell? ⟨Bg, 0, none⟩ = some (.bool q_g) ∧ w'.cell? ⟨Bg, 1, none⟩ = some (.slice A_g n_g c_g)) (by kernel_rfl) (HCC.out _ Kd) (fun hHeld => ?_)
  refine wpAnyH_take (i := 0) (oi := _) (v := ?_) rfl (by kernel_rfl) (by kernel_rfl) (by kernel_rfl) (fun _ _ _ h => h) (Or.inl ⟨by rfl, ?_⟩) (by assumption) ?_
  rotate_left
  · (intro w hSw; (try dsimp only at hSw); go_simp)
    all_goals with_reducible rfl
  refine wpAnyH_take (i := 1) (oi := _) (v := ?_) rfl (by kernel_rfl) (by kernel_rfl) (by kernel_rfl) (fun _ _ _ h => h) (Or.inl ⟨by rfl, ?_⟩) (by assumption) ?_
  rotate_left
  · (intro w hSw; (try dsimp only at hSw); go_simp)
    all_goals with_reducible rfl
  try dsimp only [List.getElem_toArray, List.getElem_cons_succ, List.getElem_cons_zero]
  try simp only [Act.put, List.setIfInBounds_toArray, List.set_cons_zero, List.set_cons_succ]
  refine wpAnyH_take (i := 2) (oi := _) (v := ?_) rfl (by kernel_rfl) (by kernel_rfl) (by kernel_rfl) (fun _ _ _ h => h) (Or.inl ⟨by rfl, ?_⟩) (by assumption) ?_
  rotate_left
  · (intro w hSw; (try dsimp only at hSw); go_simp)
    all_goals with_reducible rfl
  refine wpAnyH_take (i := 3) (oi := _) (v := ?_) rfl (by kernel_rfl) (by kernel_rfl) (by kernel_rfl) (fun _ _ _ h => h) (Or.inl ⟨by rfl, ?_⟩) (by assumption) ?_
  rotate_left
  · (intro w hSw; (try dsimp only at hSw); go_simp)
    all_goals with_reducible rfl
  try dsimp only [List.getElem_toArray, List.getElem_cons_succ, List.getElem_cons_zero]
  try simp only [Act.put, List.setIfInBounds_toArray, List.set_cons_zero, List.set_cons_succ]
  refine wpAnyH_ready (rs := [4]) (by kernel_rfl) (by simp) ?_
  refine AllReadyH.cons (o := _) rfl (fun K hK => ?_) AllReadyH.nil
  go_simp
  refine (sign_any q_g A_g n_g c_g l_g _ ((HX.out.keep Kd).m _ (.head _))).mono ?_
  rintro e wr1 ⟨rfl, kr⟩
  rw [V_g.out, HSG.out]
  have K1 : Keep (fun _ => False) w5 wr1 := Keep.trans Kd kr
  clear kr 
  try dsimp only
  go_wp2_with fail
  refine hK.out _ _ (HCC.out _ K1) (fun hHeld => ?_)
  clear hK K
  try dsimp only [List.getElem_toArray, List.getElem_cons_succ, List.getElem_cons_zero]
  try simp only [Act.put, List.setIfInBounds_toArray, List.set_cons_zero, List.set_cons_succ]
  refine wpAnyH_take (i := 5) (oi := _) (v := ?_) rfl (by kernel_rfl) (by kernel_rfl) (by kernel_rfl) (fun _ _ _ h => h) (Or.inl ⟨by rfl, ?_⟩) (by assumption) ?_
  rotate_left
  · (intro w hSw; (try dsimp only at hSw); go_simp)
    all_goals with_reducible rfl
  refine wpAnyH_take (i := 6) (oi := _) (v := ?_) rfl (by kernel_rfl) (by kernel_rfl) (by kernel_rfl) (fun _ _ _ h => h) (Or.inl ⟨by rfl, ?_⟩) (by assumption) ?_
  rotate_left
  · (intro w hSw; (try dsimp only at hSw); go_simp)
    all_goals with_reducible rfl
  try dsimp only [List.getElem_toArray, List.getElem_cons_succ, List.getElem_cons_zero]
  try simp only [Act.put, List.setIfInBounds_toArray, List.set_cons_zero, List.set_cons_succ]
  refine wpAnyH_take (i := 7) (oi := _) (v := ?_) rfl (by kernel_rfl) (by kernel_rfl) (by kernel_rfl) (fun _ _ _ h => h) (Or.inl ⟨by rfl, ?_⟩) (by assumption) ?_
  rotate_left
  · (intro w hSw; (try dsimp only at hSw); go_simp)
    all_goals with_reducible rfl
  refine wpAnyH_take (i := 8) (oi := _) (v := ?_) rfl (by kernel_rfl) (by kernel_rfl) (by kernel_rfl) (fun _ _ _ h => h) (Or.inl ⟨by rfl, ?_⟩) (by assumption) ?_
  rotate_left
  · (intro w hSw; (try dsimp only at hSw); go_simp)
    all_goals with_reducible rfl
  try dsimp only [List.getElem_toArray, List.getElem_cons_succ, List.getElem_cons_zero]
  try simp only [Act.put, List.setIfInBounds_toArray, List.set_cons_zero, List.set_cons_succ]
  refine wpAnyH_take (i := 11) (oi := _) (v := ?_) rfl (by kernel_rfl) (by kernel_rfl) (by kernel_rfl) (fun _ _ _ h => h) (Or.inl ⟨by rfl, ?_⟩) (by assumption) ?_
  rotate_left
  · (intro w hSw; (try dsimp only at hSw); go_simp)
    all_goals with_reducible rfl
  try dsimp only [List.getElem_toArray, List.getElem_cons_succ, List.getElem_cons_zero]
  try simp only [Act.put, List.setIfInBounds_toArray, List.set_cons_zero, List.set_cons_succ]
  refine wpAnyH_ready (rs := [9]) (by kernel_rfl) (by simp) ?_
  refine AllReadyH.cons (o := _) rfl (fun K hK => ?_) AllReadyH.nil
  go_simp
  refine (sign_any q_g A_g n_g c_g l_g _ ((HX.out.keep K1).m _ (.head _))).mono ?_
  rintro e wr2 ⟨rfl, kr⟩
  rw [V_g.out, HSG.out]
  have K2 : Keep (fun _ => False) w5 wr2 := Keep.trans K1 kr
  clear kr K1
  try dsimp only
  go_wp2_with fail
  refine hK.out _ _ (HCC.out _ K2) (fun hHeld => ?_)
  clear hK K
  refine wpAnyH_take (i := 10) (oi := _) (v := ?_) rfl (by kernel_rfl) (by kernel_rfl) (by kernel_rfl) (fun _ _ _ h => h) (Or.inl ⟨by rfl, ?_⟩) (by assumption) ?_
  rotate_left
  · (intro w hSw; (try dsimp only at hSw); go_simp)
    all_goals with_reducible rfl
  try dsimp only [List.getElem_toArray, List.getElem_cons_succ, List.getElem_cons_zero]
  try simp only [Act.put, List.setIfInBounds_toArray, List.set_cons_zero, List.set_cons_succ]
  refine wpAnyH_ready (rs := [12]) (by kernel_rfl) (by simp) ?_
  refine AllReadyH.cons (o := _) rfl (fun K hK => ?_) AllReadyH.nil
  go_simp
  refine (sign_any p1 A1 n1 c1 l1 _ ((HX.out.keep K2).m _ (.tail _ (.tail _ (.head _))))).mono ?_
  rintro e wr3 ⟨rfl, kr⟩
  rw [← HSN.out]
  have K3 : Keep (fun _ => False) w5 wr3 := Keep.trans K2 kr
  clear kr K2
  try dsimp only
  go_wp2_with fail
  refine hK.out _ _ (HCC.out _ K3) (fun hHeld => ?_)
  clear hK K
  try dsimp only [List.getElem_toArray, List.getElem_cons_succ, List.getElem_cons_zero]
  try simp only [Act.put, List.setIfInBounds_toArray, List.set_cons_zero, List.set_cons_succ]
  refine wpAnyH_take (i := 13) (oi := _) (v := ?_) rfl (by kernel_rfl) (by kernel_rfl) (by kernel_rfl) (fun _ _ _ h => h) (Or.inl ⟨by rfl, ?_⟩) (by assumption) ?_
  rotate_left
  · (intro w hSw; (try dsimp only at hSw); go_simp)
    all_goals with_reducible rfl
  refine wpAnyH_take (i := 14) (oi := _) (v := ?_) rfl (by kernel_rfl) (by kernel_rfl) (by kernel_rfl) (fun _ _ _ h => h) (Or.inl ⟨by rfl, ?_⟩) (by assumption) ?_
  rotate_left
  · (intro w hSw; (try dsimp only at hSw); go_simp)
    all_goals with_reducible rfl
  try dsimp only [List.getElem_toArray, List.getElem_cons_succ, List.getElem_cons_zero]
  try simp only [Act.put, List.setIfInBounds_toArray, List.set_cons_zero, List.set_cons_succ]
  refine wpAnyH_take (i := 15) (oi := _) (v := undef) rfl (by kernel_rfl) (by kernel_rfl) (by kernel_rfl) (fun _ _ _ h => h) (Or.inr ⟨by rfl, rfl⟩) (by assumption) ?_
  refine wpAnyH_take (i := 16) (oi := _) (v := undef) rfl (by kernel_rfl) (by kernel_rfl) (by kernel_rfl) (fun _ _ _ h => h) (Or.inr ⟨by rfl, rfl⟩) (by assumption) ?_
  refine wpAnyH_take (i := 17) (oi := _) (v := undef) rfl (by kernel_rfl) (by kernel_rfl) (by kernel_rfl) (fun _ _ _ h => h) (Or.inr ⟨by rfl, rfl⟩) (by assumption) ?_
  try dsimp only [List.getElem_toArray, List.getElem_cons_succ, List.getElem_cons_zero]
  try simp only [Act.put, List.setIfInBounds_toArray, List.set_cons_zero, List.set_cons_succ]
  refine wpAnyH_take (i := 18) (oi := _) (v := ?_) rfl (by kernel_rfl) (by kernel_rfl) (by kernel_rfl) (fun _ _ _ h => h) (Or.inl ⟨by rfl, ?_⟩) (by assumption) ?_
  rotate_left
  · (intro w hSw; (try dsimp only at hSw); go_simp)
    all_goals with_reducible rfl
  refine wpAnyH_take (i := 19) (oi := _) (v := ?_) rfl (by kernel_rfl) (by kernel_rfl) (by kernel_rfl) (fun _ _ _ h => h) (Or.inl ⟨by rfl, ?_⟩) (by assumption) ?_
  rotate_left
  · (intro w hSw; (try dsimp only at hSw); go_simp)
    all_goals with_reducible rfl
  try dsimp only [List.getElem_toArray, List.getElem_cons_succ, List.getElem_cons_zero]
  try simp only [Act.put, List.setIfInBounds_toArray, List.set_cons_zero, List.set_cons_succ]
  refine wpAnyH_take (i := 20) (oi := _) (v := ?_) rfl (by kernel_rfl) (by kernel_rfl) (by kernel_rfl) (fun _ _ _ h => h) (Or.inl ⟨by rfl, ?_⟩) (by assumption) ?_
  rotate_left
  · (intro w hSw; (try dsimp only at hSw); go_simp)
    all_goals with_reducible rfl
  try dsimp only [List.getElem_toArray, List.getElem_cons_succ, List.getElem_cons_zero]
  try simp only [Act.put, List.setIfInBounds_toArray, List.set_cons_zero, List.set_cons_succ]
  refine wpAnyH_done (by kernel_rfl) ?_ _
  have KK := K3
  clear K3
  have HX1 := Lib.hid (HX.out.keep KK)
  clear HX
  have HX := Lib.hid HX1.out
  clear HX1
  clear HCC KK
  obtain ⟨g0, g1, gl⟩ := HX.out.cells (.head _)
  obtain ⟨s0, s1, sl⟩ := HX.out.cells (.tail _ (.head _))
  obtain ⟨r0, r1, rl⟩ := HX.out.cells (.tail _ (.tail _ (.head _)))
  try dsimp only
  go_wp2_with fail
  clear g0 g1 gl s0 s1 sl r0 r1 rl
  refine (sign_any q_g A_g n_g c_g l_g _ (HX.out.m _ (.head _))).mono ?_
  rintro e wi ⟨rfl, ki⟩
  rw [V_g.out, HSG.out]
  have HX1 := Lib.hid (HX.out.keep ki)
  clear HX ki
  have HX := Lib.hid HX1.out
  clear HX1
  obtain ⟨g0, g1, gl⟩ := HX.out.cells (.head _)
  obtain ⟨s0, s1, sl⟩ := HX.out.cells (.tail _ (.head _))
  obtain ⟨r0, r1, rl⟩ := HX.out.cells (.tail _ (.tail _ (.head _)))
  try dsimp only
  go_wp2_with fail
  clear g0 g1 gl s0 s1 sl r0 r1 rl
  have HG0 := Lib.hid (show 0 < lval l_g from by have h := GF.out.pos; have h2 := sval_abs q_g l_g; rw [V_g.out] at h2; omega)
  refine (quo_any p1 A1 n1 c1 l1 q_g A_g n_g c_g l_g _ (HX.out.m _ (.tail _ (.tail _ (.head _)))) (HX.out.m _ (.head _)) (by omega) (by omega) HG0.out).mono ?_
  intro e w_x hres
  rw [← HV.out.1, V_g.out] at hres
  obtain ⟨k_x, q_x, A_x, n_x, c_x, l_x, f_x, rfl, LM, ln_x, ho⟩ := hres.gen
  have HO_x := Lib.hid ho
  clear ho hres
  have HX1 := Lib.hid (HX.out.keep k_x)
  clear HX k_x
  have HX := Lib.hid HX1.out
  clear HX1
  have HX1 := Lib.hid (HX.out.num LM)
  clear HX LM
  have HX := Lib.hid HX1.out
  clear HX1
  obtain rfl := HO_x.out.ok (HFA.out.le (by rw [Int.natAbs_tdiv]; exact Nat.div_le_self _ _))
  have V_x := Lib.hid HO_x.out.val
  obtain ⟨g0, g1, gl⟩ := HX.out.cells (.head _)
  obtain ⟨s0, s1, sl⟩ := HX.out.cells (.tail _ (.head _))
  obtain ⟨r0, r1, rl⟩ := HX.out.cells (.tail _ (.tail _ (.head _)))
  try dsimp only
  go_wp2_with fail
  clear g0 g1 gl s0 s1 sl r0 r1 rl
  have HX1 := Lib.hid (HX.out.box (.bool q_x) (.slice A_x n_x c_x))
  clear HX
  have HX := Lib.hid HX1.out
  clear HX1
  refine (quo_any p2 A2 n2 c2 l2 q_g A_g n_g c_g l_g _ (HX.out.m _ (.tail _ (.tail _ (.head _)))) (HX.out.m _ (.tail _ (.head _))) (by omega) (by omega) HG0.out).mono ?_
  intro e w_y hres
  rw [← HV.out.2.1, V_g.out] at hres
  obtain ⟨k_y, q_y, A_y, n_y, c_y, l_y, f_y, rfl, LM, ln_y, ho⟩ := hres.gen
  have HO_y := Lib.hid ho
  clear ho hres
  have HX1 := Lib.hid (HX.out.keep k_y)
  clear HX k_y
  have HX := Lib.hid HX1.out
  clear HX1
  have HX1 := Lib.hid (HX.out.num LM)
  clear HX LM
  have HX := Lib.hid HX1.out
  clear HX1
  obtain rfl := HO_y.out.ok (HFB.out.le (by rw [Int.natAbs_tdiv]; exact Nat.div_le_self _ _))
  have V_y := Lib.hid HO_y.out.val
  obtain ⟨x0, x1, xl⟩ := HX.out.cells (.head _)
  obtain ⟨g0, g1, gl⟩ := HX.out.cells (.tail _ (.head _))
  obtain ⟨s0, s1, sl⟩ := HX.out.cells (.tail _ (.tail _ (.head _)))
  obtain ⟨r0, r1, rl⟩ := HX.out.cells (.tail _ (.tail _ (.tail _ (.head _))))
  try dsimp only
  go_wp2_with fail
  clear x0 x1 xl g0 g1 gl s0 s1 sl r0 r1 rl
  have HX1 := Lib.hid (HX.out.box (.bool q_y) (.slice A_y n_y c_y))
  clear HX
  have HX := Lib.hid HX1.out
  clear HX1
  refine (rem_any p1 A1 n1 c1 l1 q_g A_g n_g c_g l_g _ (HX.out.m _ (.tail _ (.tail _ (.tail _ (.tail _ (.head _)))))) (HX.out.m _ (.tail _ (.tail _ (.head _)))) (by omega) (by omega) HG0.out).mono ?_
  intro e w_u hres
  rw [← HV.out.1, V_g.out, GF.out.ra] at hres
  obtain ⟨k_u, q_u, A_u, n_u, c_u, l_u, f_u, rfl, LM, ln_u, ho⟩ := hres.gen
  have HO_u := Lib.hid ho
  clear ho hres
  have HX1 := Lib.hid (HX.out.keep k_u)
  clear HX k_u
  have HX := Lib.hid HX1.out
  clear HX1
  have HX1 := Lib.hid (HX.out.num LM)
  clear HX LM
  have HX := Lib.hid HX1.out
  clear HX1
  obtain rfl := HO_u.out.ok (small_fits (by decide))
  have V_u := Lib.hid HO_u.out.val
  obtain ⟨y0, y1, yl⟩ := HX.out.cells (.head _)
  obtain ⟨x0, x1, xl⟩ := HX.out.cells (.tail _ (.head _))
  obtain ⟨g0, g1, gl⟩ := HX.out.cells (.tail _ (.tail _ (.head _)))
  obtain ⟨s0, s1, sl⟩ := HX.out.cells (.tail _ (.tail _ (.tail _ (.head _))))
  obtain ⟨r0, r1, rl⟩ := HX.out.cells (.tail _ (.tail _ (.tail _ (.tail _ (.head _)))))
  try dsimp only
  go_wp2_with fail
  clear y0 y1 yl x0 x1 xl g0 g1 gl s0 s1 sl r0 r1 rl
  have HX1 := Lib.hid (HX.out.box (.bool q_u) (.slice A_u n_u c_u))
  clear HX
  have HX := Lib.hid HX1.out
  clear HX1
  refine (rem_any p2 A2 n2 c2 l2 q_g A_g n_g c_g l_g _ (HX.out.m _ (.tail _ (.tail _ (.tail _ (.tail _ (.head _)))))) (HX.out.m _ (.tail _ (.tail _ (.tail _ (.head _))))) (by omega) (by omega) HG0.out).mono ?_
  intro e w_v hres
  rw [← HV.out.2.1, V_g.out, GF.out.rb] at hres
  obtain ⟨k_v, q_v, A_v, n_v, c_v, l_v, f_v, rfl, LM, ln_v, ho⟩ := hres.gen
  have HO_v := Lib.hid ho
  clear ho hres
  have HX1 := Lib.hid (HX.out.keep k_v)
  clear HX k_v
  have HX := Lib.hid HX1.out
  clear HX1
  have HX1 := Lib.hid (HX.out.num LM)
  clear HX LM
  have HX := Lib.hid HX1.out
  clear HX1
  obtain rfl := HO_v.out.ok (small_fits (by decide))
  have V_v := Lib.hid HO_v.out.val
  obtain ⟨u0, u1, ul⟩ := HX.out.cells (.head _)
  obtain ⟨y0, y1, yl⟩ := HX.out.cells (.tail _ (.head _))
  obtain ⟨x0, x1, xl⟩ := HX.out.cells (.tail _ (.tail _ (.head _)))
  obtain ⟨g0, g1, gl⟩ := HX.out.cells (.tail _ (.tail _ (.tail _ (.head _))))
  obtain ⟨s0, s1, sl⟩ := HX.out.cells (.tail _ (.tail _ (.tail _ (.tail _ (.head _)))))
  obtain ⟨r0, r1, rl⟩ := HX.out.cells (.tail _ (.tail _ (.tail _ (.tail _ (.tail _ (.head _))))))
  try dsimp only
  go_wp2_with fail
  clear u0 u1 ul y0 y1 yl x0 x1 xl g0 g1 gl s0 s1 sl r0 r1 rl
  have HX1 := Lib.hid (HX.out.box (.bool q_v) (.slice A_v n_v c_v))
  clear HX
  have HX := Lib.hid HX1.out
  clear HX1
  have HONE := Lib.hid (show Nat.gcd (lval l_x) (lval l_y) = 1 from by have h1 := sval_abs q_x l_x; have h2 := sval_abs q_y l_y; rw [V_x.out] at h1; rw [V_y.out] at h2; rw [← h1, ← h2]; exact GF.out.one)
  refine (gcd2_any q_x A_x n_x c_x l_x q_y A_y n_y c_y l_y _ (HX.out.m _ (.tail _ (.tail _ (.tail _ (.head _))))) (HX.out.m _ (.tail _ (.tail _ (.head _)))) (by omega) (by omega) _ (by simp only [World.size_alloc])).mono ?_
  intro e w_o hres
  rw [HONE.out] at hres
  obtain ⟨k_o, q_o, A_o, n_o, c_o, l_o, f_o, rfl, LM, ln_o, ho⟩ := hres.gen
  have HO_o := Lib.hid ho
  clear ho hres
  have HX1 := Lib.hid ((HX.out.list _).keep k_o)
  clear HX k_o
  have HX := Lib.hid HX1.out
  clear HX1
  have HX1 := Lib.hid (HX.out.num LM)
  clear HX LM
  have HX := Lib.hid HX1.out
  clear HX1
  obtain rfl := HO_o.out.ok (small_fits (by decide))
  have V_o := Lib.hid HO_o.out.val
  obtain ⟨v0, v1, vl⟩ := HX.out.cells (.head _)
  obtain ⟨u0, u1, ul⟩ := HX.out.cells (.tail _ (.head _))
  obtain ⟨y0, y1, yl⟩ := HX.out.cells (.tail _ (.tail _ (.head _)))
  obtain ⟨x0, x1, xl⟩ := HX.out.cells (.tail _ (.tail _ (.tail _ (.head _))))
  obtain ⟨g0, g1, gl⟩ := HX.out.cells (.tail _ (.tail _ (.tail _ (.tail _ (.head _)))))
  obtain ⟨s0, s1, sl⟩ := HX.out.cells (.tail _ (.tail _ (.tail _ (.tail _ (.tail _ (.head _))))))
  obtain ⟨r0, r1, rl⟩ := HX.out.cells (.tail _ (.tail _ (.tail _ (.tail _ (.tail _ (.tail _ (.head _)))))))
  try dsimp only
  go_wp2_with fail
  clear v0 v1 vl u0 u1 ul y0 y1 yl x0 x1 xl g0 g1 gl s0 s1 sl r0 r1 rl
  have HX1 := Lib.hid (HX.out.box (.bool q_o) (.slice A_o n_o c_o))
  clear HX
  have HX := Lib.hid HX1.out
  clear HX1
  generalize hw6 : w_o.alloc (.cells #[.bool q_o, .slice A_o n_o c_o] 25) = w6 at HX ⊢
  clear hw6
  generalize w_u.heap.size = Bu at HX ⊢
  generalize w_v.heap.size = Bv at HX ⊢
  generalize w_o.heap.size = Bo at HX ⊢
  obtain ⟨o0, o1, ol⟩ := HX.out.cells (.head _)
  obtain ⟨v0, v1, vl⟩ := HX.out.cells (.tail _ (.head _))
  obtain ⟨u0, u1, ul⟩ := HX.out.cells (.tail _ (.tail _ (.head _)))
  obtain ⟨y0, y1, yl⟩ := HX.out.cells (.tail _ (.tail _ (.tail _ (.head _))))
  obtain ⟨x0, x1, xl⟩ := HX.out.cells (.tail _ (.tail _ (.tail _ (.tail _ (.head _)))))
  obtain ⟨g0, g1, gl⟩ := HX.out.cells (.tail _ (.tail _ (.tail _ (.tail _ (.tail _ (.head _))))))
  obtain ⟨s0, s1, sl⟩ := HX.out.cells (.tail _ (.tail _ (.tail _ (.tail _ (.tail _ (.tail _ (.head _)))))))
  obtain ⟨r0, r1, rl⟩ := HX.out.cells (.tail _ (.tail _ (.tail _ (.tail _ (.tail _ (.tail _ (.tail _ (.head _))))))))
  have Kd : Keep (fun _ => False) w6 w6.drew := (Keep.refl _ _).drew
  have HCC := Lib.hid (fun (w' : World) (K' : Keep (fun _ => False) w6 w') => (show w'.cell? ⟨Bu, 0, none⟩ = some (.bool q_u) ∧ w'.cell? ⟨Bu, 1, none⟩ = some (.slice A_u n_u c_u) ∧ w'.cell? ⟨Bv, 0, none⟩ = some (.bool q_v) ∧ w'.cell? ⟨Bv, 1, none⟩ = some (.slice A_v n_v c_v) ∧ w'.cell? ⟨Bo, 0, none⟩ = some (.bool q_o) ∧ w'.cell? ⟨Bo, 1, none⟩ = some (.slice A_o n_o c_o) from by
    obtain ⟨ua, ub, _⟩ := (HX.out.keep K').cells (.tail _ (.tail _ (.head _)))
    obtain ⟨va, vb, _⟩ := (HX.out.keep K').cells (.tail _ (.head _))
    obtain ⟨oa, ob, _⟩ := (HX.out.keep K').cells (.head _)
    exact ⟨ua, ub, va, vb, oa, ob⟩))
  clear o0 o1 ol v0 v1 vl u0 u1 ul y0 y1 yl x0 x1 xl g0 g1 gl s0 s1 sl r0 r1 rl
  refine wp_region_held_drew (S := fun w' => w'.cell? ⟨Bu, 0, none⟩ = some (.bool q_u) ∧ w'.cell? ⟨Bu, 1, none⟩ = some (.slice A_u n_u c_u) ∧ w'.cell? ⟨Bv, 0, none⟩ = some (.bool q_v) ∧ w'.cell? ⟨Bv, 1, none⟩ = some (.slice A_v n_v c_v) ∧ w'.cell? ⟨Bo, 0, none⟩ = some (.bool q_o) ∧ w'.cell? ⟨Bo, 1, none⟩ = some (.slice A_o n_o c_o)) (by kernel_rfl) (HCC.out _ Kd) (fun hHeld => ?_)
  refine wpAnyH_take (i := 0) (oi := _) (v := ?_) rfl (by kernel_rfl) (by kernel_rfl) (by kernel_rfl) (fun _ _ _ h => h) (Or.inl ⟨by rfl, ?_⟩) (by assumption) ?_
  rotate_left
  · (intro w hSw; (try dsimp only at hSw); go_simp)
    all_goals with_reducible rfl
  refine wpAnyH_take (i := 1) (oi := _) (v := ?_) rfl (by kernel_rfl) (by kernel_rfl) (by kernel_rfl) (fun _ _ _ h => h) (Or.inl ⟨by rfl, ?_⟩) (by assumption) ?_
  rotate_left
  · (intro w hSw; (try dsimp only at hSw); go_simp)
    all_goals with_reducible rfl
  try dsimp only [List.getElem_toArray, List.getElem_cons_succ, List.getElem_cons_zero]
  try simp only [Act.put, List.setIfInBounds_toArray, List.set_cons_zero, List.set_cons_succ]
  refine wpAnyH_take (i := 2) (oi := _) (v := ?_) rfl (by kernel_rfl) (by kernel_rfl) (by kernel_rfl) (fun _ _ _ h => h) (Or.inl ⟨by rfl, ?_⟩) (by assumption) ?_
  rotate_left
  · (intro w hSw; (try dsimp only at hSw); go_simp)
    all_goals with_reducible rfl
  refine wpAnyH_take (i := 3) (oi := _) (v := ?_) rfl (by kernel_rfl) (by kernel_rfl) (by kernel_rfl) (fun _ _ _ h => h) (Or.inl ⟨by rfl, ?_⟩) (by assumption) ?_
  rotate_left
  · (intro w hSw; (try dsimp only at hSw); go_simp)
    all_goals with_reducible rfl
  try dsimp only [List.getElem_toArray, List.getElem_cons_succ, List.getElem_cons_zero]
  try simp only [Act.put, List.setIfInBounds_toArray, List.set_cons_zero, List.set_cons_succ]
  refine wpAnyH_take (i := 4) (oi := _) (v := ?_) rfl (by kernel_rfl) (by kernel_rfl) (by kernel_rfl) (fun _ _ _ h => h) (Or.inl ⟨by rfl, ?_⟩) (by assumption) ?_
  rotate_left
  · (intro w hSw; (try dsimp only at hSw); go_simp)
    all_goals with_reducible rfl
  refine wpAnyH_take (i := 5) (oi := _) (v := ?_) rfl (by kernel_rfl) (by kernel_rfl) (by kernel_rfl) (fun _ _ _ h => h) (Or.inl ⟨by rfl, ?_⟩) (by assumption) ?_
  rotate_left
  · (intro w hSw; (try dsimp only at hSw); go_simp)
    all_goals with_reducible rfl
  try dsimp only [List.getElem_toArray, List.getElem_cons_succ, List.getElem_cons_zero]
  try simp only [Act.put, List.setIfInBounds_toArray, List.set_cons_zero, List.set_cons_succ]
  refine wpAnyH_take (i := 6) (oi := _) (v := ?_) rfl (by kernel_rfl) (by kernel_rfl) (by kernel_rfl) (fun _ _ _ h => h) (Or.inl ⟨by rfl, ?_⟩) (by assumption) ?_
  rotate_left
  · (intro w hSw; (try dsimp only at hSw); go_simp)
    all_goals with_reducible rfl
  refine wpAnyH_take (i := 7) (oi := _) (v := ?_) rfl (by kernel_rfl) (by kernel_rfl) (by kernel_rfl) (fun _ _ _ h => h) (Or.inl ⟨by rfl, ?_⟩) (by assumption) ?_
  rotate_left
  · (intro w hSw; (try dsimp only at hSw); go_simp)
    all_goals with_reducible rfl
  try dsimp only [List.getElem_toArray, List.getElem_cons_succ, List.getElem_cons_zero]
  try simp only [Act.put, List.setIfInBounds_toArray, List.set_cons_zero, List.set_cons_succ]
  refine wpAnyH_take (i := 8) (oi := _) (v := ?_) rfl (by kernel_rfl) (by kernel_rfl) (by kernel_rfl) (fun _ _ _ h => h) (Or.inl ⟨by rfl, ?_⟩) (by assumption) ?_
  rotate_left
  · (intro w hSw; (try dsimp only at hSw); go_simp)
    all_goals with_reducible rfl
  refine wpAnyH_take (i := 9) (oi := _) (v := ?_) rfl (by kernel_rfl) (by kernel_rfl) (by kernel_rfl) (fun _ _ _ h => h) (Or.inl ⟨by rfl, ?_⟩) (by assumption) ?_
  rotate_left
  · (intro w hSw; (try dsimp only at hSw); go_simp)
    all_goals with_reducible rfl
  try dsimp only [List.getElem_toArray, List.getElem_cons_succ, List.getElem_cons_zero]
  try simp only [Act.put, List.setIfInBounds_toArray, List.set_cons_zero, List.set_cons_succ]
  refine wpAnyH_take (i := 10) (oi := _) (v := ?_) rfl (by kernel_rfl) (by kernel_rfl) (by kernel_rfl) (fun _ _ _ h => h) (Or.inl ⟨by rfl, ?_⟩) (by assumption) ?_
  rotate_left
  · (intro w hSw; (try dsimp only at hSw); go_simp)
    all_goals with_reducible rfl
  refine wpAnyH_take (i := 11) (oi := _) (v := ?_) rfl (by kernel_rfl) (by kernel_rfl) (by kernel_rfl) (fun _ _ _ h => h) (Or.inl ⟨by rfl, ?_⟩) (by assumption) ?_
  rotate_left
  · (intro w hSw; (try dsimp only at hSw); go_simp)
    all_goals with_reducible rfl
  try dsimp only [List.getElem_toArray, List.getElem_cons_succ, List.getElem_cons_zero]
  try simp only [Act.put, List.setIfInBounds_toArray, List.set_cons_zero, List.set_cons_succ]
  refine wpAnyH_take (i := 12) (oi := _) (v := ?_) rfl (by kernel_rfl) (by kernel_rfl) (by kernel_rfl) (fun _ _ _ h => h) (Or.inl ⟨by rfl, ?_⟩) (by assumption) ?_
  rotate_left
  · (intro w hSw; (try dsimp only at hSw); go_simp)
    all_goals with_reducible rfl
  refine wpAnyH_take (i := 13) (oi := _) (v := ?_) rfl (by kernel_rfl) (by kernel_rfl) (by kernel_rfl) (fun _ _ _ h => h) (Or.inl ⟨by rfl, ?_⟩) (by assumption) ?_
  rotate_left
  · (intro w hSw; (try dsimp only at hSw); go_simp)
    all_goals with_reducible rfl
  try dsimp only [List.getElem_toArray, List.getElem_cons_succ, List.getElem_cons_zero]
  try simp only [Act.put, List.setIfInBounds_toArray, List.set_cons_zero, List.set_cons_succ]
  refine wpAnyH_take (i := 14) (oi := _) (v := ?_) rfl (by kernel_rfl) (by kernel_rfl) (by kernel_rfl) (fun _ _ _ h => h) (Or.inl ⟨by rfl, ?_⟩) (by assumption) ?_
  rotate_left
  · (intro w hSw; (try dsimp only at hSw); go_simp)
    all_goals with_reducible rfl
  refine wpAnyH_take (i := 15) (oi := _) (v := ?_) rfl (by kernel_rfl) (by kernel_rfl) (by kernel_rfl) (fun _ _ _ h => h) (Or.inl ⟨by rfl, ?_⟩) (by assumption) ?_
  rotate_left
  · (intro w hSw; (try dsimp only at hSw); go_simp)
    all_goals with_reducible rfl
  try dsimp only [List.getElem_toArray, List.getElem_cons_succ, List.getElem_cons_zero]
  try simp only [Act.put, List.setIfInBounds_toArray, List.set_cons_zero, List.set_cons_succ]
  refine wpAnyH_take (i := 16) (oi := _) (v := ?_) rfl (by kernel_rfl) (by kernel_rfl) (by kernel_rfl) (fun _ _ _ h => h) (Or.inl ⟨by rfl, ?_⟩) (by assumption) ?_
  rotate_left
  · (intro w hSw; (try dsimp only at hSw); go_simp)
    all_goals with_reducible rfl
  refine wpAnyH_take (i := 17) (oi := _) (v := ?_) rfl (by kernel_rfl) (by kernel_rfl) (by kernel_rfl) (fun _ _ _ h => h) (Or.inl ⟨by rfl, ?_⟩) (by assumption) ?_
  rotate_left
  · (intro w hSw; (try dsimp only at hSw); go_simp)
    all_goals with_reducible rfl
  try dsimp only [List.getElem_toArray, List.getElem_cons_succ, List.getElem_cons_zero]
  try simp only [Act.put, List.setIfInBounds_toArray, List.set_cons_zero, List.set_cons_succ]
  refine wpAnyH_take (i := 18) (oi := _) (v := ?_) rfl (by kernel_rfl) (by kernel_rfl) (by kernel_rfl) (fun _ _ _ h => h) (Or.inl ⟨by rfl, ?_⟩) (by assumption) ?_
  rotate_left
  · (intro w hSw; (try dsimp only at hSw); go_simp)
    all_goals with_reducible rfl
  refine wpAnyH_take (i := 19) (oi := _) (v := ?_) rfl (by kernel_rfl) (by kernel_rfl) (by kernel_rfl) (fun _ _ _ h => h) (Or.inl ⟨by rfl, ?_⟩) (by assumption) ?_
  rotate_left
  · (intro w hSw; (try dsimp only at hSw); go_simp)
    all_goals with_reducible rfl
  try dsimp only [List.getElem_toArray, List.getElem_cons_succ, List.getElem_cons_zero]
  try simp only [Act.put, List.setIfInBounds_toArray, List.set_cons_zero, List.set_cons_succ]
  refine wpAnyH_ready (rs := [20]) (by kernel_rfl) (by simp) ?_
  refine AllReadyH.cons (o := _) rfl (fun K hK => ?_) AllReadyH.nil
  go_simp
  refine (sign_any q_u A_u n_u c_u l_u _ ((HX.out.keep Kd).m _ (.tail _ (.tail _ (.head _))))).mono ?_
  rintro e wr1 ⟨rfl, kr⟩
  rw [V_u.out, show signI 0 = 0 from rfl]
  have K1 : Keep (fun _ => False) w6 wr1 := Keep.trans Kd kr
  clear kr 
  try dsimp only
  go_wp2_with fail
  refine hK.out _ _ (HCC.out _ K1) (fun hHeld => ?_)
  clear hK K
  try dsimp only [List.getElem_toArray, List.getElem_cons_succ, List.getElem_cons_zero]
  try simp only [Act.put, List.setIfInBounds_toArray, List.set_cons_zero, List.set_cons_succ]
  refine wpAnyH_take (i := 21) (oi := _) (v := ?_) rfl (by kernel_rfl) (by kernel_rfl) (by kernel_rfl) (fun _ _ _ h => h) (Or.inl ⟨by rfl, ?_⟩) (by assumption) ?_
  rotate_left
  · (intro w hSw; (try dsimp only at hSw); go_simp)
    all_goals with_reducible rfl
  refine wpAnyH_take (i := 22) (oi := _) (v := ?_) rfl (by kernel_rfl) (by kernel_rfl) (by kernel_rfl) (fun _ _ _ h => h) (Or.inl ⟨by rfl, ?_⟩) (by assumption) ?_
  rotate_left
  · (intro w hSw; (try dsimp only at hSw); go_simp)
    all_goals with_reducible rfl
  try dsimp only [List.getElem_toArray, List.getElem_cons_succ, List.getElem_cons_zero]
  try simp only [Act.put, List.setIfInBounds_toArray, List.set_cons_zero, List.set_cons_succ]
  refine wpAnyH_take (i := 23) (oi := _) (v := ?_) rfl (by kernel_rfl) (by kernel_rfl) (by kernel_rfl) (fun _ _ _ h => h) (Or.inl ⟨by rfl, ?_⟩) (by assumption) ?_
  rotate_left
  · (intro w hSw; (try dsimp only at hSw); go_simp)
    all_goals with_reducible rfl
  refine wpAnyH_take (i := 24) (oi := _) (v := ?_) rfl (by kernel_rfl) (by kernel_rfl) (by kernel_rfl) (fun _ _ _ h => h) (Or.inl ⟨by rfl, ?_⟩) (by assumption) ?_
  rotate_left
  · (intro w hSw; (try dsimp only at hSw); go_simp)
    all_goals with_reducible rfl
  try dsimp only [List.getElem_toArray, List.getElem_cons_succ, List.getElem_cons_zero]
  try simp only [Act.put, List.setIfInBounds_toArray, List.set_cons_zero, List.set_cons_succ]
  refine wpAnyH_ready (rs := [25]) (by kernel_rfl) (by simp) ?_
  refine AllReadyH.cons (o := _) rfl (fun K hK => ?_) AllReadyH.nil
  go_simp
  refine (sign_any q_v A_v n_v c_v l_v _ ((HX.out.keep K1).m _ (.tail _ (.head _)))).mono ?_
  rintro e wr2 ⟨rfl, kr⟩
  rw [V_v.out, show signI 0 = 0 from rfl]
  have K2 : Keep (fun _ => False) w6 wr2 := Keep.trans K1 kr
  clear kr K1
  try dsimp only
  go_wp2_with fail
  refine hK.out _ _ (HCC.out _ K2) (fun hHeld => ?_)
  clear hK K
  try dsimp only [List.getElem_toArray, List.getElem_cons_succ, List.getElem_cons_zero]
  try simp only [Act.put, List.setIfInBounds_toArray, List.set_cons_zero, List.set_cons_succ]
  refine wpAnyH_take (i := 26) (oi := _) (v := ?_) rfl (by kernel_rfl) (by kernel_rfl) (by kernel_rfl) (fun _ _ _ h => h) (Or.inl ⟨by rfl, ?_⟩) (by assumption) ?_
  rotate_left
  · (intro w hSw; (try dsimp only at hSw); go_simp)
    all_goals with_reducible rfl
  refine wpAnyH_take (i := 27) (oi := _) (v := ?_) rfl (by kernel_rfl) (by kernel_rfl) (by kernel_rfl) (fun _ _ _ h => h) (Or.inl ⟨by rfl, ?_⟩) (by assumption) ?_
  rotate_left
  · (intro w hSw; (try dsimp only at hSw); go_simp)
    all_goals with_reducible rfl
  try dsimp only [List.getElem_toArray, List.getElem_cons_succ, List.getElem_cons_zero]
  try simp only [Act.put, List.setIfInBounds_toArray, List.set_cons_zero, List.set_cons_succ]
  refine wpAnyH_take (i := 28) (oi := _) (v := ?_) rfl (by kernel_rfl) (by kernel_rfl) (by kernel_rfl) (fun _ _ _ h => h) (Or.inl ⟨by rfl, ?_⟩) (by assumption) ?_
  rotate_left
  · (intro w hSw; (try dsimp only at hSw); go_simp)
    all_goals with_reducible rfl
  refine wpAnyH_take (i := 29) (oi := _) (v := ?_) rfl (by kernel_rfl) (by kernel_rfl) (by kernel_rfl) (fun _ _ _ h => h) (Or.inl ⟨by rfl, ?_⟩) (by assumption) ?_
  rotate_left
  · (intro w hSw; (try dsimp only at hSw); go_simp)
    all_goals with_reducible rfl
  try dsimp only [List.getElem_toArray, List.getElem_cons_succ, List.getElem_cons_zero]
  try simp only [Act.put, List.setIfInBounds_toArray, List.set_cons_zero, List.set_cons_succ]
  refine wpAnyH_ready (rs := [30]) (by kernel_rfl) (by simp) ?_
  refine AllReadyH.cons (o := _) rfl (fun K hK => ?_) AllReadyH.nil
  go_simp
  refine (of_any 1 _ (by decide) (by decide)).mono ?_
  rintro e wr3 ⟨kr, A_1, n_1, c_1, rfl, oo⟩
  rw [show decide ((1 : Int) < 0) = false from rfl]
  have LO := Lib.hid (oo.num (small_fits (x := 1) (by decide)))
  clear oo
  have K3 : Keep (fun _ => False) w6 wr3 := Keep.trans K2 kr
  clear kr K2
  try dsimp only
  go_wp2_with fail
  refine hK.out _ _ (HCC.out _ K3) (fun hHeld => ?_)
  clear hK K
  try dsimp only [List.getElem_toArray, List.getElem_cons_succ, List.getElem_cons_zero]
  try simp only [Act.put, List.setIfInBounds_toArray, List.set_cons_zero, List.set_cons_succ]
  refine wpAnyH_ready (rs := [31]) (by kernel_rfl) (by simp) ?_
  refine AllReadyH.cons (o := _) rfl (fun K hK => ?_) AllReadyH.nil
  go_simp
  refine (cmp_any q_o A_o n_o c_o l_o false A_1 n_1 c_1 _ _ ((HX.out.keep K3).m _ (.head _)) LO.out).mono ?_
  rintro e wr4 ⟨rfl, kr⟩
  rw [V_o.out, sval_dec, show cmpI ((1 : Nat) : Int) (if false = true then -(((1 : Int).natAbs : Nat) : Int) else (((1 : Int).natAbs : Nat) : Int)) = 0 from rfl]
  have K4 : Keep (fun _ => False) w6 wr4 := Keep.trans K3 kr
  clear kr K3
  try dsimp only
  go_wp2_with fail
  refine hK.out _ _ (HCC.out _ K4) (fun hHeld => ?_)
  clear hK K
  try dsimp only [List.getElem_toArray, List.getElem_cons_succ, List.getElem_cons_zero]
  try simp only [Act.put, List.setIfInBounds_toArray, List.set_cons_zero, List.set_cons_succ]
  refine wpAnyH_take (i := 32) (oi := _) (v := ?_) rfl (by kernel_rfl) (by kernel_rfl) (by kernel_rfl) (fun _ _ _ h => h) (Or.inl ⟨by rfl, ?_⟩) (by assumption) ?_
  rotate_left
  · (intro w hSw; (try dsimp only at hSw); go_simp)
    all_goals with_reducible rfl
  refine wpAnyH_take (i := 33) (oi := _) (v := ?_) rfl (by kernel_rfl) (by kernel_rfl) (by kernel_rfl) (fun _ _ _ h => h) (Or.inl ⟨by rfl, ?_⟩) (by assumption) ?_
  rotate_left
  · (intro w hSw; (try dsimp only at hSw); go_simp)
    all_goals with_reducible rfl
  try dsimp only [List.getElem_toArray, List.getElem_cons_succ, List.getElem_cons_zero]
  try simp only [Act.put, List.setIfInBounds_toArray, List.set_cons_zero, List.set_cons_succ]
  refine wpAnyH_take (i := 34) (oi := _) (v := ?_) rfl (by kernel_rfl) (by kernel_rfl) (by kernel_rfl) (fun _ _ _ h => h) (Or.inl ⟨by rfl, ?_⟩) (by assumption) ?_
  rotate_left
  · (intro w hSw; (try dsimp only at hSw); go_simp)
    all_goals with_reducible rfl
  try dsimp only [List.getElem_toArray, List.getElem_cons_succ, List.getElem_cons_zero]
  try simp only [Act.put, List.setIfInBounds_toArray, List.set_cons_zero, List.set_cons_succ]
  refine wpAnyH_ready (rs := [35]) (by kernel_rfl) (by simp) ?_
  refine AllReadyH.cons (o := _) rfl (fun K hK => ?_) AllReadyH.nil
  go_simp
  refine (awake_any _ (HT.out.keep (HX.out.keep K4).k)).mono ?_
  rintro e wr5 ⟨rfl, kr⟩
  have K5 : Keep (fun _ => False) w6 wr5 := Keep.trans K4 kr
  clear kr K4
  try dsimp only
  go_wp2_with fail
  refine hK.out _ _ (HCC.out _ K5) (fun hHeld => ?_)
  clear hK K
  refine wpAnyH_take (i := 36) (oi := _) (v := ?_) rfl (by kernel_rfl) (by kernel_rfl) (by kernel_rfl) (fun _ _ _ h => h) (Or.inl ⟨by rfl, ?_⟩) (by assumption) ?_
  rotate_left
  · (intro w hSw; (try dsimp only at hSw); go_simp)
    all_goals with_reducible rfl
  try dsimp only [List.getElem_toArray, List.getElem_cons_succ, List.getElem_cons_zero]
  try simp only [Act.put, List.setIfInBounds_toArray, List.set_cons_zero, List.set_cons_succ]
  refine wpAnyH_take (i := 37) (oi := _) (v := ?_) rfl (by kernel_rfl) (by kernel_rfl) (by kernel_rfl) (fun _ _ _ h => h) (Or.inl ⟨by rfl, ?_⟩) (by assumption) ?_
  rotate_left
  · (intro w hSw; (try dsimp only at hSw); go_simp)
    all_goals with_reducible rfl
  try dsimp only [List.getElem_toArray, List.getElem_cons_succ, List.getElem_cons_zero]
  try simp only [Act.put, List.setIfInBounds_toArray, List.set_cons_zero, List.set_cons_succ]
  refine wpAnyH_done (by kernel_rfl) ?_ _
  have KK := K5
  clear K5
  have HZ := Lib.hid (HX.out.keep KK).k
  clear HCC
  try dsimp only
  go_wp2_with fail
  go_ret
  exact ⟨rfl, HZ.out⟩
set_option maxRecDepth 100000 in
set_option maxHeartbeats 16000000 in
theorem parts_right (p1 : Bool) (A1 : Option Addr) (n1 c1 : Nat) (p2 : Bool) (A2 : Option Addr) (n2 c2 : Nat) (l1 l2 : List Nat) (w : World) (ht : PowTab w) (h1 : ¬ 24 < n1) (h2 : ¬ 24 < n2) (L1 : LimbsAt w A1 n1 c1 l1) (L2 : LimbsAt w A2 n2 c2 l2) (ha : sval p1 l1 = 0) (hb : sval p2 l2 ≠ 0) :
    Calls Tryd.prog 12 #[numArg p1 A1 n1 c1, numArg p2 A2 n2 c2] w (BoolPost true w) := by
  have i1 : decide ((24 : Int) < (n1 : Int)) = false := decide_eq_false (by omega)
  have i2 : decide ((24 : Int) < (n2 : Int)) = false := decide_eq_false (by omega)
  have hfa : lval l1 < BB ^ 24 := by have := val_lt L1.low; rw [L1.len] at this; exact Nat.lt_of_lt_of_le this (Nat.pow_le_pow_right (by unfold BB; omega) (by omega))
  have hfb : lval l2 < BB ^ 24 := by have := val_lt L2.low; rw [L2.len] at this; exact Nat.lt_of_lt_of_le this (Nat.pow_le_pow_right (by unfold BB; omega) (by omega))
  obtain ⟨xa, hxa⟩ : ∃ x, x = sval p1 l1 := ⟨_, rfl⟩
  obtain ⟨xb, hxb⟩ : ∃ x, x = sval p2 l2 := ⟨_, rfl⟩
  obtain ⟨gg, hgg⟩ : ∃ G, G = Nat.gcd (lval l1) (lval l2) := ⟨_, rfl⟩
  have hg2 : gg = Nat.gcd xa.natAbs xb.natAbs := by rw [hgg, hxa, hxb, sval_abs, sval_abs]
  rw [← hxa] at ha
  rw [← hxb] at hb
  have h48 : BB ^ 24 ≤ BB ^ 48 := Nat.pow_le_pow_right (by unfold BB; omega) (by omega)
  have HFG := Lib.hid (show Fits (gg : Int) from (Fits_iff _).2 (by rw [Int.natAbs_natCast, hg2]; exact Nat.lt_of_lt_of_le (gcd_le (by rw [hxa, sval_abs]; exact hfa) (by rw [hxb, sval_abs]; exact hfb)) h48))
  have HFA := Lib.hid (show Fits xa from (Fits_iff _).2 (by rw [hxa, sval_abs]; exact Nat.lt_of_lt_of_le hfa h48))
  have HFB := Lib.hid (show Fits xb from (Fits_iff _).2 (by rw [hxb, sval_abs]; exact Nat.lt_of_lt_of_le hfb h48))
  have HV := Lib.hid (And.intro hxa (And.intro hxb hgg))
  have GF := Lib.hid (show GcdF xa xb gg from by rw [hg2]; exact gcd_facts (.inr hb))
  have HSG := Lib.hid (show signI (gg : Int) = 1 from by have := GF.out.pos; unfold signI; rw [if_neg (by omega), if_pos (by omega)])
  obtain ⟨sn, hsn⟩ : ∃ s, s = signI (sval p2 l2) := ⟨_, rfl⟩
  have hsz : (sn == 0) = false := by rw [hsn, signI_zero, ← hxb]; exact decide_eq_false hb
  have HSN := Lib.hid hsn
  clear hsn
  have HSA := Lib.hid (show signI (sval p1 l1) = 0 from by rw [← hxa, ha]; rfl)
  clear ha hb
  have HL := Lib.hid (And.intro L1 L2)
  clear L1 L2 hfa hfb hg2 h48 hxa hxb hgg
  have X0 := env2 w (.bool p1) (.slice A1 n1 c1) (.bool p2) (.slice A2 n2 c2)
  have HT := Lib.hid ht
  clear ht
  go_enter Tryd.func12, Tryd.ntmps12
  go_wp2_with fail
  have hw1 : ((w.alloc (.cells #[.bool p1, .slice A1 n1 c1] 25)).alloc (.cells #[.bool p2, .slice A2 n2 c2] 25)).heap.size = w.heap.size + 1 + 1 := by simp only [World.size_alloc]
  generalize hB0 : w.heap.size = B0 at X0 hw1 ⊢
  have HSZ := Lib.hid (Nat.le_of_eq hB0)
  clear hB0
  generalize (w.alloc (.cells #[.bool p1, .slice A1 n1 c1] 25)).alloc (.cells #[.bool p2, .slice A2 n2 c2] 25) = w1 at X0 hw1 ⊢
  have HX := Lib.hid X0
  have HW1 := Lib.hid hw1
  clear X0 hw1
  have HX1 := Lib.hid ((HX.out.num (HL.out.1.keep0 HX.out.k)).num (HL.out.2.keep0 HX.out.k))
  clear HX
  have HX := Lib.hid HX1.out
  clear HX1
  refine (gcd2_any p1 A1 n1 c1 l1 p2 A2 n2 c2 l2 _ (HX.out.m _ (.tail _ (.head _))) (HX.out.m _ (.head _)) (by omega) (by omega) _ HW1.out.symm).mono ?_
  intro e w_g hres
  rw [← HV.out.2.2] at hres
  obtain ⟨k_g, q_g, A_g, n_g, c_g, l_g, f_g, rfl, LM, ln_g, ho⟩ := hres.gen
  have HO_g := Lib.hid ho
  clear ho hres
  have HX1 := Lib.hid ((HX.out.list _).keep k_g)
  clear HX k_g
  have HX := Lib.hid HX1.out
  clear HX1
  have HX1 := Lib.hid (HX.out.num LM)
  clear HX LM
  have HX := Lib.hid HX1.out
  clear HX1
  obtain rfl := HO_g.out.ok HFG.out
  have V_g := Lib.hid HO_g.out.val
  obtain ⟨s0, s1, sl⟩ := HX.out.cells (.head _)
  obtain ⟨r0, r1, rl⟩ := HX.out.cells (.tail _ (.head _))
  try dsimp only
  go_wp2_with fail
  clear s0 s1 sl r0 r1 rl
  have HX1 := Lib.hid (HX.out.box (.bool q_g) (.slice A_g n_g c_g))
  clear HX
  have HX := Lib.hid HX1.out
  clear HX1
  generalize hw5 : w_g.alloc (.cells #[.bool q_g, .slice A_g n_g c_g] 25) = w5 at HX ⊢
  clear hw5
  generalize w_g.heap.size = Bg at HX ⊢
  obtain ⟨g0, g1, gl⟩ := HX.out.cells (.head _)
  obtain ⟨s0, s1, sl⟩ := HX.out.cells (.tail _ (.head _))
  obtain ⟨r0, r1, rl⟩ := HX.out.cells (.tail _ (.tail _ (.head _)))
  have Kd : Keep (fun _ => False) w5 w5.drew := (Keep.refl _ _).drew
  have HCC := Lib.hid (fun (w' : World) (K' : Keep (fun _ => False) w5 w') => (show w'.cell? ⟨B0, 0, none⟩ = some (.bool p1) ∧ w'.cell? ⟨B0, 1, none⟩ = some (.slice A1 n1 c1) ∧ w'.cell? ⟨B0 + 1, 0, none⟩ = some (.bool p2) ∧ w'.cell? ⟨B0 + 1, 1, none⟩ = some (.slice A2 n2 c2) ∧ w'.cell? ⟨Bg, 0, none⟩ = some (.bool q_g) ∧ w'.cell? ⟨Bg, 1, none⟩ = some (.slice A_g n_g c_g) from by
    obtain ⟨ra, rb, _⟩ := (HX.out.keep K').cells (.tail _ (.tail _ (.head _)))
    obtain ⟨sa, sb, _⟩ := (HX.out.keep K').cells (.tail _ (.head _))
    obtain ⟨ga, gb, _⟩ := (HX.out.keep K').cells (.head _)
    exact ⟨ra, rb, sa, sb, ga, gb⟩))
  clear g0 g1 gl s0 s1 sl r0 r1 rl
  refine wp_region_held_drew (S := fun w' => w'.cell? ⟨B0, 0, none⟩ = some (.bool p1) ∧ w'.cell? ⟨B0, 1, none⟩ = some (.slice A1 n1 c1) ∧ w'.cell? ⟨B0 + 1, 0, none⟩ = some (.bool p2) ∧ w'.cell? ⟨B0 + 1, 1, none⟩ = some (.slice A2 n2 c2) ∧ w'.cell? ⟨Bg, 0, none⟩ = some (.bool q_g) ∧ w'.cell? ⟨Bg, 1, none⟩ = some (.slice A_g n_g c_g)) (by kernel_rfl) (HCC.out _ Kd) (fun hHeld => ?_)
  refine wpAnyH_take (i := 0) (oi := _) (v := ?_) rfl (by kernel_rfl) (by kernel_rfl) (by kernel_rfl) (fun _ _ _ h => h) (Or.inl ⟨by rfl, ?_⟩) (by assumption) ?_
  rotate_left
  · (intro w hSw; (try dsimp only at hSw); go_simp)
    all_goals with_reducible rfl
  refine wpAnyH_take (i := 1) (oi := _) (v := ?_) rfl (by kernel_rfl) (by kernel_rfl) (by kernel_rfl) (fun _ _ _ h => h) (Or.inl ⟨by rfl, ?_⟩) (by assumption) ?_
  rotate_left
  · (intro w hSw; (try dsimp only at hSw); go_simp)
    all_goals with_reducible rfl
  try dsimp only [List.getElem_toArray, List.getElem_cons_succ, List.getElem_cons_zero]
  try simp only [Act.put, List.setIfInBounds_toArray, List.set_cons_zero, List.set_cons_succ]
  refine wpAnyH_take (i := 2) (oi := _) (v := ?_) rfl (by kernel_rfl) (by kernel_rfl) (by kernel_rfl) (fun _ _ _ h => h) (Or.inl ⟨by rfl, ?_⟩) (by assumption) ?_
  rotate_left
  · (intro w hSw; (try dsimp only at hSw); go_simp)
    all_goals with_reducible rfl
  refine wpAnyH_take (i := 3) (oi := _) (v := ?_) rfl (by kernel_rfl) (by kernel_rfl) (by kernel_rfl) (fun _ _ _ h => h) (Or.inl ⟨by rfl, ?_⟩) (by assumption) ?_
  rotate_left
  · (intro w hSw; (try dsimp only at hSw); go_simp)
    all_goals with_reducible rfl
  try dsimp only [List.getElem_toArray, List.getElem_cons_succ, List.getElem_cons_zero]
  try simp only [Act.put, List.setIfInBounds_toArray, List.set_cons_zero, List.set_cons_succ]
  refine wpAnyH_ready (rs := [4]) (by kernel_rfl) (by simp) ?_
  refine AllReadyH.cons (o := _) rfl (fun K hK => ?_) AllReadyH.nil
  go_simp
  refine (sign_any q_g A_g n_g c_g l_g _ ((HX.out.keep Kd).m _ (.head _))).mono ?_
  rintro e wr1 ⟨rfl, kr⟩
  rw [V_g.out, HSG.out]
  have K1 : Keep (fun _ => False) w5 wr1 := Keep.trans Kd kr
  clear kr 
  try dsimp only
  go_wp2_with fail
  refine hK.out _ _ (HCC.out _ K1) (fun hHeld => ?_)
  clear hK K
  try dsimp only [List.getElem_toArray, List.getElem_cons_succ, List.getElem_cons_zero]
  try simp only [Act.put, List.setIfInBounds_toArray, List.set_cons_zero, List.set_cons_succ]
  refine wpAnyH_take (i := 5) (oi := _) (v := ?_) rfl (by kernel_rfl) (by kernel_rfl) (by kernel_rfl) (fun _ _ _ h => h) (Or.inl ⟨by rfl, ?_⟩) (by assumption) ?_
  rotate_left
  · (intro w hSw; (try dsimp only at hSw); go_simp)
    all_goals with_reducible rfl
  refine wpAnyH_take (i := 6) (oi := _) (v := ?_) rfl (by kernel_rfl) (by kernel_rfl) (by kernel_rfl) (fun _ _ _ h => h) (Or.inl ⟨by rfl, ?_⟩) (by assumption) ?_
  rotate_left
  · (intro w hSw; (try dsimp only at hSw); go_simp)
    all_goals with_reducible rfl
  try dsimp only [List.getElem_toArray, List.getElem_cons_succ, List.getElem_cons_zero]
  try simp only [Act.put, List.setIfInBounds_toArray, List.set_cons_zero, List.set_cons_succ]
  refine wpAnyH_take (i := 7) (oi := _) (v := ?_) rfl (by kernel_rfl) (by kernel_rfl) (by kernel_rfl) (fun _ _ _ h => h) (Or.inl ⟨by rfl, ?_⟩) (by assumption) ?_
  rotate_left
  · (intro w hSw; (try dsimp only at hSw); go_simp)
    all_goals with_reducible rfl
  refine wpAnyH_take (i := 8) (oi := _) (v := ?_) rfl (by kernel_rfl) (by kernel_rfl) (by kernel_rfl) (fun _ _ _ h => h) (Or.inl ⟨by rfl, ?_⟩) (by assumption) ?_
  rotate_left
  · (intro w hSw; (try dsimp only at hSw); go_simp)
    all_goals with_reducible rfl
  try dsimp only [List.getElem_toArray, List.getElem_cons_succ, List.getElem_cons_zero]
  try simp only [Act.put, List.setIfInBounds_toArray, List.set_cons_zero, List.set_cons_succ]
  refine wpAnyH_take (i := 11) (oi := _) (v := ?_) rfl (by kernel_rfl) (by kernel_rfl) (by kernel_rfl) (fun _ _ _ h => h) (Or.inl ⟨by rfl, ?_⟩) (by assumption) ?_
  rotate_left
  · (intro w hSw; (try dsimp only at hSw); go_simp)
    all_goals with_reducible rfl
  try dsimp only [List.getElem_toArray, List.getElem_cons_succ, List.getElem_cons_zero]
  try simp only [Act.put, List.setIfInBounds_toArray, List.set_cons_zero, List.set_cons_succ]
  refine wpAnyH_ready (rs := [9]) (by kernel_rfl) (by simp) ?_
  refine AllReadyH.cons (o := _) rfl (fun K hK => ?_) AllReadyH.nil
  go_simp
  refine (sign_any q_g A_g n_g c_g l_g _ ((HX.out.keep K1).m _ (.head _))).mono ?_
  rintro e wr2 ⟨rfl, kr⟩
  rw [V_g.out, HSG.out]
  have K2 : Keep (fun _ => False) w5 wr2 := Keep.trans K1 kr
  clear kr K1
  try dsimp only
  go_wp2_with fail
  refine hK.out _ _ (HCC.out _ K2) (fun hHeld => ?_)
  clear hK K
  refine wpAnyH_take (i := 10) (oi := _) (v := ?_) rfl (by kernel_rfl) (by kernel_rfl) (by kernel_rfl) (fun _ _ _ h => h) (Or.inl ⟨by rfl, ?_⟩) (by assumption) ?_
  rotate_left
  · (intro w hSw; (try dsimp only at hSw); go_simp)
    all_goals with_reducible rfl
  try dsimp only [List.getElem_toArray, List.getElem_cons_succ, List.getElem_cons_zero]
  try simp only [Act.put, List.setIfInBounds_toArray, List.set_cons_zero, List.set_cons_succ]
  refine wpAnyH_ready (rs := [12]) (by kernel_rfl) (by simp) ?_
  refine AllReadyH.cons (o := _) rfl (fun K hK => ?_) AllReadyH.nil
  go_simp
  refine (sign_any p1 A1 n1 c1 l1 _ ((HX.out.keep K2).m _ (.tail _ (.tail _ (.head _))))).mono ?_
  rintro e wr3 ⟨rfl, kr⟩
  rw [HSA.out]
  have K3 : Keep (fun _ => False) w5 wr3 := Keep.trans K2 kr
  clear kr K2
  try dsimp only
  go_wp2_with fail
  refine hK.out _ _ (HCC.out _ K3) (fun hHeld => ?_)
  clear hK K
  try dsimp only [List.getElem_toArray, List.getElem_cons_succ, List.getElem_cons_zero]
  try simp only [Act.put, List.setIfInBounds_toArray, List.set_cons_zero, List.set_cons_succ]
  refine wpAnyH_take (i := 13) (oi := _) (v := ?_) rfl (by kernel_rfl) (by kernel_rfl) (by kernel_rfl) (fun _ _ _ h => h) (Or.inl ⟨by rfl, ?_⟩) (by assumption) ?_
  rotate_left
  · (intro w hSw; (try dsimp only at hSw); go_simp)
    all_goals with_reducible rfl
  refine wpAnyH_take (i := 14) (oi := _) (v := ?_) rfl (by kernel_rfl) (by kernel_rfl) (by kernel_rfl) (fun _ _ _ h => h) (Or.inl ⟨by rfl, ?_⟩) (by assumption) ?_
  rotate_left
  · (intro w hSw; (try dsimp only at hSw); go_simp)
    all_goals with_reducible rfl
  try dsimp only [List.getElem_toArray, List.getElem_cons_succ, List.getElem_cons_zero]
  try simp only [Act.put, List.setIfInBounds_toArray, List.set_cons_zero, List.set_cons_succ]
  refine wpAnyH_take (i := 15) (oi := _) (v := ?_) rfl (by kernel_rfl) (by kernel_rfl) (by kernel_rfl) (fun _ _ _ h => h) (Or.inl ⟨by rfl, ?_⟩) (by assumption) ?_
  rotate_left
  · (intro w hSw; (try dsimp only at hSw); go_simp)
    all_goals with_reducible rfl
  try dsimp only [List.getElem_toArray, List.getElem_cons_succ, List.getElem_cons_zero]
  try simp only [Act.put, List.setIfInBounds_toArray, List.set_cons_zero, List.set_cons_succ]
  refine wpAnyH_ready (rs := [16]) (by kernel_rfl) (by simp) ?_
  refine AllReadyH.cons (o := _) rfl (fun K hK => ?_) AllReadyH.nil
  go_simp
  refine (sign_any p2 A2 n2 c2 l2 _ ((HX.out.keep K3).m _ (.tail _ (.head _)))).mono ?_
  rintro e wr4 ⟨rfl, kr⟩
  rw [← HSN.out]
  have K4 : Keep (fun _ => False) w5 wr4 := Keep.trans K3 kr
  clear kr K3
  try dsimp only
  go_wp2_with fail
  refine hK.out _ _ (HCC.out _ K4) (fun hHeld => ?_)
  clear hK K
  refine wpAnyH_take (i := 17) (oi := _) (v := ?_) rfl (by kernel_rfl) (by kernel_rfl) (by kernel_rfl) (fun _ _ _ h => h) (Or.inl ⟨by rfl, ?_⟩) (by assumption) ?_
  rotate_left
  · (intro w hSw; (try dsimp only at hSw); go_simp)
    all_goals with_reducible rfl
  try dsimp only [List.getElem_toArray, List.getElem_cons_succ, List.getElem_cons_zero]
  try simp only [Act.put, List.setIfInBounds_toArray, List.set_cons_zero, List.set_cons_succ]
  refine wpAnyH_take (i := 18) (oi := _) (v := ?_) rfl (by kernel_rfl) (by kernel_rfl) (by kernel_rfl) (fun _ _ _ h => h) (Or.inl ⟨by rfl, ?_⟩) (by assumption) ?_
  rotate_left
  · (intro w hSw; (try dsimp only at hSw); go_simp)
    all_goals with_reducible rfl
  refine wpAnyH_take (i := 19) (oi := _) (v := ?_) rfl (by kernel_rfl) (by kernel_rfl) (by kernel_rfl) (fun _ _ _ h => h) (Or.inl ⟨by rfl, ?_⟩) (by assumption) ?_
  rotate_left
  · (intro w hSw; (try dsimp only at hSw); go_simp)
    all_goals with_reducible rfl
  try dsimp only [List.getElem_toArray, List.getElem_cons_succ, List.getElem_cons_zero]
  try simp only [Act.put, List.setIfInBounds_toArray, List.set_cons_zero, List.set_cons_succ]
  refine wpAnyH_take (i := 20) (oi := _) (v := ?_) rfl (by kernel_rfl) (by kernel_rfl) (by kernel_rfl) (fun _ _ _ h => h) (Or.inl ⟨by rfl, ?_⟩) (by assumption) ?_
  rotate_left
  · (intro w hSw; (try dsimp only at hSw); go_simp)
    all_goals with_reducible rfl
  try dsimp only [List.getElem_toArray, List.getElem_cons_succ, List.getElem_cons_zero]
  try simp only [Act.put, List.setIfInBounds_toArray, List.set_cons_zero, List.set_cons_succ]
  refine wpAnyH_done (by kernel_rfl) ?_ _
  have KK := K4
  clear K4
  have HX1 := Lib.hid (HX.out.keep KK)
  clear HX
  have HX := Lib.hid HX1.out
  clear HX1
  clear HCC KK
  obtain ⟨g0, g1, gl⟩ := HX.out.cells (.head _)
  obtain ⟨s0, s1, sl⟩ := HX.out.cells (.tail _ (.head _))
  obtain ⟨r0, r1, rl⟩ := HX.out.cells (.tail _ (.tail _ (.head _)))
  try dsimp only
  go_wp2_with fail
  clear g0 g1 gl s0 s1 sl r0 r1 rl
  refine (sign_any q_g A_g n_g c_g l_g _ (HX.out.m _ (.head _))).mono ?_
  rintro e wi ⟨rfl, ki⟩
  rw [V_g.out, HSG.out]
  have HX1 := Lib.hid (HX.out.keep ki)
  clear HX ki
  have HX := Lib.hid HX1.out
  clear HX1
  obtain ⟨g0, g1, gl⟩ := HX.out.cells (.head _)
  obtain ⟨s0, s1, sl⟩ := HX.out.cells (.tail _ (.head _))
  obtain ⟨r0, r1, rl⟩ := HX.out.cells (.tail _ (.tail _ (.head _)))
  try dsimp only
  go_wp2_with fail
  clear g0 g1 gl s0 s1 sl r0 r1 rl
  have HG0 := Lib.hid (show 0 < lval l_g from by have h := GF.out.pos; have h2 := sval_abs q_g l_g; rw [V_g.out] at h2; omega)
  refine (quo_any p1 A1 n1 c1 l1 q_g A_g n_g c_g l_g _ (HX.out.m _ (.tail _ (.tail _ (.head _)))) (HX.out.m _ (.head _)) (by omega) (by omega) HG0.out).mono ?_
  intro e w_x hres
  rw [← HV.out.1, V_g.out] at hres
  obtain ⟨k_x, q_x, A_x, n_x, c_x, l_x, f_x, rfl, LM, ln_x, ho⟩ := hres.gen
  have HO_x := Lib.hid ho
  clear ho hres
  have HX1 := Lib.hid (HX.out.keep k_x)
  clear HX k_x
  have HX := Lib.hid HX1.out
  clear HX1
  have HX1 := Lib.hid (HX.out.num LM)
  clear HX LM
  have HX := Lib.hid HX1.out
  clear HX1
  obtain rfl := HO_x.out.ok (HFA.out.le (by rw [Int.natAbs_tdiv]; exact Nat.div_le_self _ _))
  have V_x := Lib.hid HO_x.out.val
  obtain ⟨g0, g1, gl⟩ := HX.out.cells (.head _)
  obtain ⟨s0, s1, sl⟩ := HX.out.cells (.tail _ (.head _))
  obtain ⟨r0, r1, rl⟩ := HX.out.cells (.tail _ (.tail _ (.head _)))
  try dsimp only
  go_wp2_with fail
  clear g0 g1 gl s0 s1 sl r0 r1 rl
  have HX1 := Lib.hid (HX.out.box (.bool q_x) (.slice A_x n_x c_x))
  clear HX
  have HX := Lib.hid HX1.out
  clear HX1
  refine (quo_any p2 A2 n2 c2 l2 q_g A_g n_g c_g l_g _ (HX.out.m _ (.tail _ (.tail _ (.head _)))) (HX.out.m _ (.tail _ (.head _))) (by omega) (by omega) HG0.out).mono ?_
  intro e w_y hres
  rw [← HV.out.2.1, V_g.out] at hres
  obtain ⟨k_y, q_y, A_y, n_y, c_y, l_y, f_y, rfl, LM, ln_y, ho⟩ := hres.gen
  have HO_y := Lib.hid ho
  clear ho hres
  have HX1 := Lib.hid (HX.out.keep k_y)
  clear HX k_y
  have HX := Lib.hid HX1.out
  clear HX1
  have HX1 := Lib.hid (HX.out.num LM)
  clear HX LM
  have HX := Lib.hid HX1.out
  clear HX1
  obtain rfl := HO_y.out.ok (HFB.out.le (by rw [Int.natAbs_tdiv]; exact Nat.div_le_self _ _))
  have V_y := Lib.hid HO_y.out.val
  obtain ⟨x0, x1, xl⟩ := HX.out.cells (.head _)
  obtain ⟨g0, g1, gl⟩ := HX.out.cells (.tail _ (.head _))
  obtain ⟨s0, s1, sl⟩ := HX.out.cells (.tail _ (.tail _ (.head _)))
  obtain ⟨r0, r1, rl⟩ := HX.out.cells (.tail _ (.tail _ (.tail _ (.head _))))
  try dsimp only
  go_wp2_with fail
  clear x0 x1 xl g0 g1 gl s0 s1 sl r0 r1 rl
  have HX1 := Lib.hid (HX.out.box (.bool q_y) (.slice A_y n_y c_y))
  clear HX
  have HX := Lib.hid HX1.out
  clear HX1
  refine (rem_any p1 A1 n1 c1 l1 q_g A_g n_g c_g l_g _ (HX.out.m _ (.tail _ (.tail _ (.tail _ (.tail _ (.head _)))))) (HX.out.m _ (.tail _ (.tail _ (.head _)))) (by omega) (by omega) HG0.out).mono ?_
  intro e w_u hres
  rw [← HV.out.1, V_g.out, GF.out.ra] at hres
  obtain ⟨k_u, q_u, A_u, n_u, c_u, l_u, f_u, rfl, LM, ln_u, ho⟩ := hres.gen
  have HO_u := Lib.hid ho
  clear ho hres
  have HX1 := Lib.hid (HX.out.keep k_u)
  clear HX k_u
  have HX := Lib.hid HX1.out
  clear HX1
  have HX1 := Lib.hid (HX.out.num LM)
  clear HX LM
  have HX := Lib.hid HX1.out
  clear HX1
  obtain rfl := HO_u.out.ok (small_fits (by decide))
  have V_u := Lib.hid HO_u.out.val
  obtain ⟨y0, y1, yl⟩ := HX.out.cells (.head _)
  obtain ⟨x0, x1, xl⟩ := HX.out.cells (.tail _ (.head _))
  obtain ⟨g0, g1, gl⟩ := HX.out.cells (.tail _ (.tail _ (.head _)))
  obtain ⟨s0, s1, sl⟩ := HX.out.cells (.tail _ (.tail _ (.tail _ (.head _))))
  obtain ⟨r0, r1, rl⟩ := HX.out.cells (.tail _ (.tail _ (.tail _ (.tail _ (.head _)))))
  try dsimp only
  go_wp2_with fail
  clear y0 y1 yl x0 x1 xl g0 g1 gl s0 s1 sl r0 r1 rl
  have HX1 := Lib.hid (HX.out.box (.bool q_u) (.slice A_u n_u c_u))
  clear HX
  have HX := Lib.hid HX1.out
  clear HX1
  refine (rem_any p2 A2 n2 c2 l2 q_g A_g n_g c_g l_g _ (HX.out.m _ (.tail _ (.tail _ (.tail _ (.tail _ (.head _)))))) (HX.out.m _ (.tail _ (.tail _ (.tail _ (.head _))))) (by omega) (by omega) HG0.out).mono ?_
  intro e w_v hres
  rw [← HV.out.2.1, V_g.out, GF.out.rb] at hres
  obtain ⟨k_v, q_v, A_v, n_v, c_v, l_v, f_v, rfl, LM, ln_v, ho⟩ := hres.gen
  have HO_v := Lib.hid ho
  clear ho hres
  have HX1 := Lib.hid (HX.out.keep k_v)
  clear HX k_v
  have HX := Lib.hid HX1.out
  clear HX1
  have HX1 := Lib.hid (HX.out.num LM)
  clear HX LM
  have HX := Lib.hid HX1.out
  clear HX1
  obtain rfl := HO_v.out.ok (small_fits (by decide))
  have V_v := Lib.hid HO_v.out.val
  obtain ⟨u0, u1, ul⟩ := HX.out.cells (.head _)
  obtain ⟨y0, y1, yl⟩ := HX.out.cells (.tail _ (.head _))
  obtain ⟨x0, x1, xl⟩ := HX.out.cells (.tail _ (.tail _ (.head _)))
  obtain ⟨g0, g1, gl⟩ := HX.out.cells (.tail _ (.tail _ (.tail _ (.head _))))
  obtain ⟨s0, s1, sl⟩ := HX.out.cells (.tail _ (.tail _ (.tail _ (.tail _ (.head _)))))
  obtain ⟨r0, r1, rl⟩ := HX.out.cells (.tail _ (.tail _ (.tail _ (.tail _ (.tail _ (.head _))))))
  try dsimp only
  go_wp2_with fail
  clear u0 u1 ul y0 y1 yl x0 x1 xl g0 g1 gl s0 s1 sl r0 r1 rl
  have HX1 := Lib.hid (HX.out.box (.bool q_v) (.slice A_v n_v c_v))
  clear HX
  have HX := Lib.hid HX1.out
  clear HX1
  have HONE := Lib.hid (show Nat.gcd (lval l_x) (lval l_y) = 1 from by have h1 := sval_abs q_x l_x; have h2 := sval_abs q_y l_y; rw [V_x.out] at h1; rw [V_y.out] at h2; rw [← h1, ← h2]; exact GF.out.one)
  refine (gcd2_any q_x A_x n_x c_x l_x q_y A_y n_y c_y l_y _ (HX.out.m _ (.tail _ (.tail _ (.tail _ (.head _))))) (HX.out.m _ (.tail _ (.tail _ (.head _)))) (by omega) (by omega) _ (by simp only [World.size_alloc])).mono ?_
  intro e w_o hres
  rw [HONE.out] at hres
  obtain ⟨k_o, q_o, A_o, n_o, c_o, l_o, f_o, rfl, LM, ln_o, ho⟩ := hres.gen
  have HO_o := Lib.hid ho
  clear ho hres
  have HX1 := Lib.hid ((HX.out.list _).keep k_o)
  clear HX k_o
  have HX := Lib.hid HX1.out
  clear HX1
  have HX1 := Lib.hid (HX.out.num LM)
  clear HX LM
  have HX := Lib.hid HX1.out
  clear HX1
  obtain rfl := HO_o.out.ok (small_fits (by decide))
  have V_o := Lib.hid HO_o.out.val
  obtain ⟨v0, v1, vl⟩ := HX.out.cells (.head _)
  obtain ⟨u0, u1, ul⟩ := HX.out.cells (.tail _ (.head _))
  obtain ⟨y0, y1, yl⟩ := HX.out.cells (.tail _ (.tail _ (.head _)))
  obtain ⟨x0, x1, xl⟩ := HX.out.cells (.tail _ (.tail _ (.tail _ (.head _))))
  obtain ⟨g0, g1, gl⟩ := HX.out.cells (.tail _ (.tail _ (.tail _ (.tail _ (.head _)))))
  obtain ⟨s0, s1, sl⟩ := HX.out.cells (.tail _ (.tail _ (.tail _ (.tail _ (.tail _ (.head _))))))
  obtain ⟨r0, r1, rl⟩ := HX.out.cells (.tail _ (.tail _ (.tail _ (.tail _ (.tail _ (.tail _ (.head _)))))))
  try dsimp only
  go_wp2_with fail
  clear v0 v1 vl u0 u1 ul y0 y1 yl x0 x1 xl g0 g1 gl s0 s1 sl r0 r1 rl
  have HX1 := Lib.hid (HX.out.box (.bool q_o) (.slice A_o n_o c_o))
  clear HX
  have HX := Lib.hid HX1.out
  clear HX1
  generalize hw6 : w_o.alloc (.cells #[.bool q_o, .slice A_o n_o c_o] 25) = w6 at HX ⊢
  clear hw6
  generalize w_u.heap.size = Bu at HX ⊢
  generalize w_v.heap.size = Bv at HX ⊢
  generalize w_o.heap.size = Bo at HX ⊢
  obtain ⟨o0, o1, ol⟩ := HX.out.cells (.head _)
  obtain ⟨v0, v1, vl⟩ := HX.out.cells (.tail _ (.head _))
  obtain ⟨u0, u1, ul⟩ := HX.out.cells (.tail _ (.tail _ (.head _)))
  obtain ⟨y0, y1, yl⟩ := HX.out.cells (.tail _ (.tail _ (.tail _ (.head _))))
  obtain ⟨x0, x1, xl⟩ := HX.out.cells (.tail _ (.tail _ (.tail _ (.tail _ (.head _)))))
  obtain ⟨g0, g1, gl⟩ := HX.out.cells (.tail _ (.tail _ (.tail _ (.tail _ (.tail _ (.head _))))))
  obtain ⟨s0, s1, sl⟩ := HX.out.cells (.tail _ (.tail _ (.tail _ (.tail _ (.tail _ (.tail _ (.head _)))))))
  obtain ⟨r0, r1, rl⟩ := HX.out.cells (.tail _ (.tail _ (.tail _ (.tail _ (.tail _ (.tail _ (.tail _ (.head _))))))))
  have Kd : Keep (fun _ => False) w6 w6.drew := (Keep.refl _ _).drew
  have HCC := Lib.hid (fun (w' : World) (K' : Keep (fun _ => False) w6 w') => (show w'.cell? ⟨Bu, 0, none⟩ = some (.bool q_u) ∧ w'.cell? ⟨Bu, 1, none⟩ = some (.slice A_u n_u c_u) ∧ w'.cell? ⟨Bv, 0, none⟩ = some (.bool q_v) ∧ w'.cell? ⟨Bv, 1, none⟩ = some (.slice A_v n_v c_v) ∧ w'.cell? ⟨Bo, 0, none⟩ = some (.bool q_o) ∧ w'.cell? ⟨Bo, 1, none⟩ = some (.slice A_o n_o c_o) from by
    obtain ⟨ua, ub, _⟩ := (HX.out.keep K').cells (.tail _ (.tail _ (.head _)))
    obtain ⟨va, vb, _⟩ := (HX.out.keep K').cells (.tail _ (.head _))
    obtain ⟨oa, ob, _⟩ := (HX.out.keep K').cells (.head _)
    exact ⟨ua, ub, va, vb, oa, ob⟩))
  clear o0 o1 ol v0 v1 vl u0 u1 ul y0 y1 yl x0 x1 xl g0 g1 gl s0 s1 sl r0 r1 rl
  refine wp_region_held_drew (S := fun w' => w'.cell? ⟨Bu, 0, none⟩ = some (.bool q_u) ∧ w'.cell? ⟨Bu, 1, none⟩ = some (.slice A_u n_u c_u) ∧ w'.cell? ⟨Bv, 0, none⟩ = some (.bool q_v) ∧ w'.cell? ⟨Bv, 1, none⟩ = some (.slice A_v n_v c_v) ∧ w'.cell? ⟨Bo, 0, none⟩ = some (.bool q_o) ∧ w'.cell? ⟨Bo, 1, none⟩ = some (.slice A_o n_o c_o)) (by kernel_rfl) (HCC.out _ Kd) (fun hHeld => ?_)
  refine wpAnyH_take (i := 0) (oi := _) (v := ?_) rfl (by kernel_rfl) (by kernel_rfl) (by kernel_rfl) (fun _ _ _ h => h) (Or.inl ⟨by rfl, ?_⟩) (by assumption) ?_
  rotate_left
  · (intro w hSw; (try dsimp only at hSw); go_simp)
    all_goals with_reducible rfl
  refine wpAnyH_take (i := 1) (oi := _) (v := ?_) rfl (by kernel_rfl) (by kernel_rfl) (by kernel_rfl) (fun _ _ _ h => h) (Or.inl ⟨by rfl, ?_⟩) (by assumption) ?_
  rotate_left
  · (intro w hSw; (try dsimp only at hSw); go_simp)
    all_goals with_reducible rfl
  try dsimp only [List.getElem_toArray, List.getElem_cons_succ, List.getElem_cons_zero]
  try simp only [Act.put, List.setIfInBounds_toArray, List.set_cons_zero, List.set_cons_succ]
  refine wpAnyH_take (i := 2) (oi := _) (v := ?_) rfl (by kernel_rfl) (by kernel_rfl) (by kernel_rfl) (fun _ _ _ h => h) (Or.inl ⟨by rfl, ?_⟩) (by assumption) ?_
  rotate_left
  · (intro w hSw; (try dsimp only at hSw); go_simp)
    all_goals with_reducible rfl
  refine wpAnyH_take (i := 3) (oi := _) (v := ?_) rfl (by kernel_rfl) (by kernel_rfl) (by kernel_rfl) (fun _ _ _ h => h) (Or.inl ⟨by rfl, ?_⟩) (by assumption) ?_
  rotate_left
  · (intro w hSw; (try dsimp only at hSw); go_simp)
    all_goals with_reducible rfl
  try dsimp only [List.getElem_toArray, List.getElem_cons_succ, List.getElem_cons_zero]
  try simp only [Act.put, List.setIfInBounds_toArray, List.set_cons_zero, List.set_cons_succ]
  refine wpAnyH_take (i := 4) (oi := _) (v := ?_) rfl (by kernel_rfl) (by kernel_rfl) (by kernel_rfl) (fun _ _ _ h => h) (Or.inl ⟨by rfl, ?_⟩) (by assumption) ?_
  rotate_left
  · (intro w hSw; (try dsimp only at hSw); go_simp)
    all_goals with_reducible rfl
  refine wpAnyH_take (i := 5) (oi := _) (v := ?_) rfl (by kernel_rfl) (by kernel_rfl) (by kernel_rfl) (fun _ _ _ h => h) (Or.inl ⟨by rfl, ?_⟩) (by assumption) ?_
  rotate_left
  · (intro w hSw; (try dsimp only at hSw); go_simp)
    all_goals with_reducible rfl
  try dsimp only [List.getElem_toArray, List.getElem_cons_succ, List.getElem_cons_zero]
  try simp only [Act.put, List.setIfInBounds_toArray, List.set_cons_zero, List.set_cons_succ]
  refine wpAnyH_take (i := 6) (oi := _) (v := ?_) rfl (by kernel_rfl) (by kernel_rfl) (by kernel_rfl) (fun _ _ _ h => h) (Or.inl ⟨by rfl, ?_⟩) (by assumption) ?_
  rotate_left
  · (intro w hSw; (try dsimp only at hSw); go_simp)
    all_goals with_reducible rfl
  refine wpAnyH_take (i := 7) (oi := _) (v := ?_) rfl (by kernel_rfl) (by kernel_rfl) (by kernel_rfl) (fun _ _ _ h => h) (Or.inl ⟨by rfl, ?_⟩) (by assumption) ?_
  rotate_left
  · (intro w hSw; (try dsimp only at hSw); go_simp)
    all_goals with_reducible rfl
  try dsimp only [List.getElem_toArray, List.getElem_cons_succ, List.getElem_cons_zero]
  try simp only [Act.put, List.setIfInBounds_toArray, List.set_cons_zero, List.set_cons_succ]
  refine wpAnyH_take (i := 8) (oi := _) (v := ?_) rfl (by kernel_rfl) (by kernel_rfl) (by kernel_rfl) (fun _ _ _ h => h) (Or.inl ⟨by rfl, ?_⟩) (by assumption) ?_
  rotate_left
  · (intro w hSw; (try dsimp only at hSw); go_simp)
    all_goals with_reducible rfl
  refine wpAnyH_take (i := 9) (oi := _) (v := ?_) rfl (by kernel_rfl) (by kernel_rfl) (by kernel_rfl) (fun _ _ _ h => h) (Or.inl ⟨by rfl, ?_⟩) (by assumption) ?_
  rotate_left
  · (intro w hSw; (try dsimp only at hSw); go_simp)
    all_goals with_reducible rfl
  try dsimp only [List.getElem_toArray, List.getElem_cons_succ, List.getElem_cons_zero]
  try simp only [Act.put, List.setIfInBounds_toArray, List.set_cons_zero, List.set_cons_succ]
  refine wpAnyH_take (i := 10) (oi := _) (v := ?_) rfl (by kernel_rfl) (by kernel_rfl) (by kernel_rfl) (fun _ _ _ h => h) (Or.inl ⟨by rfl, ?_⟩) (by assumption) ?_
  rotate_left
  · (intro w hSw; (try dsimp only at hSw); go_simp)
    all_goals with_reducible rfl
  refine wpAnyH_take (i := 11) (oi := _) (v := ?_) rfl (by kernel_rfl) (by kernel_rfl) (by kernel_rfl) (fun _ _ _ h => h) (Or.inl ⟨by rfl, ?_⟩) (by assumption) ?_
  rotate_left
  · (intro w hSw; (try dsimp only at hSw); go_simp)
    all_goals with_reducible rfl
  try dsimp only [List.getElem_toArray, List.getElem_cons_succ, List.getElem_cons_zero]
  try simp only [Act.put, List.setIfInBounds_toArray, List.set_cons_zero, List.set_cons_succ]
  refine wpAnyH_take (i := 12) (oi := _) (v := ?_) rfl (by kernel_rfl) (by kernel_rfl) (by kernel_rfl) (fun _ _ _ h => h) (Or.inl ⟨by rfl, ?_⟩) (by assumption) ?_
  rotate_left
  · (intro w hSw; (try dsimp only at hSw); go_simp)
    all_goals with_reducible rfl
  refine wpAnyH_take (i := 13) (oi := _) (v := ?_) rfl (by kernel_rfl) (by kernel_rfl) (by kernel_rfl) (fun _ _ _ h => h) (Or.inl ⟨by rfl, ?_⟩) (by assumption) ?_
  rotate_left
  · (intro w hSw; (try dsimp only at hSw); go_simp)
    all_goals with_reducible rfl
  try dsimp only [List.getElem_toArray, List.getElem_cons_succ, List.getElem_cons_zero]
  try simp only [Act.put, List.setIfInBounds_toArray, List.set_cons_zero, List.set_cons_succ]
  refine wpAnyH_take (i := 14) (oi := _) (v := ?_) rfl (by kernel_rfl) (by kernel_rfl) (by kernel_rfl) (fun _ _ _ h => h) (Or.inl ⟨by rfl, ?_⟩) (by assumption) ?_
  rotate_left
  · (intro w hSw; (try dsimp only at hSw); go_simp)
    all_goals with_reducible rfl
  refine wpAnyH_take (i := 15) (oi := _) (v := ?_) rfl (by kernel_rfl) (by kernel_rfl) (by kernel_rfl) (fun _ _ _ h => h) (Or.inl ⟨by rfl, ?_⟩) (by assumption) ?_
  rotate_left
  · (intro w hSw; (try dsimp only at hSw); go_simp)
    all_goals with_reducible rfl
  try dsimp only [List.getElem_toArray, List.getElem_cons_succ, List.getElem_cons_zero]
  try simp only [Act.put, List.setIfInBounds_toArray, List.set_cons_zero, List.set_cons_succ]
  refine wpAnyH_take (i := 16) (oi := _) (v := ?_) rfl (by kernel_rfl) (by kernel_rfl) (by kernel_rfl) (fun _ _ _ h => h) (Or.inl ⟨by rfl, ?_⟩) (by assumption) ?_
  rotate_left
  · (intro w hSw; (try dsimp only at hSw); go_simp)
    all_goals with_reducible rfl
  refine wpAnyH_take (i := 17) (oi := _) (v := ?_) rfl (by kernel_rfl) (by kernel_rfl) (by kernel_rfl) (fun _ _ _ h => h) (Or.inl ⟨by rfl, ?_⟩) (by assumption) ?_
  rotate_left
  · (intro w hSw; (try dsimp only at hSw); go_simp)
    all_goals with_reducible rfl
  try dsimp only [List.getElem_toArray, List.getElem_cons_succ, List.getElem_cons_zero]
  try simp only [Act.put, List.setIfInBounds_toArray, List.set_cons_zero, List.set_cons_succ]
  refine wpAnyH_take (i := 18) (oi := _) (v := ?_) rfl (by kernel_rfl) (by kernel_rfl) (by kernel_rfl) (fun _ _ _ h => h) (Or.inl ⟨by rfl, ?_⟩) (by assumption) ?_
  rotate_left
  · (intro w hSw; (try dsimp only at hSw); go_simp)
    all_goals with_reducible rfl
  refine wpAnyH_take (i := 19) (oi := _) (v := ?_) rfl (by kernel_rfl) (by kernel_rfl) (by kernel_rfl) (fun _ _ _ h => h) (Or.inl ⟨by rfl, ?_⟩) (by assumption) ?_
  rotate_left
  · (intro w hSw; (try dsimp only at hSw); go_simp)
    all_goals with_reducible rfl
  try dsimp only [List.getElem_toArray, List.getElem_cons_succ, List.getElem_cons_zero]
  try simp only [Act.put, List.setIfInBounds_toArray, List.set_cons_zero, List.set_cons_succ]
  refine wpAnyH_ready (rs := [20]) (by kernel_rfl) (by simp) ?_
  refine AllReadyH.cons (o := _) rfl (fun K hK => ?_) AllReadyH.nil
  go_simp
  refine (sign_any q_u A_u n_u c_u l_u _ ((HX.out.keep Kd).m _ (.tail _ (.tail _ (.head _))))).mono ?_
  rintro e wr1 ⟨rfl, kr⟩
  rw [V_u.out, show signI 0 = 0 from rfl]
  have K1 : Keep (fun _ => False) w6 wr1 := Keep.trans Kd kr
  clear kr 
  try dsimp only
  go_wp2_with fail
  refine hK.out _ _ (HCC.out _ K1) (fun hHeld => ?_)
  clear hK K
  try dsimp only [List.getElem_toArray, List.getElem_cons_succ, List.getElem_cons_zero]
  try simp only [Act.put, List.setIfInBounds_toArray, List.set_cons_zero, List.set_cons_succ]
  refine wpAnyH_take (i := 21) (oi := _) (v := ?_) rfl (by kernel_rfl) (by kernel_rfl) (by kernel_rfl) (fun _ _ _ h => h) (Or.inl ⟨by rfl, ?_⟩) (by assumption) ?_
  rotate_left
  · (intro w hSw; (try dsimp only at hSw); go_simp)
    all_goals with_reducible rfl
  refine wpAnyH_take (i := 22) (oi := _) (v := ?_) rfl (by kernel_rfl) (by kernel_rfl) (by kernel_rfl) (fun _ _ _ h => h) (Or.inl ⟨by rfl, ?_⟩) (by assumption) ?_
  rotate_left
  · (intro w hSw; (try dsimp only at hSw); go_simp)
    all_goals with_reducible rfl
  try dsimp only [List.getElem_toArray, List.getElem_cons_succ, List.getElem_cons_zero]
  try simp only [Act.put, List.setIfInBounds_toArray, List.set_cons_zero, List.set_cons_succ]
  refine wpAnyH_take (i := 23) (oi := _) (v := ?_) rfl (by kernel_rfl) (by kernel_rfl) (by kernel_rfl) (fun _ _ _ h => h) (Or.inl ⟨by rfl, ?_⟩) (by assumption) ?_
  rotate_left
  · (intro w hSw; (try dsimp only at hSw); go_simp)
    all_goals with_reducible rfl
  refine wpAnyH_take (i := 24) (oi := _) (v := ?_) rfl (by kernel_rfl) (by kernel_rfl) (by kernel_rfl) (fun _ _ _ h => h) (Or.inl ⟨by rfl, ?_⟩) (by assumption) ?_
  rotate_left
  · (intro w hSw; (try dsimp only at hSw); go_simp)
    all_goals with_reducible rfl
  try dsimp only [List.getElem_toArray, List.getElem_cons_succ, List.getElem_cons_zero]
  try simp only [Act.put, List.setIfInBounds_toArray, List.set_cons_zero, List.set_cons_succ]
  refine wpAnyH_ready (rs := [25]) (by kernel_rfl) (by simp) ?_
  refine AllReadyH.cons (o := _) rfl (fun K hK => ?_) AllReadyH.nil
  go_simp
  refine (sign_any q_v A_v n_v c_v l_v _ ((HX.out.keep K1).m _ (.tail _ (.head _)))).mono ?_
  rintro e wr2 ⟨rfl, kr⟩
  rw [V_v.out, show signI 0 = 0 from rfl]
  have K2 : Keep (fun _ => False) w6 wr2 := Keep.trans K1 kr
  clear kr K1
  try dsimp only
  go_wp2_with fail
  refine hK.out _ _ (HCC.out _ K2) (fun hHeld => ?_)
  clear hK K
  try dsimp only [List.getElem_toArray, List.getElem_cons_succ, List.getElem_cons_zero]
  try simp only [Act.put, List.setIfInBounds_toArray, List.set_cons_zero, List.set_cons_succ]
  refine wpAnyH_take (i := 26) (oi := _) (v := ?_) rfl (by kernel_rfl) (by kernel_rfl) (by kernel_rfl) (fun _ _ _ h => h) (Or.inl ⟨by rfl, ?_⟩) (by assumption) ?_
  rotate_left
  · (intro w hSw; (try dsimp only at hSw); go_simp)
    all_goals with_reducible rfl
  refine wpAnyH_take (i := 27) (oi := _) (v := ?_) rfl (by kernel_rfl) (by kernel_rfl) (by kernel_rfl) (fun _ _ _ h => h) (Or.inl ⟨by rfl, ?_⟩) (by assumption) ?_
  rotate_left
  · (intro w hSw; (try dsimp only at hSw); go_simp)
    all_goals with_reducible rfl
  try dsimp only [List.getElem_toArray, List.getElem_cons_succ, List.getElem_cons_zero]
  try simp only [Act.put, List.setIfInBounds_toArray, List.set_cons_zero, List.set_cons_succ]
  refine wpAnyH_take (i := 28) (oi := _) (v := ?_) rfl (by kernel_rfl) (by kernel_rfl) (by kernel_rfl) (fun _ _ _ h => h) (Or.inl ⟨by rfl, ?_⟩) (by assumption) ?_
  rotate_left
  · (intro w hSw; (try dsimp only at hSw); go_simp)
    all_goals with_reducible rfl
  refine wpAnyH_take (i := 29) (oi := _) (v := ?_) rfl (by kernel_rfl) (by kernel_rfl) (by kernel_rfl) (fun _ _ _ h => h) (Or.inl ⟨by rfl, ?_⟩) (by assumption) ?_
  rotate_left
  · (intro w hSw; (try dsimp only at hSw); go_simp)
    all_goals with_reducible rfl
  try dsimp only [List.getElem_toArray, List.getElem_cons_succ, List.getElem_cons_zero]
  try simp only [Act.put, List.setIfInBounds_toArray, List.set_cons_zero, List.set_cons_succ]
  refine wpAnyH_ready (rs := [30]) (by kernel_rfl) (by simp) ?_
  refine AllReadyH.cons (o := _) rfl (fun K hK => ?_) AllReadyH.nil
  go_simp
  refine (of_any 1 _ (by decide) (by decide)).mono ?_
  rintro e wr3 ⟨kr, A_1, n_1, c_1, rfl, oo⟩
  rw [show decide ((1 : Int) < 0) = false from rfl]
  have LO := Lib.hid (oo.num (small_fits (x := 1) (by decide)))
  clear oo
  have K3 : Keep (fun _ => False) w6 wr3 := Keep.trans K2 kr
  clear kr K2
  try dsimp only
  go_wp2_with fail
  refine hK.out _ _ (HCC.out _ K3) (fun hHeld => ?_)
  clear hK K
  try dsimp only [List.getElem_toArray, List.getElem_cons_succ, List.getElem_cons_zero]
  try simp only [Act.put, List.setIfInBounds_toArray, List.set_cons_zero, List.set_cons_succ]
  refine wpAnyH_ready (rs := [31]) (by kernel_rfl) (by simp) ?_
  refine AllReadyH.cons (o := _) rfl (fun K hK => ?_) AllReadyH.nil
  go_simp
  refine (cmp_any q_o A_o n_o c_o l_o false A_1 n_1 c_1 _ _ ((HX.out.keep K3).m _ (.head _)) LO.out).mono ?_
  rintro e wr4 ⟨rfl, kr⟩
  rw [V_o.out, sval_dec, show cmpI ((1 : Nat) : Int) (if false = true then -(((1 : Int).natAbs : Nat) : Int) else (((1 : Int).natAbs : Nat) : Int)) = 0 from rfl]
  have K4 : Keep (fun _ => False) w6 wr4 := Keep.trans K3 kr
  clear kr K3
  try dsimp only
  go_wp2_with fail
  refine hK.out _ _ (HCC.out _ K4) (fun hHeld => ?_)
  clear hK K
  try dsimp only [List.getElem_toArray, List.getElem_cons_succ, List.getElem_cons_zero]
  try simp only [Act.put, List.setIfInBounds_toArray, List.set_cons_zero, List.set_cons_succ]
  refine wpAnyH_take (i := 32) (oi := _) (v := ?_) rfl (by kernel_rfl) (by kernel_rfl) (by kernel_rfl) (fun _ _ _ h => h) (Or.inl ⟨by rfl, ?_⟩) (by assumption) ?_
  rotate_left
  · (intro w hSw; (try dsimp only at hSw); go_simp)
    all_goals with_reducible rfl
  refine wpAnyH_take (i := 33) (oi := _) (v := ?_) rfl (by kernel_rfl) (by kernel_rfl) (by kernel_rfl) (fun _ _ _ h => h) (Or.inl ⟨by rfl, ?_⟩) (by assumption) ?_
  rotate_left
  · (intro w hSw; (try dsimp only at hSw); go_simp)
    all_goals with_reducible rfl
  try dsimp only [List.getElem_toArray, List.getElem_cons_succ, List.getElem_cons_zero]
  try simp only [Act.put, List.setIfInBounds_toArray, List.set_cons_zero, List.set_cons_succ]
  refine wpAnyH_take (i := 34) (oi := _) (v := ?_) rfl (by kernel_rfl) (by kernel_rfl) (by kernel_rfl) (fun _ _ _ h => h) (Or.inl ⟨by rfl, ?_⟩) (by assumption) ?_
  rotate_left
  · (intro w hSw; (try dsimp only at hSw); go_simp)
    all_goals with_reducible rfl
  try dsimp only [List.getElem_toArray, List.getElem_cons_succ, List.getElem_cons_zero]
  try simp only [Act.put, List.setIfInBounds_toArray, List.set_cons_zero, List.set_cons_succ]
  refine wpAnyH_ready (rs := [35]) (by kernel_rfl) (by simp) ?_
  refine AllReadyH.cons (o := _) rfl (fun K hK => ?_) AllReadyH.nil
  go_simp
  refine (awake_any _ (HT.out.keep (HX.out.keep K4).k)).mono ?_
  rintro e wr5 ⟨rfl, kr⟩
  have K5 : Keep (fun _ => False) w6 wr5 := Keep.trans K4 kr
  clear kr K4
  try dsimp only
  go_wp2_with fail
  refine hK.out _ _ (HCC.out _ K5) (fun hHeld => ?_)
  clear hK K
  refine wpAnyH_take (i := 36) (oi := _) (v := ?_) rfl (by kernel_rfl) (by kernel_rfl) (by kernel_rfl) (fun _ _ _ h => h) (Or.inl ⟨by rfl, ?_⟩) (by assumption) ?_
  rotate_left
  · (intro w hSw; (try dsimp only at hSw); go_simp)
    all_goals with_reducible rfl
  try dsimp only [List.getElem_toArray, List.getElem_cons_succ, List.getElem_cons_zero]
  try simp only [Act.put, List.setIfInBounds_toArray, List.set_cons_zero, List.set_cons_succ]
  refine wpAnyH_take (i := 37) (oi := _) (v := ?_) rfl (by kernel_rfl) (by kernel_rfl) (by kernel_rfl) (fun _ _ _ h => h) (Or.inl ⟨by rfl, ?_⟩) (by assumption) ?_
  rotate_left
  · (intro w hSw; (try dsimp only at hSw); go_simp)
    all_goals with_reducible rfl
  try dsimp only [List.getElem_toArray, List.getElem_cons_succ, List.getElem_cons_zero]
  try simp only [Act.put, List.setIfInBounds_toArray, List.set_cons_zero, List.set_cons_succ]
  refine wpAnyH_done (by kernel_rfl) ?_ _
  have KK := K5
  clear K5
  have HZ := Lib.hid (HX.out.keep KK).k
  clear HCC
  try dsimp only
  go_wp2_with fail
  go_ret
  exact ⟨rfl, HZ.out⟩
end Go.Proofs.YtdfekphahdmffaaDoor
