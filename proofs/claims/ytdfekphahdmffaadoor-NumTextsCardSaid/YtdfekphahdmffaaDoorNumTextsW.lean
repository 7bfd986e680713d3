/-
  The law NumTexts: its walk.
-/
import Derived.Test.YtdfekphahdmffaaDoorLawEnd
import Derived.Test.YtdfekphahdmffaaDoorRfText
namespace Go.Proofs.YtdfekphahdmffaaDoor
open Go.RowKit

set_option maxRecDepth 100000 in
set_option maxHeartbeats 4000000 in
theorem texts_long1 (p1 : Bool) (A1 : Option Addr) (n1 c1 : Nat) (w : World) (ht : PowTab w) (h1 : 60 < n1) :
    Calls Tryd.prog 4 #[numArg p1 A1 n1 c1] w (BoolPost true w) := by
  have X0 := env1 w (.bool p1) (.slice A1 n1 c1)
  have HT := Lib.hid ht
  clear ht
  go_enter Tryd.func4, Tryd.ntmps4
  go_wp2_with fail
  have hw1 : (w.alloc (.cells #[.bool p1, .slice A1 n1 c1] 25)).heap.size = w.heap.size + 1 := by simp only [World.size_alloc]
  generalize hB0 : w.heap.size = B0 at X0 hw1 ⊢
  have HSZ := Lib.hid (Nat.le_of_eq hB0)
  clear hB0
  generalize w.alloc (.cells #[.bool p1, .slice A1 n1 c1] 25) = w1 at X0 hw1 ⊢
  have HX := Lib.hid X0
  have HW1 := Lib.hid hw1
  clear X0 hw1
  refine (long_any p1 A1 n1 c1 _).mono ?_
  rintro e w2 ⟨rfl, k2⟩
  rw [show decide (60 < n1) = true from decide_eq_true (by omega)]
  have HX1 := Lib.hid (HX.out.keep k2)
  clear HX k2
  have HX := Lib.hid HX1.out
  clear HX1
  obtain ⟨r0, r1, rl⟩ := HX.out.cells (.head _)
  try dsimp only
  go_wp2_with fail
  clear r0 r1 rl
  refine (awake_any _ (HT.out.keep HX.out.k)).mono ?_
  rintro e wz ⟨rfl, kz⟩
  have HZ := Lib.hid (HX.out.k.trans kz)
  clear kz
  try dsimp only
  go_wp2_with fail
  go_ret
  exact ⟨rfl, HZ.out⟩
set_option maxRecDepth 100000 in
set_option maxHeartbeats 4000000 in
theorem texts_short (p1 : Bool) (A1 : Option Addr) (n1 c1 : Nat) (l1 : List Nat) (w : World) (ht : PowTab w) (h1 : n1 ≤ 60) (L1 : LimbsAt w A1 n1 c1 l1) :
    Calls Tryd.prog 4 #[numArg p1 A1 n1 c1] w (BoolPost true w) := by
  have HL := Lib.hid L1
  clear L1
  have X0 := env1 w (.bool p1) (.slice A1 n1 c1)
  have HT := Lib.hid ht
  clear ht
  go_enter Tryd.func4, Tryd.ntmps4
  go_wp2_with fail
  have hw1 : (w.alloc (.cells #[.bool p1, .slice A1 n1 c1] 25)).heap.size = w.heap.size + 1 := by simp only [World.size_alloc]
  generalize hB0 : w.heap.size = B0 at X0 hw1 ⊢
  have HSZ := Lib.hid (Nat.le_of_eq hB0)
  clear hB0
  generalize w.alloc (.cells #[.bool p1, .slice A1 n1 c1] 25) = w1 at X0 hw1 ⊢
  have HX := Lib.hid X0
  have HW1 := Lib.hid hw1
  clear X0 hw1
  have HX1 := Lib.hid (HX.out.num (HL.out.keep0 HX.out.k))
  clear HX
  have HX := Lib.hid HX1.out
  clear HX1
  refine (long_any p1 A1 n1 c1 _).mono ?_
  rintro e w2 ⟨rfl, k2⟩
  rw [show decide (60 < n1) = false from decide_eq_false (by omega)]
  have HX1 := Lib.hid (HX.out.keep k2)
  clear HX k2
  have HX := Lib.hid HX1.out
  clear HX1
  obtain ⟨r0, r1, rl⟩ := HX.out.cells (.head _)
  try dsimp only
  go_wp2_with fail
  clear r0 r1 rl
  obtain ⟨xa, hxa⟩ : ∃ x, x = sval p1 l1 := ⟨_, rfl⟩
  obtain ⟨z1, hz1⟩ : ∃ z, z = decide (xa < 0) := ⟨_, rfl⟩
  obtain ⟨tx, htx⟩ : ∃ t : ByteArray, t = ⟨(Lib.itoa xa).toArray⟩ := ⟨_, rfl⟩
  have HV := Lib.hid hxa
  have HZ := Lib.hid hz1
  have HTX := Lib.hid htx
  have HVB := Lib.hid (show xa.natAbs < BB ^ 60 from by rw [hxa, sval_abs]; have h9 := val_lt HL.out.low; rw [HL.out.len] at h9; exact Nat.lt_of_lt_of_le h9 (Nat.pow_le_pow_right (by unfold BB; omega) h1))
  clear hxa hz1 htx
  have Kd : Keep (fun _ => False) w2 w2.drew := (Keep.refl _ _).drew
  have HCC := Lib.hid (fun (w' : World) (K' : Keep (fun _ => False) w2 w') => (show w'.cell? ⟨B0, 0, none⟩ = some (.bool p1) ∧ w'.cell? ⟨B0, 1, none⟩ = some (.slice A1 n1 c1) from by
    obtain ⟨ra, rb, _⟩ := (HX.out.keep K').cells (.head _)
    exact ⟨ra, rb⟩))
  refine wp_region_held_drew (S := fun w' => w'.cell? ⟨B0, 0, none⟩ = some (.bool p1) ∧ w'.cell? ⟨B0, 1, none⟩ = some (.slice A1 n1 c1)) (by kernel_rfl) (HCC.out _ Kd) (fun hHeld => ?_)
  refine wpAnyH_take (i := 0) (oi := _) (v := ?_) rfl (by kernel_rfl) (by kernel_rfl) (by kernel_rfl) (fun _ _ _ h => h) (Or.inl ⟨by rfl, ?_⟩) (by assumption) ?_
  rotate_left
  · (intro w hSw; (try dsimp only at hSw); go_simp)
    all_goals with_reducible rfl
  refine wpAnyH_take (i := 2) (oi := _) (v := ?_) rfl (by kernel_rfl) (by kernel_rfl) (by kernel_rfl) (fun _ _ _ h => h) (Or.inl ⟨by rfl, ?_⟩) (by assumption) ?_
  rotate_left
  · (intro w hSw; (try dsimp only at hSw); go_simp)
    all_goals with_reducible rfl
  try dsimp only [List.getElem_toArray, List.getElem_cons_succ, List.getElem_cons_zero]
  try simp only [Act.put, List.setIfInBounds_toArray, List.set_cons_zero, List.set_cons_succ]
  refine wpAnyH_ready (rs := [1]) (by kernel_rfl) (by simp) ?_
  refine AllReadyH.cons (o := _) rfl (fun K hK => ?_) AllReadyH.nil
  go_simp
  refine (text_any p1 A1 n1 c1 l1 _ ((HX.out.keep Kd).m _ (.head _)) (by omega) (HT.out.keep (HX.out.keep Kd).k)).mono ?_
  rintro e wr1 ⟨rfl, kr⟩
  rw [← HV.out, ← HTX.out]
  have K1 : Keep (fun _ => False) w2 wr1 := Keep.trans Kd kr
  clear kr 
  try dsimp only
  go_wp2_with fail
  refine hK.out _ _ (HCC.out _ K1) (fun hHeld => ?_)
  clear hK K
  try dsimp only [List.getElem_toArray, List.getElem_cons_succ, List.getElem_cons_zero]
  try simp only [Act.put, List.setIfInBounds_toArray, List.set_cons_zero, List.set_cons_succ]
  refine wpAnyH_ready (rs := [3]) (by kernel_rfl) (by simp) ?_
  refine AllReadyH.cons (o := _) rfl (fun K hK => ?_) AllReadyH.nil
  go_simp
  refine (val_z HZ.out HV.out ((HX.out.keep K1).m _ (.head _)) (by omega)).mono ?_
  rintro e wr2 ⟨A7, n7, c7, rfl, b7, hn7, kr⟩
  have HB7 := Lib.hid b7
  clear b7
  have K2 : Keep (fun _ => False) w2 wr2 := Keep.trans K1 kr
  clear kr K1
  try dsimp only
  go_wp2_with fail
  refine hK.out _ _ (HCC.out _ K2) (fun hHeld => ?_)
  clear hK K
  try dsimp only [List.getElem_toArray, List.getElem_cons_succ, List.getElem_cons_zero]
  try simp only [Act.put, List.setIfInBounds_toArray, List.set_cons_zero, List.set_cons_succ]
  refine wpAnyH_ready (rs := [4]) (by kernel_rfl) (by simp) ?_
  refine AllReadyH.cons (o := _) rfl (fun K hK => ?_) AllReadyH.nil
  go_simp
  refine (rtext_any xa z1 A7 n7 c7 _ HZ.out HB7.out HVB.out (by omega)).mono ?_
  rintro e wr3 ⟨rfl, kr⟩
  rw [← HTX.out]
  have K3 : Keep (fun _ => False) w2 wr3 := Keep.trans K2 kr
  clear kr K2
  try dsimp only
  go_wp2_with fail
  refine hK.out _ _ (HCC.out _ K3) (fun hHeld => ?_)
  clear hK K
  try dsimp only [List.getElem_toArray, List.getElem_cons_succ, List.getElem_cons_zero]
  try simp only [Act.put, List.setIfInBounds_toArray, List.set_cons_zero, List.set_cons_succ]
  refine wpAnyH_take (i := 5) (oi := _) (v := ?_) rfl (by kernel_rfl) (by kernel_rfl) (by kernel_rfl) (fun _ _ _ h => h) (Or.inl ⟨by rfl, ?_⟩) (by assumption) ?_
  rotate_left
  · (intro w hSw; (try dsimp only at hSw); go_simp)
    all_goals with_reducible rfl
  refine wpAnyH_take (i := 6) (oi := _) (v := ?_) rfl (by kernel_rfl) (by kernel_rfl) (by kernel_rfl) (fun _ _ _ h => h) (Or.inl ⟨by rfl, ?_⟩) (by assumption) ?_
  rotate_left
  · (intro w hSw; (try dsimp only at hSw); go_simp)
    all_goals with_reducible rfl
  try dsimp only [List.getElem_toArray, List.getElem_cons_succ, List.getElem_cons_zero]
  try simp only [Act.put, List.setIfInBounds_toArray, List.set_cons_zero, List.set_cons_succ]
  refine wpAnyH_ready (rs := [7]) (by kernel_rfl) (by simp) ?_
  refine AllReadyH.cons (o := _) rfl (fun K hK => ?_) AllReadyH.nil
  go_simp
  refine (awake_any _ (HT.out.keep (HX.out.keep K3).k)).mono ?_
  rintro e wr4 ⟨rfl, kr⟩
  have K4 : Keep (fun _ => False) w2 wr4 := Keep.trans K3 kr
  clear kr K3
  try dsimp only
  go_wp2_with fail
  refine hK.out _ _ (HCC.out _ K4) (fun hHeld => ?_)
  clear hK K
  try dsimp only [List.getElem_toArray, List.getElem_cons_succ, List.getElem_cons_zero]
  try simp only [Act.put, List.setIfInBounds_toArray, List.set_cons_zero, List.set_cons_succ]
  refine wpAnyH_take (i := 8) (oi := _) (v := ?_) rfl (by kernel_rfl) (by kernel_rfl) (by kernel_rfl) (fun _ _ _ h => h) (Or.inl ⟨by rfl, ?_⟩) (by assumption) ?_
  rotate_left
  · (intro w hSw; (try dsimp only at hSw); go_simp)
    all_goals with_reducible rfl
  refine wpAnyH_take (i := 9) (oi := _) (v := ?_) rfl (by kernel_rfl) (by kernel_rfl) (by kernel_rfl) (fun _ _ _ h => h) (Or.inl ⟨by rfl, ?_⟩) (by assumption) ?_
  rotate_left
  · (intro w hSw; (try dsimp only at hSw); go_simp)
    all_goals with_reducible rfl
  try dsimp only [List.getElem_toArray, List.getElem_cons_succ, List.getElem_cons_zero]
  try simp only [Act.put, List.setIfInBounds_toArray, List.set_cons_zero, List.set_cons_succ]
  refine wpAnyH_done (by kernel_rfl) ?_ _
  have KK := K4
  clear K4
  have HZ9 := Lib.hid (HX.out.keep KK).k
  clear HCC
  try dsimp only
  go_wp2_with fail
  go_ret
  exact ⟨rfl, HZ9.out⟩
end Go.Proofs.YtdfekphahdmffaaDoor
