/-
  num: Add, Sub.
-/
import Derived.Test.YtdfekphahdmffaaDoorNuMul
namespace Go.Proofs.YtdfekphahdmffaaDoor
open Go.RowKit

theorem sval_below (neg : Bool) (l : List Nat) : sval (belowB neg l) l = sval neg l := by
  unfold sval belowB
  by_cases h : 0 < lval l
  · simp [h]
  · have : lval l = 0 := by omega
    simp [this]
theorem add_eq {neg neg' : Bool} {l l' m : List Nat} (hb : belowB neg l = belowB neg' l') (hm : lval m = lval l + lval l') : sval (belowB neg l) m = sval neg l + sval neg' l' := by
  rw [← sval_below neg l, ← sval_below neg' l', ← hb]
  generalize belowB neg l = p
  unfold sval
  rw [hm]
  cases p <;> simp <;> omega
theorem add_lt {neg neg' : Bool} {l l' m : List Nat} (hb : belowB neg l ≠ belowB neg' l') (hlt : lval l < lval l') (hm : lval m = lval l' - lval l) : sval (belowB neg' l') m = sval neg l + sval neg' l' := by
  rw [← sval_below neg l, ← sval_below neg' l']
  revert hb
  generalize belowB neg l = p
  generalize belowB neg' l' = q
  unfold sval
  rw [hm]
  cases p <;> cases q <;> simp <;> omega
theorem add_ge {neg neg' : Bool} {l l' m : List Nat} (hb : belowB neg l ≠ belowB neg' l') (hge : lval l' ≤ lval l) (hm : lval m = lval l - lval l') : sval (belowB neg l) m = sval neg l + sval neg' l' := by
  rw [← sval_below neg l, ← sval_below neg' l']
  revert hb
  generalize belowB neg l = p
  generalize belowB neg' l' = q
  unfold sval
  rw [hm]
  cases p <;> cases q <;> simp <;> omega
theorem lval_limbs (v : Nat) : lval (limbs v) = v := val_digs BB2 v
theorem plus_lval (u v k : Nat) (hk : k = max (limbs u).length (limbs v).length + 1) : lval (rowL BB (plusF (limbs u) (limbs v)) k) = u + v := by
  have := plus_val BB2 (digs_low BB2 u) (digs_low BB2 v) (n := k) (by unfold limbs at hk; omega) (by unfold limbs at hk; omega)
  rw [val_digs BB2, val_digs BB2] at this
  exact this
theorem less_lval (u v : Nat) (h : v ≤ u) : lval (rowL BB (lessF (limbs u) (limbs v)) (limbs u).length) = u - v := by
  have := less_val (digs_low BB2 u) (digs_low BB2 v) (by rw [val_digs BB2, val_digs BB2]; exact h)
  rw [val_digs BB2, val_digs BB2] at this
  exact this

set_option maxRecDepth 100000 in
set_option maxHeartbeats 8000000 in
theorem add_any (neg : Bool) (A : Option Addr) (n c : Nat) (l : List Nat) (neg' : Bool) (A' : Option Addr) (n' c' : Nat) (l' : List Nat) (w : World) (h : LimbsAt w A n c l) (h' : LimbsAt w A' n' c' l') (hm : n ≤ 9000) (hm' : n' ≤ 9000) :
    Calls Tryd.prog 41 #[numArg neg A n c, numArg neg' A' n' c'] w (ResPost (sval neg l + sval neg' l') w) := by
  have BX := box3 w (.bool neg) (.slice A n c) (.bool neg') (.slice A' n' c')
  have h1 := h.keep0 BX.k
  have h1' := h'.keep0 BX.k
  go_enter Tryd.func41, Tryd.ntmps41
  go_wp2_with fail
  generalize w.heap.size = Ba at BX ⊢
  generalize ((w.alloc (.cells #[.bool neg, .slice A n c] 25)).alloc (.cells #[.bool neg', .slice A' n' c'] 25)).alloc (.cells #[.bool false, .slice none 0 0] 25) = w1 at BX h1 h1' ⊢
  have HBX := Lib.hid BX
  have HB := Lib.hid (fun (w' : World) (K' : Keep (fun _ => False) w1 w') => below_any neg A n c l w' (h1.keep0 K'))
  have HB' := Lib.hid (fun (w' : World) (K' : Keep (fun _ => False) w1 w') => below_any neg' A' n' c' l' w' (h1'.keep0 K'))
  have HT := Lib.hid (fun (w' : World) (K' : Keep (fun _ => False) w1 w') => trim_any A n c l w' (h1.keep0 K'))
  have HT' := Lib.hid (fun (w' : World) (K' : Keep (fun _ => False) w1 w') => trim_any A' n' c' l' w' (h1'.keep0 K'))
  have HO := Lib.hid (fun (w' : World) (K' : Keep (fun _ => False) w1 w') => order_any A n c l A' n' c' l' w' (h1.keep0 K') (h1'.keep0 K'))
  have tl := tlen_le h1.low
  have tl' := tlen_le h1'.low
  rw [h1.len] at tl
  rw [h1'.len] at tl'
  have HX := Lib.hid (fun (w' : World) (K' : Keep (fun _ => False) w1 w') => plus_any A (tlen l) c _ A' (tlen l') c' _ w' (h1.keep0 K').trim (h1'.keep0 K').trim (by omega) (by omega))
  have HY := Lib.hid (fun (w' : World) (K' : Keep (fun _ => False) w1 w') => less_any A (tlen l) c _ A' (tlen l') c' _ w' (h1.keep0 K').trim (h1'.keep0 K').trim (by omega))
  have HY' := Lib.hid (fun (w' : World) (K' : Keep (fun _ => False) w1 w') => less_any A' (tlen l') c' _ A (tlen l) c _ w' (h1'.keep0 K').trim (h1.keep0 K').trim (by omega))
  obtain ⟨c0, c1, c2, c3⟩ := BX.cells (Keep.refl _ _)
  have Kd : Keep (fun _ => False) w1 w1.drew := (Keep.refl _ _).drew
  obtain ⟨p, hp⟩ : ∃ p, p = belowB neg l := ⟨_, rfl⟩
  obtain ⟨q, hq⟩ : ∃ q, q = belowB neg' l' := ⟨_, rfl⟩
  rw [← hp] at HB
  rw [← hq] at HB'
  have HPP := Lib.hid hp
  have HQQ := Lib.hid hq
  have tm : tlen l ≤ 9000 := by omega
  have tm' : tlen l' ≤ 9000 := by omega
  clear hp hq BX h h' h1 h1' tl tl'
  go_region_held3 (fun w' => w'.cell? ⟨Ba, 0, none⟩ = some (.bool neg) ∧ w'.cell? ⟨Ba, 1, none⟩ = some (.slice A n c) ∧ w'.cell? ⟨Ba + 1, 0, none⟩ = some (.bool neg') ∧ w'.cell? ⟨Ba + 1, 1, none⟩ = some (.slice A' n' c'))
    (first | exact HBX.out.cells Kd | (refine HBX.out.cells ?_; assumption) | (refine HBX.out.cellsS ?_ _ _; assumption))
    (first
      | (go_at_call 70; first
        | ((with_reducible refine (HB.out _ (by assumption)).mono ?_); rintro e w3 ⟨rfl, k3⟩; have K3 := Keep.trans (by assumption) k3)
        | ((with_reducible refine (HB'.out _ (by assumption)).mono ?_); rintro e w4 ⟨rfl, k4⟩; have K4 := Keep.trans (by assumption) k4)))
  have K9 := K4
  clear k3 k4 K3 K4 c0 c1 c2 c3 Kd
  obtain ⟨c0, c1, c2, c3⟩ := HBX.out.cells K9
  have Kd : Keep (fun _ => False) w1 w4.drew := K9.drew
  by_cases hb : p = q
  · have hbq : (p == q) = true := by simpa using hb
    have HV := Lib.hid (add_eq (neg := neg) (neg' := neg') (l := l) (l' := l') (m := rowL BB (plusF (limbs (lval l)) (limbs (lval l'))) (max (tlen l) (tlen l') + 1)) (by rw [← HPP.out, ← HQQ.out]; exact hb) (plus_lval _ _ _ rfl))
    rw [← HPP.out] at HV
    rw [hbq]
    clear hbq hb
    go_wp2_with fail
    go_region_held3 (fun w' => w'.cell? ⟨Ba, 0, none⟩ = some (.bool neg) ∧ w'.cell? ⟨Ba, 1, none⟩ = some (.slice A n c) ∧ w'.cell? ⟨Ba + 1, 0, none⟩ = some (.bool neg') ∧ w'.cell? ⟨Ba + 1, 1, none⟩ = some (.slice A' n' c'))
      (first | exact HBX.out.cells Kd | (refine HBX.out.cells ?_; assumption) | (refine HBX.out.cellsS ?_ _ _; assumption))
      (first
        | (go_at_call 70; first
          | ((with_reducible refine (HB.out _ (by assumption)).mono ?_); rintro e w3 ⟨rfl, k3⟩; have K3 := Keep.trans (by assumption) k3)
          | ((with_reducible refine (HB'.out _ (by assumption)).mono ?_); rintro e w4 ⟨rfl, k4⟩; have K4 := Keep.trans (by assumption) k4))
        | (go_at_call 54; first
          | ((with_reducible refine (HT.out _ (by assumption)).mono ?_); rintro e w5 ⟨rfl, rfl⟩)
          | ((with_reducible refine (HT'.out _ (by assumption)).mono ?_); rintro e w6 ⟨rfl, rfl⟩))
        | (go_at_call 73; (with_reducible refine (HX.out _ (by assumption)).mono ?_); rintro e w7 ⟨A7, n7, c7, rfl, own7, k7⟩; have hn7 := own7.len; rw [rowL_len] at hn7; have K7 := Keep.trans (by assumption) k7)
        | (go_at_call 51; refine (made_any _ _ _ _ _ _ (own7.toLimbs (rowL_low (by have := BB2; omega) _ _) (by omega))).mono ?_; intro e w8 hres; have K8 := Keep.trans (by assumption) hres.1; obtain ⟨ng, A8, n8, c8, f8, rfl, r0, r1, f0, f1, e0, e1, P⟩ := HBX.out.res (by assumption) hres))
    all_goals
      have hsv := HV.out
      rw [hsv] at P
      have HP := Lib.hid P
      have HE := Lib.hid (And.intro e0 e1)
      clear P hres hsv e0 e1
      go_wp2_with fail
      refine bodyPost_ret (v := .tuple #[numArg ng A8 n8 c8, .int .i64 f8]) ?_ rfl HP.out
      obtain ⟨e0, e1⟩ := HE.out
      simp [results, Tryd.results41, go_sem, e0, e1]
  · have hbq : (p == q) = false := by simpa using hb
    have hne : belowB neg l ≠ belowB neg' l' := by rw [← HPP.out, ← HQQ.out]; exact hb
    by_cases hlt : lval l < lval l'
    · have HV := Lib.hid (add_lt (m := rowL BB (lessF (limbs (lval l')) (limbs (lval l))) (tlen l')) hne hlt (less_lval _ _ (Nat.le_of_lt hlt)))
      rw [← HQQ.out] at HV
      rw [cmpN_lt hlt] at HO
      rw [hbq]
      clear hb hne hlt hbq
      go_wp2_with fail
      refine (HO.out _ K9).mono ?_
      rintro e w10 ⟨rfl, k10⟩
      have K10 := K9.trans k10
      clear c0 c1 c2 c3 Kd K9 k10
      obtain ⟨c0, c1, c2, c3⟩ := HBX.out.cells K10
      have Kd : Keep (fun _ => False) w1 w10.drew := K10.drew
      go_wp2_with fail
      go_region_held3 (fun w' => w'.cell? ⟨Ba, 0, none⟩ = some (.bool neg) ∧ w'.cell? ⟨Ba, 1, none⟩ = some (.slice A n c) ∧ w'.cell? ⟨Ba + 1, 0, none⟩ = some (.bool neg') ∧ w'.cell? ⟨Ba + 1, 1, none⟩ = some (.slice A' n' c'))
        (first | exact HBX.out.cells Kd | (refine HBX.out.cells ?_; assumption) | (refine HBX.out.cellsS ?_ _ _; assumption))
        (first
          | (go_at_call 70; first
            | ((with_reducible refine (HB.out _ (by assumption)).mono ?_); rintro e w3 ⟨rfl, k3⟩; have K3 := Keep.trans (by assumption) k3)
            | ((with_reducible refine (HB'.out _ (by assumption)).mono ?_); rintro e w4 ⟨rfl, k4⟩; have K4 := Keep.trans (by assumption) k4))
          | (go_at_call 54; first
            | ((with_reducible refine (HT.out _ (by assumption)).mono ?_); rintro e w5 ⟨rfl, rfl⟩)
            | ((with_reducible refine (HT'.out _ (by assumption)).mono ?_); rintro e w6 ⟨rfl, rfl⟩))
          | (go_at_call 71; (with_reducible refine (HY'.out _ (by assumption)).mono ?_); rintro e w7 ⟨A7, n7, c7, rfl, own7, k7⟩; have hn7 := own7.len; rw [rowL_len] at hn7; have K7 := Keep.trans (by assumption) k7)
          | (go_at_call 51; refine (made_any _ _ _ _ _ _ (own7.toLimbs (rowL_low (by have := BB2; omega) _ _) (by omega))).mono ?_; intro e w8 hres; have K8 := Keep.trans (by assumption) hres.1; obtain ⟨ng, A8, n8, c8, f8, rfl, r0, r1, f0, f1, e0, e1, P⟩ := HBX.out.res (by assumption) hres))
      all_goals
        have hsv := HV.out
        rw [hsv] at P
        have HP := Lib.hid P
        have HE := Lib.hid (And.intro e0 e1)
        clear P hres hsv e0 e1
        go_wp2_with fail
        refine bodyPost_ret (v := .tuple #[numArg ng A8 n8 c8, .int .i64 f8]) ?_ rfl HP.out
        obtain ⟨e0, e1⟩ := HE.out
        simp [results, Tryd.results41, go_sem, e0, e1]
    · have HV := Lib.hid (add_ge (m := rowL BB (lessF (limbs (lval l)) (limbs (lval l'))) (tlen l)) hne (by omega) (less_lval _ _ (by omega)))
      rw [← HPP.out] at HV
      have hc0 : decide (cmpN (lval l) (lval l') < 0) = false := by
        unfold cmpN
        rw [if_neg hlt]
        split <;> rfl
      rw [hbq]
      clear hb hne hlt hbq
      generalize cmpN (lval l) (lval l') = cc at hc0 HO
      go_wp2_with fail
      refine (HO.out _ K9).mono ?_
      rintro e w10 ⟨rfl, k10⟩
      have K10 := K9.trans k10
      clear c0 c1 c2 c3 Kd K9 k10
      obtain ⟨c0, c1, c2, c3⟩ := HBX.out.cells K10
      have Kd : Keep (fun _ => False) w1 w10.drew := K10.drew
      go_wp2_with fail
      go_region_held3 (fun w' => w'.cell? ⟨Ba, 0, none⟩ = some (.bool neg) ∧ w'.cell? ⟨Ba, 1, none⟩ = some (.slice A n c) ∧ w'.cell? ⟨Ba + 1, 0, none⟩ = some (.bool neg') ∧ w'.cell? ⟨Ba + 1, 1, none⟩ = some (.slice A' n' c'))
        (first | exact HBX.out.cells Kd | (refine HBX.out.cells ?_; assumption) | (refine HBX.out.cellsS ?_ _ _; assumption))
        (first
          | (go_at_call 70; first
            | ((with_reducible refine (HB.out _ (by assumption)).mono ?_); rintro e w3 ⟨rfl, k3⟩; have K3 := Keep.trans (by assumption) k3)
            | ((with_reducible refine (HB'.out _ (by assumption)).mono ?_); rintro e w4 ⟨rfl, k4⟩; have K4 := Keep.trans (by assumption) k4))
          | (go_at_call 54; first
            | ((with_reducible refine (HT.out _ (by assumption)).mono ?_); rintro e w5 ⟨rfl, rfl⟩)
            | ((with_reducible refine (HT'.out _ (by assumption)).mono ?_); rintro e w6 ⟨rfl, rfl⟩))
          | (go_at_call 71; (with_reducible refine (HY.out _ (by assumption)).mono ?_); rintro e w7 ⟨A7, n7, c7, rfl, own7, k7⟩; have hn7 := own7.len; rw [rowL_len] at hn7; have K7 := Keep.trans (by assumption) k7)
          | (go_at_call 51; refine (made_any _ _ _ _ _ _ (own7.toLimbs (rowL_low (by have := BB2; omega) _ _) (by omega))).mono ?_; intro e w8 hres; have K8 := Keep.trans (by assumption) hres.1; obtain ⟨ng, A8, n8, c8, f8, rfl, r0, r1, f0, f1, e0, e1, P⟩ := HBX.out.res (by assumption) hres))
      all_goals
        have hsv := HV.out
        rw [hsv] at P
        have HP := Lib.hid P
        have HE := Lib.hid (And.intro e0 e1)
        clear P hres hsv e0 e1
        go_wp2_with fail
        refine bodyPost_ret (v := .tuple #[numArg ng A8 n8 c8, .int .i64 f8]) ?_ rfl HP.out
        obtain ⟨e0, e1⟩ := HE.out
        simp [results, Tryd.results41, go_sem, e0, e1]

theorem sval_not (neg : Bool) (l : List Nat) : sval (!neg) l = - sval neg l := by
  unfold sval
  cases neg <;> simp
set_option maxRecDepth 100000 in
set_option maxHeartbeats 4000000 in
theorem sub_any (neg : Bool) (A : Option Addr) (n c : Nat) (l : List Nat) (neg' : Bool) (A' : Option Addr) (n' c' : Nat) (l' : List Nat) (w : World) (h : LimbsAt w A n c l) (h' : LimbsAt w A' n' c' l') (hm : n ≤ 9000) (hm' : n' ≤ 9000) :
    Calls Tryd.prog 42 #[numArg neg A n c, numArg neg' A' n' c'] w (ResPost (sval neg l - sval neg' l') w) := by
  have BX := box3 w (.bool neg) (.slice A n c) (.bool neg') (.slice A' n' c')
  have h1 := h.keep0 BX.k
  have h1' := h'.keep0 BX.k
  go_enter Tryd.func42, Tryd.ntmps42
  go_wp2_with fail
  generalize w.heap.size = Ba at BX ⊢
  generalize ((w.alloc (.cells #[.bool neg, .slice A n c] 25)).alloc (.cells #[.bool neg', .slice A' n' c'] 25)).alloc (.cells #[.bool false, .slice none 0 0] 25) = w1 at BX h1 h1' ⊢
  have HBX := Lib.hid BX
  have HX := Lib.hid (fun (w' : World) (K' : Keep (fun _ => False) w1 w') => add_any neg A n c l (!neg') A' n' c' l' w' (h1.keep0 K') (h1'.keep0 K') hm hm')
  obtain ⟨c0, c1, c2, c3⟩ := BX.cells (Keep.refl _ _)
  have Kd : Keep (fun _ => False) w1 w1.drew := (Keep.refl _ _).drew
  have HV := Lib.hid (show sval neg l + sval (!neg') l' = sval neg l - sval neg' l' by rw [sval_not]; omega)
  obtain ⟨b', hb'⟩ : ∃ b', b' = !neg' := ⟨_, rfl⟩
  rw [← hb'] at HX HV
  have HBB := Lib.hid hb'
  clear BX h h' h1 h1' hb'
  go_region_held3 (fun w' => w'.cell? ⟨Ba, 0, none⟩ = some (.bool neg) ∧ w'.cell? ⟨Ba, 1, none⟩ = some (.slice A n c) ∧ w'.cell? ⟨Ba + 1, 0, none⟩ = some (.bool neg') ∧ w'.cell? ⟨Ba + 1, 1, none⟩ = some (.slice A' n' c'))
    (first | exact HBX.out.cells Kd | (refine HBX.out.cells ?_; assumption) | (refine HBX.out.cellsS ?_ _ _; assumption))
    (first
      | (go_at_call 75; refine (turned_any _ _ _ _ _).mono ?_; rw [← HBB.out]; rintro e w7 ⟨rfl, k7⟩; have K7 := Keep.trans (by assumption) k7)
      | (go_at_call 41; (with_reducible refine (HX.out _ (by assumption)).mono ?_); intro e w8 hres; have K8 := Keep.trans (by assumption) hres.1; obtain ⟨ng, A8, n8, c8, f8, rfl, r0, r1, f0, f1, e0, e1, P⟩ := HBX.out.res (by assumption) hres))
  all_goals
    have hsv := HV.out
    rw [hsv] at P
    have HP := Lib.hid P
    have HE := Lib.hid (And.intro e0 e1)
    clear P hres hsv e0 e1
    go_wp2_with fail
    refine bodyPost_ret (v := .tuple #[numArg ng A8 n8 c8, .int .i64 f8]) ?_ rfl HP.out
    obtain ⟨e0, e1⟩ := HE.out
    simp [results, Tryd.results42, go_sem, e0, e1]
end Go.Proofs.YtdfekphahdmffaaDoor
