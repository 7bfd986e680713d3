/-
  num: Neg, turned, May, Cmp.
-/
import Derived.Test.YtdfekphahdmffaaDoorNuMade
import Derived.Deep.RegionHeld3
import Derived.Deep.DeepCutAuto
namespace Go.Proofs.YtdfekphahdmffaaDoor
open Go.RowKit

set_option maxRecDepth 100000 in
set_option maxHeartbeats 1000000 in
theorem neg_any (neg : Bool) (A : Option Addr) (n c : Nat) (l : List Nat) (w : World) (h : LimbsAt w A n c l) :
    Calls Tryd.prog 47 #[numArg neg A n c] w (ResPost (sval (!neg) l) w) := by
  have K : Keep (fun _ => False) w ((w.alloc (.cells #[.bool neg, .slice A n c] 25)).alloc (.cells #[.bool false, .slice none 0 0] 25)) := ((Keep.refl _ _).alloc _).alloc _
  have h1 := h.keep0 K
  have hb : ((w.alloc (.cells #[.bool neg, .slice A n c] 25)).alloc (.cells #[.bool false, .slice none 0 0] 25)).heap[w.heap.size + 1]? = some (.cells #[.bool false, .slice none 0 0] 25 (0, 0)) := by
    have := heap_alloc_new (w.alloc (.cells #[.bool neg, .slice A n c] 25)) (.cells #[.bool false, .slice none 0 0] 25)
    rwa [World.size_alloc] at this
  have hz : w.heap.size + 1 < ((w.alloc (.cells #[.bool neg, .slice A n c] 25)).alloc (.cells #[.bool false, .slice none 0 0] 25)).heap.size := by simp
  have HR := Lib.hid (fun (e : Ending) (w2 : World) => res_two (x := sval (!neg) l) (e := e) (w2 := w2) K (Nat.le_succ _) hz hb)
  clear hb hz h K
  go_enter Tryd.func47, Tryd.ntmps47
  go_wp2_with fail
  refine (made_any (!neg) A n c l _ h1).mono ?_
  intro e w2 hres
  obtain ⟨ng, A2, n2, c2, f, rfl, c0, c1, f0, f1, e0, e1, P⟩ := HR.out _ _ hres
  have HP := Lib.hid P
  have HE := Lib.hid (And.intro e0 e1)
  clear hres P h1 e0 e1
  go_wp2_with fail
  refine bodyPost_ret (v := .tuple #[numArg ng A2 n2 c2, .int .i64 f]) ?_ rfl HP.out
  obtain ⟨e0, e1⟩ := HE.out
  simp [results, Tryd.results47, go_sem, e0, e1]

set_option maxHeartbeats 400000 in
theorem turned_any (neg : Bool) (A : Option Addr) (n c : Nat) (w : World) :
    Calls Tryd.prog 75 #[numArg neg A n c] w fun e w' => e = .returned (numArg (!neg) A n c) ∧ Keep (fun _ => False) w w' := by
  go_enter Tryd.func75, Tryd.ntmps75
  go_wp2_with fail
  exact bodyPost_ret (v := numArg (!neg) A n c) (by simp [results, Tryd.results75, go_sem]) rfl ⟨rfl, ((Keep.refl _ _).alloc _).alloc _⟩

theorem cmpI_sign {x y : Int} (h : signI x ≠ signI y) : cmpI (signI x) (signI y) = cmpI x y := by
  unfold cmpI signI at *
  split at h <;> split at h <;> (try split at h) <;> (try split at h) <;> (repeat' split) <;> omega
theorem cmpI_neg {x y : Int} (hx : x < 0) (hy : y < 0) : cmpN y.natAbs x.natAbs = cmpI x y := by
  unfold cmpN cmpI
  repeat' split
  all_goals first | rfl | omega
theorem cmpI_pos {x y : Int} (hx : 0 ≤ x) (hy : 0 ≤ y) : cmpN x.natAbs y.natAbs = cmpI x y := by
  unfold cmpN cmpI
  repeat' split
  all_goals first | rfl | omega
theorem signI_lt {x : Int} : signI x = -1 ↔ x < 0 := by unfold signI; repeat' split <;> omega

set_option maxRecDepth 100000 in
set_option maxHeartbeats 4000000 in
theorem cmp_any (neg : Bool) (A : Option Addr) (n c : Nat) (l : List Nat) (neg' : Bool) (A' : Option Addr) (n' c' : Nat) (l' : List Nat) (w : World) (h : LimbsAt w A n c l) (h' : LimbsAt w A' n' c' l') :
    Calls Tryd.prog 43 #[numArg neg A n c, numArg neg' A' n' c'] w (IntPost (cmpI (sval neg l) (sval neg' l')) w) := by
  have K : Keep (fun _ => False) w ((w.alloc (.cells #[.bool neg, .slice A n c] 25)).alloc (.cells #[.bool neg', .slice A' n' c'] 25)) := ((Keep.refl _ _).alloc _).alloc _
  have hb1 : ((w.alloc (.cells #[.bool neg, .slice A n c] 25)).alloc (.cells #[.bool neg', .slice A' n' c'] 25)).heap[w.heap.size]? = some (.cells #[.bool neg, .slice A n c] 25 (0, 0)) := by
    rw [Below.heap_alloc _ _ _ (by simp)]; exact heap_alloc_new w _
  have hb2 : ((w.alloc (.cells #[.bool neg, .slice A n c] 25)).alloc (.cells #[.bool neg', .slice A' n' c'] 25)).heap[w.heap.size + 1]? = some (.cells #[.bool neg', .slice A' n' c'] 25 (0, 0)) := by
    have := heap_alloc_new (w.alloc (.cells #[.bool neg, .slice A n c] 25)) (.cells #[.bool neg', .slice A' n' c'] 25)
    rwa [World.size_alloc] at this
  have h1 := h.keep0 K
  have h1' := h'.keep0 K
  go_enter Tryd.func43, Tryd.ntmps43
  go_wp2_with fail
  generalize hBa : w.heap.size = Ba at hb1 hb2 ⊢
  generalize (w.alloc (.cells #[.bool neg, .slice A n c] 25)).alloc (.cells #[.bool neg', .slice A' n' c'] 25) = w1 at K hb1 hb2 h1 h1' ⊢
  clear hBa h h'
  have HC := Lib.hid (fun (w' : World) (K' : Keep (fun _ => False) w1 w') => (show w'.cell? ⟨Ba, 0, none⟩ = some (.bool neg) ∧ w'.cell? ⟨Ba, 1, none⟩ = some (.slice A n c) ∧ w'.cell? ⟨Ba + 1, 0, none⟩ = some (.bool neg') ∧ w'.cell? ⟨Ba + 1, 1, none⟩ = some (.slice A' n' c') from by
    have g1 := K'.heap hb1 (by simp)
    have g2 := K'.heap hb2 (by simp)
    refine ⟨?_, ?_, ?_, ?_⟩
    · rw [cell_of_row w' _ _ _ _ _ g1]; rfl
    · rw [cell_of_row w' _ _ _ _ _ g1]; rfl
    · rw [cell_of_row w' _ _ _ _ _ g2]; rfl
    · rw [cell_of_row w' _ _ _ _ _ g2]; rfl))
  have H := Lib.hid h1
  have H' := Lib.hid h1'
  have HK := Lib.hid K
  clear hb1 hb2 h1 h1' K
  obtain ⟨c0, c1, c2, c3⟩ := HC.out _ (Keep.refl _ _)
  have HS := Lib.hid (fun (w' : World) (K' : Keep (fun _ => False) w1 w') => (show w'.cell? ⟨Ba, 0, none⟩ = some (.bool neg) ∧ w'.cell? ⟨Ba, 1, none⟩ = some (.slice A n c) ∧ w'.cell? ⟨Ba + 1, 0, none⟩ = some (.bool neg') ∧ w'.cell? ⟨Ba + 1, 1, none⟩ = some (.slice A' n' c') ∧ Keep (fun _ => False) w1 w' from ⟨(HC.out _ K').1, (HC.out _ K').2.1, (HC.out _ K').2.2.1, (HC.out _ K').2.2.2, K'⟩))
  have Kd : Keep (fun _ => False) w1 w1.drew := (Keep.refl _ _).drew
  obtain ⟨x, hx⟩ : ∃ x, x = sval neg l := ⟨_, rfl⟩
  obtain ⟨y, hy⟩ : ∃ y, y = sval neg' l' := ⟨_, rfl⟩
  rw [← hx, ← hy]
  have HX := Lib.hid hx
  have HY := Lib.hid hy
  have HSG := Lib.hid (fun (w' : World) (K' : Keep (fun _ => False) w1 w') => (show Calls Tryd.prog 39 #[numArg neg A n c] w' (IntPost (signI x) w') from by rw [hx]; exact sign_any neg A n c l w' (H.out.keep0 K')))
  have HSG' := Lib.hid (fun (w' : World) (K' : Keep (fun _ => False) w1 w') => (show Calls Tryd.prog 39 #[numArg neg' A' n' c'] w' (IntPost (signI y) w') from by rw [hy]; exact sign_any neg' A' n' c' l' w' (H'.out.keep0 K')))
  clear hx hy
  by_cases hs : signI x = signI y
  · have hbq : (signI x != signI y) = false := by simp [hs]
    have HSE := Lib.hid hs
    clear hs
    go_region_held3 (fun w' => w'.cell? ⟨Ba, 0, none⟩ = some (.bool neg) ∧ w'.cell? ⟨Ba, 1, none⟩ = some (.slice A n c) ∧ w'.cell? ⟨Ba + 1, 0, none⟩ = some (.bool neg') ∧ w'.cell? ⟨Ba + 1, 1, none⟩ = some (.slice A' n' c') ∧ Keep (fun _ => False) w1 w')
      (first | exact HS.out _ Kd | exact HS.out _ (by assumption))
      (first
        | (go_at_call 39; go_split_ands; first
          | ((with_reducible refine (HSG.out _ (by assumption)).mono ?_); rintro e w3 ⟨rfl, k3⟩; have K3 := Keep.trans (by assumption) k3)
          | ((with_reducible refine (HSG'.out _ (by assumption)).mono ?_); rintro e w4 ⟨rfl, k4⟩; have K4 := Keep.trans (by assumption) k4))
        | (go_at_call 76; refine (compare_int _ _ _).mono ?_; rintro e w5 ⟨rfl, rfl⟩))
    clear k3 k4 K3 c0 c1 c2 c3
    obtain ⟨c0, c1, c2, c3⟩ := HC.out _ K4
    have HBL := Lib.hid (below_any neg A n c l _ (H.out.keep0 K4))
    have hbi := belowB_iff neg l
    rw [← HX.out] at hbi
    rcases (by cases belowB neg l <;> simp : belowB neg l = true ∨ belowB neg l = false) with hB | hB
    · rw [hB] at HBL hbi
      have hxl : x < 0 := by simpa using hbi.symm
      have hyl : y < 0 := signI_lt.1 (by rw [← HSE.out]; exact signI_lt.2 hxl)
      have E : cmpN (lval l') (lval l) = cmpI x y := by
        have e1 := sval_abs neg l
        have e2 := sval_abs neg' l'
        rw [← HX.out] at e1
        rw [← HY.out] at e2
        rw [← cmpI_neg hxl hyl, e1, e2]
      have HE := Lib.hid E
      clear hB hbi hxl hyl E hbq
      go_wp2_with fail
      refine HBL.out.mono ?_
      rintro e w5 ⟨rfl, k5⟩
      have K5 := K4.trans k5
      clear c0 c1 c2 c3
      obtain ⟨c0, c1, c2, c3⟩ := HC.out _ K5
      go_wp2_with fail
      refine (order_any _ _ _ _ _ _ _ _ _ (H'.out.keep0 K5) (H.out.keep0 K5)).mono ?_
      rintro e w6 ⟨rfl, k6⟩
      rw [HE.out]
      go_wp2_with fail
      go_ret
      exact ⟨by rw [← HX.out, ← HY.out]; rfl, HK.out.trans (K5.trans k6)⟩
    · rw [hB] at HBL hbi
      have hxl : ¬ x < 0 := by simpa using hbi.symm
      have hyl : ¬ y < 0 := fun h => hxl (signI_lt.1 (by rw [HSE.out]; exact signI_lt.2 h))
      have E : cmpN (lval l) (lval l') = cmpI x y := by
        have e1 := sval_abs neg l
        have e2 := sval_abs neg' l'
        rw [← HX.out] at e1
        rw [← HY.out] at e2
        rw [← cmpI_pos (by omega) (by omega), e1, e2]
      have HE := Lib.hid E
      clear hB hbi hxl hyl E hbq
      go_wp2_with fail
      refine HBL.out.mono ?_
      rintro e w5 ⟨rfl, k5⟩
      have K5 := K4.trans k5
      clear c0 c1 c2 c3
      obtain ⟨c0, c1, c2, c3⟩ := HC.out _ K5
      go_wp2_with fail
      refine (order_any _ _ _ _ _ _ _ _ _ (H.out.keep0 K5) (H'.out.keep0 K5)).mono ?_
      rintro e w6 ⟨rfl, k6⟩
      rw [HE.out]
      go_wp2_with fail
      go_ret
      exact ⟨by rw [← HX.out, ← HY.out]; rfl, HK.out.trans (K5.trans k6)⟩
  · have hbq : (signI x != signI y) = true := by simpa using hs
    have E := Lib.hid (cmpI_sign hs)
    clear hs
    go_region_held3 (fun w' => w'.cell? ⟨Ba, 0, none⟩ = some (.bool neg) ∧ w'.cell? ⟨Ba, 1, none⟩ = some (.slice A n c) ∧ w'.cell? ⟨Ba + 1, 0, none⟩ = some (.bool neg') ∧ w'.cell? ⟨Ba + 1, 1, none⟩ = some (.slice A' n' c') ∧ Keep (fun _ => False) w1 w')
      (first | exact HS.out _ Kd | exact HS.out _ (by assumption))
      (first
        | (go_at_call 39; go_split_ands; first
          | ((with_reducible refine (HSG.out _ (by assumption)).mono ?_); rintro e w3 ⟨rfl, k3⟩; have K3 := Keep.trans (by assumption) k3)
          | ((with_reducible refine (HSG'.out _ (by assumption)).mono ?_); rintro e w4 ⟨rfl, k4⟩; have K4 := Keep.trans (by assumption) k4))
        | (go_at_call 76; refine (compare_int _ _ _).mono ?_; rintro e w5 ⟨rfl, rfl⟩))
    clear k3 k4 K3 c0 c1 c2 c3
    obtain ⟨c0, c1, c2, c3⟩ := HC.out _ K4
    go_wp2_with fail
    have HSG2 := Lib.hid (fun (w' : World) (K' : Keep (fun _ => False) w4 w') => HSG.out _ (K4.trans K'))
    have HSG2' := Lib.hid (fun (w' : World) (K' : Keep (fun _ => False) w4 w') => HSG'.out _ (K4.trans K'))
    have HS2 := Lib.hid (fun (w' : World) (K' : Keep (fun _ => False) w4 w') => (show w'.cell? ⟨Ba, 0, none⟩ = some (.bool neg) ∧ w'.cell? ⟨Ba, 1, none⟩ = some (.slice A n c) ∧ w'.cell? ⟨Ba + 1, 0, none⟩ = some (.bool neg') ∧ w'.cell? ⟨Ba + 1, 1, none⟩ = some (.slice A' n' c') ∧ Keep (fun _ => False) w4 w' from ⟨(HC.out _ (K4.trans K')).1, (HC.out _ (K4.trans K')).2.1, (HC.out _ (K4.trans K')).2.2.1, (HC.out _ (K4.trans K')).2.2.2, K'⟩))
    have K6 := HK.out.trans K4
    have Kd2 : Keep (fun _ => False) w4 w4.drew := (Keep.refl _ _).drew
    clear HSG HSG' HS HC HK K4 Kd
    go_region_held3 (fun w' => w'.cell? ⟨Ba, 0, none⟩ = some (.bool neg) ∧ w'.cell? ⟨Ba, 1, none⟩ = some (.slice A n c) ∧ w'.cell? ⟨Ba + 1, 0, none⟩ = some (.bool neg') ∧ w'.cell? ⟨Ba + 1, 1, none⟩ = some (.slice A' n' c') ∧ Keep (fun _ => False) w4 w')
      (first | exact HS2.out _ Kd2 | exact HS2.out _ (by assumption))
      (first
        | (go_at_call 39; go_split_ands; first
          | ((with_reducible refine (HSG2.out _ (by assumption)).mono ?_); rintro e w3 ⟨rfl, k3⟩; have K3 := Keep.trans (by assumption) k3)
          | ((with_reducible refine (HSG2'.out _ (by assumption)).mono ?_); rintro e w4 ⟨rfl, k4⟩; have K4 := Keep.trans (by assumption) k4))
        | (go_at_call 76; refine (compare_int _ _ _).mono ?_; rintro e w5 ⟨rfl, rfl⟩))
    go_wp2_with fail
    go_ret
    exact ⟨by rw [← HX.out, ← HY.out, ← E.out]; rfl, K6.trans K4⟩
end Go.Proofs.YtdfekphahdmffaaDoor
