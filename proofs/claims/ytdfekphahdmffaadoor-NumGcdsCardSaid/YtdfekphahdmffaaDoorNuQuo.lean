/-
  num: Quo, Rem, Mod.
-/
import Derived.Test.YtdfekphahdmffaaDoorNuParted
import Derived.Test.YtdfekphahdmffaaDoorNuMul
namespace Go.Proofs.YtdfekphahdmffaaDoor
open Go.RowKit

theorem Box3.step {w w1 w2 : World} {B : Nat} {u v x y : Value} (h : Box3 w w1 B u v x y) (k : Keep (fun _ => False) w1 w2) : Box3 w w2 B u v x y :=
  ⟨h.k.trans k, k.heap h.b1 (by simp), k.heap h.b2 (by simp), k.heap h.b3 (by simp), h.lo, Nat.lt_of_lt_of_le h.hi k.size⟩
theorem signI_zero (x : Int) : (signI x == 0) = decide (x = 0) := by
  unfold signI
  by_cases h1 : x < 0
  · rw [if_pos h1, decide_eq_false (by omega)]; rfl
  · rw [if_neg h1]
    by_cases h2 : 0 < x
    · rw [if_pos h2, decide_eq_false (by omega)]; rfl
    · rw [if_neg h2, decide_eq_true (by omega)]; rfl
theorem sval_zero (neg : Bool) (l : List Nat) : sval neg l = 0 ↔ lval l = 0 := by
  unfold sval; cases neg <;> simp
theorem sval_bB (neg : Bool) (l : List Nat) : sval (belowB neg l) l = sval neg l := by
  unfold sval belowB
  by_cases h : 0 < lval l
  · simp [h]
  · have : lval l = 0 := by omega
    simp [this]
theorem quo_sval (neg : Bool) (l : List Nat) (neg' : Bool) (l' m : List Nat) (hm : lval m = lval l / lval l') : sval (belowB neg l != belowB neg' l') m = Int.tdiv (sval neg l) (sval neg' l') := by
  rw [← sval_bB neg l, ← sval_bB neg' l']
  generalize belowB neg l = p
  generalize belowB neg' l' = q
  unfold sval
  rw [hm]
  cases p <;> cases q <;> simp [Int.natCast_ediv, Int.neg_tdiv, Int.tdiv_neg]
theorem rem_sval (neg : Bool) (l : List Nat) (neg' : Bool) (l' m : List Nat) (hm : lval m = lval l % lval l') : sval (belowB neg l) m = Int.tmod (sval neg l) (sval neg' l') := by
  rw [← sval_bB neg l, ← sval_bB neg' l']
  generalize belowB neg l = p
  generalize belowB neg' l' = q
  unfold sval
  rw [hm]
  cases p <;> cases q <;> simp [Int.neg_tmod, Int.tmod_neg] <;> exact (Int.tmod_eq_emod_of_nonneg (Int.natCast_nonneg _)).symm
theorem neg_mod (a d : Nat) (hd : 0 < d) : (-(a : Int)) % (d : Int) = ((if 0 < a % d then d - a % d else 0 : Nat) : Int) := by
  have e0 := Nat.div_add_mod a d
  have hlt := Nat.mod_lt a hd
  generalize a / d = k at *
  generalize a % d = r at *
  subst e0
  by_cases h : 0 < r
  · rw [if_pos h]
    have e : -((d * k + r : Nat) : Int) = ((d - r : Nat) : Int) + (d : Int) * (-((k : Int) + 1)) := by
      rw [Int.natCast_add, Int.natCast_mul, Int.mul_neg, Int.mul_add, Int.mul_one]
      omega
    rw [e, Int.add_mul_emod_self_left]
    exact_mod_cast Nat.mod_eq_of_lt (show d - r < d by omega)
  · rw [if_neg h]
    obtain rfl : r = 0 := by omega
    have e : -((d * k + 0 : Nat) : Int) = (d : Int) * (-(k : Int)) := by
      rw [Nat.add_zero, Int.natCast_mul, Int.mul_neg]
    rw [e]
    simp
theorem mod_sval (neg : Bool) (l : List Nat) (neg' : Bool) (l' m : List Nat) (hd : 0 < lval l') (hm : lval m = if (belowB neg l != belowB neg' l') = true ∧ 0 < lval l % lval l' then lval l' - lval l % lval l' else lval l % lval l') : sval (belowB neg' l') m = Int.fmod (sval neg l) (sval neg' l') := by
  rw [← sval_bB neg l, ← sval_bB neg' l']
  revert hm
  generalize belowB neg l = p
  generalize belowB neg' l' = q
  intro hm
  have hlt := Nat.mod_lt (lval l) hd
  have hng := neg_mod (lval l) (lval l') hd
  have hps : ((lval l : Nat) : Int) % (lval l' : Int) = ((lval l % lval l' : Nat) : Int) := by simp
  unfold sval
  rw [hm, Int.fmod_eq_emod]
  generalize lval l = a at *
  generalize lval l' = d at *
  generalize a % d = r at *
  cases p <;> cases q
  · rw [if_neg (show ¬ ((false != false) = true ∧ 0 < r) by simp)]
    simp only [if_false, Bool.false_eq_true, hps]
    rw [if_pos (c := (0 : Int) ≤ (d : Int) ∨ (d : Int) ∣ (a : Int)) (.inl (by omega))]
    simp
  · simp only [if_false, if_true, Bool.false_eq_true, Int.emod_neg, Int.dvd_iff_emod_eq_zero, hps]
    by_cases h : 0 < r
    · rw [if_pos (show (false != true) = true ∧ 0 < r from ⟨rfl, h⟩)]
      split <;> omega
    · rw [if_neg (show ¬ ((false != true) = true ∧ 0 < r) by simp; omega)]
      split <;> omega
  · simp only [if_false, if_true, Bool.false_eq_true, hng]
    rw [if_pos (c := (0 : Int) ≤ (d : Int) ∨ (d : Int) ∣ -(a : Int)) (.inl (by omega))]
    by_cases h : 0 < r
    · rw [if_pos (show (true != false) = true ∧ 0 < r from ⟨rfl, h⟩), if_pos h]; omega
    · rw [if_neg (show ¬ ((true != false) = true ∧ 0 < r) by simp; omega), if_neg h]; omega
  · rw [if_neg (show ¬ ((true != true) = true ∧ 0 < r) by simp)]
    simp only [if_true, Int.emod_neg, Int.dvd_iff_emod_eq_zero, hng]
    by_cases h : 0 < r
    · rw [if_pos h]; split <;> omega
    · rw [if_neg h]; split <;> omega

set_option maxRecDepth 100000 in
set_option maxHeartbeats 4000000 in
theorem quo_any (neg : Bool) (A : Option Addr) (n c : Nat) (l : List Nat) (neg' : Bool) (A' : Option Addr) (n' c' : Nat) (l' : List Nat) (w : World) (h : LimbsAt w A n c l) (h' : LimbsAt w A' n' c' l') (hm : n ≤ 9000) (hm' : n' ≤ 9000) (hD : 0 < lval l') :
    Calls Tryd.prog 29 #[numArg neg A n c, numArg neg' A' n' c'] w (ResPost (Int.tdiv (sval neg l) (sval neg' l')) w) := by
  have BX := box3 w (.bool neg) (.slice A n c) (.bool neg') (.slice A' n' c')
  have h1 := h.keep0 BX.k
  have h1' := h'.keep0 BX.k
  go_enter Tryd.func29, Tryd.ntmps29
  go_wp2_with fail
  generalize w.heap.size = Ba at BX ⊢
  generalize ((w.alloc (.cells #[.bool neg, .slice A n c] 25)).alloc (.cells #[.bool neg', .slice A' n' c'] 25)).alloc (.cells #[.bool false, .slice none 0 0] 25) = w1 at BX h1 h1' ⊢
  obtain ⟨c0, c1, c2, c3⟩ := BX.cells (Keep.refl _ _)
  have HBX := Lib.hid BX
  clear BX
  go_wp2_with fail
  refine (sign_any neg' A' n' c' l' w1 h1').mono ?_
  rintro e w2 ⟨rfl, k2⟩
  obtain ⟨z, hz⟩ : ∃ z, z = signI (sval neg' l') := ⟨_, rfl⟩
  have hz0 : (z == 0) = false := by
    rw [hz, signI_zero]
    have := sval_zero neg' l'
    exact decide_eq_false (by omega)
  rw [← hz]
  have h2 := h1.keep0 k2
  have h2' := h1'.keep0 k2
  have BX2 := HBX.out.step k2
  clear hz c0 c1 c2 c3 h1 h1' k2 HBX h h'
  obtain ⟨c0, c1, c2, c3⟩ := BX2.cells (Keep.refl _ _)
  have HBX := Lib.hid BX2
  have HP := Lib.hid (parted_any A n c l A' n' c' l' w2 h2 h2' hm hm' hD)
  clear BX2
  dsimp only
  go_wp2_with fail
  refine HP.out.mono ?_
  rintro e w3 ⟨Aq, nq, cq, q, Ar, nr, cr, r, rfl, oq, lq, vq, mq, or, lr, vr, mr, k3⟩
  have h3 := h2.keep0 k3
  have h3' := h2'.keep0 k3
  have BX3 := HBX.out.step k3
  clear c0 c1 c2 c3 h2 h2' k3 HBX HP
  have hL := oq.toLimbs lq (by omega)
  have HL := Lib.hid (fun (w' : World) (K' : Keep (fun _ => False) w3 w') => hL.keep0 K')
  have HB := Lib.hid (fun (w' : World) (K' : Keep (fun _ => False) w3 w') => below_any neg A n c l w' (h3.keep0 K'))
  have HB' := Lib.hid (fun (w' : World) (K' : Keep (fun _ => False) w3 w') => below_any neg' A' n' c' l' w' (h3'.keep0 K'))
  have HMV := Lib.hid (quo_sval neg l neg' l' q vq)
  obtain ⟨c0, c1, c2, c3⟩ := BX3.cells (Keep.refl _ _)
  have Kd : Keep (fun _ => False) w3 w3.drew := (Keep.refl _ _).drew
  have HBX := Lib.hid BX3
  generalize belowB neg l = p at HB HMV
  generalize belowB neg' l' = p' at HB' HMV
  clear BX3 h3 h3' hL lq vq lr vr oq or mr mq hD
  dsimp only
  go_wp2_with fail
  go_region_held3 (fun w' => w'.cell? ⟨Ba, 0, none⟩ = some (.bool neg) ∧ w'.cell? ⟨Ba, 1, none⟩ = some (.slice A n c) ∧ w'.cell? ⟨Ba + 1, 0, none⟩ = some (.bool neg') ∧ w'.cell? ⟨Ba + 1, 1, none⟩ = some (.slice A' n' c'))
    (first | exact HBX.out.cells Kd | (refine HBX.out.cells ?_; assumption) | (refine HBX.out.cellsS ?_ _ _; assumption))
    (first
      | (go_at_call 70; first
        | ((with_reducible refine (HB.out _ (by assumption)).mono ?_); rintro e w3 ⟨rfl, k3⟩; have K3 := Keep.trans (by assumption) k3)
        | ((with_reducible refine (HB'.out _ (by assumption)).mono ?_); rintro e w4 ⟨rfl, k4⟩; have K4 := Keep.trans (by assumption) k4))
      | (go_at_call 51; refine (made_any _ _ _ _ q _ (HL.out _ (by assumption))).mono ?_; intro e w8 hres; have K8 := Keep.trans (by assumption) hres.1; obtain ⟨ng, A8, n8, c8, f8, rfl, r0, r1, f0, f1, e0, e1, P⟩ := HBX.out.res (by assumption) hres))
  all_goals
    have hsv : sval (!(p == p')) q = Int.tdiv (sval neg l) (sval neg' l') := HMV.out
    rw [hsv] at P
    have HP := Lib.hid P
    have HE := Lib.hid (And.intro e0 e1)
    clear P hres hsv e0 e1
    go_wp2_with fail
    refine bodyPost_ret (v := .tuple #[numArg ng A8 n8 c8, .int .i64 f8]) ?_ rfl HP.out
    obtain ⟨e0, e1⟩ := HE.out
    simp [results, Tryd.results29, go_sem, e0, e1]
/-- The four cells of the two numbers that came in. -/
def S3 (Ba : Nat) (neg : Bool) (A : Option Addr) (n c : Nat) (neg' : Bool) (A' : Option Addr) (n' c' : Nat) (w' : World) : Prop :=
  w'.cell? ⟨Ba, 0, none⟩ = some (.bool neg) ∧ w'.cell? ⟨Ba, 1, none⟩ = some (.slice A n c) ∧ w'.cell? ⟨Ba + 1, 0, none⟩ = some (.bool neg') ∧ w'.cell? ⟨Ba + 1, 1, none⟩ = some (.slice A' n' c')
/-- Division by nought. -/
def ZeroPost (w : World) (e : Ending) (w' : World) : Prop := e = .returned (.tuple #[numArg false none 0 0, .int .i64 13]) ∧ Keep (fun _ => False) w w'
set_option maxRecDepth 100000 in
set_option maxHeartbeats 4000000 in
theorem quo_zero (neg : Bool) (A : Option Addr) (n c : Nat) (neg' : Bool) (A' : Option Addr) (n' c' : Nat) (l' : List Nat) (w : World) (h' : LimbsAt w A' n' c' l') (hD : lval l' = 0) :
    Calls Tryd.prog 29 #[numArg neg A n c, numArg neg' A' n' c'] w (ZeroPost w) := by
  have BX := box3 w (.bool neg) (.slice A n c) (.bool neg') (.slice A' n' c')
  have h1' := h'.keep0 BX.k
  go_enter Tryd.func29, Tryd.ntmps29
  go_wp2_with fail
  generalize w.heap.size = Ba at BX ⊢
  generalize ((w.alloc (.cells #[.bool neg, .slice A n c] 25)).alloc (.cells #[.bool neg', .slice A' n' c'] 25)).alloc (.cells #[.bool false, .slice none 0 0] 25) = w1 at BX h1' ⊢
  obtain ⟨c0, c1, c2, c3⟩ := BX.cells (Keep.refl _ _)
  have HBX := Lib.hid BX
  clear BX
  go_wp2_with fail
  refine (sign_any neg' A' n' c' l' w1 h1').mono ?_
  rintro e w2 ⟨rfl, k2⟩
  obtain ⟨z, hz⟩ : ∃ z, z = signI (sval neg' l') := ⟨_, rfl⟩
  have hz0 : (z == 0) = true := by
    rw [hz, signI_zero]
    have := sval_zero neg' l'
    exact decide_eq_true (by omega)
  rw [← hz]
  have BX2 := HBX.out.step k2
  clear hz c0 c1 c2 c3 h1' k2 HBX h' hD
  have hbb := BX2.b3
  have r0 : w2.cell? ⟨Ba + 1 + 1, 0, none⟩ = some (.bool false) := by rw [cell_of_row w2 _ _ _ _ _ hbb]; rfl
  have r1 : w2.cell? ⟨Ba + 1 + 1, 1, none⟩ = some (.slice none 0 0) := by rw [cell_of_row w2 _ _ _ _ _ hbb]; rfl
  have f0 : w2.frozen? ⟨Ba + 1 + 1, 0, none⟩ = false := by simp [World.frozen?, hbb]
  have f1 : w2.frozen? ⟨Ba + 1 + 1, 1, none⟩ = false := by simp [World.frozen?, hbb]
  obtain ⟨e0, e1⟩ := two_cells hbb (.bool false) (.slice none 0 0)
  have HK := Lib.hid (two_keep BX2.k (Nat.le_trans BX2.lo (Nat.le_add_right _ 2)) (.bool false) (.slice none 0 0))
  have HE := Lib.hid (And.intro e0 e1)
  clear BX2 hbb e0 e1
  dsimp only
  go_wp2_with fail
  refine bodyPost_ret (v := .tuple #[numArg false none 0 0, .int .i64 13]) ?_ rfl ⟨rfl, HK.out⟩
  obtain ⟨e0, e1⟩ := HE.out
  simp [results, Tryd.results29, go_sem, e0, e1]
set_option maxRecDepth 100000 in
set_option maxHeartbeats 4000000 in
theorem rem_zero (neg : Bool) (A : Option Addr) (n c : Nat) (neg' : Bool) (A' : Option Addr) (n' c' : Nat) (l' : List Nat) (w : World) (h' : LimbsAt w A' n' c' l') (hD : lval l' = 0) :
    Calls Tryd.prog 30 #[numArg neg A n c, numArg neg' A' n' c'] w (ZeroPost w) := by
  have BX := box3 w (.bool neg) (.slice A n c) (.bool neg') (.slice A' n' c')
  have h1' := h'.keep0 BX.k
  go_enter Tryd.func30, Tryd.ntmps30
  go_wp2_with fail
  generalize w.heap.size = Ba at BX ⊢
  generalize ((w.alloc (.cells #[.bool neg, .slice A n c] 25)).alloc (.cells #[.bool neg', .slice A' n' c'] 25)).alloc (.cells #[.bool false, .slice none 0 0] 25) = w1 at BX h1' ⊢
  obtain ⟨c0, c1, c2, c3⟩ := BX.cells (Keep.refl _ _)
  have HBX := Lib.hid BX
  clear BX
  go_wp2_with fail
  refine (sign_any neg' A' n' c' l' w1 h1').mono ?_
  rintro e w2 ⟨rfl, k2⟩
  obtain ⟨z, hz⟩ : ∃ z, z = signI (sval neg' l') := ⟨_, rfl⟩
  have hz0 : (z == 0) = true := by
    rw [hz, signI_zero]
    have := sval_zero neg' l'
    exact decide_eq_true (by omega)
  rw [← hz]
  have BX2 := HBX.out.step k2
  clear hz c0 c1 c2 c3 h1' k2 HBX h' hD
  have hbb := BX2.b3
  have r0 : w2.cell? ⟨Ba + 1 + 1, 0, none⟩ = some (.bool false) := by rw [cell_of_row w2 _ _ _ _ _ hbb]; rfl
  have r1 : w2.cell? ⟨Ba + 1 + 1, 1, none⟩ = some (.slice none 0 0) := by rw [cell_of_row w2 _ _ _ _ _ hbb]; rfl
  have f0 : w2.frozen? ⟨Ba + 1 + 1, 0, none⟩ = false := by simp [World.frozen?, hbb]
  have f1 : w2.frozen? ⟨Ba + 1 + 1, 1, none⟩ = false := by simp [World.frozen?, hbb]
  obtain ⟨e0, e1⟩ := two_cells hbb (.bool false) (.slice none 0 0)
  have HK := Lib.hid (two_keep BX2.k (Nat.le_trans BX2.lo (Nat.le_add_right _ 2)) (.bool false) (.slice none 0 0))
  have HE := Lib.hid (And.intro e0 e1)
  clear BX2 hbb e0 e1
  dsimp only
  go_wp2_with fail
  refine bodyPost_ret (v := .tuple #[numArg false none 0 0, .int .i64 13]) ?_ rfl ⟨rfl, HK.out⟩
  obtain ⟨e0, e1⟩ := HE.out
  simp [results, Tryd.results30, go_sem, e0, e1]
set_option maxRecDepth 100000 in
set_option maxHeartbeats 4000000 in
theorem mod_zero (neg : Bool) (A : Option Addr) (n c : Nat) (neg' : Bool) (A' : Option Addr) (n' c' : Nat) (l' : List Nat) (w : World) (h' : LimbsAt w A' n' c' l') (hD : lval l' = 0) :
    Calls Tryd.prog 31 #[numArg neg A n c, numArg neg' A' n' c'] w (ZeroPost w) := by
  have BX := box3 w (.bool neg) (.slice A n c) (.bool neg') (.slice A' n' c')
  have h1' := h'.keep0 BX.k
  go_enter Tryd.func31, Tryd.ntmps31
  go_wp2_with fail
  generalize w.heap.size = Ba at BX ⊢
  generalize ((w.alloc (.cells #[.bool neg, .slice A n c] 25)).alloc (.cells #[.bool neg', .slice A' n' c'] 25)).alloc (.cells #[.bool false, .slice none 0 0] 25) = w1 at BX h1' ⊢
  obtain ⟨c0, c1, c2, c3⟩ := BX.cells (Keep.refl _ _)
  have HBX := Lib.hid BX
  clear BX
  go_wp2_with fail
  refine (sign_any neg' A' n' c' l' w1 h1').mono ?_
  rintro e w2 ⟨rfl, k2⟩
  obtain ⟨z, hz⟩ : ∃ z, z = signI (sval neg' l') := ⟨_, rfl⟩
  have hz0 : (z == 0) = true := by
    rw [hz, signI_zero]
    have := sval_zero neg' l'
    exact decide_eq_true (by omega)
  rw [← hz]
  have BX2 := HBX.out.step k2
  clear hz c0 c1 c2 c3 h1' k2 HBX h' hD
  have hbb := BX2.b3
  have r0 : w2.cell? ⟨Ba + 1 + 1, 0, none⟩ = some (.bool false) := by rw [cell_of_row w2 _ _ _ _ _ hbb]; rfl
  have r1 : w2.cell? ⟨Ba + 1 + 1, 1, none⟩ = some (.slice none 0 0) := by rw [cell_of_row w2 _ _ _ _ _ hbb]; rfl
  have f0 : w2.frozen? ⟨Ba + 1 + 1, 0, none⟩ = false := by simp [World.frozen?, hbb]
  have f1 : w2.frozen? ⟨Ba + 1 + 1, 1, none⟩ = false := by simp [World.frozen?, hbb]
  obtain ⟨e0, e1⟩ := two_cells hbb (.bool false) (.slice none 0 0)
  have HK := Lib.hid (two_keep BX2.k (Nat.le_trans BX2.lo (Nat.le_add_right _ 2)) (.bool false) (.slice none 0 0))
  have HE := Lib.hid (And.intro e0 e1)
  clear BX2 hbb e0 e1
  dsimp only
  go_wp2_with fail
  refine bodyPost_ret (v := .tuple #[numArg false none 0 0, .int .i64 13]) ?_ rfl ⟨rfl, HK.out⟩
  obtain ⟨e0, e1⟩ := HE.out
  simp [results, Tryd.results31, go_sem, e0, e1]
set_option maxRecDepth 100000 in
set_option maxHeartbeats 4000000 in
theorem rem_any (neg : Bool) (A : Option Addr) (n c : Nat) (l : List Nat) (neg' : Bool) (A' : Option Addr) (n' c' : Nat) (l' : List Nat) (w : World) (h : LimbsAt w A n c l) (h' : LimbsAt w A' n' c' l') (hm : n ≤ 9000) (hm' : n' ≤ 9000) (hD : 0 < lval l') :
    Calls Tryd.prog 30 #[numArg neg A n c, numArg neg' A' n' c'] w (ResPost (Int.tmod (sval neg l) (sval neg' l')) w) := by
  have BX := box3 w (.bool neg) (.slice A n c) (.bool neg') (.slice A' n' c')
  have h1 := h.keep0 BX.k
  have h1' := h'.keep0 BX.k
  go_enter Tryd.func30, Tryd.ntmps30
  go_wp2_with fail
  generalize w.heap.size = Ba at BX ⊢
  generalize ((w.alloc (.cells #[.bool neg, .slice A n c] 25)).alloc (.cells #[.bool neg', .slice A' n' c'] 25)).alloc (.cells #[.bool false, .slice none 0 0] 25) = w1 at BX h1 h1' ⊢
  obtain ⟨c0, c1, c2, c3⟩ := BX.cells (Keep.refl _ _)
  have HBX := Lib.hid BX
  clear BX
  go_wp2_with fail
  refine (sign_any neg' A' n' c' l' w1 h1').mono ?_
  rintro e w2 ⟨rfl, k2⟩
  obtain ⟨z, hz⟩ : ∃ z, z = signI (sval neg' l') := ⟨_, rfl⟩
  have hz0 : (z == 0) = false := by
    rw [hz, signI_zero]
    have := sval_zero neg' l'
    exact decide_eq_false (by omega)
  rw [← hz]
  have h2 := h1.keep0 k2
  have h2' := h1'.keep0 k2
  have BX2 := HBX.out.step k2
  clear hz c0 c1 c2 c3 h1 h1' k2 HBX h h'
  obtain ⟨c0, c1, c2, c3⟩ := BX2.cells (Keep.refl _ _)
  have HBX := Lib.hid BX2
  have HP := Lib.hid (parted_any A n c l A' n' c' l' w2 h2 h2' hm hm' hD)
  clear BX2
  dsimp only
  go_wp2_with fail
  refine HP.out.mono ?_
  rintro e w3 ⟨Aq, nq, cq, q, Ar, nr, cr, r, rfl, oq, lq, vq, mq, or, lr, vr, mr, k3⟩
  have h3 := h2.keep0 k3
  have BX3 := HBX.out.step k3
  clear c0 c1 c2 c3 h2 h2' k3 HBX HP
  have hL := or.toLimbs lr (by omega)
  have HL := Lib.hid (fun (w' : World) (K' : Keep (fun _ => False) w3 w') => hL.keep0 K')
  have HB := Lib.hid (fun (w' : World) (K' : Keep (fun _ => False) w3 w') => below_any neg A n c l w' (h3.keep0 K'))
  have HMV := Lib.hid (rem_sval neg l neg' l' r vr)
  obtain ⟨c0, c1, c2, c3⟩ := BX3.cells (Keep.refl _ _)
  have HBX := Lib.hid BX3
  generalize belowB neg l = p at HB HMV
  clear BX3 h3 hL lq vq lr vr oq or mr mq hD
  dsimp only
  go_wp2_with fail
  refine (HB.out w3 (Keep.refl _ _)).mono ?_
  rintro e w4 ⟨rfl, k4⟩
  dsimp only
  go_wp2_with fail
  refine (made_any _ _ _ _ r _ (HL.out _ k4)).mono ?_
  intro e w8 hres
  obtain ⟨ng, A8, n8, c8, f8, rfl, r0, r1, f0, f1, e0, e1, P⟩ := HBX.out.res k4 hres
  rw [HMV.out] at P
  have HP := Lib.hid P
  have HE := Lib.hid (And.intro e0 e1)
  clear P hres e0 e1 k4 HL HB
  dsimp only
  go_wp2_with fail
  refine bodyPost_ret (v := .tuple #[numArg ng A8 n8 c8, .int .i64 f8]) ?_ rfl HP.out
  obtain ⟨e0, e1⟩ := HE.out
  simp [results, Tryd.results30, go_sem, e0, e1]
set_option maxRecDepth 100000 in
set_option maxHeartbeats 4000000 in
theorem mod_any (neg : Bool) (A : Option Addr) (n c : Nat) (l : List Nat) (neg' : Bool) (A' : Option Addr) (n' c' : Nat) (l' : List Nat) (w : World) (h : LimbsAt w A n c l) (h' : LimbsAt w A' n' c' l') (hm : n ≤ 9000) (hm' : n' ≤ 9000) (hD : 0 < lval l') :
    Calls Tryd.prog 31 #[numArg neg A n c, numArg neg' A' n' c'] w (ResPost (Int.fmod (sval neg l) (sval neg' l')) w) := by
  have BX := box3 w (.bool neg) (.slice A n c) (.bool neg') (.slice A' n' c')
  have h1 := h.keep0 BX.k
  have h1' := h'.keep0 BX.k
  go_enter Tryd.func31, Tryd.ntmps31
  go_wp2_with fail
  generalize w.heap.size = Ba at BX ⊢
  generalize ((w.alloc (.cells #[.bool neg, .slice A n c] 25)).alloc (.cells #[.bool neg', .slice A' n' c'] 25)).alloc (.cells #[.bool false, .slice none 0 0] 25) = w1 at BX h1 h1' ⊢
  obtain ⟨c0, c1, c2, c3⟩ := BX.cells (Keep.refl _ _)
  have HBX := Lib.hid BX
  clear BX
  go_wp2_with fail
  refine (sign_any neg' A' n' c' l' w1 h1').mono ?_
  rintro e w2 ⟨rfl, k2⟩
  obtain ⟨z, hz⟩ : ∃ z, z = signI (sval neg' l') := ⟨_, rfl⟩
  have hz0 : (z == 0) = false := by
    rw [hz, signI_zero]
    have := sval_zero neg' l'
    exact decide_eq_false (by omega)
  rw [← hz]
  have h2 := h1.keep0 k2
  have h2' := h1'.keep0 k2
  have BX2 := HBX.out.step k2
  clear hz c0 c1 c2 c3 h1 h1' k2 HBX h h'
  obtain ⟨c0, c1, c2, c3⟩ := BX2.cells (Keep.refl _ _)
  have HBX := Lib.hid BX2
  have HP := Lib.hid (parted_any A n c l A' n' c' l' w2 h2 h2' hm hm' hD)
  clear BX2
  dsimp only
  go_wp2_with fail
  refine HP.out.mono ?_
  rintro e w3 ⟨Aq, nq, cq, q, Ar, nr, cr, r, rfl, oq, lq, vq, mq, or, lr, vr, mr, k3⟩
  have h3 := h2.keep0 k3
  have h3' := h2'.keep0 k3
  have BX3 := HBX.out.step k3
  clear c0 c1 c2 c3 h2 h2' k3 HBX HP
  have hL := or.toLimbs lr (by omega)
  have HL := Lib.hid (fun (w' : World) (K' : Keep (fun _ => False) w3 w') => hL.keep0 K')
  have HB := Lib.hid (fun (w' : World) (K' : Keep (fun _ => False) w3 w') => below_any neg A n c l w' (h3.keep0 K'))
  have HB' := Lib.hid (fun (w' : World) (K' : Keep (fun _ => False) w3 w') => below_any neg' A' n' c' l' w' (h3'.keep0 K'))
  have HMV := Lib.hid (fun m hm => mod_sval neg l neg' l' m hD hm)
  have HT := Lib.hid (fun (w' : World) (K' : Keep (fun _ => False) w3 w') => trim_any Ar nr cr r w' (hL.keep0 K'))
  have HT' := Lib.hid (fun (w' : World) (K' : Keep (fun _ => False) w3 w') => trim_any A' n' c' l' w' (h3'.keep0 K'))
  have tl' := tlen_le h3'.low
  rw [h3'.len] at tl'
  have HLESS := Lib.hid (fun (w' : World) (K' : Keep (fun _ => False) w3 w') => less_any A' (tlen l') c' (limbs (lval l')) Ar nr cr r w' (h3'.keep0 K').trim (hL.keep0 K') (by omega))
  have hlv : lval (rowL BB (lessF (limbs (lval l')) r) (tlen l')) = lval l' - lval l % lval l' := by
    have := less_val (a := limbs (lval l')) (b := r) (digs_low BB2 _) hL.low (by
      show lval r ≤ lval (limbs (lval l'))
      rw [lval_limbs, vr]
      exact Nat.le_of_lt (Nat.mod_lt _ hD))
    unfold tlen
    have e : val BB (limbs (lval l')) = lval l' := lval_limbs _
    rw [e] at this
    rw [← vr]
    exact this
  have HLV := Lib.hid (And.intro hlv (And.intro (show Low BB (rowL BB (lessF (limbs (lval l')) r) (tlen l')) from rowL_low (by unfold BB; omega) _ _) tl'))
  have hpos := tlen_pos r
  rw [vr] at hpos
  have HPOS := Lib.hid hpos
  have HLR := Lib.hid (And.intro lr vr)
  obtain ⟨c0, c1, c2, c3⟩ := BX3.cells (Keep.refl _ _)
  have Kd : Keep (fun _ => False) w3 w3.drew := (Keep.refl _ _).drew
  have HBX := Lib.hid BX3
  generalize belowB neg l = p at HB HMV
  generalize belowB neg' l' = p' at HB' HMV
  have HD := Lib.hid hD
  clear BX3 h3 lq vq lr vr oq or mq hD hL hlv tl' hpos h3'
  dsimp only
  go_wp2_with fail
  have HC : ∀ w', Keep (fun _ => False) w3 w' → S3 Ba neg A n c neg' A' n' c' w' := fun w' K' => HBX.out.cells K'
  have HCC := Lib.hid HC
  clear HC
  refine wp_region_held_drew (S := fun w' => w'.cell? ⟨Ba, 0, none⟩ = some (.bool neg) ∧ w'.cell? ⟨Ba, 1, none⟩ = some (.slice A n c) ∧ w'.cell? ⟨Ba + 1, 0, none⟩ = some (.bool neg') ∧ w'.cell? ⟨Ba + 1, 1, none⟩ = some (.slice A' n' c')) (by kernel_rfl) (HCC.out _ Kd) (fun hHeld => ?_)
  refine wpAnyH_take (i := 0) (oi := _) (v := ?_) rfl (by kernel_rfl) (by kernel_rfl) (by kernel_rfl) (fun _ _ _ h => h) (Or.inl ⟨by rfl, ?_⟩) (by assumption) ?_
  rotate_left
  · (intro w hSw; (try dsimp only at hSw); go_simp)
    all_goals with_reducible rfl
  refine wpAnyH_take (i := 2) (oi := _) (v := ?_) rfl (by kernel_rfl) (by kernel_rfl) (by kernel_rfl) (fun _ _ _ h => h) (Or.inl ⟨by rfl, ?_⟩) (by assumption) ?_
  rotate_left
  · (intro w hSw; (try dsimp only at hSw); go_simp)
    all_goals with_reducible rfl
  try dsimp only [List.getElem_toArray, List.getElem_cons_succ, List.getElem_cons_zero]
  try simp only [Act.put, List.setIfInBounds_toArray, List.set_cons_zero, List.set_cons_succ]
  refine wpAnyH_ready (rs := [1]) (by kernel_rfl) (by simp) ?_
  refine AllReadyH.cons (o := _) rfl (fun K hK => ?_) AllReadyH.nil
  go_simp
  refine (HB.out _ Kd).mono ?_
  rintro e wa ⟨rfl, ka⟩
  have Kwa : Keep (fun _ => False) w3 wa := Keep.trans Kd ka
  try dsimp only
  go_wp2_with fail
  refine hK.out _ _ (HCC.out _ Kwa) (fun hHeld => ?_)
  clear hK K
  try dsimp only [List.getElem_toArray, List.getElem_cons_succ, List.getElem_cons_zero]
  try simp only [Act.put, List.setIfInBounds_toArray, List.set_cons_zero, List.set_cons_succ]
  refine wpAnyH_ready (rs := [3]) (by kernel_rfl) (by simp) ?_
  refine AllReadyH.cons (o := _) rfl (fun K hK => ?_) AllReadyH.nil
  go_simp
  refine (HB'.out _ Kwa).mono ?_
  rintro e wb ⟨rfl, kb⟩
  have Kwb : Keep (fun _ => False) w3 wb := Keep.trans Kwa kb
  try dsimp only
  go_wp2_with fail
  refine hK.out _ _ (HCC.out _ Kwb) (fun hHeld => ?_)
  clear hK K
  by_cases ht : 0 < tlen r
  · have hti : (0 : Int) < (tlen r : Int) := by omega
    cases p <;> cases p'
    · refine wpAnyH_take (i := 4) (oi := _) (v := ?_) rfl (by kernel_rfl) (by kernel_rfl) (by kernel_rfl) (fun _ _ _ h => h) (Or.inl ⟨by rfl, ?_⟩) (by assumption) ?_
      rotate_left
      · (intro w hSw; (try dsimp only at hSw); go_simp)
        all_goals with_reducible rfl
      refine wpAnyH_take (i := 5) (oi := _) (v := ?_) rfl (by kernel_rfl) (by kernel_rfl) (by kernel_rfl) (fun _ _ _ h => h) (Or.inl ⟨by rfl, ?_⟩) (by assumption) ?_
      rotate_left
      · (intro w hSw; (try dsimp only at hSw); go_simp)
        all_goals with_reducible rfl
      refine wpAnyH_take (i := 6) (oi := _) (v := undef) rfl (by kernel_rfl) (by kernel_rfl) (by kernel_rfl) (fun _ _ _ h => h) (Or.inr ⟨by rfl, rfl⟩) (by assumption) ?_
      refine wpAnyH_take (i := 7) (oi := _) (v := undef) rfl (by kernel_rfl) (by kernel_rfl) (by kernel_rfl) (fun _ _ _ h => h) (Or.inr ⟨by rfl, rfl⟩) (by assumption) ?_
      refine wpAnyH_take (i := 8) (oi := _) (v := undef) rfl (by kernel_rfl) (by kernel_rfl) (by kernel_rfl) (fun _ _ _ h => h) (Or.inr ⟨by rfl, rfl⟩) (by assumption) ?_
      refine wpAnyH_take (i := 9) (oi := _) (v := undef) rfl (by kernel_rfl) (by kernel_rfl) (by kernel_rfl) (fun _ _ _ h => h) (Or.inr ⟨by rfl, rfl⟩) (by assumption) ?_
      refine wpAnyH_take (i := 10) (oi := _) (v := ?_) rfl (by kernel_rfl) (by kernel_rfl) (by kernel_rfl) (fun _ _ _ h => h) (Or.inl ⟨by rfl, ?_⟩) (by assumption) ?_
      rotate_left
      · (intro w hSw; (try dsimp only at hSw); go_simp)
        all_goals with_reducible rfl
      try dsimp only [List.getElem_toArray, List.getElem_cons_succ, List.getElem_cons_zero]
      try simp only [Act.put, List.setIfInBounds_toArray, List.set_cons_zero, List.set_cons_succ]
      refine wpAnyH_done (by kernel_rfl) ?_ _
      go_wp2_with fail
      refine (HB'.out _ Kwb).mono ?_
      rintro e w5 ⟨rfl, k5⟩
      have K5 : Keep (fun _ => False) w3 w5 := Keep.trans Kwb k5
      try dsimp only
      go_wp2_with fail
      refine (made_any _ _ _ _ (r) _ (HL.out _ K5)).mono ?_
      intro e w8 hres
      obtain ⟨ng, A8, n8, c8, f8, rfl, r0, r1, f0, f1, e0, e1, P⟩ := HBX.out.res K5 hres
      rw [HMV.out (r) (by rw [if_neg (by simp)]; exact HLR.out.2)] at P
      have HP := Lib.hid P
      have HE := Lib.hid (And.intro e0 e1)
      clear P hres e0 e1 k5 K5
      try dsimp only
      go_wp2_with fail
      refine bodyPost_ret (v := .tuple #[numArg ng A8 n8 c8, .int .i64 f8]) ?_ rfl HP.out
      obtain ⟨e0, e1⟩ := HE.out
      simp [results, Tryd.results31, go_sem, e0, e1]
    · refine wpAnyH_take (i := 4) (oi := _) (v := ?_) rfl (by kernel_rfl) (by kernel_rfl) (by kernel_rfl) (fun _ _ _ h => h) (Or.inl ⟨by rfl, ?_⟩) (by assumption) ?_
      rotate_left
      · (intro w hSw; (try dsimp only at hSw); go_simp)
        all_goals with_reducible rfl
      refine wpAnyH_take (i := 5) (oi := _) (v := ?_) rfl (by kernel_rfl) (by kernel_rfl) (by kernel_rfl) (fun _ _ _ h => h) (Or.inl ⟨by rfl, ?_⟩) (by assumption) ?_
      rotate_left
      · (intro w hSw; (try dsimp only at hSw); go_simp)
        all_goals with_reducible rfl
      refine wpAnyH_take (i := 6) (oi := _) (v := ?_) rfl (by kernel_rfl) (by kernel_rfl) (by kernel_rfl) (fun _ _ _ h => h) (Or.inl ⟨by rfl, ?_⟩) (by assumption) ?_
      rotate_left
      · (intro w hSw; (try dsimp only at hSw); go_simp)
        all_goals with_reducible rfl
      try dsimp only [List.getElem_toArray, List.getElem_cons_succ, List.getElem_cons_zero]
      try simp only [Act.put, List.setIfInBounds_toArray, List.set_cons_zero, List.set_cons_succ]
      refine wpAnyH_ready (rs := [7]) (by kernel_rfl) (by simp) ?_
      refine AllReadyH.cons (o := _) rfl (fun K hK => ?_) AllReadyH.nil
      go_simp
      refine (HT.out _ Kwb).mono ?_
      rintro e wc ⟨rfl, rfl⟩
      try dsimp only
      go_wp2_with fail
      refine hK.out _ _ (HCC.out _ Kwb) (fun hHeld => ?_)
      clear hK K
      refine wpAnyH_take (i := 8) (oi := _) (v := ?_) rfl (by kernel_rfl) (by kernel_rfl) (by kernel_rfl) (fun _ _ _ h => h) (Or.inl ⟨by rfl, ?_⟩) (by assumption) ?_
      rotate_left
      · (intro w hSw; (try dsimp only at hSw); go_simp)
        all_goals with_reducible rfl
      refine wpAnyH_take (i := 9) (oi := _) (v := ?_) rfl (by kernel_rfl) (by kernel_rfl) (by kernel_rfl) (fun _ _ _ h => h) (Or.inl ⟨by rfl, ?_⟩) (by assumption) ?_
      rotate_left
      · (intro w hSw; (try dsimp only at hSw); go_simp)
        all_goals with_reducible rfl
      refine wpAnyH_take (i := 10) (oi := _) (v := ?_) rfl (by kernel_rfl) (by kernel_rfl) (by kernel_rfl) (fun _ _ _ h => h) (Or.inl ⟨by rfl, ?_⟩) (by assumption) ?_
      rotate_left
      · (intro w hSw; (try dsimp only at hSw); go_simp)
        all_goals with_reducible rfl
      try dsimp only [List.getElem_toArray, List.getElem_cons_succ, List.getElem_cons_zero]
      try simp only [Act.put, List.setIfInBounds_toArray, List.set_cons_zero, List.set_cons_succ]
      refine wpAnyH_done (by kernel_rfl) ?_ _
      go_wp2_with fail
      refine (HT'.out _ Kwb).mono ?_
      rintro e wc ⟨rfl, rfl⟩
      try dsimp only
      go_wp2_with fail
      refine (HLESS.out _ Kwb).mono ?_
      rintro e w6 ⟨A9, n9, c9, rfl, o9, k9⟩
      have Kw6 : Keep (fun _ => False) w3 w6 := Keep.trans Kwb k9
      have hn9 : n9 ≤ 100000 := by
        have := o9.len
        unfold rowL at this
        simp at this
        have := HLV.out.2.2
        omega
      have H9 := Lib.hid (o9.toLimbs HLV.out.2.1 hn9)
      obtain ⟨c0, c1, c2, c3⟩ := HCC.out _ Kw6
      clear o9
      try dsimp only
      go_wp2_with fail
      refine (HB'.out _ Kw6).mono ?_
      rintro e w5 ⟨rfl, k5⟩
      have K5 : Keep (fun _ => False) w3 w5 := Keep.trans Kw6 k5
      try dsimp only
      go_wp2_with fail
      refine (made_any _ _ _ _ (rowL BB (lessF (limbs (lval l')) r) (tlen l')) _ (H9.out.keep0 k5)).mono ?_
      intro e w8 hres
      obtain ⟨ng, A8, n8, c8, f8, rfl, r0, r1, f0, f1, e0, e1, P⟩ := HBX.out.res K5 hres
      rw [HMV.out (rowL BB (lessF (limbs (lval l')) r) (tlen l')) (by rw [if_pos ⟨rfl, HPOS.out.1 ht⟩]; exact HLV.out.1)] at P
      have HP := Lib.hid P
      have HE := Lib.hid (And.intro e0 e1)
      clear P hres e0 e1 k5 K5
      try dsimp only
      go_wp2_with fail
      refine bodyPost_ret (v := .tuple #[numArg ng A8 n8 c8, .int .i64 f8]) ?_ rfl HP.out
      obtain ⟨e0, e1⟩ := HE.out
      simp [results, Tryd.results31, go_sem, e0, e1]
    · refine wpAnyH_take (i := 4) (oi := _) (v := ?_) rfl (by kernel_rfl) (by kernel_rfl) (by kernel_rfl) (fun _ _ _ h => h) (Or.inl ⟨by rfl, ?_⟩) (by assumption) ?_
      rotate_left
      · (intro w hSw; (try dsimp only at hSw); go_simp)
        all_goals with_reducible rfl
      refine wpAnyH_take (i := 5) (oi := _) (v := ?_) rfl (by kernel_rfl) (by kernel_rfl) (by kernel_rfl) (fun _ _ _ h => h) (Or.inl ⟨by rfl, ?_⟩) (by assumption) ?_
      rotate_left
      · (intro w hSw; (try dsimp only at hSw); go_simp)
        all_goals with_reducible rfl
      refine wpAnyH_take (i := 6) (oi := _) (v := ?_) rfl (by kernel_rfl) (by kernel_rfl) (by kernel_rfl) (fun _ _ _ h => h) (Or.inl ⟨by rfl, ?_⟩) (by assumption) ?_
      rotate_left
      · (intro w hSw; (try dsimp only at hSw); go_simp)
        all_goals with_reducible rfl
      try dsimp only [List.getElem_toArray, List.getElem_cons_succ, List.getElem_cons_zero]
      try simp only [Act.put, List.setIfInBounds_toArray, List.set_cons_zero, List.set_cons_succ]
      refine wpAnyH_ready (rs := [7]) (by kernel_rfl) (by simp) ?_
      refine AllReadyH.cons (o := _) rfl (fun K hK => ?_) AllReadyH.nil
      go_simp
      refine (HT.out _ Kwb).mono ?_
      rintro e wc ⟨rfl, rfl⟩
      try dsimp only
      go_wp2_with fail
      refine hK.out _ _ (HCC.out _ Kwb) (fun hHeld => ?_)
      clear hK K
      refine wpAnyH_take (i := 8) (oi := _) (v := ?_) rfl (by kernel_rfl) (by kernel_rfl) (by kernel_rfl) (fun _ _ _ h => h) (Or.inl ⟨by rfl, ?_⟩) (by assumption) ?_
      rotate_left
      · (intro w hSw; (try dsimp only at hSw); go_simp)
        all_goals with_reducible rfl
      refine wpAnyH_take (i := 9) (oi := _) (v := ?_) rfl (by kernel_rfl) (by kernel_rfl) (by kernel_rfl) (fun _ _ _ h => h) (Or.inl ⟨by rfl, ?_⟩) (by assumption) ?_
      rotate_left
      · (intro w hSw; (try dsimp only at hSw); go_simp)
        all_goals with_reducible rfl
      refine wpAnyH_take (i := 10) (oi := _) (v := ?_) rfl (by kernel_rfl) (by kernel_rfl) (by kernel_rfl) (fun _ _ _ h => h) (Or.inl ⟨by rfl, ?_⟩) (by assumption) ?_
      rotate_left
      · (intro w hSw; (try dsimp only at hSw); go_simp)
        all_goals with_reducible rfl
      try dsimp only [List.getElem_toArray, List.getElem_cons_succ, List.getElem_cons_zero]
      try simp only [Act.put, List.setIfInBounds_toArray, List.set_cons_zero, List.set_cons_succ]
      refine wpAnyH_done (by kernel_rfl) ?_ _
      go_wp2_with fail
      refine (HT'.out _ Kwb).mono ?_
      rintro e wc ⟨rfl, rfl⟩
      try dsimp only
      go_wp2_with fail
      refine (HLESS.out _ Kwb).mono ?_
      rintro e w6 ⟨A9, n9, c9, rfl, o9, k9⟩
      have Kw6 : Keep (fun _ => False) w3 w6 := Keep.trans Kwb k9
      have hn9 : n9 ≤ 100000 := by
        have := o9.len
        unfold rowL at this
        simp at this
        have := HLV.out.2.2
        omega
      have H9 := Lib.hid (o9.toLimbs HLV.out.2.1 hn9)
      obtain ⟨c0, c1, c2, c3⟩ := HCC.out _ Kw6
      clear o9
      try dsimp only
      go_wp2_with fail
      refine (HB'.out _ Kw6).mono ?_
      rintro e w5 ⟨rfl, k5⟩
      have K5 : Keep (fun _ => False) w3 w5 := Keep.trans Kw6 k5
      try dsimp only
      go_wp2_with fail
      refine (made_any _ _ _ _ (rowL BB (lessF (limbs (lval l')) r) (tlen l')) _ (H9.out.keep0 k5)).mono ?_
      intro e w8 hres
      obtain ⟨ng, A8, n8, c8, f8, rfl, r0, r1, f0, f1, e0, e1, P⟩ := HBX.out.res K5 hres
      rw [HMV.out (rowL BB (lessF (limbs (lval l')) r) (tlen l')) (by rw [if_pos ⟨rfl, HPOS.out.1 ht⟩]; exact HLV.out.1)] at P
      have HP := Lib.hid P
      have HE := Lib.hid (And.intro e0 e1)
      clear P hres e0 e1 k5 K5
      try dsimp only
      go_wp2_with fail
      refine bodyPost_ret (v := .tuple #[numArg ng A8 n8 c8, .int .i64 f8]) ?_ rfl HP.out
      obtain ⟨e0, e1⟩ := HE.out
      simp [results, Tryd.results31, go_sem, e0, e1]
    · refine wpAnyH_take (i := 4) (oi := _) (v := ?_) rfl (by kernel_rfl) (by kernel_rfl) (by kernel_rfl) (fun _ _ _ h => h) (Or.inl ⟨by rfl, ?_⟩) (by assumption) ?_
      rotate_left
      · (intro w hSw; (try dsimp only at hSw); go_simp)
        all_goals with_reducible rfl
      refine wpAnyH_take (i := 5) (oi := _) (v := ?_) rfl (by kernel_rfl) (by kernel_rfl) (by kernel_rfl) (fun _ _ _ h => h) (Or.inl ⟨by rfl, ?_⟩) (by assumption) ?_
      rotate_left
      · (intro w hSw; (try dsimp only at hSw); go_simp)
        all_goals with_reducible rfl
      refine wpAnyH_take (i := 6) (oi := _) (v := undef) rfl (by kernel_rfl) (by kernel_rfl) (by kernel_rfl) (fun _ _ _ h => h) (Or.inr ⟨by rfl, rfl⟩) (by assumption) ?_
      refine wpAnyH_take (i := 7) (oi := _) (v := undef) rfl (by kernel_rfl) (by kernel_rfl) (by kernel_rfl) (fun _ _ _ h => h) (Or.inr ⟨by rfl, rfl⟩) (by assumption) ?_
      refine wpAnyH_take (i := 8) (oi := _) (v := undef) rfl (by kernel_rfl) (by kernel_rfl) (by kernel_rfl) (fun _ _ _ h => h) (Or.inr ⟨by rfl, rfl⟩) (by assumption) ?_
      refine wpAnyH_take (i := 9) (oi := _) (v := undef) rfl (by kernel_rfl) (by kernel_rfl) (by kernel_rfl) (fun _ _ _ h => h) (Or.inr ⟨by rfl, rfl⟩) (by assumption) ?_
      refine wpAnyH_take (i := 10) (oi := _) (v := ?_) rfl (by kernel_rfl) (by kernel_rfl) (by kernel_rfl) (fun _ _ _ h => h) (Or.inl ⟨by rfl, ?_⟩) (by assumption) ?_
      rotate_left
      · (intro w hSw; (try dsimp only at hSw); go_simp)
        all_goals with_reducible rfl
      try dsimp only [List.getElem_toArray, List.getElem_cons_succ, List.getElem_cons_zero]
      try simp only [Act.put, List.setIfInBounds_toArray, List.set_cons_zero, List.set_cons_succ]
      refine wpAnyH_done (by kernel_rfl) ?_ _
      go_wp2_with fail
      refine (HB'.out _ Kwb).mono ?_
      rintro e w5 ⟨rfl, k5⟩
      have K5 : Keep (fun _ => False) w3 w5 := Keep.trans Kwb k5
      try dsimp only
      go_wp2_with fail
      refine (made_any _ _ _ _ (r) _ (HL.out _ K5)).mono ?_
      intro e w8 hres
      obtain ⟨ng, A8, n8, c8, f8, rfl, r0, r1, f0, f1, e0, e1, P⟩ := HBX.out.res K5 hres
      rw [HMV.out (r) (by rw [if_neg (by simp)]; exact HLR.out.2)] at P
      have HP := Lib.hid P
      have HE := Lib.hid (And.intro e0 e1)
      clear P hres e0 e1 k5 K5
      try dsimp only
      go_wp2_with fail
      refine bodyPost_ret (v := .tuple #[numArg ng A8 n8 c8, .int .i64 f8]) ?_ rfl HP.out
      obtain ⟨e0, e1⟩ := HE.out
      simp [results, Tryd.results31, go_sem, e0, e1]
  · have hti : decide ((0 : Int) < (tlen r : Int)) = false := decide_eq_false (by omega)
    cases p <;> cases p'
    · refine wpAnyH_take (i := 4) (oi := _) (v := ?_) rfl (by kernel_rfl) (by kernel_rfl) (by kernel_rfl) (fun _ _ _ h => h) (Or.inl ⟨by rfl, ?_⟩) (by assumption) ?_
      rotate_left
      · (intro w hSw; (try dsimp only at hSw); go_simp)
        all_goals with_reducible rfl
      refine wpAnyH_take (i := 5) (oi := _) (v := ?_) rfl (by kernel_rfl) (by kernel_rfl) (by kernel_rfl) (fun _ _ _ h => h) (Or.inl ⟨by rfl, ?_⟩) (by assumption) ?_
      rotate_left
      · (intro w hSw; (try dsimp only at hSw); go_simp)
        all_goals with_reducible rfl
      refine wpAnyH_take (i := 6) (oi := _) (v := undef) rfl (by kernel_rfl) (by kernel_rfl) (by kernel_rfl) (fun _ _ _ h => h) (Or.inr ⟨by rfl, rfl⟩) (by assumption) ?_
      refine wpAnyH_take (i := 7) (oi := _) (v := undef) rfl (by kernel_rfl) (by kernel_rfl) (by kernel_rfl) (fun _ _ _ h => h) (Or.inr ⟨by rfl, rfl⟩) (by assumption) ?_
      refine wpAnyH_take (i := 8) (oi := _) (v := undef) rfl (by kernel_rfl) (by kernel_rfl) (by kernel_rfl) (fun _ _ _ h => h) (Or.inr ⟨by rfl, rfl⟩) (by assumption) ?_
      refine wpAnyH_take (i := 9) (oi := _) (v := undef) rfl (by kernel_rfl) (by kernel_rfl) (by kernel_rfl) (fun _ _ _ h => h) (Or.inr ⟨by rfl, rfl⟩) (by assumption) ?_
      refine wpAnyH_take (i := 10) (oi := _) (v := ?_) rfl (by kernel_rfl) (by kernel_rfl) (by kernel_rfl) (fun _ _ _ h => h) (Or.inl ⟨by rfl, ?_⟩) (by assumption) ?_
      rotate_left
      · (intro w hSw; (try dsimp only at hSw); go_simp)
        all_goals with_reducible rfl
      try dsimp only [List.getElem_toArray, List.getElem_cons_succ, List.getElem_cons_zero]
      try simp only [Act.put, List.setIfInBounds_toArray, List.set_cons_zero, List.set_cons_succ]
      refine wpAnyH_done (by kernel_rfl) ?_ _
      go_wp2_with fail
      refine (HB'.out _ Kwb).mono ?_
      rintro e w5 ⟨rfl, k5⟩
      have K5 : Keep (fun _ => False) w3 w5 := Keep.trans Kwb k5
      try dsimp only
      go_wp2_with fail
      refine (made_any _ _ _ _ (r) _ (HL.out _ K5)).mono ?_
      intro e w8 hres
      obtain ⟨ng, A8, n8, c8, f8, rfl, r0, r1, f0, f1, e0, e1, P⟩ := HBX.out.res K5 hres
      rw [HMV.out (r) (by rw [if_neg (by simp)]; exact HLR.out.2)] at P
      have HP := Lib.hid P
      have HE := Lib.hid (And.intro e0 e1)
      clear P hres e0 e1 k5 K5
      try dsimp only
      go_wp2_with fail
      refine bodyPost_ret (v := .tuple #[numArg ng A8 n8 c8, .int .i64 f8]) ?_ rfl HP.out
      obtain ⟨e0, e1⟩ := HE.out
      simp [results, Tryd.results31, go_sem, e0, e1]
    · refine wpAnyH_take (i := 4) (oi := _) (v := ?_) rfl (by kernel_rfl) (by kernel_rfl) (by kernel_rfl) (fun _ _ _ h => h) (Or.inl ⟨by rfl, ?_⟩) (by assumption) ?_
      rotate_left
      · (intro w hSw; (try dsimp only at hSw); go_simp)
        all_goals with_reducible rfl
      refine wpAnyH_take (i := 5) (oi := _) (v := ?_) rfl (by kernel_rfl) (by kernel_rfl) (by kernel_rfl) (fun _ _ _ h => h) (Or.inl ⟨by rfl, ?_⟩) (by assumption) ?_
      rotate_left
      · (intro w hSw; (try dsimp only at hSw); go_simp)
        all_goals with_reducible rfl
      refine wpAnyH_take (i := 6) (oi := _) (v := ?_) rfl (by kernel_rfl) (by kernel_rfl) (by kernel_rfl) (fun _ _ _ h => h) (Or.inl ⟨by rfl, ?_⟩) (by assumption) ?_
      rotate_left
      · (intro w hSw; (try dsimp only at hSw); go_simp)
        all_goals with_reducible rfl
      try dsimp only [List.getElem_toArray, List.getElem_cons_succ, List.getElem_cons_zero]
      try simp only [Act.put, List.setIfInBounds_toArray, List.set_cons_zero, List.set_cons_succ]
      refine wpAnyH_ready (rs := [7]) (by kernel_rfl) (by simp) ?_
      refine AllReadyH.cons (o := _) rfl (fun K hK => ?_) AllReadyH.nil
      go_simp
      refine (HT.out _ Kwb).mono ?_
      rintro e wc ⟨rfl, rfl⟩
      try dsimp only
      go_wp2_with fail
      refine hK.out _ _ (HCC.out _ Kwb) (fun hHeld => ?_)
      clear hK K
      refine wpAnyH_take (i := 8) (oi := _) (v := ?_) rfl (by kernel_rfl) (by kernel_rfl) (by kernel_rfl) (fun _ _ _ h => h) (Or.inl ⟨by rfl, ?_⟩) (by assumption) ?_
      rotate_left
      · (intro w hSw; (try dsimp only at hSw); go_simp)
        all_goals with_reducible rfl
      refine wpAnyH_take (i := 9) (oi := _) (v := ?_) rfl (by kernel_rfl) (by kernel_rfl) (by kernel_rfl) (fun _ _ _ h => h) (Or.inl ⟨by rfl, ?_⟩) (by assumption) ?_
      rotate_left
      · (intro w hSw; (try dsimp only at hSw); go_simp)
        all_goals with_reducible rfl
      refine wpAnyH_take (i := 10) (oi := _) (v := ?_) rfl (by kernel_rfl) (by kernel_rfl) (by kernel_rfl) (fun _ _ _ h => h) (Or.inl ⟨by rfl, ?_⟩) (by assumption) ?_
      rotate_left
      · (intro w hSw; (try dsimp only at hSw); go_simp)
        all_goals with_reducible rfl
      try dsimp only [List.getElem_toArray, List.getElem_cons_succ, List.getElem_cons_zero]
      try simp only [Act.put, List.setIfInBounds_toArray, List.set_cons_zero, List.set_cons_succ]
      refine wpAnyH_done (by kernel_rfl) ?_ _
      go_wp2_with fail
      refine (HB'.out _ Kwb).mono ?_
      rintro e w5 ⟨rfl, k5⟩
      have K5 : Keep (fun _ => False) w3 w5 := Keep.trans Kwb k5
      try dsimp only
      go_wp2_with fail
      refine (made_any _ _ _ _ (r) _ (HL.out _ K5)).mono ?_
      intro e w8 hres
      obtain ⟨ng, A8, n8, c8, f8, rfl, r0, r1, f0, f1, e0, e1, P⟩ := HBX.out.res K5 hres
      rw [HMV.out (r) (by rw [if_neg (fun h => ht (HPOS.out.2 h.2))]; exact HLR.out.2)] at P
      have HP := Lib.hid P
      have HE := Lib.hid (And.intro e0 e1)
      clear P hres e0 e1 k5 K5
      try dsimp only
      go_wp2_with fail
      refine bodyPost_ret (v := .tuple #[numArg ng A8 n8 c8, .int .i64 f8]) ?_ rfl HP.out
      obtain ⟨e0, e1⟩ := HE.out
      simp [results, Tryd.results31, go_sem, e0, e1]
    · refine wpAnyH_take (i := 4) (oi := _) (v := ?_) rfl (by kernel_rfl) (by kernel_rfl) (by kernel_rfl) (fun _ _ _ h => h) (Or.inl ⟨by rfl, ?_⟩) (by assumption) ?_
      rotate_left
      · (intro w hSw; (try dsimp only at hSw); go_simp)
        all_goals with_reducible rfl
      refine wpAnyH_take (i := 5) (oi := _) (v := ?_) rfl (by kernel_rfl) (by kernel_rfl) (by kernel_rfl) (fun _ _ _ h => h) (Or.inl ⟨by rfl, ?_⟩) (by assumption) ?_
      rotate_left
      · (intro w hSw; (try dsimp only at hSw); go_simp)
        all_goals with_reducible rfl
      refine wpAnyH_take (i := 6) (oi := _) (v := ?_) rfl (by kernel_rfl) (by kernel_rfl) (by kernel_rfl) (fun _ _ _ h => h) (Or.inl ⟨by rfl, ?_⟩) (by assumption) ?_
      rotate_left
      · (intro w hSw; (try dsimp only at hSw); go_simp)
        all_goals with_reducible rfl
      try dsimp only [List.getElem_toArray, List.getElem_cons_succ, List.getElem_cons_zero]
      try simp only [Act.put, List.setIfInBounds_toArray, List.set_cons_zero, List.set_cons_succ]
      refine wpAnyH_ready (rs := [7]) (by kernel_rfl) (by simp) ?_
      refine AllReadyH.cons (o := _) rfl (fun K hK => ?_) AllReadyH.nil
      go_simp
      refine (HT.out _ Kwb).mono ?_
      rintro e wc ⟨rfl, rfl⟩
      try dsimp only
      go_wp2_with fail
      refine hK.out _ _ (HCC.out _ Kwb) (fun hHeld => ?_)
      clear hK K
      refine wpAnyH_take (i := 8) (oi := _) (v := ?_) rfl (by kernel_rfl) (by kernel_rfl) (by kernel_rfl) (fun _ _ _ h => h) (Or.inl ⟨by rfl, ?_⟩) (by assumption) ?_
      rotate_left
      · (intro w hSw; (try dsimp only at hSw); go_simp)
        all_goals with_reducible rfl
      refine wpAnyH_take (i := 9) (oi := _) (v := ?_) rfl (by kernel_rfl) (by kernel_rfl) (by kernel_rfl) (fun _ _ _ h => h) (Or.inl ⟨by rfl, ?_⟩) (by assumption) ?_
      rotate_left
      · (intro w hSw; (try dsimp only at hSw); go_simp)
        all_goals with_reducible rfl
      refine wpAnyH_take (i := 10) (oi := _) (v := ?_) rfl (by kernel_rfl) (by kernel_rfl) (by kernel_rfl) (fun _ _ _ h => h) (Or.inl ⟨by rfl, ?_⟩) (by assumption) ?_
      rotate_left
      · (intro w hSw; (try dsimp only at hSw); go_simp)
        all_goals with_reducible rfl
      try dsimp only [List.getElem_toArray, List.getElem_cons_succ, List.getElem_cons_zero]
      try simp only [Act.put, List.setIfInBounds_toArray, List.set_cons_zero, List.set_cons_succ]
      refine wpAnyH_done (by kernel_rfl) ?_ _
      go_wp2_with fail
      refine (HB'.out _ Kwb).mono ?_
      rintro e w5 ⟨rfl, k5⟩
      have K5 : Keep (fun _ => False) w3 w5 := Keep.trans Kwb k5
      try dsimp only
      go_wp2_with fail
      refine (made_any _ _ _ _ (r) _ (HL.out _ K5)).mono ?_
      intro e w8 hres
      obtain ⟨ng, A8, n8, c8, f8, rfl, r0, r1, f0, f1, e0, e1, P⟩ := HBX.out.res K5 hres
      rw [HMV.out (r) (by rw [if_neg (fun h => ht (HPOS.out.2 h.2))]; exact HLR.out.2)] at P
      have HP := Lib.hid P
      have HE := Lib.hid (And.intro e0 e1)
      clear P hres e0 e1 k5 K5
      try dsimp only
      go_wp2_with fail
      refine bodyPost_ret (v := .tuple #[numArg ng A8 n8 c8, .int .i64 f8]) ?_ rfl HP.out
      obtain ⟨e0, e1⟩ := HE.out
      simp [results, Tryd.results31, go_sem, e0, e1]
    · refine wpAnyH_take (i := 4) (oi := _) (v := ?_) rfl (by kernel_rfl) (by kernel_rfl) (by kernel_rfl) (fun _ _ _ h => h) (Or.inl ⟨by rfl, ?_⟩) (by assumption) ?_
      rotate_left
      · (intro w hSw; (try dsimp only at hSw); go_simp)
        all_goals with_reducible rfl
      refine wpAnyH_take (i := 5) (oi := _) (v := ?_) rfl (by kernel_rfl) (by kernel_rfl) (by kernel_rfl) (fun _ _ _ h => h) (Or.inl ⟨by rfl, ?_⟩) (by assumption) ?_
      rotate_left
      · (intro w hSw; (try dsimp only at hSw); go_simp)
        all_goals with_reducible rfl
      refine wpAnyH_take (i := 6) (oi := _) (v := undef) rfl (by kernel_rfl) (by kernel_rfl) (by kernel_rfl) (fun _ _ _ h => h) (Or.inr ⟨by rfl, rfl⟩) (by assumption) ?_
      refine wpAnyH_take (i := 7) (oi := _) (v := undef) rfl (by kernel_rfl) (by kernel_rfl) (by kernel_rfl) (fun _ _ _ h => h) (Or.inr ⟨by rfl, rfl⟩) (by assumption) ?_
      refine wpAnyH_take (i := 8) (oi := _) (v := undef) rfl (by kernel_rfl) (by kernel_rfl) (by kernel_rfl) (fun _ _ _ h => h) (Or.inr ⟨by rfl, rfl⟩) (by assumption) ?_
      refine wpAnyH_take (i := 9) (oi := _) (v := undef) rfl (by kernel_rfl) (by kernel_rfl) (by kernel_rfl) (fun _ _ _ h => h) (Or.inr ⟨by rfl, rfl⟩) (by assumption) ?_
      refine wpAnyH_take (i := 10) (oi := _) (v := ?_) rfl (by kernel_rfl) (by kernel_rfl) (by kernel_rfl) (fun _ _ _ h => h) (Or.inl ⟨by rfl, ?_⟩) (by assumption) ?_
      rotate_left
      · (intro w hSw; (try dsimp only at hSw); go_simp)
        all_goals with_reducible rfl
      try dsimp only [List.getElem_toArray, List.getElem_cons_succ, List.getElem_cons_zero]
      try simp only [Act.put, List.setIfInBounds_toArray, List.set_cons_zero, List.set_cons_succ]
      refine wpAnyH_done (by kernel_rfl) ?_ _
      go_wp2_with fail
      refine (HB'.out _ Kwb).mono ?_
      rintro e w5 ⟨rfl, k5⟩
      have K5 : Keep (fun _ => False) w3 w5 := Keep.trans Kwb k5
      try dsimp only
      go_wp2_with fail
      refine (made_any _ _ _ _ (r) _ (HL.out _ K5)).mono ?_
      intro e w8 hres
      obtain ⟨ng, A8, n8, c8, f8, rfl, r0, r1, f0, f1, e0, e1, P⟩ := HBX.out.res K5 hres
      rw [HMV.out (r) (by rw [if_neg (by simp)]; exact HLR.out.2)] at P
      have HP := Lib.hid P
      have HE := Lib.hid (And.intro e0 e1)
      clear P hres e0 e1 k5 K5
      try dsimp only
      go_wp2_with fail
      refine bodyPost_ret (v := .tuple #[numArg ng A8 n8 c8, .int .i64 f8]) ?_ rfl HP.out
      obtain ⟨e0, e1⟩ := HE.out
      simp [results, Tryd.results31, go_sem, e0, e1]
end Go.Proofs.YtdfekphahdmffaaDoor
