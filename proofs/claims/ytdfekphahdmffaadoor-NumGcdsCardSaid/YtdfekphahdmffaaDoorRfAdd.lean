/-
  The document's Cmp and Add.
-/
import Derived.Test.YtdfekphahdmffaaDoorRfLess
import Derived.Test.YtdfekphahdmffaaDoorRfMul
namespace Go.Proofs.YtdfekphahdmffaaDoor
open Go.RowKit

/-- A magnitude in memory of the call's own, from the world w1 on. -/
def MagP (M m : Nat) (w1 : World) (e : Ending) (w' : World) : Prop :=
  ∃ (A : Option Addr) (n c : Nat), e = .returned (.slice A n c) ∧ OwnR 5 .u8 w' w1.heap.size A n c (bits2 M) ∧ n ≤ m ∧ Keep (fun _ => False) w1 w'
theorem MagPost.from {M m : Nat} {w1 w w' : World} {e : Ending} (h : MagPost M w e w') (K : Keep (fun _ => False) w1 w) (hm : M < 2 ^ m) : MagP M m w1 e w' := by
  obtain ⟨A, n, c, he, o, k⟩ := h
  exact ⟨A, n, c, he, o.mono K.size, by rw [← o.len]; exact (digs_len_le two2 _ _).2 hm, K.trans k⟩
theorem bits_lt {w : World} {x : Nat} {A : Option Addr} {n c : Nat} (h : BitsAt w A n c (bits2 x)) : x < 2 ^ n := (digs_len_le two2 _ _).1 (Nat.le_of_eq h.len)
theorem value_z {z : Bool} {base : Nat} {neg : Bool} {A : Option Addr} {n c M : Nat} {w : World} (h : OwnR 5 .u8 w base A n c (bits2 M)) (hm : n ≤ 10000000) (hz : z = decide (sgn neg M < 0)) :
    Calls Tryd.prog 62 #[.bool neg, .slice A n c] w fun e w' => ∃ n', e = .returned (numArg z A n' c) ∧ OwnR 5 .u8 w' base A n' c (bits2 M) ∧ Keep (fun _ => False) w w' := by
  have := value_any base neg A n c (bits2 M) w h (digs_low two2 M) hm
  rw [show bval (bits2 M) = M from val_digs two2 M, ← hz] at this
  exact this.mono fun e w' ⟨k, he, o⟩ => ⟨_, he, o, k⟩
/-- The result's block. -/
theorem VBox3.res {w w1 w9 : World} {B : Nat} {u v x y : Value} {A : Option Addr} {n c : Nat} {l : List Nat} (h : VBox3 w w1 B u v x y) (K : Keep (fun _ => False) w1 w9) (o : OwnR 5 .u8 w9 w1.heap.size A n c l) (z : Bool) :
    w9.cell? ⟨B + 1 + 1, 0, none⟩ = some (.bool false) ∧ w9.cell? ⟨B + 1 + 1, 1, none⟩ = some (.slice none 0 0) ∧ w9.frozen? ⟨B + 1 + 1, 0, none⟩ = false ∧ w9.frozen? ⟨B + 1 + 1, 1, none⟩ = false ∧
    ((w9.setCell ⟨B + 1 + 1, 0, none⟩ (.bool z)).setCell ⟨B + 1 + 1, 1, none⟩ (.slice A n c)).cell? ⟨B + 1 + 1, 0, none⟩ = some (.bool z) ∧ ((w9.setCell ⟨B + 1 + 1, 0, none⟩ (.bool z)).setCell ⟨B + 1 + 1, 1, none⟩ (.slice A n c)).cell? ⟨B + 1 + 1, 1, none⟩ = some (.slice A n c) ∧
    Keep (fun _ => False) w ((w9.setCell ⟨B + 1 + 1, 0, none⟩ (.bool z)).setCell ⟨B + 1 + 1, 1, none⟩ (.slice A n c)) ∧ OwnR 5 .u8 ((w9.setCell ⟨B + 1 + 1, 0, none⟩ (.bool z)).setCell ⟨B + 1 + 1, 1, none⟩ (.slice A n c)) w.heap.size A n c l := by
  have hb9 := K.heap h.b3 (by simp)
  obtain ⟨e0, e1⟩ := two_cells hb9 (.bool z) (.slice A n c)
  refine ⟨by rw [cell_of_row w9 _ _ _ _ _ hb9]; rfl, by rw [cell_of_row w9 _ _ _ _ _ hb9]; rfl, by simp [World.frozen?, hb9], by simp [World.frozen?, hb9], e0, e1, two_keep (h.k.trans K) (by have := h.s; omega) _ _, ?_⟩
  exact (two_own o (heap_lt h.b3) (.bool z) (.slice A n c)).mono h.k.size
theorem VBox3.cellsS {w w1 w9 : World} {B : Nat} {u v x y : Value} (h : VBox3 w w1 B u v x y) (K : Keep (fun _ => False) w1 w9) (a b : Value) :
    ((w9.setCell ⟨B + 1 + 1, 0, none⟩ a).setCell ⟨B + 1 + 1, 1, none⟩ b).cell? ⟨B, 0, none⟩ = some u ∧ ((w9.setCell ⟨B + 1 + 1, 0, none⟩ a).setCell ⟨B + 1 + 1, 1, none⟩ b).cell? ⟨B, 1, none⟩ = some v ∧ ((w9.setCell ⟨B + 1 + 1, 0, none⟩ a).setCell ⟨B + 1 + 1, 1, none⟩ b).cell? ⟨B + 1, 0, none⟩ = some x ∧ ((w9.setCell ⟨B + 1 + 1, 0, none⟩ a).setCell ⟨B + 1 + 1, 1, none⟩ b).cell? ⟨B + 1, 1, none⟩ = some y := by
  have KS : Keep (fun k => k = B + 1 + 1) w9 ((w9.setCell ⟨B + 1 + 1, 0, none⟩ a).setCell ⟨B + 1 + 1, 1, none⟩ b) := ((Keep.refl (fun k => k = B + 1 + 1) w9).setCell (p := ⟨B + 1 + 1, 0, none⟩) (.inl rfl) a).setCell (p := ⟨B + 1 + 1, 1, none⟩) (.inl rfl) b
  have g1 := KS.heap (K.heap h.b1 (by simp)) (by omega)
  have g2 := KS.heap (K.heap h.b2 (by simp)) (by omega)
  exact ⟨by rw [cell_of_row _ _ _ _ _ _ g1]; rfl, by rw [cell_of_row _ _ _ _ _ _ g1]; rfl, by rw [cell_of_row _ _ _ _ _ _ g2]; rfl, by rw [cell_of_row _ _ _ _ _ _ g2]; rfl⟩
theorem neg_ne {x y : Int} {p q : Bool} (hp : p = decide (x < 0)) (hq : q = decide (y < 0)) : sgn p x.natAbs = x ∧ sgn q y.natAbs = y := by
  subst hp hq
  unfold sgn
  constructor <;> split <;> rename_i h <;> simp at h <;> omega
theorem add_same {x y : Int} {p q : Bool} (hp : p = decide (x < 0)) (hq : q = decide (y < 0)) (h : p = q) : sgn p (x.natAbs + y.natAbs) = x + y := by
  obtain ⟨h1, h2⟩ := neg_ne hp hq
  subst h
  unfold sgn at *
  split at h1 <;> simp_all <;> omega
theorem add_other {x y : Int} {p q : Bool} (hp : p = decide (x < 0)) (hq : q = decide (y < 0)) (h : p ≠ q) : (x.natAbs < y.natAbs → sgn q (y.natAbs - x.natAbs) = x + y) ∧ (¬ x.natAbs < y.natAbs → sgn p (x.natAbs - y.natAbs) = x + y) := by
  obtain ⟨h1, h2⟩ := neg_ne hp hq
  unfold sgn at *
  cases p <;> cases q <;> simp_all <;> omega
theorem cmp_signs {x y : Int} {p q : Bool} (hp : p = decide (x < 0)) (hq : q = decide (y < 0)) : (p = true → q = false → cmpI x y = -1) ∧ (p = false → q = true → cmpI x y = 1) ∧ (p = true → q = true → cmpI x y = if y.natAbs < x.natAbs then -1 else if x.natAbs < y.natAbs then 1 else 0) ∧ (p = false → q = false → cmpI x y = if x.natAbs < y.natAbs then -1 else if y.natAbs < x.natAbs then 1 else 0) := by
  subst hp hq
  unfold cmpI
  refine ⟨fun h1 h2 => ?_, fun h1 h2 => ?_, fun h1 h2 => ?_, fun h1 h2 => ?_⟩ <;> simp at h1 h2 <;> (repeat' split) <;> omega

set_option maxRecDepth 100000 in
set_option maxHeartbeats 4000000 in
theorem rcmp_any (x y : Int) (p q : Bool) (A : Option Addr) (n c : Nat) (A' : Option Addr) (n' c' : Nat) (w : World) (hp : p = decide (x < 0)) (hq : q = decide (y < 0)) (h : BitsAt w A n c (bits2 x.natAbs)) (h' : BitsAt w A' n' c' (bits2 y.natAbs)) :
    Calls Tryd.prog 44 #[numArg p A n c, numArg q A' n' c'] w (IntPost (cmpI x y) w) := by
  have BX : Keep (fun _ => False) w ((w.alloc (.cells #[.bool p, .slice A n c] 34)).alloc (.cells #[.bool q, .slice A' n' c'] 34)) := ((Keep.refl _ _).alloc _).alloc _
  have hb1 : ((w.alloc (.cells #[.bool p, .slice A n c] 34)).alloc (.cells #[.bool q, .slice A' n' c'] 34)).heap[w.heap.size]? = some (.cells #[.bool p, .slice A n c] 34 (0, 0)) := by
    rw [Below.heap_alloc _ _ _ (by simp)]; exact heap_alloc_new w _
  have hb2 : ((w.alloc (.cells #[.bool p, .slice A n c] 34)).alloc (.cells #[.bool q, .slice A' n' c'] 34)).heap[w.heap.size + 1]? = some (.cells #[.bool q, .slice A' n' c'] 34 (0, 0)) := by
    have := heap_alloc_new (w.alloc (.cells #[.bool p, .slice A n c] 34)) (.cells #[.bool q, .slice A' n' c'] 34)
    rwa [World.size_alloc] at this
  have HL1 := Lib.hid (fun (w' : World) (K' : Keep (fun _ => False) ((w.alloc (.cells #[.bool p, .slice A n c] 34)).alloc (.cells #[.bool q, .slice A' n' c'] 34)) w') => rless_any x.natAbs y.natAbs A n c A' n' c' w' (h.keep0 (BX.trans K')) (h'.keep0 (BX.trans K')))
  have HL2 := Lib.hid (fun (w' : World) (K' : Keep (fun _ => False) ((w.alloc (.cells #[.bool p, .slice A n c] 34)).alloc (.cells #[.bool q, .slice A' n' c'] 34)) w') => rless_any y.natAbs x.natAbs A' n' c' A n c w' (h'.keep0 (BX.trans K')) (h.keep0 (BX.trans K')))
  have HC := Lib.hid (cmp_signs hp hq)
  have HK := Lib.hid BX
  clear hp hq h h' BX
  obtain ⟨v, hv⟩ : ∃ v, v = cmpI x y := ⟨_, rfl⟩
  rw [← hv] at HC ⊢
  clear hv
  rcases p with _ | _ <;> rcases q with _ | _
  · have e := HC.out.2.2.2 rfl rfl
    have HE := Lib.hid e
    clear e HC
    rcases (by omega : x.natAbs < y.natAbs ∨ y.natAbs < x.natAbs ∨ x.natAbs = y.natAbs) with hxy | hxy | hxy
    · have hv : v = -1 := by rw [HE.out]; (repeat' split) <;> omega
      rw [show decide (x.natAbs < y.natAbs) = true from decide_eq_true (by omega)] at HL1
      rw [show decide (y.natAbs < x.natAbs) = false from decide_eq_false (by omega)] at HL2
      subst hv
      clear HE hxy
      go_enter Tryd.func44, Tryd.ntmps44
      go_wp2_with fail
      have HCL := Lib.hid (fun (w' : World) (K' : Keep (fun _ => False) ((w.alloc (.cells #[.bool false, .slice A n c] 34)).alloc (.cells #[.bool false, .slice A' n' c'] 34)) w') => (show w'.cell? ⟨w.heap.size, 0, none⟩ = some (.bool false) ∧ w'.cell? ⟨w.heap.size, 1, none⟩ = some (.slice A n c) ∧ w'.cell? ⟨w.heap.size + 1, 0, none⟩ = some (.bool false) ∧ w'.cell? ⟨w.heap.size + 1, 1, none⟩ = some (.slice A' n' c') from by
        have g1 := K'.heap hb1 (by simp)
        have g2 := K'.heap hb2 (by simp)
        exact ⟨by rw [cell_of_row w' _ _ _ _ _ g1]; rfl, by rw [cell_of_row w' _ _ _ _ _ g1]; rfl, by rw [cell_of_row w' _ _ _ _ _ g2]; rfl, by rw [cell_of_row w' _ _ _ _ _ g2]; rfl⟩))
      clear hb1 hb2
      generalize w.heap.size = Ba at HCL ⊢
      generalize (w.alloc (.cells #[.bool false, .slice A n c] 34)).alloc (.cells #[.bool false, .slice A' n' c'] 34) = w1 at HCL HL1 HL2 HK ⊢
      obtain ⟨c0, c1, c2, c3⟩ := HCL.out _ (Keep.refl _ _)
      have Kd : Keep (fun _ => False) w1 w1.drew := (Keep.refl _ _).drew
      go_region_held3 (fun w' => w'.cell? ⟨Ba, 0, none⟩ = some (.bool false) ∧ w'.cell? ⟨Ba, 1, none⟩ = some (.slice A n c) ∧ w'.cell? ⟨Ba + 1, 0, none⟩ = some (.bool false) ∧ w'.cell? ⟨Ba + 1, 1, none⟩ = some (.slice A' n' c'))
        (first | exact HCL.out _ Kd | exact HCL.out _ (by assumption))
        ((go_at_call 77; first
          | ((with_reducible refine (HL1.out _ (by assumption)).mono ?_); rintro e w5 ⟨rfl, k5⟩; have K5 := Keep.trans (by assumption) k5)
          | ((with_reducible refine (HL2.out _ (by assumption)).mono ?_); rintro e w6 ⟨rfl, k6⟩; have K6 := Keep.trans (by assumption) k6)))
      have HK6 := Lib.hid (HK.out.trans K6)
      clear c0 c1 c2 c3
      obtain ⟨c0, c1, c2, c3⟩ := HCL.out _ K6
      clear k5 k6 K5 K6 Kd HL1 HL2 HCL
      go_wp2_with fail
      go_ret
      exact ⟨rfl, HK6.out⟩
    · have hv : v = 1 := by rw [HE.out]; (repeat' split) <;> omega
      rw [show decide (x.natAbs < y.natAbs) = false from decide_eq_false (by omega)] at HL1
      rw [show decide (y.natAbs < x.natAbs) = true from decide_eq_true (by omega)] at HL2
      subst hv
      clear HE hxy
      go_enter Tryd.func44, Tryd.ntmps44
      go_wp2_with fail
      have HCL := Lib.hid (fun (w' : World) (K' : Keep (fun _ => False) ((w.alloc (.cells #[.bool false, .slice A n c] 34)).alloc (.cells #[.bool false, .slice A' n' c'] 34)) w') => (show w'.cell? ⟨w.heap.size, 0, none⟩ = some (.bool false) ∧ w'.cell? ⟨w.heap.size, 1, none⟩ = some (.slice A n c) ∧ w'.cell? ⟨w.heap.size + 1, 0, none⟩ = some (.bool false) ∧ w'.cell? ⟨w.heap.size + 1, 1, none⟩ = some (.slice A' n' c') from by
        have g1 := K'.heap hb1 (by simp)
        have g2 := K'.heap hb2 (by simp)
        exact ⟨by rw [cell_of_row w' _ _ _ _ _ g1]; rfl, by rw [cell_of_row w' _ _ _ _ _ g1]; rfl, by rw [cell_of_row w' _ _ _ _ _ g2]; rfl, by rw [cell_of_row w' _ _ _ _ _ g2]; rfl⟩))
      clear hb1 hb2
      generalize w.heap.size = Ba at HCL ⊢
      generalize (w.alloc (.cells #[.bool false, .slice A n c] 34)).alloc (.cells #[.bool false, .slice A' n' c'] 34) = w1 at HCL HL1 HL2 HK ⊢
      obtain ⟨c0, c1, c2, c3⟩ := HCL.out _ (Keep.refl _ _)
      have Kd : Keep (fun _ => False) w1 w1.drew := (Keep.refl _ _).drew
      go_region_held3 (fun w' => w'.cell? ⟨Ba, 0, none⟩ = some (.bool false) ∧ w'.cell? ⟨Ba, 1, none⟩ = some (.slice A n c) ∧ w'.cell? ⟨Ba + 1, 0, none⟩ = some (.bool false) ∧ w'.cell? ⟨Ba + 1, 1, none⟩ = some (.slice A' n' c'))
        (first | exact HCL.out _ Kd | exact HCL.out _ (by assumption))
        ((go_at_call 77; first
          | ((with_reducible refine (HL1.out _ (by assumption)).mono ?_); rintro e w5 ⟨rfl, k5⟩; have K5 := Keep.trans (by assumption) k5)
          | ((with_reducible refine (HL2.out _ (by assumption)).mono ?_); rintro e w6 ⟨rfl, k6⟩; have K6 := Keep.trans (by assumption) k6)))
      have HK6 := Lib.hid (HK.out.trans K6)
      clear c0 c1 c2 c3
      obtain ⟨c0, c1, c2, c3⟩ := HCL.out _ K6
      clear k5 k6 K5 K6 Kd HL1 HL2 HCL
      go_wp2_with fail
      go_ret
      exact ⟨rfl, HK6.out⟩
    · have hv : v = 0 := by rw [HE.out]; (repeat' split) <;> omega
      rw [show decide (x.natAbs < y.natAbs) = false from decide_eq_false (by omega)] at HL1
      rw [show decide (y.natAbs < x.natAbs) = false from decide_eq_false (by omega)] at HL2
      subst hv
      clear HE hxy
      go_enter Tryd.func44, Tryd.ntmps44
      go_wp2_with fail
      have HCL := Lib.hid (fun (w' : World) (K' : Keep (fun _ => False) ((w.alloc (.cells #[.bool false, .slice A n c] 34)).alloc (.cells #[.bool false, .slice A' n' c'] 34)) w') => (show w'.cell? ⟨w.heap.size, 0, none⟩ = some (.bool false) ∧ w'.cell? ⟨w.heap.size, 1, none⟩ = some (.slice A n c) ∧ w'.cell? ⟨w.heap.size + 1, 0, none⟩ = some (.bool false) ∧ w'.cell? ⟨w.heap.size + 1, 1, none⟩ = some (.slice A' n' c') from by
        have g1 := K'.heap hb1 (by simp)
        have g2 := K'.heap hb2 (by simp)
        exact ⟨by rw [cell_of_row w' _ _ _ _ _ g1]; rfl, by rw [cell_of_row w' _ _ _ _ _ g1]; rfl, by rw [cell_of_row w' _ _ _ _ _ g2]; rfl, by rw [cell_of_row w' _ _ _ _ _ g2]; rfl⟩))
      clear hb1 hb2
      generalize w.heap.size = Ba at HCL ⊢
      generalize (w.alloc (.cells #[.bool false, .slice A n c] 34)).alloc (.cells #[.bool false, .slice A' n' c'] 34) = w1 at HCL HL1 HL2 HK ⊢
      obtain ⟨c0, c1, c2, c3⟩ := HCL.out _ (Keep.refl _ _)
      have Kd : Keep (fun _ => False) w1 w1.drew := (Keep.refl _ _).drew
      go_region_held3 (fun w' => w'.cell? ⟨Ba, 0, none⟩ = some (.bool false) ∧ w'.cell? ⟨Ba, 1, none⟩ = some (.slice A n c) ∧ w'.cell? ⟨Ba + 1, 0, none⟩ = some (.bool false) ∧ w'.cell? ⟨Ba + 1, 1, none⟩ = some (.slice A' n' c'))
        (first | exact HCL.out _ Kd | exact HCL.out _ (by assumption))
        ((go_at_call 77; first
          | ((with_reducible refine (HL1.out _ (by assumption)).mono ?_); rintro e w5 ⟨rfl, k5⟩; have K5 := Keep.trans (by assumption) k5)
          | ((with_reducible refine (HL2.out _ (by assumption)).mono ?_); rintro e w6 ⟨rfl, k6⟩; have K6 := Keep.trans (by assumption) k6)))
      have HK6 := Lib.hid (HK.out.trans K6)
      clear c0 c1 c2 c3
      obtain ⟨c0, c1, c2, c3⟩ := HCL.out _ K6
      clear k5 k6 K5 K6 Kd HL1 HL2 HCL
      go_wp2_with fail
      go_ret
      exact ⟨rfl, HK6.out⟩
  · have e := HC.out.2.1 rfl rfl
    clear HC HL1 HL2
    subst e
    go_enter Tryd.func44, Tryd.ntmps44
    go_wp2_with fail
    go_ret
    exact ⟨rfl, HK.out⟩
  · have e := HC.out.1 rfl rfl
    clear HC HL1 HL2
    subst e
    go_enter Tryd.func44, Tryd.ntmps44
    go_wp2_with fail
    go_ret
    exact ⟨rfl, HK.out⟩
  · have e := HC.out.2.2.1 rfl rfl
    have HE := Lib.hid e
    clear e HC
    rcases (by omega : x.natAbs < y.natAbs ∨ y.natAbs < x.natAbs ∨ x.natAbs = y.natAbs) with hxy | hxy | hxy
    · have hv : v = 1 := by rw [HE.out]; (repeat' split) <;> omega
      rw [show decide (x.natAbs < y.natAbs) = true from decide_eq_true (by omega)] at HL1
      rw [show decide (y.natAbs < x.natAbs) = false from decide_eq_false (by omega)] at HL2
      subst hv
      clear HE hxy
      go_enter Tryd.func44, Tryd.ntmps44
      go_wp2_with fail
      have HCL := Lib.hid (fun (w' : World) (K' : Keep (fun _ => False) ((w.alloc (.cells #[.bool true, .slice A n c] 34)).alloc (.cells #[.bool true, .slice A' n' c'] 34)) w') => (show w'.cell? ⟨w.heap.size, 0, none⟩ = some (.bool true) ∧ w'.cell? ⟨w.heap.size, 1, none⟩ = some (.slice A n c) ∧ w'.cell? ⟨w.heap.size + 1, 0, none⟩ = some (.bool true) ∧ w'.cell? ⟨w.heap.size + 1, 1, none⟩ = some (.slice A' n' c') from by
        have g1 := K'.heap hb1 (by simp)
        have g2 := K'.heap hb2 (by simp)
        exact ⟨by rw [cell_of_row w' _ _ _ _ _ g1]; rfl, by rw [cell_of_row w' _ _ _ _ _ g1]; rfl, by rw [cell_of_row w' _ _ _ _ _ g2]; rfl, by rw [cell_of_row w' _ _ _ _ _ g2]; rfl⟩))
      clear hb1 hb2
      generalize w.heap.size = Ba at HCL ⊢
      generalize (w.alloc (.cells #[.bool true, .slice A n c] 34)).alloc (.cells #[.bool true, .slice A' n' c'] 34) = w1 at HCL HL1 HL2 HK ⊢
      obtain ⟨c0, c1, c2, c3⟩ := HCL.out _ (Keep.refl _ _)
      have Kd : Keep (fun _ => False) w1 w1.drew := (Keep.refl _ _).drew
      go_region_held3 (fun w' => w'.cell? ⟨Ba, 0, none⟩ = some (.bool true) ∧ w'.cell? ⟨Ba, 1, none⟩ = some (.slice A n c) ∧ w'.cell? ⟨Ba + 1, 0, none⟩ = some (.bool true) ∧ w'.cell? ⟨Ba + 1, 1, none⟩ = some (.slice A' n' c'))
        (first | exact HCL.out _ Kd | exact HCL.out _ (by assumption))
        ((go_at_call 77; first
          | ((with_reducible refine (HL1.out _ (by assumption)).mono ?_); rintro e w5 ⟨rfl, k5⟩; have K5 := Keep.trans (by assumption) k5)
          | ((with_reducible refine (HL2.out _ (by assumption)).mono ?_); rintro e w6 ⟨rfl, k6⟩; have K6 := Keep.trans (by assumption) k6)))
      have HK6 := Lib.hid (HK.out.trans K6)
      clear c0 c1 c2 c3
      obtain ⟨c0, c1, c2, c3⟩ := HCL.out _ K6
      clear k5 k6 K5 K6 Kd HL1 HL2 HCL
      go_wp2_with fail
      go_ret
      exact ⟨rfl, HK6.out⟩
    · have hv : v = -1 := by rw [HE.out]; (repeat' split) <;> omega
      rw [show decide (x.natAbs < y.natAbs) = false from decide_eq_false (by omega)] at HL1
      rw [show decide (y.natAbs < x.natAbs) = true from decide_eq_true (by omega)] at HL2
      subst hv
      clear HE hxy
      go_enter Tryd.func44, Tryd.ntmps44
      go_wp2_with fail
      have HCL := Lib.hid (fun (w' : World) (K' : Keep (fun _ => False) ((w.alloc (.cells #[.bool true, .slice A n c] 34)).alloc (.cells #[.bool true, .slice A' n' c'] 34)) w') => (show w'.cell? ⟨w.heap.size, 0, none⟩ = some (.bool true) ∧ w'.cell? ⟨w.heap.size, 1, none⟩ = some (.slice A n c) ∧ w'.cell? ⟨w.heap.size + 1, 0, none⟩ = some (.bool true) ∧ w'.cell? ⟨w.heap.size + 1, 1, none⟩ = some (.slice A' n' c') from by
        have g1 := K'.heap hb1 (by simp)
        have g2 := K'.heap hb2 (by simp)
        exact ⟨by rw [cell_of_row w' _ _ _ _ _ g1]; rfl, by rw [cell_of_row w' _ _ _ _ _ g1]; rfl, by rw [cell_of_row w' _ _ _ _ _ g2]; rfl, by rw [cell_of_row w' _ _ _ _ _ g2]; rfl⟩))
      clear hb1 hb2
      generalize w.heap.size = Ba at HCL ⊢
      generalize (w.alloc (.cells #[.bool true, .slice A n c] 34)).alloc (.cells #[.bool true, .slice A' n' c'] 34) = w1 at HCL HL1 HL2 HK ⊢
      obtain ⟨c0, c1, c2, c3⟩ := HCL.out _ (Keep.refl _ _)
      have Kd : Keep (fun _ => False) w1 w1.drew := (Keep.refl _ _).drew
      go_region_held3 (fun w' => w'.cell? ⟨Ba, 0, none⟩ = some (.bool true) ∧ w'.cell? ⟨Ba, 1, none⟩ = some (.slice A n c) ∧ w'.cell? ⟨Ba + 1, 0, none⟩ = some (.bool true) ∧ w'.cell? ⟨Ba + 1, 1, none⟩ = some (.slice A' n' c'))
        (first | exact HCL.out _ Kd | exact HCL.out _ (by assumption))
        ((go_at_call 77; first
          | ((with_reducible refine (HL1.out _ (by assumption)).mono ?_); rintro e w5 ⟨rfl, k5⟩; have K5 := Keep.trans (by assumption) k5)
          | ((with_reducible refine (HL2.out _ (by assumption)).mono ?_); rintro e w6 ⟨rfl, k6⟩; have K6 := Keep.trans (by assumption) k6)))
      have HK6 := Lib.hid (HK.out.trans K6)
      clear c0 c1 c2 c3
      obtain ⟨c0, c1, c2, c3⟩ := HCL.out _ K6
      clear k5 k6 K5 K6 Kd HL1 HL2 HCL
      go_wp2_with fail
      go_ret
      exact ⟨rfl, HK6.out⟩
    · have hv : v = 0 := by rw [HE.out]; (repeat' split) <;> omega
      rw [show decide (x.natAbs < y.natAbs) = false from decide_eq_false (by omega)] at HL1
      rw [show decide (y.natAbs < x.natAbs) = false from decide_eq_false (by omega)] at HL2
      subst hv
      clear HE hxy
      go_enter Tryd.func44, Tryd.ntmps44
      go_wp2_with fail
      have HCL := Lib.hid (fun (w' : World) (K' : Keep (fun _ => False) ((w.alloc (.cells #[.bool true, .slice A n c] 34)).alloc (.cells #[.bool true, .slice A' n' c'] 34)) w') => (show w'.cell? ⟨w.heap.size, 0, none⟩ = some (.bool true) ∧ w'.cell? ⟨w.heap.size, 1, none⟩ = some (.slice A n c) ∧ w'.cell? ⟨w.heap.size + 1, 0, none⟩ = some (.bool true) ∧ w'.cell? ⟨w.heap.size + 1, 1, none⟩ = some (.slice A' n' c') from by
        have g1 := K'.heap hb1 (by simp)
        have g2 := K'.heap hb2 (by simp)
        exact ⟨by rw [cell_of_row w' _ _ _ _ _ g1]; rfl, by rw [cell_of_row w' _ _ _ _ _ g1]; rfl, by rw [cell_of_row w' _ _ _ _ _ g2]; rfl, by rw [cell_of_row w' _ _ _ _ _ g2]; rfl⟩))
      clear hb1 hb2
      generalize w.heap.size = Ba at HCL ⊢
      generalize (w.alloc (.cells #[.bool true, .slice A n c] 34)).alloc (.cells #[.bool true, .slice A' n' c'] 34) = w1 at HCL HL1 HL2 HK ⊢
      obtain ⟨c0, c1, c2, c3⟩ := HCL.out _ (Keep.refl _ _)
      have Kd : Keep (fun _ => False) w1 w1.drew := (Keep.refl _ _).drew
      go_region_held3 (fun w' => w'.cell? ⟨Ba, 0, none⟩ = some (.bool true) ∧ w'.cell? ⟨Ba, 1, none⟩ = some (.slice A n c) ∧ w'.cell? ⟨Ba + 1, 0, none⟩ = some (.bool true) ∧ w'.cell? ⟨Ba + 1, 1, none⟩ = some (.slice A' n' c'))
        (first | exact HCL.out _ Kd | exact HCL.out _ (by assumption))
        ((go_at_call 77; first
          | ((with_reducible refine (HL1.out _ (by assumption)).mono ?_); rintro e w5 ⟨rfl, k5⟩; have K5 := Keep.trans (by assumption) k5)
          | ((with_reducible refine (HL2.out _ (by assumption)).mono ?_); rintro e w6 ⟨rfl, k6⟩; have K6 := Keep.trans (by assumption) k6)))
      have HK6 := Lib.hid (HK.out.trans K6)
      clear c0 c1 c2 c3
      obtain ⟨c0, c1, c2, c3⟩ := HCL.out _ K6
      clear k5 k6 K5 K6 Kd HL1 HL2 HCL
      go_wp2_with fail
      go_ret
      exact ⟨rfl, HK6.out⟩

set_option maxRecDepth 100000 in
set_option maxHeartbeats 4000000 in
theorem radd_any (x y : Int) (p q z : Bool) (A : Option Addr) (n c : Nat) (A' : Option Addr) (n' c' : Nat) (w : World) (hp : p = decide (x < 0)) (hq : q = decide (y < 0)) (hz : z = decide (x + y < 0)) (h : BitsAt w A n c (bits2 x.natAbs)) (h' : BitsAt w A' n' c' (bits2 y.natAbs)) (hm : n ≤ 100000) (hm' : n' ≤ 100000) :
    Calls Tryd.prog 45 #[numArg p A n c, numArg q A' n' c'] w fun e w' => ∃ A2 n2 c2, e = .returned (numArg z A2 n2 c2) ∧ OwnR 5 .u8 w' w.heap.size A2 n2 c2 (bits2 (x + y).natAbs) ∧ Keep (fun _ => False) w w' := by
  have BX := vbox3 w (.bool p) (.slice A n c) (.bool q) (.slice A' n' c')
  have h1 := h.keep0 BX.k
  have h1' := h'.keep0 BX.k
  have hl1 := bits_lt h
  have hl2 := bits_lt h'
  obtain ⟨E, hE⟩ : ∃ E : Nat, E = 100000 := ⟨_, rfl⟩
  have hE2 : E ≤ 100000 := by omega
  have hx : x.natAbs < 2 ^ E := Nat.lt_of_lt_of_le hl1 (Nat.pow_le_pow_right (by omega) (by omega))
  have hy : y.natAbs < 2 ^ E := Nat.lt_of_lt_of_le hl2 (Nat.pow_le_pow_right (by omega) (by omega))
  have HB := Lib.hid (And.intro hx hy)
  have HPQ := Lib.hid (And.intro hp (And.intro hq hz))
  clear hl1 hl2 hx hy hE hp hq hz
  by_cases hb : p = q
  · have hbq : (p == q) = true := by simpa using hb
    have HBE := Lib.hid hb
    clear hb
    go_enter Tryd.func45, Tryd.ntmps45
    go_wp2_with fail
    generalize w.heap.size = Ba at BX ⊢
    generalize ((w.alloc (.cells #[.bool p, .slice A n c] 34)).alloc (.cells #[.bool q, .slice A' n' c'] 34)).alloc (.cells #[.bool false, .slice none 0 0] 34) = w1 at BX h1 h1' ⊢
    have HBX := Lib.hid BX
    obtain ⟨c0, c1, c2, c3⟩ := BX.cells (Keep.refl _ _)
    have Kd : Keep (fun _ => False) w1 w1.drew := (Keep.refl _ _).drew
    have HH := Lib.hid (And.intro h1 h1')
    clear BX h h' h1 h1'
    obtain ⟨M, hM⟩ : ∃ M, M = x.natAbs + y.natAbs := ⟨_, rfl⟩
    have HSG := Lib.hid (show sgn p M = x + y from by rw [hM]; exact add_same HPQ.out.1 HPQ.out.2.1 HBE.out)
    have HMV := Lib.hid (show M = (x + y).natAbs from by rw [← HSG.out, sgn_abs])
    have HMG := Lib.hid (fun (w' : World) (K' : Keep (fun _ => False) w1 w') => (show Calls Tryd.prog 68 #[.slice A n c, .slice A' n' c'] w' (MagP M (E + 1) w1) from by
      have := rplus_any A n c _ A' n' c' _ w' (HH.out.1.keep0 K') (HH.out.2.keep0 K') (by omega) (by omega)
      rw [show bval (bits2 x.natAbs) = x.natAbs from val_digs two2 _, show bval (bits2 y.natAbs) = y.natAbs from val_digs two2 _, ← hM] at this
      exact this.mono fun e w'' hp => hp.from K' (by rw [hM]; have h1 := HB.out.1; have h2 := HB.out.2; rw [Nat.pow_succ]; omega)))
    clear hbq hM
    go_region_held3 (fun w' => w'.cell? ⟨Ba, 0, none⟩ = some (.bool p) ∧ w'.cell? ⟨Ba, 1, none⟩ = some (.slice A n c) ∧ w'.cell? ⟨Ba + 1, 0, none⟩ = some (.bool q) ∧ w'.cell? ⟨Ba + 1, 1, none⟩ = some (.slice A' n' c'))
      (first | exact HBX.out.cells Kd | (refine HBX.out.cells ?_; assumption) | (refine HBX.out.cellsS ?_ _ _; assumption))
      (first
        | (go_at_call 68; (with_reducible refine (HMG.out _ (by assumption)).mono ?_); rintro e w7 ⟨A7, n7, c7, rfl, o7, hn7, K7⟩)
        | (go_at_call 62; refine (value_z (z := z) (neg := p) o7 (by omega) (by rw [HSG.out]; exact HPQ.out.2.2)).mono ?_; rintro e w8 ⟨n8, rfl, o8, k8⟩; have K8 := Keep.trans (by assumption) k8; obtain ⟨r0, r1, f0, f1, e0, e1, kx, ox⟩ := HBX.out.res (by assumption) o8 z))
    all_goals
      have HE := Lib.hid (And.intro e0 e1)
      have HP := Lib.hid (And.intro kx ox)
      clear kx ox e0 e1 o7 o8
      go_wp2_with fail
      obtain ⟨e0, e1⟩ := HE.out
      refine bodyPost_ret (v := numArg z A7 n8 c7) (by simp [results, Tryd.results45, go_sem, e0, e1]) rfl ⟨A7, n8, c7, rfl, ?_, HP.out.1⟩
      rw [← HMV.out]
      have hs := HBX.out.s
      first | exact HP.out.2 | (rw [← hs]; exact HP.out.2)
  · have hbq : (p == q) = false := by simpa using hb
    have HBE := Lib.hid hb
    clear hb
    go_enter Tryd.func45, Tryd.ntmps45
    go_wp2_with fail
    generalize w.heap.size = Ba at BX ⊢
    generalize ((w.alloc (.cells #[.bool p, .slice A n c] 34)).alloc (.cells #[.bool q, .slice A' n' c'] 34)).alloc (.cells #[.bool false, .slice none 0 0] 34) = w1 at BX h1 h1' ⊢
    have HBX := Lib.hid BX
    obtain ⟨c0, c1, c2, c3⟩ := BX.cells (Keep.refl _ _)
    have Kd : Keep (fun _ => False) w1 w1.drew := (Keep.refl _ _).drew
    have HH := Lib.hid (And.intro h1 h1')
    clear BX h h' h1 h1'
    have HLS := Lib.hid (rless_any x.natAbs y.natAbs A n c A' n' c' w1 HH.out.1 HH.out.2)
    by_cases hlt : x.natAbs < y.natAbs
    · skip
      obtain ⟨M, hM⟩ : ∃ M, M = y.natAbs - x.natAbs := ⟨_, rfl⟩
      have HSG := Lib.hid (show sgn q M = x + y from by rw [hM]; exact (add_other HPQ.out.1 HPQ.out.2.1 HBE.out).1 hlt)
      have HMV := Lib.hid (show M = (x + y).natAbs from by rw [← HSG.out, sgn_abs])
      have HMG := Lib.hid (fun (w' : World) (K' : Keep (fun _ => False) w1 w') => (show Calls Tryd.prog 78 #[.slice A' n' c', .slice A n c] w' (MagP M (E + 1) w1) from by
        have := rminus_any y.natAbs x.natAbs A' n' c' A n c w' (HH.out.2.keep0 K') (HH.out.1.keep0 K') (by omega)
        rw [← hM] at this
        exact this.mono fun e w'' hp => hp.from K' (by rw [hM]; have h2 := HB.out.2; rw [Nat.pow_succ]; omega)))
      rw [show decide (x.natAbs < y.natAbs) = true from decide_eq_true hlt] at HLS
      clear hbq hM hlt
      refine HLS.out.mono ?_
      rintro e w3 ⟨rfl, k3⟩
      clear c0 c1 c2 c3 Kd HLS
      obtain ⟨c0, c1, c2, c3⟩ := HBX.out.cells k3
      have Kd : Keep (fun _ => False) w1 w3.drew := k3.drew
      try dsimp only
      go_wp2_with fail
      go_region_held3 (fun w' => w'.cell? ⟨Ba, 0, none⟩ = some (.bool p) ∧ w'.cell? ⟨Ba, 1, none⟩ = some (.slice A n c) ∧ w'.cell? ⟨Ba + 1, 0, none⟩ = some (.bool q) ∧ w'.cell? ⟨Ba + 1, 1, none⟩ = some (.slice A' n' c'))
        (first | exact HBX.out.cells Kd | (refine HBX.out.cells ?_; assumption) | (refine HBX.out.cellsS ?_ _ _; assumption))
        (first
          | (go_at_call 78; (with_reducible refine (HMG.out _ (by assumption)).mono ?_); rintro e w7 ⟨A7, n7, c7, rfl, o7, hn7, K7⟩)
          | (go_at_call 62; refine (value_z (z := z) (neg := q) o7 (by omega) (by rw [HSG.out]; exact HPQ.out.2.2)).mono ?_; rintro e w8 ⟨n8, rfl, o8, k8⟩; have K8 := Keep.trans (by assumption) k8; obtain ⟨r0, r1, f0, f1, e0, e1, kx, ox⟩ := HBX.out.res (by assumption) o8 z))
      all_goals
        have HE := Lib.hid (And.intro e0 e1)
        have HP := Lib.hid (And.intro kx ox)
        clear kx ox e0 e1 o7 o8
        go_wp2_with fail
        obtain ⟨e0, e1⟩ := HE.out
        refine bodyPost_ret (v := numArg z A7 n8 c7) (by simp [results, Tryd.results45, go_sem, e0, e1]) rfl ⟨A7, n8, c7, rfl, ?_, HP.out.1⟩
        rw [← HMV.out]
        have hs := HBX.out.s
        first | exact HP.out.2 | (rw [← hs]; exact HP.out.2)
    · skip
      obtain ⟨M, hM⟩ : ∃ M, M = x.natAbs - y.natAbs := ⟨_, rfl⟩
      have HSG := Lib.hid (show sgn p M = x + y from by rw [hM]; exact (add_other HPQ.out.1 HPQ.out.2.1 HBE.out).2 hlt)
      have HMV := Lib.hid (show M = (x + y).natAbs from by rw [← HSG.out, sgn_abs])
      have HMG := Lib.hid (fun (w' : World) (K' : Keep (fun _ => False) w1 w') => (show Calls Tryd.prog 78 #[.slice A n c, .slice A' n' c'] w' (MagP M (E + 1) w1) from by
        have := rminus_any x.natAbs y.natAbs A n c A' n' c' w' (HH.out.1.keep0 K') (HH.out.2.keep0 K') (by omega)
        rw [← hM] at this
        exact this.mono fun e w'' hp => hp.from K' (by rw [hM]; have h2 := HB.out.1; rw [Nat.pow_succ]; omega)))
      rw [show decide (x.natAbs < y.natAbs) = false from decide_eq_false hlt] at HLS
      clear hbq hM hlt
      refine HLS.out.mono ?_
      rintro e w3 ⟨rfl, k3⟩
      clear c0 c1 c2 c3 Kd HLS
      obtain ⟨c0, c1, c2, c3⟩ := HBX.out.cells k3
      have Kd : Keep (fun _ => False) w1 w3.drew := k3.drew
      try dsimp only
      go_wp2_with fail
      go_region_held3 (fun w' => w'.cell? ⟨Ba, 0, none⟩ = some (.bool p) ∧ w'.cell? ⟨Ba, 1, none⟩ = some (.slice A n c) ∧ w'.cell? ⟨Ba + 1, 0, none⟩ = some (.bool q) ∧ w'.cell? ⟨Ba + 1, 1, none⟩ = some (.slice A' n' c'))
        (first | exact HBX.out.cells Kd | (refine HBX.out.cells ?_; assumption) | (refine HBX.out.cellsS ?_ _ _; assumption))
        (first
          | (go_at_call 78; (with_reducible refine (HMG.out _ (by assumption)).mono ?_); rintro e w7 ⟨A7, n7, c7, rfl, o7, hn7, K7⟩)
          | (go_at_call 62; refine (value_z (z := z) (neg := p) o7 (by omega) (by rw [HSG.out]; exact HPQ.out.2.2)).mono ?_; rintro e w8 ⟨n8, rfl, o8, k8⟩; have K8 := Keep.trans (by assumption) k8; obtain ⟨r0, r1, f0, f1, e0, e1, kx, ox⟩ := HBX.out.res (by assumption) o8 z))
      all_goals
        have HE := Lib.hid (And.intro e0 e1)
        have HP := Lib.hid (And.intro kx ox)
        clear kx ox e0 e1 o7 o8
        go_wp2_with fail
        obtain ⟨e0, e1⟩ := HE.out
        refine bodyPost_ret (v := numArg z A7 n8 c7) (by simp [results, Tryd.results45, go_sem, e0, e1]) rfl ⟨A7, n8, c7, rfl, ?_, HP.out.1⟩
        rw [← HMV.out]
        have hs := HBX.out.s
        first | exact HP.out.2 | (rw [← hs]; exact HP.out.2)
end Go.Proofs.YtdfekphahdmffaaDoor
