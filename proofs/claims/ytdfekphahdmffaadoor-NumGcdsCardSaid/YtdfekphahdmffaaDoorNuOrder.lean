/-
  num: order, Cmp.
-/
import Derived.Test.YtdfekphahdmffaaDoorNuSign
namespace Go.Proofs.YtdfekphahdmffaaDoor
open Go.RowKit

theorem len_lt {a b : Nat} (h : (limbs a).length < (limbs b).length) : a < b := by
  have h1 := (digs_len_le BB2 a (limbs a).length).1 (Nat.le_refl _)
  have h2 := (not_congr (digs_len_le BB2 b (limbs a).length)).1 (by unfold limbs at *; omega)
  omega
theorem val_drop_eq {_B : Nat} {l m : List Nat} {k : Nat} (hl : l.length = m.length) (he : ∀ j, k ≤ j → j < l.length → l.getD j 0 = m.getD j 0) : l.drop k = m.drop k := by
  refine List.ext_getElem? fun i => ?_
  rw [List.getElem?_drop, List.getElem?_drop]
  by_cases h : k + i < l.length
  · have := he (k + i) (by omega) h
    rw [List.getD_eq_getElem?_getD, List.getD_eq_getElem?_getD, List.getElem?_eq_getElem h, List.getElem?_eq_getElem (by omega)] at this
    rw [List.getElem?_eq_getElem h, List.getElem?_eq_getElem (by omega)]
    simpa using this
  · rw [List.getElem?_eq_none (by omega), List.getElem?_eq_none (by omega)]
theorem val_digit_lt {B : Nat} (hB : 0 < B) {l m : List Nat} (hl : l.length = m.length) (low : Low B l) {k : Nat} (hk : k < l.length) (he : ∀ j, k + 1 ≤ j → j < l.length → l.getD j 0 = m.getD j 0) (h : l.getD k 0 < m.getD k 0) : val B l < val B m := by
  have e1 := val_take_drop B l (k + 1)
  have e2 := val_take_drop B m (k + 1)
  rw [val_take_succ, List.length_take, Nat.min_eq_left (by omega)] at e1 e2
  have e3 := val_drop_eq (_B := B) hl he
  have e4 := val_take_lt hB low k
  have e5 : B ^ k * (l.getD k 0 + 1) ≤ B ^ k * m.getD k 0 := Nat.mul_le_mul_left _ h
  rw [Nat.mul_add, Nat.mul_one] at e5
  rw [e1, e2, e3]
  omega
theorem cmpN_self (a : Nat) : cmpN a a = 0 := by unfold cmpN; simp
theorem cmpN_lt {a b : Nat} (h : a < b) : cmpN a b = -1 := by unfold cmpN; rw [if_pos h]
theorem cmpN_gt {a b : Nat} (h : b < a) : cmpN a b = 1 := by unfold cmpN; rw [if_neg (by omega), if_pos h]
theorem cmpN_digit {a b k : Nat} (hl : (limbs a).length = (limbs b).length) (hk : k < (limbs a).length) (he : ∀ j, k + 1 ≤ j → j < (limbs a).length → (limbs a).getD j 0 = (limbs b).getD j 0) (h : (limbs a).getD k 0 ≠ (limbs b).getD k 0) : cmpN a b = cmpI ((limbs a).getD k 0 : Nat) ((limbs b).getD k 0 : Nat) := by
  have hB : 0 < BB := by have := BB2; omega
  rcases Nat.lt_or_ge ((limbs a).getD k 0) ((limbs b).getD k 0) with h1 | h1
  · have := val_digit_lt hB hl (digs_low BB2 a) hk he h1
    unfold limbs at this
    rw [val_digs BB2, val_digs BB2] at this
    rw [cmpN_lt this]
    unfold cmpI
    rw [if_pos (by omega)]
  · have h2 : (limbs b).getD k 0 < (limbs a).getD k 0 := by omega
    have := val_digit_lt hB hl.symm (digs_low BB2 b) (by omega) (fun j hj hl2 => (he j hj (by omega)).symm) h2
    unfold limbs at this
    rw [val_digs BB2, val_digs BB2] at this
    rw [cmpN_gt this]
    unfold cmpI
    rw [if_neg (by omega), if_pos (by omega)]
theorem limbs_ext {a b : Nat} (hl : (limbs a).length = (limbs b).length) (he : ∀ j, j < (limbs a).length → (limbs a).getD j 0 = (limbs b).getD j 0) : a = b := by
  have := val_drop_eq (_B := BB) (k := 0) hl (fun j _ h => he j h)
  simp only [List.drop_zero] at this
  exact digs_inj BB2 this

set_option maxRecDepth 100000 in
set_option maxHeartbeats 2000000 in
theorem order_any (A : Option Addr) (n c : Nat) (l : List Nat) (A' : Option Addr) (n' c' : Nat) (l' : List Nat) (w : World) (h : LimbsAt w A n c l) (h' : LimbsAt w A' n' c' l') :
    Calls Tryd.prog 74 #[.slice A n c, .slice A' n' c'] w (IntPost (cmpN (lval l) (lval l')) w) := by
  have t := h.trim
  have t' := h'.trim
  have m1 := t.max
  have m2 := t'.max
  have HT := Lib.hid t
  have HT' := Lib.hid t'
  have el : tlen l = (limbs (lval l)).length := rfl
  have el' : tlen l' = (limbs (lval l')).length := rfl
  have EL := Lib.hid el
  have EL' := Lib.hid el'
  clear t t' el el'
  go_enter Tryd.func74, Tryd.ntmps74
  go_wp2_with fail
  refine (trim_any A n c l _ h).mono ?_
  rintro e w1 ⟨rfl, rfl⟩
  go_wp2_with fail
  refine (trim_any A' n' c' l' _ h').mono ?_
  rintro e w2 ⟨rfl, rfl⟩
  by_cases hne : tlen l = tlen l'
  · have hb : ((tlen l : Int) != (tlen l' : Int)) = false := by simp [hne]
    have HNE := Lib.hid hne
    clear hne
    go_wp2_with fail
    clear hb
    go_loopw [5] (fun iv wr => ∃ k : Nat, k ≤ tlen l ∧ iv = .int .i64 ((k : Int) - 1) ∧ (∀ j, k ≤ j → j < tlen l → (limbs (lval l)).getD j 0 = (limbs (lval l')).getD j 0) ∧ Keep (fun _ => False) w wr) (fun iv _ => (intOf iv + 1).toNat)
    case atStart => exact ⟨tlen l, Nat.le_refl _, rfl, fun j h1 h2 => by omega, Keep.refl _ _⟩
    case round =>
      obtain ⟨k, hk, rfl, he, K⟩ := hrel
      have HE := Lib.hid he
      clear he
      by_cases h0 : k = 0
      · subst h0
        have hv : lval l = lval l' := limbs_ext (by rw [← EL.out, ← EL'.out]; exact HNE.out) (fun j hj => HE.out j (Nat.zero_le _) hj)
        have P : IntPost (cmpN (lval l) (lval l')) w (.returned (.int .i64 0)) wr := ⟨by rw [hv, cmpN_self], K⟩
        have HP := Lib.hid P
        clear P hv
        go_wp2_with fail
        go_ret
        exact HP.out
      · obtain ⟨m, rfl⟩ : ∃ m, k = m + 1 := ⟨k - 1, by omega⟩
        obtain ⟨b1, o1, rfl, hb1, q1⟩ := (HT.out.row.keep0 K).2 m (by omega)
        obtain ⟨b2, o2, rfl, hb2, q2⟩ := (HT'.out.row.keep0 K).2 m (by have := HNE.out; omega)
        obtain ⟨x, hx⟩ : ∃ x, x = (limbs (lval l)).getD m 0 := ⟨_, rfl⟩
        obtain ⟨y, hy⟩ : ∃ y, y = (limbs (lval l')).getD m 0 := ⟨_, rfl⟩
        rw [← hx] at q1
        rw [← hy] at q2
        have HX := Lib.hid hx
        have HY := Lib.hid hy
        have em : ((m + 1 : Nat) : Int) - 1 = (m : Int) := by omega
        rw [em]
        have i0 : (0 : Int) ≤ (m : Int) := by omega
        have i1 : (m : Int) < (tlen l : Int) := by omega
        have i2 : (m : Int) < (tlen l' : Int) := by have := HNE.out; omega
        by_cases hxy : x = y
        · subst hxy
          clear hx hy em h0
          go_wp2_with fail
          go_quiet (fail)
          go_wp2_with fail
          go_roundw
          case rel => exact ⟨m, by omega, by go_num, fun j h1 h2 => by
            by_cases e : j = m
            · rw [e, ← HX.out, ← HY.out]
            · exact HE.out j (by omega) h2, K.drewN _⟩
          case measure => simp [intOf]
        · have hb : ((x : Int) != (y : Int)) = true := by
            rw [bne_iff_ne]; omega
          have P : ∀ w', Keep (fun _ => False) w w' → IntPost (cmpN (lval l) (lval l')) w (.returned (.int .i64 (cmpI x y))) w' := fun w' K' => ⟨by
            rw [cmpN_digit (k := m) (by rw [← EL.out, ← EL'.out]; exact HNE.out) (by rw [← EL.out]; omega) (fun j h1 h2 => HE.out j h1 h2) (by rw [← HX.out, ← HY.out]; exact hxy), ← HX.out, ← HY.out], K'⟩
          have HP := Lib.hid P
          clear P hx hy em h0 hxy
          go_wp2_with fail
          go_quiet (fail)
          go_wp2_with fail
          have K9 := K.drewN nq
          have q3 : (wr.drewN nq).cell? ⟨b1, o1 + m, none⟩ = some (.int .u32 (x : Int)) := q1
          have q4 : (wr.drewN nq).cell? ⟨b2, o2 + m, none⟩ = some (.int .u32 (y : Int)) := q2
          generalize wr.drewN nq = w9 at K9 q3 q4 ⊢
          go_quiet ((go_at_call 97; exact Calls.quiet_of_same ((compare_u32 _ _ _).mono fun _ _ ⟨he, hw⟩ => ⟨he, hw.symm⟩)))
          go_wp2_with fail
          go_ret
          exact HP.out _ (K9.drewN _)
  · have hb : ((tlen l : Int) != (tlen l' : Int)) = true := by rw [bne_iff_ne]; omega
    have hc : cmpI (tlen l) (tlen l') = cmpN (lval l) (lval l') := by
      rcases Nat.lt_or_ge (tlen l) (tlen l') with h1 | h1
      · rw [cmpN_lt (len_lt (by rw [← EL.out, ← EL'.out]; exact h1))]
        unfold cmpI; rw [if_pos (by omega)]
      · rw [cmpN_gt (len_lt (by rw [← EL.out, ← EL'.out]; omega))]
        unfold cmpI; rw [if_neg (by omega), if_pos (by omega)]
    have HC := Lib.hid hc
    clear hne hc
    go_wp2_with fail
    refine (compare_int _ _ _).mono ?_
    rintro e w3 ⟨rfl, rfl⟩
    go_wp2_with fail
    go_ret
    exact ⟨by rw [← HC.out]; rfl, Keep.refl _ _⟩
end Go.Proofs.YtdfekphahdmffaaDoor
