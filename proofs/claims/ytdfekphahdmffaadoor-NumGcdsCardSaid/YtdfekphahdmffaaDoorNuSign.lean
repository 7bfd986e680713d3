/-
  num: limb, below, Sign, order.
-/
import Derived.Test.YtdfekphahdmffaaDoorNuTrim
namespace Go.Proofs.YtdfekphahdmffaaDoor
open Go.RowKit

set_option maxHeartbeats 400000 in
theorem limb_any (A : Option Addr) (n c : Nat) (l : List Nat) (i : Nat) (w : World) (h : LimbsAt w A n c l) (_hi : i ≤ 1000000) :
    Calls Tryd.prog 67 #[.slice A n c, .int .i64 (i : Int)] w fun e w' => e = .returned (.int .u64 ((l.getD i 0 : Nat) : Int)) ∧ w = w' := by
  by_cases hlt : i < n
  · obtain ⟨b, off, rfl, hb, hc⟩ := h.row.2 i hlt
    have hx := low_cast h.low i
    have hm := h.max
    obtain ⟨x, hxx⟩ : ∃ x, x = l.getD i 0 := ⟨_, rfl⟩
    rw [← hxx] at hc hx ⊢
    have hx0 : (0 : Int) ≤ (x : Int) := by omega
    clear hxx h
    go_enter Tryd.func67, Tryd.ntmps67
    go_wp2
    go_ret
    exact ⟨rfl, rfl⟩
  · have e : l.getD i 0 = 0 := by
      rw [List.getD_eq_getElem?_getD, List.getElem?_eq_none (by rw [h.len]; omega)]; rfl
    have E := Lib.hid e
    have hm := h.max
    clear e h
    go_enter Tryd.func67, Tryd.ntmps67
    go_wp2
    go_ret
    exact ⟨by rw [E.out]; rfl, rfl⟩

/-- A number, as an argument. -/
abbrev numArg (neg : Bool) (A : Option Addr) (n c : Nat) : Value := .agg #[.bool neg, .slice A n c]
/-- Is it below 0? -/
def belowB (neg : Bool) (l : List Nat) : Bool := neg && decide (0 < lval l)
/-- What it comes to. -/
def sval (neg : Bool) (l : List Nat) : Int := if neg then -(lval l : Int) else (lval l : Int)
theorem tlen_pos (l : List Nat) : 0 < tlen l ↔ 0 < lval l := by
  unfold tlen
  constructor
  · intro h
    rcases Nat.eq_zero_or_pos (lval l) with e | e
    · rw [e] at h
      unfold limbs at h
      rw [digs_zero] at h
      simp at h
    · exact e
  · intro h
    rcases Nat.eq_zero_or_pos (limbs (lval l)).length with e | e
    · have := digs_nil BB2 (List.eq_nil_of_length_eq_zero e)
      omega
    · exact e
theorem belowB_iff (neg : Bool) (l : List Nat) : belowB neg l = decide (sval neg l < 0) := by
  unfold belowB sval
  cases neg
  · simp
  · rw [Bool.true_and, if_pos rfl]
    exact decide_eq_decide.2 (by omega)

def BoolPost (b : Bool) (w : World) (e : Ending) (w' : World) : Prop := e = .returned (.bool b) ∧ Keep (fun _ => False) w w'
def IntPost (x : Int) (w : World) (e : Ending) (w' : World) : Prop := e = .returned (.int .i64 x) ∧ Keep (fun _ => False) w w'

set_option maxHeartbeats 800000 in
theorem below_any (neg : Bool) (A : Option Addr) (n c : Nat) (l : List Nat) (w : World) (h : LimbsAt w A n c l) :
    Calls Tryd.prog 70 #[numArg neg A n c] w (BoolPost (belowB neg l) w) := by
  have K : Keep (fun _ => False) w (w.alloc (.cells #[.bool neg, .slice A n c] 25)) := (Keep.refl _ _).alloc _
  have h1 := h.keep0 K
  have htp := tlen_pos l
  cases neg with
  | false =>
    go_enter Tryd.func70, Tryd.ntmps70
    go_wp2_with fail
    go_ret
    exact ⟨rfl, K⟩
  | true =>
    have hb : belowB true l = decide (0 < tlen l) := by
      unfold belowB
      rw [Bool.true_and]
      exact decide_eq_decide.2 (by omega)
    rw [hb]
    clear htp hb
    go_enter Tryd.func70, Tryd.ntmps70
    go_wp2_with fail
    refine (trim_any A n c l _ h1).mono ?_
    rintro e w1 ⟨rfl, rfl⟩
    go_wp2_with fail
    go_ret
    exact ⟨rfl, K⟩

/-- -1, 0 or 1. -/
def signI (x : Int) : Int := if x < 0 then -1 else if 0 < x then 1 else 0
set_option maxHeartbeats 800000 in
theorem sign_any (neg : Bool) (A : Option Addr) (n c : Nat) (l : List Nat) (w : World) (h : LimbsAt w A n c l) :
    Calls Tryd.prog 39 #[numArg neg A n c] w (IntPost (signI (sval neg l)) w) := by
  have K : Keep (fun _ => False) w (w.alloc (.cells #[.bool neg, .slice A n c] 25)) := (Keep.refl _ _).alloc _
  have h1 := h.keep0 K
  have hin : ∀ j, j < 2 → (w.alloc (.cells #[.bool neg, .slice A n c] 25)).cell? ⟨w.heap.size, j, none⟩ = #[Value.bool neg, .slice A n c][j]? := fun j _ => World.cell?_alloc_new _ _ _ _
  have hbi := belowB_iff neg l
  have hB : belowB neg l = true ∨ belowB neg l = false := by cases belowB neg l <;> simp
  rcases hB with hB | hB
  · have hs : signI (sval neg l) = -1 := by
      rw [hbi, decide_eq_true_eq] at hB
      unfold signI; rw [if_pos hB]
    rw [hs]
    have HB := Lib.hid hB
    clear hbi hB hs hin
    go_enter Tryd.func39, Tryd.ntmps39
    go_wp2_with fail
    refine (below_any neg A n c l _ h1).mono ?_
    rw [HB.out]
    rintro e w1 ⟨rfl, k1⟩
    go_wp2_with fail
    go_ret
    exact ⟨rfl, K.trans k1⟩
  · have HB := Lib.hid hB
    have hx : ¬ sval neg l < 0 := by rw [hbi] at hB; simpa using hB
    have hs : signI (sval neg l) = if 0 < tlen l then 1 else 0 := by
      unfold signI
      rw [if_neg hx]
      have := tlen_pos l
      unfold sval at hx ⊢
      by_cases h0 : 0 < lval l
      · rw [if_pos (this.2 h0), if_pos]
        cases neg <;> simp at hx ⊢ <;> omega
      · rw [if_neg (fun e => h0 (this.1 e)), if_neg]
        cases neg <;> simp <;> omega
    rw [hs]
    have hin0 := hin 1 (by omega)
    clear hbi hB hx hs hin
    by_cases ht : 0 < tlen l
    · rw [if_pos ht]
      have ht' : (0 : Int) < (tlen l : Int) := by omega
      go_enter Tryd.func39, Tryd.ntmps39
      go_wp2_with fail
      refine (below_any neg A n c l _ h1).mono ?_
      rw [HB.out]
      rintro e w1 ⟨rfl, k1⟩
      have hc1 := (k1.cell (p := ⟨w.heap.size, 1, none⟩) (by simp) (by simp)).trans hin0
      have h2 := h1.keep0 k1
      go_wp2_with fail
      refine (trim_any A n c l _ h2).mono ?_
      rintro e w2 ⟨rfl, rfl⟩
      go_wp2_with fail
      go_ret
      exact ⟨rfl, K.trans k1⟩
    · rw [if_neg ht]
      have ht' : decide ((0 : Int) < (tlen l : Int)) = false := decide_eq_false (by omega)
      have ht2 : tlen l = 0 := by omega
      clear ht
      go_enter Tryd.func39, Tryd.ntmps39
      go_wp2_with fail
      refine (below_any neg A n c l _ h1).mono ?_
      rw [HB.out]
      rintro e w1 ⟨rfl, k1⟩
      have hc1 := (k1.cell (p := ⟨w.heap.size, 1, none⟩) (by simp) (by simp)).trans hin0
      have h2 := h1.keep0 k1
      go_wp2_with fail
      refine (trim_any A n c l _ h2).mono ?_
      rintro e w2 ⟨rfl, rfl⟩
      go_wp2_with fail
      go_ret
      exact ⟨rfl, K.trans k1⟩

/-- How two numbers stand. -/
def cmpN (a b : Nat) : Int := if a < b then -1 else if b < a then 1 else 0
set_option maxHeartbeats 400000 in
theorem isNaN_int (x : Int) (w : World) : Calls Tryd.prog 98 #[.int .i64 x] w fun e w' => e = .returned (.bool false) ∧ w = w' := by
  go_enter Tryd.func98, Tryd.ntmps98
  go_wp2
  go_ret
  exact ⟨by simp, rfl⟩
set_option maxHeartbeats 400000 in
theorem isNaN_u32 (x : Int) (w : World) : Calls Tryd.prog 111 #[.int .u32 x] w fun e w' => e = .returned (.bool false) ∧ w = w' := by
  go_enter Tryd.func111, Tryd.ntmps111
  go_wp2
  go_ret
  exact ⟨by simp, rfl⟩
/-- cmp.Compare. -/
def cmpI (a b : Int) : Int := if a < b then -1 else if b < a then 1 else 0
theorem cmpI_nat (a b : Nat) : cmpI a b = cmpN a b := by
  unfold cmpI cmpN
  split <;> split <;> (try split) <;> (try split) <;> first | rfl | omega
set_option maxHeartbeats 400000 in
theorem compare_int (x y : Int) (w : World) : Calls Tryd.prog 76 #[.int .i64 x, .int .i64 y] w fun e w' => e = .returned (.int .i64 (cmpI x y)) ∧ w = w' := by
  unfold cmpI
  by_cases h1 : x < y
  · rw [if_pos h1]
    go_enter Tryd.func76, Tryd.ntmps76
    go_wp2_with (go_at_call 98; refine (isNaN_int _ _).mono ?_; rintro e w' ⟨rfl, rfl⟩)
    go_ret
    exact ⟨rfl, rfl⟩
  · rw [if_neg h1]
    have h1' : decide (x < y) = false := by simpa using h1
    by_cases h2 : y < x
    · rw [if_pos h2]
      go_enter Tryd.func76, Tryd.ntmps76
      go_wp2_with (go_at_call 98; refine (isNaN_int _ _).mono ?_; rintro e w' ⟨rfl, rfl⟩)
      go_ret
      exact ⟨rfl, rfl⟩
    · rw [if_neg h2]
      have h2' : decide (y < x) = false := by simpa using h2
      clear h1 h2
      go_enter Tryd.func76, Tryd.ntmps76
      go_wp2_with (go_at_call 98; refine (isNaN_int _ _).mono ?_; rintro e w' ⟨rfl, rfl⟩)
      go_ret
      exact ⟨rfl, rfl⟩
set_option maxHeartbeats 400000 in
theorem compare_u32 (x y : Int) (w : World) : Calls Tryd.prog 97 #[.int .u32 x, .int .u32 y] w fun e w' => e = .returned (.int .i64 (cmpI x y)) ∧ w = w' := by
  unfold cmpI
  by_cases h1 : x < y
  · rw [if_pos h1]
    go_enter Tryd.func97, Tryd.ntmps97
    go_wp2_with (go_at_call 111; refine (isNaN_u32 _ _).mono ?_; rintro e w' ⟨rfl, rfl⟩)
    go_ret
    exact ⟨rfl, rfl⟩
  · rw [if_neg h1]
    have h1' : decide (x < y) = false := by simpa using h1
    by_cases h2 : y < x
    · rw [if_pos h2]
      go_enter Tryd.func97, Tryd.ntmps97
      go_wp2_with (go_at_call 111; refine (isNaN_u32 _ _).mono ?_; rintro e w' ⟨rfl, rfl⟩)
      go_ret
      exact ⟨rfl, rfl⟩
    · rw [if_neg h2]
      have h2' : decide (y < x) = false := by simpa using h2
      clear h1 h2
      go_enter Tryd.func97, Tryd.ntmps97
      go_wp2_with (go_at_call 111; refine (isNaN_u32 _ _).mono ?_; rintro e w' ⟨rfl, rfl⟩)
      go_ret
      exact ⟨rfl, rfl⟩
end Go.Proofs.YtdfekphahdmffaaDoor
