/-
  May of a leaf: the program's and the document's; Depth, Count.
-/
import Derived.Test.YtkjocmenpccooaaGreatDoorHpE
namespace Go.Proofs.YtkjocmenpccooaaGreatDoor
open Go.RowKit

abbrev intR (neg : Bool) (l : List Nat) : Raw := .mk 4 0 neg l ⟨#[]⟩ []
abbrev nilR : Raw := .mk 0 0 false [] ⟨#[]⟩ []
def LeafI (x : Int) (w : World) (e : Ending) (w' : World) : Prop := e = .returned (.int .i64 x) ∧ Keep (fun _ => False) w w'
abbrev pvN (A : Option Addr) (n c : Nat) : PV := ⟨A, n, c, none, 0, 0⟩
set_option maxRecDepth 100000 in
set_option maxHeartbeats 4000000 in
theorem pdep_leaf (k : Int) (hk : (k == 8) = false) (neg : Bool) (A : Option Addr) (n c : Nat) (t : ByteArray) (w : World) : Calls Tryz.prog 48 #[datV k neg A n c t] w (LeafI 0 w) := by
  have hb := heap_alloc_new w (datC k neg A n c t)
  obtain ⟨⟨a0, a1, a2, a3, a4, a5⟩, _⟩ := six_cells hb
  clear hb
  go_enter Tryz.func48, Tryz.ntmps48
  go_wp2_with fail
  refine wp_loop_rounds 1 ?_
  rw [rounds_succ]
  go_wp2_with fail
  go_ret
  exact ⟨rfl, (Keep.refl _ _).alloc _⟩
set_option maxRecDepth 100000 in
set_option maxHeartbeats 4000000 in
theorem rdep_leaf (k : Int) (hk : (k == 8) = false) (neg : Bool) (A : Option Addr) (n c : Nat) (t : ByteArray) (w : World) : Calls Tryz.prog 22 #[datV k neg A n c t] w (LeafI 0 w) := by
  have hb := heap_alloc_new w (datC k neg A n c t)
  obtain ⟨⟨a0, a1, a2, a3, a4, a5⟩, _⟩ := six_cells hb
  clear hb
  go_enter Tryz.func22, Tryz.ntmps22
  go_wp2_with fail
  refine wp_loop_rounds 1 ?_
  rw [rounds_succ]
  go_wp2_with fail
  go_ret
  exact ⟨rfl, (Keep.refl _ _).alloc _⟩
set_option maxRecDepth 100000 in
set_option maxHeartbeats 4000000 in
theorem count_leaf (k : Int) (neg : Bool) (A : Option Addr) (n c : Nat) (t : ByteArray) (w : World) : Calls Tryz.prog 15 #[datV k neg A n c t] w (LeafI 1 w) := by
  have hb := heap_alloc_new w (datC k neg A n c t)
  obtain ⟨⟨a0, a1, a2, a3, a4, a5⟩, _⟩ := six_cells hb
  clear hb
  go_enter Tryz.func15, Tryz.ntmps15
  go_wp2_with fail
  refine wp_loop_rounds 1 ?_
  rw [rounds_succ]
  go_wp2_with fail
  go_ret
  exact ⟨rfl, (Keep.refl _ _).alloc _⟩
theorem flat_self (k : Int) (neg : Bool) (l : List Nat) (t : ByteArray) (m : Int) : (k == k && ((0 : Int) == 0 && (neg == neg && (decide (l = l) && (t.toList == t.toList && m == m))))) = true := by simp
theorem pplain_int (neg : Bool) (A : Option Addr) (n c : Nat) (l : List Nat) (w : World) (L : LimbsAt w A n c l) : Calls Tryz.prog 47 #[datV 4 neg A n c ⟨#[]⟩] w (BoolPost (mayB neg l) w) :=
  pplain_c4 (intR neg l) (pvN A n c) w rfl rfl rfl rfl 0 neg A n c ⟨#[]⟩ none 0 0 _ (Lib.hid (fun w => own_c4 4 0 neg A n c ⟨#[]⟩ none 0 0 w rfl rfl))
    (Lib.hid (fun W K => flat_any 4 0 neg A n c ⟨#[]⟩ none 0 0 4 0 neg A n c ⟨#[]⟩ none 0 0 l l W (L.keep0 K) (L.keep0 K))) (Lib.hid (flat_self _ _ _ _ _)) _
    (Lib.hid (fun W K => may_any neg A n c l W (L.keep0 K)))
theorem pplain_nil (w : World) : Calls Tryz.prog 47 #[datV 0 false none 0 0 ⟨#[]⟩] w (BoolPost true w) :=
  pplain_x nilR (pvN none 0 0) w rfl rfl rfl rfl rfl rfl rfl rfl 0 false none 0 0 ⟨#[]⟩ none 0 0 _ (Lib.hid (fun w => own_cx 0 0 false none 0 0 ⟨#[]⟩ none 0 0 w rfl rfl rfl rfl rfl rfl))
    (Lib.hid (fun W _ => flat_any 0 0 false none 0 0 ⟨#[]⟩ none 0 0 0 0 false none 0 0 ⟨#[]⟩ none 0 0 [] [] W (none_limbs W) (none_limbs W))) (Lib.hid (flat_self _ _ _ _ _))
set_option maxRecDepth 100000 in
set_option maxHeartbeats 4000000 in
theorem pmay_leaf (k : Int) (hk : (k == 8) = false) (neg : Bool) (A : Option Addr) (n c : Nat) (t : ByteArray) (b : Bool) (w : World) (HP : ∀ W, Keep (fun _ => False) w W → Calls Tryz.prog 47 #[datV k neg A n c t] W (BoolPost b W)) : Calls Tryz.prog 24 #[datV k neg A n c t] w (BoolPost b w) := by
  have hb := heap_alloc_new w (datC k neg A n c t)
  have HB := Lib.hid hb
  have HPP := Lib.hid (HP _ ((Keep.refl _ _).alloc (datC k neg A n c t)))
  have HD := Lib.hid (fun w => pdep_leaf k hk neg A n c t w)
  have HK := Lib.hid (show Keep (fun _ => False) w (w.alloc (datC k neg A n c t)) from (Keep.refl _ _).alloc _)
  obtain ⟨⟨a0, a1, a2, a3, a4, a5⟩, _⟩ := six_cells hb
  clear hb HP hk
  go_enter Tryz.func24, Tryz.ntmps24
  go_wp2_with fail
  generalize w.alloc (datC k neg A n c t) = w1 at *
  refine HPP.out.mono ?_
  rintro e w2 ⟨rfl, k2⟩
  have HK2 := Lib.hid (HK.out.trans k2)
  obtain ⟨⟨b0, b1, b2, b3, b4, b5⟩, _⟩ := six_cells (k2.heap HB.out id)
  clear k2 a0 a1 a2 a3 a4 a5
  cases b with
  | false =>
    go_wp2_with fail
    go_ret
    exact ⟨rfl, HK2.out⟩
  | true =>
    go_wp2_with fail
    refine (HD.out _).mono ?_
    rintro e w3 ⟨rfl, k3⟩
    have HK3 := Lib.hid (HK2.out.trans k3)
    clear k3
    go_wp2_with fail
    go_ret
    exact ⟨rfl, HK3.out⟩
set_option maxRecDepth 100000 in
set_option maxHeartbeats 4000000 in
theorem rmay_int (neg : Bool) (A : Option Addr) (n c : Nat) (l : List Nat) (b : Bool) (w : World) (L : LimbsAt w A n c l) (hn : n ≤ 60) (hb : b = mayB neg l) : Calls Tryz.prog 14 #[datV 4 neg A n c ⟨#[]⟩] w (BoolPost b w) := by
  have HP := Lib.hid (fun (W : World) (K : Keep (fun _ => False) w W) => (show Calls Tryz.prog 21 #[datV 4 neg A n c ⟨#[]⟩] W (BoolPost b W) from
    plain_Ct (intR neg l) (pvN A n c) W rfl rfl rfl rfl rfl rfl rfl b (Lib.hid (fun w1 => by
      have h := bare2_any (intR neg l) (pvN A n c) w1 L.len rfl
      rwa [show bareB false true false false (intR neg l) = true from by simp [bareB, Raw.c, Raw.t, Raw.l]] at h)) (Lib.hid (fun w1 K1 => by rw [hb]; exact rmay_any neg A n c l w1 ((L.keep0 K).keep0 K1) hn))))
  have HD := Lib.hid (fun w => rdep_leaf 4 rfl neg A n c ⟨#[]⟩ w)
  have hbx := heap_alloc_new w (datC 4 neg A n c ⟨#[]⟩)
  have HB := Lib.hid hbx
  have HK := Lib.hid (show Keep (fun _ => False) w (w.alloc (datC 4 neg A n c ⟨#[]⟩)) from (Keep.refl _ _).alloc _)
  obtain ⟨⟨a0, a1, a2, a3, a4, a5⟩, _⟩ := six_cells hbx
  clear hbx hb L
  go_enter Tryz.func14, Tryz.ntmps14
  go_wp2_with fail
  generalize w.alloc (datC 4 neg A n c ⟨#[]⟩) = w1 at *
  refine (HP.out _ HK.out).mono ?_
  rintro e w2 ⟨rfl, k2⟩
  have HK2 := Lib.hid (HK.out.trans k2)
  obtain ⟨⟨b0, b1, b2, b3, b4, b5⟩, _⟩ := six_cells (k2.heap HB.out id)
  clear k2 a0 a1 a2 a3 a4 a5
  cases b with
  | false =>
    go_wp2_with fail
    go_ret
    exact ⟨rfl, HK2.out⟩
  | true =>
    go_wp2_with fail
    refine (HD.out _).mono ?_
    rintro e w3 ⟨rfl, k3⟩
    have HK3 := Lib.hid (HK2.out.trans k3)
    clear k3
    go_wp2_with fail
    go_ret
    exact ⟨rfl, HK3.out⟩
end Go.Proofs.YtkjocmenpccooaaGreatDoor
