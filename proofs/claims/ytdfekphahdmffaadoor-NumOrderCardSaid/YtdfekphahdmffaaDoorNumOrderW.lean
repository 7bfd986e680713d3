/-
  The law NumOrder: its walk.
-/
import Derived.Test.YtdfekphahdmffaaDoorLawEnv
namespace Go.Proofs.YtdfekphahdmffaaDoor
open Go.RowKit

set_option maxRecDepth 100000 in
set_option maxHeartbeats 4000000 in
theorem order_long1 (p1 : Bool) (A1 : Option Addr) (n1 c1 : Nat) (p2 : Bool) (A2 : Option Addr) (n2 c2 : Nat) (p3 : Bool) (A3 : Option Addr) (n3 c3 : Nat) (w : World) (ht : PowTab w) (h1 : 60 < n1) :
    Calls Tryd.prog 11 #[numArg p1 A1 n1 c1, numArg p2 A2 n2 c2, numArg p3 A3 n3 c3] w (BoolPost true w) := by
  have X0 := env3 w (.bool p1) (.slice A1 n1 c1) (.bool p2) (.slice A2 n2 c2) (.bool p3) (.slice A3 n3 c3)
  have HT := Lib.hid ht
  clear ht
  go_enter Tryd.func11, Tryd.ntmps11
  go_wp2_with fail
  generalize w.heap.size = B0 at X0 ⊢
  generalize ((w.alloc (.cells #[.bool p1, .slice A1 n1 c1] 25)).alloc (.cells #[.bool p2, .slice A2 n2 c2] 25)).alloc (.cells #[.bool p3, .slice A3 n3 c3] 25) = w1 at X0 ⊢
  have HX := Lib.hid X0
  clear X0
  refine (long_any p1 A1 n1 c1 _).mono ?_
  rintro e w2 ⟨rfl, k2⟩
  rw [show decide (60 < n1) = true from decide_eq_true (by omega)]
  have HX1 := Lib.hid (HX.out.keep k2)
  clear HX k2
  have HX := Lib.hid HX1.out
  clear HX1
  obtain ⟨t0, t1, tl⟩ := HX.out.cells (.head _)
  obtain ⟨s0, s1, sl⟩ := HX.out.cells (.tail _ (.head _))
  obtain ⟨r0, r1, rl⟩ := HX.out.cells (.tail _ (.tail _ (.head _)))
  try dsimp only
  go_wp2_with fail
  clear t0 t1 tl s0 s1 sl r0 r1 rl
  refine (awake_any _ (HT.out.keep HX.out.k)).mono ?_
  rintro e wz ⟨rfl, kz⟩
  have HZ := Lib.hid (HX.out.k.trans kz)
  clear kz
  try dsimp only
  go_wp2_with fail
  go_ret
  exact ⟨rfl, HZ.out⟩
set_option maxRecDepth 100000 in
set_option maxHeartbeats 4000000 in
theorem order_long2 (p1 : Bool) (A1 : Option Addr) (n1 c1 : Nat) (p2 : Bool) (A2 : Option Addr) (n2 c2 : Nat) (p3 : Bool) (A3 : Option Addr) (n3 c3 : Nat) (w : World) (ht : PowTab w) (h1 : n1 ≤ 60) (h2 : 60 < n2) :
    Calls Tryd.prog 11 #[numArg p1 A1 n1 c1, numArg p2 A2 n2 c2, numArg p3 A3 n3 c3] w (BoolPost true w) := by
  have X0 := env3 w (.bool p1) (.slice A1 n1 c1) (.bool p2) (.slice A2 n2 c2) (.bool p3) (.slice A3 n3 c3)
  have HT := Lib.hid ht
  clear ht
  go_enter Tryd.func11, Tryd.ntmps11
  go_wp2_with fail
  generalize w.heap.size = B0 at X0 ⊢
  generalize ((w.alloc (.cells #[.bool p1, .slice A1 n1 c1] 25)).alloc (.cells #[.bool p2, .slice A2 n2 c2] 25)).alloc (.cells #[.bool p3, .slice A3 n3 c3] 25) = w1 at X0 ⊢
  have HX := Lib.hid X0
  clear X0
  refine (long_any p1 A1 n1 c1 _).mono ?_
  rintro e w2 ⟨rfl, k2⟩
  rw [show decide (60 < n1) = false from decide_eq_false (by omega)]
  have HX1 := Lib.hid (HX.out.keep k2)
  clear HX k2
  have HX := Lib.hid HX1.out
  clear HX1
  obtain ⟨t0, t1, tl⟩ := HX.out.cells (.head _)
  obtain ⟨s0, s1, sl⟩ := HX.out.cells (.tail _ (.head _))
  obtain ⟨r0, r1, rl⟩ := HX.out.cells (.tail _ (.tail _ (.head _)))
  try dsimp only
  go_wp2_with fail
  clear t0 t1 tl s0 s1 sl r0 r1 rl
  refine (long_any p2 A2 n2 c2 _).mono ?_
  rintro e w2 ⟨rfl, k2⟩
  rw [show decide (60 < n2) = true from decide_eq_true (by omega)]
  have HX1 := Lib.hid (HX.out.keep k2)
  clear HX k2
  have HX := Lib.hid HX1.out
  clear HX1
  obtain ⟨t0, t1, tl⟩ := HX.out.cells (.head _)
  obtain ⟨s0, s1, sl⟩ := HX.out.cells (.tail _ (.head _))
  obtain ⟨r0, r1, rl⟩ := HX.out.cells (.tail _ (.tail _ (.head _)))
  try dsimp only
  go_wp2_with fail
  clear t0 t1 tl s0 s1 sl r0 r1 rl
  refine (awake_any _ (HT.out.keep HX.out.k)).mono ?_
  rintro e wz ⟨rfl, kz⟩
  have HZ := Lib.hid (HX.out.k.trans kz)
  clear kz
  try dsimp only
  go_wp2_with fail
  go_ret
  exact ⟨rfl, HZ.out⟩
set_option maxRecDepth 100000 in
set_option maxHeartbeats 4000000 in
theorem order_long3 (p1 : Bool) (A1 : Option Addr) (n1 c1 : Nat) (p2 : Bool) (A2 : Option Addr) (n2 c2 : Nat) (p3 : Bool) (A3 : Option Addr) (n3 c3 : Nat) (w : World) (ht : PowTab w) (h1 : n1 ≤ 60) (h2 : n2 ≤ 60) (h3 : 60 < n3) :
    Calls Tryd.prog 11 #[numArg p1 A1 n1 c1, numArg p2 A2 n2 c2, numArg p3 A3 n3 c3] w (BoolPost true w) := by
  have X0 := env3 w (.bool p1) (.slice A1 n1 c1) (.bool p2) (.slice A2 n2 c2) (.bool p3) (.slice A3 n3 c3)
  have HT := Lib.hid ht
  clear ht
  go_enter Tryd.func11, Tryd.ntmps11
  go_wp2_with fail
  generalize w.heap.size = B0 at X0 ⊢
  generalize ((w.alloc (.cells #[.bool p1, .slice A1 n1 c1] 25)).alloc (.cells #[.bool p2, .slice A2 n2 c2] 25)).alloc (.cells #[.bool p3, .slice A3 n3 c3] 25) = w1 at X0 ⊢
  have HX := Lib.hid X0
  clear X0
  refine (long_any p1 A1 n1 c1 _).mono ?_
  rintro e w2 ⟨rfl, k2⟩
  rw [show decide (60 < n1) = false from decide_eq_false (by omega)]
  have HX1 := Lib.hid (HX.out.keep k2)
  clear HX k2
  have HX := Lib.hid HX1.out
  clear HX1
  obtain ⟨t0, t1, tl⟩ := HX.out.cells (.head _)
  obtain ⟨s0, s1, sl⟩ := HX.out.cells (.tail _ (.head _))
  obtain ⟨r0, r1, rl⟩ := HX.out.cells (.tail _ (.tail _ (.head _)))
  try dsimp only
  go_wp2_with fail
  clear t0 t1 tl s0 s1 sl r0 r1 rl
  refine (long_any p2 A2 n2 c2 _).mono ?_
  rintro e w2 ⟨rfl, k2⟩
  rw [show decide (60 < n2) = false from decide_eq_false (by omega)]
  have HX1 := Lib.hid (HX.out.keep k2)
  clear HX k2
  have HX := Lib.hid HX1.out
  clear HX1
  obtain ⟨t0, t1, tl⟩ := HX.out.cells (.head _)
  obtain ⟨s0, s1, sl⟩ := HX.out.cells (.tail _ (.head _))
  obtain ⟨r0, r1, rl⟩ := HX.out.cells (.tail _ (.tail _ (.head _)))
  try dsimp only
  go_wp2_with fail
  clear t0 t1 tl s0 s1 sl r0 r1 rl
  refine (long_any p3 A3 n3 c3 _).mono ?_
  rintro e w2 ⟨rfl, k2⟩
  rw [show decide (60 < n3) = true from decide_eq_true (by omega)]
  have HX1 := Lib.hid (HX.out.keep k2)
  clear HX k2
  have HX := Lib.hid HX1.out
  clear HX1
  obtain ⟨t0, t1, tl⟩ := HX.out.cells (.head _)
  obtain ⟨s0, s1, sl⟩ := HX.out.cells (.tail _ (.head _))
  obtain ⟨r0, r1, rl⟩ := HX.out.cells (.tail _ (.tail _ (.head _)))
  try dsimp only
  go_wp2_with fail
  clear t0 t1 tl s0 s1 sl r0 r1 rl
  refine (awake_any _ (HT.out.keep HX.out.k)).mono ?_
  rintro e wz ⟨rfl, kz⟩
  have HZ := Lib.hid (HX.out.k.trans kz)
  clear kz
  try dsimp only
  go_wp2_with fail
  go_ret
  exact ⟨rfl, HZ.out⟩
set_option maxRecDepth 100000 in
set_option maxHeartbeats 4000000 in
theorem order_short (p1 : Bool) (A1 : Option Addr) (n1 c1 : Nat) (p2 : Bool) (A2 : Option Addr) (n2 c2 : Nat) (p3 : Bool) (A3 : Option Addr) (n3 c3 : Nat) (l1 l2 l3 : List Nat) (w : World) (ht : PowTab w) (h1 : n1 ≤ 60) (h2 : n2 ≤ 60) (h3 : n3 ≤ 60) (L1 : LimbsAt w A1 n1 c1 l1) (L2 : LimbsAt w A2 n2 c2 l2) (L3 : LimbsAt w A3 n3 c3 l3) :
    Calls Tryd.prog 11 #[numArg p1 A1 n1 c1, numArg p2 A2 n2 c2, numArg p3 A3 n3 c3] w (BoolPost true w) := by
  have HL := Lib.hid (And.intro L1 (And.intro L2 L3))
  clear L1 L2 L3
  have X0 := env3 w (.bool p1) (.slice A1 n1 c1) (.bool p2) (.slice A2 n2 c2) (.bool p3) (.slice A3 n3 c3)
  have HT := Lib.hid ht
  clear ht
  go_enter Tryd.func11, Tryd.ntmps11
  go_wp2_with fail
  generalize w.heap.size = B0 at X0 ⊢
  generalize ((w.alloc (.cells #[.bool p1, .slice A1 n1 c1] 25)).alloc (.cells #[.bool p2, .slice A2 n2 c2] 25)).alloc (.cells #[.bool p3, .slice A3 n3 c3] 25) = w1 at X0 ⊢
  have HX := Lib.hid X0
  clear X0
  refine (long_any p1 A1 n1 c1 _).mono ?_
  rintro e w2 ⟨rfl, k2⟩
  rw [show decide (60 < n1) = false from decide_eq_false (by omega)]
  have HX1 := Lib.hid (HX.out.keep k2)
  clear HX k2
  have HX := Lib.hid HX1.out
  clear HX1
  obtain ⟨t0, t1, tl⟩ := HX.out.cells (.head _)
  obtain ⟨s0, s1, sl⟩ := HX.out.cells (.tail _ (.head _))
  obtain ⟨r0, r1, rl⟩ := HX.out.cells (.tail _ (.tail _ (.head _)))
  try dsimp only
  go_wp2_with fail
  clear t0 t1 tl s0 s1 sl r0 r1 rl
  refine (long_any p2 A2 n2 c2 _).mono ?_
  rintro e w2 ⟨rfl, k2⟩
  rw [show decide (60 < n2) = false from decide_eq_false (by omega)]
  have HX1 := Lib.hid (HX.out.keep k2)
  clear HX k2
  have HX := Lib.hid HX1.out
  clear HX1
  obtain ⟨t0, t1, tl⟩ := HX.out.cells (.head _)
  obtain ⟨s0, s1, sl⟩ := HX.out.cells (.tail _ (.head _))
  obtain ⟨r0, r1, rl⟩ := HX.out.cells (.tail _ (.tail _ (.head _)))
  try dsimp only
  go_wp2_with fail
  clear t0 t1 tl s0 s1 sl r0 r1 rl
  refine (long_any p3 A3 n3 c3 _).mono ?_
  rintro e w2 ⟨rfl, k2⟩
  rw [show decide (60 < n3) = false from decide_eq_false (by omega)]
  have HX1 := Lib.hid (HX.out.keep k2)
  clear HX k2
  have HX := Lib.hid HX1.out
  clear HX1
  obtain ⟨t0, t1, tl⟩ := HX.out.cells (.head _)
  obtain ⟨s0, s1, sl⟩ := HX.out.cells (.tail _ (.head _))
  obtain ⟨r0, r1, rl⟩ := HX.out.cells (.tail _ (.tail _ (.head _)))
  try dsimp only
  go_wp2_with fail
  clear t0 t1 tl s0 s1 sl r0 r1 rl
  generalize B0 = Ba at HX ⊢
  obtain ⟨x, hx⟩ : ∃ x, x = cmpI (sval p1 l1) (sval p2 l2) := ⟨_, rfl⟩
  obtain ⟨y, hy⟩ : ∃ y, y = cmpI (sval p2 l2) (sval p3 l3) := ⟨_, rfl⟩
  obtain ⟨z, hz⟩ : ∃ z, z = cmpI (sval p1 l1) (sval p3 l3) := ⟨_, rfl⟩
  have C1 := Lib.hid (fun (w' : World) (K' : Keep (fun _ => False) w2 w') => (show Calls Tryd.prog 43 #[numArg p1 A1 n1 c1, numArg p2 A2 n2 c2] w' (IntPost x w') from by rw [hx]; exact cmp_any _ _ _ _ _ _ _ _ _ _ w' (HL.out.1.keep0 (HX.out.k.trans K')) (HL.out.2.1.keep0 (HX.out.k.trans K'))))
  have C2 := Lib.hid (fun (w' : World) (K' : Keep (fun _ => False) w2 w') => (show Calls Tryd.prog 43 #[numArg p2 A2 n2 c2, numArg p3 A3 n3 c3] w' (IntPost y w') from by rw [hy]; exact cmp_any _ _ _ _ _ _ _ _ _ _ w' (HL.out.2.1.keep0 (HX.out.k.trans K')) (HL.out.2.2.keep0 (HX.out.k.trans K'))))
  have C3 := Lib.hid (fun (w' : World) (K' : Keep (fun _ => False) w2 w') => (show Calls Tryd.prog 43 #[numArg p1 A1 n1 c1, numArg p3 A3 n3 c3] w' (IntPost z w') from by rw [hz]; exact cmp_any _ _ _ _ _ _ _ _ _ _ w' (HL.out.1.keep0 (HX.out.k.trans K')) (HL.out.2.2.keep0 (HX.out.k.trans K'))))
  have HXYZ := Lib.hid (And.intro hx (And.intro hy hz))
  clear hx hy hz
  have Kd : Keep (fun _ => False) w2 w2.drew := (Keep.refl _ _).drew
  have HS := Lib.hid (fun (w' : World) (K' : Keep (fun _ => False) w2 w') => (show w'.cell? ⟨Ba, 0, none⟩ = some (.bool p1) ∧ w'.cell? ⟨Ba, 1, none⟩ = some (.slice A1 n1 c1) ∧ w'.cell? ⟨Ba + 1, 0, none⟩ = some (.bool p2) ∧ w'.cell? ⟨Ba + 1, 1, none⟩ = some (.slice A2 n2 c2) ∧ w'.cell? ⟨Ba + 1 + 1, 0, none⟩ = some (.bool p3) ∧ w'.cell? ⟨Ba + 1 + 1, 1, none⟩ = some (.slice A3 n3 c3) ∧ Keep (fun _ => False) w2 w' from by
    obtain ⟨a0, a1, _⟩ := (HX.out.keep K').cells (.tail _ (.tail _ (.head _)))
    obtain ⟨b0, b1, _⟩ := (HX.out.keep K').cells (.tail _ (.head _))
    obtain ⟨d0, d1, _⟩ := (HX.out.keep K').cells (.head _)
    exact ⟨a0, a1, b0, b1, d0, d1, K'⟩))
  obtain ⟨t0, t1, tl⟩ := HX.out.cells (.head _)
  obtain ⟨s0, s1, sl⟩ := HX.out.cells (.tail _ (.head _))
  obtain ⟨r0, r1, rl⟩ := HX.out.cells (.tail _ (.tail _ (.head _)))
  go_region_held3 (fun w' => w'.cell? ⟨Ba, 0, none⟩ = some (.bool p1) ∧ w'.cell? ⟨Ba, 1, none⟩ = some (.slice A1 n1 c1) ∧ w'.cell? ⟨Ba + 1, 0, none⟩ = some (.bool p2) ∧ w'.cell? ⟨Ba + 1, 1, none⟩ = some (.slice A2 n2 c2) ∧ w'.cell? ⟨Ba + 1 + 1, 0, none⟩ = some (.bool p3) ∧ w'.cell? ⟨Ba + 1 + 1, 1, none⟩ = some (.slice A3 n3 c3) ∧ Keep (fun _ => False) w2 w')
    (first | exact HS.out _ Kd | exact HS.out _ (by assumption))
    ((go_at_call 43; go_split_ands; (first
      | ((with_reducible refine (C1.out _ (by assumption)).mono ?_); rintro e w5 ⟨rfl, k5⟩; have K5 := Keep.trans (by assumption) k5)
      | ((with_reducible refine (C2.out _ (by assumption)).mono ?_); rintro e w6 ⟨rfl, k6⟩; have K6 := Keep.trans (by assumption) k6)
      | ((with_reducible refine (C3.out _ (by assumption)).mono ?_); rintro e w7 ⟨rfl, k7⟩; have K7 := Keep.trans (by assumption) k7))))

  clear k5 k6 k7 K5 K6 C1 C2 C3 HS Kd
  clear t0 t1 tl s0 s1 sl r0 r1 rl
  have HX1 := Lib.hid (HX.out.keep K7)
  clear HX K7
  have HX := Lib.hid HX1.out
  clear HX1
  have hx3 := cmp3 (sval p1 l1) (sval p2 l2)
  rw [← HXYZ.out.1] at hx3
  have hy3 := cmp3 (sval p2 l2) (sval p3 l3)
  rw [← HXYZ.out.2.1] at hy3
  rcases hx3 with h | h | h
  · subst h
    have CBA := Lib.hid (fun (w' : World) (K' : Keep (fun _ => False) w7 w') => (show Calls Tryd.prog 43 #[numArg p2 A2 n2 c2, numArg p1 A1 n1 c1] w' (IntPost (1) w') from by rw [show (1 : Int) = cmpI (sval p2 l2) (sval p1 l1) from by rw [cmp_anti (sval p1 l1), ← HXYZ.out.1] <;> rfl]; exact cmp_any _ _ _ _ _ _ _ _ _ _ w' (HL.out.2.1.keep0 (HX.out.k.trans K')) (HL.out.1.keep0 (HX.out.k.trans K'))))
    have CAA := Lib.hid (fun (w' : World) (K' : Keep (fun _ => False) w7 w') => (show Calls Tryd.prog 43 #[numArg p1 A1 n1 c1, numArg p1 A1 n1 c1] w' (IntPost 0 w') from by rw [show (0 : Int) = cmpI (sval p1 l1) (sval p1 l1) from (cmp_self _).symm]; exact cmp_any _ _ _ _ _ _ _ _ _ _ w' (HL.out.1.keep0 (HX.out.k.trans K')) (HL.out.1.keep0 (HX.out.k.trans K'))))
    have HSUB := Lib.hid (fun (w' : World) (K' : Keep (fun _ => False) w7 w') => sub_any p1 A1 n1 c1 l1 p2 A2 n2 c2 l2 w' (HL.out.1.keep0 (HX.out.k.trans K')) (HL.out.2.1.keep0 (HX.out.k.trans K')) (by omega) (by omega))
    have HSG := Lib.hid (show signI (sval p1 l1 - sval p2 l2) = -1 from by rw [sign_cmp, ← HXYZ.out.1])
    rcases hy3 with h | h | h
    · subst h
      obtain rfl : z = -1 := by
        have h1 := cmp_tr (a := sval p1 l1) (b := sval p2 l2) (c := sval p3 l3) (by rw [← HXYZ.out.1]; decide) (by rw [← HXYZ.out.2.1]; decide)
        rw [← HXYZ.out.1, ← HXYZ.out.2.1] at h1
        rw [HXYZ.out.2.2, h1]; rfl
      clear HXYZ
      obtain ⟨t0, t1, tl⟩ := HX.out.cells (.head _)
      obtain ⟨s0, s1, sl⟩ := HX.out.cells (.tail _ (.head _))
      obtain ⟨r0, r1, rl⟩ := HX.out.cells (.tail _ (.tail _ (.head _)))
      try dsimp only
      go_wp2_with fail
      refine (CBA.out _ (Keep.refl _ _)).mono ?_
      rintro e w8 ⟨rfl, k8⟩
      clear t0 t1 tl s0 s1 sl r0 r1 rl
      have HX1 := Lib.hid (HX.out.keep k8)
      clear HX
      have HX := Lib.hid HX1.out
      clear HX1
      obtain ⟨t0, t1, tl⟩ := HX.out.cells (.head _)
      obtain ⟨s0, s1, sl⟩ := HX.out.cells (.tail _ (.head _))
      obtain ⟨r0, r1, rl⟩ := HX.out.cells (.tail _ (.tail _ (.head _)))
      try dsimp only
      go_wp2_with fail
      refine (CAA.out _ k8).mono ?_
      rintro e w9 ⟨rfl, k9⟩
      have K9 := k8.trans k9
      clear t0 t1 tl s0 s1 sl r0 r1 rl
      have HX1 := Lib.hid (HX.out.keep k9)
      clear HX
      have HX := Lib.hid HX1.out
      clear HX1
      obtain ⟨t0, t1, tl⟩ := HX.out.cells (.head _)
      obtain ⟨s0, s1, sl⟩ := HX.out.cells (.tail _ (.head _))
      obtain ⟨r0, r1, rl⟩ := HX.out.cells (.tail _ (.tail _ (.head _)))
      clear k8 k9
      try dsimp only
      go_wp2_with fail
      refine (HSUB.out _ K9).mono ?_
      intro e w10 hres
      obtain ⟨k10, hres⟩ := hres.two
      clear t0 t1 tl s0 s1 sl r0 r1 rl
      have HX1 := Lib.hid (HX.out.keep k10)
      clear HX
      have HX := Lib.hid HX1.out
      clear HX1
      clear K9 k10
      rcases hres with ⟨_, rfl⟩ | ⟨_, q, A, n, c, hqd, rfl, LM, _, hsv⟩
      · skip
        obtain ⟨t0, t1, tl⟩ := HX.out.cells (.head _)
        obtain ⟨s0, s1, sl⟩ := HX.out.cells (.tail _ (.head _))
        obtain ⟨r0, r1, rl⟩ := HX.out.cells (.tail _ (.tail _ (.head _)))
        try dsimp only
        go_wp2_with fail
        clear t0 t1 tl s0 s1 sl r0 r1 rl
        have HX1 := Lib.hid (HX.out.box (.bool false) (.slice none 0 0))
        clear HX
        have HX := Lib.hid HX1.out
        clear HX1
        refine (awake_any _ (HT.out.keep HX.out.k)).mono ?_
        rintro e wz ⟨rfl, kz⟩
        have HZ := Lib.hid (HX.out.k.trans kz)
        clear kz
        try dsimp only
        go_wp2_with fail
        go_ret
        exact ⟨rfl, HZ.out⟩
      · skip
        have HX1 := Lib.hid (HX.out.num LM)
        clear HX LM
        have HX := Lib.hid HX1.out
        clear HX1
        obtain ⟨t0, t1, tl⟩ := HX.out.cells (.head _)
        obtain ⟨s0, s1, sl⟩ := HX.out.cells (.tail _ (.head _))
        obtain ⟨r0, r1, rl⟩ := HX.out.cells (.tail _ (.tail _ (.head _)))
        have HSV := Lib.hid hsv
        clear hsv
        try dsimp only
        go_wp2_with fail
        clear t0 t1 tl s0 s1 sl r0 r1 rl
        have HX1 := Lib.hid (HX.out.box (.bool q) (.slice A n c))
        clear HX
        have HX := Lib.hid HX1.out
        clear HX1
        refine (sign_any q A n c _ _ (HX.out.m _ (.head _))).mono ?_
        rintro e w11 ⟨rfl, k11⟩
        rw [HSV.out, HSG.out]
        have HX1 := Lib.hid (HX.out.keep k11)
        clear HX k11
        have HX := Lib.hid HX1.out
        clear HX1
        try dsimp only
        go_wp2_with fail
        refine (awake_any _ (HT.out.keep HX.out.k)).mono ?_
        rintro e wz ⟨rfl, kz⟩
        have HZ := Lib.hid (HX.out.k.trans kz)
        clear kz
        try dsimp only
        go_wp2_with fail
        go_ret
        exact ⟨rfl, HZ.out⟩
    · subst h
      obtain rfl : z = -1 := by
        have h1 := cmp_tr (a := sval p1 l1) (b := sval p2 l2) (c := sval p3 l3) (by rw [← HXYZ.out.1]; decide) (by rw [← HXYZ.out.2.1]; decide)
        rw [← HXYZ.out.1, ← HXYZ.out.2.1] at h1
        rw [HXYZ.out.2.2, h1]; rfl
      clear HXYZ
      obtain ⟨t0, t1, tl⟩ := HX.out.cells (.head _)
      obtain ⟨s0, s1, sl⟩ := HX.out.cells (.tail _ (.head _))
      obtain ⟨r0, r1, rl⟩ := HX.out.cells (.tail _ (.tail _ (.head _)))
      try dsimp only
      go_wp2_with fail
      refine (CBA.out _ (Keep.refl _ _)).mono ?_
      rintro e w8 ⟨rfl, k8⟩
      clear t0 t1 tl s0 s1 sl r0 r1 rl
      have HX1 := Lib.hid (HX.out.keep k8)
      clear HX
      have HX := Lib.hid HX1.out
      clear HX1
      obtain ⟨t0, t1, tl⟩ := HX.out.cells (.head _)
      obtain ⟨s0, s1, sl⟩ := HX.out.cells (.tail _ (.head _))
      obtain ⟨r0, r1, rl⟩ := HX.out.cells (.tail _ (.tail _ (.head _)))
      try dsimp only
      go_wp2_with fail
      refine (CAA.out _ k8).mono ?_
      rintro e w9 ⟨rfl, k9⟩
      have K9 := k8.trans k9
      clear t0 t1 tl s0 s1 sl r0 r1 rl
      have HX1 := Lib.hid (HX.out.keep k9)
      clear HX
      have HX := Lib.hid HX1.out
      clear HX1
      obtain ⟨t0, t1, tl⟩ := HX.out.cells (.head _)
      obtain ⟨s0, s1, sl⟩ := HX.out.cells (.tail _ (.head _))
      obtain ⟨r0, r1, rl⟩ := HX.out.cells (.tail _ (.tail _ (.head _)))
      clear k8 k9
      try dsimp only
      go_wp2_with fail
      refine (HSUB.out _ K9).mono ?_
      intro e w10 hres
      obtain ⟨k10, hres⟩ := hres.two
      clear t0 t1 tl s0 s1 sl r0 r1 rl
      have HX1 := Lib.hid (HX.out.keep k10)
      clear HX
      have HX := Lib.hid HX1.out
      clear HX1
      clear K9 k10
      rcases hres with ⟨_, rfl⟩ | ⟨_, q, A, n, c, hqd, rfl, LM, _, hsv⟩
      · skip
        obtain ⟨t0, t1, tl⟩ := HX.out.cells (.head _)
        obtain ⟨s0, s1, sl⟩ := HX.out.cells (.tail _ (.head _))
        obtain ⟨r0, r1, rl⟩ := HX.out.cells (.tail _ (.tail _ (.head _)))
        try dsimp only
        go_wp2_with fail
        clear t0 t1 tl s0 s1 sl r0 r1 rl
        have HX1 := Lib.hid (HX.out.box (.bool false) (.slice none 0 0))
        clear HX
        have HX := Lib.hid HX1.out
        clear HX1
        refine (awake_any _ (HT.out.keep HX.out.k)).mono ?_
        rintro e wz ⟨rfl, kz⟩
        have HZ := Lib.hid (HX.out.k.trans kz)
        clear kz
        try dsimp only
        go_wp2_with fail
        go_ret
        exact ⟨rfl, HZ.out⟩
      · skip
        have HX1 := Lib.hid (HX.out.num LM)
        clear HX LM
        have HX := Lib.hid HX1.out
        clear HX1
        obtain ⟨t0, t1, tl⟩ := HX.out.cells (.head _)
        obtain ⟨s0, s1, sl⟩ := HX.out.cells (.tail _ (.head _))
        obtain ⟨r0, r1, rl⟩ := HX.out.cells (.tail _ (.tail _ (.head _)))
        have HSV := Lib.hid hsv
        clear hsv
        try dsimp only
        go_wp2_with fail
        clear t0 t1 tl s0 s1 sl r0 r1 rl
        have HX1 := Lib.hid (HX.out.box (.bool q) (.slice A n c))
        clear HX
        have HX := Lib.hid HX1.out
        clear HX1
        refine (sign_any q A n c _ _ (HX.out.m _ (.head _))).mono ?_
        rintro e w11 ⟨rfl, k11⟩
        rw [HSV.out, HSG.out]
        have HX1 := Lib.hid (HX.out.keep k11)
        clear HX k11
        have HX := Lib.hid HX1.out
        clear HX1
        try dsimp only
        go_wp2_with fail
        refine (awake_any _ (HT.out.keep HX.out.k)).mono ?_
        rintro e wz ⟨rfl, kz⟩
        have HZ := Lib.hid (HX.out.k.trans kz)
        clear kz
        try dsimp only
        go_wp2_with fail
        go_ret
        exact ⟨rfl, HZ.out⟩
    · subst h
      clear HXYZ
      obtain ⟨t0, t1, tl⟩ := HX.out.cells (.head _)
      obtain ⟨s0, s1, sl⟩ := HX.out.cells (.tail _ (.head _))
      obtain ⟨r0, r1, rl⟩ := HX.out.cells (.tail _ (.tail _ (.head _)))
      try dsimp only
      go_wp2_with fail
      refine (CBA.out _ (Keep.refl _ _)).mono ?_
      rintro e w8 ⟨rfl, k8⟩
      clear t0 t1 tl s0 s1 sl r0 r1 rl
      have HX1 := Lib.hid (HX.out.keep k8)
      clear HX
      have HX := Lib.hid HX1.out
      clear HX1
      obtain ⟨t0, t1, tl⟩ := HX.out.cells (.head _)
      obtain ⟨s0, s1, sl⟩ := HX.out.cells (.tail _ (.head _))
      obtain ⟨r0, r1, rl⟩ := HX.out.cells (.tail _ (.tail _ (.head _)))
      try dsimp only
      go_wp2_with fail
      refine (CAA.out _ k8).mono ?_
      rintro e w9 ⟨rfl, k9⟩
      have K9 := k8.trans k9
      clear t0 t1 tl s0 s1 sl r0 r1 rl
      have HX1 := Lib.hid (HX.out.keep k9)
      clear HX
      have HX := Lib.hid HX1.out
      clear HX1
      obtain ⟨t0, t1, tl⟩ := HX.out.cells (.head _)
      obtain ⟨s0, s1, sl⟩ := HX.out.cells (.tail _ (.head _))
      obtain ⟨r0, r1, rl⟩ := HX.out.cells (.tail _ (.tail _ (.head _)))
      clear k8 k9
      try dsimp only
      go_wp2_with fail
      refine (HSUB.out _ K9).mono ?_
      intro e w10 hres
      obtain ⟨k10, hres⟩ := hres.two
      clear t0 t1 tl s0 s1 sl r0 r1 rl
      have HX1 := Lib.hid (HX.out.keep k10)
      clear HX
      have HX := Lib.hid HX1.out
      clear HX1
      clear K9 k10
      rcases hres with ⟨_, rfl⟩ | ⟨_, q, A, n, c, hqd, rfl, LM, _, hsv⟩
      · skip
        obtain ⟨t0, t1, tl⟩ := HX.out.cells (.head _)
        obtain ⟨s0, s1, sl⟩ := HX.out.cells (.tail _ (.head _))
        obtain ⟨r0, r1, rl⟩ := HX.out.cells (.tail _ (.tail _ (.head _)))
        try dsimp only
        go_wp2_with fail
        clear t0 t1 tl s0 s1 sl r0 r1 rl
        have HX1 := Lib.hid (HX.out.box (.bool false) (.slice none 0 0))
        clear HX
        have HX := Lib.hid HX1.out
        clear HX1
        refine (awake_any _ (HT.out.keep HX.out.k)).mono ?_
        rintro e wz ⟨rfl, kz⟩
        have HZ := Lib.hid (HX.out.k.trans kz)
        clear kz
        try dsimp only
        go_wp2_with fail
        go_ret
        exact ⟨rfl, HZ.out⟩
      · skip
        have HX1 := Lib.hid (HX.out.num LM)
        clear HX LM
        have HX := Lib.hid HX1.out
        clear HX1
        obtain ⟨t0, t1, tl⟩ := HX.out.cells (.head _)
        obtain ⟨s0, s1, sl⟩ := HX.out.cells (.tail _ (.head _))
        obtain ⟨r0, r1, rl⟩ := HX.out.cells (.tail _ (.tail _ (.head _)))
        have HSV := Lib.hid hsv
        clear hsv
        try dsimp only
        go_wp2_with fail
        clear t0 t1 tl s0 s1 sl r0 r1 rl
        have HX1 := Lib.hid (HX.out.box (.bool q) (.slice A n c))
        clear HX
        have HX := Lib.hid HX1.out
        clear HX1
        refine (sign_any q A n c _ _ (HX.out.m _ (.head _))).mono ?_
        rintro e w11 ⟨rfl, k11⟩
        rw [HSV.out, HSG.out]
        have HX1 := Lib.hid (HX.out.keep k11)
        clear HX k11
        have HX := Lib.hid HX1.out
        clear HX1
        try dsimp only
        go_wp2_with fail
        refine (awake_any _ (HT.out.keep HX.out.k)).mono ?_
        rintro e wz ⟨rfl, kz⟩
        have HZ := Lib.hid (HX.out.k.trans kz)
        clear kz
        try dsimp only
        go_wp2_with fail
        go_ret
        exact ⟨rfl, HZ.out⟩
  · subst h
    have CBA := Lib.hid (fun (w' : World) (K' : Keep (fun _ => False) w7 w') => (show Calls Tryd.prog 43 #[numArg p2 A2 n2 c2, numArg p1 A1 n1 c1] w' (IntPost (0) w') from by rw [show (0 : Int) = cmpI (sval p2 l2) (sval p1 l1) from by rw [cmp_anti (sval p1 l1), ← HXYZ.out.1] <;> rfl]; exact cmp_any _ _ _ _ _ _ _ _ _ _ w' (HL.out.2.1.keep0 (HX.out.k.trans K')) (HL.out.1.keep0 (HX.out.k.trans K'))))
    have CAA := Lib.hid (fun (w' : World) (K' : Keep (fun _ => False) w7 w') => (show Calls Tryd.prog 43 #[numArg p1 A1 n1 c1, numArg p1 A1 n1 c1] w' (IntPost 0 w') from by rw [show (0 : Int) = cmpI (sval p1 l1) (sval p1 l1) from (cmp_self _).symm]; exact cmp_any _ _ _ _ _ _ _ _ _ _ w' (HL.out.1.keep0 (HX.out.k.trans K')) (HL.out.1.keep0 (HX.out.k.trans K'))))
    have HSUB := Lib.hid (fun (w' : World) (K' : Keep (fun _ => False) w7 w') => sub_any p1 A1 n1 c1 l1 p2 A2 n2 c2 l2 w' (HL.out.1.keep0 (HX.out.k.trans K')) (HL.out.2.1.keep0 (HX.out.k.trans K')) (by omega) (by omega))
    have HSG := Lib.hid (show signI (sval p1 l1 - sval p2 l2) = 0 from by rw [sign_cmp, ← HXYZ.out.1])
    rcases hy3 with h | h | h
    · subst h
      obtain rfl : z = -1 := by
        have h1 := cmp_tr (a := sval p1 l1) (b := sval p2 l2) (c := sval p3 l3) (by rw [← HXYZ.out.1]; decide) (by rw [← HXYZ.out.2.1]; decide)
        rw [← HXYZ.out.1, ← HXYZ.out.2.1] at h1
        rw [HXYZ.out.2.2, h1]; rfl
      clear HXYZ
      obtain ⟨t0, t1, tl⟩ := HX.out.cells (.head _)
      obtain ⟨s0, s1, sl⟩ := HX.out.cells (.tail _ (.head _))
      obtain ⟨r0, r1, rl⟩ := HX.out.cells (.tail _ (.tail _ (.head _)))
      try dsimp only
      go_wp2_with fail
      refine (CBA.out _ (Keep.refl _ _)).mono ?_
      rintro e w8 ⟨rfl, k8⟩
      clear t0 t1 tl s0 s1 sl r0 r1 rl
      have HX1 := Lib.hid (HX.out.keep k8)
      clear HX
      have HX := Lib.hid HX1.out
      clear HX1
      obtain ⟨t0, t1, tl⟩ := HX.out.cells (.head _)
      obtain ⟨s0, s1, sl⟩ := HX.out.cells (.tail _ (.head _))
      obtain ⟨r0, r1, rl⟩ := HX.out.cells (.tail _ (.tail _ (.head _)))
      try dsimp only
      go_wp2_with fail
      refine (CAA.out _ k8).mono ?_
      rintro e w9 ⟨rfl, k9⟩
      have K9 := k8.trans k9
      clear t0 t1 tl s0 s1 sl r0 r1 rl
      have HX1 := Lib.hid (HX.out.keep k9)
      clear HX
      have HX := Lib.hid HX1.out
      clear HX1
      obtain ⟨t0, t1, tl⟩ := HX.out.cells (.head _)
      obtain ⟨s0, s1, sl⟩ := HX.out.cells (.tail _ (.head _))
      obtain ⟨r0, r1, rl⟩ := HX.out.cells (.tail _ (.tail _ (.head _)))
      clear k8 k9
      try dsimp only
      go_wp2_with fail
      refine (HSUB.out _ K9).mono ?_
      intro e w10 hres
      obtain ⟨k10, hres⟩ := hres.two
      clear t0 t1 tl s0 s1 sl r0 r1 rl
      have HX1 := Lib.hid (HX.out.keep k10)
      clear HX
      have HX := Lib.hid HX1.out
      clear HX1
      clear K9 k10
      rcases hres with ⟨_, rfl⟩ | ⟨_, q, A, n, c, hqd, rfl, LM, _, hsv⟩
      · skip
        obtain ⟨t0, t1, tl⟩ := HX.out.cells (.head _)
        obtain ⟨s0, s1, sl⟩ := HX.out.cells (.tail _ (.head _))
        obtain ⟨r0, r1, rl⟩ := HX.out.cells (.tail _ (.tail _ (.head _)))
        try dsimp only
        go_wp2_with fail
        clear t0 t1 tl s0 s1 sl r0 r1 rl
        have HX1 := Lib.hid (HX.out.box (.bool false) (.slice none 0 0))
        clear HX
        have HX := Lib.hid HX1.out
        clear HX1
        refine (awake_any _ (HT.out.keep HX.out.k)).mono ?_
        rintro e wz ⟨rfl, kz⟩
        have HZ := Lib.hid (HX.out.k.trans kz)
        clear kz
        try dsimp only
        go_wp2_with fail
        go_ret
        exact ⟨rfl, HZ.out⟩
      · skip
        have HX1 := Lib.hid (HX.out.num LM)
        clear HX LM
        have HX := Lib.hid HX1.out
        clear HX1
        obtain ⟨t0, t1, tl⟩ := HX.out.cells (.head _)
        obtain ⟨s0, s1, sl⟩ := HX.out.cells (.tail _ (.head _))
        obtain ⟨r0, r1, rl⟩ := HX.out.cells (.tail _ (.tail _ (.head _)))
        have HSV := Lib.hid hsv
        clear hsv
        try dsimp only
        go_wp2_with fail
        clear t0 t1 tl s0 s1 sl r0 r1 rl
        have HX1 := Lib.hid (HX.out.box (.bool q) (.slice A n c))
        clear HX
        have HX := Lib.hid HX1.out
        clear HX1
        refine (sign_any q A n c _ _ (HX.out.m _ (.head _))).mono ?_
        rintro e w11 ⟨rfl, k11⟩
        rw [HSV.out, HSG.out]
        have HX1 := Lib.hid (HX.out.keep k11)
        clear HX k11
        have HX := Lib.hid HX1.out
        clear HX1
        try dsimp only
        go_wp2_with fail
        refine (awake_any _ (HT.out.keep HX.out.k)).mono ?_
        rintro e wz ⟨rfl, kz⟩
        have HZ := Lib.hid (HX.out.k.trans kz)
        clear kz
        try dsimp only
        go_wp2_with fail
        go_ret
        exact ⟨rfl, HZ.out⟩
    · subst h
      obtain rfl : z = 0 := by
        have h1 := cmp_tr (a := sval p1 l1) (b := sval p2 l2) (c := sval p3 l3) (by rw [← HXYZ.out.1]; decide) (by rw [← HXYZ.out.2.1]; decide)
        rw [← HXYZ.out.1, ← HXYZ.out.2.1] at h1
        rw [HXYZ.out.2.2, h1]; rfl
      clear HXYZ
      obtain ⟨t0, t1, tl⟩ := HX.out.cells (.head _)
      obtain ⟨s0, s1, sl⟩ := HX.out.cells (.tail _ (.head _))
      obtain ⟨r0, r1, rl⟩ := HX.out.cells (.tail _ (.tail _ (.head _)))
      try dsimp only
      go_wp2_with fail
      refine (CBA.out _ (Keep.refl _ _)).mono ?_
      rintro e w8 ⟨rfl, k8⟩
      clear t0 t1 tl s0 s1 sl r0 r1 rl
      have HX1 := Lib.hid (HX.out.keep k8)
      clear HX
      have HX := Lib.hid HX1.out
      clear HX1
      obtain ⟨t0, t1, tl⟩ := HX.out.cells (.head _)
      obtain ⟨s0, s1, sl⟩ := HX.out.cells (.tail _ (.head _))
      obtain ⟨r0, r1, rl⟩ := HX.out.cells (.tail _ (.tail _ (.head _)))
      try dsimp only
      go_wp2_with fail
      refine (CAA.out _ k8).mono ?_
      rintro e w9 ⟨rfl, k9⟩
      have K9 := k8.trans k9
      clear t0 t1 tl s0 s1 sl r0 r1 rl
      have HX1 := Lib.hid (HX.out.keep k9)
      clear HX
      have HX := Lib.hid HX1.out
      clear HX1
      obtain ⟨t0, t1, tl⟩ := HX.out.cells (.head _)
      obtain ⟨s0, s1, sl⟩ := HX.out.cells (.tail _ (.head _))
      obtain ⟨r0, r1, rl⟩ := HX.out.cells (.tail _ (.tail _ (.head _)))
      clear k8 k9
      try dsimp only
      go_wp2_with fail
      refine (HSUB.out _ K9).mono ?_
      intro e w10 hres
      obtain ⟨k10, hres⟩ := hres.two
      clear t0 t1 tl s0 s1 sl r0 r1 rl
      have HX1 := Lib.hid (HX.out.keep k10)
      clear HX
      have HX := Lib.hid HX1.out
      clear HX1
      clear K9 k10
      rcases hres with ⟨_, rfl⟩ | ⟨_, q, A, n, c, hqd, rfl, LM, _, hsv⟩
      · skip
        obtain ⟨t0, t1, tl⟩ := HX.out.cells (.head _)
        obtain ⟨s0, s1, sl⟩ := HX.out.cells (.tail _ (.head _))
        obtain ⟨r0, r1, rl⟩ := HX.out.cells (.tail _ (.tail _ (.head _)))
        try dsimp only
        go_wp2_with fail
        clear t0 t1 tl s0 s1 sl r0 r1 rl
        have HX1 := Lib.hid (HX.out.box (.bool false) (.slice none 0 0))
        clear HX
        have HX := Lib.hid HX1.out
        clear HX1
        refine (awake_any _ (HT.out.keep HX.out.k)).mono ?_
        rintro e wz ⟨rfl, kz⟩
        have HZ := Lib.hid (HX.out.k.trans kz)
        clear kz
        try dsimp only
        go_wp2_with fail
        go_ret
        exact ⟨rfl, HZ.out⟩
      · skip
        have HX1 := Lib.hid (HX.out.num LM)
        clear HX LM
        have HX := Lib.hid HX1.out
        clear HX1
        obtain ⟨t0, t1, tl⟩ := HX.out.cells (.head _)
        obtain ⟨s0, s1, sl⟩ := HX.out.cells (.tail _ (.head _))
        obtain ⟨r0, r1, rl⟩ := HX.out.cells (.tail _ (.tail _ (.head _)))
        have HSV := Lib.hid hsv
        clear hsv
        try dsimp only
        go_wp2_with fail
        clear t0 t1 tl s0 s1 sl r0 r1 rl
        have HX1 := Lib.hid (HX.out.box (.bool q) (.slice A n c))
        clear HX
        have HX := Lib.hid HX1.out
        clear HX1
        refine (sign_any q A n c _ _ (HX.out.m _ (.head _))).mono ?_
        rintro e w11 ⟨rfl, k11⟩
        rw [HSV.out, HSG.out]
        have HX1 := Lib.hid (HX.out.keep k11)
        clear HX k11
        have HX := Lib.hid HX1.out
        clear HX1
        try dsimp only
        go_wp2_with fail
        refine (awake_any _ (HT.out.keep HX.out.k)).mono ?_
        rintro e wz ⟨rfl, kz⟩
        have HZ := Lib.hid (HX.out.k.trans kz)
        clear kz
        try dsimp only
        go_wp2_with fail
        go_ret
        exact ⟨rfl, HZ.out⟩
    · subst h
      clear HXYZ
      obtain ⟨t0, t1, tl⟩ := HX.out.cells (.head _)
      obtain ⟨s0, s1, sl⟩ := HX.out.cells (.tail _ (.head _))
      obtain ⟨r0, r1, rl⟩ := HX.out.cells (.tail _ (.tail _ (.head _)))
      try dsimp only
      go_wp2_with fail
      refine (CBA.out _ (Keep.refl _ _)).mono ?_
      rintro e w8 ⟨rfl, k8⟩
      clear t0 t1 tl s0 s1 sl r0 r1 rl
      have HX1 := Lib.hid (HX.out.keep k8)
      clear HX
      have HX := Lib.hid HX1.out
      clear HX1
      obtain ⟨t0, t1, tl⟩ := HX.out.cells (.head _)
      obtain ⟨s0, s1, sl⟩ := HX.out.cells (.tail _ (.head _))
      obtain ⟨r0, r1, rl⟩ := HX.out.cells (.tail _ (.tail _ (.head _)))
      try dsimp only
      go_wp2_with fail
      refine (CAA.out _ k8).mono ?_
      rintro e w9 ⟨rfl, k9⟩
      have K9 := k8.trans k9
      clear t0 t1 tl s0 s1 sl r0 r1 rl
      have HX1 := Lib.hid (HX.out.keep k9)
      clear HX
      have HX := Lib.hid HX1.out
      clear HX1
      obtain ⟨t0, t1, tl⟩ := HX.out.cells (.head _)
      obtain ⟨s0, s1, sl⟩ := HX.out.cells (.tail _ (.head _))
      obtain ⟨r0, r1, rl⟩ := HX.out.cells (.tail _ (.tail _ (.head _)))
      clear k8 k9
      try dsimp only
      go_wp2_with fail
      refine (HSUB.out _ K9).mono ?_
      intro e w10 hres
      obtain ⟨k10, hres⟩ := hres.two
      clear t0 t1 tl s0 s1 sl r0 r1 rl
      have HX1 := Lib.hid (HX.out.keep k10)
      clear HX
      have HX := Lib.hid HX1.out
      clear HX1
      clear K9 k10
      rcases hres with ⟨_, rfl⟩ | ⟨_, q, A, n, c, hqd, rfl, LM, _, hsv⟩
      · skip
        obtain ⟨t0, t1, tl⟩ := HX.out.cells (.head _)
        obtain ⟨s0, s1, sl⟩ := HX.out.cells (.tail _ (.head _))
        obtain ⟨r0, r1, rl⟩ := HX.out.cells (.tail _ (.tail _ (.head _)))
        try dsimp only
        go_wp2_with fail
        clear t0 t1 tl s0 s1 sl r0 r1 rl
        have HX1 := Lib.hid (HX.out.box (.bool false) (.slice none 0 0))
        clear HX
        have HX := Lib.hid HX1.out
        clear HX1
        refine (awake_any _ (HT.out.keep HX.out.k)).mono ?_
        rintro e wz ⟨rfl, kz⟩
        have HZ := Lib.hid (HX.out.k.trans kz)
        clear kz
        try dsimp only
        go_wp2_with fail
        go_ret
        exact ⟨rfl, HZ.out⟩
      · skip
        have HX1 := Lib.hid (HX.out.num LM)
        clear HX LM
        have HX := Lib.hid HX1.out
        clear HX1
        obtain ⟨t0, t1, tl⟩ := HX.out.cells (.head _)
        obtain ⟨s0, s1, sl⟩ := HX.out.cells (.tail _ (.head _))
        obtain ⟨r0, r1, rl⟩ := HX.out.cells (.tail _ (.tail _ (.head _)))
        have HSV := Lib.hid hsv
        clear hsv
        try dsimp only
        go_wp2_with fail
        clear t0 t1 tl s0 s1 sl r0 r1 rl
        have HX1 := Lib.hid (HX.out.box (.bool q) (.slice A n c))
        clear HX
        have HX := Lib.hid HX1.out
        clear HX1
        refine (sign_any q A n c _ _ (HX.out.m _ (.head _))).mono ?_
        rintro e w11 ⟨rfl, k11⟩
        rw [HSV.out, HSG.out]
        have HX1 := Lib.hid (HX.out.keep k11)
        clear HX k11
        have HX := Lib.hid HX1.out
        clear HX1
        try dsimp only
        go_wp2_with fail
        refine (awake_any _ (HT.out.keep HX.out.k)).mono ?_
        rintro e wz ⟨rfl, kz⟩
        have HZ := Lib.hid (HX.out.k.trans kz)
        clear kz
        try dsimp only
        go_wp2_with fail
        go_ret
        exact ⟨rfl, HZ.out⟩
  · subst h
    have CBA := Lib.hid (fun (w' : World) (K' : Keep (fun _ => False) w7 w') => (show Calls Tryd.prog 43 #[numArg p2 A2 n2 c2, numArg p1 A1 n1 c1] w' (IntPost (-1) w') from by rw [show (-1 : Int) = cmpI (sval p2 l2) (sval p1 l1) from by rw [cmp_anti (sval p1 l1), ← HXYZ.out.1] <;> rfl]; exact cmp_any _ _ _ _ _ _ _ _ _ _ w' (HL.out.2.1.keep0 (HX.out.k.trans K')) (HL.out.1.keep0 (HX.out.k.trans K'))))
    have CAA := Lib.hid (fun (w' : World) (K' : Keep (fun _ => False) w7 w') => (show Calls Tryd.prog 43 #[numArg p1 A1 n1 c1, numArg p1 A1 n1 c1] w' (IntPost 0 w') from by rw [show (0 : Int) = cmpI (sval p1 l1) (sval p1 l1) from (cmp_self _).symm]; exact cmp_any _ _ _ _ _ _ _ _ _ _ w' (HL.out.1.keep0 (HX.out.k.trans K')) (HL.out.1.keep0 (HX.out.k.trans K'))))
    have HSUB := Lib.hid (fun (w' : World) (K' : Keep (fun _ => False) w7 w') => sub_any p1 A1 n1 c1 l1 p2 A2 n2 c2 l2 w' (HL.out.1.keep0 (HX.out.k.trans K')) (HL.out.2.1.keep0 (HX.out.k.trans K')) (by omega) (by omega))
    have HSG := Lib.hid (show signI (sval p1 l1 - sval p2 l2) = 1 from by rw [sign_cmp, ← HXYZ.out.1])
    clear HXYZ hy3
    obtain ⟨t0, t1, tl⟩ := HX.out.cells (.head _)
    obtain ⟨s0, s1, sl⟩ := HX.out.cells (.tail _ (.head _))
    obtain ⟨r0, r1, rl⟩ := HX.out.cells (.tail _ (.tail _ (.head _)))
    try dsimp only
    go_wp2_with fail
    refine (CBA.out _ (Keep.refl _ _)).mono ?_
    rintro e w8 ⟨rfl, k8⟩
    clear t0 t1 tl s0 s1 sl r0 r1 rl
    have HX1 := Lib.hid (HX.out.keep k8)
    clear HX
    have HX := Lib.hid HX1.out
    clear HX1
    obtain ⟨t0, t1, tl⟩ := HX.out.cells (.head _)
    obtain ⟨s0, s1, sl⟩ := HX.out.cells (.tail _ (.head _))
    obtain ⟨r0, r1, rl⟩ := HX.out.cells (.tail _ (.tail _ (.head _)))
    try dsimp only
    go_wp2_with fail
    refine (CAA.out _ k8).mono ?_
    rintro e w9 ⟨rfl, k9⟩
    have K9 := k8.trans k9
    clear t0 t1 tl s0 s1 sl r0 r1 rl
    have HX1 := Lib.hid (HX.out.keep k9)
    clear HX
    have HX := Lib.hid HX1.out
    clear HX1
    obtain ⟨t0, t1, tl⟩ := HX.out.cells (.head _)
    obtain ⟨s0, s1, sl⟩ := HX.out.cells (.tail _ (.head _))
    obtain ⟨r0, r1, rl⟩ := HX.out.cells (.tail _ (.tail _ (.head _)))
    clear k8 k9
    try dsimp only
    go_wp2_with fail
    refine (HSUB.out _ K9).mono ?_
    intro e w10 hres
    obtain ⟨k10, hres⟩ := hres.two
    clear t0 t1 tl s0 s1 sl r0 r1 rl
    have HX1 := Lib.hid (HX.out.keep k10)
    clear HX
    have HX := Lib.hid HX1.out
    clear HX1
    clear K9 k10
    rcases hres with ⟨_, rfl⟩ | ⟨_, q, A, n, c, hqd, rfl, LM, _, hsv⟩
    · skip
      obtain ⟨t0, t1, tl⟩ := HX.out.cells (.head _)
      obtain ⟨s0, s1, sl⟩ := HX.out.cells (.tail _ (.head _))
      obtain ⟨r0, r1, rl⟩ := HX.out.cells (.tail _ (.tail _ (.head _)))
      try dsimp only
      go_wp2_with fail
      clear t0 t1 tl s0 s1 sl r0 r1 rl
      have HX1 := Lib.hid (HX.out.box (.bool false) (.slice none 0 0))
      clear HX
      have HX := Lib.hid HX1.out
      clear HX1
      refine (awake_any _ (HT.out.keep HX.out.k)).mono ?_
      rintro e wz ⟨rfl, kz⟩
      have HZ := Lib.hid (HX.out.k.trans kz)
      clear kz
      try dsimp only
      go_wp2_with fail
      go_ret
      exact ⟨rfl, HZ.out⟩
    · skip
      have HX1 := Lib.hid (HX.out.num LM)
      clear HX LM
      have HX := Lib.hid HX1.out
      clear HX1
      obtain ⟨t0, t1, tl⟩ := HX.out.cells (.head _)
      obtain ⟨s0, s1, sl⟩ := HX.out.cells (.tail _ (.head _))
      obtain ⟨r0, r1, rl⟩ := HX.out.cells (.tail _ (.tail _ (.head _)))
      have HSV := Lib.hid hsv
      clear hsv
      try dsimp only
      go_wp2_with fail
      clear t0 t1 tl s0 s1 sl r0 r1 rl
      have HX1 := Lib.hid (HX.out.box (.bool q) (.slice A n c))
      clear HX
      have HX := Lib.hid HX1.out
      clear HX1
      refine (sign_any q A n c _ _ (HX.out.m _ (.head _))).mono ?_
      rintro e w11 ⟨rfl, k11⟩
      rw [HSV.out, HSG.out]
      have HX1 := Lib.hid (HX.out.keep k11)
      clear HX k11
      have HX := Lib.hid HX1.out
      clear HX1
      try dsimp only
      go_wp2_with fail
      refine (awake_any _ (HT.out.keep HX.out.k)).mono ?_
      rintro e wz ⟨rfl, kz⟩
      have HZ := Lib.hid (HX.out.k.trans kz)
      clear kz
      try dsimp only
      go_wp2_with fail
      go_ret
      exact ⟨rfl, HZ.out⟩
end Go.Proofs.YtdfekphahdmffaaDoor
