/-
  num.May and the document's May: whether any number may be.
-/
import Derived.Test.YtdfekphahdmffaaDoorLawEnd
namespace Go.Proofs.YtdfekphahdmffaaDoor
open Go.RowKit


theorem keep_eq {w w' : World} (h : w = w') : Keep (fun _ => False) w w' := h ▸ Keep.refl _ _
/-- May a number be? -/
def mayB (p : Bool) (l : List Nat) : Bool := decide (Fits (sval p l) ∧ p = decide (sval p l < 0) ∧ l = limbs (lval l))
theorem tight_iff {l : List Nat} (low : Low BB l) : tlen l = l.length ↔ l = limbs (lval l) := by
  constructor
  · intro h
    have := take_tlen low
    rw [h, List.take_of_length_le (Nat.le_refl _)] at this
    exact this
  · intro h
    unfold tlen
    rw [← h]
theorem may_eq {p : Bool} {l : List Nat} {n : Nat} (low : Low BB l) (hl : l.length = n) : mayB p l = (decide (n ≤ 48) && (decide (tlen l = n) && (!p || decide (0 < n)))) := by
  subst hl
  have h1 := tight_iff low
  unfold mayB
  by_cases ht : l = limbs (lval l)
  · have h2 := h1.2 ht
    have hf : Fits (sval p l) ↔ l.length ≤ 48 := by
      unfold Fits
      rw [sval_abs, ← ht]
    have hp : (p = decide (sval p l < 0)) ↔ ((!p || decide (0 < l.length)) = true) := by
      have hv : 0 < lval l ↔ 0 < l.length := by
        have := tlen_pos l
        rw [h2] at this
        exact this.symm
      unfold sval
      cases p
      · simp
      · simp
        omega
    rw [decide_eq_true h2]
    have e : (Fits (sval p l) ∧ p = decide (sval p l < 0) ∧ l = limbs (lval l)) ↔ (l.length ≤ 48 ∧ (!p || decide (0 < l.length)) = true) := by
      rw [hf, hp]
      exact ⟨fun h => ⟨h.1, h.2.1⟩, fun h => ⟨h.1, h.2, ht⟩⟩
    rw [decide_eq_decide.2 e, Bool.decide_and]
    simp
  · have h2 : ¬ tlen l = l.length := fun h => ht (h1.1 h)
    rw [decide_eq_false (fun h => ht h.2.2), decide_eq_false h2]
    simp
set_option maxRecDepth 100000 in
set_option maxHeartbeats 4000000 in
theorem may_A (p1 : Bool) (A1 : Option Addr) (n1 c1 : Nat) (l1 : List Nat) (w : World) (L1 : LimbsAt w A1 n1 c1 l1) (hn : ¬ n1 ≤ 48) :
    Calls Tryd.prog 48 #[numArg p1 A1 n1 c1] w (BoolPost false w) := by
  have t1 : decide ((n1 : Int) ≤ 48) = false := decide_eq_false (by omega)
  have t2 : decide (n1 ≤ 48) = false := decide_eq_false hn
  have HL := Lib.hid L1
  clear L1
  clear hn
  have X0 := env1 w (.bool p1) (.slice A1 n1 c1)
  go_enter Tryd.func48, Tryd.ntmps48
  go_wp2_with fail
  generalize w.heap.size = B0 at X0 ⊢
  generalize w.alloc (.cells #[.bool p1, .slice A1 n1 c1] 25) = w2 at X0 ⊢
  have HX := Lib.hid X0
  clear X0
  have HTR := Lib.hid (fun (k : Nat) => (show Calls Tryd.prog 54 #[.slice A1 n1 c1] (w2.drewN k) (fun e w9 => e = .returned (.slice A1 (tlen l1) c1) ∧ w9 = w2.drewN k) from (trim_any A1 n1 c1 l1 (w2.drewN k) (HL.out.keep0 (HX.out.k.trans ((Keep.refl _ _).drewN k)))).mono fun _ _ ⟨he, hw⟩ => ⟨he, hw.symm⟩))
  have HK := Lib.hid HX.out.k
  obtain ⟨r0, r1, rl⟩ := HX.out.cells (.head _)
  go_wp2_with fail
  go_quiet ((go_at_call 54; with_reducible exact Calls.quiet_of_same (HTR.out _)))
  go_wp2_with fail
  go_ret
  exact ⟨rfl, HK.out.drewN _⟩
set_option maxRecDepth 100000 in
set_option maxHeartbeats 4000000 in
theorem may_B (p1 : Bool) (A1 : Option Addr) (n1 c1 : Nat) (l1 : List Nat) (w : World) (L1 : LimbsAt w A1 n1 c1 l1) (hn : n1 ≤ 48) (ht : ¬ tlen l1 = n1) :
    Calls Tryd.prog 48 #[numArg p1 A1 n1 c1] w (BoolPost false w) := by
  obtain ⟨m, hm⟩ : ∃ m, m = tlen l1 := ⟨_, rfl⟩
  rw [← hm] at ht
  have HM := Lib.hid hm
  clear hm
  have t1 : (n1 : Int) ≤ 48 := by omega
  have t3 : ((m : Int) == (n1 : Int)) = false := by rw [beq_eq_false_iff_ne]; omega
  have t4 : decide (m = n1) = false := decide_eq_false ht
  have HL := Lib.hid L1
  clear L1
  clear hn ht
  have X0 := env1 w (.bool p1) (.slice A1 n1 c1)
  go_enter Tryd.func48, Tryd.ntmps48
  go_wp2_with fail
  generalize w.heap.size = B0 at X0 ⊢
  generalize w.alloc (.cells #[.bool p1, .slice A1 n1 c1] 25) = w2 at X0 ⊢
  have HX := Lib.hid X0
  clear X0
  have HTR := Lib.hid (fun (k : Nat) => (show Calls Tryd.prog 54 #[.slice A1 n1 c1] (w2.drewN k) (fun e w9 => e = .returned (.slice A1 m c1) ∧ w9 = w2.drewN k) from (trim_any A1 n1 c1 l1 (w2.drewN k) (HL.out.keep0 (HX.out.k.trans ((Keep.refl _ _).drewN k)))).mono fun _ _ ⟨he, hw⟩ => ⟨by rw [HM.out]; exact he, hw.symm⟩))
  have HK := Lib.hid HX.out.k
  obtain ⟨r0, r1, rl⟩ := HX.out.cells (.head _)
  go_wp2_with fail
  go_quiet ((go_at_call 54; with_reducible exact Calls.quiet_of_same (HTR.out _)))
  go_wp2_with fail
  go_ret
  exact ⟨rfl, HK.out.drewN _⟩
set_option maxRecDepth 100000 in
set_option maxHeartbeats 4000000 in
theorem may_C (p1 : Bool) (A1 : Option Addr) (n1 c1 : Nat) (l1 : List Nat) (w : World) (L1 : LimbsAt w A1 n1 c1 l1) (hn : n1 ≤ 48) (ht : tlen l1 = n1) (hp : p1 = false) :
    Calls Tryd.prog 48 #[numArg p1 A1 n1 c1] w (BoolPost true w) := by
  obtain ⟨m, hm⟩ : ∃ m, m = tlen l1 := ⟨_, rfl⟩
  rw [← hm] at ht
  have HM := Lib.hid hm
  clear hm
  have t1 : (n1 : Int) ≤ 48 := by omega
  subst ht
  subst hp
  have HL := Lib.hid L1
  clear L1
  clear hn
  have X0 := env1 w (.bool false) (.slice A1 m c1)
  go_enter Tryd.func48, Tryd.ntmps48
  go_wp2_with fail
  generalize w.heap.size = B0 at X0 ⊢
  generalize w.alloc (.cells #[.bool false, .slice A1 m c1] 25) = w2 at X0 ⊢
  have HX := Lib.hid X0
  clear X0
  have HTR := Lib.hid (fun (k : Nat) => (show Calls Tryd.prog 54 #[.slice A1 m c1] (w2.drewN k) (fun e w9 => e = .returned (.slice A1 m c1) ∧ w9 = w2.drewN k) from (trim_any A1 m c1 l1 (w2.drewN k) (HL.out.keep0 (HX.out.k.trans ((Keep.refl _ _).drewN k)))).mono fun _ _ ⟨he, hw⟩ => ⟨by rw [HM.out]; exact he, hw.symm⟩))
  have HK := Lib.hid HX.out.k
  obtain ⟨r0, r1, rl⟩ := HX.out.cells (.head _)
  go_wp2_with fail
  go_quiet ((go_at_call 54; with_reducible exact Calls.quiet_of_same (HTR.out _)))
  go_wp2_with fail
  go_ret
  exact ⟨rfl, HK.out.drewN _⟩
set_option maxRecDepth 100000 in
set_option maxHeartbeats 4000000 in
theorem may_D (p1 : Bool) (A1 : Option Addr) (n1 c1 : Nat) (l1 : List Nat) (w : World) (L1 : LimbsAt w A1 n1 c1 l1) (hn : n1 ≤ 48) (ht : tlen l1 = n1) (hp : p1 = true) (h0 : 0 < n1) :
    Calls Tryd.prog 48 #[numArg p1 A1 n1 c1] w (BoolPost true w) := by
  obtain ⟨m, hm⟩ : ∃ m, m = tlen l1 := ⟨_, rfl⟩
  rw [← hm] at ht
  have HM := Lib.hid hm
  clear hm
  have t1 : (n1 : Int) ≤ 48 := by omega
  subst ht
  subst hp
  have t5 : (0 : Int) < (m : Int) := by omega
  have t6 : decide (0 < m) = true := decide_eq_true h0
  have HL := Lib.hid L1
  clear L1
  clear hn h0
  have X0 := env1 w (.bool true) (.slice A1 m c1)
  go_enter Tryd.func48, Tryd.ntmps48
  go_wp2_with fail
  generalize w.heap.size = B0 at X0 ⊢
  generalize w.alloc (.cells #[.bool true, .slice A1 m c1] 25) = w2 at X0 ⊢
  have HX := Lib.hid X0
  clear X0
  have HTR := Lib.hid (fun (k : Nat) => (show Calls Tryd.prog 54 #[.slice A1 m c1] (w2.drewN k) (fun e w9 => e = .returned (.slice A1 m c1) ∧ w9 = w2.drewN k) from (trim_any A1 m c1 l1 (w2.drewN k) (HL.out.keep0 (HX.out.k.trans ((Keep.refl _ _).drewN k)))).mono fun _ _ ⟨he, hw⟩ => ⟨by rw [HM.out]; exact he, hw.symm⟩))
  have HK := Lib.hid HX.out.k
  obtain ⟨r0, r1, rl⟩ := HX.out.cells (.head _)
  go_wp2_with fail
  go_quiet ((go_at_call 54; with_reducible exact Calls.quiet_of_same (HTR.out _)))
  go_wp2_with fail
  go_ret
  exact ⟨rfl, HK.out.drewN _⟩
set_option maxRecDepth 100000 in
set_option maxHeartbeats 4000000 in
theorem may_E (p1 : Bool) (A1 : Option Addr) (n1 c1 : Nat) (l1 : List Nat) (w : World) (L1 : LimbsAt w A1 n1 c1 l1) (hn : n1 ≤ 48) (ht : tlen l1 = n1) (hp : p1 = true) (h0 : ¬ 0 < n1) :
    Calls Tryd.prog 48 #[numArg p1 A1 n1 c1] w (BoolPost false w) := by
  obtain ⟨m, hm⟩ : ∃ m, m = tlen l1 := ⟨_, rfl⟩
  rw [← hm] at ht
  have HM := Lib.hid hm
  clear hm
  have t1 : (n1 : Int) ≤ 48 := by omega
  subst ht
  subst hp
  have t5 : decide ((0 : Int) < (m : Int)) = false := decide_eq_false (by omega)
  have t6 : decide (0 < m) = false := decide_eq_false h0
  have HL := Lib.hid L1
  clear L1
  clear hn h0
  have X0 := env1 w (.bool true) (.slice A1 m c1)
  go_enter Tryd.func48, Tryd.ntmps48
  go_wp2_with fail
  generalize w.heap.size = B0 at X0 ⊢
  generalize w.alloc (.cells #[.bool true, .slice A1 m c1] 25) = w2 at X0 ⊢
  have HX := Lib.hid X0
  clear X0
  have HTR := Lib.hid (fun (k : Nat) => (show Calls Tryd.prog 54 #[.slice A1 m c1] (w2.drewN k) (fun e w9 => e = .returned (.slice A1 m c1) ∧ w9 = w2.drewN k) from (trim_any A1 m c1 l1 (w2.drewN k) (HL.out.keep0 (HX.out.k.trans ((Keep.refl _ _).drewN k)))).mono fun _ _ ⟨he, hw⟩ => ⟨by rw [HM.out]; exact he, hw.symm⟩))
  have HK := Lib.hid HX.out.k
  obtain ⟨r0, r1, rl⟩ := HX.out.cells (.head _)
  go_wp2_with fail
  go_quiet ((go_at_call 54; with_reducible exact Calls.quiet_of_same (HTR.out _)))
  go_wp2_with fail
  go_ret
  exact ⟨rfl, HK.out.drewN _⟩
theorem may_any (p : Bool) (A : Option Addr) (n c : Nat) (l : List Nat) (w : World) (h : LimbsAt w A n c l) :
    Calls Tryd.prog 48 #[numArg p A n c] w (BoolPost (mayB p l) w) := by
  rw [may_eq h.low h.len]
  by_cases hn : n ≤ 48
  · by_cases ht : tlen l = n
    · cases hp : p with
      | false => rw [decide_eq_true hn, decide_eq_true ht]; exact may_C _ A n c l w h hn ht rfl
      | true =>
        by_cases h0 : 0 < n
        · rw [decide_eq_true hn, decide_eq_true ht, decide_eq_true h0]; exact may_D _ A n c l w h hn ht rfl h0
        · rw [decide_eq_true hn, decide_eq_true ht, decide_eq_false h0]; exact may_E _ A n c l w h hn ht rfl h0
    · rw [decide_eq_true hn, decide_eq_false ht]; exact may_B p A n c l w h hn ht
  · rw [decide_eq_false hn]; exact may_A p A n c l w h hn
theorem may_out {p q : Bool} {l l2 : List Nat} {f : Int} (ho : Out (sval p l) q l2 f) : (f = 0 → sameB q l2 p l = mayB p l) ∧ (f = 6 → mayB p l = false) := by
  unfold mayB sameB
  rcases ho with ⟨hf, rfl, rfl, rfl⟩ | ⟨hf, rfl, rfl, rfl⟩
  · refine ⟨fun _ => decide_eq_decide.2 ?_, (fun h => by cases h)⟩
    rw [sval_abs]
    exact ⟨fun h => ⟨hf, h.1.symm, h.2.symm⟩, fun h => ⟨h.2.1.symm, h.2.2.symm⟩⟩
  · exact ⟨(fun h => by cases h), fun _ => decide_eq_false (fun h => hf h.1)⟩
set_option maxRecDepth 100000 in
set_option maxHeartbeats 4000000 in
theorem rmay_any (p1 : Bool) (A1 : Option Addr) (n1 c1 : Nat) (l1 : List Nat) (w : World) (L1 : LimbsAt w A1 n1 c1 l1) (hm : n1 ≤ 60) :
    Calls Tryd.prog 49 #[numArg p1 A1 n1 c1] w (BoolPost (mayB p1 l1) w) := by
  have HL := Lib.hid L1
  clear L1
  obtain ⟨xa, hxa⟩ : ∃ x, x = sval p1 l1 := ⟨_, rfl⟩
  obtain ⟨z1, hz1⟩ : ∃ z, z = decide (xa < 0) := ⟨_, rfl⟩
  have HV := Lib.hid hxa
  have HZ := Lib.hid hz1
  clear hxa hz1
  obtain ⟨mb, hmb⟩ : ∃ m, m = mayB p1 l1 := ⟨_, rfl⟩
  have HMB := Lib.hid hmb
  rw [← hmb]
  clear hmb
  have X0 := env1 w (.bool p1) (.slice A1 n1 c1)
  go_enter Tryd.func49, Tryd.ntmps49
  go_wp2_with fail
  generalize w.heap.size = B0 at X0 ⊢
  generalize w.alloc (.cells #[.bool p1, .slice A1 n1 c1] 25) = w2 at X0 ⊢
  have HX := Lib.hid (X0.num (HL.out.keep0 X0.k))
  clear X0
  obtain ⟨r0, r1, rl⟩ := HX.out.cells (.head _)
  try dsimp only
  go_wp2_with fail
  clear r0 r1 rl
  refine (val_z HZ.out HV.out (HX.out.m _ (.head _)) hm).mono ?_
  rintro e w3 ⟨A7, n7, c7, rfl, b7, hn7, k3⟩
  have HNM := Lib.hid (show Calls Tryd.prog 52 #[numArg z1 A7 n7 c7] w3 (ResPost xa w3) from by rw [HZ.out]; exact num_any xa A7 n7 c7 w3 b7)
  have HX1 := Lib.hid (HX.out.keep k3)
  clear HX k3
  have HX := Lib.hid HX1.out
  clear HX1
  clear b7
  obtain ⟨r0, r1, rl⟩ := HX.out.cells (.head _)
  try dsimp only
  go_wp2_with fail
  clear r0 r1 rl
  refine HNM.out.mono ?_
  intro e w_x hres
  obtain ⟨k_x, q_x, A_x, n_x, c_x, l_x, f_x, rfl, LM, ln_x, ho⟩ := hres.gen
  rw [HV.out] at ho
  have HO := Lib.hid ho
  clear ho hres HNM
  have HX1 := Lib.hid (HX.out.keep k_x)
  clear HX k_x
  have HX := Lib.hid HX1.out
  clear HX1
  have HX1 := Lib.hid (HX.out.num LM)
  clear HX LM
  have HX := Lib.hid HX1.out
  clear HX1
  rcases HO.out.two with hf | hf
  · have HS := Lib.hid ((may_out HO.out).1 hf)
    subst hf
    obtain ⟨r0, r1, rl⟩ := HX.out.cells (.head _)
    try dsimp only
    go_wp2_with fail
    clear r0 r1 rl
    have HX1 := Lib.hid (HX.out.box (.bool q_x) (.slice A_x n_x c_x))
    clear HX
    have HX := Lib.hid HX1.out
    clear HX1
    refine (same_any q_x A_x n_x c_x l_x p1 A1 n1 c1 l1 _ (HX.out.m _ (.head _)) (HX.out.m _ (.tail _ (.head _)))).mono ?_
    rintro e wi ⟨rfl, ki⟩
    rw [HS.out, ← HMB.out]
    have HX1 := Lib.hid (HX.out.keep ki)
    clear HX ki
    have HX := Lib.hid HX1.out
    clear HX1
    have HZ9 := Lib.hid HX.out.k
    obtain ⟨x0, x1, xl⟩ := HX.out.cells (.head _)
    obtain ⟨r0, r1, rl⟩ := HX.out.cells (.tail _ (.head _))
    try dsimp only
    go_wp2_with fail
    clear x0 x1 xl r0 r1 rl
    go_ret
    exact ⟨rfl, HZ9.out⟩
  · have HS := Lib.hid (HMB.out.trans ((may_out HO.out).2 hf))
    subst hf
    obtain ⟨r0, r1, rl⟩ := HX.out.cells (.head _)
    try dsimp only
    go_wp2_with fail
    clear r0 r1 rl
    have HX1 := Lib.hid (HX.out.box (.bool q_x) (.slice A_x n_x c_x))
    clear HX
    have HX := Lib.hid HX1.out
    clear HX1
    have HZ9 := Lib.hid HX.out.k
    go_ret
    exact ⟨by rw [HS.out]; rfl, HZ9.out⟩
end Go.Proofs.YtdfekphahdmffaaDoor
