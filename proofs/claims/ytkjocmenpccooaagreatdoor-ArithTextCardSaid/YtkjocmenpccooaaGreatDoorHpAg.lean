/-
  arith.Apply, of numbers: comparisons and questions.
-/
import Derived.Test.YtkjocmenpccooaaGreatDoorHpAf
namespace Go.Proofs.YtkjocmenpccooaaGreatDoor
open Go.RowKit

theorem truth_of (t : Bool) : ∃ tw : Int, tw = (if t then 12 else 4) ∧ ∀ w : World, Calls Tryz.prog 34 #[.bool t] w (fun e w' => e = .returned (.int .u64 tw) ∧ w = w') := ⟨_, rfl, fun w => truth_any t w⟩
/-- A truth's word. -/
def TruPost (t : Bool) (w : World) (e : Ending) (w' : World) : Prop :=
  e = .returned (.tuple #[.int .u64 (if t then 12 else 4), .int .i64 0]) ∧ Keep (fun _ => False) w w'
def askB (k x : Int) : Bool := if k = 15 then decide (x = 0) else if k = 16 then decide (0 < x) else if k = 17 then decide (x < 0) else if k = 18 then decide (¬ x % 2 = 0) else decide (x % 2 = 0)
set_option maxRecDepth 100000 in
set_option maxHeartbeats 8000000 in
theorem apply_sign {w : World} {h c s p g : Nat} {S : SpV} (H : HpAt w h c s p g S) (k : Int) (hk : k = 15 ∨ k = 16 ∨ k = 17)
    (A : Option Addr) (cp : Nat) (u : Nat) (hr : RowAt .u64 w A 1 [u]) (x : Int) (hd : DenH S.M u x) (hf : Fits x) :
    Calls Tryz.prog 18 #[.pointer (some ⟨h, 0, none⟩), .int .i64 k, .slice A 1 cp] w (TruPost (askB k x) w) := by
  have HT := Lib.hid (table_any w)
  have HN := Lib.hid (fun (w1 : World) (K : Keep (fun _ => False) w w1) => numbers_any (H.keep0 K) A 1 cp [u] (hr.keep0 K) [x] rfl (fun i hi => by
    obtain rfl : i = 0 := by omega
    exact ⟨hd, hf⟩) (by decide))
  have HSG := Lib.hid (fun (w1 : World) (A : Option Addr) (n c : Nat) (L : LimbsAt w1 A n c (limbs x.natAbs)) => (show Calls Tryz.prog 38 #[numArg (decide (x < 0)) A n c] w1 (IntPost (signI x) w1) from by have := sign_any (decide (x < 0)) A n c _ w1 L; rwa [sval_limbs] at this))
  obtain ⟨t, ht⟩ : ∃ t, t = askB k x := ⟨_, rfl⟩
  obtain ⟨sg, hsg⟩ : ∃ sg, sg = signI x := ⟨_, rfl⟩
  rw [← hsg] at HSG
  rw [← ht]
  have h3 : sg = -1 ∧ x < 0 ∨ sg = 0 ∧ x = 0 ∨ sg = 1 ∧ 0 < x := by
    rw [hsg]
    unfold signI
    split
    · exact .inl ⟨rfl, by omega⟩
    · split
      · exact .inr (.inr ⟨rfl, by omega⟩)
      · exact .inr (.inl ⟨rfl, by omega⟩)
  obtain ⟨q, hq⟩ : ∃ q, q = decide (x < 0) := ⟨_, rfl⟩
  rw [← hq] at HSG
  have HQ := Lib.hid hq
  have h4 : sg = -1 ∧ t = askB k (-1) ∨ sg = 0 ∧ t = askB k 0 ∨ sg = 1 ∧ t = askB k 1 := by
    rcases h3 with ⟨a, b⟩ | ⟨a, b⟩ | ⟨a, b⟩
    · refine .inl ⟨a, ?_⟩
      rw [ht]
      rcases hk with rfl | rfl | rfl
      · show decide (x = 0) = decide ((-1 : Int) = 0); rw [decide_eq_false (by omega)]; rfl
      · show decide (0 < x) = decide ((0 : Int) < -1); rw [decide_eq_false (by omega)]; rfl
      · show decide (x < 0) = decide ((-1 : Int) < 0); rw [decide_eq_true b]; rfl
    · refine .inr (.inl ⟨a, ?_⟩)
      rw [ht, b]
    · refine .inr (.inr ⟨a, ?_⟩)
      rw [ht]
      rcases hk with rfl | rfl | rfl
      · show decide (x = 0) = decide ((1 : Int) = 0); rw [decide_eq_false (by omega)]; rfl
      · show decide (0 < x) = decide ((0 : Int) < 1); rw [decide_eq_true b]; rfl
      · show decide (x < 0) = decide ((1 : Int) < 0); rw [decide_eq_false (by omega)]; rfl
  obtain ⟨tw, htw, htr⟩ := truth_of t
  have HTW := Lib.hid htw
  have HTR := Lib.hid htr
  clear H hr hd hf hsg h3 ht hq htw htr
  rcases hk with rfl | rfl | rfl
  all_goals
    go_enter Tryz.func18, Tryz.ntmps18
    go_wp2_with fail
    refine HT.out.mono ?_
    rintro e w1 ⟨rfl, k1⟩
    have HK1 := Lib.hid k1
    have ix15 := tab_ix15
    have ix16 := tab_ix16
    have ix17 := tab_ix17
    generalize tabC = T at ix15 ix16 ix17 ⊢
    clear k1
    go_wp2_with fail
    refine (HN.out _ (HK1.out.alloc _)).mono ?_
    rintro e w2 ⟨A2, c2, rfl, nr, hle, k2⟩
    have HK2 := Lib.hid ((HK1.out.alloc _).trans k2)
    obtain ⟨b, off, A3, n3, c3, rfl, hbl, d0, d1, hl, _⟩ := nr.one
    rw [← HQ.out] at d0
    have HY := Lib.hid (HSG.out w2 A3 n3 c3 hl)
    clear nr hle k2 hl hbl
    go_wp2_with fail
    refine HY.out.mono ?_
    rintro e w3 ⟨rfl, k3⟩
    have HK3 := Lib.hid (HK2.out.trans k3)
    clear k3 d0 d1
    rcases h4 with ⟨rfl, ht⟩ | ⟨rfl, ht⟩ | ⟨rfl, ht⟩
    all_goals
      have HR3 := Lib.hid (show Calls Tryz.prog 34 #[.bool _] w3 _ from by have := HTR.out w3; rw [ht] at this; exact this)
      clear ht
      go_wp2_with fail
      refine HR3.out.mono ?_
      rintro e w4 ⟨rfl, rfl⟩
      go_wp2_with fail
      go_ret2
      exact ⟨by rw [HTW.out]; rfl, HK3.out⟩
end Go.Proofs.YtkjocmenpccooaaGreatDoor
