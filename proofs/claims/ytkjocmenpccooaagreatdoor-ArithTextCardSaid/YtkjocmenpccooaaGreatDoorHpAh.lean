/-
  arith.Apply: odd, even; an argument that is no number.
-/
import Derived.Test.YtkjocmenpccooaaGreatDoorHpAg
namespace Go.Proofs.YtkjocmenpccooaaGreatDoor
open Go.RowKit

set_option maxRecDepth 100000 in
set_option maxHeartbeats 8000000 in
theorem apply_half {w : World} {h c s p g : Nat} {S : SpV} (H : HpAt w h c s p g S) (k : Int) (hk : k = 18 ∨ k = 19)
    (A : Option Addr) (cp : Nat) (u : Nat) (hr : RowAt .u64 w A 1 [u]) (x : Int) (hd : DenH S.M u x) (hf : Fits x) :
    Calls Tryz.prog 18 #[.pointer (some ⟨h, 0, none⟩), .int .i64 k, .slice A 1 cp] w (TruPost (askB k x) w) := by
  have HT := Lib.hid (table_any w)
  have HN := Lib.hid (fun (w1 : World) (K : Keep (fun _ => False) w w1) => numbers_any (H.keep0 K) A 1 cp [u] (hr.keep0 K) [x] rfl (fun i hi => by
    obtain rfl : i = 0 := by omega
    exact ⟨hd, hf⟩) (by decide))
  obtain ⟨t, ht⟩ : ∃ t, t = askB k x := ⟨_, rfl⟩
  obtain ⟨ev, hev⟩ : ∃ ev, ev = decide (x % 2 = 0) := ⟨_, rfl⟩
  have HSG := Lib.hid (fun (w1 : World) (A : Option Addr) (n c : Nat) (L : LimbsAt w1 A n c (limbs x.natAbs)) => half_any (decide (x < 0)) A n c x w1 L ev hev)
  rw [← ht]
  obtain ⟨q, hq⟩ : ∃ q, q = decide (x < 0) := ⟨_, rfl⟩
  rw [← hq] at HSG
  have HQ := Lib.hid hq
  have h4 : ev = true ∧ t = (ev == (k == 19)) ∨ ev = false ∧ t = (ev == (k == 19)) := by
    have : t = (ev == (k == 19)) := by
      rw [ht, hev]
      rcases hk with rfl | rfl
      · show decide (¬ x % 2 = 0) = (decide (x % 2 = 0) == false)
        by_cases hx : x % 2 = 0
        · rw [decide_eq_true hx, decide_eq_false (fun h => h hx)]; rfl
        · rw [decide_eq_false hx, decide_eq_true hx]; rfl
      · show decide (x % 2 = 0) = (decide (x % 2 = 0) == true)
        cases decide (x % 2 = 0) <;> rfl
    cases ev
    · exact .inr ⟨rfl, this⟩
    · exact .inl ⟨rfl, this⟩
  obtain ⟨tw, htw, htr⟩ := truth_of t
  have HTW := Lib.hid htw
  have HTR := Lib.hid htr
  clear H hr hd hf ht hq htw htr hev
  rcases hk with rfl | rfl
  all_goals
    go_enter Tryz.func18, Tryz.ntmps18
    go_wp2_with fail
    refine HT.out.mono ?_
    rintro e w1 ⟨rfl, k1⟩
    have HK1 := Lib.hid k1
    have ix18 := tab_ix18
    have ix19 := tab_ix19
    generalize tabC = T at ix18 ix19 ⊢
    clear k1
    go_wp2_with fail
    refine (HN.out _ (HK1.out.alloc _)).mono ?_
    rintro e w2 ⟨A2, c2, rfl, nr, hle, k2⟩
    have HK2 := Lib.hid ((HK1.out.alloc _).trans k2)
    obtain ⟨b, off, A3, n3, c3, rfl, hbl, d0, d1, hl, _⟩ := nr.one
    rw [← HQ.out] at d0
    have HY := Lib.hid (HSG.out w2 A3 n3 c3 hl)
    clear nr hle k2 hl hbl
    go_wp2_with fail
    refine HY.out.mono ?_
    rintro e w3 ⟨rfl, k3⟩
    have HK3 := Lib.hid (HK2.out.trans k3)
    clear k3 d0 d1
    rcases h4 with ⟨rfl, ht⟩ | ⟨rfl, ht⟩
    all_goals
      have HR3 := Lib.hid (show Calls Tryz.prog 34 #[.bool _] w3 _ from by have := HTR.out w3; rw [ht] at this; exact this)
      clear ht
      go_wp2_with fail
      refine HR3.out.mono ?_
      rintro e w4 ⟨rfl, rfl⟩
      go_wp2_with fail
      go_ret2
      exact ⟨by rw [HTW.out]; rfl, HK3.out⟩
/-- One and the empty list, divided: no numbers. -/
theorem apply_bad {w : World} {h c s p g : Nat} {S : SpV} (H : HpAt w h c s p g S) (A : Option Addr) (cp : Nat) (us : List Nat) (hr : RowAt .u64 w A 2 us) (x : Int) (hd : DenH S.M (us.getD 0 0) x) (hf : Fits x) (hbad : ∀ w2, Keep (fun _ => False) w w2 → Calls Tryz.prog 33 #[.pointer (some ⟨h, 0, none⟩), .int .u64 ((us.getD 1 0 : Nat) : Int)] w2 (fun e w' => e = .returned (.tuple #[numArg false none 0 0, .int .i64 3]) ∧ Keep (fun _ => False) w2 w')) :
    Calls Tryz.prog 18 #[.pointer (some ⟨h, 0, none⟩), .int .i64 4, .slice A 2 cp] w (fun e w' => e = .returned (.tuple #[.int .u64 0, .int .i64 3]) ∧ Keep (fun _ => False) w w') := by
  have HT := Lib.hid (table_any w)
  have HN := Lib.hid (fun (w1 : World) (K : Keep (fun _ => False) w w1) => numbers_bad (H.keep0 K) A 2 cp us (hr.keep0 K) [x] 1 rfl (by decide) (fun i hi => by
    obtain rfl : i = 0 := by omega
    exact ⟨hd, hf⟩) (by decide) (fun w2 k2 => hbad w2 (K.trans k2)))
  clear H hr hd hf hbad
  go_enter Tryz.func18, Tryz.ntmps18
  go_wp2_with fail
  refine HT.out.mono ?_
  rintro e w1 ⟨rfl, k1⟩
  have HK1 := Lib.hid k1
  have ix4 := tab_ix4
  generalize tabC = T at ix4 ⊢
  clear k1
  go_wp2_with fail
  refine (HN.out _ (HK1.out.alloc _)).mono ?_
  rintro e w2 ⟨rfl, k2⟩
  have HK2 := Lib.hid ((HK1.out.alloc _).trans k2)
  clear k2
  go_wp2_with fail
  go_ret2
  exact ⟨rfl, HK2.out⟩
end Go.Proofs.YtkjocmenpccooaaGreatDoor
