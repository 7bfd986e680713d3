/-
  The document's lex: Char, value, hex.
-/
import Derived.Test.YtonnikipeokkaaaGreatDoorRlBase
namespace Go.Proofs.YtonnikipeokkaaaGreatDoor
open Go.RowKit Go.Lib

set_option maxRecDepth 100000 in
set_option maxHeartbeats 2000000 in
theorem rchar_any (n : Nat) (N : Int) (hN : N = (n : Int)) (w : World) : Calls Tryz.prog 75 #[.int .i32 N] w fun e w' => e = .returned (.bool (charB n)) ∧ w = w' := by
  have h0 : decide (0 ≤ N) = true := decide_eq_true (by omega)
  have hc : charB n = (decide (N ≤ 1114111) && (decide (N < 55296) || decide (57343 < N))) := by
    unfold charB
    rw [Bool.eq_iff_iff]
    simp only [decide_eq_true_eq, Bool.and_eq_true, Bool.or_eq_true]
    omega
  rw [hc]
  clear hN hc
  cases h1 : decide (N ≤ 1114111) with
  | false =>
    rw [Bool.false_and]
    go_enter Tryz.func75, Tryz.ntmps75
    go_wp2_with fail
    go_ret
    exact ⟨rfl, rfl⟩
  | true =>
    cases h2 : decide (N < 55296) with
    | true =>
      rw [Bool.true_or, Bool.true_and]
      go_enter Tryz.func75, Tryz.ntmps75
      go_wp2_with fail
      go_ret
      exact ⟨rfl, rfl⟩
    | false =>
      rw [Bool.false_or, Bool.true_and]
      cases h3 : decide (57343 < N) with
      | true =>
        go_enter Tryz.func75, Tryz.ntmps75
        go_wp2_with fail
        go_ret
        exact ⟨rfl, rfl⟩
      | false =>
        go_enter Tryz.func75, Tryz.ntmps75
        go_wp2_with fail
        go_ret
        exact ⟨rfl, rfl⟩
/-- A digit as a number; -1: it is none. -/
def hexI (b : UInt8) : Int := match hexV b with | some v => (v : Int) | none => -1
set_option maxRecDepth 100000 in
set_option maxHeartbeats 2000000 in
theorem rvalue_any (c : UInt8) (w : World) : Calls Tryz.prog 95 #[.int .u8 (c.toNat : Int)] w fun e w' => e = .returned (.int .i64 (hexI c)) ∧ w = w' := by
  by_cases g1 : 48 ≤ c.toNat ∧ c.toNat ≤ 57
  · obtain ⟨v, hv⟩ : ∃ v, c.toNat = 48 + v := ⟨c.toNat - 48, by omega⟩
    have hxv : hexI c = (v : Int) := by unfold hexI hexV; rw [if_pos g1]; simp; omega
    rw [hxv, hv]
    have hv9 : v ≤ 9 := by omega
    clear g1 hv hxv
    go_enter Tryz.func95, Tryz.ntmps95
    go_wp2_with fail
    go_ret
    exact ⟨by simp; omega, rfl⟩
  by_cases g2 : 97 ≤ c.toNat ∧ c.toNat ≤ 102
  · obtain ⟨v, hv⟩ : ∃ v, c.toNat = 97 + v := ⟨c.toNat - 97, by omega⟩
    have hxv : hexI c = ((v + 10 : Nat) : Int) := by unfold hexI hexV; rw [if_neg g1, if_pos g2]; simp; omega
    rw [hxv, hv]
    have hv9 : v ≤ 5 := by omega
    clear g1 g2 hv hxv
    go_enter Tryz.func95, Tryz.ntmps95
    go_wp2_with fail
    go_ret
    exact ⟨by simp; omega, rfl⟩
  by_cases g3 : 65 ≤ c.toNat ∧ c.toNat ≤ 70
  · obtain ⟨v, hv⟩ : ∃ v, c.toNat = 65 + v := ⟨c.toNat - 65, by omega⟩
    have hxv : hexI c = ((v + 10 : Nat) : Int) := by unfold hexI hexV; rw [if_neg g1, if_neg g2, if_pos g3]; simp; omega
    rw [hxv, hv]
    have hv9 : v ≤ 5 := by omega
    clear g1 g2 g3 hv hxv
    go_enter Tryz.func95, Tryz.ntmps95
    go_wp2_with fail
    go_ret
    exact ⟨by simp; omega, rfl⟩
  have hxv : hexI c = -1 := by unfold hexI hexV; rw [if_neg g1, if_neg g2, if_neg g3]
  rw [hxv]
  obtain ⟨d, hd⟩ : ∃ d, d = c.toNat := ⟨_, rfl⟩
  rw [← hd] at g1 g2 g3 ⊢
  have key : (decide ((48 : Int) ≤ (d : Int)) = true → decide ((d : Int) ≤ 57) = false) ∧ (decide ((97 : Int) ≤ (d : Int)) = true → decide ((d : Int) ≤ 102) = false) ∧ (decide ((65 : Int) ≤ (d : Int)) = true → decide ((d : Int) ≤ 70) = false) := by
    refine ⟨fun h => ?_, fun h => ?_, fun h => ?_⟩ <;> (have := of_decide_eq_true h; exact decide_eq_false (by omega))
  clear g1 g2 g3 hxv hd
  obtain ⟨k1, k2, k3⟩ := key
  cases q1 : decide ((48 : Int) ≤ (d : Int)) <;> cases q2 : decide ((97 : Int) ≤ (d : Int)) <;> cases q3 : decide ((65 : Int) ≤ (d : Int))
  all_goals
    simp only [q1, q2, q3, true_implies, reduceCtorEq, false_implies] at k1 k2 k3
    go_enter Tryz.func95, Tryz.ntmps95
    go_wp2_with fail
    go_ret
    exact ⟨rfl, rfl⟩
def HexPost (l : List UInt8) (w : World) (e : Ending) (w' : World) : Prop :=
  ∃ n : Nat, n < 16777216 ∧ e = .returned (.tuple #[.int .i32 (n : Int), .bool (hexC l).isSome]) ∧ (∀ r, hexC l = some r → r = n) ∧ w = w'
set_option maxRecDepth 100000 in
set_option maxHeartbeats 4000000 in
theorem rhex_any (s : ByteArray) (w : World) (hs : s.size ≤ 1000000) :
    Calls Tryz.prog 62 #[.string s] w (HexPost s.data.toList w) := by
  have hz : s.data.toList.length = s.size := (Lib.size_eq s).symm
  by_cases h0 : s.size < 1
  · have t1 : decide ((s.size : Int) < 1) = true := decide_eq_true (by omega)
    have hx : hexC s.data.toList = none := by unfold hexC; rw [if_pos (by omega)]
    have HX := Lib.hid hx
    clear hx
    go_enter Tryz.func62, Tryz.ntmps62
    go_wp2_with fail
    go_ret2
    refine ⟨0, by omega, ?_, ?_, rfl⟩
    · rw [HX.out]; rfl
    · intro r hr; rw [HX.out] at hr; cases hr
  · have t1 : decide ((s.size : Int) < 1) = false := decide_eq_false (by omega)
    by_cases h6 : 6 < s.size
    · have t2 : decide ((6 : Int) < (s.size : Int)) = true := decide_eq_true (by omega)
      have hx : hexC s.data.toList = none := by unfold hexC; rw [if_pos (by omega)]
      have HX := Lib.hid hx
      clear hx
      go_enter Tryz.func62, Tryz.ntmps62
      go_wp2_with fail
      go_ret2
      refine ⟨0, by omega, ?_, ?_, rfl⟩
      · rw [HX.out]; rfl
      · intro r hr; rw [HX.out] at hr; cases hr
    · have t2 : decide ((6 : Int) < (s.size : Int)) = false := decide_eq_false (by omega)
      have HAT := Lib.hid (fun (k : Nat) (hk : k < s.size) => at_run s k (by rw [hz]; exact hk) _ rfl)
      have HZ := Lib.hid hz
      clear hz
      go_enter Tryz.func62, Tryz.ntmps62
      go_wp2_with fail
      go_loop [4, 5] (fun nv iv => ∃ k n : Nat, k ≤ s.size ∧ n < 16 ^ k ∧ (∃ N : Int, nv = .int .i64 N ∧ N = (n : Int)) ∧ iv = .int .i64 (k : Int) ∧ hexN s.data.toList 0 = hexN (s.data.toList.drop k) n) (fun _ iv => s.size - (intOf iv).toNat)
      case atStart => exact ⟨0, 0, Nat.zero_le _, by omega, ⟨0, rfl, rfl⟩, rfl, rfl⟩
      case round =>
        obtain ⟨k, n, hk, hn, ⟨N, rfl, hN⟩, rfl, hx⟩ := hrel
        have HX := Lib.hid hx
        have HN := Lib.hid hn
        have HNN := Lib.hid hN
        clear hx hn hN
        by_cases hlt : k < s.size
        · have b0 : 0 ≤ N := by rw [HNN.out]; omega
          have b1 : N ≤ 1048575 := by
            have h1 := dig_le HN.out (by omega)
            have h3 := HNN.out
            omega
          have hcell := HAT.out k hlt
          obtain ⟨c, hc⟩ : ∃ c, c = s.data.toList.getD k 0 := ⟨_, rfl⟩
          rw [← hc] at hcell
          have HC := Lib.hid hc
          have d0 : decide ((k : Int) < (s.size : Int)) = true := decide_eq_true (by omega)
          clear hc
          cases hxv : hexV c with
          | some v =>
            have hv16 := hexV_lt hxv
            have HV := Lib.hid (show hexI c = (v : Int) by unfold hexI; rw [hxv])
            have HXV := Lib.hid hxv
            have dv : decide ((v : Int) < 0) = false := decide_eq_false (by omega)
            clear hxv
            go_wp2_with fail
            refine (rvalue_any c _).mono ?_
            rintro e w1 ⟨rfl, rfl⟩
            rw [HV.out]
            try dsimp only
            go_wp2_with fail
            go_round
            case rel =>
              refine ⟨k + 1, n * 16 + v, by omega, pow_step HN.out hv16, ⟨_, rfl, ?_⟩, by go_num, hexN_step (by rw [HZ.out]; omega) HC.out HXV.out HX.out⟩
              rw [HNN.out]; omega
            case measure => simp [intOf]; omega
          | none =>
            have HV := Lib.hid (show hexI c = -1 by unfold hexI; rw [hxv])
            have hx : hexC s.data.toList = none := by unfold hexC; rw [if_neg (by rw [HZ.out]; omega), HX.out, drop_cons (by rw [HZ.out]; omega), ← HC.out, hexN, hxv]
            have HXX := Lib.hid hx
            clear hxv hx
            go_wp2_with fail
            refine (rvalue_any c _).mono ?_
            rintro e w1 ⟨rfl, rfl⟩
            rw [HV.out]
            try dsimp only
            go_wp2_with fail
            go_ret2
            refine ⟨0, by omega, ?_, ?_, rfl⟩
            · rw [HXX.out]; rfl
            · intro r hr; rw [HXX.out] at hr; cases hr
        · have d0 : decide ((k : Int) < (s.size : Int)) = false := decide_eq_false (by omega)
          have d1 : decide (k < s.size) = false := decide_eq_false (by omega)
          have hx : hexC s.data.toList = if charB n then some n else none := by
            unfold hexC
            rw [if_neg (by rw [HZ.out]; omega), HX.out, List.drop_of_length_le (by rw [HZ.out]; omega), hexN]
          have HXX := Lib.hid hx
          have hn6 := dig_le6 HN.out (by omega)
          have b0 : 0 ≤ N := by rw [HNN.out]; omega
          have b1 : N ≤ 16777215 := by have := HNN.out; omega
          have HN6 := Lib.hid hn6
          clear hx hn6
          go_wp2_with fail
          refine (rchar_any n N HNN.out _).mono ?_
          rintro e w1 ⟨rfl, rfl⟩
          obtain ⟨cb, hcb⟩ : ∃ cb, cb = charB n := ⟨_, rfl⟩
          rw [← hcb]
          have HCB := Lib.hid hcb
          clear hcb
          try dsimp only
          go_wp2_with fail
          go_ret2
          refine ⟨n, HN6.out, ?_, ?_, rfl⟩
          · rw [HXX.out, ← HCB.out, ← HNN.out]
            cases cb <;> rfl
          · intro r hr
            rw [HXX.out, ← HCB.out] at hr
            cases cb
            · cases hr
            · injection hr with hr; exact hr.symm
end Go.Proofs.YtonnikipeokkaaaGreatDoor
