/-
  morainelaw07.SegPlays: the walk, but for what 'stands' answers.
-/
import Derived.Test.YtgnpeciedefeiaaDoes
import Derived.Test.YtgnpeciedefeiaaSegCopyW
namespace Go.Proofs.Ytgnpeciedefeiaa
open Go.RowKit

/-- What 'stands' answers. -/
def StandsLaw : Prop := ∀ (base p g q : Nat) (M : MemV) (L : List Nat) (w : World), MemAt w p g M → RefAt w base q M L → M.Ok →
  Calls Try.prog 25 #[.pointer (some ⟨p, 0, none⟩), .pointer (some ⟨q, 0, none⟩)] w fun e w' => e = .returned (.bool true) ∧ Keep (fun _ => False) w w'

theorem both_from {B p g base : Nat} {w : World} (hp : B ≤ p) (hg : B ≤ g) (hb : B ≤ base) : ∀ i, Both p g w base i → B ≤ i := by
  rintro i ((rfl | rfl) | h)
  · exact hp
  · exact hg
  · exact Nat.le_trans hb h.1

set_option maxRecDepth 100000 in
set_option maxHeartbeats 8000000 in
theorem segPlays_yes (hst : StandsLaw) (lim : Nat) (A : Option Addr) (len cap : Nat) (acts : Nat → ActV) (w : World) (h8 : 8 ≤ lim) (h1024 : lim ≤ 1024) (hA : ActsAt w A len acts) (hlen : len ≤ 300) :
    Calls Try.prog 6 #[.int .i64 lim, .slice A len cap] w fun e w' => e = .returned (.bool true) ∧ Keep (fun _ => False) w w' := by
  have HST := Lib.hid hst
  clear hst
  go_enter Try.func6, Try.ntmps6
  go_wp2_with fail
  refine (new_some lim _ _ rfl h8 h1024).mono ?_
  rintro e w1 ⟨p, g, rfl, hp, hg, m1, k1⟩
  go_wp2_with fail
  refine (rnew_some lim w.heap.size _ _ rfl h8 h1024 k1.size).mono ?_
  rintro e w2 ⟨q, rfl, hq, R2, k2⟩
  have m2 := m1.keep k2 (by simp) (by simp)
  have K2 := k1.trans k2
  clear m1 k1 k2
  go_wp2_with fail
  refine (HST.out _ p g q _ _ _ m2 R2 (MemV.Ok.new h8 h1024)).mono ?_
  rintro e w3 ⟨rfl, k3⟩
  have m3 := m2.keep k3 (by simp) (by simp)
  have R3 := R2.keep0 k3
  have K3 := K2.trans k3
  clear m2 R2 K2 k3
  go_wp2_with fail
  go_loopw [5, 8] (fun mv i wr => ∃ (j p g : Nat) (M : MemV) (L : List Nat), j ≤ len ∧ i = .int .i64 j ∧ mv = .pointer (some ⟨p, 0, none⟩) ∧ w.heap.size ≤ p ∧ w.heap.size ≤ g ∧ M.Ok ∧ M.count ≤ j ∧ MemAt wr p g M ∧ RefAt wr w.heap.size q M L ∧ Keep (fun _ => False) w wr) (fun _ i _ => len - (intOf i).toNat)
  case atStart => exact ⟨0, p, g, _, _, Nat.zero_le _, rfl, rfl, hp, hg, MemV.Ok.new h8 h1024, Int.le_refl 0, m3, R3, K3⟩
  case round =>
    clear m3 R3 K3 hp hg
    obtain ⟨j, p, g, M, L, hj, rfl, rfl, hp, hg, ok, hc, m, R, k⟩ := hrel
    have HC := Lib.hid hc
    clear hc
    by_cases hlt : j < len
    · obtain ⟨b, off, rfl, hb, xok, q0, q1, q2, q3, q4⟩ := hA.at_ k hlt
      have hat : ∀ (w' : World), Keep (fun _ => False) w w' → ∃ b' off', (some ⟨b, off, none⟩ : Option Addr) = some ⟨b', off', none⟩ ∧ b' < w'.heap.size ∧ (acts j).Ok ∧ w'.cell? ⟨b', off' + j * 5, none⟩ = some (.int .i64 (acts j).op) ∧ w'.cell? ⟨b', off' + j * 5 + 1, none⟩ = some (.int .i64 (acts j).a) ∧ w'.cell? ⟨b', off' + j * 5 + 2, none⟩ = some (.int .i64 (acts j).b) ∧ w'.cell? ⟨b', off' + j * 5 + 3, none⟩ = some (.int .i64 (acts j).c) ∧ w'.cell? ⟨b', off' + j * 5 + 4, none⟩ = some (.int .u64 (acts j).w) := fun w' K' => hA.at_ K' hlt
      obtain ⟨x, hx⟩ : ∃ x, x = acts j := ⟨_, rfl⟩
      rw [← hx] at q0 q1 q2 q3 q4 xok hat
      have HAT := Lib.hid hat
      have HA := Lib.hid hA
      clear hx hA hat
      have hpl := m.lt
      have hgl := m.segs.lt
      have hcl : M.count ≤ 1000000 := by have := HC.out; omega
      have Hcl := Lib.hid hcl
      clear hcl
      by_cases o6 : x.op = 6
      · have e6 : (x.op == 6) = true := by simpa using o6
        clear o6
        go_wp2_with fail
        refine (copy_yes p g M _ m ok).mono ?_
        rintro e w4 ⟨p', g', rfl, hp', hg', m4, o4, k4⟩
        have n1 : ¬ Mine p g p' := by rintro (h | h) <;> omega
        have n2 : ¬ Mine p g g' := by rintro (h | h) <;> omega
        replace k := k.trans k4
        replace R := R.keep0 k4
        clear m k4
        go_wp2_with fail
        refine (take_all p g M _ _ _ o4 ok Hcl.out).mono ?_
        rintro e w5 ⟨M5, a5, f5, rfl, o5, k5, ok5, _, _, _⟩
        replace m4 := m4.keep k5 n1 n2
        replace R := R.keep k5 (notMine o4)
        replace k := k.into k5 (mine_from hp hg)
        clear k5 o4
        go_wp2_with fail
        refine (write_all p g M5 _ _ _ o5 ok5 (by omega) (by omega) (by omega)).mono ?_
        rintro e w6 ⟨M6, f6, rfl, o6, k6, ok6, _, _, _⟩
        replace m4 := m4.keep k6 n1 n2
        replace R := R.keep k6 (notMine o5)
        replace k := k.into k6 (mine_from hp hg)
        clear k6 o5 ok5
        go_wp2_with fail
        refine (give_all p g M6 _ _ o6 ok6).mono ?_
        rintro e w7 ⟨M7, f7, rfl, o7, k7, ok7, _, _, _⟩
        replace m4 := m4.keep k7 n1 n2
        replace R := R.keep k7 (notMine o6)
        replace k := k.into k7 (mine_from hp hg)
        clear k7 o6 ok6 o7 ok7 q0 q1 q2 q3 q4
        obtain ⟨b', off', hbo, hb', _, q0, q1, q2, q3, q4⟩ := HAT.out _ k
        injection hbo with hbo
        injection hbo with hb1 hb2 _
        subst hb1 hb2
        go_wp2_with fail
        refine (does_any w.heap.size p' g' q M L x _ m4 R ok Hcl.out xok).mono ?_
        rintro e w8 ⟨M8, L8, rfl, m8, R8, ok8, hc8, hl8, K8⟩
        have HC8 := Lib.hid hc8
        replace k := k.into K8 (both_from (by omega) (by omega) (Nat.le_refl _))
        clear hc8 hl8 K8 m4 R q0 q1 q2 q3 q4
        go_wp2_with fail
        go_roundw
        case rel => exact ⟨j + 1, p', g', M8, L8, by omega, by go_num, rfl, by omega, by omega, ok8, by have := HC8.out; have := HC.out; omega, m8, R8, k⟩
        case measure => simp [intOf]; omega
      · have e6 : (x.op == 6) = false := by simpa using o6
        clear o6
        go_wp2_with fail
        refine (does_any w.heap.size p g q M L x _ m R ok Hcl.out xok).mono ?_
        rintro e w8 ⟨M8, L8, rfl, m8, R8, ok8, hc8, hl8, K8⟩
        have HC8 := Lib.hid hc8
        replace k := k.into K8 (both_from hp hg (Nat.le_refl _))
        clear hc8 hl8 K8 m R q0 q1 q2 q3 q4
        go_wp2_with fail
        go_roundw
        case rel => exact ⟨j + 1, p, g, M8, L8, by omega, by go_num, rfl, hp, hg, ok8, by have := HC8.out; have := HC.out; omega, m8, R8, k⟩
        case measure => simp [intOf]; omega
    · obtain rfl : j = len := by omega
      clear hA
      go_wp2_with fail
      refine (HST.out _ p g q _ _ _ m R ok).mono ?_
      rintro e w9 ⟨rfl, k9⟩
      go_wp2_with fail
      refine (awake7 _).mono ?_
      rintro e w10 ⟨rfl, k10⟩
      go_wp2_with fail
      go_ret
      exact ⟨rfl, (k.trans k9).trans k10⟩
end Go.Proofs.Ytgnpeciedefeiaa
