/-
  ints: two slices of the same numbers.
-/
import Derived.Test.YtgnpeciedefeiaaCountsPlain
import Derived.BigQuiet
namespace Go.Proofs.Ytgnpeciedefeiaa
open Go.RowKit

set_option maxHeartbeats 800000 in
theorem ints_same (A B : Option Addr) (n ca cb : Nat) (L : List Int) (w : World) (hA : IntsAt w A n L) (hB : IntsAt w B n L) (hn : n ≤ 1000000) :
    Calls Try.prog 60 #[.slice A n ca, .slice B n cb] w fun e w' => e = .returned (.bool true) ∧ Keep (fun _ => False) w w' := by
  go_enter Try.func60, Try.ntmps60
  go_wp2_with fail
  go_loopw [5] (fun i wr => ∃ k : Nat, k ≤ n ∧ i = .int .i64 k ∧ Keep (fun _ => False) w wr) (fun i _ => n - (intOf i).toNat)
  case atStart => exact ⟨0, Nat.zero_le _, rfl, Keep.refl _ _⟩
  case round =>
    obtain ⟨k, hk, rfl, K⟩ := hrel
    by_cases hlt : k < n
    · obtain ⟨b, off, rfl, hb, hc⟩ := (hA.keep0 K).2 k hlt
      obtain ⟨b', off', rfl, hb', hc'⟩ := (hB.keep0 K).2 k hlt
      have kk0 : (0 : Int) ≤ (k : Int) := by omega
      have kk1 : (k : Int) < (n : Int) := by omega
      obtain ⟨x, hx⟩ : ∃ x, x = L.getD k 0 := ⟨_, rfl⟩
      rw [← hx] at hc hc'
      clear hx
      go_wp2_with fail
      go_quiet (fail)
      go_wp2_with fail
      go_roundw
      case rel => exact ⟨k + 1, by omega, by go_num, K.drewN _⟩
      case measure => simp [intOf]; omega
    · obtain rfl : k = n := by omega
      go_wp2_with fail
      go_ret
      exact ⟨rfl, K⟩
end Go.Proofs.Ytgnpeciedefeiaa
