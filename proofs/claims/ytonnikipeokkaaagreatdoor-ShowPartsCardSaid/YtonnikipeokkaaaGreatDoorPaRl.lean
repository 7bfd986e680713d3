/-
  The document's lex: Blank, ends, two, Skip, Char, value, hex.
  The document's lex: Char, value, hex.
  The document's lex: Utf.
-/
import Derived.Test.YtonnikipeokkaaaGreatDoorPaLx
import Derived.Laws.BitsAllLaws
namespace Go.Proofs.YtonnikipeokkaaaGreatDoor
open Go.RowKit Go.Lib

end Go.Proofs.YtonnikipeokkaaaGreatDoor

namespace Go.Proofs.YtonnikipeokkaaaGreatDoor
open Go.RowKit Go.Lib

set_option maxRecDepth 100000 in
set_option maxHeartbeats 2000000 in
theorem rchar_any (n : Nat) (N : Int) (hN : N = (n : Int)) (w : World) : Calls Tryz.prog 75 #[.int .i32 N] w fun e w' => e = .returned (.bool (charB n)) ∧ w = w' := by
  have h0 : decide (0 ≤ N) = true := decide_eq_true (by omega)
  have hc : charB n = (decide (N ≤ 1114111) && (decide (N < 55296) || decide (57343 < N))) := by
    unfold charB
    rw [Bool.eq_iff_iff]
    simp only [decide_eq_true_eq, Bool.and_eq_true, Bool.or_eq_true]
    omega
  rw [hc]
  clear hN hc
  cases h1 : decide (N ≤ 1114111) with
  | false =>
    rw [Bool.false_and]
    go_enter Tryz.func75, Tryz.ntmps75
    go_wp2_with fail
    go_ret
    exact ⟨rfl, rfl⟩
  | true =>
    cases h2 : decide (N < 55296) with
    | true =>
      rw [Bool.true_or, Bool.true_and]
      go_enter Tryz.func75, Tryz.ntmps75
      go_wp2_with fail
      go_ret
      exact ⟨rfl, rfl⟩
    | false =>
      rw [Bool.false_or, Bool.true_and]
      cases h3 : decide (57343 < N) with
      | true =>
        go_enter Tryz.func75, Tryz.ntmps75
        go_wp2_with fail
        go_ret
        exact ⟨rfl, rfl⟩
      | false =>
        go_enter Tryz.func75, Tryz.ntmps75
        go_wp2_with fail
        go_ret
        exact ⟨rfl, rfl⟩
end Go.Proofs.YtonnikipeokkaaaGreatDoor

namespace Go.Proofs.YtonnikipeokkaaaGreatDoor
open Go.RowKit Go.Lib

end Go.Proofs.YtonnikipeokkaaaGreatDoor
