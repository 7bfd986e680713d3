/-
  morainelaw07.SegPlays answers true, whatever limit and whatever calls it is handed. No condition.
-/
import Derived.Test.YtgnpeciedefeiaaRows
import Derived.Test.YtgnpeciedefeiaaSegPlaysW
import Derived.Test.YtgnpeciedefeiaaStands
import Derived.Test.YtgnpeciedefeiaaOpen
import Derived.ProofKit
import Derived.OpenShut
import Derived.Deep.Slices
import Derived.Deep.Fields
namespace Go.Proofs.Ytgnpeciedefeiaa.SegPlaysLaw
open Go.ChangeShapes Go.WideShapes Go.ChangeAt Go.RowKit Go.Deep

set_option maxRecDepth 100000 in
set_option maxHeartbeats 400000 in
theorem other (limit : Int) (A : Option Addr) (len cap : Nat) (w : World) (h : 300 < len ∨ limit < 8 ∨ 1024 < limit) (hlen : len ≤ maxLen) :
    Calls Try.prog 6 #[.int .i64 limit, .slice A len cap] w fun e w' => e = .returned (.bool true) ∧ Keep (fun _ => False) w w' := by
  unfold maxLen at hlen
  by_cases b : 300 < len
  · clear h
    go_enter Try.func6, Try.ntmps6
    go_wp2_with fail
    refine (awake7 _).mono ?_
    rintro e w2 ⟨rfl, k2⟩
    go_wp2_with fail
    go_ret
    exact ⟨rfl, k2⟩
  · have a : limit < 8 ∨ 1024 < limit := by omega
    have Ha := Lib.hid a
    clear h a
    go_enter Try.func6, Try.ntmps6
    go_wp2_with fail
    refine (new_no _ _ Ha.out).mono ?_
    rintro e w1 ⟨rfl, rfl⟩
    go_wp2_with fail
    refine (rnew_none _ _ Ha.out).mono ?_
    rintro e w1 ⟨rfl, rfl⟩
    go_wp2_with fail
    refine (awake7 _).mono ?_
    rintro e w2 ⟨rfl, k2⟩
    go_wp2_with fail
    go_ret
    exact ⟨rfl, k2⟩

theorem walk (limit : Int) (A : Option Addr) (len cap : Nat) (acts : Nat → ActV) (w : World) (hA : ActsAt w A len acts) (hlen : len ≤ maxLen) :
    Calls Try.prog 6 #[.int .i64 limit, .slice A len cap] w fun e w' => e = .returned (.bool true) ∧ Keep (fun _ => False) w w' := by
  by_cases h : 300 < len ∨ limit < 8 ∨ 1024 < limit
  · exact other limit A len cap w h hlen
  · obtain ⟨lim, rfl⟩ := Int.eq_ofNat_of_zero_le (by omega : 0 ≤ limit)
    exact segPlays_yes (fun base p g q M L w m R ok => stands_any base p g q M L w m R ok) lim A len cap acts w (by omega) (by omega) hA (by omega)

set_option maxRecDepth 100000 in
theorem lifted (os : Os) (started : os.Started) (H : Type) (enc : TypeId × Value → H) :
    ReturnsInHanded {} Try.checked os 6 .any (Rows.segPlaysSpec.pre6 enc Try.prog Try.f6 Rows.segPlaysRow.domain false) (Rows.segPlaysSpec.post enc Try.prog Try.f6 false true false false) := by
  refine returnsInHanded_of_change (C := Try.checked) own started (by kernel_rfl) Try.func6
    (ChangeSpec.witness6 (enc := enc) (C := Try.checked) false ⟨#[], #[.int .i64 0, .slice none 0 0], []⟩ 8 (by kernel_rfl) (by kernel_rfl) (by kernel_rfl) (by kernel_rfl)) ?_
  intro W base args ds gs before hval0 hW hcnd _
  have hval : ∀ (j : Nat) t v, Try.f6.params[j]? = some t → args[j]? = some v → Value.okWide Try.prog W .any base t v := hval0
  have hW' := hW
  obtain ⟨p, q, hA0, hV, rfl, hfz, hnd⟩ := hW
  have hA : DataW.TrodAll enc Try.prog W 0 (fun _ => true) true Try.f6.params.toList args.toList ds p := hA0
  rw [Try.params6] at hA hval
  obtain ⟨v0, vs0, d0, ds0, p0, q0, hargs, rfl, rfl, h0, r0⟩ := trodAll_cons hA
  obtain ⟨v1, vs1, d1, ds1, p1, q1, rfl, rfl, rfl, h1, r1⟩ := trodAll_cons r0
  obtain ⟨rfl, rfl, rfl⟩ := trodAll_nil r1
  obtain rfl : args = #[v0, v1] := by cases args; simp_all
  obtain ⟨rfl, rfl⟩ := trodVars_none hV
  obtain ⟨limit, rfl, rfl, rfl, wl⟩ := open_int Try.underlying3 (hval 0 3 v0 rfl rfl) h0
  obtain ⟨A, len, cap, rfl⟩ := okWide_slice Try.underlying22 (hval 1 22 v1 rfl rfl)
  have k1 := h1
  have lt1 : ∀ x ∈ p1, x.block < W.heap.size := by obtain ⟨m, hm⟩ := k1; exact DataW.trod_lt m _ _ _ hm
  obtain ⟨acts, hacts, hlen⟩ := open_acts h1
  clear hA0 hval0
  refine (walk limit A len cap acts W hacts hlen).mono fun e W' ⟨he, kp⟩ => ?_
  have bel := kp.below0
  subst he
  exact ⟨_, rfl, _, _, _, [], _, [], hW', trodAll_mk1 (shut_bool Try.underlying4 _), (trodAll_cons_mk (shut_int Try.underlying3 wl) (trodAll_cons_mk (Below.trod laidOut (by kernel_rfl) (of_decide_eq_true (by kernel_rfl)) k1 bel lt1) trodAll_mk0)), rfl, bel.frame _, fun h => by cases h⟩

theorem over : Rows.segPlaysRow.holds Try.pinned (OpenSpec.ofChange Rows.segPlaysSpec) :=
  OpenClaim.holds_of_wide 6 Try.f6 rfl rfl rfl rfl rfl rfl rfl ⟨rfl, rfl, rfl, rfl, rfl⟩ rfl rfl rfl rfl rfl (by kernel_rfl) Try.func6 (by kernel_rfl)
    (of_decide_eq_true (by kernel_rfl)) (by unfold Func.isWrapper; first | (rw [if_pos (by decide +kernel)]; kernel_rfl) | (rw [if_neg (by decide +kernel)]; exact ⟨rfl, rfl⟩))
    (fun os started H enc _ => lifted os started H enc)
end Go.Proofs.Ytgnpeciedefeiaa.SegPlaysLaw

namespace Go.Proofs.Ytgnpeciedefeiaa
theorem segPlays_holds : Rows.SegPlaysSaid := SegPlaysLaw.over
#print axioms segPlays_holds
end Go.Proofs.Ytgnpeciedefeiaa
