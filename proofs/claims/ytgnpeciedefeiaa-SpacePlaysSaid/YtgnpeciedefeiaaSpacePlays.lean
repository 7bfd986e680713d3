/-
  morainelaw08.SpacePlays answers true, whatever limit and whatever calls it is handed. No condition.
-/
import Derived.Test.YtgnpeciedefeiaaRows
import Derived.Test.YtgnpeciedefeiaaSpOpen
import Derived.ProofKit
import Derived.OpenShut
import Derived.Deep.Slices
import Derived.Deep.Fields
namespace Go.Proofs.Ytgnpeciedefeiaa.SpacePlaysLaw
open Go.ChangeShapes Go.WideShapes Go.ChangeAt Go.RowKit Go.Deep

theorem walk (limit : Int) (A : Option Addr) (len cap : Nat) (acts : Nat → Act8) (w : World) (hA : Acts8At w A len acts) (hlen : len ≤ maxLen) :
    Calls Try.prog 8 #[.int .i64 limit, .slice A len cap] w fun e w' => e = .returned (.bool true) ∧ Keep (fun _ => False) w w' := by
  by_cases h : (300 < len ∨ ∃ j, j < len ∧ 300 < (acts j).gn) ∨ limit < 8 ∨ 1024 < limit
  · exact spacePlays_other limit A len cap acts w hA hlen h
  · obtain ⟨lim, rfl⟩ := Int.eq_ofNat_of_zero_le (by omega : 0 ≤ limit)
    refine spacePlays_yes lim A len cap acts w (by omega) (by omega) hA (by omega) (fun j hj => ?_)
    rcases Nat.lt_or_ge 300 (acts j).gn with h' | h'
    · exact absurd (.inl (.inr ⟨j, hj, h'⟩)) h
    · exact h'

set_option maxRecDepth 100000 in
theorem lifted (os : Os) (started : os.Started) (H : Type) (enc : TypeId × Value → H) :
    ReturnsInHanded {} Try.checked os 8 .any (Rows.spacePlaysSpec.pre6 enc Try.prog Try.f8 Rows.spacePlaysRow.domain false) (Rows.spacePlaysSpec.post enc Try.prog Try.f8 false true false false) := by
  refine returnsInHanded_of_change (C := Try.checked) own started (by kernel_rfl) Try.func8
    (ChangeSpec.witness6 (enc := enc) (C := Try.checked) false ⟨#[], #[.int .i64 0, .slice none 0 0], []⟩ 8 (by kernel_rfl) (by kernel_rfl) (by kernel_rfl) (by kernel_rfl)) ?_
  intro W base args ds gs before hval0 hW hcnd _
  have hval : ∀ (j : Nat) t v, Try.f8.params[j]? = some t → args[j]? = some v → Value.okWide Try.prog W .any base t v := hval0
  have hW' := hW
  obtain ⟨p, q, hA0, hV, rfl, hfz, hnd⟩ := hW
  have hA : DataW.TrodAll enc Try.prog W 0 (fun _ => true) true Try.f8.params.toList args.toList ds p := hA0
  rw [Try.params8] at hA hval
  obtain ⟨v0, vs0, d0, ds0, p0, q0, hargs, rfl, rfl, h0, r0⟩ := trodAll_cons hA
  obtain ⟨v1, vs1, d1, ds1, p1, q1, rfl, rfl, rfl, h1, r1⟩ := trodAll_cons r0
  obtain ⟨rfl, rfl, rfl⟩ := trodAll_nil r1
  obtain rfl : args = #[v0, v1] := by cases args; simp_all
  obtain ⟨rfl, rfl⟩ := trodVars_none hV
  obtain ⟨limit, rfl, rfl, rfl, wl⟩ := open_int Try.underlying3 (hval 0 3 v0 rfl rfl) h0
  obtain ⟨A, len, cap, rfl⟩ := okWide_slice Try.underlying61 (hval 1 61 v1 rfl rfl)
  have k1 := h1
  have lt1 : ∀ x ∈ p1, x.block < W.heap.size := by obtain ⟨m, hm⟩ := k1; exact DataW.trod_lt m _ _ _ hm
  obtain ⟨acts, hacts, hlen⟩ := open_acts8 h1
  clear hA0 hval0
  refine (walk limit A len cap acts W hacts hlen).mono fun e W' ⟨he, kp⟩ => ?_
  have bel := kp.below0
  subst he
  exact ⟨_, rfl, _, _, _, [], _, [], hW', trodAll_mk1 (shut_bool Try.underlying4 _), (trodAll_cons_mk (shut_int Try.underlying3 wl) (trodAll_cons_mk (Below.trod laidOut (by kernel_rfl) (of_decide_eq_true (by kernel_rfl)) k1 bel lt1) trodAll_mk0)), rfl, bel.frame _, fun h => by cases h⟩

theorem over : Rows.spacePlaysRow.holds Try.pinned (OpenSpec.ofChange Rows.spacePlaysSpec) :=
  OpenClaim.holds_of_wide 8 Try.f8 rfl rfl rfl rfl rfl rfl rfl ⟨rfl, rfl, rfl, rfl, rfl⟩ rfl rfl rfl rfl rfl (by kernel_rfl) Try.func8 (by kernel_rfl)
    (of_decide_eq_true (by kernel_rfl)) (by unfold Func.isWrapper; first | (rw [if_pos (by decide +kernel)]; kernel_rfl) | (rw [if_neg (by decide +kernel)]; exact ⟨rfl, rfl⟩))
    (fun os started H enc _ => lifted os started H enc)
end Go.Proofs.Ytgnpeciedefeiaa.SpacePlaysLaw

namespace Go.Proofs.Ytgnpeciedefeiaa
theorem spacePlays_holds : Rows.SpacePlaysSaid := SpacePlaysLaw.over
#print axioms spacePlays_holds
end Go.Proofs.Ytgnpeciedefeiaa
