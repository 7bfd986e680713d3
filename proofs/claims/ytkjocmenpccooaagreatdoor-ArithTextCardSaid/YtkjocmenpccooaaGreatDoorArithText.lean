/-
  Proved: a number's text, read, is the number; it has a minus just if the number is below 0 (ArithText), for every number.
  CONDITIONS: the listed tables read as the program's text lays them (the card's tie, given); nothing else.
-/
import Derived.Test.YtkjocmenpccooaaGreatDoorCards
import Derived.Test.YtkjocmenpccooaaGreatDoorHqO
import Derived.Test.YtkjocmenpccooaaGreatDoorHrO
namespace Go.Proofs.YtkjocmenpccooaaGreatDoor.ArithTextLaw
open Go.ChangeShapes Go.WideShapes Go.ChangeAt Go.RowKit Go.Joins

theorem limbs_of {W : World} {v : Value} {neg : Bool} {A : Option Addr} {n c : Nat} (h : NumCame W v neg A n c) : ∃ l, n ≤ 60 → LimbsAt W A n c l := by
  by_cases hn : n ≤ 60
  · obtain ⟨l, L⟩ := h.lim (by omega)
    exact ⟨l, fun _ => L⟩
  · exact ⟨[], fun h => absurd h hn⟩
theorem walk {W : World} {v0 : Value} {neg0 : Bool} {A0 : Option Addr} {n0 c0 : Nat} (h0 : NumCame W v0 neg0 A0 n0 c0) (hT : PowTab W) (hU : UTabs W) : Calls Tryz.prog 5 #[v0] W (BoolPost true W) := by
  obtain ⟨l0, L0⟩ := limbs_of h0
  obtain rfl := h0.e
  exact textlaw_any W neg0 A0 n0 c0 l0 L0 hT hU

set_option maxRecDepth 100000 in
theorem lifted (os : Os) (started : os.Started) (H : Type) (enc : TypeId × Value → H) :
    ReturnsInHanded {} Tryz.checked os 5 .any (fun w args => (Rows.arithTextSpec.pre enc Tryz.prog Tryz.f5 Rows.arithTextRow.domain false w args ∧ laidMetH Tryz.prog tabs w) ∧ sizedMet enc Tryz.prog Tryz.f5 (OpenSpec.ofChange Rows.arithTextSpec) false w args)
      (Rows.arithTextSpec.post enc Tryz.prog Tryz.f5 false true false false) := by
  refine returnsInHanded_of_change_and (C := Tryz.checked) (X := fun w _ => laidMetH Tryz.prog tabs w) (fun _ _ _ hh h => h.of_heap hh) seatOwn started (by kernel_rfl) Tryz.func5
    (ChangeSpec.witness_shaped (enc := enc) (C := Tryz.checked) (os := os) (X := fun w _ => laidMetH Tryz.prog tabs w) false (World.laidAll Tryz.prog os tabs) #[.agg #[.bool false, .slice none 0 0]] 8 (World.laidAll_os _ _ _)
      (tabs_shaped os) (by kernel_rfl) (by kernel_rfl) (by kernel_rfl) (tabs_met os _)) ?_
  intro W base args ds gs before hval0 hW _ _ hL _
  have hval : ∀ (j : Nat) t v, Tryz.f5.params[j]? = some t → args[j]? = some v → Value.okWide Tryz.prog W .any base t v := hval0
  have hW' := hW
  obtain ⟨p, q, hA0, hV, rfl, _, _⟩ := hW
  have hA : DataW.TrodAll enc Tryz.prog W 0 (fun _ => true) true Tryz.f5.params.toList args.toList ds p := hA0
  rw [Tryz.params5] at hA hval
  obtain ⟨v0, vs0, d0, ds0, p0, q0, hargs, rfl, rfl, h0, r0⟩ := trodAll_cons hA
  obtain ⟨rfl, rfl, rfl⟩ := trodAll_nil r0
  obtain rfl : args = #[v0] := by cases args; simp_all
  obtain ⟨rfl, rfl⟩ := trodVars_none hV
  obtain ⟨neg0, A0, n0, c0, came0⟩ := open_num (hval 0 24 v0 rfl rfl) h0
  have lt0 : ∀ x ∈ p0, x.block < W.heap.size := by obtain ⟨m, hm⟩ := h0; exact DataW.trod_lt m _ _ _ hm
  clear hA0 hval0
  refine (walk came0 (pow_of_laid hL) (utabs_of_laid hL)).mono fun e W' ⟨he, kp⟩ => ?_
  have bel := kp.below0
  subst he
  exact ⟨_, rfl, _, _, _, [], _, [], hW', trodAll_mk1 (shut_bool Tryz.underlying4 _), (trodAll_cons_mk (Below.trod laidOut (by kernel_rfl) (of_decide_eq_true (by kernel_rfl)) h0 bel lt0) trodAll_mk0), rfl, bel.frame _, fun h => by cases h⟩

theorem over : Rows.arithTextRow.holds Tryz.pinned (OpenSpec.ofChange Rows.arithTextSpec) :=
  OpenClaim.holds_of_wide 5 Tryz.f5 rfl rfl rfl rfl rfl rfl rfl ⟨rfl, rfl, rfl, rfl, rfl⟩ rfl rfl rfl rfl rfl (by kernel_rfl) Tryz.func5 (by kernel_rfl)
    (of_decide_eq_true (by kernel_rfl)) (by unfold Func.isWrapper; first | (rw [if_pos (by decide +kernel)]; kernel_rfl) | (rw [if_neg (by decide +kernel)]; exact ⟨rfl, rfl⟩))
    (fun os started H enc _ => lifted os started H enc)
end Go.Proofs.YtkjocmenpccooaaGreatDoor.ArithTextLaw

namespace Go.Proofs.YtkjocmenpccooaaGreatDoor
theorem arithTextCard_holds : Rows.ArithTextCardSaid :=
  Claim7.holds_tied_plain_at .later [] [.data, .data, .data, .data, .pinned] true (true, "e2d3c2be26c1a2409d052089f67a21780df1db8fb922a0c4d03114f8a83f75c7") false ArithTextLaw.over (fun _ h => by cases h) (by kernel_rfl) (fun _ h => by cases h) arithText_row_tie rfl ⟨rfl, rfl⟩ (by kernel_rfl) rfl
    (fun f fn hf hfn => by
      obtain rfl : f = 5 := Option.some.inj ((show Tryz.prog.funcNamed "moraine/morainelaw21.ArithText" = some 5 by kernel_rfl).symm.trans hf) |>.symm
      obtain rfl : fn = Tryz.f5 := (Option.some.inj (Tryz.func5.symm.trans hfn)).symm
      exact ⟨by kernel_rfl, fun j t ht => by
        rw [Tryz.params5] at ht
        have hm : t ∈ [24] := by
          have := Array.mem_of_getElem? ht
          simpa using this
        have hall : ([24].all fun u => !Tryz.prog.wantsStandIn u) = true := by kernel_rfl
        exact (show Tryz.prog.wantsStandIn t = false by simpa using List.all_eq_true.1 hall t hm)⟩)
    (by kernel_rfl)
#print axioms arithTextCard_holds
end Go.Proofs.YtkjocmenpccooaaGreatDoor
