/-
  ShowParts: a list, and a vector, is written as its items, each as it is by itself, parted by blanks, between brackets, for any data.
  CONDITIONS: the listed tables and the handle of errors read as the program's text lays them (the card's tie, given); nothing else.
-/
import Derived.Test.YtonnikipeokkaaaGreatDoorCards
import Derived.Test.YtonnikipeokkaaaGreatDoorSwOp
import Derived.Test.YtonnikipeokkaaaGreatDoorSwWo
import Derived.Test.YtonnikipeokkaaaGreatDoorSwLP
namespace Go.Proofs.YtonnikipeokkaaaGreatDoor.ShowPartsLaw
open Go.ChangeShapes Go.WideShapes Go.ChangeAt Go.RowKit Go.Joins

theorem walk {W : World} (A0 : Option Addr) (n0 c0 : Nat) (l0 : List Raw) (vs0 : Nat → PV) (hx0 : RowX W A0 n0 c0 l0 vs0) (ht : TabT W) : Calls Tryz.prog 12 #[.slice A0 n0 c0] W (BoolPost true W) := lawParts A0 n0 c0 l0 vs0 W hx0 ht (shTabs_size ht)

set_option maxRecDepth 100000 in
theorem lifted (os : Os) (started : os.Started) (H : Type) (enc : TypeId × Value → H) :
    ReturnsInHanded {} Tryz.checked os 12 .any (fun w args => (Rows.showPartsSpec.pre enc Tryz.prog Tryz.f12 Rows.showPartsRow.domain false w args ∧ laidMetH Tryz.prog shTabs w) ∧ sizedMet enc Tryz.prog Tryz.f12 (OpenSpec.ofChange Rows.showPartsSpec) false w args)
      (Rows.showPartsSpec.post enc Tryz.prog Tryz.f12 false true false false) := by
  refine returnsInHanded_of_change_and (C := Tryz.checked) (X := fun w _ => laidMetH Tryz.prog shTabs w) (fun _ _ _ hh h => h.of_heap hh) seatOwn started (by kernel_rfl) Tryz.func12
    (ChangeSpec.witness_shaped (enc := enc) (C := Tryz.checked) (os := os) (X := fun w _ => laidMetH Tryz.prog shTabs w) false (shLaidW os) #[.slice none 0 0] 8 (shLaidW_os _)
      (shTabs_shaped os) (by kernel_rfl) (by kernel_rfl) (by kernel_rfl) (shTabs_met os _)) ?_
  intro W base args ds gs before hval0 hW _ _ hL _
  have hval : ∀ (j : Nat) t v, Tryz.f12.params[j]? = some t → args[j]? = some v → Value.okWide Tryz.prog W .any base t v := hval0
  have hW' := hW
  obtain ⟨p, q, hA0, hV, rfl, _, _⟩ := hW
  have hA : DataW.TrodAll enc Tryz.prog W 0 (fun _ => true) true Tryz.f12.params.toList args.toList ds p := hA0
  rw [Tryz.params12] at hA hval
  obtain ⟨v0, vs0, d0, ds0, p0, q0, hargs, rfl, rfl, h0, r0⟩ := trodAll_cons hA
  obtain ⟨rfl, rfl, rfl⟩ := trodAll_nil r0
  obtain rfl : args = #[v0] := by cases args; simp_all
  obtain ⟨rfl, rfl⟩ := trodVars_none hV
  obtain ⟨A0, n0, c0, l0, vs0, rfl, hx0⟩ := open_raws (hval 0 25 v0 rfl rfl) h0
  have lt0 : ∀ x ∈ p0, x.block < W.heap.size := by obtain ⟨m, hm⟩ := h0; exact DataW.trod_lt m _ _ _ hm
  have htab := shTabs_of_laid hL
  clear hA0 hval0
  refine (walk A0 n0 c0 l0 vs0 hx0 htab).mono fun e W' ⟨he, kp⟩ => ?_
  have bel := kp.below0
  subst he
  exact ⟨_, rfl, _, _, _, [], _, [], hW', trodAll_mk1 (shut_bool Tryz.underlying4 _), (trodAll_cons_mk (Below.trod laidOut (by kernel_rfl) (of_decide_eq_true (by kernel_rfl)) h0 bel lt0) trodAll_mk0), rfl, bel.frame _, fun h => by cases h⟩

theorem over : Rows.showPartsRow.holds Tryz.pinned (OpenSpec.ofChange Rows.showPartsSpec) :=
  OpenClaim.holds_of_wide 12 Tryz.f12 rfl rfl rfl rfl rfl rfl rfl ⟨rfl, rfl, rfl, rfl, rfl⟩ rfl rfl rfl rfl rfl (by kernel_rfl) Tryz.func12 (by kernel_rfl)
    (of_decide_eq_true (by kernel_rfl)) (by unfold Func.isWrapper; first | (rw [if_pos (by decide +kernel)]; kernel_rfl) | (rw [if_neg (by decide +kernel)]; exact ⟨rfl, rfl⟩))
    (fun os started H enc _ => lifted os started H enc)
end Go.Proofs.YtonnikipeokkaaaGreatDoor.ShowPartsLaw

namespace Go.Proofs.YtonnikipeokkaaaGreatDoor
theorem showPartsCard_holds : Rows.ShowPartsCardSaid :=
  Claim7.holds_tied_plain_at .later [] [.data, .data, .data, .data, .handle, .pinned] true (true, "4c8b37686fb9bbae2df84c37954b810e2e8826c73f3e0d8d2d17dc93a650e326") true ShowPartsLaw.over (fun _ h => by cases h) (by kernel_rfl) (fun _ h => by cases h) showParts_row_tie rfl ⟨rfl, rfl⟩ (by kernel_rfl) rfl
    (fun f fn hf hfn => by
      obtain rfl : f = 12 := Option.some.inj ((show Tryz.prog.funcNamed "moraine/morainelaw06.ShowParts" = some 12 by kernel_rfl).symm.trans hf) |>.symm
      obtain rfl : fn = Tryz.f12 := (Option.some.inj (Tryz.func12.symm.trans hfn)).symm
      exact ⟨by kernel_rfl, fun j t ht => by
        rw [Tryz.params12] at ht
        have hm : t ∈ [25] := by
          have := Array.mem_of_getElem? ht
          simpa using this
        have hall : ([25].all fun u => !Tryz.prog.wantsStandIn u) = true := by kernel_rfl
        exact (show Tryz.prog.wantsStandIn t = false by simpa using List.all_eq_true.1 hall t hm)⟩)
    (by kernel_rfl)
#print axioms showPartsCard_holds
end Go.Proofs.YtonnikipeokkaaaGreatDoor
