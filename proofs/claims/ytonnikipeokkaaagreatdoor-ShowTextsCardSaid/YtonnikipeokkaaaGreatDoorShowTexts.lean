/-
  Any datum, written and displayed, is the text of the document, or both tell that it may not be written.
  CONDITIONS: the listed tables and the handle of errors read as the program's text lays them (the card's tie, given); nothing else.
-/
import Derived.Test.YtonnikipeokkaaaGreatDoorCards
import Derived.Test.YtonnikipeokkaaaGreatDoorSwOp
import Derived.Test.YtonnikipeokkaaaGreatDoorSwWo
import Derived.Test.YtonnikipeokkaaaGreatDoorSwLT
namespace Go.Proofs.YtonnikipeokkaaaGreatDoor.ShowTextsLaw
open Go.Lib (hid)
open Go.ChangeShapes Go.WideShapes Go.ChangeAt Go.RowKit Go.Joins
theorem walk {W : World} (x0 : Raw) (u0 : PV) (hx0 : RawX W x0 u0) (ht : TabT W) : Calls Tryz.prog 10 #[rawV x0 u0] W (BoolPost true W) := lawTexts x0 u0 W hx0 ht (shTabs_size ht)
set_option maxRecDepth 100000 in
theorem lifted (os : Os) (started : os.Started) (H : Type) (enc : TypeId × Value -> H) :
    ReturnsInHanded {} Tryz.checked os 10 .any (fun w args => (Rows.showTextsSpec.pre enc Tryz.prog Tryz.f10 Rows.showTextsRow.domain false w args /\ laidMetH Tryz.prog shTabs w) /\ sizedMet enc Tryz.prog Tryz.f10 (OpenSpec.ofChange Rows.showTextsSpec) false w args)
      (Rows.showTextsSpec.post enc Tryz.prog Tryz.f10 false true false false) := by
  refine returnsInHanded_of_change_and (C := Tryz.checked) (X := fun w _ => laidMetH Tryz.prog shTabs w) (fun _ _ _ hh h => h.of_heap hh) seatOwn started (by kernel_rfl) Tryz.func10
    (ChangeSpec.witness_shaped (enc := enc) (C := Tryz.checked) (os := os) (X := fun w _ => laidMetH Tryz.prog shTabs w) false (shLaidW os) #[.agg #[.int .i64 0, .int .i32 0, .bool false, .slice none 0 0, .string ⟨#[]⟩, .slice none 0 0]] 8 (shLaidW_os _)
      (shTabs_shaped os) (by kernel_rfl) (by kernel_rfl) (by kernel_rfl) (shTabs_met os _)) ?_
  intro W base args ds gs before hval0 hW _ _ hL _
  have hval : ∀ (j : Nat) t v, Tryz.f10.params[j]? = some t -> args[j]? = some v -> Value.okWide Tryz.prog W .any base t v := hval0
  have hW' := hW
  obtain ⟨p, q, hA0, hV, rfl, _, _⟩ := hW
  have hA : DataW.TrodAll enc Tryz.prog W 0 (fun _ => true) true Tryz.f10.params.toList args.toList ds p := hA0
  rw [Tryz.params10] at hA hval
  obtain ⟨v0, vs0, d0, ds0, p0, q0, hargs, rfl, rfl, h0, r0⟩ := trodAll_cons hA
  obtain ⟨rfl, rfl, rfl⟩ := trodAll_nil r0
  obtain rfl : args = #[v0] := by cases args; simp_all
  obtain ⟨rfl, rfl⟩ := trodVars_none hV
  obtain ⟨x0, u0, rfl, hx0⟩ := open_raw (hval 0 27 v0 rfl rfl) h0
  have lt0 : ∀ x ∈ p0, x.block < W.heap.size := by obtain ⟨m, hm⟩ := h0; exact DataW.trod_lt m _ _ _ hm
  have htab := shTabs_of_laid hL
  clear hA0 hval0
  refine (walk x0 u0 hx0 htab).mono fun e W' ⟨he, kp⟩ => ?_
  have bel := kp.below0
  subst he
  exact ⟨_, rfl, _, _, _, [], _, [], hW', trodAll_mk1 (shut_bool Tryz.underlying4 _), (trodAll_cons_mk (Below.trod laidOut (by kernel_rfl) (of_decide_eq_true (by kernel_rfl)) h0 bel lt0) trodAll_mk0), rfl, bel.frame _, fun h => by cases h⟩
theorem over : Rows.showTextsRow.holds Tryz.pinned (OpenSpec.ofChange Rows.showTextsSpec) :=
  OpenClaim.holds_of_wide 10 Tryz.f10 rfl rfl rfl rfl rfl rfl rfl ⟨rfl, rfl, rfl, rfl, rfl⟩ rfl rfl rfl rfl rfl (by kernel_rfl) Tryz.func10 (by kernel_rfl)
    (of_decide_eq_true (by kernel_rfl)) (by unfold Func.isWrapper; first | (rw [if_pos (by decide +kernel)]; kernel_rfl) | (rw [if_neg (by decide +kernel)]; exact ⟨rfl, rfl⟩))
    (fun os started H enc _ => lifted os started H enc)
end Go.Proofs.YtonnikipeokkaaaGreatDoor.ShowTextsLaw
namespace Go.Proofs.YtonnikipeokkaaaGreatDoor
theorem showTextsCard_holds : Rows.ShowTextsCardSaid :=
  Claim7.holds_tied_plain_at .later [] [.data, .data, .data, .data, .handle, .pinned] true (true, "4c8b37686fb9bbae2df84c37954b810e2e8826c73f3e0d8d2d17dc93a650e326") true ShowTextsLaw.over (fun _ h => by cases h) (by kernel_rfl) (fun _ h => by cases h) showTexts_row_tie rfl ⟨rfl, rfl⟩ (by kernel_rfl) rfl
    (fun f fn hf hfn => by
      obtain rfl : f = 10 := Option.some.inj ((show Tryz.prog.funcNamed "moraine/morainelaw06.ShowTexts" = some 10 by kernel_rfl).symm.trans hf) |>.symm
      obtain rfl : fn = Tryz.f10 := (Option.some.inj (Tryz.func10.symm.trans hfn)).symm
      exact ⟨by kernel_rfl, fun j t ht => by
        rw [Tryz.params10] at ht
        have hm : t ∈ [27] := by
          have := Array.mem_of_getElem? ht
          simpa using this
        have hall : ([27].all fun u => !Tryz.prog.wantsStandIn u) = true := by kernel_rfl
        exact (show Tryz.prog.wantsStandIn t = false by simpa using List.all_eq_true.1 hall t hm)⟩)
    (by kernel_rfl)
#print axioms showTextsCard_holds
end Go.Proofs.YtonnikipeokkaaaGreatDoor
