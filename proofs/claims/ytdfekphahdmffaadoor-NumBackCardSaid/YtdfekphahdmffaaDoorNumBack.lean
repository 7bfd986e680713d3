/-
  Proved: the text of a number is read as it; a number of 61 bits is itself again; noughts ahead of digits make no difference (NumBack), for all numbers, values and numbers of noughts.
  CONDITIONS: the listed tables read as the program's text lays them (the card's tie, given); nothing else.
-/
import Derived.Test.YtdfekphahdmffaaDoorCards
import Derived.Test.YtdfekphahdmffaaDoorNumBackW
namespace Go.Proofs.YtdfekphahdmffaaDoor.NumBackLaw
open Go.ChangeShapes Go.WideShapes Go.ChangeAt Go.RowKit Go.Joins

theorem walk {W : World} {v0 : Value} {neg0 : Bool} {A0 : Option Addr} {n0 c0 : Nat} (h0 : v0 = numArg neg0 A0 n0 c0 ∧ ∃ l, LimbsX W A0 n0 c0 l) (x1 : Int) (wx1 : (Lit.int .i64 x1).wf = true) (x2 : Int) (wx2 : (Lit.int .u8 x2).wf = true) (ht : PowTab W) : Calls Tryd.prog 9 #[v0, .int .i64 x1, .int .u8 x2] W (BoolPost true W) := by
  obtain ⟨rfl, l, L⟩ := h0
  have h1 : -9223372036854775808 ≤ x1 ∧ x1 ≤ 9223372036854775807 := by
    simp [Lit.wf, IntKind.min, IntKind.max, IntKind.signed, IntKind.bits] at wx1
    omega
  have h2 : 0 ≤ x2 ∧ x2 ≤ 255 := by
    simp [Lit.wf, IntKind.min, IntKind.max, IntKind.signed, IntKind.bits] at wx2
    omega
  obtain ⟨nz, rfl⟩ : ∃ n : Nat, x2 = (n : Int) := ⟨x2.toNat, by omega⟩
  by_cases hl : 60 < n0
  · exact back_long neg0 A0 n0 c0 l x1 nz W ht L h1.1 h1.2 (by omega) hl
  · by_cases hf : Fits (sval neg0 l)
    · exact back_main neg0 A0 n0 c0 l x1 nz W ht L h1.1 h1.2 (by omega) hl hf
    · exact back_big neg0 A0 n0 c0 l x1 nz W ht L h1.1 h1.2 (by omega) hl hf

set_option maxRecDepth 100000 in
theorem lifted (os : Os) (started : os.Started) (H : Type) (enc : TypeId × Value → H) :
    ReturnsInHanded {} Tryd.checked os 9 .any (fun w args => (Rows.numBackSpec.pre enc Tryd.prog Tryd.f9 Rows.numBackRow.domain false w args ∧ laidMetH Tryd.prog tabs w) ∧ sizedMet enc Tryd.prog Tryd.f9 (OpenSpec.ofChange Rows.numBackSpec) false w args)
      (Rows.numBackSpec.post enc Tryd.prog Tryd.f9 false true false false) := by
  refine returnsInHanded_of_change_and (C := Tryd.checked) (X := fun w _ => laidMetH Tryd.prog tabs w) (fun _ _ _ hh h => h.of_heap hh) own started (by kernel_rfl) Tryd.func9
    (ChangeSpec.witness_shaped (enc := enc) (C := Tryd.checked) (os := os) (X := fun w _ => laidMetH Tryd.prog tabs w) false (World.laidAll Tryd.prog os tabs) #[.agg #[.bool false, .slice none 0 0], .int .i64 0, .int .u8 0] 8 (World.laidAll_os _ _ _)
      (tabs_shaped os) (by kernel_rfl) (by kernel_rfl) (by kernel_rfl) (tabs_met os _)) ?_
  intro W base args ds gs before hval0 hW _ _ hL _
  have hval : ∀ (j : Nat) t v, Tryd.f9.params[j]? = some t → args[j]? = some v → Value.okWide Tryd.prog W .any base t v := hval0
  have hW' := hW
  obtain ⟨p, q, hA0, hV, rfl, _, _⟩ := hW
  have hA : DataW.TrodAll enc Tryd.prog W 0 (fun _ => true) true Tryd.f9.params.toList args.toList ds p := hA0
  rw [Tryd.params9] at hA hval
  obtain ⟨v0, vs0, d0, ds0, p0, q0, hargs, rfl, rfl, h0, r0⟩ := trodAll_cons hA
  obtain ⟨v1, vs1, d1, ds1, p1, q1, rfl, rfl, rfl, h1, r1⟩ := trodAll_cons r0
  obtain ⟨v2, vs2, d2, ds2, p2, q2, rfl, rfl, rfl, h2, r2⟩ := trodAll_cons r1
  obtain ⟨rfl, rfl, rfl⟩ := trodAll_nil r2
  obtain rfl : args = #[v0, v1, v2] := by cases args; simp_all
  obtain ⟨rfl, rfl⟩ := trodVars_none hV
  obtain ⟨neg0, A0, n0, c0, came0⟩ := open_numX (hval 0 25 v0 rfl rfl) h0
  have lt0 : ∀ x ∈ p0, x.block < W.heap.size := by obtain ⟨m, hm⟩ := h0; exact DataW.trod_lt m _ _ _ hm
  obtain ⟨x1, rfl, rfl, rfl, wx1⟩ := open_int Tryd.underlying2 (hval 1 2 v1 rfl rfl) h1
  obtain ⟨x2, rfl, rfl, rfl, wx2⟩ := open_int Tryd.underlying5 (hval 2 5 v2 rfl rfl) h2
  have hpow := pow_of_laid hL
  clear hA0 hval0
  refine (walk came0 x1 wx1 x2 wx2 hpow).mono fun e W' ⟨he, kp⟩ => ?_
  have bel := kp.below0
  subst he
  exact ⟨_, rfl, _, _, _, [], _, [], hW', trodAll_mk1 (shut_bool Tryd.underlying4 _), (trodAll_cons_mk (Below.trod laidOut (by kernel_rfl) (of_decide_eq_true (by kernel_rfl)) h0 bel lt0) (trodAll_cons_mk (shut_int Tryd.underlying2 wx1) (trodAll_cons_mk (shut_int Tryd.underlying5 wx2) trodAll_mk0))), rfl, bel.frame _, fun h => by cases h⟩

theorem over : Rows.numBackRow.holds Tryd.pinned (OpenSpec.ofChange Rows.numBackSpec) :=
  OpenClaim.holds_of_wide 9 Tryd.f9 rfl rfl rfl rfl rfl rfl rfl ⟨rfl, rfl, rfl, rfl, rfl⟩ rfl rfl rfl rfl rfl (by kernel_rfl) Tryd.func9 (by kernel_rfl)
    (of_decide_eq_true (by kernel_rfl)) (by unfold Func.isWrapper; first | (rw [if_pos (by decide +kernel)]; kernel_rfl) | (rw [if_neg (by decide +kernel)]; exact ⟨rfl, rfl⟩))
    (fun os started H enc _ => lifted os started H enc)
end Go.Proofs.YtdfekphahdmffaaDoor.NumBackLaw

namespace Go.Proofs.YtdfekphahdmffaaDoor
theorem numBackCard_holds : Rows.NumBackCardSaid :=
  Claim7.holds_tied_plain_at .later [] [.data, .data, .data, .data, .pinned] true (true, "9be1bfdb47bc78ef9f41b63b54e138b91fd84edee5f84e75b134554a688a9ece") false NumBackLaw.over (fun _ h => by cases h) (by kernel_rfl) (fun _ h => by cases h) numBack_row_tie rfl ⟨rfl, rfl⟩ (by kernel_rfl) rfl
    (fun f fn hf hfn => by
      obtain rfl : f = 9 := Option.some.inj ((show Tryd.prog.funcNamed "moraine/morainelaw02.NumBack" = some 9 by kernel_rfl).symm.trans hf) |>.symm
      obtain rfl : fn = Tryd.f9 := (Option.some.inj (Tryd.func9.symm.trans hfn)).symm
      exact ⟨by kernel_rfl, fun j t ht => by
        rw [Tryd.params9] at ht
        have hm : t ∈ [25, 2, 5] := by
          have := Array.mem_of_getElem? ht
          simpa using this
        have hall : ([25, 2, 5].all fun u => !Tryd.prog.wantsStandIn u) = true := by kernel_rfl
        exact (show Tryd.prog.wantsStandIn t = false by simpa using List.all_eq_true.1 hall t hm)⟩)
    (by kernel_rfl)
#print axioms numBackCard_holds
end Go.Proofs.YtdfekphahdmffaaDoor
