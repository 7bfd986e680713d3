/-
  morainelaw09.CardNobody answers true, whatever call it is handed. No condition.
-/
import Derived.Test.YtgnpeciedefeiaaRows
import Derived.Test.YtgnpeciedefeiaaCdNobody
import Derived.Test.YtgnpeciedefeiaaOpen
import Derived.ProofKit
import Derived.OpenShut
namespace Go.Proofs.Ytgnpeciedefeiaa
open Go.ChangeShapes Go.WideShapes Go.ChangeAt Go.RowKit Go.Deep

theorem cells92 : Try.prog.cellsOf 92 = 5 := by kernel_rfl
theorem one92 : oneCellFields Try.prog #[
        { name := "Do", type := 3, offset := 0, embedded := false, tag := "", pkgPath := "", byteOffset := 0 },
        { name := "A", type := 3, offset := 1, embedded := false, tag := "", pkgPath := "", byteOffset := 8 },
        { name := "B", type := 3, offset := 2, embedded := false, tag := "", pkgPath := "", byteOffset := 16 },
        { name := "C", type := 3, offset := 3, embedded := false, tag := "", pkgPath := "", byteOffset := 24 },
        { name := "W", type := 29, offset := 4, embedded := false, tag := "", pkgPath := "", byteOffset := 32 }] = true := by kernel_rfl
section
variable {H : Type} {enc : TypeId × Value → H} {w : World} {spare : Nat → Bool} {held : Bool}
set_option maxRecDepth 100000 in
/-- A call that comes in by value. -/
theorem open_act9 {r : Reach} {b0 : Nat} {v : Value} {d : DataW H} {p : List MemPlace} (hv : Value.okWide Try.prog w r b0 92 v) (h : DataW.Trod enc Try.prog w 0 spare held 92 v d p) :
    ∃ x : ActV, v = .agg #[.int .i64 x.op, .int .i64 x.a, .int .i64 x.b, .int .i64 x.c, .int .u64 x.w] ∧ x.Ok := by
  obtain ⟨cs, rfl, hsz⟩ := okWide_struct Try.underlying92 hv
  obtain ⟨l⟩ := cs
  have hl : l.length = 5 := hsz.trans cells92
  match l, hl with
  | [c0, c1, c2, c3, c4], _ =>
    obtain ⟨fuel, hf⟩ := h
    obtain ⟨ys, n, _, _, _, hys, hg⟩ := DataW.trod_struct Try.underlying92 hf
    have fin : ∀ (i : Nat) (f : Field) (q : IntKind) (c : Value), i < 5 → Try.prog.underlying f.type = some (.int q) → DataW.trod enc Try.prog w 0 spare held n f.type [c] = ys[i]? → ∃ z, c = .int q z ∧ (Lit.int q z).wf = true := by
      intro i f q c hi ht hr
      have hlt : i < ys.length := by rw [hys]; exact hi
      rw [List.getElem?_eq_getElem hlt] at hr
      obtain ⟨z, e, _, fz⟩ := DataW.trod_int ht hr
      simp only [List.cons.injEq, and_true] at e
      exact ⟨z, e, fz⟩
    have k := hone_of one92
    have st : ∀ (i : Nat) (f : Field), (#[
        { name := "Do", type := 3, offset := 0, embedded := false, tag := "", pkgPath := "", byteOffset := 0 },
        { name := "A", type := 3, offset := 1, embedded := false, tag := "", pkgPath := "", byteOffset := 8 },
        { name := "B", type := 3, offset := 2, embedded := false, tag := "", pkgPath := "", byteOffset := 16 },
        { name := "C", type := 3, offset := 3, embedded := false, tag := "", pkgPath := "", byteOffset := 24 },
        { name := "W", type := 29, offset := 4, embedded := false, tag := "", pkgPath := "", byteOffset := 32 }] : Array Field)[i]? = some f → DataW.trod enc Try.prog w 0 spare held n f.type (([c0, c1, c2, c3, c4].drop i).take 1) = ys[i]? := by
      intro i f hi
      have := hg i f hi
      rw [(k i f hi).1, (k i f hi).2] at this
      exact this
    obtain ⟨z0, rfl, _⟩ := fin 0 _ .i64 c0 (by omega) Try.underlying3 (st 0 _ rfl)
    obtain ⟨z1, rfl, f1⟩ := fin 1 _ .i64 c1 (by omega) Try.underlying3 (st 1 _ rfl)
    obtain ⟨z2, rfl, f2⟩ := fin 2 _ .i64 c2 (by omega) Try.underlying3 (st 2 _ rfl)
    obtain ⟨z3, rfl, _⟩ := fin 3 _ .i64 c3 (by omega) Try.underlying3 (st 3 _ rfl)
    obtain ⟨z4, rfl, f4⟩ := fin 4 _ .u64 c4 (by omega) Try.underlying29 (st 4 _ rfl)
    exact ⟨⟨z0, z1, z2, z3, z4⟩, rfl, ⟨(wf_i64 f1).2, (wf_i64 f1).1, (wf_i64 f2).2, (wf_i64 f2).1, (wf_u64 f4).1, (wf_u64 f4).2⟩⟩
end

namespace CardNobodyLaw
set_option maxRecDepth 100000 in
theorem lifted (os : Os) (started : os.Started) (H : Type) (enc : TypeId × Value → H) :
    ReturnsInHanded {} Try.checked os 11 .any (Rows.cardNobodySpec.pre6 enc Try.prog Try.f11 Rows.cardNobodyRow.domain false) (Rows.cardNobodySpec.post enc Try.prog Try.f11 false true false false) := by
  refine returnsInHanded_of_change (C := Try.checked) own started (by kernel_rfl) Try.func11
    (ChangeSpec.witness6 (enc := enc) (C := Try.checked) false ⟨#[], #[.agg #[.int .i64 0, .int .i64 0, .int .i64 0, .int .i64 0, .int .u64 0]], []⟩ 8 (by kernel_rfl) (by kernel_rfl) (by kernel_rfl) (by kernel_rfl)) ?_
  intro W base args ds gs before hval0 hW hcnd _
  have hval : ∀ (j : Nat) t v, Try.f11.params[j]? = some t → args[j]? = some v → Value.okWide Try.prog W .any base t v := hval0
  have hW' := hW
  obtain ⟨p, q, hA0, hV, rfl, hfz, hnd⟩ := hW
  have hA : DataW.TrodAll enc Try.prog W 0 (fun _ => true) true Try.f11.params.toList args.toList ds p := hA0
  rw [Try.params11] at hA hval
  obtain ⟨v0, vs0, d0, ds0, p0, q0, hargs, rfl, rfl, h0, r0⟩ := trodAll_cons hA
  obtain ⟨rfl, rfl, rfl⟩ := trodAll_nil r0
  obtain rfl : args = #[v0] := by cases args; simp_all
  obtain ⟨rfl, rfl⟩ := trodVars_none hV
  have k0 := h0
  have lt0 : ∀ x ∈ p0, x.block < W.heap.size := by obtain ⟨m, hm⟩ := k0; exact DataW.trod_lt m _ _ _ hm
  obtain ⟨x, rfl, xok⟩ := open_act9 (hval 0 92 v0 rfl rfl) h0
  clear hA0 hval0
  refine (cardNobody_walk x W xok).mono fun e W' ⟨he, kp⟩ => ?_
  have bel := kp.below0
  subst he
  exact ⟨_, rfl, _, _, _, [], _, [], hW', trodAll_mk1 (shut_bool Try.underlying4 _), (trodAll_cons_mk (Below.trod laidOut (by kernel_rfl) (of_decide_eq_true (by kernel_rfl)) k0 bel lt0) trodAll_mk0), rfl, bel.frame _, fun h => by cases h⟩

theorem over : Rows.cardNobodyRow.holds Try.pinned (OpenSpec.ofChange Rows.cardNobodySpec) :=
  OpenClaim.holds_of_wide 11 Try.f11 rfl rfl rfl rfl rfl rfl rfl ⟨rfl, rfl, rfl, rfl, rfl⟩ rfl rfl rfl rfl rfl (by kernel_rfl) Try.func11 (by kernel_rfl)
    (of_decide_eq_true (by kernel_rfl)) (by unfold Func.isWrapper; first | (rw [if_pos (by decide +kernel)]; kernel_rfl) | (rw [if_neg (by decide +kernel)]; exact ⟨rfl, rfl⟩))
    (fun os started H enc _ => lifted os started H enc)
end CardNobodyLaw

theorem cardNobody_holds : Rows.CardNobodySaid := CardNobodyLaw.over
#print axioms cardNobody_holds
end Go.Proofs.Ytgnpeciedefeiaa
