/-
  Opening calls upon cards (types 76 and 92) that came in.
-/
import Derived.Test.YtgnpeciedefeiaaOpen
import Derived.ProofKit
import Derived.OpenShut
import Derived.Deep.Slices
import Derived.Deep.Fields
namespace Go.Proofs.Ytgnpeciedefeiaa
open Go.ChangeShapes Go.WideShapes Go.ChangeAt Go.RowKit Go.Deep

theorem cells92 : Try.prog.cellsOf 92 = 5 := by kernel_rfl
theorem one92 : oneCellFields Try.prog #[
    { name := "Do", type := 3, offset := 0, embedded := false, tag := "", pkgPath := "", byteOffset := 0 },
    { name := "A", type := 3, offset := 1, embedded := false, tag := "", pkgPath := "", byteOffset := 8 },
    { name := "B", type := 3, offset := 2, embedded := false, tag := "", pkgPath := "", byteOffset := 16 },
    { name := "C", type := 3, offset := 3, embedded := false, tag := "", pkgPath := "", byteOffset := 24 },
    { name := "W", type := 29, offset := 4, embedded := false, tag := "", pkgPath := "", byteOffset := 32 }] = true := by kernel_rfl

section
variable {H : Type} {enc : TypeId × Value → H} {w : World} {spare : Nat → Bool} {held : Bool}
theorem open_acts9 {A : Option Addr} {len cap : Nat} {d : DataW H} {p : List MemPlace} (h : DataW.Trod enc Try.prog w 0 spare held 76 (.slice A len cap) d p) :
    ∃ acts : Nat → ActV, ActsAt w A len acts ∧ len ≤ maxLen := by
  obtain ⟨fuel, hf⟩ := h
  rcases open_slice Try.underlying76 hf with ⟨hcs, _⟩ | ⟨a, len', cap', m, n, D, Pl, hcs, hb, hl, hm, hmm, hx, hi⟩
  · simp [Value.cells] at hcs
    obtain ⟨rfl, rfl, rfl⟩ := hcs
    exact ⟨fun _ => ⟨0, 0, 0, 0, 0⟩, fun j hj => absurd hj (by omega), by unfold maxLen; omega⟩
  · simp [Value.cells] at hcs
    obtain ⟨rfl, rfl, rfl⟩ := hcs
    have hlm : len ≤ m := by rw [hmm]; split <;> omega
    have hs0 : ∀ j, j < len → j = 0 → a.spot = none := by
      intro j hj h0
      obtain ⟨cs, hc, ht⟩ := hi j (by omega)
      rw [cells92] at hc
      have rd := field_read (enc := enc) (P := Try.prog) (w := w) (base := 0) Try.underlying92 one92 hc ht
      obtain ⟨v0, y0, n0, c0, t0⟩ := rd 0 _ rfl
      rw [h0, Nat.zero_mul] at c0
      exact World.cell?_spot c0
    have key : ∀ j, j < len → ∃ x : ActV, ∃ b off, a = ⟨b, off, none⟩ ∧ b < w.heap.size ∧ x.Ok ∧
        w.cell? ⟨b, off + j * 5, none⟩ = some (.int .i64 x.op) ∧ w.cell? ⟨b, off + j * 5 + 1, none⟩ = some (.int .i64 x.a) ∧ w.cell? ⟨b, off + j * 5 + 2, none⟩ = some (.int .i64 x.b) ∧
        w.cell? ⟨b, off + j * 5 + 3, none⟩ = some (.int .i64 x.c) ∧ w.cell? ⟨b, off + j * 5 + 4, none⟩ = some (.int .u64 x.w) := by
      intro j hj
      obtain ⟨cs, hc, ht⟩ := hi j (by omega)
      rw [cells92] at hc
      have rd := field_read (enc := enc) (P := Try.prog) (w := w) (base := 0) Try.underlying92 one92 hc ht
      obtain ⟨v0, y0, n0, c0, t0⟩ := rd 0 _ rfl
      obtain ⟨v1, y1, n1, c1, t1⟩ := rd 1 _ rfl
      obtain ⟨v2, y2, n2, c2, t2⟩ := rd 2 _ rfl
      obtain ⟨v3, y3, n3, c3, t3⟩ := rd 3 _ rfl
      obtain ⟨v4, y4, n4, c4, t4⟩ := rd 4 _ rfl
      obtain ⟨z0, e0, _, f0⟩ := DataW.trod_int Try.underlying3 t0
      obtain ⟨z1, e1, _, f1⟩ := DataW.trod_int Try.underlying3 t1
      obtain ⟨z2, e2, _, f2⟩ := DataW.trod_int Try.underlying3 t2
      obtain ⟨z3, e3, _, f3⟩ := DataW.trod_int Try.underlying3 t3
      obtain ⟨z4, e4, _, f4⟩ := DataW.trod_int Try.underlying29 t4
      simp only [List.cons.injEq, and_true] at e0 e1 e2 e3 e4
      subst e0 e1 e2 e3 e4
      have hs := hs0 0 (by omega) rfl
      obtain ⟨b, off, spot⟩ := a
      simp only at hs
      subst hs
      have ad : ∀ i, (Addr.add ⟨b, off, none⟩ (j * 5)).add i = ⟨b, off + j * 5 + i, none⟩ := fun i => by rw [Addr.add_mid, Addr.add_mid]
      rw [ad] at c0 c1 c2 c3 c4
      exact ⟨⟨z0, z1, z2, z3, z4⟩, b, off, rfl, World.block_lt_of_cell? w _ c1, ⟨(wf_i64 f1).2, (wf_i64 f1).1, (wf_i64 f2).2, (wf_i64 f2).1, (wf_u64 f4).1, (wf_u64 f4).2⟩, by simpa using c0, c1, c2, c3, c4⟩
    refine ⟨fun j => if hj : j < len then (key j hj).choose else ⟨0, 0, 0, 0, 0⟩, fun j hj => ?_, by omega⟩
    simp only [dif_pos hj]
    obtain ⟨b, off, e, r⟩ := (key j hj).choose_spec
    exact ⟨b, off, by rw [e], r⟩
end

section
variable {H : Type} {enc : TypeId × Value → H} {w : World} {spare : Nat → Bool} {held : Bool}
set_option maxRecDepth 100000 in
/-- A call that comes in by value. -/
theorem open_act9 {r : Reach} {b0 : Nat} {v : Value} {d : DataW H} {p : List MemPlace} (hv : Value.okWide Try.prog w r b0 92 v) (h : DataW.Trod enc Try.prog w 0 spare held 92 v d p) :
    ∃ x : ActV, v = .agg #[.int .i64 x.op, .int .i64 x.a, .int .i64 x.b, .int .i64 x.c, .int .u64 x.w] ∧ x.Ok := by
  obtain ⟨cs, rfl, hsz⟩ := okWide_struct Try.underlying92 hv
  obtain ⟨l⟩ := cs
  have hl : l.length = 5 := hsz.trans cells92
  match l, hl with
  | [c0, c1, c2, c3, c4], _ =>
    obtain ⟨fuel, hf⟩ := h
    obtain ⟨ys, n, _, _, _, hys, hg⟩ := DataW.trod_struct Try.underlying92 hf
    have fin : ∀ (i : Nat) (f : Field) (q : IntKind) (c : Value), i < 5 → Try.prog.underlying f.type = some (.int q) → DataW.trod enc Try.prog w 0 spare held n f.type [c] = ys[i]? → ∃ z, c = .int q z ∧ (Lit.int q z).wf = true := by
      intro i f q c hi ht hr
      have hlt : i < ys.length := by rw [hys]; exact hi
      rw [List.getElem?_eq_getElem hlt] at hr
      obtain ⟨z, e, _, fz⟩ := DataW.trod_int ht hr
      simp only [List.cons.injEq, and_true] at e
      exact ⟨z, e, fz⟩
    have k := hone_of one92
    have st : ∀ (i : Nat) (f : Field), (#[
        { name := "Do", type := 3, offset := 0, embedded := false, tag := "", pkgPath := "", byteOffset := 0 },
        { name := "A", type := 3, offset := 1, embedded := false, tag := "", pkgPath := "", byteOffset := 8 },
        { name := "B", type := 3, offset := 2, embedded := false, tag := "", pkgPath := "", byteOffset := 16 },
        { name := "C", type := 3, offset := 3, embedded := false, tag := "", pkgPath := "", byteOffset := 24 },
        { name := "W", type := 29, offset := 4, embedded := false, tag := "", pkgPath := "", byteOffset := 32 }] : Array Field)[i]? = some f → DataW.trod enc Try.prog w 0 spare held n f.type (([c0, c1, c2, c3, c4].drop i).take 1) = ys[i]? := by
      intro i f hi
      have := hg i f hi
      rw [(k i f hi).1, (k i f hi).2] at this
      exact this
    obtain ⟨z0, rfl, _⟩ := fin 0 _ .i64 c0 (by omega) Try.underlying3 (st 0 _ rfl)
    obtain ⟨z1, rfl, f1⟩ := fin 1 _ .i64 c1 (by omega) Try.underlying3 (st 1 _ rfl)
    obtain ⟨z2, rfl, f2⟩ := fin 2 _ .i64 c2 (by omega) Try.underlying3 (st 2 _ rfl)
    obtain ⟨z3, rfl, _⟩ := fin 3 _ .i64 c3 (by omega) Try.underlying3 (st 3 _ rfl)
    obtain ⟨z4, rfl, f4⟩ := fin 4 _ .u64 c4 (by omega) Try.underlying29 (st 4 _ rfl)
    exact ⟨⟨z0, z1, z2, z3, z4⟩, rfl, ⟨(wf_i64 f1).2, (wf_i64 f1).1, (wf_i64 f2).2, (wf_i64 f2).1, (wf_u64 f4).1, (wf_u64 f4).2⟩⟩
end

end Go.Proofs.Ytgnpeciedefeiaa
