/-
  Opening a list of calls (type 22) that came in.
-/
import Derived.Test.YtgnpeciedefeiaaActs
import Derived.ProofKit
import Derived.Deep.Slices
import Derived.Deep.Fields
import Derived.ChangeSame
namespace Go.Proofs.Ytgnpeciedefeiaa
open Go.ChangeShapes Go.WideShapes Go.ChangeAt Go.RowKit Go.Deep

theorem own : ownKnob Try.prog.godebug = none := by kernel_rfl
theorem laidOut : laidOutB Try.prog = true := by kernel_rfl

section
variable {H : Type} {enc : TypeId × Value → H} {P : Program} {w : World} {base : Nat} {spare : Nat → Bool} {held : Bool}
/-- A field of a struct whose fields are one cell each: its cell, and how that reads. -/
theorem field_read {e : TypeId} {fs : Array Field} {fuel : Nat} {a : Addr} {cs : List Value} {x : DataW H × List MemPlace} (he : P.underlying e = some (.struct fs)) (hone : oneCellFields P fs = true)
    (hc : w.cells? base a fs.size = some cs) (h : DataW.trod enc P w base spare held fuel e cs = some x) (j : Nat) (f : Field) (hj : fs[j]? = some f) :
    ∃ (v : Value) (y : DataW H × List MemPlace) (n : Nat), w.cell? (a.add j) = some v ∧ DataW.trod enc P w base spare held n f.type [v] = some y := by
  obtain ⟨ys, n, _, _, _, _, hf⟩ := DataW.trod_struct he h
  obtain ⟨_, hlen, hat⟩ := World.cells?_some hc
  obtain ⟨hoff, hcells⟩ := hone_of hone j f hj
  have hjs : j < fs.size := (Array.getElem?_eq_some_iff.1 hj).1
  have hjc : j < cs.length := by omega
  have hr := hf j f hj
  rw [hoff, hcells, show (cs.drop j).take 1 = [cs[j]] from by rw [List.drop_eq_getElem_cons hjc]; rfl] at hr
  cases hy : ys[j]? with
  | none => rw [hy] at hr; exact absurd hr (by
      have : j < ys.length := by omega
      rw [List.getElem?_eq_getElem this] at hy; cases hy)
  | some y => exact ⟨cs[j], y, n, by rw [hat j hjs, List.getElem?_eq_getElem hjc], hr.trans hy⟩

theorem wf_i64 {n : Int} (h : (Lit.int .i64 n).wf = true) : -9223372036854775808 ≤ n ∧ n ≤ 9223372036854775807 := by
  simp [Lit.wf, IntKind.min, IntKind.max, IntKind.signed, IntKind.bits] at h
  omega
theorem wf_u64 {n : Int} (h : (Lit.int .u64 n).wf = true) : 0 ≤ n ∧ n ≤ 18446744073709551615 := by
  simp [Lit.wf, IntKind.min, IntKind.max, IntKind.signed, IntKind.bits] at h
  omega
end

theorem cells31 : Try.prog.cellsOf 31 = 5 := by kernel_rfl
theorem one31 : oneCellFields Try.prog #[
    { name := "Do", type := 3, offset := 0, embedded := false, tag := "", pkgPath := "", byteOffset := 0 },
    { name := "A", type := 3, offset := 1, embedded := false, tag := "", pkgPath := "", byteOffset := 8 },
    { name := "B", type := 3, offset := 2, embedded := false, tag := "", pkgPath := "", byteOffset := 16 },
    { name := "C", type := 3, offset := 3, embedded := false, tag := "", pkgPath := "", byteOffset := 24 },
    { name := "W", type := 29, offset := 4, embedded := false, tag := "", pkgPath := "", byteOffset := 32 }] = true := by kernel_rfl

section
variable {H : Type} {enc : TypeId × Value → H} {w : World} {spare : Nat → Bool} {held : Bool}
theorem open_acts {A : Option Addr} {len cap : Nat} {d : DataW H} {p : List MemPlace} (h : DataW.Trod enc Try.prog w 0 spare held 22 (.slice A len cap) d p) :
    ∃ acts : Nat → ActV, ActsAt w A len acts ∧ len ≤ maxLen := by
  obtain ⟨fuel, hf⟩ := h
  rcases open_slice Try.underlying22 hf with ⟨hcs, _⟩ | ⟨a, len', cap', m, n, D, Pl, hcs, hb, hl, hm, hmm, hx, hi⟩
  · simp [Value.cells] at hcs
    obtain ⟨rfl, rfl, rfl⟩ := hcs
    exact ⟨fun _ => ⟨0, 0, 0, 0, 0⟩, fun j hj => absurd hj (by omega), by unfold maxLen; omega⟩
  · simp [Value.cells] at hcs
    obtain ⟨rfl, rfl, rfl⟩ := hcs
    have hlm : len ≤ m := by rw [hmm]; split <;> omega
    have hs0 : ∀ j, j < len → j = 0 → a.spot = none := by
      intro j hj h0
      obtain ⟨cs, hc, ht⟩ := hi j (by omega)
      rw [cells31] at hc
      have rd := field_read (enc := enc) (P := Try.prog) (w := w) (base := 0) Try.underlying31 one31 hc ht
      obtain ⟨v0, y0, n0, c0, t0⟩ := rd 0 _ rfl
      rw [h0, Nat.zero_mul] at c0
      exact World.cell?_spot c0
    have key : ∀ j, j < len → ∃ x : ActV, ∃ b off, a = ⟨b, off, none⟩ ∧ b < w.heap.size ∧ x.Ok ∧
        w.cell? ⟨b, off + j * 5, none⟩ = some (.int .i64 x.op) ∧ w.cell? ⟨b, off + j * 5 + 1, none⟩ = some (.int .i64 x.a) ∧ w.cell? ⟨b, off + j * 5 + 2, none⟩ = some (.int .i64 x.b) ∧
        w.cell? ⟨b, off + j * 5 + 3, none⟩ = some (.int .i64 x.c) ∧ w.cell? ⟨b, off + j * 5 + 4, none⟩ = some (.int .u64 x.w) := by
      intro j hj
      obtain ⟨cs, hc, ht⟩ := hi j (by omega)
      rw [cells31] at hc
      have rd := field_read (enc := enc) (P := Try.prog) (w := w) (base := 0) Try.underlying31 one31 hc ht
      obtain ⟨v0, y0, n0, c0, t0⟩ := rd 0 _ rfl
      obtain ⟨v1, y1, n1, c1, t1⟩ := rd 1 _ rfl
      obtain ⟨v2, y2, n2, c2, t2⟩ := rd 2 _ rfl
      obtain ⟨v3, y3, n3, c3, t3⟩ := rd 3 _ rfl
      obtain ⟨v4, y4, n4, c4, t4⟩ := rd 4 _ rfl
      obtain ⟨z0, e0, _, f0⟩ := DataW.trod_int Try.underlying3 t0
      obtain ⟨z1, e1, _, f1⟩ := DataW.trod_int Try.underlying3 t1
      obtain ⟨z2, e2, _, f2⟩ := DataW.trod_int Try.underlying3 t2
      obtain ⟨z3, e3, _, f3⟩ := DataW.trod_int Try.underlying3 t3
      obtain ⟨z4, e4, _, f4⟩ := DataW.trod_int Try.underlying29 t4
      simp only [List.cons.injEq, and_true] at e0 e1 e2 e3 e4
      subst e0 e1 e2 e3 e4
      have hs := hs0 0 (by omega) rfl
      obtain ⟨b, off, spot⟩ := a
      simp only at hs
      subst hs
      have ad : ∀ i, (Addr.add ⟨b, off, none⟩ (j * 5)).add i = ⟨b, off + j * 5 + i, none⟩ := fun i => by rw [Addr.add_mid, Addr.add_mid]
      rw [ad] at c0 c1 c2 c3 c4
      exact ⟨⟨z0, z1, z2, z3, z4⟩, b, off, rfl, World.block_lt_of_cell? w _ c1, ⟨(wf_i64 f1).2, (wf_i64 f1).1, (wf_i64 f2).2, (wf_i64 f2).1, (wf_u64 f4).1, (wf_u64 f4).2⟩, by simpa using c0, c1, c2, c3, c4⟩
    refine ⟨fun j => if hj : j < len then (key j hj).choose else ⟨0, 0, 0, 0, 0⟩, fun j hj => ?_, by omega⟩
    simp only [dif_pos hj]
    obtain ⟨b, off, e, r⟩ := (key j hj).choose_spec
    exact ⟨b, off, by rw [e], r⟩
end
end Go.Proofs.Ytgnpeciedefeiaa
