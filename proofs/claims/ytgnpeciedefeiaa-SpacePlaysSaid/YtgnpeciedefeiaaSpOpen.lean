/-
  Opening a list of calls upon a space (type 61) that came in.
-/
import Derived.Test.YtgnpeciedefeiaaSpPlaysW
import Derived.Test.YtgnpeciedefeiaaOpen
namespace Go.Proofs.Ytgnpeciedefeiaa
open Go.ChangeShapes Go.WideShapes Go.ChangeAt Go.RowKit Go.Deep

theorem cells70 : Try.prog.cellsOf 70 = 5 := by kernel_rfl
theorem cells3 : Try.prog.cellsOf 3 = 1 := by kernel_rfl
theorem one70 : oneCellFields Try.prog #[
    { name := "Do", type := 3, offset := 0, embedded := false, tag := "", pkgPath := "", byteOffset := 0 },
    { name := "A", type := 3, offset := 1, embedded := false, tag := "", pkgPath := "", byteOffset := 8 },
    { name := "B", type := 3, offset := 2, embedded := false, tag := "", pkgPath := "", byteOffset := 16 },
    { name := "C", type := 3, offset := 3, embedded := false, tag := "", pkgPath := "", byteOffset := 24 },
    { name := "Gens", type := 47, offset := 4, embedded := false, tag := "", pkgPath := "", byteOffset := 32 }] = true := by kernel_rfl

section
variable {H : Type} {enc : TypeId × Value → H} {w : World} {spare : Nat → Bool} {held : Bool}
/-- A slice of ints that came in. -/
theorem open_gens {v : Value} {y : DataW H × List MemPlace} {fuel : Nat} (hf : DataW.trod enc Try.prog w 0 spare held fuel 47 [v] = some y) :
    ∃ (A : Option Addr) (len cap : Nat) (gs : List Int), v = .slice A len cap ∧ IntsAt w A len gs ∧ len ≤ maxLen := by
  rcases open_slice Try.underlying47 hf with ⟨hcs, _⟩ | ⟨a, len, cap, m, n, D, Pl, hcs, hb, hl, hm, hmm, hx, hi⟩
  · obtain rfl : v = .slice none 0 0 := by simpa using hcs
    exact ⟨none, 0, 0, [], rfl, IntsAt.nil _ _, by unfold maxLen; omega⟩
  · obtain rfl : v = .slice (some a) len cap := by simpa using hcs
    have hlm : len ≤ m := by rw [hmm]; split <;> omega
    have key : ∀ j, j < len → ∃ z : Int, ∃ b off, a = ⟨b, off, none⟩ ∧ b < w.heap.size ∧ w.cell? ⟨b, off + j, none⟩ = some (.int .i64 z) := by
      have cell : ∀ j, j < len → ∃ z : Int, w.cell? (a.add j) = some (.int .i64 z) := by
        intro j hj
        obtain ⟨cs, hc, ht⟩ := hi j (by omega)
        rw [cells3, Nat.mul_one] at hc
        obtain ⟨z, e, _, _⟩ := DataW.trod_int Try.underlying3 ht
        subst e
        obtain ⟨_, hlen, hat⟩ := World.cells?_some hc
        have := hat 0 (by omega)
        refine ⟨z, ?_⟩
        simpa [Addr.add] using this
      intro j hj
      obtain ⟨z0, c0⟩ := cell 0 (by omega)
      have hs : a.spot = none := by
        have : a.add 0 = a := by simp [Addr.add]
        rw [this] at c0
        exact World.cell?_spot c0
      obtain ⟨b, off, spot⟩ := a
      simp only at hs
      subst hs
      obtain ⟨z, c⟩ := cell j hj
      rw [Addr.add_mid] at c
      exact ⟨z, b, off, rfl, World.block_lt_of_cell? w _ c, c⟩
    refine ⟨some a, len, cap, (List.range len).map fun j => if hj : j < len then (key j hj).choose else 0, rfl, ⟨by simp, fun j hj => ?_⟩, by omega⟩
    obtain ⟨b, off, e, hb', hc⟩ := (key j hj).choose_spec
    refine ⟨b, off, by rw [e], hb', ?_⟩
    rw [hc, List.getD_eq_getElem?_getD, List.getElem?_map, List.getElem?_range hj]
    simp [hj]

theorem open_acts8 {A : Option Addr} {len cap : Nat} {d : DataW H} {p : List MemPlace} (h : DataW.Trod enc Try.prog w 0 spare held 61 (.slice A len cap) d p) :
    ∃ acts : Nat → Act8, Acts8At w A len acts ∧ len ≤ maxLen := by
  obtain ⟨fuel, hf⟩ := h
  rcases open_slice Try.underlying61 hf with ⟨hcs, _⟩ | ⟨a, len', cap', m, n, D, Pl, hcs, hb, hl, hm, hmm, hx, hi⟩
  · simp [Value.cells] at hcs
    obtain ⟨rfl, rfl, rfl⟩ := hcs
    exact ⟨fun _ => ⟨0, 0, 0, 0, none, 0, 0, []⟩, fun j hj => absurd hj (by omega), by unfold maxLen; omega⟩
  · simp [Value.cells] at hcs
    obtain ⟨rfl, rfl, rfl⟩ := hcs
    have hlm : len ≤ m := by rw [hmm]; split <;> omega
    have hs0 : ∀ j, j < len → j = 0 → a.spot = none := by
      intro j hj h0
      obtain ⟨cs, hc, ht⟩ := hi j (by omega)
      rw [cells70] at hc
      have rd := field_read (enc := enc) (P := Try.prog) (w := w) (base := 0) Try.underlying70 one70 hc ht
      obtain ⟨v0, y0, n0, c0, t0⟩ := rd 0 _ rfl
      rw [h0, Nat.zero_mul] at c0
      exact World.cell?_spot c0
    have key : ∀ j, j < len → ∃ x : Act8, ∃ b off, a = ⟨b, off, none⟩ ∧ b < w.heap.size ∧ x.a ≤ 9223372036854775807 ∧ -9223372036854775808 ≤ x.c ∧ x.c ≤ 9223372036854775807 ∧ IntsAt w x.ga x.gn x.gs ∧ x.gn ≤ maxLen ∧
        w.cell? ⟨b, off + j * 5, none⟩ = some (.int .i64 x.op) ∧ w.cell? ⟨b, off + j * 5 + 1, none⟩ = some (.int .i64 x.a) ∧ w.cell? ⟨b, off + j * 5 + 2, none⟩ = some (.int .i64 x.b) ∧
        w.cell? ⟨b, off + j * 5 + 3, none⟩ = some (.int .i64 x.c) ∧ w.cell? ⟨b, off + j * 5 + 4, none⟩ = some (.slice x.ga x.gn x.gc) := by
      intro j hj
      obtain ⟨cs, hc, ht⟩ := hi j (by omega)
      rw [cells70] at hc
      have rd := field_read (enc := enc) (P := Try.prog) (w := w) (base := 0) Try.underlying70 one70 hc ht
      obtain ⟨v0, y0, n0, c0, t0⟩ := rd 0 _ rfl
      obtain ⟨v1, y1, n1, c1, t1⟩ := rd 1 _ rfl
      obtain ⟨v2, y2, n2, c2, t2⟩ := rd 2 _ rfl
      obtain ⟨v3, y3, n3, c3, t3⟩ := rd 3 _ rfl
      obtain ⟨v4, y4, n4, c4, t4⟩ := rd 4 _ rfl
      obtain ⟨z0, e0, _, f0⟩ := DataW.trod_int Try.underlying3 t0
      obtain ⟨z1, e1, _, f1⟩ := DataW.trod_int Try.underlying3 t1
      obtain ⟨z2, e2, _, f2⟩ := DataW.trod_int Try.underlying3 t2
      obtain ⟨z3, e3, _, f3⟩ := DataW.trod_int Try.underlying3 t3
      obtain ⟨GA, gn, gc, gs, e4, hI, hgn⟩ := open_gens t4
      simp only [List.cons.injEq, and_true] at e0 e1 e2 e3
      subst e0 e1 e2 e3 e4
      have hs := hs0 0 (by omega) rfl
      obtain ⟨b, off, spot⟩ := a
      simp only at hs
      subst hs
      have ad : ∀ i, (Addr.add ⟨b, off, none⟩ (j * 5)).add i = ⟨b, off + j * 5 + i, none⟩ := fun i => by rw [Addr.add_mid, Addr.add_mid]
      rw [ad] at c0 c1 c2 c3 c4
      exact ⟨⟨z0, z1, z2, z3, GA, gn, gc, gs⟩, b, off, rfl, World.block_lt_of_cell? w _ c1, (wf_i64 f1).2, (wf_i64 f3).1, (wf_i64 f3).2, hI, hgn, by simpa using c0, c1, c2, c3, c4⟩
    refine ⟨fun j => if hj : j < len then (key j hj).choose else ⟨0, 0, 0, 0, none, 0, 0, []⟩, fun j hj => ?_, by omega⟩
    simp only [dif_pos hj]
    obtain ⟨b, off, e, r⟩ := (key j hj).choose_spec
    exact ⟨b, off, by rw [e], r⟩
end
end Go.Proofs.Ytgnpeciedefeiaa
