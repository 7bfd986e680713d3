/-
  The document's datum: Same, of any two.
  Structs in memory; a pair in memory; the document's bad and List.
  The document's List.
  The document's reading: from, its single ways.
-/
import Derived.Test.YtonnikipeokkaaaGreatDoorPaMem
import Derived.Deep.RegionHeld3
import Derived.BigRegion
import Derived.RegionTactic
namespace Go.Proofs.YtonnikipeokkaaaGreatDoor
open Go.RowKit Go.Lib

theorem bytes_eq {x y : ByteArray} (h : x.toList = y.toList) : x = y := by
  rw [Lib.toList_data, Lib.toList_data] at h
  exact ByteArray.ext (Array.toList_inj.mp h)
end Go.Proofs.YtonnikipeokkaaaGreatDoor

namespace Go.Proofs.YtonnikipeokkaaaGreatDoor
open Go.RowKit Go.Lib

theorem bx_old {w : World} {b : Nat} {o : Obj} (h : w.heap[b]? = some o) (x : Obj) : (w.alloc x).heap[b]? = some o := by
  rw [Below.heap_alloc _ _ _ (heap_lt h)]; exact h
/-- A block of 6 cells, and that they may be written. -/
theorem six_cells {w : World} {B : Nat} {x0 x1 x2 x3 x4 x5 : Value} (h : w.heap[B]? = some (.cells #[x0, x1, x2, x3, x4, x5] 27 (0, 0))) : (w.cell? ⟨B, 0, none⟩ = some x0 ∧ w.cell? ⟨B, 1, none⟩ = some x1 ∧ w.cell? ⟨B, 2, none⟩ = some x2 ∧ w.cell? ⟨B, 3, none⟩ = some x3 ∧ w.cell? ⟨B, 4, none⟩ = some x4 ∧ w.cell? ⟨B, 5, none⟩ = some x5) ∧ (w.frozen? ⟨B, 0, none⟩ = false ∧ w.frozen? ⟨B, 1, none⟩ = false ∧ w.frozen? ⟨B, 2, none⟩ = false ∧ w.frozen? ⟨B, 3, none⟩ = false ∧ w.frozen? ⟨B, 4, none⟩ = false ∧ w.frozen? ⟨B, 5, none⟩ = false) := by
  refine ⟨⟨?_, ?_, ?_, ?_, ?_, ?_⟩, ?_, ?_, ?_, ?_, ?_, ?_⟩
  all_goals first
    | (rw [cell_of_row w _ _ _ _ _ h]; rfl)
    | simp [World.frozen?, h]
abbrev sixSet (w : World) (B : Nat) (y0 y1 y2 y3 y4 y5 : Value) : World := (((((((((((w.setCell ⟨B, 0, none⟩ y0)).setCell ⟨B, 1, none⟩ y1)).setCell ⟨B, 2, none⟩ y2)).setCell ⟨B, 3, none⟩ y3)).setCell ⟨B, 4, none⟩ y4)).setCell ⟨B, 5, none⟩ y5)
theorem six_row {w : World} {B : Nat} {x0 x1 x2 x3 x4 x5 : Value} (h : w.heap[B]? = some (.cells #[x0, x1, x2, x3, x4, x5] 27 (0, 0))) (y0 y1 y2 y3 y4 y5 : Value) : (sixSet w B y0 y1 y2 y3 y4 y5).heap[B]? = some (.cells #[y0, y1, y2, y3, y4, y5] 27 (0, 0)) := by
  simp [sixSet, World.setCell, Array.getElem?_modify, h]
theorem six_oth {w : World} {B C : Nat} {o : Obj} (h : w.heap[C]? = some o) (hne : C ≠ B) (y0 y1 y2 y3 y4 y5 : Value) : (sixSet w B y0 y1 y2 y3 y4 y5).heap[C]? = some o := by
  have : ¬ B = C := fun e => hne e.symm
  simp [sixSet, World.setCell, Array.getElem?_modify, h, this]
theorem six_self (w : World) (B : Nat) (y0 y1 y2 y3 y4 y5 : Value) : Keep (fun b => b = B) w (sixSet w B y0 y1 y2 y3 y4 y5) := by
  refine Keep.setCell (S := fun b => b = B) (p := ⟨B, 5, none⟩) ?_ (.inl rfl) _
  refine Keep.setCell (S := fun b => b = B) (p := ⟨B, 4, none⟩) ?_ (.inl rfl) _
  refine Keep.setCell (S := fun b => b = B) (p := ⟨B, 3, none⟩) ?_ (.inl rfl) _
  refine Keep.setCell (S := fun b => b = B) (p := ⟨B, 2, none⟩) ?_ (.inl rfl) _
  refine Keep.setCell (S := fun b => b = B) (p := ⟨B, 1, none⟩) ?_ (.inl rfl) _
  refine Keep.setCell (S := fun b => b = B) (p := ⟨B, 0, none⟩) ?_ (.inl rfl) _
  exact Keep.refl _ _
theorem six_keep {w w1 : World} {B : Nat} (k : Keep (fun _ => False) w w1) (hB : w.heap.size ≤ B) (y0 y1 y2 y3 y4 y5 : Value) : Keep (fun _ => False) w (sixSet w1 B y0 y1 y2 y3 y4 y5) :=
  k.into (six_self w1 B y0 y1 y2 y3 y4 y5) (by rintro i rfl; exact hB)
theorem six_size (w : World) (B : Nat) (y0 y1 y2 y3 y4 y5 : Value) : (sixSet w B y0 y1 y2 y3 y4 y5).heap.size = w.heap.size := by simp [sixSet, World.setCell]
theorem pair_items {w : World} {a d : Raw} {pa pd : PV} {b : Nat} (hb : w.heap[b]? = some (.cells #[.int .i64 a.k, .int .i32 a.c, .bool a.neg, .slice pa.A pa.n pa.cp, .string a.t, .slice pa.B pa.m pa.cap, .int .i64 d.k, .int .i32 d.c, .bool d.neg, .slice pd.A pd.n pd.cp, .string d.t, .slice pd.B pd.m pd.cap] 27 (0, 0))) :
    ∀ i (h : i < [a, d].length), ItemC w b 0 i [a, d][i] (if i = 0 then pa else pd) := by
  intro i hi f u hu
  rw [cell_of_row w _ _ _ _ _ hb]
  match i, hi with
  | 0, _ =>
    match f, hu with
    | 0, hu | 1, hu | 2, hu | 3, hu | 4, hu | 5, hu => rw [← hu]; rfl
    | f + 6, hu => simp [rawC] at hu
  | 1, _ =>
    match f, hu with
    | 0, hu | 1, hu | 2, hu | 3, hu | 4, hu | 5, hu => rw [← hu]; rfl
    | f + 6, hu => simp [rawC] at hu
theorem pair_ch {N P : Nat → Prop} {w : World} {a d : Raw} {pa pd : PV} (ha : RawAt N P w a pa) (hd : RawAt N P w d pd) : ∀ i (h : i < [a, d].length), RawAt N P w [a, d][i] (if i = 0 then pa else pd) := by
  intro i hi
  match i, hi with
  | 0, _ => exact ha
  | 1, _ => exact hd
/-- Two data in a block of their own, as a pair. -/
theorem DatAt.pair {Q : Nat → Prop} {w : World} {a d : Raw} {pa pd : PV} {b : Nat} (ha : DatAt Q w a pa) (hd : DatAt Q w d pd) (hb : w.heap[b]? = some (.cells #[.int .i64 a.k, .int .i32 a.c, .bool a.neg, .slice pa.A pa.n pa.cp, .string a.t, .slice pa.B pa.m pa.cap, .int .i64 d.k, .int .i32 d.c, .bool d.neg, .slice pd.A pd.n pd.cp, .string d.t, .slice pd.B pd.m pd.cap] 27 (0, 0))) (hQ : Q b) :
    DatAt Q w (pairR a d) ⟨none, 0, 0, some ⟨b, 0, none⟩, 2, 2⟩ := by
  exact .mk (none_limbs w) (fun h => absurd h (Nat.lt_irrefl _)) rfl (Nat.le_refl _) (by show 2 * 88 ≤ _; omega) (fun i => if i = 0 then pa else pd) (fun _ => ⟨b, 0, rfl, hQ, pair_items hb⟩) (pair_ch ha hd)
end Go.Proofs.YtonnikipeokkaaaGreatDoor

namespace Go.Proofs.YtonnikipeokkaaaGreatDoor
open Go.RowKit Go.Lib

/-- Data in a row of another's, or in new memory behind a block. -/
def OrNew (P : Nat → Prop) (B : Nat) (b : Nat) : Prop := (P b ∧ b < B) ∨ B + 2 ≤ b
theorem list_drop {rs : List Raw} {i : Nat} (h : i < rs.length) : listR (rs.drop i) .nil = pairR rs[i] (listR (rs.drop (i + 1)) .nil) := by
  rw [List.drop_eq_getElem_cons h]; rfl
end Go.Proofs.YtonnikipeokkaaaGreatDoor

namespace Go.Proofs.YtonnikipeokkaaaGreatDoor
open Go.RowKit Go.Lib

end Go.Proofs.YtonnikipeokkaaaGreatDoor
