/-
  The memory of package seg, as a plain value of Lean, and what it is that a world holds it. No program in sight.
-/
import Derived.WalkKit
import Derived.Deep.MidRow
import Derived.Below
import Derived.Deep.QuietTactic
namespace Go.Proofs.Ytgnpeciedefeiaa
open Go.RowKit

/-- A segment. -/
structure Sg where
  gen : Int
  kind : Int
  n : Int
  c0 : Int
  c1 : Int
  c2 : Int
  c3 : Int
  taken : Int
  words : Nat → Int

/-- The cells of a segment, 72 of them. -/
def Sg.cell (s : Sg) : Nat → Value
  | 0 => .int .i64 s.gen
  | 1 => .int .i64 s.kind
  | 2 => .int .i64 s.n
  | 3 => .int .i64 s.c0
  | 4 => .int .i64 s.c1
  | 5 => .int .i64 s.c2
  | 6 => .int .i64 s.c3
  | 7 => .int .i64 s.taken
  | j + 8 => .int .u64 (s.words j)

/-- One that is free. -/
def Sg.none : Sg := { gen := 0, kind := 0, n := 0, c0 := 0, c1 := 0, c2 := 0, c3 := 0, taken := 0, words := fun _ => 0 }

/-- A memory: how many segments, how often one was taken, how many are free, the segments. -/
structure MemV where
  lim : Nat
  count : Int
  free : Int
  sg : Nat → Sg

/-- Outside of the blocks in S nothing that was there has turned. -/
structure Keep (S : Nat → Prop) (w w' : World) : Prop where
  os : w'.os = w.os
  tape : w'.tape = w.tape
  output : w'.output = w.output
  size : w.heap.size ≤ w'.heap.size
  block : ∀ k, k < w.heap.size → ¬ S k → w'.heap[k]? = w.heap[k]?

namespace Keep
variable {S S' : Nat → Prop} {w w' w'' : World}
theorem refl (S : Nat → Prop) (w : World) : Keep S w w := ⟨rfl, rfl, rfl, Nat.le_refl _, fun _ _ _ => rfl⟩
theorem trans (h : Keep S w w') (k : Keep S w' w'') : Keep S w w'' :=
  ⟨k.os.trans h.os, k.tape.trans h.tape, k.output.trans h.output, Nat.le_trans h.size k.size, fun i hi hs => (k.block i (Nat.lt_of_lt_of_le hi h.size) hs).trans (h.block i hi hs)⟩
theorem mono (h : Keep S w w') (hs : ∀ k, k < w.heap.size → S k → S' k) : Keep S' w w' := ⟨h.os, h.tape, h.output, h.size, fun k hk hn => h.block k hk (fun e => hn (hs k hk e))⟩
theorem alloc (h : Keep S w w') (o : Obj) : Keep S w (w'.alloc o) :=
  ⟨h.os, h.tape, h.output, Nat.le_trans h.size (by simp), fun i hi hs => (Below.heap_alloc w' o i (Nat.lt_of_lt_of_le hi h.size)).trans (h.block i hi hs)⟩
theorem setCell (h : Keep S w w') {p : Addr} (hp : S p.block ∨ w.heap.size ≤ p.block) (u : Value) : Keep S w (w'.setCell p u) :=
  ⟨h.os, h.tape, h.output, by simpa [World.setCell] using h.size, fun i hi hs => (Below.heap_setCell w' p u i (by
    rintro rfl
    rcases hp with hp | hp
    · exact hs hp
    · omega)).trans (h.block i hi hs)⟩
theorem setCells (h : Keep S w w') {b : Nat} (hp : S b ∨ w.heap.size ≤ b) : ∀ (vs : List Value) (o : Nat), Keep S w (w'.setCells b o vs) := by
  intro vs
  induction vs generalizing w' with
  | nil => intro o; exact h
  | cons v vs ih => intro o; exact ih (h.setCell (p := ⟨b, o, none⟩) hp v) (o + 1)
theorem drew (h : Keep S w w') : Keep S w w'.drew := ⟨h.os, h.tape, h.output, h.size, h.block⟩
theorem drewN (h : Keep S w w') (n : Nat) : Keep S w (w'.drewN n) := ⟨h.os, h.tape, h.output, h.size, h.block⟩
theorem cell (h : Keep S w w') {p : Addr} (hl : p.block < w.heap.size) (hs : ¬ S p.block) : w'.cell? p = w.cell? p := World.cell?_of_block (w := w) (h.block p.block hl hs)
theorem frozen (h : Keep S w w') {p : Addr} (hl : p.block < w.heap.size) (hs : ¬ S p.block) : w'.frozen? p = w.frozen? p := World.frozen?_of_block (w := w) (h.block p.block hl hs)
/-- What had turned nothing below B has turned nothing below B still. -/
theorem below {B : Nat} {w0 : World} (h0 : Below B w0 w) (h : Keep S w w') (hB : B ≤ w.heap.size) (hs : ∀ k, S k → B ≤ k) : Below B w0 w' :=
  h0.trans ⟨h.os, h.tape, h.output, h.size, fun k hk => h.block k (by omega) (fun e => by have := hs k e; omega)⟩
end Keep

/-- The segments lie in block g. -/
def SegsAt (w : World) (g lim : Nat) (sg : Nat → Sg) : Prop :=
  (∃ c, w.heap[g]? = some (.cells c 110 (0, 0))) ∧ ∀ k, k < lim → ∀ j, j < 72 → w.cell? ⟨g, k * 72 + j, none⟩ = some ((sg k).cell j)

/-- The memory M lies at block p, its segments in block g. -/
structure MemAt (w : World) (p g : Nat) (M : MemV) : Prop where
  head : ∃ cap, w.heap[p]? = some (.cells #[.slice (some ⟨g, 0, none⟩) M.lim cap, .int .i64 M.count, .int .i64 M.free] 57 (0, 0))
  segs : SegsAt w g M.lim M.sg

theorem SegsAt.of_block {w w' : World} {g lim : Nat} {sg : Nat → Sg} (h : SegsAt w g lim sg) (e : w'.heap[g]? = w.heap[g]?) : SegsAt w' g lim sg :=
  ⟨by rw [e]; exact h.1, fun k hk j hj => (World.cell?_of_block (w := w) (a := ⟨g, k * 72 + j, none⟩) e).trans (h.2 k hk j hj)⟩
theorem SegsAt.lt {w : World} {g lim : Nat} {sg : Nat → Sg} (h : SegsAt w g lim sg) : g < w.heap.size := by
  obtain ⟨c, hc⟩ := h.1
  rcases Nat.lt_or_ge g w.heap.size with hlt | hge
  · exact hlt
  · rw [Array.getElem?_eq_none hge] at hc; cases hc
theorem SegsAt.frozen {w : World} {g lim : Nat} {sg : Nat → Sg} (h : SegsAt w g lim sg) (i : Nat) : w.frozen? ⟨g, i, none⟩ = false := by
  obtain ⟨c, hc⟩ := h.1
  simp [World.frozen?, hc]
theorem MemAt.lt {w : World} {p g : Nat} {M : MemV} (h : MemAt w p g M) : p < w.heap.size := by
  obtain ⟨c, hc⟩ := h.head
  rcases Nat.lt_or_ge p w.heap.size with hlt | hge
  · exact hlt
  · rw [Array.getElem?_eq_none hge] at hc; cases hc
theorem MemAt.ne {w : World} {p g : Nat} {M : MemV} (h : MemAt w p g M) : p ≠ g := by
  rintro rfl
  obtain ⟨c, hc⟩ := h.head
  obtain ⟨⟨d, hd⟩, _⟩ := h.segs
  rw [hc] at hd
  injection hd with hd
  injection hd with _ hd
  exact absurd hd (by decide)
theorem MemAt.cells {w : World} {p g : Nat} {M : MemV} (h : MemAt w p g M) : ∃ cap, w.cell? ⟨p, 0, none⟩ = some (.slice (some ⟨g, 0, none⟩) M.lim cap) ∧ w.cell? ⟨p, 1, none⟩ = some (.int .i64 M.count) ∧ w.cell? ⟨p, 2, none⟩ = some (.int .i64 M.free) := by
  obtain ⟨c, hc⟩ := h.head
  exact ⟨c, by rw [cell_of_row w p 0 _ _ _ hc]; rfl, by rw [cell_of_row w p 1 _ _ _ hc]; rfl, by rw [cell_of_row w p 2 _ _ _ hc]; rfl⟩
theorem MemAt.frozen {w : World} {p g : Nat} {M : MemV} (h : MemAt w p g M) (i : Nat) : w.frozen? ⟨p, i, none⟩ = false := by
  obtain ⟨c, hc⟩ := h.head
  simp [World.frozen?, hc]
/-- A memory stays where neither of its blocks is written. -/
theorem MemAt.keep {S : Nat → Prop} {w w' : World} {p g : Nat} {M : MemV} (h : MemAt w p g M) (k : Keep S w w') (hp : ¬ S p) (hg : ¬ S g) : MemAt w' p g M :=
  ⟨by obtain ⟨c, hc⟩ := h.head; exact ⟨c, by rw [k.block p h.lt hp]; exact hc⟩, h.segs.of_block (k.block g h.segs.lt hg)⟩

end Go.Proofs.Ytgnpeciedefeiaa
