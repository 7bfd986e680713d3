/-
  What a call leaves as it was; rows of numbers that lie in memory. No function of the program in sight.
-/
import Derived.Test.YtdfekphahdmffaaDoorProg
import Derived.Test.YtdfekphahdmffaaDoorDigits
import Derived.WalkKit
import Derived.Deep.MidRow
import Derived.Below
import Derived.Deep.QuietTactic
import Derived.BigQuiet
import Derived.Lib.Hide
import Derived.Laws.AppendOwn
import Derived.Laws.MakeOwn
import Derived.Deep.AppendLies
import Derived.WalkSpells
import Derived.WalkLawsBesides
namespace Go.Proofs.YtdfekphahdmffaaDoor
open Go.RowKit

/-- Outside of the blocks in S nothing that was there has turned. -/
structure Keep (S : Nat → Prop) (w w' : World) : Prop where
  os : w'.os = w.os
  tape : w'.tape = w.tape
  output : w'.output = w.output
  size : w.heap.size ≤ w'.heap.size
  block : ∀ k, k < w.heap.size → ¬ S k → w'.heap[k]? = w.heap[k]?

namespace Keep
variable {S S' : Nat → Prop} {w w' w'' : World}
theorem refl (S : Nat → Prop) (w : World) : Keep S w w := ⟨rfl, rfl, rfl, Nat.le_refl _, fun _ _ _ => rfl⟩
theorem trans (h : Keep S w w') (k : Keep S w' w'') : Keep S w w'' :=
  ⟨k.os.trans h.os, k.tape.trans h.tape, k.output.trans h.output, Nat.le_trans h.size k.size, fun i hi hs => (k.block i (Nat.lt_of_lt_of_le hi h.size) hs).trans (h.block i hi hs)⟩
theorem mono (h : Keep S w w') (hs : ∀ k, k < w.heap.size → S k → S' k) : Keep S' w w' := ⟨h.os, h.tape, h.output, h.size, fun k hk hn => h.block k hk (fun e => hn (hs k hk e))⟩
theorem alloc (h : Keep S w w') (o : Obj) : Keep S w (w'.alloc o) :=
  ⟨h.os, h.tape, h.output, Nat.le_trans h.size (by simp), fun i hi hs => (Below.heap_alloc w' o i (Nat.lt_of_lt_of_le hi h.size)).trans (h.block i hi hs)⟩
theorem setCell (h : Keep S w w') {p : Addr} (hp : S p.block ∨ w.heap.size ≤ p.block) (u : Value) : Keep S w (w'.setCell p u) :=
  ⟨h.os, h.tape, h.output, by simpa [World.setCell] using h.size, fun i hi hs => (Below.heap_setCell w' p u i (by
    rintro rfl
    rcases hp with hp | hp
    · exact hs hp
    · omega)).trans (h.block i hi hs)⟩
theorem setCells (h : Keep S w w') {b : Nat} (hp : S b ∨ w.heap.size ≤ b) : ∀ (vs : List Value) (o : Nat), Keep S w (w'.setCells b o vs) := by
  intro vs
  induction vs generalizing w' with
  | nil => intro o; exact h
  | cons v vs ih => intro o; exact ih (h.setCell (p := ⟨b, o, none⟩) hp v) (o + 1)
theorem drew (h : Keep S w w') : Keep S w w'.drew := ⟨h.os, h.tape, h.output, h.size, h.block⟩
theorem drewN (h : Keep S w w') (n : Nat) : Keep S w (w'.drewN n) := ⟨h.os, h.tape, h.output, h.size, h.block⟩
theorem cell (h : Keep S w w') {p : Addr} (hl : p.block < w.heap.size) (hs : ¬ S p.block) : w'.cell? p = w.cell? p := World.cell?_of_block (w := w) (h.block p.block hl hs)
theorem frozen (h : Keep S w w') {p : Addr} (hl : p.block < w.heap.size) (hs : ¬ S p.block) : w'.frozen? p = w.frozen? p := World.frozen?_of_block (w := w) (h.block p.block hl hs)
/-- What had turned nothing below B has turned nothing below B still. -/
theorem below {B : Nat} {w0 : World} (h0 : Below B w0 w) (h : Keep S w w') (hB : B ≤ w.heap.size) (hs : ∀ k, S k → B ≤ k) : Below B w0 w' :=
  h0.trans ⟨h.os, h.tape, h.output, h.size, fun k hk => h.block k (by omega) (fun e => by have := hs k e; omega)⟩
end Keep


theorem Keep.heap {S : Nat → Prop} {w w' : World} (k : Keep S w w') {b : Nat} {o : Obj} (hb : w.heap[b]? = some o) (hs : ¬ S b) : w'.heap[b]? = some o := by
  have hl : b < w.heap.size := by
    rcases Nat.lt_or_ge b w.heap.size with hlt | hge
    · exact hlt
    · rw [Array.getElem?_eq_none hge] at hb; cases hb
  rw [k.block b hl hs]; exact hb
theorem heap_lt {w : World} {b : Nat} {o : Obj} (h : w.heap[b]? = some o) : b < w.heap.size := by
  rcases Nat.lt_or_ge b w.heap.size with hlt | hge
  · exact hlt
  · rw [Array.getElem?_eq_none hge] at h; cases h
theorem Keep.into {S : Nat → Prop} {w a b : World} (h : Keep (fun _ => False) w a) (k : Keep S a b) (hs : ∀ i, S i → w.heap.size ≤ i) : Keep (fun _ => False) w b :=
  ⟨k.os.trans h.os, k.tape.trans h.tape, k.output.trans h.output, Nat.le_trans h.size k.size, fun i hi _ => (k.block i (Nat.lt_of_lt_of_le hi h.size) (fun e => by have := hs i e; omega)).trans (h.block i hi (by simp))⟩
theorem Keep.below0 {w w' : World} (h : Keep (fun _ => False) w w') : Below w.heap.size w w' := ⟨h.os, h.tape, h.output, h.size, fun k hk => h.block k hk (by simp)⟩
theorem Keep.grown {S : Nat → Prop} {w a b : World} {row : Option Nat} (h : Keep S w a) (hg : a.grownBy b row) (hr : ∀ k, row = some k → S k ∨ w.heap.size ≤ k) : Keep S w b :=
  ⟨hg.os.trans h.os, hg.tape.trans h.tape, hg.output.trans h.output, Nat.le_trans h.size hg.size, fun i hi hs => (hg.block i (Nat.lt_of_lt_of_le hi h.size) (fun e => by
    rcases hr i e.symm with h' | h'
    · exact hs h'
    · omega)).trans (h.block i hi hs)⟩
theorem Keep.join {S S' : Nat → Prop} {w a b : World} (h : Keep S w a) (k : Keep S' a b) (hs : ∀ i, i < w.heap.size → S' i → S i) : Keep S w b :=
  ⟨k.os.trans h.os, k.tape.trans h.tape, k.output.trans h.output, Nat.le_trans h.size k.size, fun i hi hn => (k.block i (Nat.lt_of_lt_of_le hi h.size) (fun e => hn (hs i hi e))).trans (h.block i hi hn)⟩
theorem Keep.of_below {w w' : World} (h : Below w.heap.size w w') : Keep (fun _ => False) w w' := ⟨h.os, h.tape, h.output, h.size, fun k hk _ => h.block k hk⟩
theorem Keep.of_grown {w w' : World} {row : Option Nat} (h : w.grownBy w' row) : Keep (fun b => some b = row) w w' := ⟨h.os, h.tape, h.output, h.size, fun i hi hn => h.block i hi hn⟩

/-- A row of numbers of the kind q lies there. -/
def RowAt (q : IntKind) (w : World) (A : Option Addr) (n : Nat) (l : List Nat) : Prop :=
  l.length = n ∧ ∀ j, j < n → ∃ b off, A = some ⟨b, off, none⟩ ∧ b < w.heap.size ∧ w.cell? ⟨b, off + j, none⟩ = some (.int q ((l.getD j 0 : Nat) : Int))
namespace RowAt
variable {q : IntKind} {w w' : World} {A : Option Addr} {n : Nat} {l : List Nat}
theorem keep {S : Nat → Prop} (h : RowAt q w A n l) (k : Keep S w w') (hs : 0 < n → ∀ b off, A = some ⟨b, off, none⟩ → ¬ S b) : RowAt q w' A n l :=
  ⟨h.1, fun j hj => by
    obtain ⟨b, off, e, hb, hc⟩ := h.2 j hj
    exact ⟨b, off, e, Nat.lt_of_lt_of_le hb k.size, (k.cell (p := ⟨b, off + j, none⟩) hb (hs (by omega) b off e)).trans hc⟩⟩
theorem keep0 (h : RowAt q w A n l) (k : Keep (fun _ => False) w w') : RowAt q w' A n l := h.keep k (fun _ _ _ _ => id)
theorem nil (q : IntKind) (w : World) (A : Option Addr) : RowAt q w A 0 [] := ⟨rfl, fun j hj => absurd hj (Nat.not_lt_zero j)⟩
theorem take (h : RowAt q w A n l) {m : Nat} (hm : m ≤ n) : RowAt q w A m (l.take m) := by
  refine ⟨by rw [List.length_take, h.1]; omega, fun j hj => ?_⟩
  obtain ⟨b, off, e, hb, hc⟩ := h.2 j (by omega)
  refine ⟨b, off, e, hb, ?_⟩
  rw [hc, List.getD_eq_getElem?_getD, List.getD_eq_getElem?_getD, List.getElem?_take, if_pos hj]
end RowAt

/-- A row that the call has made itself: at the head of a block from base on, of the element type e. -/
def OwnR (e : TypeId) (q : IntKind) (w : World) (base : Nat) (A : Option Addr) (n c : Nat) (l : List Nat) : Prop := w.ownsRow base e 1 (.slice A n c) n (l.map fun x : Nat => Value.int q (x : Int))
namespace OwnR
variable {e : TypeId} {q : IntKind} {w w' : World} {base n c : Nat} {A : Option Addr} {l : List Nat}
theorem len (h : OwnR e q w base A n c l) : l.length = n := by have := h.1; simpa using this
theorem fresh (h : OwnR e q w base A n c l) : ∀ b off, A = some ⟨b, off, none⟩ → base ≤ b ∧ b < w.heap.size := by
  intro b off e1
  subst e1
  exact World.ownsRow.lt h b rfl
theorem row (h : OwnR e q w base A n c l) : RowAt q w A n l := by
  have hl := h.len
  refine ⟨hl, fun j hj => ?_⟩
  obtain ⟨g, c', hv, _, hlt⟩ := World.ownsRow.form h (by omega)
  injection hv with h1 _ h3
  subst h1 h3
  refine ⟨g, 0, rfl, hlt, ?_⟩
  rw [Nat.zero_add, World.ownsRow.cellAt h j (by omega)]
  simp [List.getElem?_map, List.getD_eq_getElem?_getD, List.getElem?_eq_getElem (show j < l.length by omega)]
theorem keep {S : Nat → Prop} (h : OwnR e q w base A n c l) (K : Keep S w w') (hs : ∀ b off, A = some ⟨b, off, none⟩ → ¬ S b) : OwnR e q w' base A n c l := by
  refine ⟨h.1, ?_⟩
  rcases h.2 with hn | ⟨g, cap, cur, hv, hg, hh, rest⟩
  · exact .inl hn
  · refine .inr ⟨g, cap, cur, hv, hg, ?_, rest⟩
    injection hv with h1 _ _
    rw [K.block g (heap_lt hh) (hs g 0 h1)]
    exact hh
theorem keep0 (h : OwnR e q w base A n c l) (K : Keep (fun _ => False) w w') : OwnR e q w' base A n c l := h.keep K (fun _ _ _ => id)
theorem mono (h : OwnR e q w base A n c l) {base' : Nat} (hb : base' ≤ base) : OwnR e q w base' A n c l :=
  ⟨h.1, h.2.imp id fun ⟨g, cap, cur, h1, h2, h3⟩ => ⟨g, cap, cur, h1, Nat.le_trans hb h2, h3⟩⟩
theorem take (h : OwnR e q w base A n c l) {m : Nat} (hm : m ≤ n) : OwnR e q w base A m c (l.take m) := by
  have hl := h.len
  refine ⟨by simp [hl]; omega, ?_⟩
  rcases h.2 with ⟨hv, h0⟩ | ⟨g, cap, cur, hv, hg, hh, h1, h2, h3, h4⟩
  · subst h0
    obtain rfl : m = 0 := by omega
    exact .inl ⟨hv, rfl⟩
  · injection hv with e1 _ e3
    subst e1 e3
    refine .inr ⟨g, c, cur, rfl, hg, hh, by omega, h2, h3, ?_⟩
    rw [List.map_take, ← h4, List.take_take]
    simp only [Nat.mul_one]
    rw [Nat.min_eq_left hm]
theorem nil (e : TypeId) (q : IntKind) (w : World) (base : Nat) : OwnR e q w base none 0 0 [] := World.ownsRow_nil _ _ _ _
theorem frozen (h : OwnR e q w base A n c l) : ∀ b off, A = some ⟨b, off, none⟩ → ∀ j, w.frozen? ⟨b, j, none⟩ = false := by
  intro b off e1 j
  subst e1
  rcases h.2 with ⟨hv, _⟩ | ⟨g, cap, cur, hv, hg, hh, _⟩
  · cases hv
  · injection hv with e1 _ _
    injection e1 with e1
    injection e1 with e1 _ _
    subst e1
    simp [World.frozen?, hh]
/-- A store. -/
theorem set {b : Nat} (h : OwnR e q w base (some ⟨b, 0, none⟩) n c l) {j : Nat} (_hj : j < n) (x : Nat) : OwnR e q (w.setCell ⟨b, j, none⟩ (.int q (x : Int))) base (some ⟨b, 0, none⟩) n c (l.set j x) := by
  refine ⟨by rw [List.length_map, List.length_set]; have := h.1; simpa using this, ?_⟩
  rcases h.2 with ⟨hn, _⟩ | ⟨g', cap', cur, hv, hg, hh, h1, h2, h3, h4⟩
  · cases hn
  · simp only [Value.slice.injEq, Option.some.injEq, Addr.mk.injEq, and_true, true_and] at hv
    obtain ⟨rfl, rfl⟩ := hv
    refine .inr ⟨b, c, cur.setIfInBounds j (.int q (x : Int)), rfl, hg, by simp [World.setCell, Array.getElem?_modify, hh], h1, h2, by simpa using h3, ?_⟩
    rw [Array.toList_setIfInBounds, List.take_set, h4, List.map_set]
end OwnR
theorem setCell_keep {S : Nat → Prop} {w : World} {b : Nat} (hb : S b) (j : Nat) (u : Value) : Keep S w (w.setCell ⟨b, j, none⟩ u) := (Keep.refl S w).setCell (p := ⟨b, j, none⟩) (.inl hb) u

/-- The bound of a limb. -/
def BB : Nat := 4294967296
theorem BB2 : 2 ≤ BB := by unfold BB; omega
theorem low_cast {l : List Nat} (h : Low BB l) (j : Nat) : ((l.getD j 0 : Nat) : Int) ≤ 4294967295 := by
  have := h.getD (by unfold BB; omega) j
  unfold BB at this
  omega
/-- The limbs of a number. -/
abbrev limbs (n : Nat) : List Nat := digs BB n
/-- The value of limbs. -/
abbrev lval (l : List Nat) : Nat := val BB l
end Go.Proofs.YtdfekphahdmffaaDoor
