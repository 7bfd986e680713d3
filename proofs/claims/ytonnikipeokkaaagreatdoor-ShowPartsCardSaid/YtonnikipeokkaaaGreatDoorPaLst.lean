/-
  Rows of data; pairs made from a row's end.
  The document's reading: a list.
  The document's reading: a list, the walk.
-/
import Derived.Test.YtonnikipeokkaaaGreatDoorPaDoc
import Derived.IntWalk
import Derived.Test.YtonnikipeokkaaaGreatDoorPaPlain
import Derived.Maps.AppendAt
namespace Go.Proofs.YtonnikipeokkaaaGreatDoor
open Go.RowKit Go.Lib

theorem info27 : (Tryz.prog.info? 27).map (fun i => (i.zero, i.size, i.bytes)) = some (some (.agg #[.int .i64 0, .int .i32 0, .bool false, .slice none 0 0, .string ⟨#[]⟩, .slice none 0 0]), 6, 88) := by kernel_rfl
def datC (x : Raw × PV) : List Value := [.int .i64 x.1.k, .int .i32 x.1.c, .bool x.1.neg, .slice x.2.A x.2.n x.2.cp, .string x.1.t, .slice x.2.B x.2.m x.2.cap]
theorem drow_off {w : World} {base n c : Nat} {A : Option Addr} {xs : List Value} (h : w.ownsRow base 27 6 (.slice A n c) n xs) : ∀ b, (Value.slice A n c).ownBlock = some b → base ≤ b ∧ b < w.heap.size ∧ ¬ T126 w b := by
  intro b hb
  rcases h.2 with ⟨hv, h0⟩ | ⟨g, cap, cur, hv, hg, hh, h1, h2⟩
  · injection hv with e1 _ _
    subst e1
    cases hb
  · injection hv with e1 _ _
    subst e1
    injection hb with hb
    subst hb
    exact ⟨hg, heap_lt hh, not_T126 hh (by decide)⟩
theorem drow_slice {w : World} {base k : Nat} {v : Value} {xs : List Value} (h : w.ownsRow base 27 6 v (k + 1) xs) : ∃ A c, v = .slice A (k + 1) c := by
  rcases h.2 with ⟨hv, h0⟩ | ⟨g, cap, cur, hv, _⟩
  · omega
  · exact ⟨_, _, hv⟩
theorem drow_keep {S : Nat → Prop} {w w' : World} {base n c : Nat} {A : Option Addr} {xs : List Value} (h : w.ownsRow base 27 6 (.slice A n c) n xs) (K : Keep S w w') (hs : ∀ b, (Value.slice A n c).ownBlock = some b → ¬ S b) : w'.ownsRow base 27 6 (.slice A n c) n xs := by
  refine ⟨h.1, ?_⟩
  rcases h.2 with ⟨hv, h0⟩ | ⟨g, cap, cur, hv, hg, hh, h1, h2⟩
  · exact .inl ⟨hv, h0⟩
  · refine .inr ⟨g, cap, cur, hv, hg, K.heap hh (hs g ?_), h1, h2⟩
    injection hv with e1 _ _
    subst e1
    rfl
theorem drow_cap {w : World} {base n c : Nat} {A : Option Addr} {xs : List Value} (h : w.ownsRow base 27 6 (.slice A n c) n xs) : n ≤ c := by
  rcases h.2 with ⟨hv, h0⟩ | ⟨g, cap, cur, hv, hg, hh, h1, _⟩
  · omega
  · injection hv with _ _ e3
    omega
theorem drow_some {w : World} {base n c : Nat} {A : Option Addr} {xs : List Value} (h : w.ownsRow base 27 6 (.slice A n c) n xs) (hn : 0 < n) : ∃ g, A = some ⟨g, 0, none⟩ ∧ base ≤ g := by
  rcases h.2 with ⟨hv, h0⟩ | ⟨g, cap, cur, hv, hg, _⟩
  · omega
  · injection hv with e1 _ _
    exact ⟨g, e1, hg⟩
theorem dflat_at : ∀ (xs : List (Raw × PV)) (i : Nat) (h : i < xs.length), ∀ f, f < 6 → (xs.flatMap datC)[6 * i + f]? = (datC xs[i])[f]?
  | v :: vs, 0, _, f, hf => by
    rw [List.flatMap_cons, Nat.mul_zero, Nat.zero_add, List.getElem?_append_left (by unfold datC; exact hf)]
    rfl
  | v :: vs, i + 1, h, f, hf => by
    rw [List.flatMap_cons, List.getElem?_append_right (by unfold datC; simp only [List.length_cons, List.length_nil]; omega)]
    have : 6 * (i + 1) + f - (datC v).length = 6 * i + f := by unfold datC; simp only [List.length_cons, List.length_nil]; omega
    rw [this]
    exact dflat_at vs i (by simpa using h) f hf
theorem drow_item {w : World} {base n c g : Nat} {xs : List (Raw × PV)} (h : w.ownsRow base 27 6 (.slice (some ⟨g, 0, none⟩) n c) n (xs.flatMap datC)) {i : Nat} (hi : i < xs.length) : ItemC w g 0 i xs[i].1 xs[i].2 := by
  intro f u hu
  have hf : f < 6 := by
    match f, hu with
    | 0, _ | 1, _ | 2, _ | 3, _ | 4, _ | 5, _ => omega
    | f + 6, hu => simp [rawC] at hu
  have h2 := dflat_at xs i hi f hf
  have h3 : (datC xs[i])[f]? = some u := by
    match f, hu with
    | 0, hu | 1, hu | 2, hu | 3, hu | 4, hu | 5, hu => rw [← hu]; rfl
    | f + 6, hu => simp [rawC] at hu
  rw [h3] at h2
  have := World.ownsRow.cellAt h (6 * i + f) (by
    have := (List.getElem?_eq_some_iff.1 h2).1
    rw [h.1] at this
    exact this)
  rw [Nat.zero_add, Nat.mul_comm i 6, this, h2]
end Go.Proofs.YtonnikipeokkaaaGreatDoor

namespace Go.Proofs.YtonnikipeokkaaaGreatDoor
open Go.RowKit Go.Lib

/-- What is our own, but for one row. -/
def Oth (B : Nat) (v : Value) (b : Nat) : Prop := B ≤ b ∧ v.ownBlock ≠ some b
end Go.Proofs.YtonnikipeokkaaaGreatDoor

namespace Go.Proofs.YtonnikipeokkaaaGreatDoor
open Go.RowKit Go.Lib

theorem new_six {w : World} {B : Nat} {x0 x1 x2 x3 x4 x5 : Value} (h : w.heap[B]? = some (.cells #[x0, x1, x2, x3, x4, x5] 27 (0, 0))) : ∀ j u, [x0, x1, x2, x3, x4, x5][j]? = some u → w.cell? ((⟨B, 0, none⟩ : Addr).add j) = some u := by
  intro j u hu
  rw [Addr.add_lit, Nat.zero_add, cell_of_row w _ _ _ _ _ h, ← hu]
  simp
end Go.Proofs.YtonnikipeokkaaaGreatDoor
