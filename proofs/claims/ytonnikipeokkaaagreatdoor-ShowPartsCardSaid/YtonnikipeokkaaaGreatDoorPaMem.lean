/-
  lex: All.
  The law's sample of lex.
  The law of lex and its document: one token.
  Data in memory.
  The machine's step in two: what a token does, and what a datum that has ended does. Plain Lean.
-/
import Derived.Test.YtonnikipeokkaaaGreatDoorLxTop
import Derived.Maps.AppendAt
import Derived.Test.YtonnikipeokkaaaGreatDoorRlSame
import Derived.Test.YtonnikipeokkaaaGreatDoorRlRunes
import Derived.Test.YtonnikipeokkaaaGreatDoorLxWord
import Derived.Test.YtonnikipeokkaaaGreatDoorLxNum
import Derived.Test.YtonnikipeokkaaaGreatDoorPaRl
import Derived.Test.YtonnikipeokkaaaGreatDoorLxChar
import Derived.Test.YtonnikipeokkaaaGreatDoorN3
import Derived.Test.YtonnikipeokkaaaGreatDoorPaLx
import Derived.Laws.BytesArg
import Derived.Laws.IdiomStrings
import Derived.Test.YtonnikipeokkaaaGreatDoorPaPlain
namespace Go.Proofs.YtonnikipeokkaaaGreatDoor
open Go.RowKit Go.Lib

end Go.Proofs.YtonnikipeokkaaaGreatDoor

namespace Go.Proofs.YtonnikipeokkaaaGreatDoor
open Go.RowKit Go.Lib

end Go.Proofs.YtonnikipeokkaaaGreatDoor

namespace Go.Proofs.YtonnikipeokkaaaGreatDoor
open Go.RowKit Go.Lib

end Go.Proofs.YtonnikipeokkaaaGreatDoor

namespace Go.Proofs.YtonnikipeokkaaaGreatDoor
open Go.RowKit Go.Lib

def Raw.k : Raw → Int
  | .mk k _ _ _ _ _ => k
def Raw.c : Raw → Int
  | .mk _ c _ _ _ _ => c
def Raw.neg : Raw → Bool
  | .mk _ _ neg _ _ _ => neg
def Raw.mag : Raw → List Nat
  | .mk _ _ _ mag _ _ => mag
def Raw.t : Raw → ByteArray
  | .mk _ _ _ _ t _ => t
def Raw.l : Raw → List Raw
  | .mk _ _ _ _ _ l => l
/-- Where a datum's number and items lie. -/
structure PV where
  A : Option Addr
  n : Nat
  cp : Nat
  B : Option Addr
  m : Nat
  cap : Nat
def PV.none : PV := ⟨.none, 0, 0, .none, 0, 0⟩
/-- A datum's cells. -/
abbrev rawC (r : Raw) (p : PV) : Array Value := #[.int .i64 r.k, .int .i32 r.c, .bool r.neg, .slice p.A p.n p.cp, .string r.t, .slice p.B p.m p.cap]
abbrev rawV (r : Raw) (p : PV) : Value := .agg #[.int .i64 r.k, .int .i32 r.c, .bool r.neg, .slice p.A p.n p.cp, .string r.t, .slice p.B p.m p.cap]
/-- The cells of the i-th of a row of data. -/
def ItemC (w : World) (b off i : Nat) (r : Raw) (p : PV) : Prop := ∀ f u, (rawC r p)[f]? = some u → w.cell? ⟨b, off + i * 6 + f, .none⟩ = some u
/-- A datum in memory: its number lies in a block for which N holds, its items in blocks for which P holds. -/
inductive RawAt (N P : Nat → Prop) (w : World) : Raw → PV → Prop
  | mk {r : Raw} {p : PV} (num : LimbsAt w p.A p.n p.cp r.mag) (nP : 0 < p.n → ∀ b off, p.A = some ⟨b, off, .none⟩ → N b)
    (len : r.l.length = p.m) (mcap : p.m ≤ p.cap) (big : p.m * 88 ≤ 140737488351232) (vs : Nat → PV) (row : 0 < p.m → ∃ b off, p.B = some ⟨b, off, .none⟩ ∧ P b ∧ ∀ i (h : i < r.l.length), ItemC w b off i r.l[i] (vs i))
    (ch : ∀ i (h : i < r.l.length), RawAt N P w r.l[i] (vs i)) : RawAt N P w r p
theorem ItemC.keep {S : Nat → Prop} {w w' : World} {b off i : Nat} {r : Raw} {p : PV} (h : ItemC w b off i r p) (K : Keep S w w') (hs : ¬ S b) : ItemC w' b off i r p := fun f u hu => by
  have := h f u hu
  rw [K.cell (p := ⟨b, off + i * 6 + f, .none⟩) (World.block_lt_of_cell? w _ this) hs]; exact this
theorem RawAt.keep {S N P : Nat → Prop} {w w' : World} {r : Raw} {p : PV} (h : RawAt N P w r p) (K : Keep S w w') (hs : ∀ b, S b → ¬ P b ∧ ¬ N b) : RawAt N P w' r p := by
  induction h with
  | mk num nP len mcap big vs row ch ih =>
    refine .mk (num.keep K (fun hn b off e hS => (hs b hS).2 (nP hn b off e))) nP len mcap big vs (fun hm => ?_) ih
    obtain ⟨b, off, e, hP, hc⟩ := row hm
    exact ⟨b, off, e, hP, fun i h => (hc i h).keep K (fun hS => (hs b hS).1 hP)⟩
theorem RawAt.keep0 {N P : Nat → Prop} {w w' : World} {r : Raw} {p : PV} (h : RawAt N P w r p) (K : Keep (fun _ => False) w w') : RawAt N P w' r p := h.keep K (fun _ h => h.elim)
theorem RawAt.mono {N M P Q : Nat → Prop} {w : World} {r : Raw} {p : PV} (h : RawAt N P w r p) (hn : ∀ b, b < w.heap.size → N b → M b) (hs : ∀ b, b < w.heap.size → P b → Q b) : RawAt M Q w r p := by
  induction h with
  | @mk r p num nP len mcap big vs row ch ih =>
    refine .mk num (fun hm b off e => hn b ?_ (nP hm b off e)) len mcap big vs (fun hm => ?_) ih
    · obtain ⟨b', off', e', lt⟩ := num.lt hm
      rw [e] at e'
      injection e' with e'; injection e' with e'
      subst e'; exact lt
    · obtain ⟨b, off, e, hP, hc⟩ := row hm
      have hi : 0 < r.l.length := by omega
      have := hc 0 hi 0 (.int .i64 (r.l[0]).k) rfl
      exact ⟨b, off, e, hs b (World.block_lt_of_cell? w _ this) hP, hc⟩
theorem ItemC.cells {w : World} {b off i : Nat} {r : Raw} {p : PV} (h : ItemC w b off i r p) : w.cell? ⟨b, off + i * 6, .none⟩ = some (.int .i64 r.k) ∧ w.cell? ⟨b, off + i * 6 + 1, .none⟩ = some (.int .i32 r.c) ∧ w.cell? ⟨b, off + i * 6 + 2, .none⟩ = some (.bool r.neg) ∧ w.cell? ⟨b, off + i * 6 + 3, .none⟩ = some (.slice p.A p.n p.cp) ∧ w.cell? ⟨b, off + i * 6 + 4, .none⟩ = some (.string r.t) ∧ w.cell? ⟨b, off + i * 6 + 5, .none⟩ = some (.slice p.B p.m p.cap) :=
  ⟨h 0 _ rfl, h 1 _ rfl, h 2 _ rfl, h 3 _ rfl, h 4 _ rfl, h 5 _ rfl⟩
theorem RawAt.num {N P : Nat → Prop} {w : World} {r : Raw} {p : PV} (h : RawAt N P w r p) : LimbsAt w p.A p.n p.cp r.mag := by cases h with | mk num => exact num
theorem RawAt.len {N P : Nat → Prop} {w : World} {r : Raw} {p : PV} (h : RawAt N P w r p) : r.l.length = p.m := by cases h with | mk _ _ len => exact len
/-- A block of limbs. -/
def T126 (w : World) (b : Nat) : Prop := ∃ X, w.heap[b]? = some (.cells X 126 (0, 0))
theorem T126.keep {S : Nat → Prop} {w w' : World} {b : Nat} (h : T126 w b) (K : Keep S w w') (hs : ¬ S b) : T126 w' b := by
  obtain ⟨X, hX⟩ := h
  exact ⟨X, K.heap hX hs⟩
theorem not_T126 {w : World} {b : Nat} {X : Array Value} {T : TypeId} {fz : Nat × Nat} (h : w.heap[b]? = some (.cells X T fz)) (hT : T ≠ 126) : ¬ T126 w b := by
  rintro ⟨Y, hY⟩
  rw [h] at hY
  injection hY with hY
  injection hY with _ hY
  exact hT hY
/-- A datum of our own make: its number lies in a block of limbs. -/
abbrev DatAt (P : Nat → Prop) (w : World) (r : Raw) (p : PV) : Prop := RawAt (T126 w) P w r p
theorem DatAt.keep {S P : Nat → Prop} {w w' : World} {r : Raw} {p : PV} (h : DatAt P w r p) (K : Keep S w w') (hs : ∀ b, S b → ¬ P b ∧ ¬ T126 w b) : DatAt P w' r p :=
  (RawAt.keep h K hs).mono (fun b _ hn => hn.keep K (fun hS => (hs b hS).2 hn)) (fun _ _ hP => hP)
theorem DatAt.keep0 {P : Nat → Prop} {w w' : World} {r : Raw} {p : PV} (h : DatAt P w r p) (K : Keep (fun _ => False) w w') : DatAt P w' r p := h.keep K (fun _ h => h.elim)
theorem DatAt.mono {P Q : Nat → Prop} {w : World} {r : Raw} {p : PV} (h : DatAt P w r p) (hs : ∀ b, b < w.heap.size → P b → Q b) : DatAt Q w r p := RawAt.mono h (fun _ _ hn => hn) hs
theorem RawAt.nil (N P : Nat → Prop) (w : World) : RawAt N P w .nil PV.none :=
  .mk (none_limbs w) (fun h => absurd h (Nat.lt_irrefl _)) rfl (Nat.le_refl _) (show 0 * 88 ≤ 140737488351232 by omega) (fun _ => PV.none) (fun h => absurd h (Nat.lt_irrefl _)) (fun _ h => absurd h (Nat.not_lt_zero _))
end Go.Proofs.YtonnikipeokkaaaGreatDoor

namespace Go.Proofs.YtonnikipeokkaaaGreatDoor
open Go.Lib

end Go.Proofs.YtonnikipeokkaaaGreatDoor
