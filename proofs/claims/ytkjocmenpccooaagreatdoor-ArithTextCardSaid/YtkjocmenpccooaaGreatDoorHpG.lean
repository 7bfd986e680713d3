/-
  arith.numbers: the numbers of words.
-/
import Derived.Test.YtkjocmenpccooaaGreatDoorHpF
namespace Go.Proofs.YtkjocmenpccooaaGreatDoor
open Go.RowKit

theorem info24 : (Tryz.prog.info? 24).map (fun i => (i.zero, i.size, i.bytes)) = some (some (.agg #[.bool false, .slice none 0 0]), 2, 32) := by kernel_rfl
/-- A row of numbers that is read. -/
def NumsR (w : World) (A : Option Addr) (xs : List Int) : Prop :=
  ∀ i (h : i < xs.length), ∃ b off A' n' c', A = some ⟨b, off, none⟩ ∧ b < w.heap.size ∧ w.cell? ⟨b, off + i * 2, none⟩ = some (.bool (decide (xs[i] < 0))) ∧ w.cell? ⟨b, off + i * 2 + 1, none⟩ = some (.slice A' n' c') ∧ LimbsAt w A' n' c' (limbs (xs[i]).natAbs) ∧ Fits xs[i]
theorem NumsR.keep0 {w w' : World} {A : Option Addr} {xs : List Int} (h : NumsR w A xs) (k : Keep (fun _ => False) w w') : NumsR w' A xs := fun i hi => by
  obtain ⟨b, off, A', n', c', e, hb, h1, h2, h3, h4⟩ := h i hi
  exact ⟨b, off, A', n', c', e, Nat.lt_of_lt_of_le hb k.size, (k.cell (p := ⟨b, off + i * 2, none⟩) hb id).trans h1, (k.cell (p := ⟨b, off + i * 2 + 1, none⟩) hb id).trans h2, h3.keep0 k, h4⟩
structure NV where
  A : Option Addr
  n : Nat
  c : Nat
/-- A number's two cells. -/
def nC (y : Int × NV) : List Value := [.bool (decide (y.1 < 0)), .slice y.2.A y.2.n y.2.c]
/-- A row of numbers of the call's own. -/
structure NumsO (w : World) (base : Nat) (v : Value) (xs : List (Int × NV)) : Prop where
  own : w.ownsRow base 24 2 v xs.length (xs.flatMap nC)
  items : ∀ y ∈ xs, OwnR 39 .u32 w 0 y.2.A y.2.n y.2.c (limbs y.1.natAbs) ∧ Fits y.1
theorem row24 {w : World} {base n : Nat} {v : Value} {zs : List Value} (h : w.ownsRow base 24 2 v n zs) {b : Nat} (hb : v.ownBlock = some b) : ∃ cur, w.heap[b]? = some (.cells cur 24 (0, 0)) := by
  rcases h.2 with ⟨hv, _⟩ | ⟨g, cap, cur, hv, _, hh, _⟩
  · subst hv; cases hb
  · subst hv
    injection hb with hb
    subst hb
    exact ⟨cur, hh⟩
theorem OwnR.not24 {w : World} {base n c b : Nat} {A : Option Addr} {l : List Nat} {cur : Array Value} (h : OwnR 39 .u32 w base A n c l) (hc : w.heap[b]? = some (.cells cur 24 (0, 0))) : ∀ b' off, A = some ⟨b', off, none⟩ → b' ≠ b := by
  rintro b' off rfl rfl
  rcases h.2 with ⟨hv, _⟩ | ⟨g, cap, cur2, hv, _, hh, _⟩
  · cases hv
  · injection hv with e1 _ _
    injection e1 with e1
    injection e1 with e1
    subst e1
    rw [hc] at hh
    injection hh with hh
    injection hh with _ hh
    exact absurd hh (by decide)
theorem NumsO.keep0 {w w' : World} {base : Nat} {v : Value} {xs : List (Int × NV)} (h : NumsO w base v xs) (k : Keep (fun _ => False) w w') : NumsO w' base v xs := by
  refine ⟨⟨h.own.1, ?_⟩, fun y hy => ⟨(h.items y hy).1.keep0 k, (h.items y hy).2⟩⟩
  rcases h.own.2 with hn | ⟨g, cap, cur, hv, hg, hh, rest⟩
  · exact .inl hn
  · exact .inr ⟨g, cap, cur, hv, hg, k.heap hh id, rest⟩
/-- One more number. -/
theorem NumsO.snoc {w w' : World} {base : Nat} {v v' : Value} {xs : List (Int × NV)} {y : Int × NV} (h : NumsO w base v xs) (hy : OwnR 39 .u32 w 0 y.2.A y.2.n y.2.c (limbs y.1.natAbs)) (hf : Fits y.1)
    (hown : w'.ownsRow base 24 2 v' (xs.length + 1) (xs.flatMap nC ++ nC y)) (hg : w.grownBy w' v.ownBlock) : NumsO w' base v' (xs ++ [y]) := by
  have KG : Keep (fun b => v.ownBlock = some b) w w' := (Keep.refl _ _).grown hg (fun k hk => .inl hk)
  have key : ∀ z : Int × NV, OwnR 39 .u32 w 0 z.2.A z.2.n z.2.c (limbs z.1.natAbs) → OwnR 39 .u32 w' 0 z.2.A z.2.n z.2.c (limbs z.1.natAbs) := fun z hz => hz.keep KG (fun b off e hb => by
    obtain ⟨cur, hc⟩ := row24 h.own hb
    exact hz.not24 hc b off e rfl)
  refine ⟨by rw [List.length_append, List.flatMap_append]; simpa using hown, fun z hz => ?_⟩
  rcases List.mem_append.1 hz with hz | hz
  · exact ⟨key z (h.items z hz).1, (h.items z hz).2⟩
  · rw [List.mem_singleton.1 hz]
    exact ⟨key y hy, hf⟩
theorem nC_get (xs : List (Int × NV)) (i : Nat) (hi : i < xs.length) : (xs.flatMap nC)[i * 2]? = some (.bool (decide (xs[i].1 < 0))) ∧ (xs.flatMap nC)[i * 2 + 1]? = some (.slice xs[i].2.A xs[i].2.n xs[i].2.c) := by
  induction xs generalizing i with
  | nil => exact absurd hi (Nat.not_lt_zero _)
  | cons x xs ih =>
    cases i with
    | zero => exact ⟨rfl, rfl⟩
    | succ i =>
      have := ih i (by simpa using hi)
      rw [List.flatMap_cons]
      show (_ :: _ :: xs.flatMap nC)[(i + 1) * 2]? = _ ∧ (_ :: _ :: xs.flatMap nC)[(i + 1) * 2 + 1]? = _
      rw [show (i + 1) * 2 = i * 2 + 1 + 1 from by omega]
      simpa using this
theorem NumsO.read {w : World} {base : Nat} {v : Value} {xs : List (Int × NV)} (h : NumsO w base v xs) : ∃ A c, v = .slice A xs.length c ∧ NumsR w A (xs.map Prod.fst) ∧ xs.length ≤ c := by
  obtain ⟨A, c, rfl, hle⟩ : ∃ A c, v = .slice A xs.length c ∧ xs.length ≤ c := by
    rcases h.own.2 with ⟨hv, h0⟩ | ⟨g, cap, cur, hv, _, _, hle, _⟩
    · exact ⟨none, 0, by rw [hv, h0], by omega⟩
    · exact ⟨_, _, hv, hle⟩
  refine ⟨A, c, rfl, fun i hi => ?_, hle⟩
  have hi2 : i < xs.length := by simpa using hi
  obtain ⟨g, c', hv, _, hlt⟩ := World.ownsRow.form h.own (by omega)
  injection hv with h1 _ h3
  subst h1 h3
  obtain ⟨e1, e2⟩ := nC_get xs i hi2
  have hl : (xs.flatMap nC).length = xs.length * 2 := h.own.1
  have it := h.items xs[i] (List.getElem_mem hi2)
  refine ⟨g, 0, xs[i].2.A, xs[i].2.n, xs[i].2.c, rfl, hlt, ?_, ?_, ?_, ?_⟩
  · rw [Nat.zero_add, World.ownsRow.cellAt h.own (i * 2) (by omega), e1, List.getElem_map]
  · rw [Nat.zero_add, World.ownsRow.cellAt h.own (i * 2 + 1) (by omega), e2]
  · rw [List.getElem_map]; exact it.1.num it.2
  · rw [List.getElem_map]; exact it.2
end Go.Proofs.YtkjocmenpccooaaGreatDoor
