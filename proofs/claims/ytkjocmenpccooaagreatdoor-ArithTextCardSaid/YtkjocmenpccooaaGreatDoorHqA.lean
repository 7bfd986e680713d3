/-
  Rows of numbers' data, as the laws lay them.
-/
import Derived.Test.YtkjocmenpccooaaGreatDoorHqL
namespace Go.Proofs.YtkjocmenpccooaaGreatDoor
open Go.RowKit

/-- A number's datum: its sign, its limbs, where they lie. -/
structure ND where
  q : Bool
  l : List Nat
  v : NV
def ND.x (d : ND) : Int := sval d.q d.l
def ND.c (d : ND) : List Value := [.int .i64 4, .int .i32 0, .bool d.q, .slice d.v.A d.v.n d.v.c, .string ⟨#[]⟩, .slice none 0 0]
/-- It lies there. -/
def ND.At (w : World) (d : ND) : Prop := d.v.n ≤ 60 → LimbsAt w d.v.A d.v.n d.v.c d.l
/-- It may be an argument. -/
def ND.Ok (d : ND) : Prop := d.v.n ≤ 48 ∧ mayB d.q d.l = true
def ND.of (x : Int) (v : NV) : ND := ⟨decide (x < 0), limbs x.natAbs, v⟩
theorem ND.of_x (x : Int) (v : NV) : (ND.of x v).x = x := by unfold ND.x ND.of; exact sval_limbs x
theorem ND.of_ok (x : Int) (v : NV) (h : Fits x) (hn : v.n ≤ 48) : (ND.of x v).Ok := ⟨hn, mayB_limbs x h⟩
theorem ND.Ok.facts {d : ND} (h : d.Ok) : Fits d.x ∧ d.q = decide (d.x < 0) ∧ d.l = limbs d.x.natAbs := by
  have h := h.2
  unfold mayB at h
  have h := of_decide_eq_true h
  exact ⟨h.1, h.2.1, by rw [show d.x.natAbs = lval d.l from sval_abs _ _]; exact h.2.2⟩
theorem ND.At.keep0 {w w' : World} {d : ND} (h : d.At w) (k : Keep (fun _ => False) w w') : d.At w' := fun hn => LimbsAt.keep0 (h hn) k
/-- A row of them. -/
def DatR (w : World) (A : Option Addr) (ds : List ND) : Prop :=
  ∀ i (h : i < ds.length), ∃ b off, A = some ⟨b, off, none⟩ ∧ b < w.heap.size ∧ w.cell? ⟨b, off + i * 6, none⟩ = some (.int .i64 4) ∧ w.cell? ⟨b, off + i * 6 + 1, none⟩ = some (.int .i32 0) ∧ w.cell? ⟨b, off + i * 6 + 2, none⟩ = some (.bool ds[i].q) ∧ w.cell? ⟨b, off + i * 6 + 3, none⟩ = some (.slice ds[i].v.A ds[i].v.n ds[i].v.c) ∧ w.cell? ⟨b, off + i * 6 + 4, none⟩ = some (.string ⟨#[]⟩) ∧ w.cell? ⟨b, off + i * 6 + 5, none⟩ = some (.slice none 0 0) ∧ ds[i].At w
theorem DatR.keep0 {w w' : World} {A : Option Addr} {ds : List ND} (h : DatR w A ds) (k : Keep (fun _ => False) w w') : DatR w' A ds := fun i hi => by
  obtain ⟨b, off, e, hb, h0, h1, h2, h3, h4, h5, h6⟩ := h i hi
  exact ⟨b, off, e, Nat.lt_of_lt_of_le hb k.size, (k.cell (p := ⟨b, off + i * 6, none⟩) hb id).trans h0, (k.cell (p := ⟨b, off + i * 6 + 1, none⟩) hb id).trans h1, (k.cell (p := ⟨b, off + i * 6 + 2, none⟩) hb id).trans h2, (k.cell (p := ⟨b, off + i * 6 + 3, none⟩) hb id).trans h3, (k.cell (p := ⟨b, off + i * 6 + 4, none⟩) hb id).trans h4, (k.cell (p := ⟨b, off + i * 6 + 5, none⟩) hb id).trans h5, h6.keep0 k⟩
theorem flat6 (ds : List ND) : ∀ (i : Nat) (h : i < ds.length) (f : Nat), f < 6 → (ds.flatMap ND.c)[i * 6 + f]? = (ds[i].c)[f]? := by
  induction ds with
  | nil => intro i h; exact absurd h (Nat.not_lt_zero _)
  | cons d ds ih =>
    intro i h f hf
    rw [List.flatMap_cons]
    have hl : d.c.length = 6 := rfl
    cases i with
    | zero =>
      rw [List.getElem?_append_left (by rw [hl]; omega), show 0 * 6 + f = f by omega]
      rfl
    | succ i =>
      rw [List.getElem?_append_right (by rw [hl]; omega), hl, show (i + 1) * 6 + f - 6 = i * 6 + f by omega]
      exact ih i (by simpa using h) f hf
theorem DatR.of {w : World} {b : Nat} {cs : Array Value} {ty : Nat} {tg : Nat × Nat} (ds : List ND) (rest : List Value) (h : w.heap[b]? = some (.cells cs ty tg)) (hc : cs.toList = ds.flatMap ND.c ++ rest) (hl : ∀ d ∈ ds, d.At w) : DatR w (some ⟨b, 0, none⟩) ds := fun i hi => by
  have key : ∀ f, f < 6 → w.cell? ⟨b, 0 + i * 6 + f, none⟩ = (ds[i].c)[f]? := fun f hf => by
    have h6 := flat6 ds i hi f hf
    have hlt : i * 6 + f < (ds.flatMap ND.c).length := by
      rcases Nat.lt_or_ge (i * 6 + f) (ds.flatMap ND.c).length with h | h
      · exact h
      · rw [List.getElem?_eq_none h, List.getElem?_eq_getElem (show f < ds[i].c.length from hf)] at h6
        cases h6
    rw [cell_of_row _ _ _ _ _ _ h, ← h6, Nat.zero_add, ← List.getElem?_append_left (l₂ := rest) hlt, ← hc]
    simp
  exact ⟨b, 0, rfl, heap_lt h, key 0 (by decide), key 1 (by decide), key 2 (by decide), key 3 (by decide), key 4 (by decide), key 5 (by decide), hl _ (List.getElem_mem _)⟩
theorem DatR.args {w : World} {A : Option Addr} {ds : List ND} (h : DatR w A ds) (hok : ∀ d ∈ ds, d.Ok) : ArgsR w A (ds.map ND.x) := fun i hi => by
  have hi' : i < ds.length := by simpa using hi
  obtain ⟨b, off, e, hb, h0, h1, h2, h3, h4, h5, h6⟩ := h i hi'
  have hk := hok _ (List.getElem_mem hi')
  obtain ⟨f1, f2, f3⟩ := hk.facts
  have hx : (ds.map ND.x)[i] = ds[i].x := by simp
  rw [hx]
  refine ⟨b, off, _, _, _, e, hb, h0, h1, ?_, h3, h4, h5, ?_, f1⟩
  · rw [← f2]; exact h2
  · rw [← f3]; exact h6 (Nat.le_trans hk.1 (by decide))
end Go.Proofs.YtkjocmenpccooaaGreatDoor
