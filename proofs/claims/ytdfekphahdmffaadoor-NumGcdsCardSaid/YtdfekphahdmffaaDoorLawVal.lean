/-
  A law's road with values of the document's on it: their blocks, and the bits.
-/
import Derived.Test.YtdfekphahdmffaaDoorLawEnd
namespace Go.Proofs.YtdfekphahdmffaaDoor
open Go.RowKit

theorem row_off {q : IntKind} {w : World} {A : Option Addr} {n B : Nat} {l : List Nat} {t : TypeId} {p : Bool} {v : Value} (h : RowAt q w A n l) (hb : w.heap[B]? = some (.cells #[.bool p, v] t (0, 0))) (hv : ∀ q x, v ≠ .int q x) : 0 < n → ∀ b off, A = some ⟨b, off, none⟩ → ¬ b = B := by
  intro hn b off e hB
  subst hB
  obtain ⟨b', off', e', _, hc⟩ := h.2 0 hn
  rw [e] at e'
  injection e' with e'
  injection e' with e1 e2 _
  subst e1 e2
  rw [cell_of_row w _ _ _ _ _ hb] at hc
  match hoff : off + 0 with
  | 0 => rw [hoff] at hc; simp at hc
  | 1 => rw [hoff] at hc; simp at hc; exact hv _ _ hc
  | k + 2 => rw [hoff] at hc; simp at hc
/-- A value's block. -/
def VAt (w : World) (B : Nat) (u v : Value) : Prop := w.heap[B]? = some (.cells #[u, v] 34 (0, 0))
theorem VAt.keep {w w' : World} {B : Nat} {u v : Value} (h : VAt w B u v) (k : Keep (fun _ => False) w w') : VAt w' B u v := k.heap h (by simp)
/-- Blocks of numbers, numbers, blocks of values, bits. -/
structure EnvV (w : World) (bs : List (Nat × Value × Value)) (ms : List (Option Addr × Nat × Nat × List Nat)) (vs : List (Nat × Value × Value)) (ks : List (Option Addr × Nat × Nat × List Nat)) (w' : World) : Prop where
  e : Env w bs ms w'
  v : ∀ x ∈ vs, VAt w' x.1 x.2.1 x.2.2
  b : ∀ x ∈ ks, BitsAt w' x.1 x.2.1 x.2.2.1 x.2.2.2
namespace EnvV
variable {w w' w'' : World} {bs vs vs' : List (Nat × Value × Value)} {ms ks : List (Option Addr × Nat × Nat × List Nat)}
theorem start (h : Env w bs ms w') : EnvV w bs ms [] [] w' := ⟨h, (fun _ h => by cases h), (fun _ h => by cases h)⟩
theorem keep (h : EnvV w bs ms vs ks w') (k : Keep (fun _ => False) w' w'') : EnvV w bs ms vs ks w'' := ⟨h.e.keep k, fun x hx => (h.v x hx).keep k, fun x hx => (h.b x hx).keep0 k⟩
theorem k (h : EnvV w bs ms vs ks w') : Keep (fun _ => False) w w' := h.e.k
theorem num (h : EnvV w bs ms vs ks w') {A : Option Addr} {n c : Nat} {l : List Nat} (hl : LimbsAt w' A n c l) : EnvV w bs ((A, n, c, l) :: ms) vs ks w' := ⟨h.e.num hl, h.v, h.b⟩
theorem bits (h : EnvV w bs ms vs ks w') {A : Option Addr} {n c : Nat} {l : List Nat} (hl : BitsAt w' A n c l) : EnvV w bs ms vs ((A, n, c, l) :: ks) w' :=
  ⟨h.e, h.v, fun x hx => by
    rcases List.mem_cons.1 hx with rfl | hx
    · exact hl
    · exact h.b x hx⟩
theorem box (h : EnvV w bs ms vs ks w') (u v : Value) : EnvV w ((w'.heap.size, u, v) :: bs) ms vs ks (w'.alloc (.cells #[u, v] 25)) := by
  have k : Keep (fun _ => False) w' (w'.alloc (.cells #[u, v] 25)) := (Keep.refl _ _).alloc _
  exact ⟨h.e.box u v, fun x hx => (h.v x hx).keep k, fun x hx => (h.b x hx).keep0 k⟩
theorem boxV (h : EnvV w bs ms vs ks w') (u v : Value) : EnvV w bs ms ((w'.heap.size, u, v) :: vs) ks (w'.alloc (.cells #[u, v] 34)) := by
  have k : Keep (fun _ => False) w' (w'.alloc (.cells #[u, v] 34)) := (Keep.refl _ _).alloc _
  refine ⟨h.e.keep k, fun x hx => ?_, fun x hx => (h.b x hx).keep0 k⟩
  rcases List.mem_cons.1 hx with rfl | hx
  · exact heap_alloc_new w' _
  · exact (h.v x hx).keep k
theorem cells (h : EnvV w bs ms vs ks w') {B : Nat} {u v : Value} (hm : (B, u, v) ∈ bs) : w'.cell? ⟨B, 0, none⟩ = some u ∧ w'.cell? ⟨B, 1, none⟩ = some v ∧ B < w'.heap.size := h.e.cells hm
theorem cellsV (h : EnvV w bs ms vs ks w') {B : Nat} {u v : Value} (hm : (B, u, v) ∈ vs) : w'.cell? ⟨B, 0, none⟩ = some u ∧ w'.cell? ⟨B, 1, none⟩ = some v ∧ B < w'.heap.size := by
  have g : w'.heap[B]? = some (.cells #[u, v] 34 (0, 0)) := h.v _ hm
  exact ⟨by rw [cell_of_row w' _ _ _ _ _ g]; rfl, by rw [cell_of_row w' _ _ _ _ _ g]; rfl, heap_lt g⟩
theorem frozenV (h : EnvV w bs ms vs ks w') {B : Nat} {u v : Value} (hm : (B, u, v) ∈ vs) : w'.frozen? ⟨B, 0, none⟩ = false ∧ w'.frozen? ⟨B, 1, none⟩ = false := by
  have g : w'.heap[B]? = some (.cells #[u, v] 34 (0, 0)) := h.v _ hm
  exact ⟨by simp [World.frozen?, g], by simp [World.frozen?, g]⟩
/-- A value's block is written anew. -/
theorem setV (h : EnvV w bs ms vs ks w') {B : Nat} {p : Bool} {A : Option Addr} {n c : Nat} (hm : (B, .bool p, .slice A n c) ∈ vs) (hB : w.heap.size ≤ B) (hs : ∀ x ∈ vs', x ∈ vs ∧ x.1 ≠ B) (u v : Value) : EnvV w bs ms ((B, u, v) :: vs') ks ((w'.setCell ⟨B, 0, none⟩ u).setCell ⟨B, 1, none⟩ v) := by
  have k : Keep (fun x => x = B) w' ((w'.setCell ⟨B, 0, none⟩ u).setCell ⟨B, 1, none⟩ v) := ((Keep.refl (fun x => x = B) w').setCell (p := ⟨B, 0, none⟩) (.inl rfl) u).setCell (p := ⟨B, 1, none⟩) (.inl rfl) v
  have g : w'.heap[B]? = some (.cells #[.bool p, .slice A n c] 34 (0, 0)) := h.v _ hm
  refine ⟨⟨h.e.k.into k (by rintro i rfl; exact hB), fun x hx => ?_, fun x hx => ?_⟩, fun x hx => ?_, fun x hx => ?_⟩
  · have gx := h.e.b x hx
    refine k.heap gx ?_
    intro e
    rw [BoxAt, e, g] at gx
    simp at gx
  · exact (h.e.m x hx).keep k (row_off (h.e.m x hx).row g (by intro q x e; cases e))
  · rcases List.mem_cons.1 hx with rfl | hx
    · show ((w'.setCell ⟨B, 0, none⟩ u).setCell ⟨B, 1, none⟩ v).heap[B]? = _
      simp [World.setCell, Array.getElem?_modify, g]
    · exact k.heap (h.v x (hs x hx).1) (hs x hx).2
  · have hb := h.b x hx
    exact ⟨hb.row.keep k (row_off hb.row g (by intro q x e; cases e)), hb.low, hb.cap, hb.max⟩
end EnvV
end Go.Proofs.YtdfekphahdmffaaDoor
