/-
  Aids to the laws' walks: answers that fit; answers of either kind; a block that is written.
-/
import Derived.Test.YtdfekphahdmffaaDoorLawEnv
import Derived.Test.YtdfekphahdmffaaDoorNuSame
namespace Go.Proofs.YtdfekphahdmffaaDoor
open Go.RowKit
theorem ResPost.yes {x : Int} {w w' : World} {e : Ending} (h : ResPost x w e w') (f : Fits x) : Keep (fun _ => False) w w' ∧ ∃ (q : Bool) (A : Option Addr) (n c : Nat), Hid (q = decide (x < 0)) ∧ e = .returned (.tuple #[numArg q A n c, .int .i64 0]) ∧ LimbsAt w' A n c (limbs x.natAbs) ∧ n ≤ 48 ∧ sval q (limbs x.natAbs) = x := by
  obtain ⟨k, ⟨hn, _⟩ | ⟨_, r⟩⟩ := h.two
  · exact absurd f hn
  · exact ⟨k, r⟩
theorem mul_fits {neg neg' : Bool} {l l' : List Nat} (h : lval l < BB ^ 24) (h' : lval l' < BB ^ 24) : Fits (sval neg l * sval neg' l') := by
  rw [Fits_iff, Int.natAbs_mul, sval_abs, sval_abs, show (48 : Nat) = 24 + 24 from rfl, Nat.pow_add]
  exact Nat.mul_lt_mul'' h h'
theorem Fits.le {x y : Int} (h : Fits x) (hy : y.natAbs ≤ x.natAbs) : Fits y := (Fits_iff y).2 (Nat.lt_of_le_of_lt hy ((Fits_iff x).1 h))
/-- What is answered where x is to be answered: the number, or that it is too big. -/
def Out (x : Int) (q : Bool) (l : List Nat) (f : Int) : Prop := (Fits x ∧ q = decide (x < 0) ∧ l = limbs x.natAbs ∧ f = 0) ∨ (¬ Fits x ∧ q = false ∧ l = [] ∧ f = 6)
namespace Out
variable {x : Int} {q q' : Bool} {l l' : List Nat} {f f' : Int}
theorem det (h : Out x q l f) (h' : Out x q' l' f') : q' = q ∧ l' = l ∧ f' = f := by
  rcases h with ⟨h1, rfl, rfl, rfl⟩ | ⟨h1, rfl, rfl, rfl⟩ <;> rcases h' with ⟨h2, rfl, rfl, rfl⟩ | ⟨h2, rfl, rfl, rfl⟩
  · exact ⟨rfl, rfl, rfl⟩
  · exact absurd h1 h2
  · exact absurd h2 h1
  · exact ⟨rfl, rfl, rfl⟩
theorem two (h : Out x q l f) : f = 0 ∨ f = 6 := by rcases h with ⟨_, _, _, h⟩ | ⟨_, _, _, h⟩ <;> simp [h]
theorem val (h : Out x q l 0) : sval q l = x := by
  rcases h with ⟨_, rfl, rfl, _⟩ | ⟨_, _, _, h⟩
  · exact sval_limbs x
  · cases h
theorem fits (h : Out x q l 0) : Fits x := by
  rcases h with ⟨h, _⟩ | ⟨_, _, _, h⟩
  · exact h
  · cases h
theorem ok (h : Out x q l f) (hx : Fits x) : f = 0 := by
  rcases h with ⟨_, _, _, h⟩ | ⟨h, _⟩
  · exact h
  · exact absurd hx h
end Out
theorem ResPost.gen {x : Int} {w w' : World} {e : Ending} (h : ResPost x w e w') : Keep (fun _ => False) w w' ∧ ∃ (q : Bool) (A : Option Addr) (n c : Nat) (l : List Nat) (f : Int), e = .returned (.tuple #[numArg q A n c, .int .i64 f]) ∧ LimbsAt w' A n c l ∧ n ≤ 48 ∧ Out x q l f := by
  obtain ⟨k, ⟨hn, he⟩ | ⟨A, n, c, hf, he, own⟩⟩ := h
  · exact ⟨k, false, none, 0, 0, [], 6, he, none_limbs _, by omega, .inr ⟨hn, rfl, rfl, rfl⟩⟩
  · exact ⟨k, _, A, n, c, _, 0, he, own.num hf, by have := own.len; unfold Fits at hf; omega, .inl ⟨hf, rfl, rfl, rfl⟩⟩
theorem same_self (q : Bool) (l : List Nat) : sameB q l q l = true := decide_eq_true ⟨rfl, rfl⟩
/-- Limbs do not lie in a number's block. -/
theorem LimbsAt.off_box {w : World} {B n c : Nat} {p : Bool} {v : Value} {A : Option Addr} {l : List Nat} (h : LimbsAt w A n c l) (hb : BoxAt w B (.bool p) v) (hv : ∀ q x, v ≠ .int q x) : 0 < n → ∀ b off, A = some ⟨b, off, none⟩ → ¬ b = B := by
  intro hn b off e hB
  subst hB
  obtain ⟨b', off', e', _, hc⟩ := h.row.2 0 hn
  rw [e] at e'
  injection e' with e'
  injection e' with e1 e2 _
  subst e1 e2
  rw [cell_of_row w _ _ _ _ _ hb] at hc
  match hoff : off + 0 with
  | 0 => rw [hoff] at hc; simp at hc
  | 1 => rw [hoff] at hc; simp at hc; exact hv _ _ hc
  | k + 2 => rw [hoff] at hc; simp at hc
namespace Env
variable {w w' : World} {bs bs' : List (Nat × Value × Value)} {ms : List (Option Addr × Nat × Nat × List Nat)}
/-- A number's block is written anew. -/
theorem set (h : Env w bs ms w') {B : Nat} {p : Bool} {A : Option Addr} {n c : Nat} (hm : (B, .bool p, .slice A n c) ∈ bs) (hB : w.heap.size ≤ B) (hs : ∀ x ∈ bs', x ∈ bs ∧ x.1 ≠ B) (u v : Value) : Env w ((B, u, v) :: bs') ms ((w'.setCell ⟨B, 0, none⟩ u).setCell ⟨B, 1, none⟩ v) := by
  have k : Keep (fun x => x = B) w' ((w'.setCell ⟨B, 0, none⟩ u).setCell ⟨B, 1, none⟩ v) := ((Keep.refl (fun x => x = B) w').setCell (p := ⟨B, 0, none⟩) (.inl rfl) u).setCell (p := ⟨B, 1, none⟩) (.inl rfl) v
  have g := h.b _ hm
  refine ⟨h.k.into k (by rintro i rfl; exact hB), fun x hx => ?_, fun x hx => (h.m x hx).keep k ((h.m x hx).off_box g (by intro q x e; cases e))⟩
  rcases List.mem_cons.1 hx with rfl | hx
  · show ((w'.setCell ⟨B, 0, none⟩ u).setCell ⟨B, 1, none⟩ v).heap[B]? = _
    have g2 : w'.heap[B]? = some (.cells #[.bool p, .slice A n c] 25 (0, 0)) := g
    simp [World.setCell, Array.getElem?_modify, g2]
  · exact k.heap (h.b x (hs x hx).1) (hs x hx).2
theorem frozen (h : Env w bs ms w') {B : Nat} {u v : Value} (hm : (B, u, v) ∈ bs) : w'.frozen? ⟨B, 0, none⟩ = false ∧ w'.frozen? ⟨B, 1, none⟩ = false := by
  have g : w'.heap[B]? = some (.cells #[u, v] 25 (0, 0)) := h.b _ hm
  exact ⟨by simp [World.frozen?, g], by simp [World.frozen?, g]⟩
end Env
theorem sizes (w : World) : w.heap.size ≤ w.heap.size ∧ w.heap.size ≤ w.heap.size + 1 ∧ w.heap.size ≤ w.heap.size + 1 + 1 := by omega
end Go.Proofs.YtdfekphahdmffaaDoor
