/-
  Two numbers in a list; what the greatest divisor leaves: plain Lean and memory.
-/
import Derived.Test.YtdfekphahdmffaaDoorDivL
import Derived.Test.YtdfekphahdmffaaDoorNuGcd
namespace Go.Proofs.YtdfekphahdmffaaDoor
open Go.RowKit

def twoV (x y : NumV) : Nat → NumV
  | 0 => x
  | _ => y
theorem two_nums {w : World} (x y : NumV) (hx : LimbsAt w x.A x.n x.c x.l) (hy : LimbsAt w y.A y.n y.c y.l) : NumsAt (w.alloc (.cells #[.bool x.neg, .slice x.A x.n x.c, .bool y.neg, .slice y.A y.n y.c] 25)) (some ⟨w.heap.size, 0, none⟩) (twoV x y) 2 := by
  have K : Keep (fun _ => False) w (w.alloc (.cells #[.bool x.neg, .slice x.A x.n x.c, .bool y.neg, .slice y.A y.n y.c] 25)) := (Keep.refl _ _).alloc _
  have hb := heap_alloc_new w (.cells #[.bool x.neg, .slice x.A x.n x.c, .bool y.neg, .slice y.A y.n y.c] 25)
  intro j hj
  rcases (by omega : j = 0 ∨ j = 1) with rfl | rfl
  · exact ⟨w.heap.size, 0, rfl, by simp, by rw [cell_of_row _ _ _ _ _ _ hb]; rfl, by rw [cell_of_row _ _ _ _ _ _ hb]; rfl, hx.keep0 K⟩
  · exact ⟨w.heap.size, 0, rfl, by simp, by rw [cell_of_row _ _ _ _ _ _ hb]; rfl, by rw [cell_of_row _ _ _ _ _ _ hb]; rfl, hy.keep0 K⟩
theorem gcd_two (x y : NumV) : gcdTo (twoV x y) 2 = Nat.gcd (lval x.l) (lval y.l) := by
  show Nat.gcd (Nat.gcd 0 (lval x.l)) (lval y.l) = _
  rw [Nat.gcd_zero_left]
/-- Gcd of two. -/
theorem gcd2_any (p1 : Bool) (A1 : Option Addr) (n1 c1 : Nat) (l1 : List Nat) (p2 : Bool) (A2 : Option Addr) (n2 c2 : Nat) (l2 : List Nat) (w : World) (h1 : LimbsAt w A1 n1 c1 l1) (h2 : LimbsAt w A2 n2 c2 l2) (m1 : n1 ≤ 8000) (m2 : n2 ≤ 8000) (B : Nat) (hB : B = w.heap.size) :
    Calls Tryd.prog 34 #[.slice (some ⟨B, 0, none⟩) 2 2] (w.alloc (.cells #[.bool p1, .slice A1 n1 c1, .bool p2, .slice A2 n2 c2] 25)) (ResPost ((Nat.gcd (lval l1) (lval l2) : Nat) : Int) (w.alloc (.cells #[.bool p1, .slice A1 n1 c1, .bool p2, .slice A2 n2 c2] 25))) := by
  subst hB
  have h := gcd_any (some ⟨w.heap.size, 0, none⟩) 2 2 (twoV ⟨p1, A1, n1, c1, l1⟩ ⟨p2, A2, n2, c2, l2⟩) _ (two_nums ⟨p1, A1, n1, c1, l1⟩ ⟨p2, A2, n2, c2, l2⟩ h1 h2) (by omega) (fun j hj => by
    rcases (by omega : j = 0 ∨ j = 1) with rfl | rfl
    · exact m1
    · exact m2)
  rwa [gcd_two] at h
structure GcdF (a b : Int) (g : Nat) : Prop where
  pos : 0 < g
  ra : a.tmod g = 0
  rb : b.tmod g = 0
  one : Nat.gcd (a.tdiv g).natAbs (b.tdiv g).natAbs = 1
theorem gcd_facts {a b : Int} (h : a ≠ 0 ∨ b ≠ 0) : GcdF a b (Nat.gcd a.natAbs b.natAbs) := by
  have hp : 0 < Nat.gcd a.natAbs b.natAbs := by
    rcases h with h | h
    · exact Nat.gcd_pos_of_pos_left _ (by omega)
    · exact Nat.gcd_pos_of_pos_right _ (by omega)
  refine ⟨hp, ?_, ?_, ?_⟩
  · have := Int.natAbs_tmod a (Nat.gcd a.natAbs b.natAbs : Nat)
    rw [Int.natAbs_natCast, Nat.mod_eq_zero_of_dvd (Nat.gcd_dvd_left _ _)] at this
    omega
  · have := Int.natAbs_tmod b (Nat.gcd a.natAbs b.natAbs : Nat)
    rw [Int.natAbs_natCast, Nat.mod_eq_zero_of_dvd (Nat.gcd_dvd_right _ _)] at this
    omega
  · rw [Int.natAbs_tdiv, Int.natAbs_tdiv, Int.natAbs_natCast]
    show Nat.gcd (a.natAbs / Nat.gcd a.natAbs b.natAbs) (b.natAbs / Nat.gcd a.natAbs b.natAbs) = 1
    rw [Nat.gcd_div (Nat.gcd_dvd_left _ _) (Nat.gcd_dvd_right _ _)]
    exact Nat.div_self hp
theorem gcd_le {a b : Int} {X : Nat} (ha : a.natAbs < X) (hb : b.natAbs < X) : Nat.gcd a.natAbs b.natAbs < X := by
  rcases Nat.eq_zero_or_pos a.natAbs with h | h
  · rw [h, Nat.gcd_zero_left]; exact hb
  · exact Nat.lt_of_le_of_lt (Nat.gcd_le_left _ h) ha
theorem Env.list {w w' : World} {bs : List (Nat × Value × Value)} {ms : List (Option Addr × Nat × Nat × List Nat)} (h : Env w bs ms w') (o : Obj) : Env w bs ms (w'.alloc o) := h.keep ((Keep.refl _ _).alloc o)
end Go.Proofs.YtdfekphahdmffaaDoor
