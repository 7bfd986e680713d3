/-
  Data that may be: what a token has, and what reading makes. Plain Lean, no program in sight.
-/
import Derived.Test.YtonnikipeokkaaaGreatDoorPaMem
namespace Go.Proofs.YtonnikipeokkaaaGreatDoor
open Go.Lib

mutual
/-- Data within data. -/
def depthR : Raw → Nat
  | .mk k _ _ _ _ l => max (if k = 8 then 1 else 0) (depthL k l)
def depthL (k : Int) : List Raw → Nat
  | [] => 0
  | x :: l => max (if k = 7 ∧ l = [] ∧ x.k = 7 then depthR x else depthR x + 1) (depthL k l)
end
theorem depth_pair (a d : Raw) : depthR (pairR a d) = max (depthR a + 1) (if d.k = 7 then depthR d else depthR d + 1) := by
  unfold pairR
  rw [depthR, depthL, depthL, depthL, if_neg (by decide), if_neg (by simp)]
  simp
theorem depth_vec (l : List Raw) (D : Nat) (h : ∀ x ∈ l, depthR x + 1 ≤ D) (hD : 1 ≤ D) : depthR (vecR l) ≤ D := by
  unfold vecR
  rw [depthR, if_pos rfl]
  suffices hs : depthL 8 l ≤ D by omega
  induction l with
  | nil => rw [depthL]; omega
  | cons x l ih =>
    rw [depthL, if_neg (by simp)]
    have := ih (fun y hy => h y (List.mem_cons_of_mem _ hy))
    have := h x List.mem_cons_self
    omega
theorem depth_list : ∀ (l : List Raw) (t : Raw) (D : Nat), l ≠ [] → (∀ x ∈ l, depthR x + 1 ≤ D) → depthR t + 1 ≤ D → depthR (listR l t) ≤ D
  | [], _, _, h, _, _ => absurd rfl h
  | [x], t, D, _, h, ht => by
    rw [listR, listR, depth_pair]
    have := h x List.mem_cons_self
    split <;> omega
  | x :: y :: l, t, D, _, h, ht => by
    rw [listR, depth_pair]
    have h1 := h x List.mem_cons_self
    have h2 := depth_list (y :: l) t D (by simp) (fun z hz => h z (List.mem_cons_of_mem _ hz)) ht
    have h3 : (listR (y :: l) t).k = 7 := rfl
    rw [if_pos h3]
    omega
/-! ### tokens -/
theorem decode_char (l : List UInt8) : charB (decodeL l).1 = true := by
  rw [decodeL_N]
  unfold decodeN charB
  repeat' split
  all_goals first | decide | (apply decide_eq_true; simp only; omega)
/-! ### what reading makes -/
end Go.Proofs.YtonnikipeokkaaaGreatDoor
