/-
  Same of two numbers' data; small numbers' data; run of what is no number.
-/
import Derived.Test.YtkjocmenpccooaaGreatDoorHqR
namespace Go.Proofs.YtkjocmenpccooaaGreatDoor
open Go.RowKit

theorem leaf_at {w : World} {r : Raw} {p : PV} (num : LimbsAt w p.A p.n p.cp r.mag) (hl : r.l = []) (hm : p.m = 0) : RawAt (fun _ => True) (fun _ => True) w r p :=
  .mk num (fun _ _ _ _ => trivial) (by rw [hl, hm]; rfl) (by rw [hm]; exact Nat.zero_le _) (by rw [hm]; decide) (fun _ => .none) (fun h => by rw [hm] at h; exact absurd h (by decide)) (fun i h => by rw [hl] at h; exact absurd h (Nat.not_lt_zero _))
/-- Same of two numbers' data. -/
theorem same_nd {w : World} (d d' : ND) (h : d.At w) (h' : d'.At w) (o : d.Ok) (o' : d'.Ok) (t : Bool) (ht : t = decide (d.x = d'.x)) :
    Calls Tryz.prog 10 #[datV 4 d.q d.v.A d.v.n d.v.c ⟨#[]⟩, datV 4 d'.q d'.v.A d'.v.n d'.v.c ⟨#[]⟩] w (BoolPost t w) := by
  have key := rsame_any (leaf_at (r := .mk 4 0 d.q d.l ⟨#[]⟩ []) (p := ⟨d.v.A, d.v.n, d.v.c, .none, 0, 0⟩) (h (Nat.le_trans o.1 (by decide))) rfl rfl) (.mk 4 0 d'.q d'.l ⟨#[]⟩ []) ⟨d'.v.A, d'.v.n, d'.v.c, .none, 0, 0⟩ w (Keep.refl _ _) (leaf_at (r := .mk 4 0 d'.q d'.l ⟨#[]⟩ []) (p := ⟨d'.v.A, d'.v.n, d'.v.c, .none, 0, 0⟩) (h' (Nat.le_trans o'.1 (by decide))) rfl rfl)
  have e : eqR (.mk 4 0 d.q d.l ⟨#[]⟩ []) (.mk 4 0 d'.q d'.l ⟨#[]⟩ []) = t := by
    rw [ht]
    by_cases hx : d.x = d'.x
    · rw [decide_eq_true hx]
      refine eqR_true.2 ?_
      rw [o.facts.2.1, o.facts.2.2, o'.facts.2.1, o'.facts.2.2, hx]
    · rw [decide_eq_false hx]
      refine eqR_false.2 (fun e => hx ?_)
      injection e with _ _ e1 e2
      unfold ND.x
      rw [e1, e2]
  rw [e] at key
  exact key
/-- A small number's datum. -/
theorem small_nd (u : Nat) (hu : 0 < u) (hu2 : u < 4294967296) (neg : Bool) (A : Option Addr) : (ND.mk neg [u] ⟨A, 1, 1⟩).Ok ∧ (ND.mk neg [u] ⟨A, 1, 1⟩).x = if neg then -(u : Int) else (u : Int) := by
  have hv : lval [u] = u := by simp [lval, val]
  have hlow : Low BB [u] := by
    intro d hd
    simp only [List.mem_cons, List.not_mem_nil, or_false] at hd
    rw [hd]
    exact hu2
  refine ⟨⟨(by decide : 1 ≤ 48), ?_⟩, ?_⟩
  · show mayB neg [u] = true
    rw [may_eq hlow (rfl : [u].length = 1)]
    have ht : tlen [u] = 1 := by
      have h0 : 0 < tlen [u] := (tlen_pos _).2 (by rw [hv]; exact hu)
      have h1 : tlen [u] ≤ 1 := tlen_le hlow
      omega
    rw [ht]
    cases neg <;> rfl
  · show sval neg [u] = _
    unfold sval
    rw [hv]
theorem run_bad (w : World) (A : Option Addr) (cp : Nat) (x : Int) (hf : Fits x) (h0 : ItmC w A 0 (fun M u => DenH M u x)) (h1 : ItmC w A 1 (fun _ u => u = 20)) :
    Calls Tryz.prog 9 #[.int .i64 4, .slice A 2 cp] w (RunEnd 0 3 0 w) :=
  run_gen w 4 A 2 cp (fun j M u => if j = 0 then DenH M u x else u = 20) (fun j M M' u d e => by
    by_cases hj : j = 0
    · rw [if_pos hj] at d ⊢; exact d.ext e
    · rw [if_neg hj] at d ⊢; exact d) (fun i hi => by
    match i, hi with
    | 0, _ => exact h0
    | 1, _ => exact h1) (by decide) 0 3 0 (fun w0 w1 h c s p g S R rc us lh lc ls lp lg H hr hd _ _ K =>
    have d0 := hd 0 (by decide)
    have d1 := hd 1 (by decide)
    (apply_bad H R rc us hr x d0 hf (fun w2 k2 => by
      have e1 : us.getD 1 0 = 20 := d1
      rw [e1]
      exact hnum_no (H.keep0 k2) 20 (by decide) (by decide) (fun w3 k3 => object_no ((H.keep0 k2).keep0 k3) 20 (by decide) (by unfold isAddr; decide)) (.inl rfl))).mono (fun e w2 A => ⟨K.trans A.2, 0, A.1, fun h => absurd h (by decide)⟩))
end Go.Proofs.YtkjocmenpccooaaGreatDoor
