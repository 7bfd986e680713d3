/-
  The laws' right: may these data be arguments?
  Same of two numbers' data; small numbers' data; run of what is no number.
-/
import Derived.Test.YtkjocmenpccooaaGreatDoorHqA
namespace Go.Proofs.YtkjocmenpccooaaGreatDoor
open Go.RowKit

def rightB (ds : List ND) : Bool := ds.all (fun d => decide (d.v.n ≤ 48) && mayB d.q d.l)
theorem rightB_ok {ds : List ND} (h : rightB ds = true) : ∀ d ∈ ds, d.Ok := fun d hd => by
  have := List.all_eq_true.1 h d hd
  rw [Bool.and_eq_true] at this
  exact ⟨of_decide_eq_true this.1, this.2⟩
set_option maxRecDepth 100000 in
set_option maxHeartbeats 4000000 in
theorem right_any (w : World) (A : Option Addr) (m cp : Nat) (ds : List ND) (hds : ds.length = m) (hA : DatR w A ds) (hm : m ≤ 50) (t : Bool) (ht : t = rightB ds) :
    Calls Tryz.prog 7 #[.slice A m cp] w (BoolPost t w) := by
  have HA := Lib.hid hA
  have HDS := Lib.hid hds
  have HT := Lib.hid ht
  have hm' := hm
  have l0 : decide ((50 : Int) < (m : Int)) = false := decide_eq_false (by omega)
  have l9 : decide (50 < m) = false := decide_eq_false (by omega)
  clear hA hds ht hm
  go_enter Tryz.func7, Tryz.ntmps7
  go_wp2_with fail
  clear l0 l9
  go_loopw [3] (fun iv wr => ∃ i : Nat, i ≤ m ∧ iv = .int .i64 (i : Int) ∧ Keep (fun _ => False) w wr ∧ rightB (ds.drop i) = t) (fun iv _ => m - (intOf iv).toNat)
  case atStart => exact ⟨0, Nat.zero_le _, rfl, Keep.refl _ _, HT.out.symm⟩
  case round =>
    obtain ⟨i, hi, rfl, kr, hor⟩ := hrel
    have HKR := Lib.hid kr
    by_cases h4 : i < m
    · have l1 : decide ((i : Int) < (m : Int)) = true := decide_eq_true (by omega)
      have l2 : decide (i < m) = true := decide_eq_true h4
      have hil : i < ds.length := by rw [HDS.out]; exact h4
      obtain ⟨b, off, hAe, hbl, h0, h1, h2, h3, h4', h5, hl⟩ := (HA.out.keep0 kr) i hil
      obtain ⟨d, hd⟩ : ∃ d, d = ds[i] := ⟨_, rfl⟩
      rw [← hd] at h2 h3 hl
      have HDR := Lib.hid (show rightB (ds.drop i) = ((decide (d.v.n ≤ 48) && mayB d.q d.l) && rightB (ds.drop (i + 1))) from by
        rw [List.drop_eq_getElem_cons hil, ← hd]
        rfl)
      rw [HDR.out] at hor
      have HOR := Lib.hid hor
      obtain ⟨q, l, ⟨A2, n, c⟩⟩ := d
      have hl : n ≤ 60 → LimbsAt wr A2 n c l := hl
      have HL := Lib.hid hl
      simp only at h2 h3
      subst hAe
      have HBL := Lib.hid hbl
      clear hor HDR hd hl kr hil hbl
      by_cases h48 : n ≤ 48
      · have l3 : decide ((48 : Int) < (n : Int)) = false := decide_eq_false (by omega)
        have l4 : decide (48 < n) = false := decide_eq_false (by omega)
        obtain ⟨u, hu⟩ : ∃ u, u = mayB q l := ⟨_, rfl⟩
        have HM := Lib.hid (rmay_int q A2 n c l u wr (HL.out (by omega)) (by omega) hu)
        have HU := Lib.hid (show (decide (n ≤ 48) && mayB q l) = u from by rw [decide_eq_true h48, Bool.true_and]; exact hu.symm)
        clear hu h48
        go_wp2_with fail
        refine HM.out.mono ?_
        rintro e w2 ⟨rfl, k2⟩
        have HK2 := Lib.hid (HKR.out.trans k2)
        replace h0 := (k2.cell (p := ⟨b, off + i * 6, none⟩) HBL.out id).trans h0
        replace h1 := (k2.cell (p := ⟨b, off + i * 6 + 1, none⟩) HBL.out id).trans h1
        replace h2 := (k2.cell (p := ⟨b, off + i * 6 + 2, none⟩) HBL.out id).trans h2
        replace h3 := (k2.cell (p := ⟨b, off + i * 6 + 3, none⟩) HBL.out id).trans h3
        replace h4' := (k2.cell (p := ⟨b, off + i * 6 + 4, none⟩) HBL.out id).trans h4'
        replace h5 := (k2.cell (p := ⟨b, off + i * 6 + 5, none⟩) HBL.out id).trans h5
        clear k2
        cases u with
        | false =>
          go_wp2_with fail
          go_ret
          refine ⟨?_, HK2.out⟩
          rw [← HOR.out, show (decide (_ ≤ 48) && mayB _ _) = false from HU.out]
          rfl
        | true =>
          go_wp2_with fail
          refine (count_leaf 4 q A2 n c _ _).mono ?_
          rintro e w3 ⟨rfl, k3⟩
          have HK3 := Lib.hid (HK2.out.trans k3)
          clear k3 h0 h1 h2 h3 h4' h5
          go_wp2_with fail
          go_roundw
          case rel => exact ⟨i + 1, h4, by go_num, HK3.out, by rw [← HOR.out, show (decide (_ ≤ 48) && mayB _ _) = true from HU.out, Bool.true_and]⟩
          case measure => simp only [intOf]; omega
      · have l3 : decide ((48 : Int) < (n : Int)) = true := decide_eq_true (by omega)
        have l4 : decide (48 < n) = true := decide_eq_true (by omega)
        have HML := Lib.hid (show (decide (n ≤ 48) && mayB q l) = false from by rw [decide_eq_false h48, Bool.false_and])
        go_wp2_with fail
        go_ret
        refine ⟨?_, HKR.out⟩
        rw [← HOR.out, show (decide (_ ≤ 48) && mayB _ _) = false from HML.out]
        rfl
    · have hie : m = i := by omega
      subst hie
      have l1 : decide ((m : Int) < (m : Int)) = false := decide_eq_false (by omega)
      have HTT := Lib.hid (show t = true from by
        rw [← hor, List.drop_of_length_le (by rw [HDS.out]; exact Nat.le_refl _)]
        rfl)
      clear hor kr
      go_wp2_with fail
      go_ret
      exact ⟨by rw [HTT.out]; rfl, HKR.out⟩
end Go.Proofs.YtkjocmenpccooaaGreatDoor

namespace Go.Proofs.YtkjocmenpccooaaGreatDoor
open Go.RowKit

theorem leaf_at {w : World} {r : Raw} {p : PV} (num : LimbsAt w p.A p.n p.cp r.mag) (hl : r.l = []) (hm : p.m = 0) : RawAt (fun _ => True) (fun _ => True) w r p :=
  .mk num (fun _ _ _ _ => trivial) (by rw [hl, hm]; rfl) (by rw [hm]; exact Nat.zero_le _) (by rw [hm]; decide) (fun _ => .none) (fun h => by rw [hm] at h; exact absurd h (by decide)) (fun i h => by rw [hl] at h; exact absurd h (Nat.not_lt_zero _))
/-- Same of two numbers' data. -/
theorem same_nd {w : World} (d d' : ND) (h : d.At w) (h' : d'.At w) (o : d.Ok) (o' : d'.Ok) (t : Bool) (ht : t = decide (d.x = d'.x)) :
    Calls Tryz.prog 10 #[datV 4 d.q d.v.A d.v.n d.v.c ⟨#[]⟩, datV 4 d'.q d'.v.A d'.v.n d'.v.c ⟨#[]⟩] w (BoolPost t w) := by
  have key := rsame_any (leaf_at (r := .mk 4 0 d.q d.l ⟨#[]⟩ []) (p := ⟨d.v.A, d.v.n, d.v.c, .none, 0, 0⟩) (h (Nat.le_trans o.1 (by decide))) rfl rfl) (.mk 4 0 d'.q d'.l ⟨#[]⟩ []) ⟨d'.v.A, d'.v.n, d'.v.c, .none, 0, 0⟩ w (Keep.refl _ _) (leaf_at (r := .mk 4 0 d'.q d'.l ⟨#[]⟩ []) (p := ⟨d'.v.A, d'.v.n, d'.v.c, .none, 0, 0⟩) (h' (Nat.le_trans o'.1 (by decide))) rfl rfl)
  have e : eqR (.mk 4 0 d.q d.l ⟨#[]⟩ []) (.mk 4 0 d'.q d'.l ⟨#[]⟩ []) = t := by
    rw [ht]
    by_cases hx : d.x = d'.x
    · rw [decide_eq_true hx]
      refine eqR_true.2 ?_
      rw [o.facts.2.1, o.facts.2.2, o'.facts.2.1, o'.facts.2.2, hx]
    · rw [decide_eq_false hx]
      refine eqR_false.2 (fun e => hx ?_)
      injection e with _ _ e1 e2
      unfold ND.x
      rw [e1, e2]
  rw [e] at key
  exact key
/-- A small number's datum. -/
theorem small_nd (u : Nat) (hu : 0 < u) (hu2 : u < 4294967296) (neg : Bool) (A : Option Addr) : (ND.mk neg [u] ⟨A, 1, 1⟩).Ok ∧ (ND.mk neg [u] ⟨A, 1, 1⟩).x = if neg then -(u : Int) else (u : Int) := by
  have hv : lval [u] = u := by simp [lval, val]
  have hlow : Low BB [u] := by
    intro d hd
    simp only [List.mem_cons, List.not_mem_nil, or_false] at hd
    rw [hd]
    exact hu2
  refine ⟨⟨(by decide : 1 ≤ 48), ?_⟩, ?_⟩
  · show mayB neg [u] = true
    rw [may_eq hlow (rfl : [u].length = 1)]
    have ht : tlen [u] = 1 := by
      have h0 : 0 < tlen [u] := (tlen_pos _).2 (by rw [hv]; exact hu)
      have h1 : tlen [u] ≤ 1 := tlen_le hlow
      omega
    rw [ht]
    cases neg <;> rfl
  · show sval neg [u] = _
    unfold sval
    rw [hv]
theorem run_bad (w : World) (A : Option Addr) (cp : Nat) (x : Int) (hf : Fits x) (h0 : ItmC w A 0 (fun M u => DenH M u x)) (h1 : ItmC w A 1 (fun _ u => u = 20)) :
    Calls Tryz.prog 9 #[.int .i64 4, .slice A 2 cp] w (RunEnd 0 3 0 w) :=
  run_gen w 4 A 2 cp (fun j M u => if j = 0 then DenH M u x else u = 20) (fun j M M' u d e => by
    by_cases hj : j = 0
    · rw [if_pos hj] at d ⊢; exact d.ext e
    · rw [if_neg hj] at d ⊢; exact d) (fun i hi => by
    match i, hi with
    | 0, _ => exact h0
    | 1, _ => exact h1) (by decide) 0 3 0 (fun w0 w1 h c s p g S R rc us lh lc ls lp lg H hr hd _ _ K =>
    have d0 := hd 0 (by decide)
    have d1 := hd 1 (by decide)
    (apply_bad H R rc us hr x d0 hf (fun w2 k2 => by
      have e1 : us.getD 1 0 = 20 := d1
      rw [e1]
      exact hnum_no (H.keep0 k2) 20 (by decide) (by decide) (fun w3 k3 => object_no ((H.keep0 k2).keep0 k3) 20 (by decide) (by unfold isAddr; decide)) (.inl rfl))).mono (fun e w2 A => ⟨K.trans A.2, 0, A.1, fun h => absurd h (by decide)⟩))
end Go.Proofs.YtkjocmenpccooaaGreatDoor
