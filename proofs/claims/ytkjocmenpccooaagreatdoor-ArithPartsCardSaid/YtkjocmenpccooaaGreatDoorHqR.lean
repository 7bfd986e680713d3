/-
  The laws' right: may these data be arguments?
-/
import Derived.Test.YtkjocmenpccooaaGreatDoorHqA
namespace Go.Proofs.YtkjocmenpccooaaGreatDoor
open Go.RowKit

def rightB (ds : List ND) : Bool := ds.all (fun d => decide (d.v.n ≤ 48) && mayB d.q d.l)
theorem rightB_ok {ds : List ND} (h : rightB ds = true) : ∀ d ∈ ds, d.Ok := fun d hd => by
  have := List.all_eq_true.1 h d hd
  rw [Bool.and_eq_true] at this
  exact ⟨of_decide_eq_true this.1, this.2⟩
set_option maxRecDepth 100000 in
set_option maxHeartbeats 4000000 in
theorem right_any (w : World) (A : Option Addr) (m cp : Nat) (ds : List ND) (hds : ds.length = m) (hA : DatR w A ds) (hm : m ≤ 50) (t : Bool) (ht : t = rightB ds) :
    Calls Tryz.prog 7 #[.slice A m cp] w (BoolPost t w) := by
  have HA := Lib.hid hA
  have HDS := Lib.hid hds
  have HT := Lib.hid ht
  have hm' := hm
  have l0 : decide ((50 : Int) < (m : Int)) = false := decide_eq_false (by omega)
  have l9 : decide (50 < m) = false := decide_eq_false (by omega)
  clear hA hds ht hm
  go_enter Tryz.func7, Tryz.ntmps7
  go_wp2_with fail
  clear l0 l9
  go_loopw [3] (fun iv wr => ∃ i : Nat, i ≤ m ∧ iv = .int .i64 (i : Int) ∧ Keep (fun _ => False) w wr ∧ rightB (ds.drop i) = t) (fun iv _ => m - (intOf iv).toNat)
  case atStart => exact ⟨0, Nat.zero_le _, rfl, Keep.refl _ _, HT.out.symm⟩
  case round =>
    obtain ⟨i, hi, rfl, kr, hor⟩ := hrel
    have HKR := Lib.hid kr
    by_cases h4 : i < m
    · have l1 : decide ((i : Int) < (m : Int)) = true := decide_eq_true (by omega)
      have l2 : decide (i < m) = true := decide_eq_true h4
      have hil : i < ds.length := by rw [HDS.out]; exact h4
      obtain ⟨b, off, hAe, hbl, h0, h1, h2, h3, h4', h5, hl⟩ := (HA.out.keep0 kr) i hil
      obtain ⟨d, hd⟩ : ∃ d, d = ds[i] := ⟨_, rfl⟩
      rw [← hd] at h2 h3 hl
      have HDR := Lib.hid (show rightB (ds.drop i) = ((decide (d.v.n ≤ 48) && mayB d.q d.l) && rightB (ds.drop (i + 1))) from by
        rw [List.drop_eq_getElem_cons hil, ← hd]
        rfl)
      rw [HDR.out] at hor
      have HOR := Lib.hid hor
      obtain ⟨q, l, ⟨A2, n, c⟩⟩ := d
      have hl : n ≤ 60 → LimbsAt wr A2 n c l := hl
      have HL := Lib.hid hl
      simp only at h2 h3
      subst hAe
      have HBL := Lib.hid hbl
      clear hor HDR hd hl kr hil hbl
      by_cases h48 : n ≤ 48
      · have l3 : decide ((48 : Int) < (n : Int)) = false := decide_eq_false (by omega)
        have l4 : decide (48 < n) = false := decide_eq_false (by omega)
        obtain ⟨u, hu⟩ : ∃ u, u = mayB q l := ⟨_, rfl⟩
        have HM := Lib.hid (rmay_int q A2 n c l u wr (HL.out (by omega)) (by omega) hu)
        have HU := Lib.hid (show (decide (n ≤ 48) && mayB q l) = u from by rw [decide_eq_true h48, Bool.true_and]; exact hu.symm)
        clear hu h48
        go_wp2_with fail
        refine HM.out.mono ?_
        rintro e w2 ⟨rfl, k2⟩
        have HK2 := Lib.hid (HKR.out.trans k2)
        replace h0 := (k2.cell (p := ⟨b, off + i * 6, none⟩) HBL.out id).trans h0
        replace h1 := (k2.cell (p := ⟨b, off + i * 6 + 1, none⟩) HBL.out id).trans h1
        replace h2 := (k2.cell (p := ⟨b, off + i * 6 + 2, none⟩) HBL.out id).trans h2
        replace h3 := (k2.cell (p := ⟨b, off + i * 6 + 3, none⟩) HBL.out id).trans h3
        replace h4' := (k2.cell (p := ⟨b, off + i * 6 + 4, none⟩) HBL.out id).trans h4'
        replace h5 := (k2.cell (p := ⟨b, off + i * 6 + 5, none⟩) HBL.out id).trans h5
        clear k2
        cases u with
        | false =>
          go_wp2_with fail
          go_ret
          refine ⟨?_, HK2.out⟩
          rw [← HOR.out, show (decide (_ ≤ 48) && mayB _ _) = false from HU.out]
          rfl
        | true =>
          go_wp2_with fail
          refine (count_leaf 4 q A2 n c _ _).mono ?_
          rintro e w3 ⟨rfl, k3⟩
          have HK3 := Lib.hid (HK2.out.trans k3)
          clear k3 h0 h1 h2 h3 h4' h5
          go_wp2_with fail
          go_roundw
          case rel => exact ⟨i + 1, h4, by go_num, HK3.out, by rw [← HOR.out, show (decide (_ ≤ 48) && mayB _ _) = true from HU.out, Bool.true_and]⟩
          case measure => simp only [intOf]; omega
      · have l3 : decide ((48 : Int) < (n : Int)) = true := decide_eq_true (by omega)
        have l4 : decide (48 < n) = true := decide_eq_true (by omega)
        have HML := Lib.hid (show (decide (n ≤ 48) && mayB q l) = false from by rw [decide_eq_false h48, Bool.false_and])
        go_wp2_with fail
        go_ret
        refine ⟨?_, HKR.out⟩
        rw [← HOR.out, show (decide (_ ≤ 48) && mayB _ _) = false from HML.out]
        rfl
    · have hie : m = i := by omega
      subst hie
      have l1 : decide ((m : Int) < (m : Int)) = false := decide_eq_false (by omega)
      have HTT := Lib.hid (show t = true from by
        rw [← hor, List.drop_of_length_le (by rw [HDS.out]; exact Nat.le_refl _)]
        rfl)
      clear hor kr
      go_wp2_with fail
      go_ret
      exact ⟨by rw [HTT.out]; rfl, HKR.out⟩
end Go.Proofs.YtkjocmenpccooaaGreatDoor
