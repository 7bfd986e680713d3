/-
  arith.reckon of max, min; arith.ordered.
-/
import Derived.Test.YtkjocmenpccooaaGreatDoorHpAd
import Derived.IntWalk
namespace Go.Proofs.YtkjocmenpccooaaGreatDoor
open Go.RowKit

set_option maxRecDepth 100000 in
set_option maxHeartbeats 4000000 in
theorem reckon_end (k : Int) (hk : k = 12 ∨ k = 13) (w : World) (R : Option Addr) (m rc : Nat) (x0 : Int) (xs : List Int) (hxs : xs.length = m) (hR : NumsR w R (x0 :: xs)) (hm : m ≤ 1000) (hm1 : 1 ≤ m) (hrc : m + 1 ≤ rc) (vv : Int) (hvv : vv = bestV k x0 xs) :
    Calls Tryz.prog 40 #[.int .i64 k, .slice R (m + 1) rc] w (RcPost 0 vv w) := by
  have K1 : Keep (fun _ => False) w (w.alloc (.cells #[.bool false, .slice none 0 0] 24)) := (Keep.refl _ _).alloc _
  have hb := heap_alloc_new w (.cells #[.bool false, .slice none 0 0] 24)
  have HC := Lib.hid (show Calls Tryz.prog 79 #[.int .i64 k, .slice R (m + 1) rc] (w.alloc (.cells #[.bool false, .slice none 0 0] 24)) (EndPost vv (w.alloc (.cells #[.bool false, .slice none 0 0] 24))) from by rw [hvv]; exact end_any k hk _ R m rc x0 xs hxs (hR.keep0 K1) hm hm1 hrc)
  have HT := Lib.hid (fun (w2 : World) (q : Bool) (A : Option Addr) (n c : Nat) (kk : Keep (fun _ => False) (w.alloc (.cells #[.bool false, .slice none 0 0] 24)) w2) (h : q = decide (vv < 0) ∧ LimbsAt w2 A n c (limbs vv.natAbs) ∧ Fits vv) => RcPost.two (er := 0) (v := vv) (K1.trans kk) (Nat.le_refl _) (kk.heap hb id) (e := .returned (.tuple #[numArg q A n c, .int .i64 0])) (w2 := w2) ⟨Keep.refl _ _, q, A, n, c, rfl, fun _ => h⟩)
  clear K1 hb hR hxs hm hm1 hrc hvv
  rcases hk with rfl | rfl
  all_goals
    go_enter Tryz.func40, Tryz.ntmps40
    go_wp2_with fail
    refine HC.out.mono ?_
    rintro e w2 ⟨k2, q, A, n, c, rfl, h⟩
    obtain ⟨q5, A5, n5, c5, he5, g0, g1, g2, g3, e0, e1, P⟩ := HT.out w2 q A n c k2 h
    injection he5 with he5
    injection he5 with he5
    injection he5 with he5
    injection he5 with he5 _
    injection he5 with he5
    injection he5 with he5
    injection he5 with e5 e6
    injection e6 with e6 _
    injection e5 with e5
    injection e6 with e6 e7 e8
    subst e5 e6 e7 e8
    have HP := Lib.hid P
    have HE := Lib.hid (And.intro e0 e1)
    clear P e0 e1 h k2
    go_wp2_with fail
    refine bodyPost_ret (v := .tuple #[numArg q A n c, .int .i64 0]) ?_ rfl HP.out
    obtain ⟨e0, e1⟩ := HE.out
    simp [results, Tryz.results40, go_sem, e0, e1]
/-- Does a comparison stand so? -/
def soB (k c : Int) : Bool :=
  if k = 7 then decide (c = 0) else if k = 8 then decide (c < 0) else if k = 9 then decide (0 < c) else if k = 10 then decide (c ≤ 0) else decide (0 ≤ c)
def orderB (k : Int) : List Int → Bool
  | x :: y :: l => soB k (cmpI x y) && orderB k (y :: l)
  | _ => true
set_option maxRecDepth 100000 in
set_option maxHeartbeats 8000000 in
theorem ordered_any (k : Int) (hk : k = 7 ∨ k = 8 ∨ k = 9 ∨ k = 10 ∨ k = 11) (w : World) (R : Option Addr) (m rc : Nat) (xs : List Int) (hxs : xs.length = m) (hR : NumsR w R xs) (hm : m ≤ 1000) (hm1 : 1 ≤ m) (t : Bool) (ht : t = orderB k xs) :
    Calls Tryz.prog 37 #[.int .i64 k, .slice R m rc] w (fun e w' => e = .returned (.bool t) ∧ Keep (fun _ => False) w w') := by
  have HR := Lib.hid hR
  have HXS := Lib.hid hxs
  have HT := Lib.hid ht
  have hm' := hm
  have hm1' := hm1
  clear hR hxs ht hm hm1
  have HKK := Lib.hid hk
  go_enter Tryz.func37, Tryz.ntmps37
  go_wp2_with fail
  go_loopw [5] (fun iv wr => ∃ i : Nat, 1 ≤ i ∧ i ≤ m ∧ iv = .int .i64 (i : Int) ∧ Keep (fun _ => False) w wr ∧ orderB k (xs.drop (i - 1)) = t) (fun iv _ => m - (intOf iv).toNat)
  case atStart => exact ⟨1, Nat.le_refl _, hm1', rfl, Keep.refl _ _, HT.out.symm⟩
  case round =>
    obtain ⟨i, hi1, hi, rfl, kr, hor⟩ := hrel
    obtain ⟨j, rfl⟩ : ∃ j, i = j + 1 := ⟨i - 1, by omega⟩
    rw [Nat.add_sub_cancel] at hor
    have HKR := Lib.hid kr
    have ej : ((j + 1 : Nat) : Int) = (j : Int) + 1 := by omega
    by_cases h4 : j + 1 < m
    · have l1 : decide ((j : Int) + 1 < (m : Int)) = true := decide_eq_true (by omega)
      have l2 : decide (j + 1 < m) = true := decide_eq_true h4
      have l5 : decide (j < m) = true := decide_eq_true (by omega)
      have hjl : j < xs.length := by rw [HXS.out]; omega
      have hjl2 : j + 1 < xs.length := by rw [HXS.out]; omega
      obtain ⟨b, off, A, n, c, hRe, hbl, h0, h1, hl, hf⟩ := (HR.out.keep0 kr) j hjl
      obtain ⟨b', off', A', n', c', hRe', _, h2, h3, hl', hf'⟩ := (HR.out.keep0 kr) (j + 1) hjl2
      obtain ⟨x, hx⟩ : ∃ x, x = xs[j] := ⟨_, rfl⟩
      obtain ⟨y, hy⟩ : ∃ y, y = xs[j + 1] := ⟨_, rfl⟩
      rw [← hx] at h0 hl
      rw [← hy] at h2 hl'
      rw [hRe] at hRe'
      injection hRe' with e
      injection e with e1 e2
      subst e1 e2 hRe
      have HDR := Lib.hid (show orderB k (xs.drop j) = (soB k (cmpI x y) && orderB k (xs.drop (j + 1))) from by
        rw [List.drop_eq_getElem_cons hjl, List.drop_eq_getElem_cons hjl2, ← hx, ← hy]
        rfl)
      rw [HDR.out] at hor
      have HOR := Lib.hid hor
      obtain ⟨q, hq⟩ : ∃ q, q = decide (x < 0) := ⟨_, rfl⟩
      obtain ⟨q', hq'⟩ : ∃ q', q' = decide (y < 0) := ⟨_, rfl⟩
      rw [← hq] at h0
      rw [← hq'] at h2
      have HCC := Lib.hid (fun (w2 : World) (k2 : Keep (fun _ => False) wr w2) => (show Calls Tryz.prog 67 #[numArg q A n c, numArg q' A' n' c'] w2 (IntPost (cmpI x y) w2) from by
        have := cmp_any (decide (x < 0)) A n c _ (decide (y < 0)) A' n' c' _ w2 (hl.keep0 k2) (hl'.keep0 k2)
        rw [sval_limbs, sval_limbs] at this
        rw [hq, hq']
        exact this))
      have HKC := Lib.hid (fun (w2 : World) (kk : Keep (fun _ => False) wr w2) => (show w2.cell? ⟨b, off + j * 2, none⟩ = some (.bool q) ∧ w2.cell? ⟨b, off + j * 2 + 1, none⟩ = some (.slice A n c) ∧ w2.cell? ⟨b, off + (j + 1) * 2, none⟩ = some (.bool q') ∧ w2.cell? ⟨b, off + (j + 1) * 2 + 1, none⟩ = some (.slice A' n' c') from ⟨(kk.cell (p := ⟨b, off + j * 2, none⟩) hbl id).trans h0, (kk.cell (p := ⟨b, off + j * 2 + 1, none⟩) hbl id).trans h1, (kk.cell (p := ⟨b, off + (j + 1) * 2, none⟩) hbl id).trans h2, (kk.cell (p := ⟨b, off + (j + 1) * 2 + 1, none⟩) hbl id).trans h3⟩))
      have Kd : Keep (fun _ => False) wr wr.drew := (Keep.refl _ _).drew
      have s1 : IntKind.i64.wrap (j : Int) = (j : Int) := IntWalk.i64_in _ (by omega)
      have s2 : ((j : Int) + 1).toNat = j + 1 := by omega
      have s3 : (0 : Int) ≤ (j : Int) + 1 := by omega
      have s4 : (j : Int) < (m : Int) := by omega
      have s5 : (j : Int) + 1 < (m : Int) := by omega
      have s6 : j < m := by omega
      have s7 : ¬ (m : Int) ≤ (j : Int) := by omega
      have s8 : ¬ (m : Int) ≤ (j : Int) + 1 := by omega
      have s9 : (0 : Int) ≤ (j : Int) := by omega
      obtain ⟨cc, hcc⟩ : ∃ cc, cc = cmpI x y := ⟨_, rfl⟩
      rw [← hcc] at HCC HOR
      have hc3 : cc = -1 ∨ cc = 0 ∨ cc = 1 := by
        rw [hcc]
        unfold cmpI
        split
        · exact .inl rfl
        · split
          · exact .inr (.inr rfl)
          · exact .inr (.inl rfl)
      clear hor HDR hq hq' hx hy hl hl' hf hf' hbl hjl hjl2 hcc kr
      go_wp2_with fail
      go_region_held3 (fun w' => w'.cell? ⟨b, off + j * 2, none⟩ = some (.bool q) ∧ w'.cell? ⟨b, off + j * 2 + 1, none⟩ = some (.slice A n c) ∧ w'.cell? ⟨b, off + (j + 1) * 2, none⟩ = some (.bool q') ∧ w'.cell? ⟨b, off + (j + 1) * 2 + 1, none⟩ = some (.slice A' n' c'))
        (first | exact HKC.out _ Kd | (refine HKC.out _ ?_; assumption))
        (first | (go_at_call 67; refine (HCC.out _ Kd).mono ?_; rintro e w3 ⟨rfl, k3⟩; have K3 := Kd.trans k3))
      have KR3 := Lib.hid (HKR.out.trans K3)
      clear s1 s2 s3 s4 s5 s6 s7 s8 s9 Kd h0 h1 h2 h3 K3 k3
      rcases hk with rfl | rfl | rfl | rfl | rfl
      all_goals
        rcases hc3 with rfl | rfl | rfl
        all_goals
          go_wp2_with fail
          first
          | (go_ret
             refine ⟨?_, KR3.out⟩
             rw [← HOR.out]
             rfl)
          | (go_roundw
             case rel => exact ⟨j + 1 + 1, by omega, h4, by go_num, KR3.out, by rw [Nat.add_sub_cancel, ← HOR.out]; rfl⟩
             case measure => simp only [intOf]; omega)
    · have hie : m = j + 1 := by omega
      subst hie
      have l1 : decide ((j : Int) + 1 < (j : Int) + 1) = false := decide_eq_false (by omega)
      have HTT := Lib.hid (show t = true from by
        rw [← hor]
        have : xs.length = j + 1 := HXS.out
        have hd : (xs.drop j).length = 1 := by rw [List.length_drop]; omega
        obtain ⟨z, hz⟩ := List.length_eq_one_iff.1 hd
        rw [hz]
        rfl)
      clear hor kr
      go_wp2_with fail
      go_ret
      exact ⟨by rw [HTT.out]; rfl, HKR.out⟩
end Go.Proofs.YtkjocmenpccooaaGreatDoor
