/-
  arith.reckon, of one number and of differences.
-/
import Derived.Test.YtkjocmenpccooaaGreatDoorHpZ
namespace Go.Proofs.YtkjocmenpccooaaGreatDoor
open Go.RowKit

theorem NumsR.one {w : World} {R : Option Addr} {x : Int} {xs : List Int} (h : NumsR w R (x :: xs)) : ∃ b off A n c, R = some ⟨b, off, none⟩ ∧ b < w.heap.size ∧ w.cell? ⟨b, off, none⟩ = some (.bool (decide (x < 0))) ∧ w.cell? ⟨b, off + 1, none⟩ = some (.slice A n c) ∧ LimbsAt w A n c (limbs x.natAbs) ∧ Fits x := by
  obtain ⟨b, off, A, n, c, hR, hb, h0, h1, hl, hf⟩ := h 0 (by simp)
  exact ⟨b, off, A, n, c, hR, hb, by simpa using h0, by simpa using h1, hl, hf⟩
theorem NumsR.tail {w : World} {b off : Nat} {x : Int} {xs : List Int} (h : NumsR w (some ⟨b, off, none⟩) (x :: xs)) : NumsR w (some ⟨b, off + 2, none⟩) xs := fun i hi => by
  obtain ⟨b', off', A, n, c, hR, hb, h0, h1, hl, hf⟩ := h (i + 1) (by simpa using hi)
  injection hR with e
  injection e with e1 e2
  subst e1 e2
  rw [show off + (i + 1) * 2 = off + 2 + i * 2 from by omega] at h0 h1
  exact ⟨b, off + 2, A, n, c, rfl, hb, h0, h1, hl, hf⟩
theorem sval_turn (x : Int) : sval (!decide (x < 0)) (limbs x.natAbs) = -x := by
  have h := sval_limbs x
  unfold sval at h ⊢
  by_cases hx : x < 0
  · rw [decide_eq_true hx] at h ⊢
    simp at h ⊢
    omega
  · rw [decide_eq_false hx] at h ⊢
    simp at h ⊢
    omega
set_option maxRecDepth 100000 in
set_option maxHeartbeats 4000000 in
theorem reckon_neg (w : World) (R : Option Addr) (rc : Nat) (x : Int) (hR : NumsR w R [x]) :
    Calls Tryz.prog 40 #[.int .i64 3, .slice R 1 rc] w (RcPost 0 (-x) w) := by
  have K1 : Keep (fun _ => False) w (w.alloc (.cells #[.bool false, .slice none 0 0] 24)) := (Keep.refl _ _).alloc _
  have hb := heap_alloc_new w (.cells #[.bool false, .slice none 0 0] 24)
  obtain ⟨b, off, A, n, c, rfl, hbl, h0, h1, hl, hf⟩ := hR.one
  have hfn : Fits (-x) := by unfold Fits at hf ⊢; rwa [Int.natAbs_neg]
  obtain ⟨q, hq⟩ : ∃ q, q = decide (x < 0) := ⟨_, rfl⟩
  rw [← hq] at h0
  generalize hw1 : w.alloc (.cells #[.bool false, .slice none 0 0] 24) = w1 at *
  have HCC := Lib.hid (fun (w2 : World) (k2 : Keep (fun _ => False) w1 w2) => (show Calls Tryz.prog 75 #[numArg q A n c] w2 (ResPost (-x) w2) from by have := neg_any (decide (x < 0)) A n c _ w2 (hl.keep0 (K1.trans k2)); rw [sval_turn] at this; rw [hq]; exact this))
  have HT := Lib.hid (fun (w3 w2 : World) (kk : Keep (fun _ => False) w1 w3) (e : Ending) (h : ResPost (-x) w3 e w2) => RcPost.two (er := 0) (v := -x) (K1.trans kk) (Nat.le_refl _) (kk.heap hb id) (by have := h.rc; rwa [if_pos hfn] at this))
  replace h0 := (K1.cell (p := ⟨b, off, none⟩) hbl id).trans h0
  replace h1 := (K1.cell (p := ⟨b, off + 1, none⟩) hbl id).trans h1
  obtain ⟨c0, c1, f0, f1⟩ := two_at hb
  clear hR hb hq hl hf hfn hbl K1
  go_enter Tryz.func40, Tryz.ntmps40
  go_wp2_with fail
  refine (HCC.out _ (Keep.refl _ _)).mono ?_
  intro e w3 hres
  obtain ⟨q5, A5, n5, c5, rfl, g0, g1, g2, g3, e0, e1, P⟩ := HT.out _ w3 (Keep.refl _ _) e hres
  have HP := Lib.hid P
  have HE := Lib.hid (And.intro e0 e1)
  clear hres P e0 e1
  go_wp2_with fail
  refine bodyPost_ret (v := .tuple #[numArg q5 A5 n5 c5, .int .i64 0]) ?_ rfl HP.out
  obtain ⟨e0, e1⟩ := HE.out
  simp [results, Tryz.results40, go_sem, e0, e1]
set_option maxRecDepth 100000 in
set_option maxHeartbeats 4000000 in
theorem reckon_abs (w : World) (R : Option Addr) (rc : Nat) (x : Int) (hR : NumsR w R [x]) (vv : Int) (hvv : vv = x.natAbs) :
    Calls Tryz.prog 40 #[.int .i64 14, .slice R 1 rc] w (RcPost 0 vv w) := by
  have K1 : Keep (fun _ => False) w (w.alloc (.cells #[.bool false, .slice none 0 0] 24)) := (Keep.refl _ _).alloc _
  have hb := heap_alloc_new w (.cells #[.bool false, .slice none 0 0] 24)
  obtain ⟨b, off, A, n, c, rfl, hbl, h0, h1, hl, hf⟩ := hR.one
  have hfn : Fits (-x) := by unfold Fits at hf ⊢; rwa [Int.natAbs_neg]
  obtain ⟨q, hq⟩ : ∃ q, q = decide (x < 0) := ⟨_, rfl⟩
  rw [← hq] at h0
  generalize hw1 : w.alloc (.cells #[.bool false, .slice none 0 0] 24) = w1 at *
  have HS := Lib.hid (fun (w2 : World) (k2 : Keep (fun _ => False) w1 w2) => (show Calls Tryz.prog 38 #[numArg q A n c] w2 (IntPost (signI x) w2) from by have := sign_any (decide (x < 0)) A n c _ w2 (hl.keep0 (K1.trans k2)); rw [sval_limbs] at this; rw [hq]; exact this))
  have HCC := Lib.hid (fun (w2 : World) (k2 : Keep (fun _ => False) w1 w2) => (show Calls Tryz.prog 75 #[numArg q A n c] w2 (ResPost (-x) w2) from by have := neg_any (decide (x < 0)) A n c _ w2 (hl.keep0 (K1.trans k2)); rw [sval_turn] at this; rw [hq]; exact this))
  have HT := Lib.hid (fun (w3 w2 : World) (kk : Keep (fun _ => False) w1 w3) (e : Ending) (h : ResPost (-x) w3 e w2) => RcPost.two (er := 0) (v := -x) (K1.trans kk) (Nat.le_refl _) (kk.heap hb id) (by have := h.rc; rwa [if_pos hfn] at this))
  have HI := Lib.hid (fun (w3 : World) (kk : Keep (fun _ => False) w1 w3) (h : ¬ x < 0) => RcPost.two (er := 0) (v := x) (K1.trans kk) (Nat.le_refl _) (kk.heap hb id) (e := .returned (.tuple #[numArg q A n c, .int .i64 0])) (w2 := w3) ⟨Keep.refl _ _, q, A, n, c, rfl, fun _ => ⟨hq, hl.keep0 (K1.trans kk), hf⟩⟩)
  have HKC := Lib.hid (fun (w2 : World) (kk : Keep (fun _ => False) w w2) => (show w2.cell? ⟨b, off, none⟩ = some (.bool q) ∧ w2.cell? ⟨b, off + 1, none⟩ = some (.slice A n c) from ⟨(kk.cell (p := ⟨b, off, none⟩) hbl id).trans h0, (kk.cell (p := ⟨b, off + 1, none⟩) hbl id).trans h1⟩))
  replace h0 := (K1.cell (p := ⟨b, off, none⟩) hbl id).trans h0
  replace h1 := (K1.cell (p := ⟨b, off + 1, none⟩) hbl id).trans h1
  obtain ⟨c0, c1, f0, f1⟩ := two_at hb
  have HK1 := Lib.hid K1
  have HVV := Lib.hid hvv
  clear hvv
  clear hR hb hq hl hf hfn hbl K1
  go_enter Tryz.func40, Tryz.ntmps40
  go_wp2_with fail
  refine (HS.out _ (Keep.refl _ _)).mono ?_
  rintro e w2 ⟨rfl, k2⟩
  obtain ⟨h2, h3⟩ := HKC.out w2 (HK1.out.trans k2)
  clear h0 h1 c0 c1 f0 f1
  by_cases hx : x < 0
  · have EV := Lib.hid (show vv = -x from by rw [HVV.out]; omega)
    rw [show signI x = -1 from if_pos hx]
    have HCD := Lib.hid (HCC.out w2 k2)
    have HTD := Lib.hid (fun w3 e h => HT.out w2 w3 k2 e h)
    clear k2 hx
    go_wp2_with fail
    refine HCD.out.mono ?_
    intro e w3 hres
    obtain ⟨q5, A5, n5, c5, rfl, g0, g1, g2, g3, e0, e1, P⟩ := HTD.out w3 e hres
    rw [← EV.out] at P
    have HP := Lib.hid P
    have HE := Lib.hid (And.intro e0 e1)
    clear hres P e0 e1
    go_wp2_with fail
    refine bodyPost_ret (v := .tuple #[numArg q5 A5 n5 c5, .int .i64 0]) ?_ rfl HP.out
    obtain ⟨e0, e1⟩ := HE.out
    simp [results, Tryz.results40, go_sem, e0, e1]
  · have EV := Lib.hid (show vv = x from by rw [HVV.out]; omega)
    obtain ⟨sg, hsg⟩ : ∃ sg, sg = signI x := ⟨_, rfl⟩
    have hs0 : ¬ sg < 0 := by
      rw [hsg]
      unfold signI
      rw [if_neg hx]
      split <;> omega
    have l1 : decide (sg < 0) = false := decide_eq_false hs0
    rw [← hsg]
    obtain ⟨q5, A5, n5, c5, he5, g0, g1, g2, g3, e0, e1, P⟩ := HI.out w2 k2 (by omega)
    injection he5 with he5
    have HH := Lib.hid he5
    injection he5 with he5
    injection he5 with he5
    injection he5 with he5 _
    injection he5 with he5
    injection he5 with he5
    injection he5 with e5 e6
    injection e6 with e6 _
    injection e5 with e5
    injection e6 with e6 e7 e8
    subst e5 e6 e7 e8
    rw [← EV.out] at P
    have HP := Lib.hid P
    have HE := Lib.hid (And.intro e0 e1)
    clear P e0 e1 hs0 hsg hx k2
    go_wp2_with fail
    refine bodyPost_ret (v := .tuple #[numArg q A n c, .int .i64 0]) ?_ rfl HP.out
    obtain ⟨e0, e1⟩ := HE.out
    simp [results, Tryz.results40, go_sem, e0, e1]
end Go.Proofs.YtkjocmenpccooaaGreatDoor
