/-
  arith.reckon, of quotients.
-/
import Derived.Test.YtkjocmenpccooaaGreatDoorHpY
namespace Go.Proofs.YtkjocmenpccooaaGreatDoor
open Go.RowKit

theorem NumsR.two {w : World} {R : Option Addr} {x y : Int} (h : NumsR w R [x, y]) : ∃ b off A n c A' n' c', R = some ⟨b, off, none⟩ ∧ b < w.heap.size ∧ w.cell? ⟨b, off, none⟩ = some (.bool (decide (x < 0))) ∧ w.cell? ⟨b, off + 1, none⟩ = some (.slice A n c) ∧ w.cell? ⟨b, off + 2, none⟩ = some (.bool (decide (y < 0))) ∧ w.cell? ⟨b, off + 3, none⟩ = some (.slice A' n' c') ∧ LimbsAt w A n c (limbs x.natAbs) ∧ Fits x ∧ LimbsAt w A' n' c' (limbs y.natAbs) ∧ Fits y := by
  obtain ⟨b, off, A, n, c, hR, hb, h0, h1, hl, hf⟩ := h 0 (by simp)
  obtain ⟨b', off', A', n', c', hR', _, h2, h3, hl', hf'⟩ := h 1 (by simp)
  rw [hR] at hR'
  injection hR' with e
  injection e with e1 e2
  subst e1 e2
  exact ⟨b, off, A, n, c, A', n', c', hR, hb, by simpa using h0, by simpa using h1, by simpa using h2, by simpa using h3, hl, hf, hl', hf'⟩
set_option maxRecDepth 100000 in
set_option maxHeartbeats 4000000 in
theorem reckon_div (k : Int) (f : Nat) (hk : k = 4 ∧ f = 76 ∨ k = 5 ∧ f = 77 ∨ k = 6 ∧ f = 78) (w : World) (R : Option Addr) (rc : Nat) (x y : Int) (hR : NumsR w R [x, y]) (er v : Int)
    (HC : ∀ (w1 : World) (A : Option Addr) (n c : Nat) (A' : Option Addr) (n' c' : Nat), Keep (fun _ => False) w w1 → LimbsAt w1 A n c (limbs x.natAbs) → Fits x → LimbsAt w1 A' n' c' (limbs y.natAbs) → Fits y → Calls Tryz.prog f #[numArg (decide (x < 0)) A n c, numArg (decide (y < 0)) A' n' c'] w1 (RcPost er v w1)) :
    Calls Tryz.prog 40 #[.int .i64 k, .slice R 2 rc] w (RcPost er v w) := by
  have K1 : Keep (fun _ => False) w (w.alloc (.cells #[.bool false, .slice none 0 0] 24)) := (Keep.refl _ _).alloc _
  have hb := heap_alloc_new w (.cells #[.bool false, .slice none 0 0] 24)
  obtain ⟨b, off, A, n, c, A', n', c', rfl, hbl, h0, h1, h2, h3, hl, hf, hl', hf'⟩ := hR.two
  obtain ⟨q, hq⟩ : ∃ q, q = decide (x < 0) := ⟨_, rfl⟩
  obtain ⟨q', hq'⟩ : ∃ q', q' = decide (y < 0) := ⟨_, rfl⟩
  rw [← hq] at h0
  rw [← hq'] at h2
  generalize hw1 : w.alloc (.cells #[.bool false, .slice none 0 0] 24) = w1 at *
  have HCC := Lib.hid (fun (w2 : World) (k2 : Keep (fun _ => False) w1 w2) => (show Calls Tryz.prog f #[numArg q A n c, numArg q' A' n' c'] w2 (RcPost er v w2) from by rw [hq, hq']; exact HC w2 A n c A' n' c' (K1.trans k2) (hl.keep0 (K1.trans k2)) hf (hl'.keep0 (K1.trans k2)) hf'))
  have HT := Lib.hid (fun (w3 w2 : World) (kk : Keep (fun _ => False) w1 w3) (e : Ending) (h : RcPost er v w3 e w2) => RcPost.two (K1.trans kk) (Nat.le_refl _) (kk.heap hb id) h)
  have HKC := Lib.hid (fun (w2 : World) (kk : Keep (fun _ => False) w w2) => (show w2.cell? ⟨b, off, none⟩ = some (.bool q) ∧ w2.cell? ⟨b, off + 1, none⟩ = some (.slice A n c) ∧ w2.cell? ⟨b, off + 2, none⟩ = some (.bool q') ∧ w2.cell? ⟨b, off + 3, none⟩ = some (.slice A' n' c') from ⟨(kk.cell (p := ⟨b, off, none⟩) hbl id).trans h0, (kk.cell (p := ⟨b, off + 1, none⟩) hbl id).trans h1, (kk.cell (p := ⟨b, off + 2, none⟩) hbl id).trans h2, (kk.cell (p := ⟨b, off + 3, none⟩) hbl id).trans h3⟩))
  have Kd : Keep (fun _ => False) w1 w1.drew := (Keep.refl _ _).drew
  have KD : Keep (fun _ => False) w w1.drew := K1.trans Kd
  obtain ⟨h0, h1, h2, h3⟩ := HKC.out _ K1
  obtain ⟨c0, c1, f0, f1⟩ := two_at hb
  clear hR HC hb hq hq' hl hl' hf hf' hbl K1
  rcases hk with ⟨rfl, rfl⟩ | ⟨rfl, rfl⟩ | ⟨rfl, rfl⟩
  all_goals
    go_enter Tryz.func40, Tryz.ntmps40
    go_wp2_with fail
    go_region_held3 (fun w' => w'.cell? ⟨b, off, none⟩ = some (.bool q) ∧ w'.cell? ⟨b, off + 1, none⟩ = some (.slice A n c) ∧ w'.cell? ⟨b, off + 2, none⟩ = some (.bool q') ∧ w'.cell? ⟨b, off + 3, none⟩ = some (.slice A' n' c'))
      (first | exact HKC.out _ KD | (refine HKC.out _ ?_; assumption) | exact HKC.out _ (two_keep (by assumption) (Nat.le_refl _) _ _))
      (first | ((first | go_at_call 76 | go_at_call 77 | go_at_call 78); refine (HCC.out _ Kd).mono ?_; intro e w3 hres; have K3 := KD.trans hres.1; obtain ⟨q5, A5, n5, c5, rfl, g0, g1, g2, g3, e0, e1, P⟩ := HT.out _ w3 Kd e hres; have HP := Lib.hid P; have HE := Lib.hid (And.intro e0 e1); clear hres P e0 e1))
    all_goals
      go_wp2_with fail
      refine bodyPost_ret (v := .tuple #[numArg q5 A5 n5 c5, .int .i64 er]) ?_ rfl HP.out
      obtain ⟨e0, e1⟩ := HE.out
      simp [results, Tryz.results40, go_sem, e0, e1]
end Go.Proofs.YtkjocmenpccooaaGreatDoor
