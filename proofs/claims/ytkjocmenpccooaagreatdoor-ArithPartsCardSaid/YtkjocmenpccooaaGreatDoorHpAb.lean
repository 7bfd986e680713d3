/-
  arith.reckon, of a difference.
-/
import Derived.Test.YtkjocmenpccooaaGreatDoorHpAa
namespace Go.Proofs.YtkjocmenpccooaaGreatDoor
open Go.RowKit

set_option maxRecDepth 100000 in
set_option maxHeartbeats 4000000 in
theorem reckon_sub (w : World) (R : Option Addr) (rc : Nat) (hrc : 2 ≤ rc) (x y : Int) (hR : NumsR w R [x, y]) (er v : Int) (her : er = if Fits (x - y) then 0 else 6) (hv : Fits (x - y) → v = x - y) :
    Calls Tryz.prog 40 #[.int .i64 3, .slice R 2 rc] w (RcPost er v w) := by
  have K1 : Keep (fun _ => False) w (w.alloc (.cells #[.bool false, .slice none 0 0] 24)) := (Keep.refl _ _).alloc _
  have hb := heap_alloc_new w (.cells #[.bool false, .slice none 0 0] 24)
  have hR0 := hR
  obtain ⟨b, off, A, n, c, A', n', c', rfl, hbl, h0, h1, h2, h3, hl, hf, hl', hf'⟩ := hR.two
  have hRT := hR0.tail
  obtain ⟨q, hq⟩ : ∃ q, q = decide (x < 0) := ⟨_, rfl⟩
  rw [← hq] at h0
  generalize hw1 : w.alloc (.cells #[.bool false, .slice none 0 0] 24) = w1 at *
  have hpost : ∀ (w2 w3 : World) (e : Ending), NumOr (foldV (· - ·) x [y]) w2 e w3 → RcPost er v w2 e w3 := fun w2 w3 e h => by
    have h := h.rc
    unfold foldV at h
    by_cases hfx : Fits (x - y)
    · rw [if_pos hfx] at h her
      rw [her, hv hfx]
      exact h
    · rw [if_neg hfx] at h her
      obtain ⟨k, q, A, n, c, he, _⟩ := h
      rw [her]
      exact ⟨k, q, A, n, c, he, fun h0 => absurd h0 (by decide)⟩
  have HCC := Lib.hid (fun (w2 : World) (k2 : Keep (fun _ => False) w1 w2) => (show Calls Tryz.prog 70 #[numArg q A n c, .func (.func 74) #[] #[], .slice (if rc = 1 then some ⟨b, off, none⟩ else some ⟨b, off + 2, none⟩) 1 (rc - 1)] w2 (RcPost er v w2) from by
    rw [hq, if_neg (by omega)]
    exact (fold_any 74 (by decide) _ op_sub w2 x A n c (hl.keep0 (K1.trans k2)) hf (some ⟨b, off + 2, none⟩) 1 (rc - 1) [y] rfl (hRT.keep0 (K1.trans k2)) (by decide)).mono (fun e w3 h => hpost w2 w3 e h)))
  have HT := Lib.hid (fun (w3 w2 : World) (kk : Keep (fun _ => False) w1 w3) (e : Ending) (h : RcPost er v w3 e w2) => RcPost.two (K1.trans kk) (Nat.le_refl _) (kk.heap hb id) h)
  have HKC := Lib.hid (fun (w2 : World) (kk : Keep (fun _ => False) w w2) => (show w2.cell? ⟨b, off, none⟩ = some (.bool q) ∧ w2.cell? ⟨b, off + 1, none⟩ = some (.slice A n c) from ⟨(kk.cell (p := ⟨b, off, none⟩) hbl id).trans h0, (kk.cell (p := ⟨b, off + 1, none⟩) hbl id).trans h1⟩))
  have Kd : Keep (fun _ => False) w1 w1.drew := (Keep.refl _ _).drew
  have KD : Keep (fun _ => False) w w1.drew := K1.trans Kd
  obtain ⟨h0, h1⟩ := HKC.out _ K1
  obtain ⟨c0, c1, f0, f1⟩ := two_at hb
  clear hpost hR0 hRT hR hb hq hl hl' hf hf' hbl K1 her hv
  go_enter Tryz.func40, Tryz.ntmps40
  go_wp2_with fail
  go_region_held3 (fun w' => w'.cell? ⟨b, off, none⟩ = some (.bool q) ∧ w'.cell? ⟨b, off + 1, none⟩ = some (.slice A n c))
    (first | exact HKC.out _ KD | (refine HKC.out _ ?_; assumption) | exact HKC.out _ (two_keep (by assumption) (Nat.le_refl _) _ _))
    (first | (go_at_call 70; refine (HCC.out _ Kd).mono ?_; intro e w3 hres; have K3 := KD.trans hres.1; obtain ⟨q5, A5, n5, c5, rfl, g0, g1, g2, g3, e0, e1, P⟩ := HT.out _ w3 Kd e hres; have HP := Lib.hid P; have HE := Lib.hid (And.intro e0 e1); clear hres P e0 e1))
  all_goals
    go_wp2_with fail
    refine bodyPost_ret (v := .tuple #[numArg q5 A5 n5 c5, .int .i64 er]) ?_ rfl HP.out
    obtain ⟨e0, e1⟩ := HE.out
    simp [results, Tryz.results40, go_sem, e0, e1]
end Go.Proofs.YtkjocmenpccooaaGreatDoor
