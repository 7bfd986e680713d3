/-
  The document's Turn, of bits that lie anywhere.
-/
import Derived.Test.YtdfekphahdmffaaDoorLawVal
namespace Go.Proofs.YtdfekphahdmffaaDoor
open Go.RowKit

theorem BitsAt.cutB {w : World} {A : Option Addr} {n c m : Nat} (h : BitsAt w A n c (bits2 m)) : BitsAt w A (blen (bits2 m)) c (bits2 m) := by
  have e : blen (bits2 m) = n := by
    unfold blen
    rw [show bval (bits2 m) = m from val_digs two2 m]
    exact h.len
  rw [e]
  exact h
set_option maxRecDepth 100000 in
set_option maxHeartbeats 2000000 in
theorem value_b {z : Bool} {neg : Bool} {A : Option Addr} {n c M : Nat} {w : World} (h : BitsAt w A n c (bits2 M)) (hz : z = decide (sgn neg M < 0)) :
    Calls Tryd.prog 62 #[.bool neg, .slice A n c] w fun e w' => ∃ n', e = .returned (numArg z A n' c) ∧ BitsAt w' A n' c (bits2 M) ∧ Keep (fun _ => False) w w' := by
  have K : Keep (fun _ => False) w (w.alloc (.cells #[.bool false, .slice none 0 0] 34)) := (Keep.refl _ _).alloc _
  have HB := Lib.hid (h.keep0 K)
  have HO := Lib.hid h.cutB
  have hpos := blen_pos (bits2 M)
  rw [show bval (bits2 M) = M from val_digs two2 M] at hpos
  have hle := blen_le (digs_low two2 M)
  have hln := h.len
  have hcap := h.cap
  have HSG := Lib.hid (sgn_neg neg M)
  have hc2 : (blen (bits2 M) : Int) ≤ (c : Int) := by unfold bits2 at hln ⊢; omega
  have HPOS := Lib.hid hpos
  have HZ := Lib.hid hz
  clear hpos h hz hle hln hcap
  obtain ⟨L, hL⟩ : ∃ L, L = bits2 M := ⟨_, rfl⟩
  rw [← hL] at HB HO hc2 HPOS
  have HLE := Lib.hid hL
  clear hL
  cases neg with
  | false =>
    have hd := Lib.hid (show z = false from by rw [HZ.out, ← HSG.out]; rfl)
    go_enter Tryd.func62, Tryd.ntmps62
    go_wp2_with fail
    refine (cut_any A n c L _ HB.out).mono ?_
    rintro e w1 ⟨rfl, rfl⟩
    go_wp2_with fail
    refine bodyPost_ret (v := numArg false A (blen L) c) (by simp [results, Tryd.results62, go_sem]) rfl ⟨_, by rw [hd.out], by rw [← HLE.out]; exact HO.out.keep0 ((Keep.refl _ _).alloc _), (Keep.refl _ _).alloc _⟩
  | true =>
    by_cases h0 : 0 < blen L
    · have h0i : (0 : Int) < (blen L : Int) := by omega
      have hd := Lib.hid (show z = true from by rw [HZ.out, ← HSG.out, Bool.true_and]; exact decide_eq_true (HPOS.out.1 h0))
      go_enter Tryd.func62, Tryd.ntmps62
      go_wp2_with fail
      refine (cut_any A n c L _ HB.out).mono ?_
      rintro e w1 ⟨rfl, rfl⟩
      go_wp2_with fail
      refine bodyPost_ret (v := numArg true A (blen L) c) (by simp [results, Tryd.results62, go_sem]) rfl ⟨_, by rw [hd.out], by rw [← HLE.out]; exact HO.out.keep0 ((Keep.refl _ _).alloc _), (Keep.refl _ _).alloc _⟩
    · have h0i : decide ((0 : Int) < (blen L : Int)) = false := decide_eq_false (by omega)
      have hd := Lib.hid (show z = false from by rw [HZ.out, ← HSG.out, Bool.true_and]; exact decide_eq_false (fun h => h0 (HPOS.out.2 h)))
      go_enter Tryd.func62, Tryd.ntmps62
      go_wp2_with fail
      refine (cut_any A n c L _ HB.out).mono ?_
      rintro e w1 ⟨rfl, rfl⟩
      go_wp2_with fail
      refine bodyPost_ret (v := numArg false A (blen L) c) (by simp [results, Tryd.results62, go_sem]) rfl ⟨_, by rw [hd.out], by rw [← HLE.out]; exact HO.out.keep0 ((Keep.refl _ _).alloc _), (Keep.refl _ _).alloc _⟩
set_option maxRecDepth 100000 in
set_option maxHeartbeats 4000000 in
theorem turn_b (x : Int) (p z : Bool) (A : Option Addr) (n c : Nat) (w : World) (hp : p = decide (x < 0)) (hz : z = decide (-x < 0)) (h : BitsAt w A n c (bits2 x.natAbs)) :
    Calls Tryd.prog 46 #[numArg p A n c] w fun e w' => ∃ n', e = .returned (numArg z A n' c) ∧ BitsAt w' A n' c (bits2 (-x).natAbs) ∧ Keep (fun _ => False) w w' := by
  have K : Keep (fun _ => False) w ((w.alloc (.cells #[.bool p, .slice A n c] 34)).alloc (.cells #[.bool false, .slice none 0 0] 34)) := ((Keep.refl _ _).alloc _).alloc _
  have hb2 : ((w.alloc (.cells #[.bool p, .slice A n c] 34)).alloc (.cells #[.bool false, .slice none 0 0] 34)).heap[w.heap.size + 1]? = some (.cells #[.bool false, .slice none 0 0] 34 (0, 0)) := by
    have := heap_alloc_new (w.alloc (.cells #[.bool p, .slice A n c] 34)) (.cells #[.bool false, .slice none 0 0] 34)
    rwa [World.size_alloc] at this
  have hs : sgn (!p) x.natAbs = -x := by subst hp; unfold sgn; by_cases h0 : x < 0 <;> simp [h0] <;> omega
  have HV := Lib.hid (value_b (z := z) (neg := !p) (h.keep0 K) (by rw [hs]; exact hz))
  have HB := Lib.hid hb2
  have HK := Lib.hid K
  have HNA := Lib.hid (Int.natAbs_neg x)
  clear h K hb2 hs hz hp
  go_enter Tryd.func46, Tryd.ntmps46
  go_wp2_with fail
  generalize hB0 : w.heap.size = B0 at HB ⊢
  have HBX := Lib.hid (Nat.le_of_eq hB0)
  generalize (w.alloc (.cells #[.bool p, .slice A n c] 34)).alloc (.cells #[.bool false, .slice none 0 0] 34) = w1 at HB HV HK ⊢
  refine HV.out.mono ?_
  rintro e w9 ⟨n9, rfl, o9, k9⟩
  have hb9 := k9.heap HB.out (by simp)
  have d0 : w9.cell? ⟨B0 + 1, 0, none⟩ = some (.bool false) := by rw [cell_of_row w9 _ _ _ _ _ hb9]; rfl
  have d1 : w9.cell? ⟨B0 + 1, 1, none⟩ = some (.slice none 0 0) := by rw [cell_of_row w9 _ _ _ _ _ hb9]; rfl
  have g0 : w9.frozen? ⟨B0 + 1, 0, none⟩ = false := by simp [World.frozen?, hb9]
  have g1 : w9.frozen? ⟨B0 + 1, 1, none⟩ = false := by simp [World.frozen?, hb9]
  have HE := Lib.hid (two_cells hb9 (.bool z) (.slice A n9 c))
  have HKK := Lib.hid (two_keep (HK.out.trans k9) (show w.heap.size ≤ B0 + 1 from by have := HBX.out; omega) (.bool z) (.slice A n9 c))
  have KS : Keep (fun b => b = B0 + 1) w9 ((w9.setCell ⟨B0 + 1, 0, none⟩ (.bool z)).setCell ⟨B0 + 1, 1, none⟩ (.slice A n9 c)) := ((Keep.refl (fun b => b = B0 + 1) w9).setCell (p := ⟨B0 + 1, 0, none⟩) (.inl rfl) (.bool z)).setCell (p := ⟨B0 + 1, 1, none⟩) (.inl rfl) (.slice A n9 c)
  have HOO := Lib.hid (show BitsAt ((w9.setCell ⟨B0 + 1, 0, none⟩ (.bool z)).setCell ⟨B0 + 1, 1, none⟩ (.slice A n9 c)) A n9 c (bits2 (-x).natAbs) from by
    rw [HNA.out]
    exact ⟨o9.row.keep KS (row_off o9.row hb9 (by intro q x e; cases e)), o9.low, o9.cap, o9.max⟩)
  clear o9 k9 hb9 KS
  try dsimp only
  go_wp2_with fail
  obtain ⟨e0, e1⟩ := HE.out
  exact bodyPost_ret (v := numArg z A n9 c) (by simp [results, Tryd.results46, go_sem, e0, e1]) rfl ⟨n9, rfl, HOO.out, HKK.out⟩
end Go.Proofs.YtdfekphahdmffaaDoor
