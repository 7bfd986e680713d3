/-
  seg.Mem: what Take does where a segment is free.
-/
import Derived.Test.YtgnpeciedefeiaaSegNew
namespace Go.Proofs.Ytgnpeciedefeiaa
open Go.RowKit

/-- The cells of a fresh segment, as the program builds them. -/
noncomputable def freshCells (a b c : Value) : Array Value :=
  (((((((Try.zeroCells110.setIfInBounds 0 a).setIfInBounds 1 b).setIfInBounds 2 (.int .i64 0)).setIfInBounds 3 (.int .i64 5)).setIfInBounds 4 (.int .i64 5)).setIfInBounds 5 (.int .i64 5)).setIfInBounds 6 (.int .i64 5)).setIfInBounds 7 c
theorem fresh_size (a b c : Value) : (freshCells a b c).size = 72 := by simp [freshCells]
theorem fresh_list (a b c : Int) : (freshCells (.int .i64 a) (.int .i64 b) (.int .i64 c)).toList = (List.range 72).map (Sg.fresh a b c).cell := by kernel_rfl
theorem fresh_one (a b c : Int) : (freshCells (.int .i64 a) (.int .i64 b) (.int .i64 c)).all (·.oneCell') = true := by kernel_rfl
theorem fresh_info (a b c : Value) : (Try.prog.info? 110).map (·.size) = some (freshCells a b c).size := by rw [fresh_size, ← z110size]; exact i110

set_option maxRecDepth 100000 in
set_option maxHeartbeats 400000 in
theorem take_yes (p g : Nat) (M : MemV) (k : Nat) (gen kind : Int) (w : World) (h : MemAt w p g M) (h8 : 8 ≤ M.lim) (hl : M.lim ≤ 1024) (g0 : 0 ≤ gen) (g1 : gen ≤ 4) (k0 : 0 ≤ kind) (k1 : kind ≤ 3)
    (f0 : 0 < M.free) (f1 : M.free ≤ 1024) (n0 : 0 ≤ M.count) (n1 : M.count ≤ 1000000) (hk : k < M.lim) (hlow : ∀ i, i < k → 0 < (M.sg i).taken) (hz : (M.sg k).taken = 0) :
    Calls Try.prog 16 #[.pointer (some ⟨p, 0, none⟩), .int .i64 gen, .int .i64 kind] w fun e w' => e = .returned (.tuple #[.int .i64 k, .int .i64 0]) ∧ MemAt w' p g (M.took k gen kind) ∧ Keep (Mine p g) w w' := by
  obtain ⟨cap, c0, c1, c2⟩ := h.cells
  have hz8 : ((M.lim : Int) == 0) = false := by simp; omega
  have hzf : (M.free == 0) = false := by simp; omega
  go_enter Try.func16, Try.ntmps16
  go_wp2
  go_loop [8] (fun i => ∃ j : Nat, j ≤ k ∧ i = .int .i64 j) (fun i => k - (intOf i).toNat)
  case atStart => exact ⟨0, Nat.zero_le _, rfl⟩
  case round =>
    obtain ⟨j, hj, rfl⟩ := hrel
    have ht := h.segs.2 j (by omega) 7 (by omega)
    simp only [Sg.cell] at ht
    by_cases hjk : j < k
    · have hp := hlow j hjk
      go_wp2
      go_round
      case rel => exact ⟨j + 1, by omega, by go_num⟩
      case measure => simp [intOf]; omega
    · obtain rfl : j = k := by omega
      rw [hz] at ht
      clear hz hlow hjk
      have hfr1 := h.frozen 1
      have hfr2 := h.frozen 2
      have hne := h.ne
      have hne' := h.ne.symm
      go_wp2
      have h2 := (h.setCount (M.count + 1)).setFree (M.free - 1)
      have K2 : Keep (Mine p g) w ((w.setCell ⟨p, 1, none⟩ (.int .i64 (M.count + 1))).setCell ⟨p, 2, none⟩ (.int .i64 (M.free - 1))) := ((Keep.refl _ _).setCell (.inl (.inl rfl)) _).setCell (.inl (.inl rfl)) _
      generalize (w.setCell ⟨p, 1, none⟩ (.int .i64 (M.count + 1))).setCell ⟨p, 2, none⟩ (.int .i64 (M.free - 1)) = w2 at h2 K2 ⊢
      obtain ⟨cap2, d0, d1, d2⟩ := h2.cells
      clear c0 c1 c2 ht hfr1 hfr2
      go_still_tail 15, (by kernel_rfl)
      have h3 := h2.drew
      have K3 := K2.drew
      change wpList _ _ _ _ _ w2.drew
      generalize w2.drew = w3 at h3 K3 ⊢
      have HT := Lib.hid (show w3.there g (j * 72) 72 from h3.there j (by assumption))
      refine wpList_store_mid rfl 110 (.tmp 81) (.tmp 80) rfl g (j * 72) (freshCells (.int .i64 gen) (.int .i64 kind) (.int .i64 (M.count + 1))) rfl rfl (by rw [fresh_size]; exact HT.out) (fresh_info _ _ _) (fresh_one _ _ _) ?_
      refine stored_seg h3 j (by assumption) _ _ (fresh_list _ _ _) _ ?_
      intro w4 h4 K4
      clear h3 d0 d1 d2 h2 HT
      go_wp2
      go_ret2
      exact ⟨rfl, h4, K3.trans K4⟩
end Go.Proofs.Ytgnpeciedefeiaa
