/-
  seg.Mem: Copy.
-/
import Derived.Test.YtgnpeciedefeiaaRefList
import Derived.Deep.RegionWith
namespace Go.Proofs.Ytgnpeciedefeiaa
open Go.RowKit

def segCells (lim : Nat) (sg : Nat → Sg) : List Value := (List.range (lim * 72)).map fun o => (sg (o / 72)).cell (o % 72)
theorem segCells_get (lim : Nat) (sg : Nat → Sg) (o : Nat) (ho : o < lim * 72) : (segCells lim sg)[o]? = some ((sg (o / 72)).cell (o % 72)) := by
  unfold segCells
  rw [List.getElem?_map, List.getElem?_range ho]
  rfl
theorem segCells_len (lim : Nat) (sg : Nat → Sg) : (segCells lim sg).length = lim * 72 := by simp [segCells]

theorem zsize110 : (Value.agg Try.zeroCells110).cells.size = 72 := by kernel_rfl

set_option maxRecDepth 100000 in
set_option maxHeartbeats 800000 in
theorem clone_segs (g lim cap : Nat) (sg : Nat → Sg) (w : World) (h : SegsAt w g lim sg) (h8 : 8 ≤ lim) (h1024 : lim ≤ 1024) :
    Calls Try.prog 62 #[.slice (some ⟨g, 0, none⟩) lim cap] w fun e w' => ∃ g' c' : Nat, e = .returned (.slice (some ⟨g', 0, none⟩) lim c') ∧ w.heap.size ≤ g' ∧ SegsAt w' g' lim sg ∧ Keep (fun _ => False) w w' := by
  obtain ⟨i0, hi, hz0, hz1, hz2⟩ := info_parts info110
  have hlt := h.lt
  have hnil : (binOp BinOp.eql 55 (Value.slice (some ⟨g, 0, none⟩) lim cap) (Value.slice none 0 0)).run Try.prog w = .ok (.bool false) w := by kernel_rfl
  go_enter Try.func62, Try.ntmps62
  go_wp2_with (at_builtin; go_loud (refine wpList_append_grows _ rfl (.tmp 5) (.tmp 6) 55 rfl 110 i0 (.agg Try.zeroCells110) 72 576 Try.underlying55 hi hz0 hz1 hz2 zsize110 (by decide) (some ⟨w.heap.size, 0, none⟩) 0 0 [] rfl (fun e => by cases e) rfl (fun b _ j u e => by simp at e) ⟨g, 0, none⟩ lim cap (segCells lim sg) rfl (segCells_len _ _) ?a1 ?a2 (by omega) (by unfold maxLen; omega) (by omega) ?_))
  case a1 =>
    intro j u hj
    have hj' : j < lim * 72 := by
      rcases Nat.lt_or_ge j (lim * 72) with h' | h'
      · exact h'
      · rw [List.getElem?_eq_none (by rw [segCells_len]; exact h')] at hj; cases hj
    rw [segCells_get _ _ _ hj'] at hj
    injection hj with hj
    subst hj
    have K : Keep (fun _ => False) w (w.alloc (.cells #[] 110)) := (Keep.refl _ _).alloc _
    have := (h.of_block (K.block g hlt (by simp))).2 (j / 72) (by omega) (j % 72) (by omega)
    rw [show j / 72 * 72 + j % 72 = j from by omega] at this
    rw [show ((⟨g, 0, none⟩ : Addr).add j) = ⟨g, j, none⟩ from by simp [Addr.add]; exact fun h => h.symm]
    exact this
  case a2 =>
    intro u hu
    unfold segCells at hu
    obtain ⟨o, _, rfl⟩ := List.mem_map.1 hu
    have : o % 72 < 72 := Nat.mod_lt _ (by decide)
    generalize o % 72 = f at this
    match f, this with
    | 0, _ | 1, _ | 2, _ | 3, _ | 4, _ | 5, _ | 6, _ | 7, _ => rfl
    | f + 8, _ => rfl
  intro v' w' hown hgrow
  obtain ⟨g', c', rfl, hB, hl'⟩ := hown.form (by omega)
  go_wp2_with fail
  go_ret
  have K : Keep (fun _ => False) w w' := ((Keep.refl (fun _ => False) w).alloc (.cells #[] 110)).join (Keep.of_grown hgrow) (fun i _ h => by simp at h)
  have hB2 : w.heap.size ≤ g' := Nat.le_trans (by simp) hB
  refine ⟨g', c', rfl, hB2, ?_, K⟩
  · obtain ⟨_, c, hc⟩ := own_type hown (b := g') rfl
    refine ⟨⟨c, hc⟩, fun k hk j hj => ?_⟩
    rw [hown.cellAt _ (by omega)]
    rw [segCells_get _ _ _ (by omega), show (k * 72 + j) / 72 = k from by omega, show (k * 72 + j) % 72 = j from by omega]
end Go.Proofs.Ytgnpeciedefeiaa
