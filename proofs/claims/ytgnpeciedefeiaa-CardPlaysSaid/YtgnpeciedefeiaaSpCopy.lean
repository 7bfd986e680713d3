/-
  A space: Copy.
-/
import Derived.Test.YtgnpeciedefeiaaSpWords
import Derived.Deep.RegionHeld3
namespace Go.Proofs.Ytgnpeciedefeiaa
open Go.RowKit

theorem SpAt.all {w : World} {s p g : Nat} {S : SpV} (h : SpAt w s p g S) : w.cell? ⟨s, 0, none⟩ = some (.pointer (some ⟨p, 0, none⟩)) ∧ w.cell? ⟨s, 1, none⟩ = some (.int .i64 (S.cur 0 0)) ∧ w.cell? ⟨s, 2, none⟩ = some (.int .i64 (S.cur 0 1)) ∧ w.cell? ⟨s, 3, none⟩ = some (.int .i64 (S.cur 0 2)) ∧ w.cell? ⟨s, 4, none⟩ = some (.int .i64 (S.cur 0 3)) ∧ w.cell? ⟨s, 5, none⟩ = some (.int .i64 (S.cur 1 0)) ∧ w.cell? ⟨s, 6, none⟩ = some (.int .i64 (S.cur 1 1)) ∧ w.cell? ⟨s, 7, none⟩ = some (.int .i64 (S.cur 1 2)) ∧ w.cell? ⟨s, 8, none⟩ = some (.int .i64 (S.cur 1 3)) ∧ w.cell? ⟨s, 9, none⟩ = some (.int .i64 (S.cur 2 0)) ∧ w.cell? ⟨s, 10, none⟩ = some (.int .i64 (S.cur 2 1)) ∧ w.cell? ⟨s, 11, none⟩ = some (.int .i64 (S.cur 2 2)) ∧ w.cell? ⟨s, 12, none⟩ = some (.int .i64 (S.cur 2 3)) ∧ w.cell? ⟨s, 13, none⟩ = some (.int .i64 (S.cur 3 0)) ∧ w.cell? ⟨s, 14, none⟩ = some (.int .i64 (S.cur 3 1)) ∧ w.cell? ⟨s, 15, none⟩ = some (.int .i64 (S.cur 3 2)) ∧ w.cell? ⟨s, 16, none⟩ = some (.int .i64 (S.cur 3 3)) ∧ w.cell? ⟨s, 17, none⟩ = some (.int .i64 (S.cur 4 0)) ∧ w.cell? ⟨s, 18, none⟩ = some (.int .i64 (S.cur 4 1)) ∧ w.cell? ⟨s, 19, none⟩ = some (.int .i64 (S.cur 4 2)) ∧ w.cell? ⟨s, 20, none⟩ = some (.int .i64 (S.cur 4 3)) :=
  ⟨h.ptr, h.cur 0 0 (by omega) (by omega), h.cur 0 1 (by omega) (by omega), h.cur 0 2 (by omega) (by omega), h.cur 0 3 (by omega) (by omega), h.cur 1 0 (by omega) (by omega), h.cur 1 1 (by omega) (by omega), h.cur 1 2 (by omega) (by omega), h.cur 1 3 (by omega) (by omega), h.cur 2 0 (by omega) (by omega), h.cur 2 1 (by omega) (by omega), h.cur 2 2 (by omega) (by omega), h.cur 2 3 (by omega) (by omega), h.cur 3 0 (by omega) (by omega), h.cur 3 1 (by omega) (by omega), h.cur 3 2 (by omega) (by omega), h.cur 3 3 (by omega) (by omega), h.cur 4 0 (by omega) (by omega), h.cur 4 1 (by omega) (by omega), h.cur 4 2 (by omega) (by omega), h.cur 4 3 (by omega) (by omega)⟩
/-- A new block with the same current segments. -/
theorem spAt_new {w1 : World} {p' g' : Nat} {S : SpV} (m : MemAt w1 p' g' S.M) : SpAt (w1.alloc (.cells #[.pointer (some ⟨p', 0, none⟩), .int .i64 (S.cur 0 0), .int .i64 (S.cur 0 1), .int .i64 (S.cur 0 2), .int .i64 (S.cur 0 3), .int .i64 (S.cur 1 0), .int .i64 (S.cur 1 1), .int .i64 (S.cur 1 2), .int .i64 (S.cur 1 3), .int .i64 (S.cur 2 0), .int .i64 (S.cur 2 1), .int .i64 (S.cur 2 2), .int .i64 (S.cur 2 3), .int .i64 (S.cur 3 0), .int .i64 (S.cur 3 1), .int .i64 (S.cur 3 2), .int .i64 (S.cur 3 3), .int .i64 (S.cur 4 0), .int .i64 (S.cur 4 1), .int .i64 (S.cur 4 2), .int .i64 (S.cur 4 3)] 83)) w1.heap.size p' g' S := by
  refine ⟨⟨_, heap_alloc_new _ _⟩, by rw [World.cell?_alloc_new]; rfl, ?_, m.keep ((Keep.refl (fun _ => False) _).alloc _) (by simp) (by simp)⟩
  intro i k hi hk
  rw [World.cell?_alloc_new]
  match i, hi with
  | 0, _ | 1, _ | 2, _ | 3, _ | 4, _ =>
    match k, hk with
    | 0, _ | 1, _ | 2, _ | 3, _ => rfl

def Copy8Post (s p g : Nat) (S : SpV) (w : World) (e : Ending) (w' : World) : Prop :=
  ∃ s' p' g' : Nat, e = .returned (.pointer (some ⟨s', 0, none⟩)) ∧ w.heap.size ≤ s' ∧ w.heap.size ≤ p' ∧ w.heap.size ≤ g' ∧ SpAt w' s' p' g' S ∧ SpAt w' s p g S ∧ Keep (fun _ => False) w w'

/-- The cells that tell the current segments. -/
def curCells (S : SpV) : List Value := (List.range 20).map fun o => .int .i64 (S.cur (o / 4) (o % 4))
theorem curCells_len (S : SpV) : (curCells S).length = 20 := by simp [curCells]
theorem curCells_get (S : SpV) (i k : Nat) (hi : i < 5) (hk : k < 4) : (curCells S)[i * 4 + k]? = some (.int .i64 (S.cur i k)) := by
  unfold curCells
  rw [List.getElem?_map, List.getElem?_range (by omega)]
  simp only [Option.map_some, show (i * 4 + k) / 4 = i from by omega, show (i * 4 + k) % 4 = k from by omega]
theorem SpAt.range {w : World} {s p g : Nat} {S : SpV} (h : SpAt w s p g S) : w.rangeAt s 1 (curCells S) := by
  intro j v hv
  have hj : j < 20 := by
    rcases Nat.lt_or_ge j 20 with h | h
    · exact h
    · rw [List.getElem?_eq_none (by rw [curCells_len]; exact h)] at hv; cases hv
  obtain ⟨i, k, rfl, hi, hk⟩ : ∃ i k, j = i * 4 + k ∧ i < 5 ∧ k < 4 := ⟨j / 4, j % 4, by omega, by omega, by omega⟩
  rw [curCells_get S i k hi hk] at hv
  have := h.cur i k hi hk
  rw [← hv, ← this, Nat.add_assoc]
theorem range_keep {w w' : World} {b o : Nat} {cs : List Value} (h : w.rangeAt b o cs) (hl : b < w.heap.size) (K : Keep (fun _ => False) w w') : w'.rangeAt b o cs := fun j v hv => (K.cell (p := ⟨b, o + j, none⟩) hl (by simp)).trans (h j v hv)
theorem curCells_lit (S : SpV) : curCells S = [.int .i64 (S.cur 0 0), .int .i64 (S.cur 0 1), .int .i64 (S.cur 0 2), .int .i64 (S.cur 0 3), .int .i64 (S.cur 1 0), .int .i64 (S.cur 1 1), .int .i64 (S.cur 1 2), .int .i64 (S.cur 1 3), .int .i64 (S.cur 2 0), .int .i64 (S.cur 2 1), .int .i64 (S.cur 2 2), .int .i64 (S.cur 2 3), .int .i64 (S.cur 3 0), .int .i64 (S.cur 3 1), .int .i64 (S.cur 3 2), .int .i64 (S.cur 3 3), .int .i64 (S.cur 4 0), .int .i64 (S.cur 4 1), .int .i64 (S.cur 4 2), .int .i64 (S.cur 4 3)] := rfl
theorem i81 : (Try.prog.info? 81).map (·.size) = some 20 := by kernel_rfl

set_option maxRecDepth 100000 in
set_option maxHeartbeats 4000000 in
theorem copy8_any {w : World} {s p g : Nat} {S : SpV} (h : SpAt w s p g S) (ok : S.Ok) :
    Calls Try.prog 34 #[.pointer (some ⟨s, 0, none⟩)] w (Copy8Post s p g S w) := by
  have hi : (Try.prog.info? 81).map (·.size) = some (curCells S).length := by rw [curCells_len]; exact i81
  have hs := h.lt
  have H := Lib.hid h
  have Hi := Lib.hid hi
  have HC : ∀ w1, Keep (fun _ => False) w w1 → w1.cell? ⟨s, 0, none⟩ = some (.pointer (some ⟨p, 0, none⟩)) ∧ w1.rangeAt s 1 (curCells S) := fun w1 K => ⟨(K.cell (p := ⟨s, 0, none⟩) hs (by simp)).trans h.ptr, range_keep h.range hs K⟩
  have HC' := Lib.hid HC
  clear HC h hi
  go_enter Try.func34, Try.ntmps34
  go_wp2_with fail
  refine wp_region_held_drew (S := fun w' => w'.cell? ⟨s, 0, none⟩ = some (.pointer (some ⟨p, 0, none⟩)) ∧ w'.rangeAt s 1 (curCells S)) (by kernel_rfl) (HC'.out _ (Keep.refl _ _).drew) (fun hHeld => ?_)
  refine wpAnyH_take (i := 5) (oi := _) (v := ?_) rfl (by kernel_rfl) (by kernel_rfl) (by kernel_rfl) (fun _ _ _ h => h) (Or.inl ⟨by rfl, ?_⟩) (by assumption) ?_
  rotate_left
  · (intro w hSw; (try dsimp only at hSw); go_simp)
    all_goals with_reducible rfl
  refine wpAnyH_take (i := 6) (oi := _) (v := ?_) rfl (by kernel_rfl) (by kernel_rfl) (by kernel_rfl) (fun _ _ _ h => h) (Or.inl ⟨by rfl, ?_⟩) (by assumption) ?_
  rotate_left
  · (intro w hSw; (try dsimp only at hSw); go_simp)
    all_goals with_reducible rfl
  refine wpAnyH_take (i := 7) (oi := _) (v := ?_) rfl (by kernel_rfl) (by kernel_rfl) (by kernel_rfl) (fun _ _ _ h => h) (Or.inl ⟨by rfl, ?_⟩) (by assumption) ?_
  rotate_left
  · (intro w hSw; (try dsimp only at hSw); go_simp)
    all_goals with_reducible rfl
  refine' wpAnyH_take (i := 8) (oi := _) (v := _) rfl (by kernel_rfl) (by kernel_rfl) (by kernel_rfl) (fun _ _ _ h => h) (yieldsIf_load_mid (by rfl) _ _ rfl _ _ rfl (curCells S) _ (fun w hS => hS.2) Try.underlying81 rfl Hi.out) (by assumption) ?_
  refine wpAnyH_take (i := 0) (oi := _) (v := ?_) rfl (by kernel_rfl) (by kernel_rfl) (by kernel_rfl) (fun _ _ _ h => h) (Or.inl ⟨by rfl, ?_⟩) (by assumption) ?_
  rotate_left
  · (intro w hSw; (try dsimp only at hSw); go_simp)
    all_goals with_reducible rfl
  refine wpAnyH_take (i := 1) (oi := _) (v := ?_) rfl (by kernel_rfl) (by kernel_rfl) (by kernel_rfl) (fun _ _ _ h => h) (Or.inl ⟨by rfl, ?_⟩) (by assumption) ?_
  rotate_left
  · (intro w hSw; (try dsimp only at hSw); go_simp)
    all_goals with_reducible rfl
  refine wpAnyH_take (i := 2) (oi := _) (v := ?_) rfl (by kernel_rfl) (by kernel_rfl) (by kernel_rfl) (fun _ _ _ h => h) (Or.inl ⟨by rfl, ?_⟩) (by assumption) ?_
  rotate_left
  · (intro w hSw; (try dsimp only at hSw); go_simp)
    all_goals with_reducible rfl
  refine wpAnyH_take (i := 3) (oi := _) (v := ?_) rfl (by kernel_rfl) (by kernel_rfl) (by kernel_rfl) (fun _ _ _ h => h) (Or.inl ⟨by rfl, ?_⟩) (by assumption) ?_
  rotate_left
  · (intro w hSw; (try dsimp only at hSw); go_simp)
    all_goals with_reducible rfl
  refine wpAnyH_ready (rs := [4]) (by kernel_rfl) (by simp) ?_
  refine AllReadyH.cons (o := _) rfl (fun K hK => ?_) AllReadyH.nil
  go_simp
  refine (copy_yes p g S.M _ (H.out.keep0 (Keep.refl _ _).drew).mem ok.mem).mono ?_
  rintro e w1 ⟨p', g', rfl, hp', hg', m1, o1, k1⟩
  have KK := ((Keep.refl (fun _ => False) w).drew).trans k1
  go_wp2_with fail
  refine hK.out _ _ (HC'.out _ KK) (fun hHeld2 => ?_)
  clear hK K hHeld
  rw [curCells_lit] at hHeld2 ⊢
  refine wpAnyH_take (i := 9) (oi := _) (v := ?_) rfl (by kernel_rfl) (by kernel_rfl) (by kernel_rfl) (fun _ _ _ h => h) (Or.inl ⟨by rfl, ?_⟩) (by assumption) ?_
  rotate_left
  · (intro w hSw; (try dsimp only at hSw); go_simp)
    all_goals with_reducible rfl
  refine wpAnyH_ready (rs := [10]) (by kernel_rfl) (by simp) ?_
  refine AllReadyH.cons (o := _) rfl (fun K hK => ?_) AllReadyH.nil
  go_simp
  have K2 := KK.alloc (.cells #[.pointer (some ⟨p', 0, none⟩), .int .i64 (S.cur 0 0), .int .i64 (S.cur 0 1), .int .i64 (S.cur 0 2), .int .i64 (S.cur 0 3), .int .i64 (S.cur 1 0), .int .i64 (S.cur 1 1), .int .i64 (S.cur 1 2), .int .i64 (S.cur 1 3), .int .i64 (S.cur 2 0), .int .i64 (S.cur 2 1), .int .i64 (S.cur 2 2), .int .i64 (S.cur 2 3), .int .i64 (S.cur 3 0), .int .i64 (S.cur 3 1), .int .i64 (S.cur 3 2), .int .i64 (S.cur 3 3), .int .i64 (S.cur 4 0), .int .i64 (S.cur 4 1), .int .i64 (S.cur 4 2), .int .i64 (S.cur 4 3)] 83)
  refine hK.out _ _ (by rw [← curCells_lit]; exact HC'.out _ K2) (fun hHeld3 => ?_)
  clear hK K hHeld2
  refine wpAnyH_take (i := 11) (oi := _) (v := ?_) rfl (by kernel_rfl) (by kernel_rfl) (by kernel_rfl) (fun _ _ _ h => h) (Or.inl ⟨by rfl, ?_⟩) (by assumption) ?_
  rotate_left
  · (intro w hSw; (try dsimp only at hSw); go_simp)
    all_goals with_reducible rfl
  dsimp only [List.getElem_toArray, List.getElem_cons_succ, List.getElem_cons_zero]
  try simp only [Act.put, List.setIfInBounds_toArray, List.set_cons_zero, List.set_cons_succ]
  refine wpAnyH_done (by kernel_rfl) ?_ _
  go_wp2_with fail
  go_ret
  exact ⟨_, _, _, rfl, KK.size, hp', hg', spAt_new m1, H.out.keep0 K2, K2⟩
end Go.Proofs.Ytgnpeciedefeiaa
