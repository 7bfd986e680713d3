/-
  seg.Mem: Copy, of one that New made.
-/
import Derived.Test.YtgnpeciedefeiaaSegCopy
namespace Go.Proofs.Ytgnpeciedefeiaa
open Go.RowKit

def CopyPost (p g : Nat) (M : MemV) (w : World) (e : Ending) (w' : World) : Prop :=
  ∃ p' g' : Nat, e = .returned (.pointer (some ⟨p', 0, none⟩)) ∧ w.heap.size ≤ p' ∧ w.heap.size ≤ g' ∧ MemAt w' p' g' M ∧ MemAt w' p g M ∧ Keep (fun _ => False) w w'

set_option maxHeartbeats 1600000 in
theorem copy_yes (p g : Nat) (M : MemV) (w : World) (h : MemAt w p g M) (ok : M.Ok) :
    Calls Try.prog 26 #[.pointer (some ⟨p, 0, none⟩)] w (CopyPost p g M w) := by
  obtain ⟨cap, c0, c1, c2⟩ := h.cells
  have hpl := h.lt
  have l8 := ok.l8
  have l1024 := ok.l1024
  have F := Lib.hid h
  have lay : ∀ w1 : World, Keep (fun _ => False) w w1 → w1.cell? ⟨p, 0, none⟩ = some (.slice (some ⟨g, 0, none⟩) M.lim cap) ∧ w1.cell? ⟨p, 1, none⟩ = some (.int .i64 M.count) ∧ w1.cell? ⟨p, 2, none⟩ = some (.int .i64 M.free) := fun w1 K => ⟨(K.cell (p := ⟨p, 0, none⟩) hpl (by simp)).trans c0, (K.cell (p := ⟨p, 1, none⟩) hpl (by simp)).trans c1, (K.cell (p := ⟨p, 2, none⟩) hpl (by simp)).trans c2⟩
  have HL := Lib.hid lay
  have HS := Lib.hid h.segs
  clear lay h
  go_enter Try.func26, Try.ntmps26
  go_wp2_with fail
  go_region_with ((go_at_call 62; refine (clone_segs g M.lim cap M.sg w.drew HS.out l8 l1024).mono ?_; rintro e w1 ⟨g', c', rfl, hg', hS', K1⟩; have K1' : Keep (fun _ => False) w w1 := ((Keep.refl (fun _ => False) w).drew).trans K1; obtain ⟨d0, d1, d2⟩ := HL.out w1 K1'; have HK := Lib.hid K1'; have HS' := Lib.hid hS'; clear K1 K1' hS'))
  all_goals go_wp2_with fail
  all_goals go_ret
  all_goals
    have K2 := HK.out.alloc (.cells #[.slice (some ⟨g', 0, none⟩) M.lim c', .int .i64 M.count, .int .i64 M.free] 57)
    refine ⟨_, _, rfl, HK.out.size, hg', ⟨⟨_, heap_alloc_new _ _⟩, HS'.out.of_block ?_⟩, F.out.keep K2 (by simp) (by simp), K2⟩
    exact Below.heap_alloc _ _ _ HS'.out.lt
end Go.Proofs.Ytgnpeciedefeiaa
