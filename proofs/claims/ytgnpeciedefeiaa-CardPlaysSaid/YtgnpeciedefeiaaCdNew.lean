/-
  Cards: New, Copy, Dirty.
-/
import Derived.Test.YtgnpeciedefeiaaCdStore
import Derived.Deep.RegionWith
namespace Go.Proofs.Ytgnpeciedefeiaa
open Go.RowKit

theorem new9_no (limit : Int) (w : World) (h : limit < 8 ∨ 1024 < limit) :
    Calls Try.prog 50 #[.int .i64 limit] w fun e w' => e = .returned (.tuple #[.pointer none, .int .i64 1]) ∧ w = w' := by
  have H := Lib.hid h
  clear h
  go_enter Try.func50, Try.ntmps50
  go_wp2_with fail
  refine (new8_no limit _ H.out).mono ?_
  rintro e w1 ⟨rfl, rfl⟩
  go_wp2_with fail
  go_ret2
  exact ⟨rfl, rfl⟩
def New9Post (lim : Nat) (w : World) (e : Ending) (w' : World) : Prop :=
  ∃ c s p g : Nat, e = .returned (.tuple #[.pointer (some ⟨c, 0, none⟩), .int .i64 0]) ∧ w.heap.size ≤ c ∧ w.heap.size ≤ s ∧ w.heap.size ≤ p ∧ w.heap.size ≤ g ∧ CdAt w' c s p g (SpV.new lim) ∧ Keep (fun _ => False) w w'
theorem new9_yes (lim : Nat) (limit : Int) (w : World) (hl : limit = lim) (h8 : 8 ≤ lim) (h1024 : lim ≤ 1024) :
    Calls Try.prog 50 #[.int .i64 limit] w (New9Post lim w) := by
  subst hl
  go_enter Try.func50, Try.ntmps50
  go_wp2_with fail
  refine (new8_yes lim _ _ rfl h8 h1024).mono ?_
  rintro e w1 ⟨s, p, g, rfl, hs, hp, hg, h1, k1⟩
  go_wp2_with fail
  go_ret2
  exact ⟨_, s, p, g, rfl, k1.size, hs, hp, hg, ⟨heap_alloc_new _ _, h1.keep0 ((Keep.refl _ _).alloc _)⟩, k1.alloc _⟩

def Copy9Post (c s p g : Nat) (S : SpV) (w : World) (e : Ending) (w' : World) : Prop :=
  ∃ c' s' p' g' : Nat, e = .returned (.pointer (some ⟨c', 0, none⟩)) ∧ w.heap.size ≤ c' ∧ w.heap.size ≤ s' ∧ w.heap.size ≤ p' ∧ w.heap.size ≤ g' ∧ CdAt w' c' s' p' g' S ∧ CdAt w' c s p g S ∧ Keep (fun _ => False) w w'
theorem copy9_any {w : World} {c s p g : Nat} {S : SpV} (h : CdAt w c s p g S) (ok : S.Ok) :
    Calls Try.prog 49 #[.pointer (some ⟨c, 0, none⟩)] w (Copy9Post c s p g S w) := by
  have c0 := h.ptr
  go_enter Try.func49, Try.ntmps49
  go_wp2_with fail
  refine (copy8_any h.sp ok).mono ?_
  rintro e w1 ⟨s', p', g', rfl, hs, hp, hg, h1, o1, k1⟩
  go_wp2_with fail
  go_ret
  exact ⟨_, s', p', g', rfl, k1.size, hs, hp, hg, ⟨heap_alloc_new _ _, h1.keep0 ((Keep.refl _ _).alloc _)⟩, h.keep0 (k1.alloc _), k1.alloc _⟩
end Go.Proofs.Ytgnpeciedefeiaa
