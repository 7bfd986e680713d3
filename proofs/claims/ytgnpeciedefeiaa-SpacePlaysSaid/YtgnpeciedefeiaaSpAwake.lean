/-
  morainelaw08.awake: the chapter's first examples hold.
-/
import Derived.Test.YtgnpeciedefeiaaSpBoth
namespace Go.Proofs.Ytgnpeciedefeiaa
open Go.RowKit

namespace Aw8
def m0 : MemV := MemV.new 8
def m1 : MemV := (m0.took 0 0 0).bumped 0 2
def m2 : MemV := m1.bumped 0 2
def m3 : MemV := (m2.took 1 0 2).bumped 1 40
def m4 : MemV := (m3.took 2 0 2).bumped 2 30
def s0 : SpV := SpV.new 8
def s1 : SpV := { ({ s0 with M := m0.took 0 0 0 } : SpV).set 0 0 1 with M := m1 }
def s2 : SpV := { s1 with M := m2 }
def s3 : SpV := { ({ s2 with M := m2.took 1 0 2 } : SpV).set 0 2 2 with M := m3 }
def s4 : SpV := { ({ s3 with M := m3.took 2 0 2 } : SpV).set 0 2 3 with M := m4 }
end Aw8
open Aw8

theorem r1 : AllocR s0 0 0 2 0 0 s1 := .inr (.inr (.inr ⟨⟨by decide, by decide, .inl ⟨.inl rfl, rfl⟩⟩, fun q hq => absurd hq (by simp only [s0, SpV.new]; omega), 0, by decide, by decide, by decide, fun i hi => absurd hi (by omega), rfl, rfl, rfl⟩))
theorem r2 : AllocR s1 0 0 2 2 0 s2 := .inr (.inl ⟨⟨by decide, by decide, .inl ⟨.inl rfl, rfl⟩⟩, 0, by decide, by decide, by decide, rfl, rfl⟩)
theorem r3 : AllocR s2 0 2 40 64 0 s3 := .inr (.inr (.inr ⟨⟨by decide, by decide, .inr ⟨.inl rfl, by decide, by decide⟩⟩, fun q hq => by
  have e : s2.cur (0 : Int).toNat (2 : Int).toNat = 0 := by decide
  rw [e] at hq; omega, 1, by decide, by decide, by decide, by decide, rfl, rfl, rfl⟩))
theorem r4 : AllocR s3 0 2 30 128 0 s4 := .inr (.inr (.inr ⟨⟨by decide, by decide, .inr ⟨.inl rfl, by decide, by decide⟩⟩, fun q hq => by
  have e : s3.cur (0 : Int).toNat (2 : Int).toNat = 2 := by decide
  rw [e] at hq
  obtain rfl : q = 1 := by omega
  decide, 2, by decide, by decide, by decide, by decide, rfl, rfl, rfl⟩))
theorem r5 : AllocR s4 0 0 3 0 1 s4 := .inl ⟨by unfold May8; omega, rfl, rfl, rfl⟩
theorem t4 : TakenL m4 [0] [0, 1, 2] := ⟨by decide, by decide⟩
theorem sum4 : sumTo m4 [0, 1, 2] 3 = 74 := by decide

set_option maxRecDepth 100000 in
set_option maxHeartbeats 4000000 in
theorem awake8 (w : World) : Calls Try.prog 30 #[] w fun e w' => e = .returned (.bool true) ∧ Keep (fun _ => False) w w' := by
  go_enter Try.func30, Try.ntmps30
  go_wp2_with fail
  refine (new8_yes 8 _ _ (by rfl) (by omega) (by omega)).mono ?_
  rintro e w1 ⟨s, p, g, rfl, hs, hp, hg, h1, k1⟩
  go_wp2_with fail
  refine (alloc_any h1 (SpV.Ok.new (by omega) (by omega)) (by decide) _ _ _).mono ?_
  rintro e w2 ⟨S1, a1, f1, rfl, h2, k2, ok2, _, _, hR⟩
  obtain ⟨rfl, rfl, rfl⟩ := AllocR.det hR r1
  clear hR
  go_wp2_with fail
  refine (alloc_any h2 ok2 (by decide) _ _ _).mono ?_
  rintro e w3 ⟨S1, a1, f1, rfl, h3, k3, ok3, _, _, hR⟩
  obtain ⟨rfl, rfl, rfl⟩ := AllocR.det hR r2
  clear hR
  go_wp2_with fail
  refine (alloc_any h3 ok3 (by decide) _ _ _).mono ?_
  rintro e w4 ⟨S1, a1, f1, rfl, h4, k4, ok4, _, _, hR⟩
  obtain ⟨rfl, rfl, rfl⟩ := AllocR.det hR r3
  clear hR
  go_wp2_with fail
  refine (alloc_any h4 ok4 (by decide) _ _ _).mono ?_
  rintro e w5 ⟨S1, a1, f1, rfl, h5, k5, ok5, _, _, hR⟩
  obtain ⟨rfl, rfl, rfl⟩ := AllocR.det hR r4
  clear hR
  go_wp2_with fail
  refine (alloc_any h5 ok5 (by decide) _ _ _).mono ?_
  rintro e w6 ⟨S1, a1, f1, rfl, h6, k6, ok6, _, _, hR⟩
  obtain ⟨rfl, rfl, rfl⟩ := AllocR.det hR r5
  clear hR
  go_wp2_with fail
  have kk : Keep (fun _ => False) w6 (w6.alloc (.cells #[.int .i64 0] 3)) := (Keep.refl _ _).alloc _
  have ia : IntsAt (w6.alloc (.cells #[.int .i64 0] 3)) (some ⟨w6.heap.size, 0, none⟩) 1 [0] := by
    refine ⟨rfl, fun j hj => ⟨w6.heap.size, 0, rfl, by simp, ?_⟩⟩
    rw [cell_of_row _ _ _ _ _ _ (heap_alloc_new w6 _)]
    match j, hj with
    | 0, _ => rfl
  refine (words8_any (h6.keep0 kk) ok6 _ 1 1 [0] ia (by omega)).mono ?_
  rintro e w7 ⟨L, hT, rfl, k7⟩
  obtain rfl : L = [0, 1, 2] := hT.unique t4
  have e74 : sumTo s4.M [0, 1, 2] [0, 1, 2].length = 74 := sum4
  rw [e74]
  clear e74
  go_wp2_with fail
  go_ret
  have F : ∀ {a b : World}, Keep (MineS s p g) a b → Keep (fun k => w.heap.size ≤ k) a b := fun h => h.mono (fun i _ hi => mineS_from hs hp hg i hi)
  exact ⟨rfl, k1.into (((((F k2).trans (F k3)).trans (F k4)).trans (F k5)).trans (F k6) |>.trans ((kk.trans k7).mono (fun _ _ h => h.elim))) (fun i hi => hi)⟩
end Go.Proofs.Ytgnpeciedefeiaa
