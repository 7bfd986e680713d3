/-
  morainelaw09.awake: the chapter's examples hold.
-/
import Derived.Test.YtgnpeciedefeiaaCdAgain
namespace Go.Proofs.Ytgnpeciedefeiaa
open Go.RowKit

namespace Aw9
def m0 : MemV := MemV.new 8
def m1 : MemV := (m0.took 0 2 0).bumped 0 2
def m2 : MemV := (m1.took 1 0 0).bumped 1 2
def s0 : SpV := SpV.new 8
def s1 : SpV := { ({ s0 with M := m0.took 0 2 0 } : SpV).set 2 0 1 with M := m1 }
def s2 : SpV := { ({ s1 with M := m1.took 1 0 0 } : SpV).set 0 0 2 with M := m2 }
def m3 : MemV := storeV m2 1 513
def m4 : MemV := storeV m3 1 20
def m5 : MemV := m4.put 0 ((m4.sg 0).mark 0 (oughtV m4 (m4.sg 0) 0))
end Aw9
open Aw9
theorem q1 : AllocR s0 2 0 2 0 0 s1 := .inr (.inr (.inr ⟨⟨by decide, by decide, .inl ⟨.inl rfl, rfl⟩⟩, fun q hq => absurd hq (by simp only [s0, SpV.new]; omega), 0, by decide, by decide, by decide, fun i hi => absurd hi (by omega), rfl, rfl, rfl⟩))
theorem q2 : AllocR s1 0 0 2 64 0 s2 := .inr (.inr (.inr ⟨⟨by decide, by decide, .inl ⟨.inl rfl, rfl⟩⟩, fun q hq => by
  have e : s1.cur (0 : Int).toNat (0 : Int).toNat = 0 := by decide
  rw [e] at hq; omega, 1, by decide, by decide, by decide, by decide, rfl, rfl, rfl⟩))
theorem q3 : StoreR m2 1 513 0 m3 := .inr ⟨1, rfl, by decide, by decide, by decide, rfl, rfl⟩
theorem q4 : StoreR m3 1 20 0 m4 := .inr ⟨1, rfl, by decide, by decide, by decide, rfl, rfl⟩
theorem q5 : AgainR m4 0 0 0 m5 := .inr (.inr ⟨0, 0, rfl, by decide, by decide, rfl, by decide, rfl, rfl⟩)
theorem tk3 : TakenL m3 [] [0, 1] := ⟨by decide, by decide⟩
theorem tk4 : TakenL m4 [] [0, 1] := ⟨by decide, by decide⟩
theorem tk5 : TakenL m5 [] [0, 1] := ⟨by decide, by decide⟩
theorem dy30 : dirtyL m3 0 [0, 1] = [(0, 0)] := by decide
theorem dy32 : dirtyL m3 2 [0, 1] = [] := by decide
theorem dy40 : dirtyL m4 0 [0, 1] = [(0, 0)] := by decide
theorem dy50 : dirtyL m5 0 [0, 1] = [] := by decide
theorem eq90 (w : World) : (binOp .eql 90 (.agg #[.int .i64 0, .int .i64 0]) (.agg #[.int .i64 0, .int .i64 0])).run Try.prog w = .ok (.bool true) w := by kernel_rfl
theorem salloc_any {w : World} {c s p g : Nat} {S : SpV} (h : CdAt w c s p g S) (ok : S.Ok) (hc : S.M.count ≤ 1000000) (gen kind n : Int) :
    Calls Try.prog 35 #[.pointer (some ⟨s, 0, none⟩), .int .i64 gen, .int .i64 kind, .int .i64 n] w (AllocPost s p g S gen kind n w) := alloc_any h.sp ok hc gen kind n

set_option maxRecDepth 100000 in
set_option maxHeartbeats 8000000 in
theorem awake9 (w : World) : Calls Try.prog 40 #[] w fun e w' => e = .returned (.bool true) ∧ Keep (fun _ => False) w w' := by
  go_enter Try.func40, Try.ntmps40
  go_wp2_with fail
  refine (new9_yes 8 _ _ (by rfl) (by omega) (by omega)).mono ?_
  rintro e w1 ⟨c, s, p, g, rfl, hc, hs, hp, hg, h1, k1⟩
  have c0 := h1.ptr
  go_wp2_with fail
  refine (alloc_any h1.sp (SpV.Ok.new (by omega) (by omega)) (by decide) _ _ _).mono ?_
  rintro e w2 ⟨S1, a1, f1, rfl, x2, k2, ok2, _, _, hR⟩
  obtain ⟨rfl, rfl, rfl⟩ := AllocR.det hR q1
  have h2 := h1.into k2 x2
  clear hR c0 x2
  have c0 := h2.ptr
  go_wp2_with fail
  refine (alloc_any h2.sp ok2 (by decide) _ _ _).mono ?_
  rintro e w3 ⟨S1, a1, f1, rfl, x3, k3, ok3, _, _, hR⟩
  obtain ⟨rfl, rfl, rfl⟩ := AllocR.det hR q2
  have h3 := h2.into k3 x3
  clear hR c0 x3
  go_wp2_with fail
  refine (store_any h3 ok3 _ 513 (by decide) (by decide)).mono ?_
  rintro e w4 ⟨M4, f4, rfl, h4, k4, ok4, _, _, hR⟩
  obtain ⟨rfl, rfl⟩ := StoreR.det hR q3
  clear hR
  go_wp2_with fail
  refine (dirty_any h4 ok4 tk3 0).mono ?_
  rintro e w5 ⟨A5, c5, rfl, C5, hb5, k5⟩
  have h5 := h4.keep0 k5
  rw [show dirtyL ({ s2 with M := m3 } : SpV).M 0 [0, 1] = [(0, 0)] from dy30] at C5 ⊢
  go_wp2_with fail
  refine (dirty_any h5 ok4 tk3 2).mono ?_
  rintro e w6 ⟨A6, c6, rfl, C6, hb6, k6⟩
  have h6 := h5.keep0 k6
  have C5' := C5.keep0 k6
  rw [show dirtyL ({ s2 with M := m3 } : SpV).M 2 [0, 1] = [] from dy32]
  clear C5 C6 hb6
  go_wp2_with fail
  refine (store_any h6 ok4 _ 20 (by decide) (by decide)).mono ?_
  rintro e w7 ⟨M7, f7, rfl, h7, k7, ok7, _, _, hR⟩
  obtain ⟨rfl, rfl⟩ := StoreR.det hR q4
  clear hR
  have hlt := h4.sp.lt
  have hlt2 := h4.sp.mem.lt
  have hlt3 := h4.sp.mem.segs.lt
  have hA : ∀ b off, A5 = some ⟨b, off, none⟩ → ¬ MineS s p g b := fun b off e => by
    have := hb5 b off e
    rintro (h | h | h) <;> omega
  have C7 := C5'.keep k7 hA
  clear C5'
  go_wp2_with fail
  refine (dirty_any h7 ok7 tk4 0).mono ?_
  rintro e w8 ⟨A8, c8, rfl, _, _, k8⟩
  have h8 := h7.keep0 k8
  have C8 := C7.keep0 k8
  rw [show dirtyL ({ ({ s2 with M := m3 } : SpV) with M := m4 } : SpV).M 0 [0, 1] = [(0, 0)] from dy40]
  clear C7
  go_wp2_with fail
  refine (again_any h8 ok7 _ _).mono ?_
  rintro e w9 ⟨M9, f9, rfl, h9, k9, ok9, _, _, hR⟩
  obtain ⟨rfl, rfl⟩ := AgainR.det hR q5
  clear hR
  have C9 := C8.keep k9 hA
  obtain ⟨b, off, rfl, _, z0, z1⟩ := C9.2 0 (by decide)
  have e90 := fun w => eq90 w
  simp only [Nat.zero_mul, Nat.add_zero] at z0 z1
  have y0 : w9.cell? ⟨b, off, none⟩ = some (.int .i64 0) := z0
  have y1 : w9.cell? ⟨b, off + 1, none⟩ = some (.int .i64 0) := z1
  clear C8 C9 z0 z1 hA
  go_wp2_with fail
  refine (dirty_any h9 ok9 tk5 0).mono ?_
  rintro e w10 ⟨A10, c10, rfl, _, _, k10⟩
  rw [show dirtyL ({ ({ ({ s2 with M := m3 } : SpV) with M := m4 } : SpV) with M := m5 } : SpV).M 0 [0, 1] = [] from dy50]
  go_wp2_with fail
  go_ret
  have F : ∀ {a b : World}, Keep (MineS s p g) a b → Keep (fun k => w.heap.size ≤ k) a b := fun h => h.mono (fun i _ hi => mineS_from hs hp hg i hi)
  have G : ∀ {a b : World}, Keep (fun _ => False) a b → Keep (fun k => w.heap.size ≤ k) a b := fun h => h.mono (fun _ _ h => h.elim)
  exact ⟨rfl, k1.into (((((((((F k2).trans (F k3)).trans (F k4)).trans (G k5)).trans (G k6)).trans (F k7)).trans (G k8)).trans (F k9)).trans (G k10)) (fun i hi => hi)⟩
end Go.Proofs.Ytgnpeciedefeiaa
