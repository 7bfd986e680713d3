/-
  A leaf onto the heap: build.Heap.
-/
import Derived.Test.YtkjocmenpccooaaGreatDoorHpB
import Derived.Laws.EntriesVeiled
namespace Go.Proofs.YtkjocmenpccooaaGreatDoor
open Go.RowKit

theorem LaidPost.keepL {h c s p g : Nat} {S : SpV} {D : MemV → Nat → Prop} {w w1 w2 : World} {e : Ending} (L : LaidPost h c s p g S D w1 e w2) (k : Keep (fun _ => False) w w1) : LaidPost h c s p g S D w e w2 := by
  obtain ⟨S', u, h1, h2, h3, h4⟩ := L
  exact ⟨S', u, h1, h2, (k.mono (fun _ _ f => f.elim)).trans h3, h4⟩
set_option maxRecDepth 100000 in
set_option maxHeartbeats 4000000 in
theorem put_int {w : World} {h c s p g : Nat} {S : SpV} (H : HpAt w h c s p g S) (neg : Bool) (A : Option Addr) (n cp : Nat) (l : List Nat) (L : LimbsAt w A n cp l) (x : Int) (hx : x = sval neg l) (hft : Fits x) (hf : 0 < S.M.free) (hc : S.M.count < 1000) (b1 b2 : Nat) (hb : w.cell? ⟨b1, 0, none⟩ = some (.pointer (some ⟨h, 0, none⟩))) :
    Calls Tryz.prog 25 #[datV 4 neg A n cp ⟨#[]⟩, .pointer (some ⟨b1, 0, none⟩), .pointer (some ⟨b2, 0, none⟩)] w (LaidPost h c s p g S (fun M u => DenH M u x) w) := by
  have K1 : Keep (fun _ => False) w (w.alloc (datC 4 neg A n cp ⟨#[]⟩)) := (Keep.refl _ _).alloc _
  have hbx := heap_alloc_new w (datC 4 neg A n cp ⟨#[]⟩)
  have HI := Lib.hid (int_any (H.keep0 K1) neg A n cp l (L.keep0 K1) x hx hft hf hc)
  have HK := Lib.hid K1
  have hb1 : (w.alloc (datC 4 neg A n cp ⟨#[]⟩)).cell? ⟨b1, 0, none⟩ = some (.pointer (some ⟨h, 0, none⟩)) := (K1.cell (World.block_lt_of_cell? w _ hb) id).trans hb
  obtain ⟨⟨a0, a1, a2, a3, a4, a5⟩, _⟩ := six_cells hbx
  clear K1 hbx H L hx hft hf hc hb
  go_enter Tryz.func25, Tryz.ntmps25
  go_wp2_with fail
  generalize w.alloc (datC 4 neg A n cp ⟨#[]⟩) = w1 at *
  refine HI.out.mono ?_
  intro e w2 hl
  have HL := Lib.hid (hl.keepL HK.out)
  obtain ⟨S', u, rfl, _⟩ := hl
  go_wp2_with fail
  go_ret2
  exact HL.out
set_option maxRecDepth 100000 in
set_option maxHeartbeats 4000000 in
theorem put_nil {w : World} {h c s p g : Nat} {S : SpV} (H : HpAt w h c s p g S) (b1 b2 : Nat) :
    Calls Tryz.prog 25 #[datV 0 false none 0 0 ⟨#[]⟩, .pointer (some ⟨b1, 0, none⟩), .pointer (some ⟨b2, 0, none⟩)] w (LaidPost h c s p g S (fun _ u => u = 20) w) := by
  have K1 : Keep (fun _ => False) w (w.alloc (datC 0 false none 0 0 ⟨#[]⟩)) := (Keep.refl _ _).alloc _
  have hbx := heap_alloc_new w (datC 0 false none 0 0 ⟨#[]⟩)
  obtain ⟨⟨a0, a1, a2, a3, a4, a5⟩, _⟩ := six_cells hbx
  have HH := Lib.hid (H.keep0 K1)
  have HK := Lib.hid K1
  clear hbx H K1
  go_enter Tryz.func25, Tryz.ntmps25
  go_wp2_with fail
  go_ret2
  exact ⟨S, 20, rfl, HH.out, HK.out.mono (fun _ _ f => f.elim), rfl, Ext.refl _, by omega, by omega⟩
set_option maxRecDepth 100000 in
set_option maxHeartbeats 4000000 in
theorem heap_leaf {w : World} {h c s p g : Nat} {S : SpV} {D : MemV → Nat → Prop} (k : Int) (neg : Bool) (A : Option Addr) (n cp : Nat) (t : ByteArray) (hh : h < w.heap.size)
    (HM : ∀ W, Keep (fun _ => False) w W → Calls Tryz.prog 24 #[datV k neg A n cp t] W (BoolPost true W))
    (HP : ∀ W, Keep (fun _ => False) w W → ∀ b1 b2 : Nat, W.cell? ⟨b1, 0, none⟩ = some (.pointer (some ⟨h, 0, none⟩)) → Calls Tryz.prog 25 #[datV k neg A n cp t, .pointer (some ⟨b1, 0, none⟩), .pointer (some ⟨b2, 0, none⟩)] W (LaidPost h c s p g S D W)) :
    Calls Tryz.prog 17 #[.pointer (some ⟨h, 0, none⟩), datV k neg A n cp t] w (LaidPost h c s p g S D w) := by
  have hb0 : ((w.alloc (.cells #[.pointer (some ⟨h, 0, none⟩)] 43)).alloc (datC k neg A n cp t)).cell? ⟨w.heap.size, 0, none⟩ = some (.pointer (some ⟨h, 0, none⟩)) := by
    rw [cell_of_row _ _ _ _ _ _ (bx_old (heap_alloc_new w (.cells #[.pointer (some ⟨h, 0, none⟩)] 43)) _)]; rfl
  have hb1 := heap_alloc_new (w.alloc (.cells #[.pointer (some ⟨h, 0, none⟩)] 43)) (datC k neg A n cp t)
  rw [World.size_alloc] at hb1
  have HB1 := Lib.hid hb1
  have HK2 := Lib.hid (show Keep (fun _ => False) w ((w.alloc (.cells #[.pointer (some ⟨h, 0, none⟩)] 43)).alloc (datC k neg A n cp t)) from ((Keep.refl _ _).alloc _).alloc _)
  have HMM := Lib.hid HM
  have HPP := Lib.hid HP
  obtain ⟨⟨a0, a1, a2, a3, a4, a5⟩, _⟩ := six_cells hb1
  have HB0 := Lib.hid hb0
  clear hb1 HM HP
  go_enter Tryz.func17, Tryz.ntmps17
  go_wp2_with fail
  generalize (w.alloc (.cells #[.pointer (some ⟨h, 0, none⟩)] 43)).alloc (datC k neg A n cp t) = w2 at *
  refine (HMM.out _ HK2.out).mono ?_
  rintro e w3 ⟨rfl, k3⟩
  have HK3 := Lib.hid (HK2.out.trans k3)
  have hc0 := (k3.cell (World.block_lt_of_cell? w2 _ HB0.out) id).trans HB0.out
  obtain ⟨⟨b0, b1, b2, b3, b4, b5⟩, _⟩ := six_cells (bx_old (k3.heap HB1.out id) (.cells #[.func (.func 25) #[] #[.pointer (some ⟨w.heap.size, 0, none⟩), .pointer (some ⟨w3.heap.size, 0, none⟩)]] 59))
  clear k3 hb0 a0 a1 a2 a3 a4 a5
  go_wp2_with fail
  have k4 : Keep (fun _ => False) w3 (w3.alloc (.cells #[.func (.func 25) #[] #[.pointer (some ⟨w.heap.size, 0, none⟩), .pointer (some ⟨w3.heap.size, 0, none⟩)]] 59)) := (Keep.refl _ _).alloc _
  have HL := Lib.hid (HPP.out _ (HK3.out.trans k4) w.heap.size w3.heap.size ((k4.cell (World.block_lt_of_cell? w3 _ hc0) id).trans hc0))
  have HK4 := Lib.hid (HK3.out.trans k4)
  clear k4 hc0 b0 b1 b2 b3 b4 b5
  refine HL.out.mono ?_
  intro e w5 hl
  have HLL := Lib.hid (hl.keepL HK4.out)
  obtain ⟨S', u, rfl, _⟩ := hl
  go_wp2_with fail
  go_ret2
  exact HLL.out
/-- A number onto the heap. -/
theorem heap_int {w : World} {h c s p g : Nat} {S : SpV} (H : HpAt w h c s p g S) (neg : Bool) (A : Option Addr) (n cp : Nat) (l : List Nat) (L : LimbsAt w A n cp l) (hm : mayB neg l = true) (hf : 0 < S.M.free) (hc : S.M.count < 1000) :
    Calls Tryz.prog 17 #[.pointer (some ⟨h, 0, none⟩), datV 4 neg A n cp ⟨#[]⟩] w (LaidPost h c s p g S (fun M u => DenH M u (sval neg l)) w) :=
  heap_leaf 4 neg A n cp ⟨#[]⟩ H.lts.1 (fun W K => pmay_leaf 4 rfl neg A n cp ⟨#[]⟩ true W (fun W2 K2 => by have := pplain_int neg A n cp l W2 ((L.keep0 K).keep0 K2); rwa [hm] at this))
    (fun W K b1 b2 hb => put_int (H.keep0 K) neg A n cp l (L.keep0 K) _ rfl (of_decide_eq_true hm).1 hf hc b1 b2 hb)
/-- Nothing onto the heap. -/
theorem heap_nil {w : World} {h c s p g : Nat} {S : SpV} (H : HpAt w h c s p g S) :
    Calls Tryz.prog 17 #[.pointer (some ⟨h, 0, none⟩), datV 0 false none 0 0 ⟨#[]⟩] w (LaidPost h c s p g S (fun _ u => u = 20) w) :=
  heap_leaf 0 false none 0 0 ⟨#[]⟩ H.lts.1 (fun W _ => pmay_leaf 0 rfl false none 0 0 ⟨#[]⟩ true W (fun W2 _ => pplain_nil W2))
    (fun W K b1 b2 _ => put_nil (H.keep0 K) b1 b2)
end Go.Proofs.YtkjocmenpccooaaGreatDoor
