/-
  The laws' is and the document's bit.
-/
import Derived.Test.YtdfekphahdmffaaDoorRfNum
import Derived.Test.YtdfekphahdmffaaDoorLawAid
namespace Go.Proofs.YtdfekphahdmffaaDoor
open Go.RowKit

set_option maxHeartbeats 400000 in
theorem bit_any (A : Option Addr) (n c : Nat) (l : List Nat) (i : Nat) (w : World) (h : BitsAt w A n c l) :
    Calls Tryd.prog 61 #[.slice A n c, .int .i64 (i : Int)] w fun e w' => e = .returned (.int .i64 ((l.getD i 0 : Nat) : Int)) ∧ w = w' := by
  by_cases hlt : i < n
  · obtain ⟨b, off, rfl, hb, hc⟩ := h.row.2 i hlt
    have hx := low2_cast h.low i
    have hm := h.max
    obtain ⟨x, hxx⟩ : ∃ x, x = l.getD i 0 := ⟨_, rfl⟩
    rw [← hxx] at hc hx ⊢
    have hx0 : (0 : Int) ≤ (x : Int) := by omega
    have hx1 : (x : Int) ≤ 1 := by omega
    clear hxx h hx
    go_enter Tryd.func61, Tryd.ntmps61
    go_wp2
    go_ret
    exact ⟨rfl, rfl⟩
  · have e : l.getD i 0 = 0 := by
      rw [List.getD_eq_getElem?_getD, List.getElem?_eq_none (by rw [h.len]; omega)]; rfl
    have E := Lib.hid e
    have hm := h.max
    clear e h
    go_enter Tryd.func61, Tryd.ntmps61
    go_wp2
    go_ret
    exact ⟨by rw [E.out]; rfl, rfl⟩
set_option maxRecDepth 100000 in
set_option maxHeartbeats 4000000 in
/-- An answer that is right for x is what the document's value of x gives. -/
theorem is_any (x : Int) (q : Bool) (A : Option Addr) (n c : Nat) (l : List Nat) (f : Int) (A2 : Option Addr) (n2 c2 : Nat) (w : World) (ho : Out x q l f) (h : LimbsAt w A n c l) (h2 : BitsAt w A2 n2 c2 (bits2 x.natAbs)) :
    Calls Tryd.prog 27 #[numArg q A n c, .int .i64 f, numArg (decide (x < 0)) A2 n2 c2] w (BoolPost true w) := by
  obtain ⟨p, hp⟩ : ∃ b, b = decide (x < 0) := ⟨_, rfl⟩
  rw [← hp]
  have HP := Lib.hid hp
  have K : Keep (fun _ => False) w ((w.alloc (.cells #[.bool q, .slice A n c] 25)).alloc (.cells #[.bool p, .slice A2 n2 c2] 34)) := ((Keep.refl _ _).alloc _).alloc _
  have hb1 : BoxAt ((w.alloc (.cells #[.bool q, .slice A n c] 25)).alloc (.cells #[.bool p, .slice A2 n2 c2] 34)) w.heap.size (.bool q) (.slice A n c) := (BoxAt.new w _ _).keep ((Keep.refl _ _).alloc _)
  have HL := Lib.hid (h.keep0 K)
  have HB := Lib.hid (h2.keep0 K)
  have HO := Lib.hid ho
  have HK := Lib.hid K
  have HX := Lib.hid hb1
  clear ho h h2 K hb1 hp
  go_enter Tryd.func27, Tryd.ntmps27
  go_wp2_with fail
  generalize hB0 : w.heap.size = B0 at HX ⊢
  clear hB0
  generalize (w.alloc (.cells #[.bool q, .slice A n c] 25)).alloc (.cells #[.bool p, .slice A2 n2 c2] 34) = w1 at HL HB HK HX ⊢
  have HNM := Lib.hid (num_any x A2 n2 c2 w1 HB.out)
  rw [← HP.out] at HNM
  refine HNM.out.mono ?_
  intro e w2 hres
  obtain ⟨k2, q3, A3, n3, c3, l3, f3, rfl, L3, _, ho3⟩ := hres.gen
  obtain ⟨rfl, rfl, rfl⟩ := HO.out.det ho3
  have hx2 : BoxAt w2 B0 (.bool q3) (.slice A n c) := HX.out.keep k2
  have c0 : w2.cell? ⟨B0, 0, none⟩ = some (.bool q3) := by rw [cell_of_row w2 _ _ _ _ _ hx2]; rfl
  have c1 : w2.cell? ⟨B0, 1, none⟩ = some (.slice A n c) := by rw [cell_of_row w2 _ _ _ _ _ hx2]; rfl
  have hlt := heap_lt hx2
  have k4 : Keep (fun _ => False) w2 (w2.alloc (.cells #[.bool q3, .slice A3 n3 c3] 25)) := (Keep.refl _ _).alloc _
  have HS := Lib.hid (same_any q3 A n c l3 q3 A3 n3 c3 l3 _ ((HL.out.keep0 k2).keep0 k4) (L3.keep0 k4))
  have HKK := Lib.hid (HK.out.trans (k2.trans k4))
  clear HNM ho3 hx2 k4 k2 L3 hres
  try dsimp only
  go_wp2_with fail
  refine HS.out.mono ?_
  rintro e w5 ⟨rfl, k5⟩
  rw [same_self]
  have HK5 := Lib.hid (HKK.out.trans k5)
  clear HKK HS k5
  try dsimp only
  go_wp2_with fail
  go_ret
  exact ⟨rfl, HK5.out⟩
end Go.Proofs.YtdfekphahdmffaaDoor
