/-
  num: Parse's closure and a digit more.
-/
import Derived.Test.YtdfekphahdmffaaDoorNuPlus
import Derived.Test.YtdfekphahdmffaaDoorDecs
namespace Go.Proofs.YtdfekphahdmffaaDoor
open Go.RowKit

set_option maxHeartbeats 800000 in
theorem clo66 (A : Option Addr) (n c : Nat) (r : List Nat) (dig b1 b2 i cr : Nat) (w : World) (h : LimbsAt w A n c r) (hi : i ≤ 1000000) (hd : dig ≤ 9) (hc : cr ≤ 9)
    (c1 : w.cell? ⟨b1, 0, none⟩ = some (.int .u8 ((48 + dig : Nat) : Int))) (c2 : w.cell? ⟨b2, 0, none⟩ = some (.slice A n c)) :
    Calls Tryd.prog 66 #[.int .i64 (i : Int), .int .u64 (cr : Int), .pointer (some ⟨b1, 0, none⟩), .pointer (some ⟨b2, 0, none⟩)] w (U64Post (decF r dig i cr) w) := by
  have hx := low_cast h.low i
  obtain ⟨x, hxx⟩ : ∃ x, x = r.getD i 0 := ⟨_, rfl⟩
  have E : decF r dig i cr = 10 * x + if i = 0 then dig else cr := by rw [hxx]; rfl
  have HL := Lib.hid (limb_any A n c r i w h hi)
  rw [← hxx] at hx HL
  rw [E]
  clear hxx E h
  have e8 : ((48 + dig : Nat) : Int) - 48 = (dig : Int) := by omega
  by_cases h0 : i = 0
  · subst h0
    rw [if_pos rfl]
    go_enter Tryd.func66, Tryd.ntmps66
    go_wp2_with fail
    refine HL.out.mono ?_
    rintro e w' ⟨rfl, rfl⟩
    try dsimp only
    go_wp2_with fail
    go_ret
    exact ⟨by simp; try omega, Keep.refl _ _⟩
  · rw [if_neg h0]
    have hb0 : ((i : Int) == 0) = false := by simp; omega
    go_enter Tryd.func66, Tryd.ntmps66
    go_wp2_with fail
    refine HL.out.mono ?_
    rintro e w' ⟨rfl, rfl⟩
    try dsimp only
    go_wp2_with fail
    go_ret
    exact ⟨by simp; try omega, Keep.refl _ _⟩
theorem dig_row (Bc b1 : Nat) (A : Option Addr) (n c : Nat) (r : List Nat) (dig : Nat) (w : World) (h : LimbsAt w A n c r) (hn : n ≤ 9000) (hb : w.heap[Bc]? = some (.cells #[.slice A n c] 23 (0, 0))) (hb1 : w.heap[b1]? = some (.cells #[.int .u8 ((48 + dig : Nat) : Int)] 5 (0, 0))) (hd : dig ≤ 9) :
    Calls Tryd.prog 65 #[.int .i64 ((n + 1 : Nat) : Int), .func (.func 66) #[] #[.pointer (some ⟨b1, 0, none⟩), .pointer (some ⟨Bc, 0, none⟩)]] w (OwnPost (rowL BB (decF r dig) (n + 1)) w) := by
  have hBB : 10 ≤ BB := by unfold BB; omega
  refine row66 (n + 1) b1 Bc (decF r dig) w (by omega) (fun i _ => ?_) (fun i w' hi K' => ?_)
  · have := (dec_bound2 hBB h.low hd i).1
    unfold BB at this
    unfold BB
    omega
  · exact clo66 A n c r dig b1 Bc i _ w' (h.keep0 K') (by omega) hd (dec_bound2 hBB h.low hd i).2 (by rw [cell_of_row w' _ _ _ _ _ (K'.heap hb1 (by simp))]; rfl) (by rw [cell_of_row w' _ _ _ _ _ (K'.heap hb (by simp))]; rfl)
end Go.Proofs.YtdfekphahdmffaaDoor
