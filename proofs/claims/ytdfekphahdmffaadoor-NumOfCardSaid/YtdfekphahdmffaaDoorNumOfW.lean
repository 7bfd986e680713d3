/-
  The law NumOf: its walk.
-/
import Derived.Test.YtdfekphahdmffaaDoorRfOf
namespace Go.Proofs.YtdfekphahdmffaaDoor
open Go.RowKit

set_option maxRecDepth 100000 in
set_option maxHeartbeats 4000000 in
theorem of_law (x : Int) (w : World) (ht : PowTab w) (h0 : -9223372036854775808 ≤ x) (h1 : x ≤ 9223372036854775807) :
    Calls Tryd.prog 3 #[.int .i64 x] w (BoolPost true w) := by
  have HT := Lib.hid ht
  clear ht
  go_enter Tryd.func3, Tryd.ntmps3
  go_wp2_with fail
  refine (of_any x w h0 h1).mono ?_
  rintro e w2 ⟨k2, A, n, c, rfl, own⟩
  obtain ⟨q, hq⟩ : ∃ q, q = decide (x < 0) := ⟨_, rfl⟩
  rw [← hq]
  have HQ := Lib.hid hq
  have HL := Lib.hid (own.num (of_fits (by unfold BB; omega)))
  have HK := Lib.hid k2
  clear own k2 hq
  try dsimp only
  go_wp2_with fail
  refine (rof_any x w2 h0 h1).mono ?_
  rintro e w3 ⟨k3, A2, n2, c2, rfl, L2⟩
  rw [← HQ.out]
  have HL2 := Lib.hid L2
  have HL3 := Lib.hid (HL.out.keep0 k3)
  have HK3 := Lib.hid (HK.out.trans k3)
  clear HL HK L2 k3
  try dsimp only
  go_wp2_with fail
  refine (same_any q A n c _ q A2 n2 c2 _ w3 HL3.out HL2.out).mono ?_
  rintro e w4 ⟨rfl, k4⟩
  rw [same_self]
  have HK4 := Lib.hid (HK3.out.trans k4)
  clear HK3 k4
  try dsimp only
  go_wp2_with fail
  refine (awake_any w4 (HT.out.keep HK4.out)).mono ?_
  rintro e w5 ⟨rfl, k5⟩
  have HK5 := Lib.hid (HK4.out.trans k5)
  clear HK4 k5
  try dsimp only
  go_wp2_with fail
  go_ret
  exact ⟨rfl, HK5.out⟩
end Go.Proofs.YtdfekphahdmffaaDoor
