/-
  The laws' awake: it answers true.
-/
import Derived.Test.YtdfekphahdmffaaDoorNuParse
import Derived.Test.YtdfekphahdmffaaDoorNuSame
import Derived.Test.YtdfekphahdmffaaDoorNuOf
namespace Go.Proofs.YtdfekphahdmffaaDoor
open Go.RowKit

/-- A number that lies in a block of its own. -/
structure NumIn (w : World) (B : Nat) (neg : Bool) (A : Option Addr) (n c : Nat) (l : List Nat) : Prop where
  h : w.heap[B]? = some (.cells #[.bool neg, .slice A n c] 25 (0, 0))
  a : LimbsAt w A n c l
namespace NumIn
variable {w w' : World} {B n c : Nat} {neg : Bool} {A : Option Addr} {l : List Nat}
theorem keep (h : NumIn w B neg A n c l) (k : Keep (fun _ => False) w w') : NumIn w' B neg A n c l := ⟨k.heap h.h (by simp), h.a.keep0 k⟩
theorem cells (h : NumIn w B neg A n c l) (k : Keep (fun _ => False) w w') : w'.cell? ⟨B, 0, none⟩ = some (.bool neg) ∧ w'.cell? ⟨B, 1, none⟩ = some (.slice A n c) := by
  have g := k.heap h.h (by simp)
  exact ⟨by rw [cell_of_row w' _ _ _ _ _ g]; rfl, by rw [cell_of_row w' _ _ _ _ _ g]; rfl⟩
theorem new (w : World) (neg : Bool) (A : Option Addr) (n c : Nat) (l : List Nat) (h : LimbsAt w A n c l) : NumIn (w.alloc (.cells #[.bool neg, .slice A n c] 25)) w.heap.size neg A n c l :=
  ⟨heap_alloc_new w _, h.keep0 ((Keep.refl _ _).alloc _)⟩
end NumIn
theorem none_limbs (w : World) : LimbsAt w none 0 0 [] := ⟨RowAt.nil _ _ _, (by intro x hx; simp at hx), Nat.le_refl _, by omega⟩
/-- What a call that answers x hands back, where x is not too big. -/
theorem ResPost.fits {x : Int} {w w' : World} {e : Ending} (h : ResPost x w e w') (f : Fits x) : Keep (fun _ => False) w w' ∧ ∃ (A : Option Addr) (n c : Nat), e = .returned (.tuple #[numArg (decide (x < 0)) A n c, .int .i64 0]) ∧ LimbsAt w' A n c (limbs x.natAbs) ∧ n ≤ 48 := by
  obtain ⟨k, ⟨hn, _⟩ | ⟨A, n, c, _, he, own⟩⟩ := h
  · exact absurd f hn
  · exact ⟨k, A, n, c, he, own.num f, by have := own.len; unfold Fits at f; omega⟩
theorem small_fits {x : Int} (h : x.natAbs < 4294967296) : Fits x := of_fits (by unfold BB; omega)

theorem itoa_m7 : Lib.itoa (-7) = [45, 55] := by decide +kernel
theorem itoa_1 : Lib.itoa 1 = [49] := by decide +kernel
theorem itoa_big : Lib.itoa 4294967296 = [52, 50, 57, 52, 57, 54, 55, 50, 57, 54] := by decide +kernel
theorem parse_m7 : parseV [45, 48, 48, 55] = some (-7) := by decide +kernel
theorem parse_plus0 : parseV [43] = none := by decide +kernel

set_option maxRecDepth 100000 in
set_option maxHeartbeats 4000000 in
theorem awake_any (w : World) (ht : PowTab w) : Calls Tryd.prog 20 #[] w (BoolPost true w) := by
  have HT := Lib.hid ht
  clear ht
  go_enter Tryd.func20, Tryd.ntmps20
  go_wp2_with fail
  refine (parse_any ⟨#[45, 48, 48, 55]⟩ w (by decide)).mono ?_
  intro e w1 hres
  have hres : ResPost (-7) w e w1 := by
    unfold ParsePost at hres
    rw [show parseV (⟨#[45, 48, 48, 55]⟩ : ByteArray).data.toList = some (-7) from parse_m7] at hres
    exact hres
  obtain ⟨k1, A1, n1, c1, rfl, L1, m1⟩ := hres.fits (small_fits (by decide))
  rw [show decide ((-7 : Int) < 0) = true from rfl]
  have N1 := NumIn.new w1 true A1 n1 c1 _ L1
  have K1 : Keep (fun _ => False) w (w1.alloc (.cells #[.bool true, .slice A1 n1 c1] 25)) := k1.alloc _
  clear k1 L1 hres
  try dsimp only
  go_wp2_with fail
  have HN1 := Lib.hid N1
  have HK1 := Lib.hid K1
  clear N1 K1
  generalize w1.heap.size = B1 at HN1 ⊢
  generalize w1.alloc (.cells #[.bool true, .slice A1 n1 c1] 25) = w2 at HN1 HK1 ⊢
  refine (parse_any ⟨#[43]⟩ w2 (by decide)).mono ?_
  intro e w3 hres
  unfold ParsePost at hres
  rw [show parseV (⟨#[43]⟩ : ByteArray).data.toList = none from parse_plus0] at hres
  obtain ⟨rfl, k3⟩ := hres
  have K3 := (HK1.out.trans k3).alloc (.cells #[.bool false, .slice none 0 0] 25)
  have N3 := HN1.out.keep (k3.alloc (.cells #[.bool false, .slice none 0 0] 25))
  clear HN1 HK1 k3
  try dsimp only
  go_wp2_with fail
  have HN1 := Lib.hid N3
  have HK1 := Lib.hid K3
  clear N3 K3
  generalize w3.heap.size = B3
  generalize w3.alloc (.cells #[.bool false, .slice none 0 0] 25) = w4 at HN1 HK1 ⊢
  refine (of_any (-7) w4 (by decide) (by decide)).mono ?_
  rintro e w5 ⟨k5, A5, n5, c5, rfl, o5⟩
  have L5 := o5.num (small_fits (by decide))
  have l5 : n5 ≤ 48 := by have := o5.len; have := small_fits (x := -7) (by decide); unfold Fits at this; omega
  rw [show decide ((-7 : Int) < 0) = true from rfl]
  clear o5
  try dsimp only
  go_wp2_with fail
  refine (of_any 2 w5 (by decide) (by decide)).mono ?_
  rintro e w6 ⟨k6, A6, n6, c6, rfl, o6⟩
  have L6 := o6.num (small_fits (by decide))
  have l6 : n6 ≤ 48 := by have := o6.len; have := small_fits (x := 2) (by decide); unfold Fits at this; omega
  rw [show decide ((2 : Int) < 0) = false from rfl]
  clear o6
  have K6 := HK1.out.trans (k5.trans k6)
  have N6 := HN1.out.keep (k5.trans k6)
  have HK1 := Lib.hid K6
  have HN1 := Lib.hid N6
  have HM := Lib.hid (mod_any true A5 n5 c5 _ false A6 n6 c6 _ w6 (L5.keep0 k6) L6 (by omega) (by omega) (by decide +kernel))
  clear K6 N6 k5 k6 L5 L6
  try dsimp only
  go_wp2_with fail
  refine HM.out.mono ?_
  intro e w7 hres
  rw [show Int.fmod (sval true (limbs (-7 : Int).natAbs)) (sval false (limbs (2 : Int).natAbs)) = 1 from by rw [sval_dec, sval_dec]; rfl] at hres
  obtain ⟨k7, A7, n7, c7, rfl, L7, m7⟩ := hres.fits (small_fits (by decide))
  rw [show decide ((1 : Int) < 0) = false from rfl]
  have N7 := NumIn.new w7 false A7 n7 c7 _ L7
  have K7 := HK1.out.trans (k7.alloc (.cells #[.bool false, .slice A7 n7 c7] 25))
  have N1 := HN1.out.keep (k7.alloc (.cells #[.bool false, .slice A7 n7 c7] 25))
  clear HK1 HN1 HM hres k7 L7
  try dsimp only
  go_wp2_with fail
  have HN1 := Lib.hid N1
  have HN7 := Lib.hid N7
  have HK1 := Lib.hid K7
  clear N1 N7 K7
  generalize w7.heap.size = B7 at HN7 ⊢
  generalize w7.alloc (.cells #[.bool false, .slice A7 n7 c7] 25) = w8 at HN1 HN7 HK1 ⊢
  refine (of_any 7 w8 (by decide) (by decide)).mono ?_
  rintro e w9 ⟨k9, A9, n9, c9, rfl, o9⟩
  rw [show decide ((7 : Int) < 0) = false from rfl]
  clear o9
  try dsimp only
  go_wp2_with fail
  refine (of_any 0 w9 (by decide) (by decide)).mono ?_
  rintro e w10 ⟨k10, A10, n10, c10, rfl, o10⟩
  have L10 := o10.num (small_fits (by decide))
  rw [show decide ((0 : Int) < 0) = false from rfl]
  have N1 := HN1.out.keep (k9.trans k10)
  have N7 := HN7.out.keep (k9.trans k10)
  have K1 := HK1.out.trans (k9.trans k10)
  have HZ := Lib.hid (quo_zero false A9 n9 c9 false A10 n10 c10 _ w10 L10 (by decide +kernel))
  clear o10 L10 k9 k10 HN1 HN7 HK1
  have HN1 := Lib.hid N1
  have HN7 := Lib.hid N7
  have HK1 := Lib.hid K1
  clear N1 N7 K1
  try dsimp only
  go_wp2_with fail
  refine HZ.out.mono ?_
  rintro e w11 ⟨rfl, k11⟩
  obtain ⟨b0, b1⟩ := HN1.out.cells k11
  have hl1 := Nat.lt_of_lt_of_le (heap_lt HN1.out.h) k11.size
  have N1 := HN1.out.keep (k11.alloc (.cells #[.bool false, .slice none 0 0] 25))
  have N7 := HN7.out.keep (k11.alloc (.cells #[.bool false, .slice none 0 0] 25))
  have K1 := HK1.out.trans (k11.alloc (.cells #[.bool false, .slice none 0 0] 25))
  clear HN1 HN7 HK1 HZ k11
  have HN1 := Lib.hid N1
  have HN7 := Lib.hid N7
  have HK1 := Lib.hid K1
  have HT1 := Lib.hid (text_any true A1 n1 c1 _ _ N1.a (by omega) (HT.out.keep K1))
  rw [sval_dec, show (if true = true then -(((-7 : Int).natAbs : Nat) : Int) else (((-7 : Int).natAbs : Nat) : Int)) = -7 from rfl, itoa_m7] at HT1
  clear N1 N7 K1
  try dsimp only
  go_wp2_with fail
  refine HT1.out.mono ?_
  rintro e w13 ⟨rfl, k13⟩
  have N7 := HN7.out.keep k13
  have K1 := HK1.out.trans k13
  clear HN1 HN7 HK1 HT1 k13 b0 b1 hl1
  obtain ⟨a0, a1⟩ := N7.cells (Keep.refl _ _)
  have HT1 := Lib.hid (text_any false A7 n7 c7 _ _ N7.a (by omega) (HT.out.keep K1))
  rw [sval_dec, show (if false = true then -(((1 : Int).natAbs : Nat) : Int) else (((1 : Int).natAbs : Nat) : Int)) = 1 from rfl, itoa_1] at HT1
  have HK1 := Lib.hid K1
  clear N7 K1
  try dsimp only
  go_wp2_with fail
  refine HT1.out.mono ?_
  rintro e w14 ⟨rfl, k14⟩
  have K1 := HK1.out.trans k14
  have K2 := K1.alloc (.cells #[.int .u32 0, .int .u32 1] 63)
  have HT1 := Lib.hid (text_any false _ 2 2 _ _ (two_limbs w14 0 1 (by decide) (by decide)) (by omega) (HT.out.keep K2))
  rw [show sval false [0, 1] = 4294967296 from by decide +kernel, itoa_big] at HT1
  have HK2 := Lib.hid K2
  clear HK1 k14 K1 K2 a0 a1
  try dsimp only
  go_wp2_with fail
  refine HT1.out.mono ?_
  rintro e w15 ⟨rfl, k15⟩
  have HK3 := Lib.hid (HK2.out.trans k15)
  clear HT1 HK2 k15
  try dsimp only
  go_wp2_with fail
  go_ret
  exact ⟨rfl, HK3.out⟩
end Go.Proofs.YtdfekphahdmffaaDoor
