/-
  Words: what word.Fix, Int, At, Header, Head, parts, May and Rune answer, so far as things on the heap go.
-/
import Derived.Test.YtkjocmenpccooaaGreatDoorHpL
import Derived.Laws.Bits64b
namespace Go.Proofs.YtkjocmenpccooaaGreatDoor
open Go.RowKit

/-- A fixnum's word. -/
def fixW (x : Int) : Nat := (x * 8 % 18446744073709551616).toNat
theorem fixW_lt (x : Int) : fixW x < 18446744073709551616 := by unfold fixW; omega
theorem fixW_tag (x : Int) : fixW x % 8 = 0 := by unfold fixW; omega
set_option maxHeartbeats 1000000 in
theorem wfix_any (x : Int) (w : World) (h0 : -1152921504606846976 ≤ x) (h1 : x < 1152921504606846976) : Calls Tryz.prog 52 #[.int .i64 x] w (fun e w' => e = .returned (.tuple #[.int .u64 (fixW x : Nat), .int .i64 0]) ∧ w = w') := by
  have e1 := Lib.hid (show IntKind.u64.wrap (x * 8) = ((fixW x : Nat) : Int) from by rw [IntKind.wrap_u64]; unfold fixW; omega)
  go_enter Tryz.func52, Tryz.ntmps52
  go_wp2_with fail
  go_ret2
  exact ⟨by rw [← e1.out]; rfl, rfl⟩
set_option maxHeartbeats 1000000 in
theorem wint_fix (x : Int) (w : World) (h0 : -1152921504606846976 ≤ x) (h1 : x < 1152921504606846976) : Calls Tryz.prog 59 #[.int .u64 (fixW x : Nat)] w (fun e w' => e = .returned (.tuple #[.int .i64 x, .bool true]) ∧ w = w') := by
  have HT := Lib.hid (fun w => tag_any (fixW x) 0 w (by have := fixW_lt x; omega) (fixW_tag x))
  have e1 : IntKind.i64.wrap ((fixW x : Nat) : Int) = x * 8 := by rw [IntKind.wrap_i64]; unfold fixW; omega
  have e2 : x * 8 / 8 = x := by omega
  generalize ((fixW x : Nat) : Int) = u at *
  go_enter Tryz.func59, Tryz.ntmps59
  go_wp2_with fail
  refine (HT.out _).mono ?_
  rintro e w2 ⟨rfl, rfl⟩
  go_wp2_with fail
  go_ret2
  exact ⟨rfl, rfl⟩
set_option maxHeartbeats 1000000 in
theorem wint_no (u : Nat) (w : World) (hu : u ≤ 18446744073709551615) (ht : u % 8 ≠ 0) : Calls Tryz.prog 59 #[.int .u64 (u : Int)] w (fun e w' => e = .returned (.tuple #[.int .i64 0, .bool false]) ∧ w = w') := by
  have HT := Lib.hid (fun w => tag_any u (u % 8) w hu rfl)
  obtain ⟨t, htt⟩ : ∃ t : Int, t = ((u % 8 : Nat) : Int) := ⟨_, rfl⟩
  rw [← htt] at HT
  have h1 : (t == 0) = false := beq_eq_false_iff_ne.2 (by omega)
  clear ht htt
  go_enter Tryz.func59, Tryz.ntmps59
  go_wp2_with fail
  refine (HT.out _).mono ?_
  rintro e w2 ⟨rfl, rfl⟩
  go_wp2_with fail
  go_ret2
  exact ⟨rfl, rfl⟩
theorem or_add (a b i : Nat) (hb : b < 2 ^ i) (h : 2 ^ i * a < 18446744073709551616) (h2 : b < 18446744073709551616) : bits .or .u64 ((2 ^ i * a : Nat) : Int) (b : Int) = ((2 ^ i * a + b : Nat) : Int) := by
  rw [bits_or_u64_nat _ _ h h2, Nat.two_pow_add_eq_or_of_lt hb]
set_option maxHeartbeats 1000000 in
/-- An address with its tag. -/
theorem wat_any (a t : Nat) (w : World) (ha : a < 65536) (ht : t = 1 ∨ t = 2 ∨ t = 3 ∨ t = 6) : Calls Tryz.prog 103 #[.int .i64 (t : Int), .int .i64 (a : Int)] w (fun e w' => e = .returned (.tuple #[.int .u64 ((a * 8 + t : Nat) : Int), .int .i64 0]) ∧ w = w') := by
  have HP := Lib.hid (fun w => place_yes t w ht)
  have HO := Lib.hid (show bits .or .u64 ((a : Int) * 8) (IntKind.u64.wrap (t : Int)) = ((a * 8 + t : Nat) : Int) from by
    have h := or_add a t 3 (by omega) (by omega) (by omega)
    rw [show IntKind.u64.wrap (t : Int) = (t : Int) from by rw [IntKind.wrap_u64]; omega]
    rw [show (2 ^ 3 * a : Nat) = a * 8 from by omega] at h
    exact_mod_cast h)
  obtain ⟨x, hx⟩ : ∃ x : Int, x = (a : Int) := ⟨_, rfl⟩
  rw [← hx] at HO ⊢
  have x0 : 0 ≤ x := by omega
  have x1 : x < 65536 := by omega
  clear hx ha ht
  go_enter Tryz.func103, Tryz.ntmps103
  go_wp2_with fail
  refine (HP.out _).mono ?_
  rintro e w2 ⟨rfl, rfl⟩
  go_wp2_with fail
  go_ret2
  exact ⟨by rw [← HO.out]; rfl, rfl⟩
/-! ### parts -/
theorem mask_val (x j : Nat) (m : Int) (hj : j ≤ 64) (hm : m = 2 ^ j - 1) (hx : x < 18446744073709551616) : bits .and .u64 (x : Int) m = ((x % 2 ^ j : Nat) : Int) := by
  rw [hm, bits_mask .u64 64 (by decide) (fun n h0 h1 => by rw [IntKind.wrap_u64]; omega) j hj (x : Int) (by omega) (by omega)]
  push_cast
  rfl
set_option maxHeartbeats 1000000 in
theorem clo_val (u : Nat) (w : World) (b : Nat) (x y : Int) (v : Nat) (hn : x = 3 ∧ y = 5 ∧ v = u / 8 % 32 ∨ x = 8 ∧ y = 8 ∧ v = u / 256 % 256 ∨ x = 16 ∧ y = 48 ∧ v = u / 65536 % 281474976710656) (hu : u ≤ 18446744073709551615) (hb : w.cell? ⟨b, 0, none⟩ = some (.int .u64 u)) : Calls Tryz.prog 182 #[.int .i64 x, .int .i64 y, .pointer (some ⟨b, 0, none⟩)] w (fun e w' => e = .returned (.int .u64 (v : Int)) ∧ ∃ n, w' = w.drewN n) := by
  have h3 := Lib.hid (mask_val (u / 8) 5 31 (by decide) (by decide) (by omega))
  have h8 := Lib.hid (mask_val (u / 256) 8 255 (by decide) (by decide) (by omega))
  have h16 := Lib.hid (mask_val (u / 65536) 48 281474976710655 (by decide) (by decide) (by omega))
  rcases hn with ⟨rfl, rfl, hv⟩ | ⟨rfl, rfl, hv⟩ | ⟨rfl, rfl, hv⟩
  all_goals
    have HV := Lib.hid hv
    clear hv
    go_enter Tryz.func182, Tryz.ntmps182
    go_wp2
    go_quiet (fail)
    go_wp2
    go_ret
  · exact ⟨by rw [HV.out, ← h3.out]; rfl, _, rfl⟩
  · exact ⟨by rw [HV.out, ← h8.out]; rfl, _, rfl⟩
  · exact ⟨by rw [HV.out, ← h16.out]; rfl, _, rfl⟩
/-- What parts answers. -/
def PartsP (u : Nat) (w : World) (e : Ending) (w' : World) : Prop := e = .returned (.tuple #[.int .i64 ((u / 8 % 32 : Nat) : Int), .int .i64 ((u / 256 % 256 : Nat) : Int), .int .u64 ((u / 65536 % 281474976710656 : Nat) : Int)]) ∧ Keep (fun _ => False) w w'
set_option maxHeartbeats 1000000 in
theorem parts_val (u : Nat) (w : World) (hu : u ≤ 18446744073709551615) : Calls Tryz.prog 162 #[.int .u64 (u : Int)] w (PartsP u w) := by
  have K0 : Keep (fun _ => False) w (w.alloc (.cells #[.int .u64 (u : Int)] 48)) := (Keep.refl _ _).alloc _
  have c0 : (w.alloc (.cells #[.int .u64 (u : Int)] 48)).cell? ⟨w.heap.size, 0, none⟩ = some (.int .u64 (u : Int)) := by rw [World.cell?_alloc_new]; rfl
  obtain ⟨x, hx⟩ : ∃ x, x = u / 8 % 32 := ⟨_, rfl⟩
  obtain ⟨y, hy⟩ : ∃ y, y = u / 256 % 256 := ⟨_, rfl⟩
  obtain ⟨z, hz⟩ : ∃ z, z = u / 65536 % 281474976710656 := ⟨_, rfl⟩
  unfold PartsP
  rw [← hx, ← hy, ← hz]
  have x1 : (x : Int) < 32 := by omega
  have y1 : (y : Int) < 256 := by omega
  have HX := Lib.hid hx
  have HY := Lib.hid hy
  have HZ := Lib.hid hz
  clear hx hy hz
  go_enter Tryz.func162, Tryz.ntmps162
  go_wp2_with fail
  generalize w.heap.size = b at c0 ⊢
  generalize w.alloc (.cells #[.int .u64 (u : Int)] 48) = w1 at K0 c0 ⊢
  refine (clo_val u _ b _ _ x (.inl ⟨rfl, rfl, HX.out⟩) hu c0).mono ?_
  rintro e w2 ⟨rfl, n, rfl⟩
  go_wp2_with fail
  refine (clo_val u _ b _ _ y (.inr (.inl ⟨rfl, rfl, HY.out⟩)) hu (by exact c0)).mono ?_
  rintro e w2 ⟨rfl, n2, rfl⟩
  go_wp2_with fail
  refine (clo_val u _ b _ _ z (.inr (.inr ⟨rfl, rfl, HZ.out⟩)) hu (by exact c0)).mono ?_
  rintro e w2 ⟨rfl, n3, rfl⟩
  go_wp2_with fail
  go_ret3
  exact ⟨rfl, K0.drewN _⟩
/-! ### an object's first word -/
/-- A header's word. -/
def headW (k n more : Nat) : Nat := more * 65536 + n * 256 + k * 8 + 5
theorem headW_tag (k n more : Nat) : headW k n more % 8 = 5 := by unfold headW; omega
theorem headW_lt {k n more : Nat} (hk : k ≤ 13) (hn : n ≤ 62) (hm : more < 281474976710656) : headW k n more < 18446744073709551616 := by unfold headW; omega
theorem headW_k {k n more : Nat} (hk : k ≤ 13) (hn : n ≤ 62) : headW k n more / 8 % 32 = k := by unfold headW; omega
theorem headW_n {k n more : Nat} (hk : k ≤ 13) (hn : n ≤ 62) : headW k n more / 256 % 256 = n := by unfold headW; omega
theorem headW_m {k n more : Nat} (hk : k ≤ 13) (hn : n ≤ 62) (hm : more < 281474976710656) : headW k n more / 65536 % 281474976710656 = more := by unfold headW; omega
theorem head_or (k n more : Nat) (hk : k ≤ 13) (hn : n ≤ 62) (hm : more < 281474976710656) : bits .or .u64 (bits .or .u64 (bits .or .u64 ((more : Int) * 65536) ((n : Int) * 256)) ((k : Int) * 8)) 5 = ((headW k n more : Nat) : Int) := by
  have h1 := or_add more (n * 256) 16 (by omega) (by omega) (by omega)
  have h2 := or_add (more * 256 + n) (k * 8) 8 (by omega) (by omega) (by omega)
  have h3 := or_add (more * 8192 + n * 32 + k) 5 3 (by omega) (by omega) (by omega)
  rw [show ((more : Int) * 65536) = ((2 ^ 16 * more : Nat) : Int) from by rw [show (2 ^ 16 * more : Nat) = more * 65536 from by omega]; exact (Int.natCast_mul _ _).symm, show ((n : Int) * 256) = ((n * 256 : Nat) : Int) from (Int.natCast_mul _ _).symm, h1]
  rw [show (2 ^ 16 * more + n * 256 : Nat) = 2 ^ 8 * (more * 256 + n) from by omega, show ((k : Int) * 8) = ((k * 8 : Nat) : Int) from (Int.natCast_mul _ _).symm, h2]
  rw [show (2 ^ 8 * (more * 256 + n) + k * 8 : Nat) = 2 ^ 3 * (more * 8192 + n * 32 + k) from by omega, show (5 : Int) = ((5 : Nat) : Int) from rfl, h3]
  unfold headW
  congr 1
  omega
set_option maxHeartbeats 1000000 in
theorem whead_make (k n more : Nat) (w : World) (hk : 1 ≤ k ∧ k ≤ 13) (hn : n ≤ 62) (hm : more < 281474976710656) : Calls Tryz.prog 56 #[.int .i64 (k : Int), .int .i64 (n : Int), .int .u64 (more : Int)] w (fun e w' => e = .returned (.tuple #[.int .u64 ((headW k n more : Nat) : Int), .int .i64 0]) ∧ w = w') := by
  have HO := Lib.hid (head_or k n more hk.2 hn hm)
  obtain ⟨k', hk'⟩ : ∃ x : Int, x = (k : Int) := ⟨_, rfl⟩
  obtain ⟨n', hn'⟩ : ∃ x : Int, x = (n : Int) := ⟨_, rfl⟩
  obtain ⟨m', hm'⟩ : ∃ x : Int, x = (more : Int) := ⟨_, rfl⟩
  rw [← hk', ← hn', ← hm'] at HO ⊢
  have k0 : 1 ≤ k' := by omega
  have k1 : k' ≤ 13 := by omega
  have n0 : 0 ≤ n' := by omega
  have n1 : n' ≤ 62 := by omega
  have m0 : 0 ≤ m' := by omega
  have m1 : m' < 281474976710656 := by omega
  clear hk hn hm hk' hn' hm'
  go_enter Tryz.func56, Tryz.ntmps56
  go_wp2_with fail
  go_ret2
  exact ⟨by rw [← HO.out]; rfl, rfl⟩
set_option maxHeartbeats 1000000 in
theorem may_head (k n more : Nat) (w : World) (hk : 1 ≤ k ∧ k ≤ 13) (hn : n ≤ 62) (hm : more < 281474976710656) : Calls Tryz.prog 163 #[.int .u64 ((headW k n more : Nat) : Int)] w (BoolK true w) := by
  have hlt := headW_lt hk.2 hn hm
  have HP := Lib.hid (fun w => parts_val (headW k n more) w (by omega))
  unfold PartsP at HP
  rw [headW_k hk.2 hn, headW_n hk.2 hn, headW_m hk.2 hn hm] at HP
  have HT := Lib.hid (fun w => tag_any (headW k n more) 5 w (by omega) (headW_tag _ _ _))
  generalize ((headW k n more : Nat) : Int) = u at *
  obtain ⟨k', hk'⟩ : ∃ x : Int, x = (k : Int) := ⟨_, rfl⟩
  obtain ⟨n', hn'⟩ : ∃ x : Int, x = (n : Int) := ⟨_, rfl⟩
  rw [← hk', ← hn'] at HP
  have k0 : 1 ≤ k' := by omega
  have k1 : k' ≤ 13 := by omega
  have n1 : n' ≤ 62 := by omega
  clear hk hn hm hk' hn' hlt
  go_enter Tryz.func163, Tryz.ntmps163
  go_wp2_with fail
  refine (HP.out _).mono ?_
  rintro e w1 ⟨rfl, k9⟩
  go_wp2_with fail
  refine (HT.out _).mono ?_
  rintro e w2 ⟨rfl, rfl⟩
  go_wp2_with fail
  go_ret
  exact ⟨rfl, k9⟩
set_option maxHeartbeats 1000000 in
/-- A header's parts again. -/
theorem whead_any (k n more : Nat) (w : World) (hk : 1 ≤ k ∧ k ≤ 13) (hn : n ≤ 62) (hm : more < 281474976710656) : Calls Tryz.prog 141 #[.int .u64 ((headW k n more : Nat) : Int)] w (fun e w' => e = .returned (.tuple #[.int .i64 (k : Int), .int .i64 (n : Int), .int .u64 (more : Int), .bool true]) ∧ Keep (fun _ => False) w w') := by
  have hlt := headW_lt hk.2 hn hm
  have HP := Lib.hid (fun w => parts_val (headW k n more) w (by omega))
  unfold PartsP at HP
  rw [headW_k hk.2 hn, headW_n hk.2 hn, headW_m hk.2 hn hm] at HP
  have HT := Lib.hid (fun w => tag_any (headW k n more) 5 w (by omega) (headW_tag _ _ _))
  have HM := Lib.hid (fun w => may_head k n more w hk hn hm)
  generalize ((headW k n more : Nat) : Int) = u at *
  clear hk hn hm hlt
  go_enter Tryz.func141, Tryz.ntmps141
  go_wp2_with fail
  refine (HT.out _).mono ?_
  rintro e w1 ⟨rfl, rfl⟩
  go_wp2_with fail
  refine (HM.out _).mono ?_
  rintro e w2 ⟨rfl, k9⟩
  have HK := Lib.hid k9
  clear k9
  go_wp2_with fail
  refine (HP.out _).mono ?_
  rintro e w3 ⟨rfl, k9⟩
  have HK3 := Lib.hid (HK.out.trans k9)
  clear k9
  go_wp2_with fail
  refine bodyPost_ret (v := .tuple #[.int .i64 (k : Int), .int .i64 (n : Int), .int .u64 (more : Int), .bool true]) ?_ rfl ⟨rfl, HK3.out⟩
  simp [results, Tryz.results141, go_sem]
/-! ### no char -/
set_option maxHeartbeats 1000000 in
theorem rune_no (u : Nat) (w : World) (hu : u ≤ 18446744073709551615) (ht : u % 8 ≠ 4) : Calls Tryz.prog 123 #[.int .u64 (u : Int)] w (fun e w' => e = .returned (.tuple #[.int .i32 0, .bool false]) ∧ Keep (fun _ => False) w w') := by
  have HP := Lib.hid (fun w => parts_val u w hu)
  unfold PartsP at HP
  have HT := Lib.hid (fun w => tag_any u (u % 8) w hu rfl)
  obtain ⟨t, htt⟩ : ∃ t : Int, t = ((u % 8 : Nat) : Int) := ⟨_, rfl⟩
  rw [← htt] at HT
  have h1 : (t != 4) = true := bne_iff_ne.2 (by omega)
  clear ht htt
  go_enter Tryz.func123, Tryz.ntmps123
  go_wp2_with fail
  refine (HP.out _).mono ?_
  rintro e w1 ⟨rfl, k9⟩
  have HK := Lib.hid k9
  clear k9
  go_wp2_with fail
  refine (HT.out _).mono ?_
  rintro e w2 ⟨rfl, rfl⟩
  go_wp2_with fail
  go_ret2
  exact ⟨rfl, HK.out⟩
end Go.Proofs.YtkjocmenpccooaaGreatDoor
