/-
  The document's lex: Utf.
-/
import Derived.Test.YtonnikipeokkaaaGreatDoorRlHex
import Derived.Laws.BitsAllLaws
namespace Go.Proofs.YtonnikipeokkaaaGreatDoor
open Go.RowKit Go.Lib

theorem and63 (x : Int) (h0 : 0 ≤ x) (h1 : x < 2147483648) : bits .and .i32 x 63 = x % 64 :=
  bits_mask .i32 31 (by decide) wraps_i32 6 (by decide) x h0 (by omega)
theorem or128 (x : Int) (h0 : 0 ≤ x) (h1 : x ≤ 63) : bits .or .i32 128 x = 128 + x :=
  bits_join .i32 31 (by decide) wraps_i32 6 128 x (by omega) (by omega) (by omega) h0 (by omega) (by omega)
def UtfPost (n : Nat) (w : World) (e : Ending) (w' : World) : Prop :=
  e = .returned (.slice (some ⟨w.heap.size, 0, none⟩) (utfB n).length (utfB n).length) ∧ w' = w.alloc (.cells (Lib.byteCells (utfB n)).toArray 5)
theorem byte_of (x : Nat) (h : x < 256) : ((UInt8.ofNat x).toNat : Int) = (x : Int) := by
  rw [UInt8.toNat_ofNat']; congr 1; omega
set_option maxRecDepth 100000 in
set_option maxHeartbeats 2000000 in
theorem rutf_1 (n : Nat) (w : World) (h1 : 0 ≤ n) (h2 : n ≤ 127) : Calls Tryz.prog 49 #[.int .i32 (n : Int)] w (UtfPost n w) := by
  obtain ⟨N, hN⟩ : ∃ N : Int, N = (n : Int) := ⟨_, rfl⟩
  rw [← hN]
  have b0 : 0 ≤ N := by omega
  have b1 : N ≤ 127 := by omega
  have d1 : decide (N < 128) = true := decide_eq_true (by omega)
  have hu : (utfB n).length = 1 ∧ Lib.byteCells (utfB n) = [.int .u8 (N)] := by
    unfold utfB
    rw [if_pos (by omega)]
    refine ⟨rfl, ?_⟩
    unfold Lib.byteCells
    simp only [List.map_cons, List.map_nil]
    rw [byte_of _ (by omega)]
    rw [hN]
  have HU := Lib.hid hu
  have HN := Lib.hid hN
  clear hu hN h1 h2
  go_enter Tryz.func49, Tryz.ntmps49
  go_wp2_with fail
  refine bodyPost_ret (v := .slice (some ⟨w.heap.size, 0, none⟩) 1 1) (by simp [results, Tryz.results49, go_sem]) rfl ?_
  unfold UtfPost
  rw [HU.out.1, HU.out.2]
  exact ⟨rfl, rfl⟩
set_option maxRecDepth 100000 in
set_option maxHeartbeats 2000000 in
theorem rutf_2 (n : Nat) (w : World) (h1 : 128 ≤ n) (h2 : n ≤ 2047) : Calls Tryz.prog 49 #[.int .i32 (n : Int)] w (UtfPost n w) := by
  obtain ⟨N, hN⟩ : ∃ N : Int, N = (n : Int) := ⟨_, rfl⟩
  rw [← hN]
  have b0 : 0 ≤ N := by omega
  have b1 : N ≤ 2047 := by omega
  have d1 : decide (N < 128) = false := decide_eq_false (by omega)
  have d2 : decide (N < 2048) = true := decide_eq_true (by omega)
  obtain ⟨X0, hX0⟩ : ∃ X : Int, X = N % 64 := ⟨_, rfl⟩
  have a0 : bits .and .i32 N 63 = X0 := by rw [hX0]; exact and63 _ (by omega) (by omega)
  have p0 : 0 ≤ X0 := by omega
  have q0 : X0 ≤ 63 := by omega
  have o0 : bits .or .i32 128 X0 = 128 + X0 := or128 _ p0 q0
  obtain ⟨Y, hY⟩ : ∃ Y : Int, Y = N / 64 := ⟨_, rfl⟩
  have y0 : 0 ≤ Y := by omega
  have y1 : Y ≤ 31 := by omega
  have HY := Lib.hid hY
  have HX0 := Lib.hid hX0
  have hu : (utfB n).length = 2 ∧ Lib.byteCells (utfB n) = [.int .u8 (192 + N / 64), .int .u8 (128 + X0)] := by
    unfold utfB
    rw [if_neg (by omega), if_pos (by omega)]
    refine ⟨rfl, ?_⟩
    unfold Lib.byteCells
    simp only [List.map_cons, List.map_nil]
    rw [byte_of _ (by omega), byte_of _ (by omega)]
    rw [show ((192 + n / 64 : Nat) : Int) = 192 + N / 64 by omega, show ((128 + n % 64 : Nat) : Int) = 128 + X0 by omega]
  have HU := Lib.hid hu
  have HN := Lib.hid hN
  clear hu hN h1 h2 hY hX0
  go_enter Tryz.func49, Tryz.ntmps49
  go_wp2_with fail
  refine bodyPost_ret (v := .slice (some ⟨w.heap.size, 0, none⟩) 2 2) (by simp [results, Tryz.results49, go_sem]) rfl ?_
  unfold UtfPost
  rw [HU.out.1, HU.out.2]
  exact ⟨rfl, rfl⟩
set_option maxRecDepth 100000 in
set_option maxHeartbeats 2000000 in
theorem rutf_3 (n : Nat) (w : World) (h1 : 2048 ≤ n) (h2 : n ≤ 65535) : Calls Tryz.prog 49 #[.int .i32 (n : Int)] w (UtfPost n w) := by
  obtain ⟨N, hN⟩ : ∃ N : Int, N = (n : Int) := ⟨_, rfl⟩
  rw [← hN]
  have b0 : 0 ≤ N := by omega
  have b1 : N ≤ 65535 := by omega
  have d1 : decide (N < 128) = false := decide_eq_false (by omega)
  have d2 : decide (N < 2048) = false := decide_eq_false (by omega)
  have d3 : decide (N < 65536) = true := decide_eq_true (by omega)
  obtain ⟨X0, hX0⟩ : ∃ X : Int, X = (N / 64) % 64 := ⟨_, rfl⟩
  have a0 : bits .and .i32 (N / 64) 63 = X0 := by rw [hX0]; exact and63 _ (by omega) (by omega)
  have p0 : 0 ≤ X0 := by omega
  have q0 : X0 ≤ 63 := by omega
  have o0 : bits .or .i32 128 X0 = 128 + X0 := or128 _ p0 q0
  obtain ⟨X1, hX1⟩ : ∃ X : Int, X = N % 64 := ⟨_, rfl⟩
  have a1 : bits .and .i32 N 63 = X1 := by rw [hX1]; exact and63 _ (by omega) (by omega)
  have p1 : 0 ≤ X1 := by omega
  have q1 : X1 ≤ 63 := by omega
  have o1 : bits .or .i32 128 X1 = 128 + X1 := or128 _ p1 q1
  obtain ⟨Y, hY⟩ : ∃ Y : Int, Y = N / 4096 := ⟨_, rfl⟩
  have y0 : 0 ≤ Y := by omega
  have y1 : Y ≤ 15 := by omega
  have HY := Lib.hid hY
  have yo : bits .or .i32 224 (N / 4096) = 224 + N / 4096 := bits_join .i32 31 (by decide) wraps_i32 4 224 (N / 4096) (by omega) (by omega) (by omega) (by omega) (by omega) (by omega)
  have HX0 := Lib.hid hX0
  have HX1 := Lib.hid hX1
  have hu : (utfB n).length = 3 ∧ Lib.byteCells (utfB n) = [.int .u8 (224 + N / 4096), .int .u8 (128 + X0), .int .u8 (128 + X1)] := by
    unfold utfB
    rw [if_neg (by omega), if_neg (by omega), if_pos (by omega)]
    refine ⟨rfl, ?_⟩
    unfold Lib.byteCells
    simp only [List.map_cons, List.map_nil]
    rw [byte_of _ (by omega), byte_of _ (by omega), byte_of _ (by omega)]
    rw [show ((224 + n / 4096 : Nat) : Int) = 224 + N / 4096 by omega, show ((128 + n / 64 % 64 : Nat) : Int) = 128 + X0 by omega, show ((128 + n % 64 : Nat) : Int) = 128 + X1 by omega]
  have HU := Lib.hid hu
  have HN := Lib.hid hN
  clear hu hN h1 h2 hY hX0 hX1
  go_enter Tryz.func49, Tryz.ntmps49
  go_wp2_with fail
  refine bodyPost_ret (v := .slice (some ⟨w.heap.size, 0, none⟩) 3 3) (by simp [results, Tryz.results49, go_sem]) rfl ?_
  unfold UtfPost
  rw [HU.out.1, HU.out.2]
  exact ⟨rfl, rfl⟩
set_option maxRecDepth 100000 in
set_option maxHeartbeats 2000000 in
theorem rutf_4 (n : Nat) (w : World) (h1 : 65536 ≤ n) (h2 : n ≤ 1114111) : Calls Tryz.prog 49 #[.int .i32 (n : Int)] w (UtfPost n w) := by
  obtain ⟨N, hN⟩ : ∃ N : Int, N = (n : Int) := ⟨_, rfl⟩
  rw [← hN]
  have b0 : 0 ≤ N := by omega
  have b1 : N ≤ 1114111 := by omega
  have d1 : decide (N < 128) = false := decide_eq_false (by omega)
  have d2 : decide (N < 2048) = false := decide_eq_false (by omega)
  have d3 : decide (N < 65536) = false := decide_eq_false (by omega)
  obtain ⟨X0, hX0⟩ : ∃ X : Int, X = (N / 4096) % 64 := ⟨_, rfl⟩
  have a0 : bits .and .i32 (N / 4096) 63 = X0 := by rw [hX0]; exact and63 _ (by omega) (by omega)
  have p0 : 0 ≤ X0 := by omega
  have q0 : X0 ≤ 63 := by omega
  have o0 : bits .or .i32 128 X0 = 128 + X0 := or128 _ p0 q0
  obtain ⟨X1, hX1⟩ : ∃ X : Int, X = (N / 64) % 64 := ⟨_, rfl⟩
  have a1 : bits .and .i32 (N / 64) 63 = X1 := by rw [hX1]; exact and63 _ (by omega) (by omega)
  have p1 : 0 ≤ X1 := by omega
  have q1 : X1 ≤ 63 := by omega
  have o1 : bits .or .i32 128 X1 = 128 + X1 := or128 _ p1 q1
  obtain ⟨X2, hX2⟩ : ∃ X : Int, X = N % 64 := ⟨_, rfl⟩
  have a2 : bits .and .i32 N 63 = X2 := by rw [hX2]; exact and63 _ (by omega) (by omega)
  have p2 : 0 ≤ X2 := by omega
  have q2 : X2 ≤ 63 := by omega
  have o2 : bits .or .i32 128 X2 = 128 + X2 := or128 _ p2 q2
  obtain ⟨Y, hY⟩ : ∃ Y : Int, Y = N / 262144 := ⟨_, rfl⟩
  have y0 : 0 ≤ Y := by omega
  have y1 : Y ≤ 4 := by omega
  have HY := Lib.hid hY
  have yo : bits .or .i32 240 (N / 262144) = 240 + N / 262144 := bits_join .i32 31 (by decide) wraps_i32 3 240 (N / 262144) (by omega) (by omega) (by omega) (by omega) (by omega) (by omega)
  have HX0 := Lib.hid hX0
  have HX1 := Lib.hid hX1
  have HX2 := Lib.hid hX2
  have hu : (utfB n).length = 4 ∧ Lib.byteCells (utfB n) = [.int .u8 (240 + N / 262144), .int .u8 (128 + X0), .int .u8 (128 + X1), .int .u8 (128 + X2)] := by
    unfold utfB
    rw [if_neg (by omega), if_neg (by omega), if_neg (by omega)]
    refine ⟨rfl, ?_⟩
    unfold Lib.byteCells
    simp only [List.map_cons, List.map_nil]
    rw [byte_of _ (by omega), byte_of _ (by omega), byte_of _ (by omega), byte_of _ (by omega)]
    rw [show ((240 + n / 262144 : Nat) : Int) = 240 + N / 262144 by omega, show ((128 + n / 4096 % 64 : Nat) : Int) = 128 + X0 by omega, show ((128 + n / 64 % 64 : Nat) : Int) = 128 + X1 by omega, show ((128 + n % 64 : Nat) : Int) = 128 + X2 by omega]
  have HU := Lib.hid hu
  have HN := Lib.hid hN
  clear hu hN h1 h2 hY hX0 hX1 hX2
  go_enter Tryz.func49, Tryz.ntmps49
  go_wp2_with fail
  refine bodyPost_ret (v := .slice (some ⟨w.heap.size, 0, none⟩) 4 4) (by simp [results, Tryz.results49, go_sem]) rfl ?_
  unfold UtfPost
  rw [HU.out.1, HU.out.2]
  exact ⟨rfl, rfl⟩
theorem rutf_any (n : Nat) (w : World) (h : charB n = true) : Calls Tryz.prog 49 #[.int .i32 (n : Int)] w (UtfPost n w) := by
  have h := of_decide_eq_true h
  by_cases h1 : n ≤ 127
  · exact rutf_1 n w (by omega) h1
  by_cases h2 : n ≤ 2047
  · exact rutf_2 n w (by omega) h2
  by_cases h3 : n ≤ 65535
  · exact rutf_3 n w (by omega) h3
  · exact rutf_4 n w (by omega) (by omega)
end Go.Proofs.YtonnikipeokkaaaGreatDoor
