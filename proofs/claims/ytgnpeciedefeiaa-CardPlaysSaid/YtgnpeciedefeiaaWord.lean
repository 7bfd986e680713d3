/-
  Words: what word.Addr and word.Tag answer, and the document's Of, as far as addresses go.
-/
import Derived.Test.YtgnpeciedefeiaaActs
import Derived.BigQuiet
import Derived.Laws.BitsLemmas
namespace Go.Proofs.Ytgnpeciedefeiaa
open Go.RowKit

theorem and7 (u t : Nat) (hu : u ≤ 18446744073709551615) (ht : u % 8 = t) : bits BinOp.and IntKind.u64 (u : Int) 7 = (t : Int) := by
  have h := bits_mask .u64 64 (by decide) (fun n h0 h1 => by rw [IntKind.wrap_u64]; omega) 3 (by decide) (u : Int) (by omega) (by omega)
  rw [← ht]
  simpa using h

set_option maxHeartbeats 400000 in
theorem tag_any (u t : Nat) (w : World) (hu : u ≤ 18446744073709551615) (ht : u % 8 = t) : Calls Try.prog 81 #[.int .u64 (u : Int)] w fun e w' => e = .returned (.int .i64 (t : Int)) ∧ w = w' := by
  have h7 := and7 u t hu ht
  have t7 : t ≤ 7 := by omega
  clear ht
  go_enter Try.func81, Try.ntmps81
  go_wp2
  go_ret
  exact ⟨rfl, rfl⟩

/-- Some word. -/
def SomeU (w : World) (e : Ending) (w' : World) : Prop := ∃ (x : Int) (n : Nat), e = .returned (.int .u64 x) ∧ 0 ≤ x ∧ x ≤ 18446744073709551615 ∧ w' = w.drewN n
theorem and_lo (x y : Int) : 0 ≤ bits BinOp.and IntKind.u64 x y ∧ bits BinOp.and IntKind.u64 x y ≤ 18446744073709551615 := by
  show 0 ≤ IntKind.u64.wrap _ ∧ IntKind.u64.wrap _ ≤ 18446744073709551615
  rw [IntKind.wrap_u64]
  omega
set_option maxHeartbeats 400000 in
theorem clo117 (u : Nat) (w : World) (b : Nat) (from' n : Int) (hn : n = 3 ∧ from' = 5 ∨ n = 8 ∧ from' = 8 ∨ n = 16 ∧ from' = 48) (_hu : u ≤ 18446744073709551615) (hb : w.cell? ⟨b, 0, none⟩ = some (.int .u64 u)) : Calls Try.prog 117 #[.int .i64 n, .int .i64 from', .pointer (some ⟨b, 0, none⟩)] w (SomeU w) := by
  rcases hn with ⟨rfl, rfl⟩ | ⟨rfl, rfl⟩ | ⟨rfl, rfl⟩
  all_goals
    go_enter Try.func117, Try.ntmps117
    go_wp2
    go_quiet (fail)
    go_wp2
    go_ret
    exact ⟨_, _, rfl, (and_lo _ _).1, (and_lo _ _).2, rfl⟩

/-- Some parts. -/
def SomeParts (w : World) (e : Ending) (w' : World) : Prop := ∃ (x y z : Int), e = .returned (.tuple #[.int .i64 x, .int .i64 y, .int .u64 z]) ∧ Keep (fun _ => False) w w'
set_option maxHeartbeats 400000 in
theorem parts_any (u : Nat) (w : World) (hu : u ≤ 18446744073709551615) : Calls Try.prog 109 #[.int .u64 (u : Int)] w (SomeParts w) := by
  have K0 : Keep (fun _ => False) w (w.alloc (.cells #[.int .u64 (u : Int)] 29)) := (Keep.refl _ _).alloc _
  have c0 : (w.alloc (.cells #[.int .u64 (u : Int)] 29)).cell? ⟨w.heap.size, 0, none⟩ = some (.int .u64 (u : Int)) := by rw [World.cell?_alloc_new]; rfl
  go_enter Try.func109, Try.ntmps109
  go_wp2_with fail
  generalize w.heap.size = b at c0 ⊢
  generalize w.alloc (.cells #[.int .u64 (u : Int)] 29) = w1 at K0 c0 ⊢
  refine (clo117 u _ b _ _ (.inl ⟨rfl, rfl⟩) hu c0).mono ?_
  rintro e w2 ⟨x, n, rfl, x0, x1, rfl⟩
  go_wp2_with fail
  refine (clo117 u _ b _ _ (.inr (.inl ⟨rfl, rfl⟩)) hu (by exact c0)).mono ?_
  rintro e w2 ⟨y, n2, rfl, y0, y1, rfl⟩
  go_wp2_with fail
  refine (clo117 u _ b _ _ (.inr (.inr ⟨rfl, rfl⟩)) hu (by exact c0)).mono ?_
  rintro e w2 ⟨z, n3, rfl, z0, z1, rfl⟩
  go_wp2_with fail
  go_ret3
  exact ⟨_, _, _, rfl, K0.drewN _⟩

set_option maxHeartbeats 400000 in
theorem place_yes (t : Nat) (w : World) (ht : t = 1 ∨ t = 2 ∨ t = 3 ∨ t = 6) : Calls Try.prog 95 #[.int .i64 (t : Int)] w fun e w' => e = .returned (.bool true) ∧ w = w' := by
  rcases ht with rfl | rfl | rfl | rfl
  all_goals
    go_enter Try.func95, Try.ntmps95
    go_wp2
    go_ret
    exact ⟨rfl, rfl⟩
set_option maxHeartbeats 400000 in
theorem place_no (t : Nat) (w : World) (ht : t = 0 ∨ t = 4 ∨ t = 5 ∨ t = 7) : Calls Try.prog 95 #[.int .i64 (t : Int)] w fun e w' => e = .returned (.bool false) ∧ w = w' := by
  rcases ht with rfl | rfl | rfl | rfl
  all_goals
    go_enter Try.func95, Try.ntmps95
    go_wp2
    go_ret
    exact ⟨rfl, rfl⟩

def BoolK (b : Bool) (w : World) (e : Ending) (w' : World) : Prop := e = .returned (.bool b) ∧ Keep (fun _ => False) w w'
set_option maxHeartbeats 1000000 in
theorem may96 (u t : Nat) (w : World) (hu : u ≤ 18446744073709551615) (ht : u % 8 = t) (hp : t = 1 ∨ t = 2 ∨ t = 3 ∨ t = 6) : Calls Try.prog 96 #[.int .u64 (u : Int)] w (BoolK (decide (u / 8 < 65536)) w) := by
  have T := Lib.hid ht
  have hb : decide ((u : Int) / 8 < 65536) = decide (u / 8 < 65536) := decide_eq_decide.2 (by omega)
  have B := Lib.hid hb
  clear ht hb
  rcases hp with rfl | rfl | rfl | rfl
  all_goals
    go_enter Try.func96, Try.ntmps96
    go_wp2_with fail
    refine (parts_any u _ hu).mono ?_
    rintro e w1 ⟨x, y, z, rfl, K⟩
    go_wp2_with fail
    refine (tag_any u _ _ hu T.out).mono ?_
    rintro e w2 ⟨rfl, rfl⟩
    go_wp2_with fail
    go_ret
    refine ⟨?_, K⟩
    rw [← B.out]
    rfl

/-- Is it an address that may be? -/
def isAddr (u : Nat) : Prop := (u % 8 = 1 ∨ u % 8 = 2 ∨ u % 8 = 3 ∨ u % 8 = 6) ∧ u / 8 < 65536
def AddrPost (w : World) (a : Int) (ok : Bool) (e : Ending) (w' : World) : Prop := e = .returned (.tuple #[.int .i64 a, .bool ok]) ∧ Keep (fun _ => False) w w'
set_option maxHeartbeats 1000000 in
theorem addr_yes (u : Nat) (w : World) (hu : u ≤ 18446744073709551615) (h : isAddr u) : Calls Try.prog 80 #[.int .u64 (u : Int)] w (AddrPost w ((u / 8 : Nat) : Int) true) := by
  obtain ⟨hp, hl⟩ := h
  have hd : decide (u / 8 < 65536) = true := by simpa using hl
  have hm := fun w => may96 u _ w hu rfl hp
  rw [hd] at hm
  have M := Lib.hid hm
  have P := Lib.hid (fun w => place_yes (u % 8) w hp)
  have hw : wrap64 ((u : Int) / 8) = (u : Int) / 8 := by unfold wrap64; omega
  have Hu := Lib.hid hu
  have Hl := Lib.hid hl
  clear hm hp hd hl hu
  go_enter Try.func80, Try.ntmps80
  go_wp2_with fail
  refine (tag_any u _ _ Hu.out rfl).mono ?_
  rintro e w2 ⟨rfl, rfl⟩
  go_wp2_with fail
  refine (P.out _).mono ?_
  rintro e w2 ⟨rfl, rfl⟩
  go_wp2_with fail
  refine (M.out _).mono ?_
  rintro e w2 ⟨rfl, K⟩
  go_wp2_with fail
  go_ret2
  exact ⟨by simpa using hw, K⟩
set_option maxHeartbeats 1000000 in
theorem addr_no (u : Nat) (w : World) (hu : u ≤ 18446744073709551615) (h : ¬ isAddr u) : Calls Try.prog 80 #[.int .u64 (u : Int)] w (AddrPost w 0 false) := by
  by_cases hp : u % 8 = 1 ∨ u % 8 = 2 ∨ u % 8 = 3 ∨ u % 8 = 6
  · have hl : ¬ u / 8 < 65536 := fun e => h ⟨hp, e⟩
    have hd : decide (u / 8 < 65536) = false := by simpa using hl
    have hm := fun w => may96 u _ w hu rfl hp
    rw [hd] at hm
    have M := Lib.hid hm
    have P := Lib.hid (fun w => place_yes (u % 8) w hp)
    have Hu := Lib.hid hu
    clear hm hp hd hl hu h
    go_enter Try.func80, Try.ntmps80
    go_wp2_with fail
    refine (tag_any u _ _ Hu.out rfl).mono ?_
    rintro e w2 ⟨rfl, rfl⟩
    go_wp2_with fail
    refine (P.out _).mono ?_
    rintro e w2 ⟨rfl, rfl⟩
    go_wp2_with fail
    refine (M.out _).mono ?_
    rintro e w2 ⟨rfl, K⟩
    go_wp2_with fail
    go_ret2
    exact ⟨rfl, K⟩
  · have P := Lib.hid (fun w => place_no (u % 8) w (by omega))
    have Hu := Lib.hid hu
    clear hp hu h
    go_enter Try.func80, Try.ntmps80
    go_wp2_with fail
    refine (tag_any u _ _ Hu.out rfl).mono ?_
    rintro e w2 ⟨rfl, rfl⟩
    go_wp2_with fail
    refine (P.out _).mono ?_
    rintro e w2 ⟨rfl, rfl⟩
    go_wp2_with fail
    go_ret2
    exact ⟨rfl, Keep.refl _ _⟩
end Go.Proofs.Ytgnpeciedefeiaa
