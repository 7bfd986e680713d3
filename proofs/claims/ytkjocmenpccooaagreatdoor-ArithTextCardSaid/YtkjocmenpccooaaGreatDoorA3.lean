/-
  Numbers, by program: texts of another seat, turned to this one.
-/
import Derived.Test.YtkjocmenpccooaaGreatDoorA2
import Derived.BigQuiet
import Derived.Laws.BitsLemmas
import Derived.WalkLawsBesides
import Derived.Deep.RegionWith
namespace Go.Proofs.YtkjocmenpccooaaGreatDoor
open Go.RowKit
open Go.RowKit
theorem and7 (u t : Nat) (hu : u ≤ 18446744073709551615) (ht : u % 8 = t) : bits BinOp.and IntKind.u64 (u : Int) 7 = (t : Int) := by
  have h := bits_mask .u64 64 (by decide) (fun n h0 h1 => by rw [IntKind.wrap_u64]; omega) 3 (by decide) (u : Int) (by omega) (by omega)
  rw [← ht]
  simpa using h
set_option maxRecDepth 100000 in
set_option maxHeartbeats 400000 in
theorem tag_any (u t : Nat) (w : World) (hu : u ≤ 18446744073709551615) (ht : u % 8 = t) : Calls Tryz.prog 85 #[.int .u64 (u : Int)] w fun e w' => e = .returned (.int .i64 (t : Int)) ∧ w = w' := by
  have h7 := and7 u t hu ht
  have t7 : t ≤ 7 := by omega
  clear ht
  go_enter Tryz.func85, Tryz.ntmps85
  go_wp2
  go_ret
  exact ⟨rfl, rfl⟩
/-- Some word. -/
def SomeU (w : World) (e : Ending) (w' : World) : Prop := ∃ (x : Int) (n : Nat), e = .returned (.int .u64 x) ∧ 0 ≤ x ∧ x ≤ 18446744073709551615 ∧ w' = w.drewN n
theorem and_lo (x y : Int) : 0 ≤ bits BinOp.and IntKind.u64 x y ∧ bits BinOp.and IntKind.u64 x y ≤ 18446744073709551615 := by
  show 0 ≤ IntKind.u64.wrap _ ∧ IntKind.u64.wrap _ ≤ 18446744073709551615
  rw [IntKind.wrap_u64]
  omega
set_option maxRecDepth 100000 in
set_option maxHeartbeats 400000 in
theorem clo117 (u : Nat) (w : World) (b : Nat) (from' n : Int) (hn : n = 3 ∧ from' = 5 ∨ n = 8 ∧ from' = 8 ∨ n = 16 ∧ from' = 48) (_hu : u ≤ 18446744073709551615) (hb : w.cell? ⟨b, 0, none⟩ = some (.int .u64 u)) : Calls Tryz.prog 182 #[.int .i64 n, .int .i64 from', .pointer (some ⟨b, 0, none⟩)] w (SomeU w) := by
  rcases hn with ⟨rfl, rfl⟩ | ⟨rfl, rfl⟩ | ⟨rfl, rfl⟩
  all_goals
    go_enter Tryz.func182, Tryz.ntmps182
    go_wp2
    go_quiet (fail)
    go_wp2
    go_ret
    exact ⟨_, _, rfl, (and_lo _ _).1, (and_lo _ _).2, rfl⟩
/-- Some parts. -/
def SomeParts (w : World) (e : Ending) (w' : World) : Prop := ∃ (x y z : Int), e = .returned (.tuple #[.int .i64 x, .int .i64 y, .int .u64 z]) ∧ Keep (fun _ => False) w w'
set_option maxRecDepth 100000 in
set_option maxHeartbeats 400000 in
theorem parts_any (u : Nat) (w : World) (hu : u ≤ 18446744073709551615) : Calls Tryz.prog 162 #[.int .u64 (u : Int)] w (SomeParts w) := by
  have K0 : Keep (fun _ => False) w (w.alloc (.cells #[.int .u64 (u : Int)] 48)) := (Keep.refl _ _).alloc _
  have c0 : (w.alloc (.cells #[.int .u64 (u : Int)] 48)).cell? ⟨w.heap.size, 0, none⟩ = some (.int .u64 (u : Int)) := by rw [World.cell?_alloc_new]; rfl
  go_enter Tryz.func162, Tryz.ntmps162
  go_wp2_with fail
  generalize w.heap.size = b at c0 ⊢
  generalize w.alloc (.cells #[.int .u64 (u : Int)] 48) = w1 at K0 c0 ⊢
  refine (clo117 u _ b _ _ (.inl ⟨rfl, rfl⟩) hu c0).mono ?_
  rintro e w2 ⟨x, n, rfl, x0, x1, rfl⟩
  go_wp2_with fail
  refine (clo117 u _ b _ _ (.inr (.inl ⟨rfl, rfl⟩)) hu (by exact c0)).mono ?_
  rintro e w2 ⟨y, n2, rfl, y0, y1, rfl⟩
  go_wp2_with fail
  refine (clo117 u _ b _ _ (.inr (.inr ⟨rfl, rfl⟩)) hu (by exact c0)).mono ?_
  rintro e w2 ⟨z, n3, rfl, z0, z1, rfl⟩
  go_wp2_with fail
  go_ret3
  exact ⟨_, _, _, rfl, K0.drewN _⟩
set_option maxRecDepth 100000 in
set_option maxHeartbeats 400000 in
theorem place_yes (t : Nat) (w : World) (ht : t = 1 ∨ t = 2 ∨ t = 3 ∨ t = 6) : Calls Tryz.prog 139 #[.int .i64 (t : Int)] w fun e w' => e = .returned (.bool true) ∧ w = w' := by
  rcases ht with rfl | rfl | rfl | rfl
  all_goals
    go_enter Tryz.func139, Tryz.ntmps139
    go_wp2
    go_ret
    exact ⟨rfl, rfl⟩
set_option maxRecDepth 100000 in
set_option maxHeartbeats 400000 in
theorem place_no (t : Nat) (w : World) (ht : t = 0 ∨ t = 4 ∨ t = 5 ∨ t = 7) : Calls Tryz.prog 139 #[.int .i64 (t : Int)] w fun e w' => e = .returned (.bool false) ∧ w = w' := by
  rcases ht with rfl | rfl | rfl | rfl
  all_goals
    go_enter Tryz.func139, Tryz.ntmps139
    go_wp2
    go_ret
    exact ⟨rfl, rfl⟩
def BoolK (b : Bool) (w : World) (e : Ending) (w' : World) : Prop := e = .returned (.bool b) ∧ Keep (fun _ => False) w w'
set_option maxRecDepth 100000 in
set_option maxHeartbeats 1000000 in
theorem may96 (u t : Nat) (w : World) (hu : u ≤ 18446744073709551615) (ht : u % 8 = t) (hp : t = 1 ∨ t = 2 ∨ t = 3 ∨ t = 6) : Calls Tryz.prog 163 #[.int .u64 (u : Int)] w (BoolK (decide (u / 8 < 65536)) w) := by
  have T := Lib.hid ht
  have hb : decide ((u : Int) / 8 < 65536) = decide (u / 8 < 65536) := decide_eq_decide.2 (by omega)
  have B := Lib.hid hb
  clear ht hb
  rcases hp with rfl | rfl | rfl | rfl
  all_goals
    go_enter Tryz.func163, Tryz.ntmps163
    go_wp2_with fail
    refine (parts_any u _ hu).mono ?_
    rintro e w1 ⟨x, y, z, rfl, K⟩
    go_wp2_with fail
    refine (tag_any u _ _ hu T.out).mono ?_
    rintro e w2 ⟨rfl, rfl⟩
    go_wp2_with fail
    go_ret
    refine ⟨?_, K⟩
    rw [← B.out]
    rfl
/-- Is it an address that may be? -/
def isAddr (u : Nat) : Prop := (u % 8 = 1 ∨ u % 8 = 2 ∨ u % 8 = 3 ∨ u % 8 = 6) ∧ u / 8 < 65536
def AddrPost (w : World) (a : Int) (ok : Bool) (e : Ending) (w' : World) : Prop := e = .returned (.tuple #[.int .i64 a, .bool ok]) ∧ Keep (fun _ => False) w w'
set_option maxRecDepth 100000 in
set_option maxHeartbeats 1000000 in
theorem addr_yes (u : Nat) (w : World) (hu : u ≤ 18446744073709551615) (h : isAddr u) : Calls Tryz.prog 168 #[.int .u64 (u : Int)] w (AddrPost w ((u / 8 : Nat) : Int) true) := by
  obtain ⟨hp, hl⟩ := h
  have hd : decide (u / 8 < 65536) = true := by simpa using hl
  have hm := fun w => may96 u _ w hu rfl hp
  rw [hd] at hm
  have M := Lib.hid hm
  have P := Lib.hid (fun w => place_yes (u % 8) w hp)
  have hw : wrap64 ((u : Int) / 8) = (u : Int) / 8 := by unfold wrap64; omega
  have Hu := Lib.hid hu
  have Hl := Lib.hid hl
  clear hm hp hd hl hu
  go_enter Tryz.func168, Tryz.ntmps168
  go_wp2_with fail
  refine (tag_any u _ _ Hu.out rfl).mono ?_
  rintro e w2 ⟨rfl, rfl⟩
  go_wp2_with fail
  refine (P.out _).mono ?_
  rintro e w2 ⟨rfl, rfl⟩
  go_wp2_with fail
  refine (M.out _).mono ?_
  rintro e w2 ⟨rfl, K⟩
  go_wp2_with fail
  go_ret2
  exact ⟨by simpa using hw, K⟩
set_option maxRecDepth 100000 in
set_option maxHeartbeats 1000000 in
theorem addr_no (u : Nat) (w : World) (hu : u ≤ 18446744073709551615) (h : ¬ isAddr u) : Calls Tryz.prog 168 #[.int .u64 (u : Int)] w (AddrPost w 0 false) := by
  by_cases hp : u % 8 = 1 ∨ u % 8 = 2 ∨ u % 8 = 3 ∨ u % 8 = 6
  · have hl : ¬ u / 8 < 65536 := fun e => h ⟨hp, e⟩
    have hd : decide (u / 8 < 65536) = false := by simpa using hl
    have hm := fun w => may96 u _ w hu rfl hp
    rw [hd] at hm
    have M := Lib.hid hm
    have P := Lib.hid (fun w => place_yes (u % 8) w hp)
    have Hu := Lib.hid hu
    clear hm hp hd hl hu h
    go_enter Tryz.func168, Tryz.ntmps168
    go_wp2_with fail
    refine (tag_any u _ _ Hu.out rfl).mono ?_
    rintro e w2 ⟨rfl, rfl⟩
    go_wp2_with fail
    refine (P.out _).mono ?_
    rintro e w2 ⟨rfl, rfl⟩
    go_wp2_with fail
    refine (M.out _).mono ?_
    rintro e w2 ⟨rfl, K⟩
    go_wp2_with fail
    go_ret2
    exact ⟨rfl, K⟩
  · have P := Lib.hid (fun w => place_no (u % 8) w (by omega))
    have Hu := Lib.hid hu
    clear hp hu h
    go_enter Tryz.func168, Tryz.ntmps168
    go_wp2_with fail
    refine (tag_any u _ _ Hu.out rfl).mono ?_
    rintro e w2 ⟨rfl, rfl⟩
    go_wp2_with fail
    refine (P.out _).mono ?_
    rintro e w2 ⟨rfl, rfl⟩
    go_wp2_with fail
    go_ret2
    exact ⟨rfl, Keep.refl _ _⟩
open Go.RowKit
/-- The cards of the space S lie at block c, the space at s, its memory at p and g. -/
structure CdAt (w : World) (c s p g : Nat) (S : SpV) : Prop where
  head : w.heap[c]? = some (.cells #[.pointer (some ⟨s, 0, none⟩)] 93 (0, 0))
  sp : SpAt w s p g S
theorem CdAt.ptr {w : World} {c s p g : Nat} {S : SpV} (h : CdAt w c s p g S) : w.cell? ⟨c, 0, none⟩ = some (.pointer (some ⟨s, 0, none⟩)) := by
  rw [cell_of_row w c 0 _ _ _ h.head]; rfl
theorem CdAt.lt {w : World} {c s p g : Nat} {S : SpV} (h : CdAt w c s p g S) : c < w.heap.size := heap_lt h.head
theorem CdAt.keep {T : Nat → Prop} {w w' : World} {c s p g : Nat} {S : SpV} (h : CdAt w c s p g S) (k : Keep T w w') (hc : ¬ T c) (hs : ¬ T s) (hp : ¬ T p) (hg : ¬ T g) : CdAt w' c s p g S :=
  ⟨k.heap h.head hc, h.sp.keep k hs hp hg⟩
theorem CdAt.keep0 {w w' : World} {c s p g : Nat} {S : SpV} (h : CdAt w c s p g S) (k : Keep (fun _ => False) w w') : CdAt w' c s p g S := h.keep k id id id id
theorem CdAt.notMine {w : World} {c s p g : Nat} {S : SpV} (h : CdAt w c s p g S) : ¬ MineS s p g c := by
  have key : ∀ (cc : Array Value) (t : TypeId), w.heap[c]? = some (.cells cc t (0, 0)) → t ≠ 93 → False := by
    intro cc t hc ht
    have := h.head
    rw [hc] at this
    injection this with this
    injection this with _ this
    exact ht this
  rintro (rfl | rfl | rfl)
  · obtain ⟨x, hx⟩ := h.sp.head
    exact key _ 139 hx (by decide)
  · obtain ⟨x, hx⟩ := h.sp.mem.head
    exact key _ 184 hx (by decide)
  · obtain ⟨⟨x, hx⟩, _⟩ := h.sp.mem.segs
    exact key _ 231 hx (by decide)
open Go.RowKit
def New9Post (lim : Nat) (w : World) (e : Ending) (w' : World) : Prop :=
  ∃ c s p g : Nat, e = .returned (.tuple #[.pointer (some ⟨c, 0, none⟩), .int .i64 0]) ∧ w.heap.size ≤ c ∧ w.heap.size ≤ s ∧ w.heap.size ≤ p ∧ w.heap.size ≤ g ∧ CdAt w' c s p g (SpV.new lim) ∧ Keep (fun _ => False) w w'
set_option maxRecDepth 100000 in
theorem new9_yes (lim : Nat) (limit : Int) (w : World) (hl : limit = lim) (h8 : 8 ≤ lim) (h1024 : lim ≤ 1024) :
    Calls Tryz.prog 23 #[.int .i64 limit] w (New9Post lim w) := by
  subst hl
  go_enter Tryz.func23, Tryz.ntmps23
  go_wp2_with fail
  refine (new8_yes lim _ _ rfl h8 h1024).mono ?_
  rintro e w1 ⟨s, p, g, rfl, hs, hp, hg, h1, k1⟩
  go_wp2_with fail
  go_ret2
  exact ⟨_, s, p, g, rfl, k1.size, hs, hp, hg, ⟨heap_alloc_new _ _, h1.keep0 ((Keep.refl _ _).alloc _)⟩, k1.alloc _⟩
end Go.Proofs.YtkjocmenpccooaaGreatDoor
