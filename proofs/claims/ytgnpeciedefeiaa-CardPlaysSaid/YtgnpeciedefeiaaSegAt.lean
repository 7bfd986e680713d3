/-
  seg.Mem: what at, Free, Limit, word answer.
-/
import Derived.Test.YtgnpeciedefeiaaProg
import Derived.Test.YtgnpeciedefeiaaSegPlain
import Derived.WalkKit
import Derived.WalkSpells
import Derived.WalkLawsBesides
import Derived.Outline
import Derived.Lib.Hide
namespace Go.Proofs.Ytgnpeciedefeiaa
open Go.RowKit

set_option maxHeartbeats 400000 in
theorem free_any (p g : Nat) (M : MemV) (w : World) (h : MemAt w p g M) :
    Calls Try.prog 15 #[.pointer (some ⟨p, 0, none⟩)] w fun e w' => e = .returned (.int .i64 M.free) ∧ w = w' := by
  obtain ⟨cap, h0, h1, h2⟩ := h.cells
  go_enter Try.func15, Try.ntmps15
  go_wp2
  go_ret
  exact ⟨rfl, rfl⟩

set_option maxHeartbeats 400000 in
theorem limit_any (p g : Nat) (M : MemV) (w : World) (h : MemAt w p g M) :
    Calls Try.prog 23 #[.pointer (some ⟨p, 0, none⟩)] w fun e w' => e = .returned (.int .i64 M.lim) ∧ w = w' := by
  obtain ⟨cap, h0, h1, h2⟩ := h.cells
  go_enter Try.func23, Try.ntmps23
  go_wp2
  go_ret
  exact ⟨rfl, rfl⟩

set_option maxHeartbeats 400000 in
theorem at_yes (p g : Nat) (M : MemV) (k : Nat) (seg : Int) (w : World) (h : MemAt w p g M) (_hl : M.lim ≤ 1024) (hs : seg = k) (hk : k < M.lim) (ht : 0 < (M.sg k).taken) :
    Calls Try.prog 54 #[.pointer (some ⟨p, 0, none⟩), .int .i64 seg] w fun e w' => e = .returned (.pointer (some ⟨g, k * 72, none⟩)) ∧ w = w' := by
  subst hs
  obtain ⟨cap, h0, h1, h2⟩ := h.cells
  have h7 := h.segs.2 k hk 7 (by omega)
  have hb : ((M.sg k).taken == 0) = false := by simp; omega
  simp only [Sg.cell] at h7
  go_enter Try.func54, Try.ntmps54
  go_wp2
  go_ret
  exact ⟨rfl, rfl⟩

set_option maxHeartbeats 400000 in
theorem at_no (p g : Nat) (M : MemV) (seg : Int) (w : World) (h : MemAt w p g M) (_hl : M.lim ≤ 1024) (h0 : ∀ k, k < M.lim → 0 ≤ (M.sg k).taken) (hn : ¬ M.has seg) :
    Calls Try.prog 54 #[.pointer (some ⟨p, 0, none⟩), .int .i64 seg] w fun e w' => e = .returned (.pointer none) ∧ w = w' := by
  obtain ⟨cap, c0, c1, c2⟩ := h.cells
  by_cases a : seg < 0
  · clear hn
    go_enter Try.func54, Try.ntmps54
    go_wp2
    go_ret
    exact ⟨rfl, rfl⟩
  · by_cases b : seg < M.lim
    · obtain ⟨k, rfl⟩ := Int.eq_ofNat_of_zero_le (by omega : 0 ≤ seg)
      have hk : k < M.lim := by omega
      have h7 := h.segs.2 k hk 7 (by omega)
      have ht : (M.sg k).taken = 0 := by
        have := h0 k hk
        rcases Int.lt_or_eq_of_le this with h' | h'
        · exact absurd ⟨by omega, b, by simpa using h'⟩ hn
        · omega
      simp only [Sg.cell, ht] at h7
      clear hn ht h0
      go_enter Try.func54, Try.ntmps54
      go_wp2
      go_ret
      exact ⟨rfl, rfl⟩
    · clear hn h0
      go_enter Try.func54, Try.ntmps54
      go_wp2
      go_ret
      exact ⟨rfl, rfl⟩

set_option maxHeartbeats 400000 in
theorem word_yes (p g : Nat) (M : MemV) (a : Nat) (addr : Int) (w : World) (h : MemAt w p g M) (hl : M.lim ≤ 1024) (hs : addr = a) (hk : a / 64 < M.lim) (ht : 0 < (M.sg (a / 64)).taken)
    (hn : ((a % 64 : Nat) : Int) < (M.sg (a / 64)).n) (hn' : (M.sg (a / 64)).n ≤ 64) :
    Calls Try.prog 55 #[.pointer (some ⟨p, 0, none⟩), .int .i64 addr] w fun e w' => e = .returned (.pointer (some ⟨g, a / 64 * 72 + 8 + a % 64, none⟩)) ∧ w = w' := by
  subst hs
  obtain ⟨cap, h0, h1, h2⟩ := h.cells
  have h7 := h.segs.2 (a / 64) hk 2 (by omega)
  simp only [Sg.cell] at h7
  have hm : a % 64 < 64 := Nat.mod_lt _ (by omega)
  have hA : a ≤ 65536 := by omega
  go_enter Try.func55, Try.ntmps55
  go_wp2_with (go_at_call 54; refine (at_yes p g M (a / 64) _ w h hl (by omega) hk ht).mono ?_; rintro e w' ⟨rfl, rfl⟩)
  go_ret
  exact ⟨rfl, rfl⟩

set_option maxHeartbeats 400000 in
theorem word_no (p g : Nat) (M : MemV) (addr : Int) (w : World) (h : MemAt w p g M) (hl : M.lim ≤ 1024) (h0 : ∀ k, k < M.lim → 0 ≤ (M.sg k).taken) (hA : addr ≤ 9223372036854775807) (hn : ¬ M.used addr) :
    Calls Try.prog 55 #[.pointer (some ⟨p, 0, none⟩), .int .i64 addr] w fun e w' => e = .returned (.pointer none) ∧ w = w' := by
  by_cases a : addr < 0
  · clear hn
    go_enter Try.func55, Try.ntmps55
    go_wp2_with fail
    go_ret
    exact ⟨rfl, rfl⟩
  · by_cases b : M.has (addr / 64)
    · obtain ⟨k, rfl⟩ := Int.eq_ofNat_of_zero_le (by omega : 0 ≤ addr)
      obtain ⟨b0, b1, b2⟩ := b
      rw [show ((k : Int) / 64).toNat = k / 64 from by omega] at b2
      have hk : k / 64 < M.lim := by omega
      have h7 := h.segs.2 (k / 64) hk 2 (by omega)
      simp only [Sg.cell] at h7
      have hm : (M.sg (k / 64)).n ≤ (k : Int) % 64 := by
        rcases Int.lt_or_le ((k : Int) % 64) (M.sg (k / 64)).n with h' | h'
        · exact absurd ⟨by omega, ⟨b0, b1, by rw [show ((k : Int) / 64).toNat = k / 64 from by omega]; exact b2⟩, by rw [show ((k : Int) / 64).toNat = k / 64 from by omega]; exact h'⟩ hn
        · exact h'
      clear hn h0
      go_enter Try.func55, Try.ntmps55
      go_wp2_with (go_at_call 54; refine (at_yes p g M (k / 64) _ w h hl (by omega) hk b2).mono ?_; rintro e w' ⟨rfl, rfl⟩)
      go_ret
      exact ⟨rfl, rfl⟩
    · obtain ⟨k, rfl⟩ := Int.eq_ofNat_of_zero_le (by omega : 0 ≤ addr)
      have B := Lib.hid b
      have H0 := Lib.hid h0
      clear hn h0 b
      go_enter Try.func55, Try.ntmps55
      go_wp2_with (go_at_call 54; refine (at_no p g M _ w h hl H0.out B.out).mono ?_; rintro e w' ⟨rfl, rfl⟩)
      go_ret
      exact ⟨rfl, rfl⟩

set_option maxHeartbeats 400000 in
theorem read_yes (p g : Nat) (M : MemV) (a : Nat) (addr : Int) (w : World) (h : MemAt w p g M) (hl : M.lim ≤ 1024) (hs : addr = a) (hk : a / 64 < M.lim) (ht : 0 < (M.sg (a / 64)).taken)
    (hn : ((a % 64 : Nat) : Int) < (M.sg (a / 64)).n) (hn' : (M.sg (a / 64)).n ≤ 64) :
    Calls Try.prog 21 #[.pointer (some ⟨p, 0, none⟩), .int .i64 addr] w fun e w' => e = .returned (.tuple #[.int .u64 ((M.sg (a / 64)).words (a % 64)), .int .i64 0]) ∧ w = w' := by
  subst hs
  have h7 := h.segs.2 (a / 64) hk (a % 64 + 8) (by omega)
  simp only [Sg.cell] at h7
  rw [show a / 64 * 72 + (a % 64 + 8) = a / 64 * 72 + 8 + a % 64 from by omega] at h7
  go_enter Try.func21, Try.ntmps21
  go_wp2_with (go_at_call 55; refine (word_yes p g M a _ w h hl rfl hk ht hn hn').mono ?_; rintro e w' ⟨rfl, rfl⟩)
  go_ret2
  exact ⟨rfl, rfl⟩

set_option maxHeartbeats 400000 in
theorem read_no (p g : Nat) (M : MemV) (addr : Int) (w : World) (h : MemAt w p g M) (hl : M.lim ≤ 1024) (h0 : ∀ k, k < M.lim → 0 ≤ (M.sg k).taken) (hA : addr ≤ 9223372036854775807) (hn : ¬ M.used addr) :
    Calls Try.prog 21 #[.pointer (some ⟨p, 0, none⟩), .int .i64 addr] w fun e w' => e = .returned (.tuple #[.int .u64 0, .int .i64 18]) ∧ w = w' := by
  have H := Lib.hid (word_no p g M addr w h hl h0 hA hn)
  clear h0 hn
  go_enter Try.func21, Try.ntmps21
  go_wp2_with (go_at_call 55; refine H.out.mono ?_; rintro e w' ⟨rfl, rfl⟩)
  go_ret2
  exact ⟨rfl, rfl⟩

/-- A store into one cell of a segment. -/
theorem MemAt.setCell {w : World} {p g : Nat} {M : MemV} (h : MemAt w p g M) (k j : Nat) (hk : k < M.lim) (hj : j < 72) (s : Sg) (u : Value) (hu : s.cell j = u) (ho : ∀ i, i < 72 → i ≠ j → s.cell i = (M.sg k).cell i) :
    MemAt (w.setCell ⟨g, k * 72 + j, none⟩ u) p g (M.put k s) := by
  refine ⟨?_, ?_, ?_⟩
  · obtain ⟨c, hc⟩ := h.head
    exact ⟨c, by rw [Below.heap_setCell _ _ _ _ h.ne]; exact hc⟩
  · obtain ⟨c, hc⟩ := h.segs.1
    exact ⟨c.setIfInBounds (k * 72 + j) u, by simp [World.setCell, Array.getElem?_modify, hc]⟩
  · intro k' hk' j' hj'
    have hk'' : k' < M.lim := hk'
    by_cases e : k' * 72 + j' = k * 72 + j
    · have e1 : k' = k := by omega
      have e2 : j' = j := by omega
      subst e1 e2
      rw [World.cell?_setCell_same _ _ _ (h.segs.2 k' hk j' hj)]
      simp [MemV.put, hu]
    · rw [World.cell?_setCell_other _ _ _ _ (by intro e'; injection e' with _ e' _; omega), h.segs.2 k' hk'' j' hj']
      by_cases e1 : k' = k
      · subst e1
        simp [MemV.put, ho j' hj' (by omega)]
      · simp [MemV.put, e1]

theorem Sg.write_cell (s : Sg) (j : Nat) (u : Int) : (s.write j u).cell (j + 8) = .int .u64 u := by simp [Sg.write, Sg.cell]
theorem Sg.write_other (s : Sg) (j : Nat) (u : Int) (i : Nat) (h : i ≠ j + 8) : (s.write j u).cell i = s.cell i := by
  match i with
  | 0 | 1 | 2 | 3 | 4 | 5 | 6 | 7 => rfl
  | i + 8 => simp [Sg.write, Sg.cell]; intro e; omega

/-- What is kept by a call upon a memory: all but its two blocks. -/
abbrev Mine (p g : Nat) : Nat → Prop := fun b => b = p ∨ b = g

set_option maxHeartbeats 400000 in
theorem write_yes (p g : Nat) (M : MemV) (a : Nat) (addr u : Int) (w : World) (h : MemAt w p g M) (hl : M.lim ≤ 1024) (hs : addr = a) (hk : a / 64 < M.lim) (ht : 0 < (M.sg (a / 64)).taken)
    (hn : ((a % 64 : Nat) : Int) < (M.sg (a / 64)).n) (hn' : (M.sg (a / 64)).n ≤ 64) :
    Calls Try.prog 20 #[.pointer (some ⟨p, 0, none⟩), .int .i64 addr, .int .u64 u] w fun e w' => e = .returned (.int .i64 0) ∧ MemAt w' p g (M.put (a / 64) ((M.sg (a / 64)).write (a % 64) u)) ∧ Keep (Mine p g) w w' := by
  subst hs
  have h7 := h.segs.2 (a / 64) hk (a % 64 + 8) (by omega)
  simp only [Sg.cell] at h7
  rw [show a / 64 * 72 + (a % 64 + 8) = a / 64 * 72 + 8 + a % 64 from by omega] at h7
  have hf := h.segs.frozen (a / 64 * 72 + 8 + a % 64)
  go_enter Try.func20, Try.ntmps20
  go_wp2_with (go_at_call 55; refine (word_yes p g M a _ w h hl rfl hk ht hn hn').mono ?_; rintro e w' ⟨rfl, rfl⟩)
  go_ret
  exact ⟨rfl, by have := h.setCell (a / 64) (a % 64 + 8) hk (by omega) _ _ (Sg.write_cell (M.sg (a / 64)) (a % 64) u) (fun i _ hi => Sg.write_other _ _ _ _ hi); rwa [show a / 64 * 72 + (a % 64 + 8) = a / 64 * 72 + 8 + a % 64 from by omega] at this, (Keep.refl _ _).setCell (.inl (.inr rfl)) _⟩

set_option maxHeartbeats 400000 in
theorem write_no (p g : Nat) (M : MemV) (addr u : Int) (w : World) (h : MemAt w p g M) (hl : M.lim ≤ 1024) (h0 : ∀ k, k < M.lim → 0 ≤ (M.sg k).taken) (hA : addr ≤ 9223372036854775807) (hn : ¬ M.used addr) :
    Calls Try.prog 20 #[.pointer (some ⟨p, 0, none⟩), .int .i64 addr, .int .u64 u] w fun e w' => e = .returned (.int .i64 18) ∧ w = w' := by
  have H := Lib.hid (word_no p g M addr w h hl h0 hA hn)
  clear h0 hn
  go_enter Try.func20, Try.ntmps20
  go_wp2_with (go_at_call 55; refine H.out.mono ?_; rintro e w' ⟨rfl, rfl⟩)
  go_ret
  exact ⟨rfl, rfl⟩
end Go.Proofs.Ytgnpeciedefeiaa
