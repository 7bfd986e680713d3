/-
  A space (package space), as a plain value, and what it is that a world holds it; its calls none, may, Current.
-/
import Derived.Test.YtgnpeciedefeiaaSegAt
namespace Go.Proofs.Ytgnpeciedefeiaa
open Go.RowKit

/-- A space: its memory, and of each generation and kind one above the current segment. -/
structure SpV where
  M : MemV
  cur : Nat → Nat → Int

/-- The space S lies at block s, its memory at p and g. -/
structure SpAt (w : World) (s p g : Nat) (S : SpV) : Prop where
  head : ∃ c, w.heap[s]? = some (.cells c 83 (0, 0))
  ptr : w.cell? ⟨s, 0, none⟩ = some (.pointer (some ⟨p, 0, none⟩))
  cur : ∀ i k, i < 5 → k < 4 → w.cell? ⟨s, 1 + i * 4 + k, none⟩ = some (.int .i64 (S.cur i k))
  mem : MemAt w p g S.M

/-- The space's own block and those of its memory. -/
abbrev MineS (s p g : Nat) : Nat → Prop := fun b => b = s ∨ Mine p g b

theorem SpAt.lt {w : World} {s p g : Nat} {S : SpV} (h : SpAt w s p g S) : s < w.heap.size := World.block_lt_of_cell? w _ h.ptr
theorem SpAt.ne {w : World} {s p g : Nat} {S : SpV} (h : SpAt w s p g S) : s ≠ p ∧ s ≠ g := by
  obtain ⟨c, hc⟩ := h.head
  obtain ⟨d, hd⟩ := h.mem.head
  obtain ⟨⟨e, he⟩, _⟩ := h.mem.segs
  constructor
  · rintro rfl
    rw [hc] at hd
    injection hd with hd
    injection hd with _ hd
    exact absurd hd (by decide)
  · rintro rfl
    rw [hc] at he
    injection he with he
    injection he with _ he
    exact absurd he (by decide)
theorem SpAt.notMine {w : World} {s p g : Nat} {S : SpV} (h : SpAt w s p g S) : ¬ Mine p g s := by
  rintro (e | e)
  · exact h.ne.1 e
  · exact h.ne.2 e
theorem SpAt.frozen {w : World} {s p g : Nat} {S : SpV} (h : SpAt w s p g S) (i : Nat) : w.frozen? ⟨s, i, none⟩ = false := by
  obtain ⟨c, hc⟩ := h.head
  simp [World.frozen?, hc]
theorem SpAt.keep {T : Nat → Prop} {w w' : World} {s p g : Nat} {S : SpV} (h : SpAt w s p g S) (k : Keep T w w') (hs : ¬ T s) (hp : ¬ T p) (hg : ¬ T g) : SpAt w' s p g S :=
  ⟨by obtain ⟨c, hc⟩ := h.head; exact ⟨c, by rw [k.block s h.lt hs]; exact hc⟩, (k.cell (p := ⟨s, 0, none⟩) h.lt hs).trans h.ptr, fun i j hi hj => (k.cell (p := ⟨s, 1 + i * 4 + j, none⟩) h.lt hs).trans (h.cur i j hi hj), h.mem.keep k hp hg⟩
theorem SpAt.keep0 {w w' : World} {s p g : Nat} {S : SpV} (h : SpAt w s p g S) (k : Keep (fun _ => False) w w') : SpAt w' s p g S := h.keep k id id id
/-- Another memory in the place of its memory. -/
theorem SpAt.keepM {w w' : World} {s p g : Nat} {S : SpV} {M' : MemV} (h : SpAt w s p g S) (k : Keep (Mine p g) w w') (m : MemAt w' p g M') : SpAt w' s p g { S with M := M' } :=
  ⟨by obtain ⟨c, hc⟩ := h.head; exact ⟨c, by rw [k.block s h.lt h.notMine]; exact hc⟩, (k.cell (p := ⟨s, 0, none⟩) h.lt h.notMine).trans h.ptr, fun i j hi hj => (k.cell (p := ⟨s, 1 + i * 4 + j, none⟩) h.lt h.notMine).trans (h.cur i j hi hj), m⟩
/-- One of the current segments is another. -/
def SpV.set (S : SpV) (i k : Nat) (v : Int) : SpV := { S with cur := fun a b => if a = i ∧ b = k then v else S.cur a b }
theorem SpAt.setCur {w : World} {s p g : Nat} {S : SpV} (h : SpAt w s p g S) {i k : Nat} (hi : i < 5) (hk : k < 4) (v : Int) : SpAt (w.setCell ⟨s, 1 + i * 4 + k, none⟩ (.int .i64 v)) s p g (S.set i k v) := by
  refine ⟨?_, ?_, ?_, ?_⟩
  · obtain ⟨c, hc⟩ := h.head
    exact ⟨c.setIfInBounds (1 + i * 4 + k) (.int .i64 v), by simp [World.setCell, Array.getElem?_modify, hc]⟩
  · rw [World.cell?_setCell_other _ _ _ _ (by intro e; injection e with _ e _; omega)]
    exact h.ptr
  · intro a b ha hb
    by_cases e : a = i ∧ b = k
    · obtain ⟨rfl, rfl⟩ := e
      rw [World.cell?_setCell_same _ _ _ (h.cur a b hi hk)]
      simp [SpV.set]
    · rw [World.cell?_setCell_other _ _ _ _ (by intro e'; injection e' with _ e' _; omega), h.cur a b ha hb]
      simp [SpV.set, e]
  · exact h.mem.keep ((Keep.refl (fun b => b = s) w).setCell (.inl rfl) _) (fun e => h.ne.1 e.symm) (fun e => h.ne.2 e.symm)

/-- May so many words of a generation and a kind be put? -/
def May8 (gen kind n : Int) : Prop := 0 ≤ gen ∧ gen ≤ 4 ∧ (((kind = 0 ∨ kind = 1) ∧ n = 2) ∨ ((kind = 2 ∨ kind = 3) ∧ 1 ≤ n ∧ n ≤ 63))
theorem May8.lo {gen kind n : Int} (h : May8 gen kind n) : 0 ≤ gen ∧ gen ≤ 4 ∧ 0 ≤ kind ∧ kind ≤ 3 ∧ 1 ≤ n ∧ n ≤ 63 := by unfold May8 at h; omega

set_option maxHeartbeats 400000 in
theorem none_no {w : World} {s : Nat} {v : Addr} (h : w.cell? ⟨s, 0, none⟩ = some (.pointer (some v))) :
    Calls Try.prog 73 #[.pointer (some ⟨s, 0, none⟩)] w fun e w' => e = .returned (.bool false) ∧ w = w' := by
  go_enter Try.func73, Try.ntmps73
  go_wp2
  go_ret
  exact ⟨rfl, rfl⟩

set_option maxHeartbeats 1000000 in
theorem may_yes (gen kind n : Int) (w : World) (h : May8 gen kind n) : Calls Try.prog 74 #[.int .i64 gen, .int .i64 kind, .int .i64 n] w fun e w' => e = .returned (.bool true) ∧ w = w' := by
  obtain ⟨h0, h1, h2⟩ := h
  rcases h2 with ⟨rfl | rfl, rfl⟩ | ⟨rfl | rfl, h3, h4⟩
  all_goals
    go_enter Try.func74, Try.ntmps74
    go_wp2
    go_ret
    exact ⟨rfl, rfl⟩

set_option maxHeartbeats 2000000 in
theorem may_no (gen kind n : Int) (w : World) (h : ¬ May8 gen kind n) : Calls Try.prog 74 #[.int .i64 gen, .int .i64 kind, .int .i64 n] w fun e w' => e = .returned (.bool false) ∧ w = w' := by
  unfold May8 at h
  by_cases a : gen < 0
  · clear h
    go_enter Try.func74, Try.ntmps74
    go_wp2
    go_ret
    exact ⟨rfl, rfl⟩
  by_cases b : 4 < gen
  · clear h
    go_enter Try.func74, Try.ntmps74
    go_wp2
    go_ret
    exact ⟨rfl, rfl⟩
  by_cases c0 : kind = 0
  · subst c0
    have e : (n == 2) = false := by simp; omega
    clear h
    go_enter Try.func74, Try.ntmps74
    go_wp2
    go_ret
    exact ⟨rfl, rfl⟩
  by_cases c1 : kind = 1
  · subst c1
    have e : (n == 2) = false := by simp; omega
    clear h
    go_enter Try.func74, Try.ntmps74
    go_wp2
    go_ret
    exact ⟨rfl, rfl⟩
  have e0 : (kind == 0) = false := by simpa using c0
  have e1 : (kind == 1) = false := by simpa using c1
  by_cases d : kind = 2 ∨ kind = 3
  · by_cases hn : n < 1
    · rcases d with rfl | rfl
      all_goals
        clear h c0 c1 e0 e1
        go_enter Try.func74, Try.ntmps74
        go_wp2
        go_ret
        exact ⟨rfl, rfl⟩
    · have hn2 : 63 < n := by omega
      have hn3 : decide (n ≤ 63) = false := by simp; omega
      rcases d with rfl | rfl
      all_goals
        clear h c0 c1 e0 e1
        go_enter Try.func74, Try.ntmps74
        go_wp2
        go_ret
        exact ⟨rfl, rfl⟩
  · have e2 : (kind == 2) = false := by simp; omega
    have e3 : (kind == 3) = false := by simp; omega
    clear h c0 c1 d
    go_enter Try.func74, Try.ntmps74
    go_wp2
    go_ret
    exact ⟨rfl, rfl⟩

set_option maxHeartbeats 1000000 in
theorem rmay_yes (gen kind n : Int) (w : World) (h : May8 gen kind n) : Calls Try.prog 93 #[.int .i64 gen, .int .i64 kind, .int .i64 n] w fun e w' => e = .returned (.bool true) ∧ w = w' := by
  obtain ⟨h0, h1, h2⟩ := h
  rcases h2 with ⟨rfl | rfl, rfl⟩ | ⟨rfl | rfl, h3, h4⟩
  all_goals
    go_enter Try.func93, Try.ntmps93
    go_wp2
    go_ret
    exact ⟨rfl, rfl⟩

set_option maxHeartbeats 2000000 in
theorem rmay_no (gen kind n : Int) (w : World) (h : ¬ May8 gen kind n) : Calls Try.prog 93 #[.int .i64 gen, .int .i64 kind, .int .i64 n] w fun e w' => e = .returned (.bool false) ∧ w = w' := by
  unfold May8 at h
  by_cases a : gen < 0
  · clear h
    go_enter Try.func93, Try.ntmps93
    go_wp2
    go_ret
    exact ⟨rfl, rfl⟩
  by_cases b : 4 < gen
  · clear h
    go_enter Try.func93, Try.ntmps93
    go_wp2
    go_ret
    exact ⟨rfl, rfl⟩
  by_cases c0 : kind < 0
  · clear h
    go_enter Try.func93, Try.ntmps93
    go_wp2
    go_ret
    exact ⟨rfl, rfl⟩
  by_cases c1 : 3 < kind
  · clear h
    go_enter Try.func93, Try.ntmps93
    go_wp2
    go_ret
    exact ⟨rfl, rfl⟩
  by_cases d : kind < 2
  · have e : (n == 2) = false := by simp; omega
    clear h
    go_enter Try.func93, Try.ntmps93
    go_wp2
    go_ret
    exact ⟨rfl, rfl⟩
  · by_cases hn : n < 1
    · clear h
      go_enter Try.func93, Try.ntmps93
      go_wp2
      go_ret
      exact ⟨rfl, rfl⟩
    · have hn2 : 63 < n := by omega
      have hn3 : decide (n ≤ 63) = false := by simp; omega
      clear h
      go_enter Try.func93, Try.ntmps93
      go_wp2
      go_ret
      exact ⟨rfl, rfl⟩

set_option maxHeartbeats 1000000 in
theorem current_bad (gen kind : Int) (v : Value) (w : World) (s : Nat) (_hv : v = .pointer (some ⟨s, 0, none⟩)) (h : gen < 0 ∨ 4 < gen ∨ kind < 0 ∨ 3 < kind) :
    Calls Try.prog 72 #[v, .int .i64 gen, .int .i64 kind] w fun e w' => e = .returned (.tuple #[.int .i64 0, .bool false]) ∧ w = w' := by
  subst _hv
  by_cases a : gen < 0
  · clear h
    go_enter Try.func72, Try.ntmps72
    go_wp2
    go_ret2
    exact ⟨rfl, rfl⟩
  by_cases b : 4 < gen
  · clear h
    go_enter Try.func72, Try.ntmps72
    go_wp2
    go_ret2
    exact ⟨rfl, rfl⟩
  by_cases c0 : kind < 0
  · clear h
    go_enter Try.func72, Try.ntmps72
    go_wp2
    go_ret2
    exact ⟨rfl, rfl⟩
  · have c1 : 3 < kind := by omega
    clear h
    go_enter Try.func72, Try.ntmps72
    go_wp2
    go_ret2
    exact ⟨rfl, rfl⟩

set_option maxHeartbeats 1000000 in
theorem current_zero {w : World} {s p g : Nat} {S : SpV} (h : SpAt w s p g S) {i k : Nat} {gen kind : Int} (hg : gen = i) (hk : kind = k) (hi : i < 5) (hj : k < 4) (hc : S.cur i k = 0) :
    Calls Try.prog 72 #[.pointer (some ⟨s, 0, none⟩), .int .i64 gen, .int .i64 kind] w fun e w' => e = .returned (.tuple #[.int .i64 0, .bool false]) ∧ w = w' := by
  subst hg hk
  have h0 := h.cur i k hi hj
  rw [hc] at h0
  clear hc
  go_enter Try.func72, Try.ntmps72
  go_wp2
  go_ret2
  exact ⟨rfl, rfl⟩

set_option maxHeartbeats 1000000 in
theorem current_some {w : World} {s p g : Nat} {S : SpV} (h : SpAt w s p g S) {i k q : Nat} {gen kind : Int} (hg : gen = i) (hk : kind = k) (hi : i < 5) (hj : k < 4) (hc : S.cur i k = q + 1) (hq : q ≤ 1024) :
    Calls Try.prog 72 #[.pointer (some ⟨s, 0, none⟩), .int .i64 gen, .int .i64 kind] w fun e w' => e = .returned (.tuple #[.int .i64 q, .bool true]) ∧ w = w' := by
  subst hg hk
  have h0 := h.cur i k hi hj
  rw [hc] at h0
  have hz : ((q : Int) + 1 == 0) = false := by simp; omega
  clear hc
  go_enter Try.func72, Try.ntmps72
  go_wp2
  go_ret2
  exact ⟨rfl, rfl⟩
end Go.Proofs.Ytgnpeciedefeiaa
