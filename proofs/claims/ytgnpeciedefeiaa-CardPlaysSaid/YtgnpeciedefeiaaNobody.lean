/-
  seg.Mem: what a nil memory, and one that New did not make, answer.
-/
import Derived.Test.YtgnpeciedefeiaaActs
namespace Go.Proofs.Ytgnpeciedefeiaa
open Go.RowKit

/-- A memory that New did not make lies at block p. -/
def EmptyAt (w : World) (p : Nat) : Prop := w.heap[p]? = some (.cells #[.slice none 0 0, .int .i64 0, .int .i64 0] 57 (0, 0))
theorem EmptyAt.cells {w : World} {p : Nat} (h : EmptyAt w p) : w.cell? ⟨p, 0, none⟩ = some (.slice none 0 0) ∧ w.cell? ⟨p, 1, none⟩ = some (.int .i64 0) ∧ w.cell? ⟨p, 2, none⟩ = some (.int .i64 0) := by
  refine ⟨?_, ?_, ?_⟩ <;> (rw [cell_of_row w p _ _ _ _ h]; rfl)
theorem EmptyAt.keep {S : Nat → Prop} {w w' : World} {p : Nat} (h : EmptyAt w p) (k : Keep S w w') (hs : ¬ S p) : EmptyAt w' p := k.heap h hs
theorem EmptyAt.lt {w : World} {p : Nat} (h : EmptyAt w p) : p < w.heap.size := by
  rcases Nat.lt_or_ge p w.heap.size with hlt | hge
  · exact hlt
  · unfold EmptyAt at h; rw [Array.getElem?_eq_none hge] at h; cases h

/-- Nobody: nil, or one that New did not make. -/
def Nobody (w : World) (v : Value) : Prop := v = .pointer none ∨ ∃ p, v = .pointer (some ⟨p, 0, none⟩) ∧ EmptyAt w p
theorem Nobody.keep {w w' : World} {v : Value} (h : Nobody w v) (k : Keep (fun _ => False) w w') : Nobody w' v := by
  rcases h with h | ⟨p, h, he⟩
  · exact .inl h
  · exact .inr ⟨p, h, he.keep k (by simp)⟩

set_option maxHeartbeats 400000 in
theorem at_body (v : Value) (seg : Int) (w : World) (h : Nobody w v) : Calls Try.prog 54 #[v, .int .i64 seg] w fun e w' => e = .returned (.pointer none) ∧ w = w' := by
  rcases h with rfl | ⟨p, rfl, he⟩
  · go_enter Try.func54, Try.ntmps54
    go_wp2
    go_ret
    exact ⟨rfl, rfl⟩
  · obtain ⟨c0, _, _⟩ := he.cells
    by_cases hs : seg < 0
    · go_enter Try.func54, Try.ntmps54
      go_wp2
      go_ret
      exact ⟨rfl, rfl⟩
    · go_enter Try.func54, Try.ntmps54
      go_wp2
      go_ret
      exact ⟨rfl, rfl⟩

set_option maxHeartbeats 400000 in
theorem word_body (v : Value) (addr : Int) (w : World) (h : Nobody w v) (_hA : addr ≤ 9223372036854775807) : Calls Try.prog 55 #[v, .int .i64 addr] w fun e w' => e = .returned (.pointer none) ∧ w = w' := by
  by_cases hs : addr < 0
  · go_enter Try.func55, Try.ntmps55
    go_wp2_with fail
    go_ret
    exact ⟨rfl, rfl⟩
  · go_enter Try.func55, Try.ntmps55
    go_wp2_with fail
    refine (at_body v _ _ h).mono ?_
    rintro e w1 ⟨rfl, rfl⟩
    go_wp2_with fail
    go_ret
    exact ⟨rfl, rfl⟩

set_option maxHeartbeats 400000 in
theorem take_body (v : Value) (gen kind : Int) (w : World) (h : Nobody w v) : Calls Try.prog 16 #[v, .int .i64 gen, .int .i64 kind] w fun e w' => e = .returned (.tuple #[.int .i64 0, .int .i64 1]) ∧ w = w' := by
  rcases h with rfl | ⟨p, rfl, he⟩
  · go_enter Try.func16, Try.ntmps16
    go_wp2
    go_ret2
    exact ⟨rfl, rfl⟩
  · by_cases hb : gen < 0 ∨ 4 < gen ∨ kind < 0 ∨ 3 < kind
    · exact take_arg p 0 (MemV.new 8) gen kind w hb
    · obtain ⟨c0, _, _⟩ := he.cells
      have h1 : ¬ gen < 0 := by omega
      have h2 : ¬ 4 < gen := by omega
      have h3 : ¬ kind < 0 := by omega
      have h4 : ¬ 3 < kind := by omega
      clear hb
      go_enter Try.func16, Try.ntmps16
      go_wp2
      go_ret2
      exact ⟨rfl, rfl⟩

set_option maxHeartbeats 400000 in
theorem bump_body (v : Value) (seg n : Int) (w : World) (h : Nobody w v) : Calls Try.prog 19 #[v, .int .i64 seg, .int .i64 n] w fun e w' => e = .returned (.tuple #[.int .i64 0, .int .i64 19]) ∧ w = w' := by
  go_enter Try.func19, Try.ntmps19
  go_wp2_with fail
  refine (at_body v _ _ h).mono ?_
  rintro e w1 ⟨rfl, rfl⟩
  go_wp2_with fail
  go_ret2
  exact ⟨rfl, rfl⟩

set_option maxHeartbeats 400000 in
theorem read_body (v : Value) (addr : Int) (w : World) (h : Nobody w v) (hA : addr ≤ 9223372036854775807) : Calls Try.prog 21 #[v, .int .i64 addr] w fun e w' => e = .returned (.tuple #[.int .u64 0, .int .i64 18]) ∧ w = w' := by
  go_enter Try.func21, Try.ntmps21
  go_wp2_with fail
  refine (word_body v _ _ h hA).mono ?_
  rintro e w1 ⟨rfl, rfl⟩
  go_wp2_with fail
  go_ret2
  exact ⟨rfl, rfl⟩

set_option maxHeartbeats 400000 in
theorem write_body (v : Value) (addr u : Int) (w : World) (h : Nobody w v) (hA : addr ≤ 9223372036854775807) : Calls Try.prog 20 #[v, .int .i64 addr, .int .u64 u] w fun e w' => e = .returned (.int .i64 18) ∧ w = w' := by
  go_enter Try.func20, Try.ntmps20
  go_wp2_with fail
  refine (word_body v _ _ h hA).mono ?_
  rintro e w1 ⟨rfl, rfl⟩
  go_wp2_with fail
  go_ret
  exact ⟨rfl, rfl⟩

set_option maxHeartbeats 400000 in
theorem seg_body (v : Value) (seg : Int) (w : World) (h : Nobody w v) : Calls Try.prog 17 #[v, .int .i64 seg] w fun e w' => e = .returned (.tuple #[.agg #[.int .i64 0, .int .i64 0, .int .i64 0, .int .i64 0, .int .i64 0, .int .i64 0, .int .i64 0], .bool false]) ∧ Keep (fun _ => False) w w' := by
  go_enter Try.func17, Try.ntmps17
  go_wp2_with fail
  refine (at_body v _ _ (h.keep ((Keep.refl _ _).alloc _))).mono ?_
  rintro e w1 ⟨rfl, rfl⟩
  go_wp2_with fail
  exact bodyPost_ret (v := .tuple #[.agg #[.int .i64 0, .int .i64 0, .int .i64 0, .int .i64 0, .int .i64 0, .int .i64 0, .int .i64 0], .bool false]) (by simp [results, Try.results17, go_sem]) rfl ⟨rfl, (Keep.refl _ _).alloc _⟩

set_option maxHeartbeats 400000 in
theorem give_body (v : Value) (seg : Int) (w : World) (h : Nobody w v) : Calls Try.prog 18 #[v, .int .i64 seg] w fun e w' => e = .returned (.int .i64 19) ∧ w = w' := by
  go_enter Try.func18, Try.ntmps18
  go_wp2_with fail
  refine (at_body v _ _ h).mono ?_
  rintro e w1 ⟨rfl, rfl⟩
  go_wp2_with fail
  go_ret
  exact ⟨rfl, rfl⟩

set_option maxHeartbeats 400000 in
theorem mark_body (v : Value) (seg card m : Int) (w : World) (h : Nobody w v) : Calls Try.prog 28 #[v, .int .i64 seg, .int .i64 card, .int .i64 m] w fun e w' => e = .returned (.int .i64 19) ∧ w = w' := by
  go_enter Try.func28, Try.ntmps28
  go_wp2_with fail
  refine (at_body v _ _ h).mono ?_
  rintro e w1 ⟨rfl, rfl⟩
  go_wp2_with fail
  go_ret
  exact ⟨rfl, rfl⟩

set_option maxHeartbeats 400000 in
theorem free_body (v : Value) (w : World) (h : Nobody w v) : Calls Try.prog 15 #[v] w fun e w' => e = .returned (.int .i64 0) ∧ w = w' := by
  rcases h with rfl | ⟨p, rfl, he⟩
  · go_enter Try.func15, Try.ntmps15
    go_wp2
    go_ret
    exact ⟨rfl, rfl⟩
  · obtain ⟨_, _, c2⟩ := he.cells
    go_enter Try.func15, Try.ntmps15
    go_wp2
    go_ret
    exact ⟨rfl, rfl⟩

set_option maxHeartbeats 400000 in
theorem limit_body (v : Value) (w : World) (h : Nobody w v) : Calls Try.prog 23 #[v] w fun e w' => e = .returned (.int .i64 0) ∧ w = w' := by
  rcases h with rfl | ⟨p, rfl, he⟩
  · go_enter Try.func23, Try.ntmps23
    go_wp2
    go_ret
    exact ⟨rfl, rfl⟩
  · obtain ⟨c0, _, _⟩ := he.cells
    go_enter Try.func23, Try.ntmps23
    go_wp2
    go_ret
    exact ⟨rfl, rfl⟩

set_option maxHeartbeats 400000 in
theorem copy_nil (w : World) : Calls Try.prog 26 #[.pointer none] w fun e w' => e = .returned (.pointer none) ∧ w = w' := by
  go_enter Try.func26, Try.ntmps26
  go_wp2
  go_ret
  exact ⟨rfl, rfl⟩
end Go.Proofs.Ytgnpeciedefeiaa
