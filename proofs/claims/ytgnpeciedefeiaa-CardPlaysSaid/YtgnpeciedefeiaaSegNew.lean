/-
  seg.Mem: what New and Take do.
-/
import Derived.Test.YtgnpeciedefeiaaSegOps
import Derived.Laws.MakeOwn
import Derived.StillTailTactics
namespace Go.Proofs.Ytgnpeciedefeiaa
open Go.RowKit

theorem info110 : (Try.prog.info? 110).map (fun i => (i.zero, i.size, i.bytes)) = some (some (.agg Try.zeroCells110), 72, 576) := by kernel_rfl

theorem made_cell (z : Array Value) (N i : Nat) (hi : i < N) : (madeCells z N)[i]? = some z[i % z.size]! := by
  simp [madeCells, hi]

theorem zero_cell (j : Nat) (hj : j < 72) : Try.zeroCells110[j]! = Sg.none.cell j := by
  have h : Try.zeroCells110[j]? = some (Sg.none.cell j) := by
    rw [← Array.getElem?_toList, z110]
    simp [hj]
  rw [getElem!_def, h]

theorem new_mem (w : World) (lim : Nat) :
    MemAt ((w.alloc (.cells (madeCells Try.zeroCells110 (lim * 72)) 110)).alloc (.cells #[.slice (some ⟨w.heap.size, 0, none⟩) lim lim, .int .i64 0, .int .i64 lim] 57)) (w.heap.size + 1) w.heap.size (MemV.new lim) := by
  refine ⟨⟨lim, ?_⟩, ⟨madeCells Try.zeroCells110 (lim * 72), ?_⟩, ?_⟩
  · have := heap_alloc_new (w.alloc (.cells (madeCells Try.zeroCells110 (lim * 72)) 110)) (.cells #[.slice (some ⟨w.heap.size, 0, none⟩) lim lim, .int .i64 0, .int .i64 lim] 57)
    simpa [MemV.new] using this
  · rw [Below.heap_alloc _ _ _ (by simp), heap_alloc_new]
  · intro k hk j hj
    rw [World.cell?_alloc_lt _ _ _ (by simp), World.cell?_alloc_new, made_cell _ _ _ (by have : k < lim := hk; omega), z110size, show (k * 72 + j) % 72 = j from by omega, zero_cell j hj]
    rfl

set_option maxHeartbeats 400000 in
theorem new_no (limit : Int) (w : World) (h : limit < 8 ∨ 1024 < limit) :
    Calls Try.prog 13 #[.int .i64 limit] w fun e w' => e = .returned (.tuple #[.pointer none, .int .i64 1]) ∧ w = w' := by
  by_cases a : limit < 8
  · clear h
    go_enter Try.func13, Try.ntmps13
    go_wp2
    go_ret2
    exact ⟨rfl, rfl⟩
  · have b : 1024 < limit := by omega
    clear h
    go_enter Try.func13, Try.ntmps13
    go_wp2
    go_ret2
    exact ⟨rfl, rfl⟩

set_option maxHeartbeats 400000 in
theorem new_yes (lim : Nat) (limit : Int) (w : World) (hl : limit = lim) (h8 : 8 ≤ lim) (h1024 : lim ≤ 1024) :
    Calls Try.prog 13 #[.int .i64 limit] w fun e w' => e = .returned (.tuple #[.pointer (some ⟨w.heap.size + 1, 0, none⟩), .int .i64 0]) ∧ MemAt w' (w.heap.size + 1) w.heap.size (MemV.new lim) ∧ Keep (fun _ => False) w w' := by
  subst hl
  obtain ⟨i0, hi, hz0, hz1, hz2⟩ := info_parts info110
  have hmk : ∀ W : World, (Instr.makeSlice 55 (.int .i64 (lim : Int)) (.int .i64 (lim : Int))).run Try.prog W = .ok (.slice (some ⟨W.heap.size, 0, none⟩) lim lim) (W.alloc (.cells (madeCells Try.zeroCells110 (lim * 72)) 110)) := by
    intro W
    have := run_make (P := Try.prog) W 55 110 i0 _ Try.underlying55 hi hz0 .i64 .i64 (lim : Int) (lim : Int) (by omega) (by omega) (by rw [hz2]; omega) (by omega)
    rw [hz1] at this
    simpa [Value.cells] using this
  clear hi hz0 hz1 hz2
  go_enter Try.func13, Try.ntmps13
  go_wp2
  go_ret2
  exact ⟨rfl, new_mem w lim, ((Keep.refl _ _).alloc _).alloc _⟩

set_option maxHeartbeats 400000 in
theorem take_arg (p _g : Nat) (_M : MemV) (gen kind : Int) (w : World) (h : gen < 0 ∨ 4 < gen ∨ kind < 0 ∨ 3 < kind) :
    Calls Try.prog 16 #[.pointer (some ⟨p, 0, none⟩), .int .i64 gen, .int .i64 kind] w fun e w' => e = .returned (.tuple #[.int .i64 0, .int .i64 1]) ∧ w = w' := by
  by_cases a : gen < 0
  · clear h
    go_enter Try.func16, Try.ntmps16
    go_wp2
    go_ret2
    exact ⟨rfl, rfl⟩
  · by_cases b : 4 < gen
    · clear h
      go_enter Try.func16, Try.ntmps16
      go_wp2
      go_ret2
      exact ⟨rfl, rfl⟩
    · by_cases c : kind < 0
      · clear h
        go_enter Try.func16, Try.ntmps16
        go_wp2
        go_ret2
        exact ⟨rfl, rfl⟩
      · have d : 3 < kind := by omega
        clear h
        go_enter Try.func16, Try.ntmps16
        go_wp2
        go_ret2
        exact ⟨rfl, rfl⟩

set_option maxHeartbeats 400000 in
theorem take_full (p g : Nat) (M : MemV) (gen kind : Int) (w : World) (h : MemAt w p g M) (h8 : 8 ≤ M.lim) (hl : M.lim ≤ 1024) (g0 : 0 ≤ gen) (g1 : gen ≤ 4) (k0 : 0 ≤ kind) (k1 : kind ≤ 3) (hf : M.free = 0) :
    Calls Try.prog 16 #[.pointer (some ⟨p, 0, none⟩), .int .i64 gen, .int .i64 kind] w fun e w' => e = .returned (.tuple #[.int .i64 0, .int .i64 2]) ∧ w = w' := by
  obtain ⟨cap, c0, c1, c2⟩ := h.cells
  rw [hf] at c2
  clear hf
  have hz : ((M.lim : Int) == 0) = false := by simp; omega
  go_enter Try.func16, Try.ntmps16
  go_wp2
  go_ret2
  exact ⟨rfl, rfl⟩

theorem MemAt.drew {w : World} {p g : Nat} {M : MemV} (h : MemAt w p g M) : MemAt w.drew p g M := ⟨h.head, h.segs⟩
theorem MemAt.drewN {w : World} {p g : Nat} {M : MemV} (h : MemAt w p g M) (n : Nat) : MemAt (w.drewN n) p g M := ⟨h.head, h.segs⟩
end Go.Proofs.Ytgnpeciedefeiaa
