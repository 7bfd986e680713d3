/-
  A list of calls that came in, as plain values; small laws for the walks of package morainelaw07.
-/
import Derived.Test.YtgnpeciedefeiaaSegAwake
namespace Go.Proofs.Ytgnpeciedefeiaa
open Go.RowKit

/-- A call. -/
structure ActV where
  op : Int
  a : Int
  b : Int
  c : Int
  w : Int

/-- What is in range. -/
structure ActV.Ok (x : ActV) : Prop where
  a1 : x.a ≤ 9223372036854775807
  a0 : -9223372036854775808 ≤ x.a
  b1 : x.b ≤ 9223372036854775807
  b0 : -9223372036854775808 ≤ x.b
  w0 : 0 ≤ x.w
  w1 : x.w ≤ 18446744073709551615

/-- The slice of calls lies there. -/
def ActsAt (w : World) (A : Option Addr) (len : Nat) (acts : Nat → ActV) : Prop :=
  ∀ j, j < len → ∃ b off, A = some ⟨b, off, none⟩ ∧ b < w.heap.size ∧ (acts j).Ok ∧
    w.cell? ⟨b, off + j * 5, none⟩ = some (.int .i64 (acts j).op) ∧ w.cell? ⟨b, off + j * 5 + 1, none⟩ = some (.int .i64 (acts j).a) ∧ w.cell? ⟨b, off + j * 5 + 2, none⟩ = some (.int .i64 (acts j).b) ∧
    w.cell? ⟨b, off + j * 5 + 3, none⟩ = some (.int .i64 (acts j).c) ∧ w.cell? ⟨b, off + j * 5 + 4, none⟩ = some (.int .u64 (acts j).w)

theorem ActsAt.at_ {w wr : World} {A : Option Addr} {len : Nat} {acts : Nat → ActV} (h : ActsAt w A len acts) (k : Keep (fun _ => False) w wr) {j : Nat} (hj : j < len) : ∃ b off, A = some ⟨b, off, none⟩ ∧ b < wr.heap.size ∧ (acts j).Ok ∧
    wr.cell? ⟨b, off + j * 5, none⟩ = some (.int .i64 (acts j).op) ∧ wr.cell? ⟨b, off + j * 5 + 1, none⟩ = some (.int .i64 (acts j).a) ∧ wr.cell? ⟨b, off + j * 5 + 2, none⟩ = some (.int .i64 (acts j).b) ∧
    wr.cell? ⟨b, off + j * 5 + 3, none⟩ = some (.int .i64 (acts j).c) ∧ wr.cell? ⟨b, off + j * 5 + 4, none⟩ = some (.int .u64 (acts j).w) := by
  obtain ⟨b, off, e, hb, ok, h0, h1, h2, h3, h4⟩ := h j hj
  have f := fun i => k.cell (p := ⟨b, i, none⟩) hb (by simp)
  exact ⟨b, off, e, Nat.lt_of_lt_of_le hb k.size, ok, (f _).trans h0, (f _).trans h1, (f _).trans h2, (f _).trans h3, (f _).trans h4⟩

theorem Keep.into {S : Nat → Prop} {w a b : World} (h : Keep (fun _ => False) w a) (k : Keep S a b) (hs : ∀ i, S i → w.heap.size ≤ i) : Keep (fun _ => False) w b :=
  ⟨k.os.trans h.os, k.tape.trans h.tape, k.output.trans h.output, Nat.le_trans h.size k.size, fun i hi _ => (k.block i (Nat.lt_of_lt_of_le hi h.size) (fun e => by have := hs i e; omega)).trans (h.block i hi (by simp))⟩
theorem Keep.below0 {w w' : World} (h : Keep (fun _ => False) w w') : Below w.heap.size w w' := ⟨h.os, h.tape, h.output, h.size, fun k hk => h.block k hk (by simp)⟩

/-- A block that holds a call. -/
def XAt (w : World) (b : Nat) (x : ActV) : Prop := w.heap[b]? = some (.cells #[.int .i64 x.op, .int .i64 x.a, .int .i64 x.b, .int .i64 x.c, .int .u64 x.w] 31 (0, 0))
theorem XAt.cells {w : World} {b : Nat} {x : ActV} (h : XAt w b x) : w.cell? ⟨b, 0, none⟩ = some (.int .i64 x.op) ∧ w.cell? ⟨b, 1, none⟩ = some (.int .i64 x.a) ∧ w.cell? ⟨b, 2, none⟩ = some (.int .i64 x.b) ∧ w.cell? ⟨b, 3, none⟩ = some (.int .i64 x.c) ∧ w.cell? ⟨b, 4, none⟩ = some (.int .u64 x.w) := by
  refine ⟨?_, ?_, ?_, ?_, ?_⟩ <;> (rw [cell_of_row w b _ _ _ _ h]; rfl)
theorem XAt.lt {w : World} {b : Nat} {x : ActV} (h : XAt w b x) : b < w.heap.size := by
  rcases Nat.lt_or_ge b w.heap.size with hlt | hge
  · exact hlt
  · unfold XAt at h; rw [Array.getElem?_eq_none hge] at h; cases h
theorem XAt.keep {S : Nat → Prop} {w w' : World} {b : Nat} {x : ActV} (h : XAt w b x) (k : Keep S w w') (hs : ¬ S b) : XAt w' b x := k.heap h hs
theorem XAt.new (w : World) (x : ActV) : XAt (w.alloc (.cells #[.int .i64 x.op, .int .i64 x.a, .int .i64 x.b, .int .i64 x.c, .int .u64 x.w] 31)) w.heap.size x := heap_alloc_new w _

theorem new_some (lim : Nat) (limit : Int) (w : World) (hl : limit = lim) (h8 : 8 ≤ lim) (h1024 : lim ≤ 1024) :
    Calls Try.prog 13 #[.int .i64 limit] w fun e w' => ∃ p g : Nat, e = .returned (.tuple #[.pointer (some ⟨p, 0, none⟩), .int .i64 0]) ∧ w.heap.size ≤ p ∧ w.heap.size ≤ g ∧ MemAt w' p g (MemV.new lim) ∧ Keep (fun _ => False) w w' :=
  (new_yes lim limit w hl h8 h1024).mono fun _ _ ⟨he, hm, hk⟩ => ⟨_, _, he, by omega, by omega, hm, hk⟩

theorem seg_yes2 (p g : Nat) (M : MemV) (k : Nat) (seg : Int) (w : World) (h : MemAt w p g M) (hl : M.lim ≤ 1024) (hs : seg = k) (hk : k < M.lim) (ht : 0 < (M.sg k).taken) :
    Calls Try.prog 17 #[.pointer (some ⟨p, 0, none⟩), .int .i64 seg] w fun e w' => e = .returned (.tuple #[.agg #[.int .i64 (M.sg k).gen, .int .i64 (M.sg k).kind, .int .i64 (M.sg k).n, .int .i64 (M.sg k).c0, .int .i64 (M.sg k).c1, .int .i64 (M.sg k).c2, .int .i64 (M.sg k).c3], .bool true]) ∧ Keep (fun _ => False) w w' :=
  seg_yes p g M k seg w h hl hs hk ht
/-- Of one that was just taken. -/
theorem seg_fresh (p g : Nat) (M : MemV) (k : Nat) (seg gen kind t : Int) (w : World) (h : MemAt w p g M) (hl : M.lim ≤ 1024) (hs : seg = k) (hk : k < M.lim) (he : M.sg k = Sg.fresh gen kind t) (ht : 0 < t) :
    Calls Try.prog 17 #[.pointer (some ⟨p, 0, none⟩), .int .i64 seg] w fun e w' => e = .returned (.tuple #[.agg #[.int .i64 gen, .int .i64 kind, .int .i64 0, .int .i64 5, .int .i64 5, .int .i64 5, .int .i64 5], .bool true]) ∧ Keep (fun _ => False) w w' := by
  have := seg_yes p g M k seg w h hl hs hk (by rw [he]; exact ht)
  rw [he] at this
  exact this
theorem seg_no2 (p g : Nat) (M : MemV) (seg : Int) (w : World) (h : MemAt w p g M) (hl : M.lim ≤ 1024) (h0 : ∀ k, k < M.lim → 0 ≤ (M.sg k).taken) (hn : ¬ M.has seg) :
    Calls Try.prog 17 #[.pointer (some ⟨p, 0, none⟩), .int .i64 seg] w fun e w' => e = .returned (.tuple #[.agg #[.int .i64 0, .int .i64 0, .int .i64 0, .int .i64 0, .int .i64 0, .int .i64 0, .int .i64 0], .bool false]) ∧ Keep (fun _ => False) w w' :=
  seg_no p g M seg w h hl h0 hn

theorem no_false : ¬ (fun _ : Nat => False) 0 := id

theorem mine_from {B p g : Nat} (hp : B ≤ p) (hg : B ≤ g) : ∀ i, Mine p g i → B ≤ i := by
  rintro i (rfl | rfl) <;> assumption
end Go.Proofs.Ytgnpeciedefeiaa
