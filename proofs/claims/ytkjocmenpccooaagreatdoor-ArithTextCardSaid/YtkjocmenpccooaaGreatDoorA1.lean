/-
  Numbers, by program: texts of another seat, turned to this one.
-/
import Derived.Test.YtkjocmenpccooaaGreatDoorN1
import Derived.WalkKit
import Derived.Deep.MidRow
import Derived.Below
import Derived.Deep.QuietTactic
import Derived.WalkSpells
import Derived.WalkLawsBesides
import Derived.Outline
import Derived.Lib.Hide
import Derived.Laws.MakeOwn
import Derived.StillTailTactics
namespace Go.Proofs.YtkjocmenpccooaaGreatDoor
open Go.RowKit
/-- A segment. -/
structure Sg where
  gen : Int
  kind : Int
  n : Int
  c0 : Int
  c1 : Int
  c2 : Int
  c3 : Int
  taken : Int
  words : Nat → Int
/-- The cells of a segment, 72 of them. -/
def Sg.cell (s : Sg) : Nat → Value
  | 0 => .int .i64 s.gen
  | 1 => .int .i64 s.kind
  | 2 => .int .i64 s.n
  | 3 => .int .i64 s.c0
  | 4 => .int .i64 s.c1
  | 5 => .int .i64 s.c2
  | 6 => .int .i64 s.c3
  | 7 => .int .i64 s.taken
  | j + 8 => .int .u64 (s.words j)
/-- One that is free. -/
def Sg.none : Sg := { gen := 0, kind := 0, n := 0, c0 := 0, c1 := 0, c2 := 0, c3 := 0, taken := 0, words := fun _ => 0 }
/-- A memory: how many segments, how often one was taken, how many are free, the segments. -/
structure MemV where
  lim : Nat
  count : Int
  free : Int
  sg : Nat → Sg
namespace Keep
variable {S S' : Nat → Prop} {w w' w'' : World}
theorem setCells (h : Keep S w w') {b : Nat} (hp : S b ∨ w.heap.size ≤ b) : ∀ (vs : List Value) (o : Nat), Keep S w (w'.setCells b o vs) := by
  intro vs
  induction vs generalizing w' with
  | nil => intro o; exact h
  | cons v vs ih => intro o; exact ih (h.setCell (p := ⟨b, o, none⟩) hp v) (o + 1)
end Keep
/-- The segments lie in block g. -/
def SegsAt (w : World) (g lim : Nat) (sg : Nat → Sg) : Prop :=
  (∃ c, w.heap[g]? = some (.cells c 231 (0, 0))) ∧ ∀ k, k < lim → ∀ j, j < 72 → w.cell? ⟨g, k * 72 + j, none⟩ = some ((sg k).cell j)
/-- The memory M lies at block p, its segments in block g. -/
structure MemAt (w : World) (p g : Nat) (M : MemV) : Prop where
  head : ∃ cap, w.heap[p]? = some (.cells #[.slice (some ⟨g, 0, none⟩) M.lim cap, .int .i64 M.count, .int .i64 M.free] 184 (0, 0))
  segs : SegsAt w g M.lim M.sg
theorem SegsAt.of_block {w w' : World} {g lim : Nat} {sg : Nat → Sg} (h : SegsAt w g lim sg) (e : w'.heap[g]? = w.heap[g]?) : SegsAt w' g lim sg :=
  ⟨by rw [e]; exact h.1, fun k hk j hj => (World.cell?_of_block (w := w) (a := ⟨g, k * 72 + j, none⟩) e).trans (h.2 k hk j hj)⟩
theorem SegsAt.lt {w : World} {g lim : Nat} {sg : Nat → Sg} (h : SegsAt w g lim sg) : g < w.heap.size := by
  obtain ⟨c, hc⟩ := h.1
  rcases Nat.lt_or_ge g w.heap.size with hlt | hge
  · exact hlt
  · rw [Array.getElem?_eq_none hge] at hc; cases hc
theorem SegsAt.frozen {w : World} {g lim : Nat} {sg : Nat → Sg} (h : SegsAt w g lim sg) (i : Nat) : w.frozen? ⟨g, i, none⟩ = false := by
  obtain ⟨c, hc⟩ := h.1
  simp [World.frozen?, hc]
theorem MemAt.lt {w : World} {p g : Nat} {M : MemV} (h : MemAt w p g M) : p < w.heap.size := by
  obtain ⟨c, hc⟩ := h.head
  rcases Nat.lt_or_ge p w.heap.size with hlt | hge
  · exact hlt
  · rw [Array.getElem?_eq_none hge] at hc; cases hc
theorem MemAt.ne {w : World} {p g : Nat} {M : MemV} (h : MemAt w p g M) : p ≠ g := by
  rintro rfl
  obtain ⟨c, hc⟩ := h.head
  obtain ⟨⟨d, hd⟩, _⟩ := h.segs
  rw [hc] at hd
  injection hd with hd
  injection hd with _ hd
  exact absurd hd (by decide)
theorem MemAt.cells {w : World} {p g : Nat} {M : MemV} (h : MemAt w p g M) : ∃ cap, w.cell? ⟨p, 0, none⟩ = some (.slice (some ⟨g, 0, none⟩) M.lim cap) ∧ w.cell? ⟨p, 1, none⟩ = some (.int .i64 M.count) ∧ w.cell? ⟨p, 2, none⟩ = some (.int .i64 M.free) := by
  obtain ⟨c, hc⟩ := h.head
  exact ⟨c, by rw [cell_of_row w p 0 _ _ _ hc]; rfl, by rw [cell_of_row w p 1 _ _ _ hc]; rfl, by rw [cell_of_row w p 2 _ _ _ hc]; rfl⟩
theorem MemAt.frozen {w : World} {p g : Nat} {M : MemV} (h : MemAt w p g M) (i : Nat) : w.frozen? ⟨p, i, none⟩ = false := by
  obtain ⟨c, hc⟩ := h.head
  simp [World.frozen?, hc]
/-- A memory stays where neither of its blocks is written. -/
theorem MemAt.keep {S : Nat → Prop} {w w' : World} {p g : Nat} {M : MemV} (h : MemAt w p g M) (k : Keep S w w') (hp : ¬ S p) (hg : ¬ S g) : MemAt w' p g M :=
  ⟨by obtain ⟨c, hc⟩ := h.head; exact ⟨c, by rw [k.block p h.lt hp]; exact hc⟩, h.segs.of_block (k.block g h.segs.lt hg)⟩
open Go.RowKit
/-- The memory with another segment in the place k. -/
def MemV.put (M : MemV) (k : Nat) (s : Sg) : MemV := { M with sg := fun i => if i = k then s else M.sg i }
/-- The segment with the word at j written. -/
def Sg.write (s : Sg) (j : Nat) (u : Int) : Sg := { s with words := fun i => if i = j then u else s.words i }
/-- A memory as New makes it. -/
def MemV.new (lim : Nat) : MemV := { lim := lim, count := 0, free := lim, sg := fun _ => Sg.none }
/-- A segment as Take makes it. -/
def Sg.fresh (gen kind taken : Int) : Sg := { gen := gen, kind := kind, n := 0, c0 := 5, c1 := 5, c2 := 5, c3 := 5, taken := taken, words := fun _ => 0 }
/-- The memory behind a take of k. -/
def MemV.took (M : MemV) (k : Nat) (gen kind : Int) : MemV := { M.put k (Sg.fresh gen kind (M.count + 1)) with count := M.count + 1, free := M.free - 1 }
/-- The memory behind a bump of k by n. -/
def MemV.bumped (M : MemV) (k : Nat) (n : Int) : MemV := M.put k { M.sg k with n := (M.sg k).n + n }
/-- How many of the first m are free. -/
def frees (sg : Nat → Sg) : Nat → Nat
  | 0 => 0
  | m + 1 => frees sg m + if (sg m).taken = 0 then 1 else 0
theorem frees_congr (f h : Nat → Sg) : ∀ m, (∀ i, i < m → ((f i).taken = 0 ↔ (h i).taken = 0)) → frees f m = frees h m
  | 0, _ => rfl
  | m + 1, e => by
    have ih := frees_congr f h m (fun i hi => e i (by omega))
    have h1 := e m (by omega)
    simp only [frees, ih]
    by_cases a : (f m).taken = 0
    · rw [if_pos a, if_pos (h1.1 a)]
    · rw [if_neg a, if_neg (fun x => a (h1.2 x))]
theorem frees_le (f : Nat → Sg) : ∀ m, frees f m ≤ m
  | 0 => Nat.le_refl _
  | m + 1 => by
    have := frees_le f m
    simp only [frees]
    split <;> omega
theorem frees_put (f : Nat → Sg) (k : Nat) (s : Sg) : ∀ m, k < m →
    frees (fun i => if i = k then s else f i) m + (if (f k).taken = 0 then 1 else 0) = frees f m + (if s.taken = 0 then 1 else 0)
  | 0, h => by omega
  | m + 1, h => by
    by_cases e : k = m
    · subst e
      have := frees_congr (fun i => if i = k then s else f i) f k (fun i hi => by simp [show i ≠ k from by omega])
      simp only [frees, this, if_true]
      omega
    · have ih := frees_put f k s m (by omega)
      simp only [frees, if_neg (show ¬ m = k from by omega)]
      omega
theorem frees_pos (f : Nat → Sg) : ∀ m i, i < m → (f i).taken = 0 → 0 < frees f m
  | 0, _, h, _ => by omega
  | m + 1, i, h, e => by
    simp only [frees]
    by_cases a : i = m
    · subst a; rw [if_pos e]; omega
    · have := frees_pos f m i (by omega) e; omega
/-- Where one is free there is a least one. -/
theorem frees_least (f : Nat → Sg) : ∀ m, 0 < frees f m → ∃ k, k < m ∧ (f k).taken = 0 ∧ ∀ i, i < k → (f i).taken ≠ 0
  | 0, h => by simp [frees] at h
  | m + 1, h => by
    by_cases a : 0 < frees f m
    · obtain ⟨k, hk, h1, h2⟩ := frees_least f m a
      exact ⟨k, by omega, h1, h2⟩
    · simp only [frees] at h
      refine ⟨m, by omega, ?_, ?_⟩
      · by_cases b : (f m).taken = 0
        · exact b
        · rw [if_neg b] at h; omega
      · intro i hi b
        exact a (frees_pos f m i hi b)
/-- What holds of one segment. -/
structure Sg.Ok (s : Sg) : Prop where
  g0 : 0 ≤ s.gen
  g4 : s.gen ≤ 4
  k0 : 0 ≤ s.kind
  k3 : s.kind ≤ 3
  n0 : 0 ≤ s.n
  n64 : s.n ≤ 64
  a0 : 0 ≤ s.c0 ∧ s.c0 ≤ 5
  a1 : 0 ≤ s.c1 ∧ s.c1 ≤ 5
  a2 : 0 ≤ s.c2 ∧ s.c2 ≤ 5
  a3 : 0 ≤ s.c3 ∧ s.c3 ≤ 5
  w0 : ∀ j, 0 ≤ s.words j ∧ s.words j ≤ 18446744073709551615
  wz : ∀ j : Nat, s.n ≤ j → s.words j = 0
theorem word_zero : (0 : Int) ≤ 0 ∧ (0 : Int) ≤ 18446744073709551615 := ⟨by decide, by decide⟩
theorem Sg.Ok.none : Sg.none.Ok := ⟨by decide, by decide, by decide, by decide, by decide, by decide, by decide, by decide, by decide, by decide, fun _ => word_zero, fun _ _ => rfl⟩
theorem Sg.Ok.fresh {gen kind t : Int} (h0 : 0 ≤ gen) (h1 : gen ≤ 4) (h2 : 0 ≤ kind) (h3 : kind ≤ 3) : (Sg.fresh gen kind t).Ok :=
  have z : (0 : Int) ≤ 0 ∧ (0 : Int) ≤ 64 := by decide
  have f : (0 : Int) ≤ 5 ∧ (5 : Int) ≤ 5 := by decide
  ⟨h0, h1, h2, h3, z.1, z.2, f, f, f, f, fun _ => word_zero, fun _ _ => rfl⟩
theorem Sg.Ok.bump {s : Sg} (h : s.Ok) {n : Int} (h1 : 1 ≤ n) (h2 : n ≤ 64 - s.n) : ({ s with n := s.n + n } : Sg).Ok :=
  ⟨h.g0, h.g4, h.k0, h.k3, by have := h.n0; show 0 ≤ s.n + n; omega, by show s.n + n ≤ 64; omega, h.a0, h.a1, h.a2, h.a3, h.w0, fun j hj => h.wz j (by have : s.n + n ≤ j := hj; omega)⟩
theorem Sg.Ok.write {s : Sg} (h : s.Ok) {j : Nat} {u : Int} (hj : (j : Int) < s.n) (h0 : 0 ≤ u) (h1 : u ≤ 18446744073709551615) : (s.write j u).Ok :=
  ⟨h.g0, h.g4, h.k0, h.k3, h.n0, h.n64, h.a0, h.a1, h.a2, h.a3, fun i => by
    simp only [Sg.write]
    split
    · exact ⟨h0, h1⟩
    · exact h.w0 i, fun i hi => by
    simp only [Sg.write]
    rw [if_neg (by have : s.n ≤ i := hi; omega)]
    exact h.wz i hi⟩
/-- What holds of a memory that New has made, behind whatever calls. -/
structure MemV.Ok (M : MemV) : Prop where
  l8 : 8 ≤ M.lim
  l1024 : M.lim ≤ 1024
  c0 : 0 ≤ M.count
  fr : M.free = frees M.sg M.lim
  t0 : ∀ k, k < M.lim → 0 ≤ (M.sg k).taken
  t1 : ∀ k, k < M.lim → (M.sg k).taken ≤ M.count
  un : ∀ i k, i < M.lim → k < M.lim → 0 < (M.sg i).taken → (M.sg i).taken = (M.sg k).taken → i = k
  sg : ∀ k, k < M.lim → (M.sg k).Ok
  no : ∀ k, k < M.lim → (M.sg k).taken = 0 → M.sg k = Sg.none
theorem MemV.Ok.f0 {M : MemV} (h : M.Ok) : 0 ≤ M.free := by rw [h.fr]; omega
theorem MemV.Ok.f1 {M : MemV} (h : M.Ok) : M.free ≤ M.lim := by rw [h.fr]; have := frees_le M.sg M.lim; omega
theorem MemV.Ok.new {lim : Nat} (h8 : 8 ≤ lim) (h1024 : lim ≤ 1024) : (MemV.new lim).Ok := by
  have hf : ∀ m, frees (fun _ => Sg.none) m = m := by
    intro m
    induction m with
    | zero => rfl
    | succ m ih => rw [frees, ih, if_pos (show Sg.none.taken = 0 from rfl)]
  refine ⟨h8, h1024, by simp [MemV.new], ?_, ?_, ?_, ?_, fun _ _ => Sg.Ok.none, fun _ _ _ => rfl⟩
  · show (lim : Int) = frees (fun _ => Sg.none) lim
    rw [hf]
  · intro k _; simp [MemV.new, Sg.none]
  · intro k _; simp [MemV.new, Sg.none]
  · intro i k _ _ h _; simp [MemV.new, Sg.none] at h
/-- Another segment in the place of one that is taken, as it was taken. -/
theorem MemV.Ok.put {M : MemV} (h : M.Ok) {k : Nat} (_hk : k < M.lim) {s : Sg} (hs : s.Ok) (ht : s.taken = (M.sg k).taken) (hp : 0 < (M.sg k).taken) : (M.put k s).Ok := by
  refine ⟨h.l8, h.l1024, h.c0, ?_, ?_, ?_, ?_, ?_, ?_⟩
  · show M.free = frees _ M.lim
    rw [h.fr, frees_congr M.sg (M.put k s).sg M.lim]
    intro i hi
    simp only [MemV.put]
    split
    · rename_i e; subst e; rw [ht]
    · exact Iff.rfl
  · intro i hi
    simp only [MemV.put]
    split
    · rw [ht]; omega
    · exact h.t0 i hi
  · intro i hi
    simp only [MemV.put]
    split
    · rename_i e; subst e; rw [ht]; exact h.t1 i hi
    · exact h.t1 i hi
  · intro i j hi hj
    have e1 : ((M.put k s).sg i).taken = (M.sg i).taken := by
      simp only [MemV.put]
      split
      · rename_i e; subst e; exact ht
      · rfl
    have e2 : ((M.put k s).sg j).taken = (M.sg j).taken := by
      simp only [MemV.put]
      split
      · rename_i e; subst e; exact ht
      · rfl
    rw [e1, e2]
    exact h.un i j hi hj
  · intro i hi
    simp only [MemV.put]
    split
    · exact hs
    · exact h.sg i hi
  · intro i hi
    simp only [MemV.put]
    split
    · intro e; rw [ht] at e; omega
    · exact h.no i hi
theorem MemV.Ok.took {M : MemV} (h : M.Ok) {k : Nat} (hk : k < M.lim) (hz : (M.sg k).taken = 0) {gen kind : Int} (h0 : 0 ≤ gen) (h1 : gen ≤ 4) (h2 : 0 ≤ kind) (h3 : kind ≤ 3) : (M.took k gen kind).Ok := by
  have hc := h.c0
  refine ⟨h.l8, h.l1024, by show 0 ≤ M.count + 1; omega, ?_, ?_, ?_, ?_, ?_, ?_⟩
  · have := frees_put M.sg k (Sg.fresh gen kind (M.count + 1)) M.lim hk
    rw [if_pos hz, if_neg (by show ¬ M.count + 1 = 0; omega)] at this
    show M.free - 1 = frees (fun i => if i = k then Sg.fresh gen kind (M.count + 1) else M.sg i) M.lim
    rw [h.fr]
    omega
  · intro i hi
    simp only [MemV.took, MemV.put]
    split
    · show 0 ≤ M.count + 1; omega
    · exact h.t0 i hi
  · intro i hi
    simp only [MemV.took, MemV.put]
    split
    · exact Int.le_refl _
    · have := h.t1 i hi; omega
  · intro i j hi hj
    simp only [MemV.took, MemV.put]
    split
    · split
      · intro _ _; omega
      · intro _ e
        have := h.t1 j hj
        have e' : M.count + 1 = (M.sg j).taken := e
        omega
    · split
      · intro _ e
        have := h.t1 i hi
        have e' : (M.sg i).taken = M.count + 1 := e
        omega
      · exact h.un i j hi hj
  · intro i hi
    simp only [MemV.took, MemV.put]
    split
    · exact Sg.Ok.fresh h0 h1 h2 h3
    · exact h.sg i hi
  · intro i hi
    simp only [MemV.took, MemV.put]
    split
    · intro e
      have e' : M.count + 1 = 0 := e
      omega
    · exact h.no i hi
theorem MemV.Ok.bumped {M : MemV} (h : M.Ok) {k : Nat} (hk : k < M.lim) (hz : 0 < (M.sg k).taken) {n : Int} (h1 : 1 ≤ n) (h2 : n ≤ 64 - (M.sg k).n) : (M.bumped k n).Ok :=
  h.put hk ((h.sg k hk).bump h1 h2) rfl hz
open Go.RowKit
set_option maxRecDepth 100000 in
set_option maxHeartbeats 400000 in
theorem at_yes (p g : Nat) (M : MemV) (k : Nat) (seg : Int) (w : World) (h : MemAt w p g M) (_hl : M.lim ≤ 1024) (hs : seg = k) (hk : k < M.lim) (ht : 0 < (M.sg k).taken) :
    Calls Tryz.prog 167 #[.pointer (some ⟨p, 0, none⟩), .int .i64 seg] w fun e w' => e = .returned (.pointer (some ⟨g, k * 72, none⟩)) ∧ w = w' := by
  subst hs
  obtain ⟨cap, h0, h1, h2⟩ := h.cells
  have h7 := h.segs.2 k hk 7 (by omega)
  have hb : ((M.sg k).taken == 0) = false := by simp; omega
  simp only [Sg.cell] at h7
  go_enter Tryz.func167, Tryz.ntmps167
  go_wp2
  go_ret
  exact ⟨rfl, rfl⟩
set_option maxRecDepth 100000 in
set_option maxHeartbeats 400000 in
theorem word_yes (p g : Nat) (M : MemV) (a : Nat) (addr : Int) (w : World) (h : MemAt w p g M) (hl : M.lim ≤ 1024) (hs : addr = a) (hk : a / 64 < M.lim) (ht : 0 < (M.sg (a / 64)).taken)
    (hn : ((a % 64 : Nat) : Int) < (M.sg (a / 64)).n) (hn' : (M.sg (a / 64)).n ≤ 64) :
    Calls Tryz.prog 138 #[.pointer (some ⟨p, 0, none⟩), .int .i64 addr] w fun e w' => e = .returned (.pointer (some ⟨g, a / 64 * 72 + 8 + a % 64, none⟩)) ∧ w = w' := by
  subst hs
  obtain ⟨cap, h0, h1, h2⟩ := h.cells
  have h7 := h.segs.2 (a / 64) hk 2 (by omega)
  simp only [Sg.cell] at h7
  have hm : a % 64 < 64 := Nat.mod_lt _ (by omega)
  have hA : a ≤ 65536 := by omega
  go_enter Tryz.func138, Tryz.ntmps138
  go_wp2_with (go_at_call 167; refine (at_yes p g M (a / 64) _ w h hl (by omega) hk ht).mono ?_; rintro e w' ⟨rfl, rfl⟩)
  go_ret
  exact ⟨rfl, rfl⟩
set_option maxRecDepth 100000 in
set_option maxHeartbeats 400000 in
theorem read_yes (p g : Nat) (M : MemV) (a : Nat) (addr : Int) (w : World) (h : MemAt w p g M) (hl : M.lim ≤ 1024) (hs : addr = a) (hk : a / 64 < M.lim) (ht : 0 < (M.sg (a / 64)).taken)
    (hn : ((a % 64 : Nat) : Int) < (M.sg (a / 64)).n) (hn' : (M.sg (a / 64)).n ≤ 64) :
    Calls Tryz.prog 105 #[.pointer (some ⟨p, 0, none⟩), .int .i64 addr] w fun e w' => e = .returned (.tuple #[.int .u64 ((M.sg (a / 64)).words (a % 64)), .int .i64 0]) ∧ w = w' := by
  subst hs
  have h7 := h.segs.2 (a / 64) hk (a % 64 + 8) (by omega)
  simp only [Sg.cell] at h7
  rw [show a / 64 * 72 + (a % 64 + 8) = a / 64 * 72 + 8 + a % 64 from by omega] at h7
  go_enter Tryz.func105, Tryz.ntmps105
  go_wp2_with (go_at_call 138; refine (word_yes p g M a _ w h hl rfl hk ht hn hn').mono ?_; rintro e w' ⟨rfl, rfl⟩)
  go_ret2
  exact ⟨rfl, rfl⟩
/-- A store into one cell of a segment. -/
theorem MemAt.setCell {w : World} {p g : Nat} {M : MemV} (h : MemAt w p g M) (k j : Nat) (hk : k < M.lim) (hj : j < 72) (s : Sg) (u : Value) (hu : s.cell j = u) (ho : ∀ i, i < 72 → i ≠ j → s.cell i = (M.sg k).cell i) :
    MemAt (w.setCell ⟨g, k * 72 + j, none⟩ u) p g (M.put k s) := by
  refine ⟨?_, ?_, ?_⟩
  · obtain ⟨c, hc⟩ := h.head
    exact ⟨c, by rw [Below.heap_setCell _ _ _ _ h.ne]; exact hc⟩
  · obtain ⟨c, hc⟩ := h.segs.1
    exact ⟨c.setIfInBounds (k * 72 + j) u, by simp [World.setCell, Array.getElem?_modify, hc]⟩
  · intro k' hk' j' hj'
    have hk'' : k' < M.lim := hk'
    by_cases e : k' * 72 + j' = k * 72 + j
    · have e1 : k' = k := by omega
      have e2 : j' = j := by omega
      subst e1 e2
      rw [World.cell?_setCell_same _ _ _ (h.segs.2 k' hk j' hj)]
      simp [MemV.put, hu]
    · rw [World.cell?_setCell_other _ _ _ _ (by intro e'; injection e' with _ e' _; omega), h.segs.2 k' hk'' j' hj']
      by_cases e1 : k' = k
      · subst e1
        simp [MemV.put, ho j' hj' (by omega)]
      · simp [MemV.put, e1]
theorem Sg.write_cell (s : Sg) (j : Nat) (u : Int) : (s.write j u).cell (j + 8) = .int .u64 u := by simp [Sg.write, Sg.cell]
theorem Sg.write_other (s : Sg) (j : Nat) (u : Int) (i : Nat) (h : i ≠ j + 8) : (s.write j u).cell i = s.cell i := by
  match i with
  | 0 | 1 | 2 | 3 | 4 | 5 | 6 | 7 => rfl
  | i + 8 => simp [Sg.write, Sg.cell]; intro e; omega
/-- What is kept by a call upon a memory: all but its two blocks. -/
abbrev Mine (p g : Nat) : Nat → Prop := fun b => b = p ∨ b = g
set_option maxRecDepth 100000 in
set_option maxHeartbeats 400000 in
theorem write_yes (p g : Nat) (M : MemV) (a : Nat) (addr u : Int) (w : World) (h : MemAt w p g M) (hl : M.lim ≤ 1024) (hs : addr = a) (hk : a / 64 < M.lim) (ht : 0 < (M.sg (a / 64)).taken)
    (hn : ((a % 64 : Nat) : Int) < (M.sg (a / 64)).n) (hn' : (M.sg (a / 64)).n ≤ 64) :
    Calls Tryz.prog 102 #[.pointer (some ⟨p, 0, none⟩), .int .i64 addr, .int .u64 u] w fun e w' => e = .returned (.int .i64 0) ∧ MemAt w' p g (M.put (a / 64) ((M.sg (a / 64)).write (a % 64) u)) ∧ Keep (Mine p g) w w' := by
  subst hs
  have h7 := h.segs.2 (a / 64) hk (a % 64 + 8) (by omega)
  simp only [Sg.cell] at h7
  rw [show a / 64 * 72 + (a % 64 + 8) = a / 64 * 72 + 8 + a % 64 from by omega] at h7
  have hf := h.segs.frozen (a / 64 * 72 + 8 + a % 64)
  go_enter Tryz.func102, Tryz.ntmps102
  go_wp2_with (go_at_call 138; refine (word_yes p g M a _ w h hl rfl hk ht hn hn').mono ?_; rintro e w' ⟨rfl, rfl⟩)
  go_ret
  exact ⟨rfl, by have := h.setCell (a / 64) (a % 64 + 8) hk (by omega) _ _ (Sg.write_cell (M.sg (a / 64)) (a % 64) u) (fun i _ hi => Sg.write_other _ _ _ _ hi); rwa [show a / 64 * 72 + (a % 64 + 8) = a / 64 * 72 + 8 + a % 64 from by omega] at this, (Keep.refl _ _).setCell (.inl (.inr rfl)) _⟩
open Go.RowKit
set_option maxRecDepth 100000 in
set_option maxHeartbeats 400000 in
theorem bump_yes (p g : Nat) (M : MemV) (k : Nat) (seg n : Int) (w : World) (h : MemAt w p g M) (hl : M.lim ≤ 1024) (hs : seg = k) (hk : k < M.lim) (ht : 0 < (M.sg k).taken)
    (hn0 : 0 ≤ (M.sg k).n) (hn1 : 1 ≤ n) (hn2 : n ≤ 64 - (M.sg k).n) :
    Calls Tryz.prog 136 #[.pointer (some ⟨p, 0, none⟩), .int .i64 seg, .int .i64 n] w fun e w' => e = .returned (.tuple #[.int .i64 (k * 64 + (M.sg k).n), .int .i64 0]) ∧ MemAt w' p g (M.bumped k n) ∧ Keep (Mine p g) w w' := by
  subst hs
  have h7 := h.segs.2 k hk 2 (by omega)
  simp only [Sg.cell] at h7
  have hf := h.segs.frozen (k * 72 + 2)
  go_enter Tryz.func136, Tryz.ntmps136
  go_wp2_with (go_at_call 167; refine (at_yes p g M k _ w h hl rfl hk ht).mono ?_; rintro e w' ⟨rfl, rfl⟩)
  go_ret2
  refine ⟨?_, h.setCell k 2 hk (by omega) _ _ rfl ?_, (Keep.refl _ _).setCell (.inl (.inr rfl)) _⟩
  · rw [show (k : Int) * 64 + ((M.sg k).n + n) - n = k * 64 + (M.sg k).n from by omega]
    rfl
  · intro i hi hi2
    match i with
    | 0 | 1 | 3 | 4 | 5 | 6 | 7 => rfl
    | 2 => exact absurd rfl hi2
    | i + 8 => rfl
/-- A whole segment is stored. -/
theorem MemAt.setCells {w : World} {p g : Nat} {M : MemV} (h : MemAt w p g M) (k : Nat) (hk : k < M.lim) (s : Sg) (vs : List Value) (hv : vs = (List.range 72).map s.cell) :
    MemAt (w.setCells g (k * 72) vs) p g (M.put k s) := by
  have hlen : vs.length = 72 := by rw [hv]; simp
  have hK : Keep (fun b => b = g) w (w.setCells g (k * 72) vs) := (Keep.refl (fun b => b = g) _).setCells (.inl rfl) _ _
  refine ⟨?_, ?_, ?_⟩
  · obtain ⟨c, hc⟩ := h.head
    exact ⟨c, by rw [hK.block p h.lt h.ne]; exact hc⟩
  · have hb : ∀ (vs : List Value) (o : Nat) (w : World), (∃ c, w.heap[g]? = some (.cells c 231 (0, 0))) → ∃ c, (w.setCells g o vs).heap[g]? = some (.cells c 231 (0, 0)) := by
      intro vs
      induction vs with
      | nil => intro o w h; exact h
      | cons v vs ih =>
        intro o w ⟨c, hc⟩
        exact ih (o + 1) _ ⟨c.setIfInBounds o v, by simp [World.setCell, Array.getElem?_modify, hc]⟩
    exact hb vs _ w h.segs.1
  · intro k' hk' j' hj'
    have hk'' : k' < M.lim := hk'
    by_cases e1 : k' = k
    · subst e1
      rw [World.cell?_setCells_in g vs (k' * 72) w (fun i hi => by rw [h.segs.2 k' hk'' i (by omega)]; rfl) j' (by omega)]
      subst hv
      simp [MemV.put]
    · rw [World.cell?_setCells_out g vs (k * 72) w ⟨g, k' * 72 + j', none⟩ (fun _ _ => by
        show k' * 72 + j' < k * 72 ∨ k * 72 + vs.length ≤ k' * 72 + j'
        omega), h.segs.2 k' hk'' j' hj']
      simp [MemV.put, e1]
/-- A store into the head's count of those that are free, or its count of takes. -/
theorem MemAt.setFree {w : World} {p g : Nat} {M : MemV} (h : MemAt w p g M) (f : Int) : MemAt (w.setCell ⟨p, 2, none⟩ (.int .i64 f)) p g { M with free := f } := by
  refine ⟨?_, h.segs.of_block (Below.heap_setCell _ _ _ _ h.ne.symm)⟩
  obtain ⟨c, hc⟩ := h.head
  exact ⟨c, by simp [World.setCell, Array.getElem?_modify, hc]⟩
theorem MemAt.setCount {w : World} {p g : Nat} {M : MemV} (h : MemAt w p g M) (f : Int) : MemAt (w.setCell ⟨p, 1, none⟩ (.int .i64 f)) p g { M with count := f } := by
  refine ⟨?_, h.segs.of_block (Below.heap_setCell _ _ _ _ h.ne.symm)⟩
  obtain ⟨c, hc⟩ := h.head
  exact ⟨c, by simp [World.setCell, Array.getElem?_modify, hc]⟩
theorem MemAt.there {w : World} {p g : Nat} {M : MemV} (h : MemAt w p g M) (k : Nat) (hk : k < M.lim) : w.there g (k * 72) 72 :=
  fun j hj => ⟨by rw [h.segs.2 k hk j hj]; rfl, h.segs.frozen _⟩
theorem z110size : Tryz.zeroCells231.size = 72 := by kernel_rfl
theorem z110 : Tryz.zeroCells231.toList = (List.range 72).map Sg.none.cell := by kernel_rfl
theorem i110 : (Tryz.prog.info? 231).map (·.size) = some Tryz.zeroCells231.size := by kernel_rfl
/-- What a store of a whole segment leaves, of a world that is a letter. -/
theorem stored_seg {w : World} {p g : Nat} {M : MemV} (h : MemAt w p g M) (k : Nat) (hk : k < M.lim) (s : Sg) (vs : List Value) (hv : vs = (List.range 72).map s.cell) (R : World → Prop)
    (hR : ∀ w1, MemAt w1 p g (M.put k s) → Keep (Mine p g) w w1 → R w1) : R (w.setCells g (k * 72) vs) :=
  hR _ (h.setCells k hk s vs hv) ((Keep.refl _ _).setCells (.inl (.inr rfl)) _ _)
set_option maxRecDepth 100000 in
set_option maxHeartbeats 400000 in
theorem bump_full (p g : Nat) (M : MemV) (k : Nat) (seg n : Int) (w : World) (h : MemAt w p g M) (hl : M.lim ≤ 1024) (hs : seg = k) (hk : k < M.lim) (ht : 0 < (M.sg k).taken)
    (hn0 : 0 ≤ (M.sg k).n) (hn3 : (M.sg k).n ≤ 64) (hn1 : 1 ≤ n) (hn2 : 64 - (M.sg k).n < n) :
    Calls Tryz.prog 136 #[.pointer (some ⟨p, 0, none⟩), .int .i64 seg, .int .i64 n] w fun e w' => e = .returned (.tuple #[.int .i64 0, .int .i64 2]) ∧ w = w' := by
  subst hs
  have h7 := h.segs.2 k hk 2 (by omega)
  simp only [Sg.cell] at h7
  go_enter Tryz.func136, Tryz.ntmps136
  go_wp2_with (go_at_call 167; refine (at_yes p g M k _ w h hl rfl hk ht).mono ?_; rintro e w' ⟨rfl, rfl⟩)
  go_ret2
  exact ⟨rfl, rfl⟩
/-- What is told of a segment, as a value. -/
def Sg.api (s : Sg) : Value := .agg #[.int .i64 s.gen, .int .i64 s.kind, .int .i64 s.n, .int .i64 s.c0, .int .i64 s.c1, .int .i64 s.c2, .int .i64 s.c3]
set_option maxRecDepth 100000 in
set_option maxHeartbeats 400000 in
theorem seg_yes (p g : Nat) (M : MemV) (k : Nat) (seg : Int) (w : World) (h : MemAt w p g M) (hl : M.lim ≤ 1024) (hs : seg = k) (hk : k < M.lim) (ht : 0 < (M.sg k).taken) :
    Calls Tryz.prog 142 #[.pointer (some ⟨p, 0, none⟩), .int .i64 seg] w fun e w' => e = .returned (.tuple #[(M.sg k).api, .bool true]) ∧ Keep (fun _ => False) w w' := by
  subst hs
  have q0 := h.segs.2 k hk 0 (by omega)
  have q1 := h.segs.2 k hk 1 (by omega)
  have q2 := h.segs.2 k hk 2 (by omega)
  have q3 := h.segs.2 k hk 3 (by omega)
  have q4 := h.segs.2 k hk 4 (by omega)
  have q5 := h.segs.2 k hk 5 (by omega)
  have q6 := h.segs.2 k hk 6 (by omega)
  simp only [Sg.cell, Nat.add_zero] at q0 q1 q2 q3 q4 q5 q6
  have hg := h.segs.lt
  have hg1 : ¬ g = w.heap.size := by omega
  have hg2 : ¬ w.heap.size = g := by omega
  go_enter Tryz.func142, Tryz.ntmps142
  go_wp2_with (go_at_call 167; refine (at_yes p g M k _ _ (h.keep ((Keep.refl (fun _ => False) w).alloc _) (by simp) (by simp)) hl rfl hk ht).mono ?_; rintro e w' ⟨rfl, rfl⟩)
  exact bodyPost_ret (v := .tuple #[(M.sg k).api, .bool true]) (by simp [results, Tryz.results142, go_sem, Sg.api]) rfl ⟨rfl, (Keep.refl _ _).alloc _⟩
open Go.RowKit
theorem info110 : (Tryz.prog.info? 231).map (fun i => (i.zero, i.size, i.bytes)) = some (some (.agg Tryz.zeroCells231), 72, 576) := by kernel_rfl
theorem made_cell (z : Array Value) (N i : Nat) (hi : i < N) : (madeCells z N)[i]? = some z[i % z.size]! := by
  simp [madeCells, hi]
theorem zero_cell (j : Nat) (hj : j < 72) : Tryz.zeroCells231[j]! = Sg.none.cell j := by
  have h : Tryz.zeroCells231[j]? = some (Sg.none.cell j) := by
    rw [← Array.getElem?_toList, z110]
    simp [hj]
  rw [getElem!_def, h]
theorem new_mem (w : World) (lim : Nat) :
    MemAt ((w.alloc (.cells (madeCells Tryz.zeroCells231 (lim * 72)) 231)).alloc (.cells #[.slice (some ⟨w.heap.size, 0, none⟩) lim lim, .int .i64 0, .int .i64 lim] 184)) (w.heap.size + 1) w.heap.size (MemV.new lim) := by
  refine ⟨⟨lim, ?_⟩, ⟨madeCells Tryz.zeroCells231 (lim * 72), ?_⟩, ?_⟩
  · have := heap_alloc_new (w.alloc (.cells (madeCells Tryz.zeroCells231 (lim * 72)) 231)) (.cells #[.slice (some ⟨w.heap.size, 0, none⟩) lim lim, .int .i64 0, .int .i64 lim] 184)
    simpa [MemV.new] using this
  · rw [Below.heap_alloc _ _ _ (by simp), heap_alloc_new]
  · intro k hk j hj
    rw [World.cell?_alloc_lt _ _ _ (by simp), World.cell?_alloc_new, made_cell _ _ _ (by have : k < lim := hk; omega), z110size, show (k * 72 + j) % 72 = j from by omega, zero_cell j hj]
    rfl
set_option maxRecDepth 100000 in
set_option maxHeartbeats 400000 in
theorem new_yes (lim : Nat) (limit : Int) (w : World) (hl : limit = lim) (h8 : 8 ≤ lim) (h1024 : lim ≤ 1024) :
    Calls Tryz.prog 90 #[.int .i64 limit] w fun e w' => e = .returned (.tuple #[.pointer (some ⟨w.heap.size + 1, 0, none⟩), .int .i64 0]) ∧ MemAt w' (w.heap.size + 1) w.heap.size (MemV.new lim) ∧ Keep (fun _ => False) w w' := by
  subst hl
  obtain ⟨i0, hi, hz0, hz1, hz2⟩ := info_parts info110
  have hmk : ∀ W : World, (Instr.makeSlice 182 (.int .i64 (lim : Int)) (.int .i64 (lim : Int))).run Tryz.prog W = .ok (.slice (some ⟨W.heap.size, 0, none⟩) lim lim) (W.alloc (.cells (madeCells Tryz.zeroCells231 (lim * 72)) 231)) := by
    intro W
    have := run_make (P := Tryz.prog) W 182 231 i0 _ Tryz.underlying182 hi hz0 .i64 .i64 (lim : Int) (lim : Int) (by omega) (by omega) (by rw [hz2]; omega) (by omega)
    rw [hz1] at this
    simpa [Value.cells] using this
  clear hi hz0 hz1 hz2
  go_enter Tryz.func90, Tryz.ntmps90
  go_wp2
  go_ret2
  exact ⟨rfl, new_mem w lim, ((Keep.refl _ _).alloc _).alloc _⟩
set_option maxRecDepth 100000 in
set_option maxHeartbeats 400000 in
theorem take_full (p g : Nat) (M : MemV) (gen kind : Int) (w : World) (h : MemAt w p g M) (h8 : 8 ≤ M.lim) (hl : M.lim ≤ 1024) (g0 : 0 ≤ gen) (g1 : gen ≤ 4) (k0 : 0 ≤ kind) (k1 : kind ≤ 3) (hf : M.free = 0) :
    Calls Tryz.prog 137 #[.pointer (some ⟨p, 0, none⟩), .int .i64 gen, .int .i64 kind] w fun e w' => e = .returned (.tuple #[.int .i64 0, .int .i64 2]) ∧ w = w' := by
  obtain ⟨cap, c0, c1, c2⟩ := h.cells
  rw [hf] at c2
  clear hf
  have hz : ((M.lim : Int) == 0) = false := by simp; omega
  go_enter Tryz.func137, Tryz.ntmps137
  go_wp2
  go_ret2
  exact ⟨rfl, rfl⟩
theorem MemAt.drew {w : World} {p g : Nat} {M : MemV} (h : MemAt w p g M) : MemAt w.drew p g M := ⟨h.head, h.segs⟩
open Go.RowKit
/-- The cells of a fresh segment, as the program builds them. -/
noncomputable def freshCells (a b c : Value) : Array Value :=
  (((((((Tryz.zeroCells231.setIfInBounds 0 a).setIfInBounds 1 b).setIfInBounds 2 (.int .i64 0)).setIfInBounds 3 (.int .i64 5)).setIfInBounds 4 (.int .i64 5)).setIfInBounds 5 (.int .i64 5)).setIfInBounds 6 (.int .i64 5)).setIfInBounds 7 c
theorem fresh_size (a b c : Value) : (freshCells a b c).size = 72 := by simp [freshCells]
theorem fresh_list (a b c : Int) : (freshCells (.int .i64 a) (.int .i64 b) (.int .i64 c)).toList = (List.range 72).map (Sg.fresh a b c).cell := by kernel_rfl
theorem fresh_one (a b c : Int) : (freshCells (.int .i64 a) (.int .i64 b) (.int .i64 c)).all (·.oneCell') = true := by kernel_rfl
theorem fresh_info (a b c : Value) : (Tryz.prog.info? 231).map (·.size) = some (freshCells a b c).size := by rw [fresh_size, ← z110size]; exact i110
set_option maxRecDepth 100000 in
set_option maxHeartbeats 400000 in
theorem take_yes (p g : Nat) (M : MemV) (k : Nat) (gen kind : Int) (w : World) (h : MemAt w p g M) (h8 : 8 ≤ M.lim) (hl : M.lim ≤ 1024) (g0 : 0 ≤ gen) (g1 : gen ≤ 4) (k0 : 0 ≤ kind) (k1 : kind ≤ 3)
    (f0 : 0 < M.free) (f1 : M.free ≤ 1024) (n0 : 0 ≤ M.count) (n1 : M.count ≤ 1000000) (hk : k < M.lim) (hlow : ∀ i, i < k → 0 < (M.sg i).taken) (hz : (M.sg k).taken = 0) :
    Calls Tryz.prog 137 #[.pointer (some ⟨p, 0, none⟩), .int .i64 gen, .int .i64 kind] w fun e w' => e = .returned (.tuple #[.int .i64 k, .int .i64 0]) ∧ MemAt w' p g (M.took k gen kind) ∧ Keep (Mine p g) w w' := by
  obtain ⟨cap, c0, c1, c2⟩ := h.cells
  have hz8 : ((M.lim : Int) == 0) = false := by simp; omega
  have hzf : (M.free == 0) = false := by simp; omega
  go_enter Tryz.func137, Tryz.ntmps137
  go_wp2
  go_loop [8] (fun i => ∃ j : Nat, j ≤ k ∧ i = .int .i64 j) (fun i => k - (intOf i).toNat)
  case atStart => exact ⟨0, Nat.zero_le _, rfl⟩
  case round =>
    obtain ⟨j, hj, rfl⟩ := hrel
    have ht := h.segs.2 j (by omega) 7 (by omega)
    simp only [Sg.cell] at ht
    by_cases hjk : j < k
    · have hp := hlow j hjk
      go_wp2
      go_round
      case rel => exact ⟨j + 1, by omega, by go_num⟩
      case measure => simp [intOf]; omega
    · obtain rfl : j = k := by omega
      rw [hz] at ht
      clear hz hlow hjk
      have hfr1 := h.frozen 1
      have hfr2 := h.frozen 2
      have hne := h.ne
      have hne' := h.ne.symm
      go_wp2
      have h2 := (h.setCount (M.count + 1)).setFree (M.free - 1)
      have K2 : Keep (Mine p g) w ((w.setCell ⟨p, 1, none⟩ (.int .i64 (M.count + 1))).setCell ⟨p, 2, none⟩ (.int .i64 (M.free - 1))) := ((Keep.refl _ _).setCell (.inl (.inl rfl)) _).setCell (.inl (.inl rfl)) _
      generalize (w.setCell ⟨p, 1, none⟩ (.int .i64 (M.count + 1))).setCell ⟨p, 2, none⟩ (.int .i64 (M.free - 1)) = w2 at h2 K2 ⊢
      obtain ⟨cap2, d0, d1, d2⟩ := h2.cells
      clear c0 c1 c2 ht hfr1 hfr2
      go_still_tail 15, (by kernel_rfl)
      have h3 := h2.drew
      have K3 := K2.drew
      change wpList _ _ _ _ _ w2.drew
      generalize w2.drew = w3 at h3 K3 ⊢
      have HT := Lib.hid (show w3.there g (j * 72) 72 from h3.there j (by assumption))
      refine wpList_store_mid rfl 231 (.tmp 81) (.tmp 80) rfl g (j * 72) (freshCells (.int .i64 gen) (.int .i64 kind) (.int .i64 (M.count + 1))) rfl rfl (by rw [fresh_size]; exact HT.out) (fresh_info _ _ _) (fresh_one _ _ _) ?_
      refine stored_seg h3 j (by assumption) _ _ (fresh_list _ _ _) _ ?_
      intro w4 h4 K4
      clear h3 d0 d1 d2 h2 HT
      go_wp2
      go_ret2
      exact ⟨rfl, h4, K3.trans K4⟩
end Go.Proofs.YtkjocmenpccooaaGreatDoor
