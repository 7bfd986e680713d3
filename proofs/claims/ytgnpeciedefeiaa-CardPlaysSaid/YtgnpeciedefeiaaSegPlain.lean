/-
  What stays true of a memory by all calls: plain Lean, no program in sight.
-/
import Derived.Test.YtgnpeciedefeiaaMem
namespace Go.Proofs.Ytgnpeciedefeiaa
open Go.RowKit

theorem Keep.heap {S : Nat → Prop} {w w' : World} (k : Keep S w w') {b : Nat} {o : Obj} (hb : w.heap[b]? = some o) (hs : ¬ S b) : w'.heap[b]? = some o := by
  have hl : b < w.heap.size := by
    rcases Nat.lt_or_ge b w.heap.size with hlt | hge
    · exact hlt
    · rw [Array.getElem?_eq_none hge] at hb; cases hb
  rw [k.block b hl hs]; exact hb

/-- Is there such a segment, and is it taken? -/
def MemV.has (M : MemV) (seg : Int) : Prop := 0 ≤ seg ∧ seg < M.lim ∧ 0 < (M.sg seg.toNat).taken
/-- Is that the address of a word that is used? -/
def MemV.used (M : MemV) (addr : Int) : Prop := 0 ≤ addr ∧ M.has (addr / 64) ∧ addr % 64 < (M.sg (addr / 64).toNat).n
/-- The memory with another segment in the place k. -/
def MemV.put (M : MemV) (k : Nat) (s : Sg) : MemV := { M with sg := fun i => if i = k then s else M.sg i }
/-- The segment with the word at j written. -/
def Sg.write (s : Sg) (j : Nat) (u : Int) : Sg := { s with words := fun i => if i = j then u else s.words i }
/-- The segment with a card marked. -/
def Sg.mark (s : Sg) (c : Nat) (m : Int) : Sg :=
  { s with c0 := if c = 0 then m else s.c0, c1 := if c = 1 then m else s.c1, c2 := if c = 2 then m else s.c2, c3 := if c = 3 then m else s.c3 }
/-- A memory as New makes it. -/
def MemV.new (lim : Nat) : MemV := { lim := lim, count := 0, free := lim, sg := fun _ => Sg.none }
/-- A segment as Take makes it. -/
def Sg.fresh (gen kind taken : Int) : Sg := { gen := gen, kind := kind, n := 0, c0 := 5, c1 := 5, c2 := 5, c3 := 5, taken := taken, words := fun _ => 0 }
/-- The memory behind a take of k. -/
def MemV.took (M : MemV) (k : Nat) (gen kind : Int) : MemV := { M.put k (Sg.fresh gen kind (M.count + 1)) with count := M.count + 1, free := M.free - 1 }
/-- The memory behind a gift of k. -/
def MemV.gave (M : MemV) (k : Nat) : MemV := { M.put k Sg.none with free := M.free + 1 }
/-- The memory behind a bump of k by n. -/
def MemV.bumped (M : MemV) (k : Nat) (n : Int) : MemV := M.put k { M.sg k with n := (M.sg k).n + n }

/-- How many of the first m are free. -/
def frees (sg : Nat → Sg) : Nat → Nat
  | 0 => 0
  | m + 1 => frees sg m + if (sg m).taken = 0 then 1 else 0

theorem frees_congr (f h : Nat → Sg) : ∀ m, (∀ i, i < m → ((f i).taken = 0 ↔ (h i).taken = 0)) → frees f m = frees h m
  | 0, _ => rfl
  | m + 1, e => by
    have ih := frees_congr f h m (fun i hi => e i (by omega))
    have h1 := e m (by omega)
    simp only [frees, ih]
    by_cases a : (f m).taken = 0
    · rw [if_pos a, if_pos (h1.1 a)]
    · rw [if_neg a, if_neg (fun x => a (h1.2 x))]
theorem frees_le (f : Nat → Sg) : ∀ m, frees f m ≤ m
  | 0 => Nat.le_refl _
  | m + 1 => by
    have := frees_le f m
    simp only [frees]
    split <;> omega
theorem frees_put (f : Nat → Sg) (k : Nat) (s : Sg) : ∀ m, k < m →
    frees (fun i => if i = k then s else f i) m + (if (f k).taken = 0 then 1 else 0) = frees f m + (if s.taken = 0 then 1 else 0)
  | 0, h => by omega
  | m + 1, h => by
    by_cases e : k = m
    · subst e
      have := frees_congr (fun i => if i = k then s else f i) f k (fun i hi => by simp [show i ≠ k from by omega])
      simp only [frees, this, if_true]
      omega
    · have ih := frees_put f k s m (by omega)
      simp only [frees, if_neg (show ¬ m = k from by omega)]
      omega
theorem frees_pos (f : Nat → Sg) : ∀ m i, i < m → (f i).taken = 0 → 0 < frees f m
  | 0, _, h, _ => by omega
  | m + 1, i, h, e => by
    simp only [frees]
    by_cases a : i = m
    · subst a; rw [if_pos e]; omega
    · have := frees_pos f m i (by omega) e; omega
/-- Where one is free there is a least one. -/
theorem frees_least (f : Nat → Sg) : ∀ m, 0 < frees f m → ∃ k, k < m ∧ (f k).taken = 0 ∧ ∀ i, i < k → (f i).taken ≠ 0
  | 0, h => by simp [frees] at h
  | m + 1, h => by
    by_cases a : 0 < frees f m
    · obtain ⟨k, hk, h1, h2⟩ := frees_least f m a
      exact ⟨k, by omega, h1, h2⟩
    · simp only [frees] at h
      refine ⟨m, by omega, ?_, ?_⟩
      · by_cases b : (f m).taken = 0
        · exact b
        · rw [if_neg b] at h; omega
      · intro i hi b
        exact a (frees_pos f m i hi b)

/-- What holds of one segment. -/
structure Sg.Ok (s : Sg) : Prop where
  g0 : 0 ≤ s.gen
  g4 : s.gen ≤ 4
  k0 : 0 ≤ s.kind
  k3 : s.kind ≤ 3
  n0 : 0 ≤ s.n
  n64 : s.n ≤ 64
  a0 : 0 ≤ s.c0 ∧ s.c0 ≤ 5
  a1 : 0 ≤ s.c1 ∧ s.c1 ≤ 5
  a2 : 0 ≤ s.c2 ∧ s.c2 ≤ 5
  a3 : 0 ≤ s.c3 ∧ s.c3 ≤ 5
  w0 : ∀ j, 0 ≤ s.words j ∧ s.words j ≤ 18446744073709551615
  wz : ∀ j : Nat, s.n ≤ j → s.words j = 0

theorem word_zero : (0 : Int) ≤ 0 ∧ (0 : Int) ≤ 18446744073709551615 := ⟨by decide, by decide⟩
theorem Sg.Ok.none : Sg.none.Ok := ⟨by decide, by decide, by decide, by decide, by decide, by decide, by decide, by decide, by decide, by decide, fun _ => word_zero, fun _ _ => rfl⟩
theorem Sg.Ok.fresh {gen kind t : Int} (h0 : 0 ≤ gen) (h1 : gen ≤ 4) (h2 : 0 ≤ kind) (h3 : kind ≤ 3) : (Sg.fresh gen kind t).Ok :=
  have z : (0 : Int) ≤ 0 ∧ (0 : Int) ≤ 64 := by decide
  have f : (0 : Int) ≤ 5 ∧ (5 : Int) ≤ 5 := by decide
  ⟨h0, h1, h2, h3, z.1, z.2, f, f, f, f, fun _ => word_zero, fun _ _ => rfl⟩
theorem Sg.Ok.bump {s : Sg} (h : s.Ok) {n : Int} (h1 : 1 ≤ n) (h2 : n ≤ 64 - s.n) : ({ s with n := s.n + n } : Sg).Ok :=
  ⟨h.g0, h.g4, h.k0, h.k3, by have := h.n0; show 0 ≤ s.n + n; omega, by show s.n + n ≤ 64; omega, h.a0, h.a1, h.a2, h.a3, h.w0, fun j hj => h.wz j (by have : s.n + n ≤ j := hj; omega)⟩
theorem Sg.Ok.write {s : Sg} (h : s.Ok) {j : Nat} {u : Int} (hj : (j : Int) < s.n) (h0 : 0 ≤ u) (h1 : u ≤ 18446744073709551615) : (s.write j u).Ok :=
  ⟨h.g0, h.g4, h.k0, h.k3, h.n0, h.n64, h.a0, h.a1, h.a2, h.a3, fun i => by
    simp only [Sg.write]
    split
    · exact ⟨h0, h1⟩
    · exact h.w0 i, fun i hi => by
    simp only [Sg.write]
    rw [if_neg (by have : s.n ≤ i := hi; omega)]
    exact h.wz i hi⟩
theorem Sg.Ok.mark {s : Sg} (h : s.Ok) {c : Nat} {m : Int} (h0 : 0 ≤ m) (h1 : m ≤ 5) : (s.mark c m).Ok := by
  refine ⟨h.g0, h.g4, h.k0, h.k3, h.n0, h.n64, ?_, ?_, ?_, ?_, h.w0, h.wz⟩ <;> simp only [Sg.mark] <;> split
  · exact ⟨h0, h1⟩
  · exact h.a0
  · exact ⟨h0, h1⟩
  · exact h.a1
  · exact ⟨h0, h1⟩
  · exact h.a2
  · exact ⟨h0, h1⟩
  · exact h.a3

/-- What holds of a memory that New has made, behind whatever calls. -/
structure MemV.Ok (M : MemV) : Prop where
  l8 : 8 ≤ M.lim
  l1024 : M.lim ≤ 1024
  c0 : 0 ≤ M.count
  fr : M.free = frees M.sg M.lim
  t0 : ∀ k, k < M.lim → 0 ≤ (M.sg k).taken
  t1 : ∀ k, k < M.lim → (M.sg k).taken ≤ M.count
  un : ∀ i k, i < M.lim → k < M.lim → 0 < (M.sg i).taken → (M.sg i).taken = (M.sg k).taken → i = k
  sg : ∀ k, k < M.lim → (M.sg k).Ok
  no : ∀ k, k < M.lim → (M.sg k).taken = 0 → M.sg k = Sg.none

theorem MemV.Ok.f0 {M : MemV} (h : M.Ok) : 0 ≤ M.free := by rw [h.fr]; omega
theorem MemV.Ok.f1 {M : MemV} (h : M.Ok) : M.free ≤ M.lim := by rw [h.fr]; have := frees_le M.sg M.lim; omega

theorem MemV.Ok.new {lim : Nat} (h8 : 8 ≤ lim) (h1024 : lim ≤ 1024) : (MemV.new lim).Ok := by
  have hf : ∀ m, frees (fun _ => Sg.none) m = m := by
    intro m
    induction m with
    | zero => rfl
    | succ m ih => rw [frees, ih, if_pos (show Sg.none.taken = 0 from rfl)]
  refine ⟨h8, h1024, by simp [MemV.new], ?_, ?_, ?_, ?_, fun _ _ => Sg.Ok.none, fun _ _ _ => rfl⟩
  · show (lim : Int) = frees (fun _ => Sg.none) lim
    rw [hf]
  · intro k _; simp [MemV.new, Sg.none]
  · intro k _; simp [MemV.new, Sg.none]
  · intro i k _ _ h _; simp [MemV.new, Sg.none] at h

/-- Another segment in the place of one that is taken, as it was taken. -/
theorem MemV.Ok.put {M : MemV} (h : M.Ok) {k : Nat} (_hk : k < M.lim) {s : Sg} (hs : s.Ok) (ht : s.taken = (M.sg k).taken) (hp : 0 < (M.sg k).taken) : (M.put k s).Ok := by
  refine ⟨h.l8, h.l1024, h.c0, ?_, ?_, ?_, ?_, ?_, ?_⟩
  · show M.free = frees _ M.lim
    rw [h.fr, frees_congr M.sg (M.put k s).sg M.lim]
    intro i hi
    simp only [MemV.put]
    split
    · rename_i e; subst e; rw [ht]
    · exact Iff.rfl
  · intro i hi
    simp only [MemV.put]
    split
    · rw [ht]; omega
    · exact h.t0 i hi
  · intro i hi
    simp only [MemV.put]
    split
    · rename_i e; subst e; rw [ht]; exact h.t1 i hi
    · exact h.t1 i hi
  · intro i j hi hj
    have e1 : ((M.put k s).sg i).taken = (M.sg i).taken := by
      simp only [MemV.put]
      split
      · rename_i e; subst e; exact ht
      · rfl
    have e2 : ((M.put k s).sg j).taken = (M.sg j).taken := by
      simp only [MemV.put]
      split
      · rename_i e; subst e; exact ht
      · rfl
    rw [e1, e2]
    exact h.un i j hi hj
  · intro i hi
    simp only [MemV.put]
    split
    · exact hs
    · exact h.sg i hi
  · intro i hi
    simp only [MemV.put]
    split
    · intro e; rw [ht] at e; omega
    · exact h.no i hi

theorem MemV.Ok.took {M : MemV} (h : M.Ok) {k : Nat} (hk : k < M.lim) (hz : (M.sg k).taken = 0) {gen kind : Int} (h0 : 0 ≤ gen) (h1 : gen ≤ 4) (h2 : 0 ≤ kind) (h3 : kind ≤ 3) : (M.took k gen kind).Ok := by
  have hc := h.c0
  refine ⟨h.l8, h.l1024, by show 0 ≤ M.count + 1; omega, ?_, ?_, ?_, ?_, ?_, ?_⟩
  · have := frees_put M.sg k (Sg.fresh gen kind (M.count + 1)) M.lim hk
    rw [if_pos hz, if_neg (by show ¬ M.count + 1 = 0; omega)] at this
    show M.free - 1 = frees (fun i => if i = k then Sg.fresh gen kind (M.count + 1) else M.sg i) M.lim
    rw [h.fr]
    omega
  · intro i hi
    simp only [MemV.took, MemV.put]
    split
    · show 0 ≤ M.count + 1; omega
    · exact h.t0 i hi
  · intro i hi
    simp only [MemV.took, MemV.put]
    split
    · exact Int.le_refl _
    · have := h.t1 i hi; omega
  · intro i j hi hj
    simp only [MemV.took, MemV.put]
    split
    · split
      · intro _ _; omega
      · intro _ e
        have := h.t1 j hj
        have e' : M.count + 1 = (M.sg j).taken := e
        omega
    · split
      · intro _ e
        have := h.t1 i hi
        have e' : (M.sg i).taken = M.count + 1 := e
        omega
      · exact h.un i j hi hj
  · intro i hi
    simp only [MemV.took, MemV.put]
    split
    · exact Sg.Ok.fresh h0 h1 h2 h3
    · exact h.sg i hi
  · intro i hi
    simp only [MemV.took, MemV.put]
    split
    · intro e
      have e' : M.count + 1 = 0 := e
      omega
    · exact h.no i hi

theorem MemV.Ok.gave {M : MemV} (h : M.Ok) {k : Nat} (hk : k < M.lim) (hz : 0 < (M.sg k).taken) : (M.gave k).Ok := by
  have hc := h.c0
  refine ⟨h.l8, h.l1024, h.c0, ?_, ?_, ?_, ?_, ?_, ?_⟩
  · have := frees_put M.sg k Sg.none M.lim hk
    rw [if_neg (by omega), if_pos (by rfl)] at this
    show M.free + 1 = frees (fun i => if i = k then Sg.none else M.sg i) M.lim
    rw [h.fr]
    omega
  · intro i hi
    simp only [MemV.gave, MemV.put]
    split
    · exact Int.le_refl 0
    · exact h.t0 i hi
  · intro i hi
    simp only [MemV.gave, MemV.put]
    split
    · exact hc
    · exact h.t1 i hi
  · intro i j hi hj
    simp only [MemV.gave, MemV.put]
    split
    · intro e; simp [Sg.none] at e
    · split
      · intro e e'
        have e'' : (M.sg i).taken = 0 := e'
        omega
      · exact h.un i j hi hj
  · intro i hi
    simp only [MemV.gave, MemV.put]
    split
    · exact Sg.Ok.none
    · exact h.sg i hi
  · intro i hi
    simp only [MemV.gave, MemV.put]
    split
    · intro _; rfl
    · exact h.no i hi

theorem MemV.Ok.bumped {M : MemV} (h : M.Ok) {k : Nat} (hk : k < M.lim) (hz : 0 < (M.sg k).taken) {n : Int} (h1 : 1 ≤ n) (h2 : n ≤ 64 - (M.sg k).n) : (M.bumped k n).Ok :=
  h.put hk ((h.sg k hk).bump h1 h2) rfl hz

end Go.Proofs.Ytgnpeciedefeiaa
