/-
  Both spaces side by side; the argument []Act of package morainelaw08; append to a slice that is owned of a slice that came in.
-/
import Derived.Test.YtgnpeciedefeiaaSpRefW
import Derived.Test.YtgnpeciedefeiaaSpCopy
namespace Go.Proofs.Ytgnpeciedefeiaa
open Go.RowKit

/-- The blocks of both. -/
def Both8 (s p g r : Nat) (w : World) (base b : Nat) : Prop := MineS s p g b ∨ RefS8 r w base b
theorem SpAt.notRef8 {w : World} {s p g base r q : Nat} {S : SpV} {M : MemV} {L : List Nat} {cv : Nat → Nat → Int} (h : SpAt w s p g S) (R : R8Raw w base r q M L cv) : ∀ b, RefS8 r w base b → ¬ MineS s p g b := by
  have key : ∀ (b : Nat) (c : Array Value) (t : TypeId), w.heap[b]? = some (.cells c t (0, 0)) → (t ≠ 129 ∧ t ≠ 120 ∧ t ≠ 125 ∧ t ≠ 29) → ¬ RefS8 r w base b := by
    intro b c t hc ht hb
    rcases hb with rfl | ⟨_, c', t', z, e, ht'⟩
    · obtain ⟨d, hd⟩ := R.head
      rw [hc] at hd
      injection hd with hd
      injection hd with _ hd
      exact ht.1 hd
    · rw [hc] at e
      injection e with e
      injection e with _ e _
      subst e
      rcases ht' with rfl | rfl | rfl
      · exact ht.2.1 rfl
      · exact ht.2.2.1 rfl
      · exact ht.2.2.2 rfl
  intro b hb hm
  rcases hm with rfl | rfl | rfl
  · obtain ⟨c, hc⟩ := h.head
    exact key _ c 83 hc (by decide) hb
  · obtain ⟨c, hc⟩ := h.mem.head
    exact key _ _ 57 hc (by decide) hb
  · obtain ⟨⟨c, hc⟩, _⟩ := h.mem.segs
    exact key _ c 110 hc (by decide) hb
theorem SpAt.keepR {w w' : World} {s p g base r q : Nat} {S : SpV} {M : MemV} {L : List Nat} {cv : Nat → Nat → Int} (h : SpAt w s p g S) (R : R8Raw w base r q M L cv) (k : Keep (RefS8 r w base) w w') : SpAt w' s p g S :=
  h.keep k (fun e => h.notRef8 R _ e (.inl rfl)) (fun e => h.notRef8 R _ e (.inr (.inl rfl))) (fun e => h.notRef8 R _ e (.inr (.inr rfl)))
theorem SpAt.keepS {w w' : World} {s p g base r q : Nat} {S : SpV} {M : MemV} {L : List Nat} {cv : Nat → Nat → Int} (h : SpAt w s p g S) (R : R8Raw w base r q M L cv) (k : Keep (MineS s p g) w w') : R8Raw w' base r q M L cv :=
  R.keep k (fun e => h.notRef8 R r (.inl rfl) e) (fun b hb e => h.notRef8 R b (.inr hb) e)
theorem Keep.both81 {s p g r base : Nat} {w a b : World} (h : Keep (Both8 s p g r w base) w a) (k : Keep (MineS s p g) a b) : Keep (Both8 s p g r w base) w b := h.join k (fun _ _ h => .inl h)
theorem Keep.both82 {s p g r base : Nat} {w a b : World} (h : Keep (Both8 s p g r w base) w a) (k : Keep (RefS8 r a base) a b) : Keep (Both8 s p g r w base) w b := h.join k (fun i hi hs => by
  by_cases hb : Both8 s p g r w base i
  · exact hb
  · rcases hs with rfl | ⟨h0, c, t, z, e, ht⟩
    · exact .inr (.inl rfl)
    · rw [h.block i hi hb] at e
      exact .inr (.inr ⟨h0, c, t, z, e, ht⟩))
theorem both8_from {B s p g r base : Nat} {w : World} (h1 : B ≤ s) (h2 : B ≤ p) (h3 : B ≤ g) (h4 : B ≤ r) (h5 : B ≤ base) : ∀ i, Both8 s p g r w base i → B ≤ i := by
  rintro i ((rfl | rfl | rfl) | rfl | h)
  · exact h1
  · exact h2
  · exact h3
  · exact h4
  · exact Nat.le_trans h5 h.1
theorem mineS_from {B s p g : Nat} (h1 : B ≤ s) (h2 : B ≤ p) (h3 : B ≤ g) : ∀ i, MineS s p g i → B ≤ i := by
  rintro i (rfl | rfl | rfl)
  · exact h1
  · exact h2
  · exact h3

/-- A call upon a space. -/
structure Act8 where
  op : Int
  a : Int
  b : Int
  c : Int
  ga : Option Addr
  gn : Nat
  gc : Nat
  gs : List Int
/-- What is in range, and where its list of generations lies: below block B. -/
structure Act8.Ok (x : Act8) (w : World) (B : Nat) : Prop where
  a1 : x.a ≤ 9223372036854775807
  c0 : -9223372036854775808 ≤ x.c
  c1 : x.c ≤ 9223372036854775807
  ints : IntsAt w x.ga x.gn x.gs
  n300 : x.gn ≤ 300
  low : 0 < x.gn → ∀ b off, x.ga = some ⟨b, off, none⟩ → b < B
/-- The cells of a call. -/
abbrev Act8.cells (x : Act8) : Array Value := #[.int .i64 x.op, .int .i64 x.a, .int .i64 x.b, .int .i64 x.c, .slice x.ga x.gn x.gc]
/-- A block that holds a call. -/
def X8At (w : World) (b : Nat) (x : Act8) : Prop := w.heap[b]? = some (.cells x.cells 70 (0, 0))
theorem X8At.cell {w : World} {b : Nat} {x : Act8} (h : X8At w b x) : w.cell? ⟨b, 0, none⟩ = some (.int .i64 x.op) ∧ w.cell? ⟨b, 1, none⟩ = some (.int .i64 x.a) ∧ w.cell? ⟨b, 2, none⟩ = some (.int .i64 x.b) ∧ w.cell? ⟨b, 3, none⟩ = some (.int .i64 x.c) ∧ w.cell? ⟨b, 4, none⟩ = some (.slice x.ga x.gn x.gc) := by
  refine ⟨?_, ?_, ?_, ?_, ?_⟩ <;> (rw [cell_of_row w b _ _ _ _ h]; rfl)
theorem X8At.keep {T : Nat → Prop} {w w' : World} {b : Nat} {x : Act8} (h : X8At w b x) (k : Keep T w w') (hs : ¬ T b) : X8At w' b x := k.heap h hs
theorem X8At.new (w : World) (x : Act8) : X8At (w.alloc (.cells x.cells 70)) w.heap.size x := heap_alloc_new w _
theorem X8At.notRef8 {w : World} {b base r q : Nat} {x : Act8} {M : MemV} {L : List Nat} {cv : Nat → Nat → Int} (h : X8At w b x) (R : R8Raw w base r q M L cv) : ¬ RefS8 r w base b := by
  unfold X8At at h
  rintro (rfl | ⟨_, c', t, z, e, ht⟩)
  · obtain ⟨d, hd⟩ := R.head
    rw [h] at hd
    injection hd with hd
    injection hd with _ hd
    exact absurd hd (by decide)
  · rw [h] at e
    injection e with e
    injection e with _ e _
    subst e
    revert ht; decide

section
variable {P : Program} (w : World)
/-- append of nothing to a slice that is owned leaves it. -/
theorem wpList_append_none {ops : Array Oper} {rest : List Oper} {o : Oper} {a : Act} {Q : Exit → Act → World → Prop} (hgd : o.guard = none) (s x : Operand) (t : TypeId)
    (ho : o.op = .call { callee := .builtin .append, args := #[s, x], argTypes := #[t, t] })
    (base : Nat) (e : TypeId) (i : TypeInfo) (size : Nat) (ht : P.underlying t = some (.slice e)) (hi : P.info? e = some i)
    (v : Value) (n : Nat) (xs : List Value) (hs : a.eval s = v) (hown : w.ownsRow base e size v n xs) (c : Nat) (hx : a.eval x = .slice none 0 c)
    (h : wpList P ops Q rest (a.put o.dst v) w) : wpList P ops Q (o :: rest) a w := by
  have hrun : ∀ ty, (Builtin.append_ #[t, t] ty #[v, .slice none 0 c]).run P w = .ok v w := by
    intro ty
    obtain ⟨_, h2⟩ := hown
    rcases h2 with ⟨rfl, rfl⟩ | ⟨g, cap, cur, rfl, _, _, hnc, _⟩
    · simp [Builtin.append_, run_underlying ht, sizeOf, typeInfo, hi, Builtin.lenOf, Builtin.firstCells]
    · simp [Builtin.append_, run_underlying ht, sizeOf, typeInfo, hi, Builtin.lenOf, Builtin.firstCells, hnc, storeCells]
  refine wpList_plain hgd fun _ hK => ?_
  unfold Oper.wp execOp
  simp only [ho, resolve, invoke, builtin, Sem.run_bind, Sem.run_pure, Result.andThen_ok, List.map_toArray, List.map_cons, List.map_nil, hs, hx, hrun]
  exact hK _ _ h
end

theorem IntsAt.news {w : World} {ad : Addr} {n : Nat} {gs : List Int} (h : IntsAt w (some ad) n gs) : ∀ j u, (gs.map (Value.int .i64))[j]? = some u → w.cell? (ad.add j) = some u := by
  intro j u hu
  have hj : j < n := by
    rcases Nat.lt_or_ge j n with h' | h'
    · exact h'
    · rw [List.getElem?_eq_none (by rw [List.length_map, h.1]; exact h')] at hu; cases hu
  obtain ⟨b, off, e, hb, hc⟩ := h.2 j hj
  injection e with e
  subst e
  rw [Addr.add_mid, hc]
  rw [List.getElem?_map, List.getElem?_eq_getElem (by rw [h.1]; exact hj)] at hu
  rw [List.getD_eq_getElem?_getD, List.getElem?_eq_getElem (by rw [h.1]; exact hj)]
  simpa using hu
theorem own_ints {w : World} {base n : Nat} {v : Value} {gs : List Int} (h : w.ownsRow base 3 1 v n (gs.map (Value.int .i64))) : ∃ A c, v = .slice A n c ∧ IntsAt w A n gs ∧ ∀ b off, A = some ⟨b, off, none⟩ → base ≤ b ∧ b < w.heap.size := by
  have hlen : gs.length = n := by simpa using h.1
  obtain ⟨A, c, rfl⟩ := own_shape h
  refine ⟨A, c, rfl, ⟨hlen, fun j hj => ?_⟩, fun b off e => ?_⟩
  · obtain ⟨g, c', hv, _, hlt⟩ := h.form (by omega)
    injection hv with h1 _ h3
    subst h1 h3
    refine ⟨g, 0, rfl, hlt, ?_⟩
    rw [Nat.zero_add, h.cellAt j (by omega)]
    simp [List.getElem?_map, List.getElem?_eq_getElem (show j < gs.length by omega)]
  · subst e
    exact h.lt b rfl
end Go.Proofs.Ytgnpeciedefeiaa
