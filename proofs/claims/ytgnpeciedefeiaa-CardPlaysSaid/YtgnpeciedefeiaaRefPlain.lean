/-
  The memory of the document's answer (package moraineref07): what it is that a world holds it. No program in sight.
-/
import Derived.Test.YtgnpeciedefeiaaCountsPlain
namespace Go.Proofs.Ytgnpeciedefeiaa
open Go.RowKit

/-- The cells of one segment of the document's, 9 of them: the last one is the slice of its words. -/
def rc (M : MemV) (wv : Nat → Value) (i : Nat) : Nat → Value
  | 0 => .int .i64 (i : Int)
  | 1 => .int .i64 (M.sg i).gen
  | 2 => .int .i64 (M.sg i).kind
  | 3 => .int .i64 (M.sg i).n
  | 4 => .int .i64 (M.sg i).c0
  | 5 => .int .i64 (M.sg i).c1
  | 6 => .int .i64 (M.sg i).c2
  | 7 => .int .i64 (M.sg i).c3
  | _ => wv i
def rcells (M : MemV) (wv : Nat → Value) (L : List Nat) : List Value := (List.range (L.length * 9)).map fun o => rc M wv (L.getD (o / 9) 0) (o % 9)
def wcells (s : Sg) (n : Nat) : List Value := (List.range n).map fun j => .int .u64 (s.words j)

theorem rcells_get (M : MemV) (wv : Nat → Value) (L : List Nat) (i f : Nat) (hi : i < L.length) (hf : f < 9) : (rcells M wv L)[i * 9 + f]? = some (rc M wv (L.getD i 0) f) := by
  unfold rcells
  rw [List.getElem?_map, List.getElem?_range (by omega)]
  simp only [Option.map_some, show (i * 9 + f) / 9 = i from by omega, show (i * 9 + f) % 9 = f from by omega]
theorem rcells_len (M : MemV) (wv : Nat → Value) (L : List Nat) : (rcells M wv L).length = L.length * 9 := by simp [rcells]
theorem wcells_get (s : Sg) (n j : Nat) (hj : j < n) : (wcells s n)[j]? = some (.int .u64 (s.words j)) := by
  unfold wcells
  rw [List.getElem?_map, List.getElem?_range hj]
  rfl
theorem wcells_len (s : Sg) (n : Nat) : (wcells s n).length = n := by simp [wcells]
theorem wcells_succ (s : Sg) (n : Nat) (h : s.words n = 0) : wcells s (n + 1) = wcells s n ++ [.int .u64 0] := by
  unfold wcells
  rw [List.range_succ, List.map_append, List.map_cons, List.map_nil, h]
theorem rcells_ext {M M' : MemV} {wv wv' : Nat → Value} {L : List Nat} (h : ∀ i ∈ L, ∀ f, f < 9 → rc M wv i f = rc M' wv' i f) : rcells M wv L = rcells M' wv' L := by
  unfold rcells
  refine List.map_congr_left fun o ho => ?_
  have ho' := List.mem_range.1 ho
  refine h _ ?_ _ (by omega)
  rw [List.getD_eq_getElem?_getD, List.getElem?_eq_getElem (show o / 9 < L.length from by omega)]
  exact List.getElem_mem _
theorem rcells_set (M M' : MemV) (wv wv' : Nat → Value) (L : List Nat) (i f : Nat) (u : Value) (hi : i < L.length) (hf : f < 9) (hu : rc M' wv' (L.getD i 0) f = u)
    (hrest : ∀ j, j < L.length → ∀ e, e < 9 → ¬ (j = i ∧ e = f) → rc M' wv' (L.getD j 0) e = rc M wv (L.getD j 0) e) : (rcells M wv L).set (i * 9 + f) u = rcells M' wv' L := by
  refine List.ext_getElem? fun o => ?_
  by_cases ho : o < L.length * 9
  · rw [List.getElem?_set]
    obtain ⟨j, e, rfl, hj, he⟩ : ∃ j e, o = j * 9 + e ∧ j < L.length ∧ e < 9 := ⟨o / 9, o % 9, by omega, by omega, by omega⟩
    rw [rcells_get M' wv' L j e hj he]
    by_cases h : i * 9 + f = j * 9 + e
    · obtain ⟨rfl, rfl⟩ : i = j ∧ f = e := by omega
      rw [if_pos rfl, if_pos (by rw [rcells_len]; omega), hu]
    · rw [if_neg h, rcells_get M wv L j e hj he, hrest j hj e he (by rintro ⟨rfl, rfl⟩; exact h rfl)]
  · rw [List.getElem?_eq_none (by rw [List.length_set, rcells_len]; omega), List.getElem?_eq_none (by rw [rcells_len]; omega)]
theorem rcells_snoc (M : MemV) (wv : Nat → Value) (L : List Nat) (k : Nat) : rcells M wv (L ++ [k]) = rcells M wv L ++ (List.range 9).map (rc M wv k) := by
  refine List.ext_getElem? fun o => ?_
  by_cases ho : o < (L.length + 1) * 9
  · obtain ⟨j, e, rfl, hj, he⟩ : ∃ j e, o = j * 9 + e ∧ j < L.length + 1 ∧ e < 9 := ⟨o / 9, o % 9, by omega, by omega, by omega⟩
    rw [rcells_get M wv (L ++ [k]) j e (by simpa using hj) he, List.getElem?_append]
    by_cases h : j < L.length
    · rw [if_pos (by rw [rcells_len]; omega), rcells_get M wv L j e h he]
      simp [List.getD_eq_getElem?_getD, List.getElem?_append, h]
    · obtain rfl : j = L.length := by omega
      rw [if_neg (by rw [rcells_len]; omega), rcells_len, show L.length * 9 + e - L.length * 9 = e from by omega, List.getElem?_map, List.getElem?_range he]
      simp [List.getD_eq_getElem?_getD]
  · rw [List.getElem?_eq_none (by rw [rcells_len]; simp; omega), List.getElem?_eq_none (by simp [rcells_len]; omega)]

/-- The document's memory lies at block q: the list L, in the slice v; the words of segment i in the slice wv i, cnt i of them. -/
structure RefAtN (w : World) (base q : Nat) (M : MemV) (L : List Nat) (v : Value) (wv : Nat → Value) (cnt : Nat → Nat) : Prop where
  bq : base ≤ q
  head : w.heap[q]? = some (.cells #[.int .i64 (M.lim : Int), v] 120 (0, 0))
  own : w.ownsRow base 125 9 v L.length (rcells M wv L)
  words : ∀ i ∈ L, w.ownsRow base 29 1 (wv i) (cnt i) (wcells (M.sg i) (cnt i))
  sep : ∀ i ∈ L, ∀ j ∈ L, i ≠ j → ∀ b, (wv i).ownBlock = some b → (wv j).ownBlock ≠ some b
/-- As many words as the segment says. -/
def cntOf (M : MemV) (i : Nat) : Nat := (M.sg i).n.toNat
/-- The document's memory, between the calls. -/
def RefAt (w : World) (base q : Nat) (M : MemV) (L : List Nat) : Prop := TakenL M [] L ∧ ∃ v wv, RefAtN w base q M L v wv (cntOf M)

theorem heap_lt {w : World} {b : Nat} {o : Obj} (h : w.heap[b]? = some o) : b < w.heap.size := by
  rcases Nat.lt_or_ge b w.heap.size with hlt | hge
  · exact hlt
  · rw [Array.getElem?_eq_none hge] at h; cases h
/-- The blocks that may be the document's. -/
def RefS (w : World) (base b : Nat) : Prop := base ≤ b ∧ ∃ c t z, w.heap[b]? = some (.cells c t z) ∧ (t = 120 ∨ t = 125 ∨ t = 29)

theorem MemAt.notRef {w : World} {p g base : Nat} {M : MemV} (h : MemAt w p g M) : ¬ RefS w base p ∧ ¬ RefS w base g := by
  obtain ⟨c, hc⟩ := h.head
  obtain ⟨⟨d, hd⟩, _⟩ := h.segs
  constructor
  · rintro ⟨_, c', t, z, e, ht⟩
    rw [hc] at e
    injection e with e
    injection e with _ e _
    subst e
    revert ht; decide
  · rintro ⟨_, c', t, z, e, ht⟩
    rw [hd] at e
    injection e with e
    injection e with _ e _
    subst e
    revert ht; decide
theorem XAt.notRef {w : World} {b base : Nat} {x : ActV} (h : XAt w b x) : ¬ RefS w base b := by
  rintro ⟨_, c', t, z, e, ht⟩
  unfold XAt at h
  rw [h] at e
  injection e with e
  injection e with _ e _
  subst e
  revert ht; decide
theorem own_type {w : World} {base : Nat} {e : TypeId} {size : Nat} {v : Value} {n : Nat} {xs : List Value} (h : w.ownsRow base e size v n xs) {b : Nat} (hb : v.ownBlock = some b) : base ≤ b ∧ ∃ c, w.heap[b]? = some (.cells c e (0, 0)) := by
  rcases h.2 with ⟨rfl, _⟩ | ⟨g, cap, cur, rfl, hg, hh, _⟩
  · cases hb
  · simp only [Value.ownBlock, Option.some.injEq] at hb
    subst hb
    exact ⟨hg, cur, hh⟩
theorem own_keep {S : Nat → Prop} {w w' : World} (K : Keep S w w') {base : Nat} {e : TypeId} {size : Nat} {v : Value} {n : Nat} {xs : List Value} (h : w.ownsRow base e size v n xs) (hs : ∀ b, v.ownBlock = some b → ¬ S b) : w'.ownsRow base e size v n xs := by
  refine ⟨h.1, ?_⟩
  rcases h.2 with hn | ⟨g, cap, cur, rfl, hg, hh, rest⟩
  · exact .inl hn
  · exact .inr ⟨g, cap, cur, rfl, hg, by rw [K.block g (heap_lt hh) (hs g rfl)]; exact hh, rest⟩
theorem own_type_ne {w : World} {base base' : Nat} {e e' : TypeId} {size size' : Nat} {v v' : Value} {n n' : Nat} {xs xs' : List Value} (h : w.ownsRow base e size v n xs) (h' : w.ownsRow base' e' size' v' n' xs') (hne : e ≠ e') {b : Nat} (hb : v.ownBlock = some b) : v'.ownBlock ≠ some b := by
  intro hb'
  obtain ⟨_, c, hc⟩ := own_type h hb
  obtain ⟨_, c', hc'⟩ := own_type h' hb'
  rw [hc] at hc'
  injection hc' with hc'
  injection hc' with _ e1 _
  exact hne e1
theorem own_shape {w : World} {base : Nat} {e : TypeId} {size : Nat} {v : Value} {n : Nat} {xs : List Value} (h : w.ownsRow base e size v n xs) : ∃ A cap, v = .slice A n cap := by
  rcases h.2 with ⟨rfl, rfl⟩ | ⟨g, cap, cur, rfl, _⟩
  · exact ⟨_, _, rfl⟩
  · exact ⟨_, _, rfl⟩
/-- A store into a row that is owned. -/
theorem own_set {w : World} {base : Nat} {e : TypeId} {size : Nat} {g n cap : Nat} {xs : List Value} (h : w.ownsRow base e size (.slice (some ⟨g, 0, none⟩) n cap) n xs) {o : Nat} (_ho : o < n * size) (u : Value) : (w.setCell ⟨g, o, none⟩ u).ownsRow base e size (.slice (some ⟨g, 0, none⟩) n cap) n (xs.set o u) := by
  refine ⟨by rw [List.length_set]; exact h.1, ?_⟩
  rcases h.2 with ⟨hn, _⟩ | ⟨g', cap', cur, hv, hg, hh, h1, h2, h3, h4⟩
  · cases hn
  · simp only [Value.slice.injEq, Option.some.injEq, Addr.mk.injEq, and_true, true_and] at hv
    obtain ⟨rfl, rfl⟩ := hv
    refine .inr ⟨g, cap, cur.setIfInBounds o u, rfl, hg, by simp [World.setCell, Array.getElem?_modify, hh], h1, h2, by simpa using h3, ?_⟩
    rw [Array.toList_setIfInBounds, List.take_set, h4]
theorem own_setOther {w : World} {base : Nat} {e : TypeId} {size : Nat} {v : Value} {n : Nat} {xs : List Value} (h : w.ownsRow base e size v n xs) (p : Addr) (u : Value) (hp : v.ownBlock ≠ some p.block) : (w.setCell p u).ownsRow base e size v n xs := by
  refine ⟨h.1, ?_⟩
  rcases h.2 with hn | ⟨g, cap, cur, rfl, hg, hh, rest⟩
  · exact .inl hn
  · exact .inr ⟨g, cap, cur, rfl, hg, by rw [Below.heap_setCell w p u g (by rintro rfl; exact hp rfl)]; exact hh, rest⟩

namespace RefAtN
variable {w w' : World} {base q : Nat} {M : MemV} {L : List Nat} {v : Value} {wv : Nat → Value} {cnt : Nat → Nat}
theorem shape (h : RefAtN w base q M L v wv cnt) : ∃ A cap, v = .slice A L.length cap := own_shape h.own
theorem lt (h : RefAtN w base q M L v wv cnt) : q < w.heap.size := heap_lt h.head
theorem isQ (h : RefAtN w base q M L v wv cnt) : RefS w base q := ⟨h.bq, _, _, _, h.head, .inl rfl⟩
theorem isV (h : RefAtN w base q M L v wv cnt) {b : Nat} (hb : v.ownBlock = some b) : RefS w base b := by
  obtain ⟨h0, c, hc⟩ := own_type h.own hb
  exact ⟨h0, _, _, _, hc, .inr (.inl rfl)⟩
theorem isW (h : RefAtN w base q M L v wv cnt) {i : Nat} (hi : i ∈ L) {b : Nat} (hb : (wv i).ownBlock = some b) : RefS w base b := by
  obtain ⟨h0, c, hc⟩ := own_type (h.words i hi) hb
  exact ⟨h0, _, _, _, hc, .inr (.inr rfl)⟩
theorem keep {S : Nat → Prop} (h : RefAtN w base q M L v wv cnt) (K : Keep S w w') (hs : ∀ b, RefS w base b → ¬ S b) : RefAtN w' base q M L v wv cnt :=
  ⟨h.bq, by rw [K.block q h.lt (hs q h.isQ)]; exact h.head, own_keep K h.own (fun _ hb => hs _ (h.isV hb)), fun i hi => own_keep K (h.words i hi) (fun _ hb => hs _ (h.isW hi hb)), h.sep⟩
theorem cells (h : RefAtN w base q M L v wv cnt) : w.cell? ⟨q, 0, none⟩ = some (.int .i64 (M.lim : Int)) ∧ w.cell? ⟨q, 1, none⟩ = some v :=
  ⟨by rw [cell_of_row w q 0 _ _ _ h.head]; rfl, by rw [cell_of_row w q 1 _ _ _ h.head]; rfl⟩
theorem frozen (h : RefAtN w base q M L v wv cnt) (i : Nat) : w.frozen? ⟨q, i, none⟩ = false := by simp [World.frozen?, h.head]
/-- The row of one of the list. -/
theorem row (h : RefAtN w base q M L v wv cnt) {i : Nat} (hi : i < L.length) : ∃ g cap, v = .slice (some ⟨g, 0, none⟩) L.length cap ∧ g < w.heap.size ∧ (∀ j, w.frozen? ⟨g, j, none⟩ = false) ∧ ∀ f, f < 9 → w.cell? ⟨g, i * 9 + f, none⟩ = some (rc M wv (L.getD i 0) f) := by
  obtain ⟨g, cap, rfl, _, _⟩ := h.own.form (by omega)
  refine ⟨g, cap, rfl, (h.own.lt g rfl).2, fun j => h.own.frozenAt j, fun f hf => ?_⟩
  rw [h.own.cellAt _ (by omega), rcells_get M wv L i f hi hf]
theorem memL (_h : RefAtN w base q M L v wv cnt) {i : Nat} (hi : i < L.length) : L.getD i 0 ∈ L := by
  rw [List.getD_eq_getElem?_getD, List.getElem?_eq_getElem hi]
  exact List.getElem_mem _
/-- The row of the words of one of the list. -/
theorem wshape (h : RefAtN w base q M L v wv cnt) {i : Nat} (hi : i ∈ L) : ∃ A cap, wv i = .slice A (cnt i) cap := own_shape (h.words i hi)
theorem wrow (h : RefAtN w base q M L v wv cnt) {i : Nat} (hi : i ∈ L) {j : Nat} (hj : j < cnt i) : ∃ g cap, wv i = .slice (some ⟨g, 0, none⟩) (cnt i) cap ∧ g < w.heap.size ∧ (∀ j, w.frozen? ⟨g, j, none⟩ = false) ∧ w.cell? ⟨g, j, none⟩ = some (.int .u64 ((M.sg i).words j)) := by
  have ho := h.words i hi
  obtain ⟨g, cap, hv, _, _⟩ := ho.form (by omega)
  rw [hv] at ho
  refine ⟨g, cap, hv, (ho.lt g rfl).2, fun j => ho.frozenAt j, ?_⟩
  rw [ho.cellAt _ (by omega), wcells_get _ _ _ hj]
end RefAtN

theorem Keep.join {S S' : Nat → Prop} {w a b : World} (h : Keep S w a) (k : Keep S' a b) (hs : ∀ i, i < w.heap.size → S' i → S i) : Keep S w b :=
  ⟨k.os.trans h.os, k.tape.trans h.tape, k.output.trans h.output, Nat.le_trans h.size k.size, fun i hi hn => (k.block i (Nat.lt_of_lt_of_le hi h.size) (fun e => hn (hs i hi e))).trans (h.block i hi hn)⟩
theorem RefAt.keep {S : Nat → Prop} {w w' : World} {base q : Nat} {M : MemV} {L : List Nat} (h : RefAt w base q M L) (K : Keep S w w') (hs : ∀ b, RefS w base b → ¬ S b) : RefAt w' base q M L := by
  obtain ⟨ht, v, wv, R⟩ := h
  exact ⟨ht, v, wv, R.keep K hs⟩
theorem RefAt.keep0 {w w' : World} {base q : Nat} {M : MemV} {L : List Nat} (h : RefAt w base q M L) (K : Keep (fun _ => False) w w') : RefAt w' base q M L := h.keep K (fun _ _ => id)
theorem notMine {w : World} {p g base : Nat} {M : MemV} (h : MemAt w p g M) : ∀ b, RefS w base b → ¬ Mine p g b := by
  rintro b hb (rfl | rfl)
  · exact h.notRef.1 hb
  · exact h.notRef.2 hb
theorem refS_from {w : World} {base B : Nat} (h : B ≤ base) : ∀ i, RefS w base i → B ≤ i := fun _i hi => Nat.le_trans h hi.1

end Go.Proofs.Ytgnpeciedefeiaa
