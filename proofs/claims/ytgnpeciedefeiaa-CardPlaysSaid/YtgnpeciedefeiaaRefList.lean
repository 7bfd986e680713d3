/-
  The list of the segments that are taken, by all calls: plain Lean, no program in sight.
-/
import Derived.Test.YtgnpeciedefeiaaRefStore
import Derived.Test.YtgnpeciedefeiaaAll
namespace Go.Proofs.Ytgnpeciedefeiaa
open Go.RowKit

theorem perm_of_mem : ∀ (l m : List Nat), l.Nodup → m.Nodup → (∀ a, a ∈ l ↔ a ∈ m) → l.Perm m
  | [], m, _, _, h => by
    have : m = [] := by
      cases m with
      | nil => rfl
      | cons x m => exact absurd ((h x).2 (List.mem_cons_self ..)) (by simp)
    rw [this]
  | a :: l, m, hl, hm, h => by
    have ha : a ∈ m := (h a).1 (List.mem_cons_self ..)
    have hl' := List.nodup_cons.1 hl
    refine (List.Perm.cons a (perm_of_mem l (m.erase a) hl'.2 (hm.erase a) ?_)).trans (List.perm_cons_erase ha).symm
    intro x
    rw [hm.mem_erase_iff, ← h x]
    constructor
    · intro hx
      exact ⟨fun e => hl'.1 (e ▸ hx), List.mem_cons_of_mem _ hx⟩
    · rintro ⟨h1, h2⟩
      rcases List.mem_cons.1 h2 with h2 | h2
      · exact absurd h2 h1
      · exact h2
theorem nodup_of_rise (f : Nat → Int) {l : List Nat} (h : l.Pairwise (fun i j => f i < f j)) : l.Nodup := h.imp (fun {a b} hab e => by subst e; omega)
theorem rise_unique (f : Nat → Int) : ∀ (l m : List Nat), l.Pairwise (fun i j => f i < f j) → m.Pairwise (fun i j => f i < f j) → (∀ a, a ∈ l ↔ a ∈ m) → l = m
  | [], m, _, _, h => by
    cases m with
    | nil => rfl
    | cons x m => exact absurd ((h x).2 (List.mem_cons_self ..)) (by simp)
  | a :: l, [], _, _, h => absurd ((h a).1 (List.mem_cons_self ..)) (by simp)
  | a :: l, b :: m, hl, hm, h => by
    have hl' := List.pairwise_cons.1 hl
    have hm' := List.pairwise_cons.1 hm
    have e : a = b := by
      rcases List.mem_cons.1 ((h a).1 (List.mem_cons_self ..)) with e | ha
      · exact e
      · rcases List.mem_cons.1 ((h b).2 (List.mem_cons_self ..)) with e | hb
        · exact e.symm
        · have := hm'.1 a ha
          have := hl'.1 b hb
          omega
    subst e
    rw [rise_unique f l m hl'.2 hm'.2 ?_]
    intro x
    constructor
    · intro hx
      rcases List.mem_cons.1 ((h x).1 (List.mem_cons_of_mem _ hx)) with e | hx'
      · subst e
        have := hl'.1 x hx
        omega
      · exact hx'
    · intro hx
      rcases List.mem_cons.1 ((h x).2 (List.mem_cons_of_mem _ hx)) with e | hx'
      · subst e
        have := hm'.1 x hx
        omega
      · exact hx'

theorem TakenL.iff {M : MemV} {gs : List Int} {L : List Nat} (h : TakenL M gs L) (i : Nat) : i ∈ L ↔ i < M.lim ∧ selB M gs i = true := by
  rw [h.perm.mem_iff]
  unfold sel
  rw [List.mem_filter, List.mem_range]
theorem takenL_of_iff {M : MemV} {gs : List Int} {L : List Nat} (rise : L.Pairwise (fun i j => (M.sg i).taken < (M.sg j).taken)) (h : ∀ i, i ∈ L ↔ i < M.lim ∧ selB M gs i = true) : TakenL M gs L := by
  refine ⟨perm_of_mem _ _ (nodup_of_rise _ rise) ?_ (fun i => ?_), rise⟩
  · unfold sel
    exact List.Pairwise.filter _ List.nodup_range
  · rw [h i]
    unfold sel
    rw [List.mem_filter, List.mem_range]
theorem TakenL.unique {M : MemV} {gs : List Int} {L L' : List Nat} (h : TakenL M gs L) (h' : TakenL M gs L') : L = L' := rise_unique _ _ _ h.rise h'.rise (fun i => by rw [h.iff, h'.iff])
/-- Those of some generations. -/
theorem TakenL.filter {M : MemV} {L : List Nat} (h : TakenL M [] L) (gs : List Int) : TakenL M gs (L.filter fun i => decide (gs.length = 0) || hasB gs (M.sg i).gen) := by
  refine takenL_of_iff (h.rise.filter _) (fun i => ?_)
  rw [List.mem_filter, h.iff]
  simp [selB]
  constructor
  · rintro ⟨⟨h1, h2⟩, h3⟩; exact ⟨h1, h2, h3⟩
  · rintro ⟨h1, h2, h3⟩; exact ⟨⟨h1, h2⟩, h3⟩

theorem TakenL.took {M : MemV} (ok : M.Ok) {L : List Nat} (h : TakenL M [] L) {k : Nat} (hk : k < M.lim) (hz : (M.sg k).taken = 0) (gen kind : Int) : TakenL (M.took k gen kind) [] (L ++ [k]) := by
  have hc := ok.c0
  have hnot : ∀ i ∈ L, i ≠ k := by
    intro i hi e
    have := (h.mem hi).2
    rw [e, hz] at this
    omega
  have hsg : ∀ i, i ≠ k → (M.took k gen kind).sg i = M.sg i := fun i e => by simp [MemV.took, MemV.put, e]
  have hsk : ((M.took k gen kind).sg k).taken = M.count + 1 := by simp [MemV.took, MemV.put, Sg.fresh]
  refine takenL_of_iff ?_ (fun i => ?_)
  · rw [List.pairwise_append]
    refine ⟨?_, List.pairwise_singleton _ _, ?_⟩
    · have h2 : L.Pairwise (fun i j => i ∈ L ∧ j ∈ L ∧ (M.sg i).taken < (M.sg j).taken) := List.Pairwise.and_mem.1 h.rise
      refine h2.imp ?_
      rintro i j ⟨hi, hj, hij⟩
      rw [hsg i (hnot i hi), hsg j (hnot j hj)]
      exact hij
    · intro i hi j hj
      rw [List.mem_singleton] at hj
      subst hj
      rw [hsg i (hnot i hi), hsk]
      have := ok.t1 i (h.mem hi).1
      omega
  · rw [List.mem_append, List.mem_singleton, h.iff, selB_nil, selB_nil]
    show _ ↔ i < M.lim ∧ _
    by_cases e : i = k
    · subst e
      rw [hsk]
      omega
    · rw [hsg i e]
      constructor
      · rintro (h1 | h1)
        · exact h1
        · exact absurd h1 e
      · exact .inl
theorem TakenL.gave {M : MemV} {l1 l2 : List Nat} {k : Nat} (h : TakenL M [] (l1 ++ k :: l2)) : TakenL (M.gave k) [] (l1 ++ l2) := by
  have hnd := nodup_of_rise _ h.rise
  rw [List.nodup_append] at hnd
  obtain ⟨hn1, hn2, hn3⟩ := hnd
  rw [List.nodup_cons] at hn2
  have hsg : ∀ i, i ≠ k → (M.gave k).sg i = M.sg i := fun i e => by simp [MemV.gave, MemV.put, e]
  have hk1 : k ∉ l1 := fun hk => hn3 k hk k (List.mem_cons_self ..) rfl
  have hne : ∀ i ∈ l1 ++ l2, i ≠ k := by
    intro i hi e
    subst e
    rcases List.mem_append.1 hi with hi | hi
    · exact hk1 hi
    · exact hn2.1 hi
  have hr := h.rise
  rw [List.pairwise_append] at hr
  obtain ⟨r1, r2, r3⟩ := hr
  rw [List.pairwise_cons] at r2
  have hrise : (l1 ++ l2).Pairwise (fun i j => (M.sg i).taken < (M.sg j).taken) := by
    rw [List.pairwise_append]
    exact ⟨r1, r2.2, fun a ha b hb => r3 a ha b (List.mem_cons_of_mem _ hb)⟩
  refine takenL_of_iff ?_ (fun i => ?_)
  · have h2 : (l1 ++ l2).Pairwise (fun i j => i ∈ l1 ++ l2 ∧ j ∈ l1 ++ l2 ∧ (M.sg i).taken < (M.sg j).taken) := List.Pairwise.and_mem.1 hrise
    refine h2.imp ?_
    rintro i j ⟨hi, hj, hij⟩
    rw [hsg i (hne i hi), hsg j (hne j hj)]
    exact hij
  · have hi := h.iff i
    rw [List.mem_append, List.mem_cons, selB_nil] at hi
    rw [List.mem_append, selB_nil]
    show _ ↔ i < M.lim ∧ _
    by_cases e : i = k
    · subst e
      have : ((M.gave i).sg i).taken = 0 := by simp [MemV.gave, MemV.put, Sg.none]
      rw [this]
      constructor
      · rintro (h1 | h1)
        · exact absurd h1 hk1
        · exact absurd h1 hn2.1
      · rintro ⟨_, h1⟩
        omega
    · rw [hsg i e, ← hi]
      constructor
      · rintro (h1 | h1)
        · exact .inl h1
        · exact .inr (.inr h1)
      · rintro (h1 | h1 | h1)
        · exact .inl h1
        · exact absurd h1 e
        · exact .inr h1

theorem cntOf_congr {M M' : MemV} (h : ∀ i, (M'.sg i).n = (M.sg i).n) : cntOf M' = cntOf M := funext fun i => by unfold cntOf; rw [h]

/-- The cells of a slice that was laid at once. -/
theorem laid_at (w : World) (vs : List Value) (t : TypeId) : ∀ j u, vs[j]? = some u → (w.alloc (.cells vs.toArray t)).cell? ((⟨w.heap.size, 0, none⟩ : Addr).add j) = some u := by
  intro j u h
  rw [show ((⟨w.heap.size, 0, none⟩ : Addr).add j) = ⟨w.heap.size, j, none⟩ from by simp [Addr.add]; exact fun h => h.symm, cell_of_row _ _ _ _ _ _ (heap_alloc_new w _)]
  simpa using h

/-- One more behind the list. -/
theorem RefAtN.snoc {w w2 : World} {base q : Nat} {M : MemV} {L : List Nat} {v v' : Value} {wv : Nat → Value} (R : RefAtN w base q M L v wv (cntOf M)) (T : TakenL M [] L) {k : Nat} (hz : (M.sg k).taken = 0) (gen kind : Int)
    (hown : w2.ownsRow base 125 9 v' (L.length + 1) (rcells M wv L ++ [.int .i64 (k : Int), .int .i64 gen, .int .i64 kind, .int .i64 0, .int .i64 5, .int .i64 5, .int .i64 5, .int .i64 5, .slice none 0 0])) (K : Keep (fun b => some b = v.ownBlock) w w2) :
    RefAtN (w2.setCell ⟨q, 1, none⟩ v') base q (M.took k gen kind) (L ++ [k]) v' (fun i => if i = k then .slice none 0 0 else wv i) (cntOf (M.took k gen kind)) := by
  have hnot : ∀ i ∈ L, i ≠ k := by
    intro i hi e
    have := (T.mem hi).2
    rw [e, hz] at this
    omega
  have hsg : ∀ i, i ≠ k → (M.took k gen kind).sg i = M.sg i := fun i e => by simp [MemV.took, MemV.put, e]
  have hsk : (M.took k gen kind).sg k = Sg.fresh gen kind (M.count + 1) := by simp [MemV.took, MemV.put]
  have hq : some q ≠ v.ownBlock := by
    intro e
    obtain ⟨_, c, hc⟩ := own_type R.own e.symm
    rw [R.head] at hc
    injection hc with hc
    injection hc with _ hc _
    exact absurd hc (by decide)
  have hhead := (K.block q R.lt hq).trans R.head
  have hcells : rcells M wv L ++ [.int .i64 (k : Int), .int .i64 gen, .int .i64 kind, .int .i64 0, .int .i64 5, .int .i64 5, .int .i64 5, .int .i64 5, .slice none 0 0] = rcells (M.took k gen kind) (fun i => if i = k then .slice none 0 0 else wv i) (L ++ [k]) := by
    rw [rcells_snoc, ← rcells_ext (M := M) (M' := M.took k gen kind) (wv := wv) (wv' := fun i => if i = k then .slice none 0 0 else wv i) (L := L) ?_]
    · congr 1
      simp [List.range_succ, rc, hsk, Sg.fresh]
    · intro i hi f hf
      have e := hnot i hi
      match f, hf with
      | 0, _ | 1, _ | 2, _ | 3, _ | 4, _ | 5, _ | 6, _ | 7, _ | 8, _ => simp [rc, hsg i e, e]
  have hqv' : v'.ownBlock ≠ some q := by
    intro e
    obtain ⟨_, c, hc⟩ := own_type hown e
    rw [hhead] at hc
    injection hc with hc
    injection hc with _ hc _
    exact absurd hc (by decide)
  have hw : ∀ i ∈ L, w2.ownsRow base 29 1 (wv i) (cntOf M i) (wcells (M.sg i) (cntOf M i)) := fun i hi => own_keep K (R.words i hi) (fun b hb e => own_type_ne (R.words i hi) R.own (by decide) hb e.symm)
  have hqw : ∀ i ∈ L, (wv i).ownBlock ≠ some q := by
    intro i hi e
    obtain ⟨_, c, hc⟩ := own_type (hw i hi) e
    rw [hhead] at hc
    injection hc with hc
    injection hc with _ hc _
    exact absurd hc (by decide)
  refine ⟨R.bq, ?_, ?_, fun i hi => ?_, fun i hi j hj hij b hb => ?_⟩
  · simp [World.setCell, Array.getElem?_modify, hhead]
    rfl
  · rw [← hcells, List.length_append]
    exact own_setOther hown _ _ hqv'
  · by_cases e : i = k
    · subst e
      have : cntOf (M.took i gen kind) i = 0 := by simp [cntOf, hsk, Sg.fresh]
      rw [this, if_pos rfl]
      exact World.ownsRow_nil _ _ _ _
    · have hi' : i ∈ L := by
        rcases List.mem_append.1 hi with h | h
        · exact h
        · exact absurd (List.mem_singleton.1 h) e
      rw [if_neg e, show cntOf (M.took k gen kind) i = cntOf M i from by simp [cntOf, hsg i e], hsg i e]
      exact own_setOther (hw i hi') _ _ (hqw i hi')
  · by_cases e : i = k
    · rw [if_pos e] at hb; cases hb
    · by_cases e' : j = k
      · rw [if_pos e']; simp [Value.ownBlock]
      · rw [if_neg e] at hb
        rw [if_neg e']
        have hi' : i ∈ L := by
          rcases List.mem_append.1 hi with h | h
          · exact h
          · exact absurd (List.mem_singleton.1 h) e
        have hj' : j ∈ L := by
          rcases List.mem_append.1 hj with h | h
          · exact h
          · exact absurd (List.mem_singleton.1 h) e'
        exact R.sep i hi' j hj' hij b hb
end Go.Proofs.Ytgnpeciedefeiaa
