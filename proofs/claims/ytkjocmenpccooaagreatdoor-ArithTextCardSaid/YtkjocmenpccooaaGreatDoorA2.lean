/-
  Numbers, by program: texts of another seat, turned to this one.
-/
import Derived.Test.YtkjocmenpccooaaGreatDoorA1
namespace Go.Proofs.YtkjocmenpccooaaGreatDoor
open Go.RowKit
/-- A space: its memory, and of each generation and kind one above the current segment. -/
structure SpV where
  M : MemV
  cur : Nat → Nat → Int
/-- The space S lies at block s, its memory at p and g. -/
structure SpAt (w : World) (s p g : Nat) (S : SpV) : Prop where
  head : ∃ c, w.heap[s]? = some (.cells c 139 (0, 0))
  ptr : w.cell? ⟨s, 0, none⟩ = some (.pointer (some ⟨p, 0, none⟩))
  cur : ∀ i k, i < 5 → k < 4 → w.cell? ⟨s, 1 + i * 4 + k, none⟩ = some (.int .i64 (S.cur i k))
  mem : MemAt w p g S.M
/-- The space's own block and those of its memory. -/
abbrev MineS (s p g : Nat) : Nat → Prop := fun b => b = s ∨ Mine p g b
theorem SpAt.lt {w : World} {s p g : Nat} {S : SpV} (h : SpAt w s p g S) : s < w.heap.size := World.block_lt_of_cell? w _ h.ptr
theorem SpAt.ne {w : World} {s p g : Nat} {S : SpV} (h : SpAt w s p g S) : s ≠ p ∧ s ≠ g := by
  obtain ⟨c, hc⟩ := h.head
  obtain ⟨d, hd⟩ := h.mem.head
  obtain ⟨⟨e, he⟩, _⟩ := h.mem.segs
  constructor
  · rintro rfl
    rw [hc] at hd
    injection hd with hd
    injection hd with _ hd
    exact absurd hd (by decide)
  · rintro rfl
    rw [hc] at he
    injection he with he
    injection he with _ he
    exact absurd he (by decide)
theorem SpAt.notMine {w : World} {s p g : Nat} {S : SpV} (h : SpAt w s p g S) : ¬ Mine p g s := by
  rintro (e | e)
  · exact h.ne.1 e
  · exact h.ne.2 e
theorem SpAt.frozen {w : World} {s p g : Nat} {S : SpV} (h : SpAt w s p g S) (i : Nat) : w.frozen? ⟨s, i, none⟩ = false := by
  obtain ⟨c, hc⟩ := h.head
  simp [World.frozen?, hc]
theorem SpAt.keep {T : Nat → Prop} {w w' : World} {s p g : Nat} {S : SpV} (h : SpAt w s p g S) (k : Keep T w w') (hs : ¬ T s) (hp : ¬ T p) (hg : ¬ T g) : SpAt w' s p g S :=
  ⟨by obtain ⟨c, hc⟩ := h.head; exact ⟨c, by rw [k.block s h.lt hs]; exact hc⟩, (k.cell (p := ⟨s, 0, none⟩) h.lt hs).trans h.ptr, fun i j hi hj => (k.cell (p := ⟨s, 1 + i * 4 + j, none⟩) h.lt hs).trans (h.cur i j hi hj), h.mem.keep k hp hg⟩
theorem SpAt.keep0 {w w' : World} {s p g : Nat} {S : SpV} (h : SpAt w s p g S) (k : Keep (fun _ => False) w w') : SpAt w' s p g S := h.keep k id id id
/-- Another memory in the place of its memory. -/
theorem SpAt.keepM {w w' : World} {s p g : Nat} {S : SpV} {M' : MemV} (h : SpAt w s p g S) (k : Keep (Mine p g) w w') (m : MemAt w' p g M') : SpAt w' s p g { S with M := M' } :=
  ⟨by obtain ⟨c, hc⟩ := h.head; exact ⟨c, by rw [k.block s h.lt h.notMine]; exact hc⟩, (k.cell (p := ⟨s, 0, none⟩) h.lt h.notMine).trans h.ptr, fun i j hi hj => (k.cell (p := ⟨s, 1 + i * 4 + j, none⟩) h.lt h.notMine).trans (h.cur i j hi hj), m⟩
/-- One of the current segments is another. -/
def SpV.set (S : SpV) (i k : Nat) (v : Int) : SpV := { S with cur := fun a b => if a = i ∧ b = k then v else S.cur a b }
theorem SpAt.setCur {w : World} {s p g : Nat} {S : SpV} (h : SpAt w s p g S) {i k : Nat} (hi : i < 5) (hk : k < 4) (v : Int) : SpAt (w.setCell ⟨s, 1 + i * 4 + k, none⟩ (.int .i64 v)) s p g (S.set i k v) := by
  refine ⟨?_, ?_, ?_, ?_⟩
  · obtain ⟨c, hc⟩ := h.head
    exact ⟨c.setIfInBounds (1 + i * 4 + k) (.int .i64 v), by simp [World.setCell, Array.getElem?_modify, hc]⟩
  · rw [World.cell?_setCell_other _ _ _ _ (by intro e; injection e with _ e _; omega)]
    exact h.ptr
  · intro a b ha hb
    by_cases e : a = i ∧ b = k
    · obtain ⟨rfl, rfl⟩ := e
      rw [World.cell?_setCell_same _ _ _ (h.cur a b hi hk)]
      simp [SpV.set]
    · rw [World.cell?_setCell_other _ _ _ _ (by intro e'; injection e' with _ e' _; omega), h.cur a b ha hb]
      simp [SpV.set, e]
  · exact h.mem.keep ((Keep.refl (fun b => b = s) w).setCell (.inl rfl) _) (fun e => h.ne.1 e.symm) (fun e => h.ne.2 e.symm)
/-- May so many words of a generation and a kind be put? -/
def May8 (gen kind n : Int) : Prop := 0 ≤ gen ∧ gen ≤ 4 ∧ (((kind = 0 ∨ kind = 1) ∧ n = 2) ∨ ((kind = 2 ∨ kind = 3) ∧ 1 ≤ n ∧ n ≤ 63))
theorem May8.lo {gen kind n : Int} (h : May8 gen kind n) : 0 ≤ gen ∧ gen ≤ 4 ∧ 0 ≤ kind ∧ kind ≤ 3 ∧ 1 ≤ n ∧ n ≤ 63 := by unfold May8 at h; omega
set_option maxRecDepth 100000 in
set_option maxHeartbeats 400000 in
theorem none_no {w : World} {s : Nat} {v : Addr} (h : w.cell? ⟨s, 0, none⟩ = some (.pointer (some v))) :
    Calls Tryz.prog 133 #[.pointer (some ⟨s, 0, none⟩)] w fun e w' => e = .returned (.bool false) ∧ w = w' := by
  go_enter Tryz.func133, Tryz.ntmps133
  go_wp2
  go_ret
  exact ⟨rfl, rfl⟩
set_option maxRecDepth 100000 in
set_option maxHeartbeats 1000000 in
theorem may_yes (gen kind n : Int) (w : World) (h : May8 gen kind n) : Calls Tryz.prog 134 #[.int .i64 gen, .int .i64 kind, .int .i64 n] w fun e w' => e = .returned (.bool true) ∧ w = w' := by
  obtain ⟨h0, h1, h2⟩ := h
  rcases h2 with ⟨rfl | rfl, rfl⟩ | ⟨rfl | rfl, h3, h4⟩
  all_goals
    go_enter Tryz.func134, Tryz.ntmps134
    go_wp2
    go_ret
    exact ⟨rfl, rfl⟩
set_option maxRecDepth 100000 in
set_option maxHeartbeats 2000000 in
theorem may_no (gen kind n : Int) (w : World) (h : ¬ May8 gen kind n) : Calls Tryz.prog 134 #[.int .i64 gen, .int .i64 kind, .int .i64 n] w fun e w' => e = .returned (.bool false) ∧ w = w' := by
  unfold May8 at h
  by_cases a : gen < 0
  · clear h
    go_enter Tryz.func134, Tryz.ntmps134
    go_wp2
    go_ret
    exact ⟨rfl, rfl⟩
  by_cases b : 4 < gen
  · clear h
    go_enter Tryz.func134, Tryz.ntmps134
    go_wp2
    go_ret
    exact ⟨rfl, rfl⟩
  by_cases c0 : kind = 0
  · subst c0
    have e : (n == 2) = false := by simp; omega
    clear h
    go_enter Tryz.func134, Tryz.ntmps134
    go_wp2
    go_ret
    exact ⟨rfl, rfl⟩
  by_cases c1 : kind = 1
  · subst c1
    have e : (n == 2) = false := by simp; omega
    clear h
    go_enter Tryz.func134, Tryz.ntmps134
    go_wp2
    go_ret
    exact ⟨rfl, rfl⟩
  have e0 : (kind == 0) = false := by simpa using c0
  have e1 : (kind == 1) = false := by simpa using c1
  by_cases d : kind = 2 ∨ kind = 3
  · by_cases hn : n < 1
    · rcases d with rfl | rfl
      all_goals
        clear h c0 c1 e0 e1
        go_enter Tryz.func134, Tryz.ntmps134
        go_wp2
        go_ret
        exact ⟨rfl, rfl⟩
    · have hn2 : 63 < n := by omega
      have hn3 : decide (n ≤ 63) = false := by simp; omega
      rcases d with rfl | rfl
      all_goals
        clear h c0 c1 e0 e1
        go_enter Tryz.func134, Tryz.ntmps134
        go_wp2
        go_ret
        exact ⟨rfl, rfl⟩
  · have e2 : (kind == 2) = false := by simp; omega
    have e3 : (kind == 3) = false := by simp; omega
    clear h c0 c1 d
    go_enter Tryz.func134, Tryz.ntmps134
    go_wp2
    go_ret
    exact ⟨rfl, rfl⟩
set_option maxRecDepth 100000 in
set_option maxHeartbeats 1000000 in
theorem current_zero {w : World} {s p g : Nat} {S : SpV} (h : SpAt w s p g S) {i k : Nat} {gen kind : Int} (hg : gen = i) (hk : kind = k) (hi : i < 5) (hj : k < 4) (hc : S.cur i k = 0) :
    Calls Tryz.prog 135 #[.pointer (some ⟨s, 0, none⟩), .int .i64 gen, .int .i64 kind] w fun e w' => e = .returned (.tuple #[.int .i64 0, .bool false]) ∧ w = w' := by
  subst hg hk
  have h0 := h.cur i k hi hj
  rw [hc] at h0
  clear hc
  go_enter Tryz.func135, Tryz.ntmps135
  go_wp2
  go_ret2
  exact ⟨rfl, rfl⟩
set_option maxRecDepth 100000 in
set_option maxHeartbeats 1000000 in
theorem current_some {w : World} {s p g : Nat} {S : SpV} (h : SpAt w s p g S) {i k q : Nat} {gen kind : Int} (hg : gen = i) (hk : kind = k) (hi : i < 5) (hj : k < 4) (hc : S.cur i k = q + 1) (hq : q ≤ 1024) :
    Calls Tryz.prog 135 #[.pointer (some ⟨s, 0, none⟩), .int .i64 gen, .int .i64 kind] w fun e w' => e = .returned (.tuple #[.int .i64 q, .bool true]) ∧ w = w' := by
  subst hg hk
  have h0 := h.cur i k hi hj
  rw [hc] at h0
  have hz : ((q : Int) + 1 == 0) = false := by simp; omega
  clear hc
  go_enter Tryz.func135, Tryz.ntmps135
  go_wp2
  go_ret2
  exact ⟨rfl, rfl⟩
open Go.RowKit
/-- What holds of a space behind whatever calls. -/
structure SpV.Ok (S : SpV) : Prop where
  mem : S.M.Ok
  cur : ∀ i k, i < 5 → k < 4 → S.cur i k = 0 ∨ ∃ q : Nat, S.cur i k = q + 1 ∧ q < S.M.lim ∧ 0 < (S.M.sg q).taken ∧ (S.M.sg q).gen = i ∧ (S.M.sg q).kind = k
theorem SpV.Ok.put {S : SpV} (h : S.Ok) {k : Nat} {s : Sg} (hm : (S.M.put k s).Ok) (ht : s.taken = (S.M.sg k).taken) (hg : s.gen = (S.M.sg k).gen) (hk : s.kind = (S.M.sg k).kind) : ({ S with M := S.M.put k s } : SpV).Ok := by
  refine ⟨hm, fun i j hi hj => ?_⟩
  rcases h.cur i j hi hj with h0 | ⟨q, h1, h2, h3, h4, h5⟩
  · exact .inl h0
  · refine .inr ⟨q, h1, h2, ?_⟩
    simp only [MemV.put]
    split
    · rename_i e
      subst e
      exact ⟨by omega, by omega, by omega⟩
    · exact ⟨h3, h4, h5⟩
theorem SpV.Ok.took {S : SpV} (h : S.Ok) {q : Nat} (hq : q < S.M.lim) (hz : (S.M.sg q).taken = 0) {gen kind : Int} (h0 : 0 ≤ gen) (h1 : gen ≤ 4) (h2 : 0 ≤ kind) (h3 : kind ≤ 3) : ({ S with M := S.M.took q gen kind } : SpV).Ok := by
  refine ⟨h.mem.took hq hz h0 h1 h2 h3, fun i j hi hj => ?_⟩
  rcases h.cur i j hi hj with h0 | ⟨q', h1, h2, h3, h4, h5⟩
  · exact .inl h0
  · refine .inr ⟨q', h1, h2, ?_⟩
    have hne : q' ≠ q := by rintro rfl; omega
    simp only [MemV.took, MemV.put, if_neg hne]
    exact ⟨h3, h4, h5⟩
theorem SpV.Ok.setq {S : SpV} (h : S.Ok) {i k q : Nat} (hq : q < S.M.lim) (ht : 0 < (S.M.sg q).taken) (hg : (S.M.sg q).gen = i) (hk : (S.M.sg q).kind = k) : (S.set i k (q + 1)).Ok := by
  refine ⟨h.mem, fun a b ha hb => ?_⟩
  by_cases e : a = i ∧ b = k
  · obtain ⟨rfl, rfl⟩ := e
    exact .inr ⟨q, by simp [SpV.set], hq, ht, hg, hk⟩
  · have := h.cur a b ha hb
    simpa [SpV.set, e] using this
/-- A space as New makes it. -/
def SpV.new (lim : Nat) : SpV := { M := MemV.new lim, cur := fun _ _ => 0 }
theorem SpV.Ok.new {lim : Nat} (h8 : 8 ≤ lim) (h1024 : lim ≤ 1024) : (SpV.new lim).Ok := ⟨MemV.Ok.new h8 h1024, fun _ _ _ _ => .inl rfl⟩
def New8Post (lim : Nat) (w : World) (e : Ending) (w' : World) : Prop :=
  ∃ s p g : Nat, e = .returned (.tuple #[.pointer (some ⟨s, 0, none⟩), .int .i64 0]) ∧ w.heap.size ≤ s ∧ w.heap.size ≤ p ∧ w.heap.size ≤ g ∧ SpAt w' s p g (SpV.new lim) ∧ Keep (fun _ => False) w w'
set_option maxRecDepth 100000 in
theorem new8_yes (lim : Nat) (limit : Int) (w : World) (hl : limit = lim) (h8 : 8 ≤ lim) (h1024 : lim ≤ 1024) :
    Calls Tryz.prog 46 #[.int .i64 limit] w (New8Post lim w) := by
  subst hl
  go_enter Tryz.func46, Tryz.ntmps46
  go_wp2_with fail
  refine (new_yes lim _ _ rfl h8 h1024).mono ?_
  rintro e w1 ⟨rfl, m1, k1⟩
  go_wp2_with fail
  go_ret2
  have hz := k1.size
  refine ⟨_, _, _, rfl, hz, Nat.le_succ _, Nat.le_refl _, ⟨⟨_, heap_alloc_new _ _⟩, ?_, ?_, m1.keep ((Keep.refl (fun _ => False) _).alloc _) (by simp) (by simp)⟩, k1.alloc _⟩
  · rw [World.cell?_alloc_new]; rfl
  · intro i k hi hk
    rw [World.cell?_alloc_new]
    have : ∀ i, i < 5 → ∀ k, k < 4 → (#[Value.pointer (some ⟨w.heap.size + 1, 0, none⟩), .int .i64 0, .int .i64 0, .int .i64 0, .int .i64 0, .int .i64 0, .int .i64 0, .int .i64 0, .int .i64 0, .int .i64 0, .int .i64 0, .int .i64 0, .int .i64 0, .int .i64 0, .int .i64 0, .int .i64 0, .int .i64 0, .int .i64 0, .int .i64 0, .int .i64 0, .int .i64 0] : Array Value)[1 + i * 4 + k]? = some (.int .i64 0) := by
      intro i hi k hk
      match i, hi with
      | 0, _ | 1, _ | 2, _ | 3, _ | 4, _ =>
        match k, hk with
        | 0, _ | 1, _ | 2, _ | 3, _ => rfl
    exact this i hi k hk
/-- None fits: there is no current segment, or it has too little left. -/
def NoFit (S : SpV) (gen kind n : Int) : Prop := ∀ q : Nat, S.cur gen.toNat kind.toNat = q + 1 → 64 - (S.M.sg q).n < n
def AllocR (S : SpV) (gen kind n a f : Int) (S' : SpV) : Prop :=
  (¬ May8 gen kind n ∧ a = 0 ∧ f = 1 ∧ S' = S) ∨
  (May8 gen kind n ∧ ∃ q : Nat, S.cur gen.toNat kind.toNat = q + 1 ∧ n ≤ 64 - (S.M.sg q).n ∧ a = q * 64 + (S.M.sg q).n ∧ f = 0 ∧ S' = { S with M := S.M.bumped q n }) ∨
  (May8 gen kind n ∧ NoFit S gen kind n ∧ S.M.free = 0 ∧ a = 0 ∧ f = 2 ∧ S' = S) ∨
  (May8 gen kind n ∧ NoFit S gen kind n ∧ ∃ q : Nat, 0 < S.M.free ∧ q < S.M.lim ∧ (S.M.sg q).taken = 0 ∧ (∀ i, i < q → 0 < (S.M.sg i).taken) ∧ a = q * 64 ∧ f = 0 ∧
    S' = { ({ S with M := S.M.took q gen kind } : SpV).set gen.toNat kind.toNat (q + 1) with M := (S.M.took q gen kind).bumped q n })
def AllocPost (s p g : Nat) (S : SpV) (gen kind n : Int) (w : World) (e : Ending) (w' : World) : Prop :=
  ∃ (S' : SpV) (a f : Int), e = .returned (.tuple #[.int .i64 a, .int .i64 f]) ∧ SpAt w' s p g S' ∧ Keep (MineS s p g) w w' ∧ S'.Ok ∧ S'.M.count ≤ S.M.count + 1 ∧ S'.M.lim = S.M.lim ∧ AllocR S gen kind n a f S'
theorem Keep.mineS {s p g : Nat} {w w' : World} (k : Keep (Mine p g) w w') : Keep (MineS s p g) w w' := k.mono (fun _ _ h => .inr h)
theorem took_sg (M : MemV) (q : Nat) (gen kind : Int) : (M.took q gen kind).sg q = Sg.fresh gen kind (M.count + 1) := by simp [MemV.took, MemV.put]
/-- The tail of Alloc, said of its end. -/
theorem alloc_new_end {w w1 w2 : World} {s p g q : Nat} {S : SpV} {gen kind n : Int} (ok : S.Ok) (may : May8 gen kind n) (nf : NoFit S gen kind n) (hf : 0 < S.M.free) (hq : q < S.M.lim) (hz : (S.M.sg q).taken = 0) (hlow : ∀ i, i < q → 0 < (S.M.sg i).taken)
    (k0 : Keep (MineS s p g) w w1) (h1 : SpAt w1 s p g (({ S with M := S.M.took q gen kind } : SpV).set gen.toNat kind.toNat (q + 1))) (m2 : MemAt w2 p g ((S.M.took q gen kind).bumped q n)) (k2 : Keep (Mine p g) w1 w2) :
    AllocPost s p g S gen kind n w (.returned (.tuple #[.int .i64 (q * 64), .int .i64 0])) w2 := by
  have lo := may.lo
  have ok1 := ok.took hq hz lo.1 lo.2.1 lo.2.2.1 lo.2.2.2.1
  have c0 := ok.mem.c0
  have ok2 : (({ S with M := S.M.took q gen kind } : SpV).set gen.toNat kind.toNat (q + 1)).Ok := ok1.setq hq (by show 0 < ((S.M.took q gen kind).sg q).taken; rw [took_sg]; show 0 < S.M.count + 1; omega) (by show ((S.M.took q gen kind).sg q).gen = _; rw [took_sg]; show gen = _; omega) (by show ((S.M.took q gen kind).sg q).kind = _; rw [took_sg]; show kind = _; omega)
  have e0 : ((S.M.took q gen kind).sg q).n = 0 := by rw [took_sg]; rfl
  refine ⟨_, _, _, rfl, h1.keepM k2 m2, k0.trans k2.mineS, ok2.put (k := q) (ok1.mem.bumped hq (by show 0 < ((S.M.took q gen kind).sg q).taken; rw [took_sg]; show 0 < S.M.count + 1; omega) lo.2.2.2.2.1 (by rw [e0]; omega)) rfl rfl rfl, ?_, rfl, .inr (.inr (.inr ⟨may, nf, q, hf, hq, hz, hlow, rfl, rfl, rfl⟩))⟩
  show S.M.count + 1 ≤ S.M.count + 1
  omega
set_option maxRecDepth 10000 in
set_option maxHeartbeats 4000000 in
theorem alloc_any {w : World} {s p g : Nat} {S : SpV} (h : SpAt w s p g S) (ok : S.Ok) (hc : S.M.count ≤ 1000000) (gen kind n : Int) :
    Calls Tryz.prog 101 #[.pointer (some ⟨s, 0, none⟩), .int .i64 gen, .int .i64 kind, .int .i64 n] w (AllocPost s p g S gen kind n w) := by
  have hp := h.ptr
  by_cases may : May8 gen kind n
  · have lo := may.lo
    obtain ⟨i, rfl⟩ := Int.eq_ofNat_of_zero_le lo.1
    obtain ⟨k, rfl⟩ := Int.eq_ofNat_of_zero_le lo.2.2.1
    obtain ⟨hi, hk, n1, n63⟩ : i < 5 ∧ k < 4 ∧ 1 ≤ n ∧ n ≤ 63 := by omega
    have l1024 := ok.mem.l1024
    have hnew : NoFit S i k n → 0 < S.M.free → ∃ q, q < S.M.lim ∧ (S.M.sg q).taken = 0 ∧ ∀ i, i < q → 0 < (S.M.sg i).taken := by
      intro _ hf
      obtain ⟨q, hq, hz, hlow⟩ := frees_least S.M.sg S.M.lim (by have := ok.mem.fr; omega)
      exact ⟨q, hq, hz, fun i hi => by have := ok.mem.t0 i (by omega); have := hlow i hi; omega⟩
    have hfree0 := ok.mem.f0
    rcases ok.cur i k hi hk with c0 | ⟨q, c1, hq, ht, hg, hkd⟩
    · have nf : NoFit S i k n := by intro q hq; simp only [Int.toNat_natCast] at hq; omega
      have Nf := Lib.hid nf
      by_cases fz : S.M.free = 0
      · have Fz := Lib.hid fz
        have C0 := Lib.hid c0
        have May := Lib.hid may
        clear nf hnew fz c0 may lo
        go_enter Tryz.func101, Tryz.ntmps101
        go_wp2_with fail
        refine (none_no hp).mono ?_
        rintro e w1 ⟨rfl, rfl⟩
        go_wp2_with fail
        refine (may_yes _ _ _ _ May.out).mono ?_
        rintro e w1 ⟨rfl, rfl⟩
        go_wp2_with fail
        refine (current_zero h rfl rfl hi hk C0.out).mono ?_
        rintro e w1 ⟨rfl, rfl⟩
        go_wp2_with fail
        refine (take_full p g S.M _ _ _ h.mem ok.mem.l8 l1024 (by omega) (by omega) (by omega) (by omega) Fz.out).mono ?_
        rintro e w1 ⟨rfl, rfl⟩
        go_wp2_with fail
        go_ret2
        exact ⟨S, 0, 2, rfl, h, Keep.refl _ _, ok, by omega, rfl, .inr (.inr (.inl ⟨May.out, Nf.out, Fz.out, rfl, rfl, rfl⟩))⟩
      · have hf : 0 < S.M.free := by omega
        obtain ⟨q, hq, hz, hlow⟩ := hnew nf hf
        have f1 := ok.mem.f1
        have Hz := Lib.hid hz
        have Hlow := Lib.hid hlow
        have C0 := Lib.hid c0
        have May := Lib.hid may
        clear nf hnew fz c0 may hz hlow lo
        go_enter Tryz.func101, Tryz.ntmps101
        go_wp2_with fail
        refine (none_no hp).mono ?_
        rintro e w1 ⟨rfl, rfl⟩
        go_wp2_with fail
        refine (may_yes _ _ _ _ May.out).mono ?_
        rintro e w1 ⟨rfl, rfl⟩
        go_wp2_with fail
        refine (current_zero h rfl rfl hi hk C0.out).mono ?_
        rintro e w1 ⟨rfl, rfl⟩
        go_wp2_with fail
        refine (take_yes p g S.M q _ _ _ h.mem ok.mem.l8 l1024 (by omega) (by omega) (by omega) (by omega) (by omega) (by omega) ok.mem.c0 hc hq Hlow.out Hz.out).mono ?_
        rintro e w1 ⟨rfl, m1, k1⟩
        have h1 := h.keepM k1 m1
        have p1 := h1.ptr
        have f1 := h1.frozen (1 + i * 4 + k)
        have q1 := h1.cur i k hi hk
        have h2 := h1.setCur hi hk (q + 1)
        have p2 := h2.ptr
        have K := Lib.hid ((k1.mineS (s := s)).setCell (p := ⟨s, 1 + i * 4 + k, none⟩) (.inl (.inl rfl)) (.int .i64 (q + 1)))
        go_wp2_with fail
        refine (bump_yes p g (S.M.took q i k) q _ _ _ h2.mem l1024 rfl hq ?_ ?_ n1 ?_).mono ?_
        · rw [took_sg]; show 0 < S.M.count + 1; have := ok.mem.c0; omega
        · rw [took_sg]; exact Int.le_refl 0
        · rw [took_sg]; show n ≤ 64 - 0; omega
        rintro e w2 ⟨rfl, m2, k2⟩
        go_wp2_with fail
        go_ret2
        have := alloc_new_end (q := q) ok May.out Nf.out hf hq Hz.out Hlow.out K.out h2 m2 k2
        rw [took_sg]
        simpa [Sg.fresh] using this
    · by_cases fit : n ≤ 64 - (S.M.sg q).n
      · have n0 := (ok.mem.sg q hq).n0
        have C1 := Lib.hid c1
        have May := Lib.hid may
        have Hg := Lib.hid hg
        have Hk := Lib.hid hkd
        clear hnew c1 may lo hg hkd
        go_enter Tryz.func101, Tryz.ntmps101
        go_wp2_with fail
        refine (none_no hp).mono ?_
        rintro e w1 ⟨rfl, rfl⟩
        go_wp2_with fail
        refine (may_yes _ _ _ _ May.out).mono ?_
        rintro e w1 ⟨rfl, rfl⟩
        go_wp2_with fail
        refine (current_some h rfl rfl hi hk C1.out (by omega)).mono ?_
        rintro e w1 ⟨rfl, rfl⟩
        go_wp2_with fail
        refine (bump_yes p g S.M q _ _ _ h.mem l1024 rfl hq ht n0 n1 fit).mono ?_
        rintro e w2 ⟨rfl, m2, k2⟩
        go_wp2_with fail
        go_ret2
        exact ⟨_, _, _, rfl, h.keepM k2 m2, k2.mineS, ok.put (k := q) (ok.mem.bumped hq ht n1 fit) rfl rfl rfl, by show S.M.count ≤ S.M.count + 1; omega, rfl, .inr (.inl ⟨May.out, q, by simpa using C1.out, fit, rfl, rfl, rfl⟩)⟩
      · have nf : NoFit S i k n := by
          intro q' hq'
          simp only [Int.toNat_natCast] at hq'
          obtain rfl : q' = q := by omega
          omega
        have n0 := (ok.mem.sg q hq).n0
        have n64 := (ok.mem.sg q hq).n64
        have Nf := Lib.hid nf
        have nfit : 64 - (S.M.sg q).n < n := by omega
        have C1 := Lib.hid c1
        have May := Lib.hid may
        clear c1 may lo hg hkd fit
        by_cases fz : S.M.free = 0
        · have Fz := Lib.hid fz
          clear nf hnew fz
          go_enter Tryz.func101, Tryz.ntmps101
          go_wp2_with fail
          refine (none_no hp).mono ?_
          rintro e w1 ⟨rfl, rfl⟩
          go_wp2_with fail
          refine (may_yes _ _ _ _ May.out).mono ?_
          rintro e w1 ⟨rfl, rfl⟩
          go_wp2_with fail
          refine (current_some h rfl rfl hi hk C1.out (by omega)).mono ?_
          rintro e w1 ⟨rfl, rfl⟩
          go_wp2_with fail
          refine (bump_full p g S.M q _ _ _ h.mem l1024 rfl hq ht n0 n64 n1 nfit).mono ?_
          rintro e w1 ⟨rfl, rfl⟩
          go_wp2_with fail
          refine (take_full p g S.M _ _ _ h.mem ok.mem.l8 l1024 (by omega) (by omega) (by omega) (by omega) Fz.out).mono ?_
          rintro e w1 ⟨rfl, rfl⟩
          go_wp2_with fail
          go_ret2
          exact ⟨S, 0, 2, rfl, h, Keep.refl _ _, ok, by omega, rfl, .inr (.inr (.inl ⟨May.out, Nf.out, Fz.out, rfl, rfl, rfl⟩))⟩
        · have hf : 0 < S.M.free := by omega
          obtain ⟨r, hr, hz, hlow⟩ := hnew nf hf
          have f1 := ok.mem.f1
          have Hz := Lib.hid hz
          have Hlow := Lib.hid hlow
          clear nf hnew fz hz hlow
          go_enter Tryz.func101, Tryz.ntmps101
          go_wp2_with fail
          refine (none_no hp).mono ?_
          rintro e w1 ⟨rfl, rfl⟩
          go_wp2_with fail
          refine (may_yes _ _ _ _ May.out).mono ?_
          rintro e w1 ⟨rfl, rfl⟩
          go_wp2_with fail
          refine (current_some h rfl rfl hi hk C1.out (by omega)).mono ?_
          rintro e w1 ⟨rfl, rfl⟩
          go_wp2_with fail
          refine (bump_full p g S.M q _ _ _ h.mem l1024 rfl hq ht n0 n64 n1 nfit).mono ?_
          rintro e w1 ⟨rfl, rfl⟩
          go_wp2_with fail
          refine (take_yes p g S.M r _ _ _ h.mem ok.mem.l8 l1024 (by omega) (by omega) (by omega) (by omega) (by omega) (by omega) ok.mem.c0 hc hr Hlow.out Hz.out).mono ?_
          rintro e w1 ⟨rfl, m1, k1⟩
          have h1 := h.keepM k1 m1
          have p1 := h1.ptr
          have f1 := h1.frozen (1 + i * 4 + k)
          have q1 := h1.cur i k hi hk
          have h2 := h1.setCur hi hk (r + 1)
          have p2 := h2.ptr
          have K := Lib.hid ((k1.mineS (s := s)).setCell (p := ⟨s, 1 + i * 4 + k, none⟩) (.inl (.inl rfl)) (.int .i64 (r + 1)))
          go_wp2_with fail
          refine (bump_yes p g (S.M.took r i k) r _ _ _ h2.mem l1024 rfl hr ?_ ?_ n1 ?_).mono ?_
          · rw [took_sg]; show 0 < S.M.count + 1; have := ok.mem.c0; omega
          · rw [took_sg]; exact Int.le_refl 0
          · rw [took_sg]; show n ≤ 64 - 0; omega
          rintro e w2 ⟨rfl, m2, k2⟩
          go_wp2_with fail
          go_ret2
          have := alloc_new_end (q := r) ok May.out Nf.out hf hr Hz.out Hlow.out K.out h2 m2 k2
          rw [took_sg]
          simpa [Sg.fresh] using this
  · have May := Lib.hid may
    clear may
    go_enter Tryz.func101, Tryz.ntmps101
    go_wp2_with fail
    refine (none_no hp).mono ?_
    rintro e w1 ⟨rfl, rfl⟩
    go_wp2_with fail
    refine (may_no _ _ _ _ May.out).mono ?_
    rintro e w1 ⟨rfl, rfl⟩
    go_wp2_with fail
    go_ret2
    exact ⟨S, 0, 1, rfl, h, Keep.refl _ _, ok, by omega, rfl, .inl ⟨May.out, rfl, rfl, rfl⟩⟩
end Go.Proofs.YtkjocmenpccooaaGreatDoor
