/-
  seg.Mem: what Bump, Give, Take, Seg, Mark and New do.
-/
import Derived.Test.YtgnpeciedefeiaaSegAt
namespace Go.Proofs.Ytgnpeciedefeiaa
open Go.RowKit

set_option maxHeartbeats 400000 in
theorem bump_yes (p g : Nat) (M : MemV) (k : Nat) (seg n : Int) (w : World) (h : MemAt w p g M) (hl : M.lim ≤ 1024) (hs : seg = k) (hk : k < M.lim) (ht : 0 < (M.sg k).taken)
    (hn0 : 0 ≤ (M.sg k).n) (hn1 : 1 ≤ n) (hn2 : n ≤ 64 - (M.sg k).n) :
    Calls Try.prog 19 #[.pointer (some ⟨p, 0, none⟩), .int .i64 seg, .int .i64 n] w fun e w' => e = .returned (.tuple #[.int .i64 (k * 64 + (M.sg k).n), .int .i64 0]) ∧ MemAt w' p g (M.bumped k n) ∧ Keep (Mine p g) w w' := by
  subst hs
  have h7 := h.segs.2 k hk 2 (by omega)
  simp only [Sg.cell] at h7
  have hf := h.segs.frozen (k * 72 + 2)
  go_enter Try.func19, Try.ntmps19
  go_wp2_with (go_at_call 54; refine (at_yes p g M k _ w h hl rfl hk ht).mono ?_; rintro e w' ⟨rfl, rfl⟩)
  go_ret2
  refine ⟨?_, h.setCell k 2 hk (by omega) _ _ rfl ?_, (Keep.refl _ _).setCell (.inl (.inr rfl)) _⟩
  · rw [show (k : Int) * 64 + ((M.sg k).n + n) - n = k * 64 + (M.sg k).n from by omega]
    rfl
  · intro i hi hi2
    match i with
    | 0 | 1 | 3 | 4 | 5 | 6 | 7 => rfl
    | 2 => exact absurd rfl hi2
    | i + 8 => rfl

/-- A whole segment is stored. -/
theorem MemAt.setCells {w : World} {p g : Nat} {M : MemV} (h : MemAt w p g M) (k : Nat) (hk : k < M.lim) (s : Sg) (vs : List Value) (hv : vs = (List.range 72).map s.cell) :
    MemAt (w.setCells g (k * 72) vs) p g (M.put k s) := by
  have hlen : vs.length = 72 := by rw [hv]; simp
  have hK : Keep (fun b => b = g) w (w.setCells g (k * 72) vs) := (Keep.refl (fun b => b = g) _).setCells (.inl rfl) _ _
  refine ⟨?_, ?_, ?_⟩
  · obtain ⟨c, hc⟩ := h.head
    exact ⟨c, by rw [hK.block p h.lt h.ne]; exact hc⟩
  · have hb : ∀ (vs : List Value) (o : Nat) (w : World), (∃ c, w.heap[g]? = some (.cells c 110 (0, 0))) → ∃ c, (w.setCells g o vs).heap[g]? = some (.cells c 110 (0, 0)) := by
      intro vs
      induction vs with
      | nil => intro o w h; exact h
      | cons v vs ih =>
        intro o w ⟨c, hc⟩
        exact ih (o + 1) _ ⟨c.setIfInBounds o v, by simp [World.setCell, Array.getElem?_modify, hc]⟩
    exact hb vs _ w h.segs.1
  · intro k' hk' j' hj'
    have hk'' : k' < M.lim := hk'
    by_cases e1 : k' = k
    · subst e1
      rw [World.cell?_setCells_in g vs (k' * 72) w (fun i hi => by rw [h.segs.2 k' hk'' i (by omega)]; rfl) j' (by omega)]
      subst hv
      simp [MemV.put]
    · rw [World.cell?_setCells_out g vs (k * 72) w ⟨g, k' * 72 + j', none⟩ (fun _ _ => by
        show k' * 72 + j' < k * 72 ∨ k * 72 + vs.length ≤ k' * 72 + j'
        omega), h.segs.2 k' hk'' j' hj']
      simp [MemV.put, e1]

/-- A store into the head's count of those that are free, or its count of takes. -/
theorem MemAt.setFree {w : World} {p g : Nat} {M : MemV} (h : MemAt w p g M) (f : Int) : MemAt (w.setCell ⟨p, 2, none⟩ (.int .i64 f)) p g { M with free := f } := by
  refine ⟨?_, h.segs.of_block (Below.heap_setCell _ _ _ _ h.ne.symm)⟩
  obtain ⟨c, hc⟩ := h.head
  exact ⟨c, by simp [World.setCell, Array.getElem?_modify, hc]⟩
theorem MemAt.setCount {w : World} {p g : Nat} {M : MemV} (h : MemAt w p g M) (f : Int) : MemAt (w.setCell ⟨p, 1, none⟩ (.int .i64 f)) p g { M with count := f } := by
  refine ⟨?_, h.segs.of_block (Below.heap_setCell _ _ _ _ h.ne.symm)⟩
  obtain ⟨c, hc⟩ := h.head
  exact ⟨c, by simp [World.setCell, Array.getElem?_modify, hc]⟩

theorem MemAt.there {w : World} {p g : Nat} {M : MemV} (h : MemAt w p g M) (k : Nat) (hk : k < M.lim) : w.there g (k * 72) 72 :=
  fun j hj => ⟨by rw [h.segs.2 k hk j hj]; rfl, h.segs.frozen _⟩

theorem z110size : Try.zeroCells110.size = 72 := by kernel_rfl
theorem z110 : Try.zeroCells110.toList = (List.range 72).map Sg.none.cell := by kernel_rfl
theorem i110 : (Try.prog.info? 110).map (·.size) = some Try.zeroCells110.size := by kernel_rfl
theorem o110 : Try.zeroCells110.all (·.oneCell') = true := by kernel_rfl

/-- What a store of a whole segment leaves, of a world that is a letter. -/
theorem stored_seg {w : World} {p g : Nat} {M : MemV} (h : MemAt w p g M) (k : Nat) (hk : k < M.lim) (s : Sg) (vs : List Value) (hv : vs = (List.range 72).map s.cell) (R : World → Prop)
    (hR : ∀ w1, MemAt w1 p g (M.put k s) → Keep (Mine p g) w w1 → R w1) : R (w.setCells g (k * 72) vs) :=
  hR _ (h.setCells k hk s vs hv) ((Keep.refl _ _).setCells (.inl (.inr rfl)) _ _)

set_option maxHeartbeats 400000 in
theorem give_yes (p g : Nat) (M : MemV) (k : Nat) (seg : Int) (w : World) (h : MemAt w p g M) (hl : M.lim ≤ 1024) (hs : seg = k) (hk : k < M.lim) (ht : 0 < (M.sg k).taken) (hf0 : 0 ≤ M.free) (hf1 : M.free ≤ 100000) :
    Calls Try.prog 18 #[.pointer (some ⟨p, 0, none⟩), .int .i64 seg] w fun e w' => e = .returned (.int .i64 0) ∧ MemAt w' p g (M.gave k) ∧ Keep (Mine p g) w w' := by
  subst hs
  have HT := Lib.hid (show w.there g (k * 72) Try.zeroCells110.size by rw [z110size]; exact h.there k hk)
  go_enter Try.func18, Try.ntmps18
  go_wp2_with (first | (go_at_call 54; refine (at_yes p g M k _ w h hl rfl hk ht).mono ?_; rintro e w' ⟨rfl, rfl⟩) | ((with_reducible show wpList _ _ _ (⟨none, .store 110 (.tmp 13) (.tmp 12), _, _, _, none⟩ :: _) _ _); refine wpList_store_mid rfl 110 (.tmp 13) (.tmp 12) rfl g (k * 72) Try.zeroCells110 rfl rfl HT.out i110 o110 ?_; refine stored_seg h k hk _ _ z110 _ ?_; intro w1 h1 k1; obtain ⟨cap, c0, c1, c2⟩ := h1.cells; simp only [MemV.put] at c0 c1 c2; have hf := h1.frozen 2))
  go_ret
  exact ⟨rfl, h1.setFree _, k1.setCell (.inl (.inl rfl)) _⟩

set_option maxHeartbeats 400000 in
theorem give_no (p g : Nat) (M : MemV) (seg : Int) (w : World) (h : MemAt w p g M) (hl : M.lim ≤ 1024) (h0 : ∀ k, k < M.lim → 0 ≤ (M.sg k).taken) (hn : ¬ M.has seg) :
    Calls Try.prog 18 #[.pointer (some ⟨p, 0, none⟩), .int .i64 seg] w fun e w' => e = .returned (.int .i64 19) ∧ w = w' := by
  have H := Lib.hid (at_no p g M seg w h hl h0 hn)
  clear h0 hn
  go_enter Try.func18, Try.ntmps18
  go_wp2_with (go_at_call 54; refine H.out.mono ?_; rintro e w' ⟨rfl, rfl⟩)
  go_ret
  exact ⟨rfl, rfl⟩

set_option maxHeartbeats 400000 in
theorem bump_no (p g : Nat) (M : MemV) (seg n : Int) (w : World) (h : MemAt w p g M) (hl : M.lim ≤ 1024) (h0 : ∀ k, k < M.lim → 0 ≤ (M.sg k).taken) (hn : ¬ M.has seg) :
    Calls Try.prog 19 #[.pointer (some ⟨p, 0, none⟩), .int .i64 seg, .int .i64 n] w fun e w' => e = .returned (.tuple #[.int .i64 0, .int .i64 19]) ∧ w = w' := by
  have H := Lib.hid (at_no p g M seg w h hl h0 hn)
  clear h0 hn
  go_enter Try.func19, Try.ntmps19
  go_wp2_with (go_at_call 54; refine H.out.mono ?_; rintro e w' ⟨rfl, rfl⟩)
  go_ret2
  exact ⟨rfl, rfl⟩

set_option maxHeartbeats 400000 in
theorem bump_arg (p g : Nat) (M : MemV) (k : Nat) (seg n : Int) (w : World) (h : MemAt w p g M) (hl : M.lim ≤ 1024) (hs : seg = k) (hk : k < M.lim) (ht : 0 < (M.sg k).taken) (hn : n < 1) :
    Calls Try.prog 19 #[.pointer (some ⟨p, 0, none⟩), .int .i64 seg, .int .i64 n] w fun e w' => e = .returned (.tuple #[.int .i64 0, .int .i64 1]) ∧ w = w' := by
  subst hs
  go_enter Try.func19, Try.ntmps19
  go_wp2_with (go_at_call 54; refine (at_yes p g M k _ w h hl rfl hk ht).mono ?_; rintro e w' ⟨rfl, rfl⟩)
  go_ret2
  exact ⟨rfl, rfl⟩

set_option maxHeartbeats 400000 in
theorem bump_full (p g : Nat) (M : MemV) (k : Nat) (seg n : Int) (w : World) (h : MemAt w p g M) (hl : M.lim ≤ 1024) (hs : seg = k) (hk : k < M.lim) (ht : 0 < (M.sg k).taken)
    (hn0 : 0 ≤ (M.sg k).n) (hn3 : (M.sg k).n ≤ 64) (hn1 : 1 ≤ n) (hn2 : 64 - (M.sg k).n < n) :
    Calls Try.prog 19 #[.pointer (some ⟨p, 0, none⟩), .int .i64 seg, .int .i64 n] w fun e w' => e = .returned (.tuple #[.int .i64 0, .int .i64 2]) ∧ w = w' := by
  subst hs
  have h7 := h.segs.2 k hk 2 (by omega)
  simp only [Sg.cell] at h7
  go_enter Try.func19, Try.ntmps19
  go_wp2_with (go_at_call 54; refine (at_yes p g M k _ w h hl rfl hk ht).mono ?_; rintro e w' ⟨rfl, rfl⟩)
  go_ret2
  exact ⟨rfl, rfl⟩

/-- What is told of a segment, as a value. -/
def Sg.api (s : Sg) : Value := .agg #[.int .i64 s.gen, .int .i64 s.kind, .int .i64 s.n, .int .i64 s.c0, .int .i64 s.c1, .int .i64 s.c2, .int .i64 s.c3]

set_option maxHeartbeats 400000 in
theorem seg_yes (p g : Nat) (M : MemV) (k : Nat) (seg : Int) (w : World) (h : MemAt w p g M) (hl : M.lim ≤ 1024) (hs : seg = k) (hk : k < M.lim) (ht : 0 < (M.sg k).taken) :
    Calls Try.prog 17 #[.pointer (some ⟨p, 0, none⟩), .int .i64 seg] w fun e w' => e = .returned (.tuple #[(M.sg k).api, .bool true]) ∧ Keep (fun _ => False) w w' := by
  subst hs
  have q0 := h.segs.2 k hk 0 (by omega)
  have q1 := h.segs.2 k hk 1 (by omega)
  have q2 := h.segs.2 k hk 2 (by omega)
  have q3 := h.segs.2 k hk 3 (by omega)
  have q4 := h.segs.2 k hk 4 (by omega)
  have q5 := h.segs.2 k hk 5 (by omega)
  have q6 := h.segs.2 k hk 6 (by omega)
  simp only [Sg.cell, Nat.add_zero] at q0 q1 q2 q3 q4 q5 q6
  have hg := h.segs.lt
  have hg1 : ¬ g = w.heap.size := by omega
  have hg2 : ¬ w.heap.size = g := by omega
  go_enter Try.func17, Try.ntmps17
  go_wp2_with (go_at_call 54; refine (at_yes p g M k _ _ (h.keep ((Keep.refl (fun _ => False) w).alloc _) (by simp) (by simp)) hl rfl hk ht).mono ?_; rintro e w' ⟨rfl, rfl⟩)
  exact bodyPost_ret (v := .tuple #[(M.sg k).api, .bool true]) (by simp [results, Try.results17, go_sem, Sg.api]) rfl ⟨rfl, (Keep.refl _ _).alloc _⟩

set_option maxHeartbeats 400000 in
theorem seg_no (p g : Nat) (M : MemV) (seg : Int) (w : World) (h : MemAt w p g M) (hl : M.lim ≤ 1024) (h0 : ∀ k, k < M.lim → 0 ≤ (M.sg k).taken) (hn : ¬ M.has seg) :
    Calls Try.prog 17 #[.pointer (some ⟨p, 0, none⟩), .int .i64 seg] w fun e w' => e = .returned (.tuple #[Sg.none.api, .bool false]) ∧ Keep (fun _ => False) w w' := by
  have H := Lib.hid (fun o => at_no p g M seg _ (h.keep ((Keep.refl (fun _ => False) w).alloc o) (by simp) (by simp)) hl h0 hn)
  clear h0 hn
  go_enter Try.func17, Try.ntmps17
  go_wp2_with (go_at_call 54; refine (H.out _).mono ?_; rintro e w' ⟨rfl, rfl⟩)
  exact bodyPost_ret (v := .tuple #[Sg.none.api, .bool false]) (by simp [results, Try.results17, go_sem, Sg.api, Sg.none]) rfl ⟨rfl, (Keep.refl _ _).alloc _⟩

set_option maxHeartbeats 400000 in
theorem mark_yes (p g : Nat) (M : MemV) (k c : Nat) (seg card m : Int) (w : World) (h : MemAt w p g M) (hl : M.lim ≤ 1024) (hs : seg = k) (hk : k < M.lim) (ht : 0 < (M.sg k).taken)
    (hc : card = c) (hc4 : c < 4) (hm0 : 0 ≤ m) (hm5 : m ≤ 5) :
    Calls Try.prog 28 #[.pointer (some ⟨p, 0, none⟩), .int .i64 seg, .int .i64 card, .int .i64 m] w fun e w' => e = .returned (.int .i64 0) ∧ MemAt w' p g (M.put k ((M.sg k).mark c m)) ∧ Keep (Mine p g) w w' := by
  subst hs hc
  have h7 := h.segs.2 k hk (3 + c) (by omega)
  obtain ⟨u, hu⟩ : ∃ u, (M.sg k).cell (3 + c) = u := ⟨_, rfl⟩
  rw [hu, ← Nat.add_assoc] at h7
  clear hu
  have hf := h.segs.frozen (k * 72 + 3 + c)
  go_enter Try.func28, Try.ntmps28
  go_wp2_with (go_at_call 54; refine (at_yes p g M k _ w h hl rfl hk ht).mono ?_; rintro e w' ⟨rfl, rfl⟩)
  go_ret
  refine ⟨rfl, ?_, (Keep.refl _ _).setCell (.inl (.inr rfl)) _⟩
  rw [Nat.add_assoc]
  refine h.setCell k (3 + c) hk (by omega) _ _ ?_ ?_
  · match c, hc4 with
    | 0, _ | 1, _ | 2, _ | 3, _ => simp [Sg.mark, Sg.cell]
  · intro i hi hi2
    match i with
    | 0 | 1 | 2 | 7 => rfl
    | 3 | 4 | 5 | 6 => simp [Sg.mark, Sg.cell]; omega
    | i + 8 => rfl

set_option maxHeartbeats 400000 in
theorem mark_no (p g : Nat) (M : MemV) (seg card m : Int) (w : World) (h : MemAt w p g M) (hl : M.lim ≤ 1024) (h0 : ∀ k, k < M.lim → 0 ≤ (M.sg k).taken) (hn : ¬ M.has seg) :
    Calls Try.prog 28 #[.pointer (some ⟨p, 0, none⟩), .int .i64 seg, .int .i64 card, .int .i64 m] w fun e w' => e = .returned (.int .i64 19) ∧ w = w' := by
  have H := Lib.hid (at_no p g M seg w h hl h0 hn)
  clear h0 hn
  go_enter Try.func28, Try.ntmps28
  go_wp2_with (go_at_call 54; refine H.out.mono ?_; rintro e w' ⟨rfl, rfl⟩)
  go_ret
  exact ⟨rfl, rfl⟩

set_option maxHeartbeats 400000 in
theorem mark_arg (p g : Nat) (M : MemV) (k : Nat) (seg card m : Int) (w : World) (h : MemAt w p g M) (hl : M.lim ≤ 1024) (hs : seg = k) (hk : k < M.lim) (ht : 0 < (M.sg k).taken)
    (hc : card < 0 ∨ 4 ≤ card ∨ m < 0 ∨ 5 < m) :
    Calls Try.prog 28 #[.pointer (some ⟨p, 0, none⟩), .int .i64 seg, .int .i64 card, .int .i64 m] w fun e w' => e = .returned (.int .i64 1) ∧ w = w' := by
  subst hs
  by_cases a : card < 0
  · clear hc
    go_enter Try.func28, Try.ntmps28
    go_wp2_with (go_at_call 54; refine (at_yes p g M k _ w h hl rfl hk ht).mono ?_; rintro e w' ⟨rfl, rfl⟩)
    go_ret
    exact ⟨rfl, rfl⟩
  · by_cases b : 4 ≤ card
    · clear hc
      go_enter Try.func28, Try.ntmps28
      go_wp2_with (go_at_call 54; refine (at_yes p g M k _ w h hl rfl hk ht).mono ?_; rintro e w' ⟨rfl, rfl⟩)
      go_ret
      exact ⟨rfl, rfl⟩
    · by_cases d : m < 0
      · clear hc
        go_enter Try.func28, Try.ntmps28
        go_wp2_with (go_at_call 54; refine (at_yes p g M k _ w h hl rfl hk ht).mono ?_; rintro e w' ⟨rfl, rfl⟩)
        go_ret
        exact ⟨rfl, rfl⟩
      · have d' : 5 < m := by omega
        clear hc
        go_enter Try.func28, Try.ntmps28
        go_wp2_with (go_at_call 54; refine (at_yes p g M k _ w h hl rfl hk ht).mono ?_; rintro e w' ⟨rfl, rfl⟩)
        go_ret
        exact ⟨rfl, rfl⟩
end Go.Proofs.Ytgnpeciedefeiaa
