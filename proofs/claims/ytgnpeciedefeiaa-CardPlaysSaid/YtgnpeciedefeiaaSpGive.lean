/-
  A space: what Give does.
-/
import Derived.Test.YtgnpeciedefeiaaSpOps
import Derived.Test.YtgnpeciedefeiaaActs
import Derived.BigQuiet
namespace Go.Proofs.Ytgnpeciedefeiaa
open Go.RowKit

def Give8R (S : SpV) (seg f : Int) (S' : SpV) : Prop :=
  (¬ S.M.has seg ∧ f = 19 ∧ S' = S) ∨ ∃ k : Nat, seg = k ∧ k < S.M.lim ∧ 0 < (S.M.sg k).taken ∧ f = 0 ∧ S'.M = S.M.gave k ∧ ∀ i j, i < 5 → j < 4 → S'.cur i j = if S.cur i j = k + 1 then 0 else S.cur i j
def Give8Post (s p g : Nat) (S : SpV) (seg : Int) (w : World) (e : Ending) (w' : World) : Prop :=
  ∃ (S' : SpV) (f : Int), e = .returned (.int .i64 f) ∧ SpAt w' s p g S' ∧ Keep (MineS s p g) w w' ∧ S'.Ok ∧ S'.M.count = S.M.count ∧ S'.M.lim = S.M.lim ∧ Give8R S seg f S'

theorem SpV.Ok.gave {S : SpV} (h : S.Ok) {k : Nat} (hk : k < S.M.lim) (ht : 0 < (S.M.sg k).taken) {S' : SpV} (hM : S'.M = S.M.gave k) (hc : ∀ i j, i < 5 → j < 4 → S'.cur i j = if S.cur i j = k + 1 then 0 else S.cur i j) : S'.Ok := by
  refine ⟨by rw [hM]; exact h.mem.gave hk ht, fun i j hi hj => ?_⟩
  rw [hc i j hi hj, hM]
  split
  · exact .inl rfl
  · rename_i hne
    rcases h.cur i j hi hj with h0 | ⟨q, h1, h2, h3, h4, h5⟩
    · exact .inl h0
    · refine .inr ⟨q, h1, h2, ?_⟩
      have : q ≠ k := by rintro rfl; exact hne h1
      simp only [MemV.gave, MemV.put, if_neg this]
      exact ⟨h3, h4, h5⟩

/-- Only the place of the segment's own generation and kind may hold it. -/
theorem SpV.Ok.only {S : SpV} (h : S.Ok) {k i j : Nat} (hi : i < 5) (hj : j < 4) (e : S.cur i j = k + 1) : (S.M.sg k).gen = i ∧ (S.M.sg k).kind = j := by
  rcases h.cur i j hi hj with h0 | ⟨q, h1, _, _, h4, h5⟩
  · omega
  · obtain rfl : q = k := by omega
    exact ⟨h4, h5⟩

theorem seg_gk (p g : Nat) (M : MemV) (k a b : Nat) (w : World) (h : MemAt w p g M) (hl : M.lim ≤ 1024) (hk : k < M.lim) (ht : 0 < (M.sg k).taken) (ha : (M.sg k).gen = a) (hb : (M.sg k).kind = b) :
    Calls Try.prog 17 #[.pointer (some ⟨p, 0, none⟩), .int .i64 (k : Int)] w fun e w' => e = .returned (.tuple #[.agg #[.int .i64 (a : Int), .int .i64 (b : Int), .int .i64 (M.sg k).n, .int .i64 (M.sg k).c0, .int .i64 (M.sg k).c1, .int .i64 (M.sg k).c2, .int .i64 (M.sg k).c3], .bool true]) ∧ Keep (fun _ => False) w w' := by
  rw [← ha, ← hb]
  exact seg_yes2 p g M k k w h hl rfl hk ht

set_option maxRecDepth 100000 in
set_option maxHeartbeats 4000000 in
theorem give8_any {w : World} {s p g : Nat} {S : SpV} (h : SpAt w s p g S) (ok : S.Ok) (seg : Int) :
    Calls Try.prog 36 #[.pointer (some ⟨s, 0, none⟩), .int .i64 seg] w (Give8Post s p g S seg w) := by
  have hp := h.ptr
  have l1024 := ok.mem.l1024
  by_cases hh : S.M.has seg
  · obtain ⟨k, rfl, hk, ht⟩ : ∃ k : Nat, seg = k ∧ k < S.M.lim ∧ 0 < (S.M.sg k).taken := by
      obtain ⟨h0, h1, h2⟩ := id hh
      exact ⟨seg.toNat, by omega, by omega, h2⟩
    have so := ok.mem.sg k hk
    obtain ⟨a, ha⟩ := Int.eq_ofNat_of_zero_le so.g0
    obtain ⟨b, hb⟩ := Int.eq_ofNat_of_zero_le so.k0
    have ha5 : a < 5 := by have := so.g4; omega
    have hb4 : b < 4 := by have := so.k3; omega
    have hwrap : IntKind.i64.wrap ((k : Int) + 1) = (k : Int) + 1 := by simp [IntKind.wrap, IntKind.signed, IntKind.bits]; omega
    have ia : (0 : Int) ≤ (a : Int) := by omega
    have ia5 : (a : Int) < 5 := by omega
    have ib : (0 : Int) ≤ (b : Int) := by omega
    have ib4 : (b : Int) < 4 := by omega
    have Hab := Lib.hid (show (S.M.sg k).gen = a ∧ (S.M.sg k).kind = b from ⟨ha, hb⟩)
    have Hh := Lib.hid hh
    clear hh ha hb so
    by_cases e : S.cur a b = k + 1
    · have he : (S.cur a b == (k : Int) + 1) = true := by simpa using e
      have E := Lib.hid e
      clear e
      go_enter Try.func36, Try.ntmps36
      go_wp2_with fail
      refine (none_no hp).mono ?_
      rintro e w1 ⟨rfl, rfl⟩
      go_wp2_with fail
      refine (seg_gk p g S.M k a b _ h.mem l1024 hk ht Hab.out.1 Hab.out.2).mono ?_
      rintro e w1 ⟨rfl, k1⟩
      have h1 := h.keep0 k1
      clear hp
      go_wp2_with fail
      have k2 := k1.alloc (.cells #[.int .i64 (a : Int), .int .i64 (b : Int), .int .i64 (S.M.sg k).n, .int .i64 (S.M.sg k).c0, .int .i64 (S.M.sg k).c1, .int .i64 (S.M.sg k).c2, .int .i64 (S.M.sg k).c3] 37)
      have h2 := h.keep0 k2
      have x0 : (w1.alloc (.cells #[.int .i64 (a : Int), .int .i64 (b : Int), .int .i64 (S.M.sg k).n, .int .i64 (S.M.sg k).c0, .int .i64 (S.M.sg k).c1, .int .i64 (S.M.sg k).c2, .int .i64 (S.M.sg k).c3] 37)).cell? ⟨w1.heap.size, 0, none⟩ = some (.int .i64 a) := by rw [World.cell?_alloc_new]; rfl
      have x1 : (w1.alloc (.cells #[.int .i64 (a : Int), .int .i64 (b : Int), .int .i64 (S.M.sg k).n, .int .i64 (S.M.sg k).c0, .int .i64 (S.M.sg k).c1, .int .i64 (S.M.sg k).c2, .int .i64 (S.M.sg k).c3] 37)).cell? ⟨w1.heap.size, 1, none⟩ = some (.int .i64 b) := by rw [World.cell?_alloc_new]; rfl
      have hx : w.heap.size ≤ w1.heap.size := k1.size
      generalize w1.heap.size = xb at x0 x1 hx ⊢
      generalize w1.alloc (.cells #[.int .i64 (a : Int), .int .i64 (b : Int), .int .i64 (S.M.sg k).n, .int .i64 (S.M.sg k).c0, .int .i64 (S.M.sg k).c1, .int .i64 (S.M.sg k).c2, .int .i64 (S.M.sg k).c3] 37) = w2 at k2 h2 x0 x1 ⊢
      have q0 := h2.cur a b ha5 hb4
      clear h1 k1
      go_quiet (fail)
      go_wp2_with fail
      have k3 := k2.drewN nq
      have h3 := h.keep0 k3
      have q1 := h3.cur a b ha5 hb4
      have y0 : (w2.drewN nq).cell? ⟨xb, 0, none⟩ = some (.int .i64 a) := x0
      have y1 : (w2.drewN nq).cell? ⟨xb, 1, none⟩ = some (.int .i64 b) := x1
      have f3 := h3.frozen (1 + a * 4 + b)
      generalize w2.drewN nq = w3 at k3 h3 q1 y0 y1 f3 ⊢
      clear x0 x1 q0 h2 k2
      have p3 := h3.ptr
      have h4 := h3.setCur ha5 hb4 0
      have k4 := ((k3.mono (S' := MineS s p g) (fun _ _ h => h.elim)).setCell (p := ⟨s, 1 + a * 4 + b, none⟩) (.inl (.inl rfl)) (.int .i64 0)).drew
      replace h4 := h4.keep0 ((Keep.refl _ _).drew)
      have p4 := h4.ptr
      have H4 := Lib.hid h4
      have K4 := Lib.hid k4
      clear h4 k4
      go_still_tail 9, (by kernel_rfl)
      go_wp2_with fail
      refine (give_yes p g S.M k _ _ H4.out.mem l1024 rfl hk ht ok.mem.f0 (by have := ok.mem.f1; omega)).mono ?_
      rintro e w5 ⟨rfl, m5, k5⟩
      go_wp2_with fail
      go_ret
      have hcur : ∀ i j, i < 5 → j < 4 → (S.set a b 0).cur i j = if S.cur i j = k + 1 then 0 else S.cur i j := by
        intro i j hi hj
        by_cases e : i = a ∧ j = b
        · obtain ⟨rfl, rfl⟩ := e
          simp [SpV.set, E.out]
        · have : S.cur i j ≠ k + 1 := by
            intro e2
            have := ok.only hi hj e2
            have := Hab.out
            exact e ⟨by omega, by omega⟩
          simp [SpV.set, e, this]
      exact ⟨_, 0, rfl, H4.out.keepM k5 m5, K4.out.trans k5.mineS, ok.gave hk ht rfl hcur, rfl, rfl, .inr ⟨k, rfl, hk, ht, rfl, rfl, hcur⟩⟩
    · have he : (S.cur a b == (k : Int) + 1) = false := by simpa using e
      have E := Lib.hid e
      clear e
      go_enter Try.func36, Try.ntmps36
      go_wp2_with fail
      refine (none_no hp).mono ?_
      rintro e w1 ⟨rfl, rfl⟩
      go_wp2_with fail
      refine (seg_gk p g S.M k a b _ h.mem l1024 hk ht Hab.out.1 Hab.out.2).mono ?_
      rintro e w1 ⟨rfl, k1⟩
      have h1 := h.keep0 k1
      clear hp
      go_wp2_with fail
      have k2 := k1.alloc (.cells #[.int .i64 (a : Int), .int .i64 (b : Int), .int .i64 (S.M.sg k).n, .int .i64 (S.M.sg k).c0, .int .i64 (S.M.sg k).c1, .int .i64 (S.M.sg k).c2, .int .i64 (S.M.sg k).c3] 37)
      have h2 := h.keep0 k2
      have x0 : (w1.alloc (.cells #[.int .i64 (a : Int), .int .i64 (b : Int), .int .i64 (S.M.sg k).n, .int .i64 (S.M.sg k).c0, .int .i64 (S.M.sg k).c1, .int .i64 (S.M.sg k).c2, .int .i64 (S.M.sg k).c3] 37)).cell? ⟨w1.heap.size, 0, none⟩ = some (.int .i64 a) := by rw [World.cell?_alloc_new]; rfl
      have x1 : (w1.alloc (.cells #[.int .i64 (a : Int), .int .i64 (b : Int), .int .i64 (S.M.sg k).n, .int .i64 (S.M.sg k).c0, .int .i64 (S.M.sg k).c1, .int .i64 (S.M.sg k).c2, .int .i64 (S.M.sg k).c3] 37)).cell? ⟨w1.heap.size, 1, none⟩ = some (.int .i64 b) := by rw [World.cell?_alloc_new]; rfl
      have hx : w.heap.size ≤ w1.heap.size := k1.size
      generalize w1.heap.size = xb at x0 x1 hx ⊢
      generalize w1.alloc (.cells #[.int .i64 (a : Int), .int .i64 (b : Int), .int .i64 (S.M.sg k).n, .int .i64 (S.M.sg k).c0, .int .i64 (S.M.sg k).c1, .int .i64 (S.M.sg k).c2, .int .i64 (S.M.sg k).c3] 37) = w2 at k2 h2 x0 x1 ⊢
      have q0 := h2.cur a b ha5 hb4
      clear h1 k1
      go_quiet (fail)
      have k3 := k2.drewN nq
      have h3 := h.keep0 k3
      have p3 := h3.ptr
      generalize w2.drewN nq = w3 at k3 h3 p3 ⊢
      clear x0 x1 q0 h2 k2
      go_wp2_with fail
      refine (give_yes p g S.M k _ _ h3.mem l1024 rfl hk ht ok.mem.f0 (by have := ok.mem.f1; omega)).mono ?_
      rintro e w5 ⟨rfl, m5, k5⟩
      go_wp2_with fail
      go_ret
      have hcur : ∀ i j, i < 5 → j < 4 → S.cur i j = if S.cur i j = k + 1 then 0 else S.cur i j := by
        intro i j hi hj
        have : S.cur i j ≠ k + 1 := by
          intro e2
          have h1 := ok.only hi hj e2
          have h2 := Hab.out
          obtain rfl : i = a := by omega
          obtain rfl : j = b := by omega
          exact E.out e2
        rw [if_neg this]
      exact ⟨_, 0, rfl, h3.keepM k5 m5, (k3.mono (S' := MineS s p g) (fun _ _ h => h.elim)).trans k5.mineS, ok.gave hk ht rfl hcur, rfl, rfl, .inr ⟨k, rfl, hk, ht, rfl, rfl, hcur⟩⟩
  · have H := Lib.hid hh
    clear hh
    go_enter Try.func36, Try.ntmps36
    go_wp2_with fail
    refine (none_no hp).mono ?_
    rintro e w1 ⟨rfl, rfl⟩
    go_wp2_with fail
    refine (seg_no2 p g S.M _ _ h.mem l1024 ok.mem.t0 H.out).mono ?_
    rintro e w1 ⟨rfl, k1⟩
    have h1 := h.keep0 k1
    clear hp
    go_wp2_with fail
    have k2 := k1.alloc (.cells #[.int .i64 0, .int .i64 0, .int .i64 0, .int .i64 0, .int .i64 0, .int .i64 0, .int .i64 0] 37)
    generalize w1.alloc (.cells #[.int .i64 0, .int .i64 0, .int .i64 0, .int .i64 0, .int .i64 0, .int .i64 0, .int .i64 0] 37) = w2 at k2 ⊢
    clear k1 h1
    go_quiet (fail)
    have k3 := k2.drewN nq
    have h3 := h.keep0 k3
    have p3 := h3.ptr
    generalize w2.drewN nq = w3 at k3 h3 p3 ⊢
    go_wp2_with fail
    refine (give_no p g S.M _ _ h3.mem l1024 ok.mem.t0 H.out).mono ?_
    rintro e w4 ⟨rfl, rfl⟩
    go_wp2_with fail
    go_ret
    exact ⟨S, 19, rfl, h3, k3.mono (fun _ _ h => h.elim), ok, rfl, rfl, .inl ⟨H.out, rfl, rfl⟩⟩
end Go.Proofs.Ytgnpeciedefeiaa
