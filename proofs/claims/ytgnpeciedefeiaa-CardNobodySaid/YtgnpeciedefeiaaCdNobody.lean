/-
  morainelaw09.CardNobody answers true, whatever call it is handed. No condition.
-/
import Derived.Test.YtgnpeciedefeiaaCdAwake
import Derived.Deep.RegionHeld3
namespace Go.Proofs.Ytgnpeciedefeiaa
open Go.RowKit

/-- No cards: nil, or a block that New did not make. -/
def NoCards (w : World) (v : Value) : Prop := v = .pointer none ∨ ∃ c, v = .pointer (some ⟨c, 0, none⟩) ∧ w.cell? ⟨c, 0, none⟩ = some (.pointer none)
theorem NoCards.keep {w w' : World} {v : Value} (h : NoCards w v) (k : Keep (fun _ => False) w w') : NoCards w' v := by
  rcases h with h | ⟨c, h, he⟩
  · exact .inl h
  · exact .inr ⟨c, h, (k.cell (World.block_lt_of_cell? w _ he) (by simp)).trans he⟩

set_option maxHeartbeats 400000 in
theorem cnone_body (v : Value) (w : World) (h : NoCards w v) : Calls Try.prog 77 #[v] w fun e w' => e = .returned (.bool true) ∧ w = w' := by
  rcases h with rfl | ⟨c, rfl, c0⟩
  · go_enter Try.func77, Try.ntmps77
    go_wp2
    go_ret
    exact ⟨rfl, rfl⟩
  · go_enter Try.func77, Try.ntmps77
    go_wp2
    go_ret
    exact ⟨rfl, rfl⟩

set_option maxHeartbeats 400000 in
theorem gen_body (v : Value) (i : Int) (w1 w : World) (h0 : NoCards w1 v) (K : Keep (fun _ => False) w1 w) (hi : 0 ≤ i) (hi2 : i ≤ 18446744073709551615) :
    Calls Try.prog 48 #[v, .int .u64 i] w fun e w' => e = .returned (.tuple #[.int .i64 0, .bool false]) ∧ Keep (fun _ => False) w1 w' := by
  obtain ⟨u, rfl⟩ : ∃ u : Nat, i = u := ⟨i.toNat, by omega⟩
  have h := h0.keep K
  have hu : u ≤ 18446744073709551615 := by omega
  have Hu := Lib.hid hu
  clear hi hi2
  clear hu h0
  by_cases ha : isAddr u
  · have HA := Lib.hid ha
    clear ha
    go_enter Try.func48, Try.ntmps48
    go_wp2_with fail
    refine (addr_yes u _ Hu.out HA.out).mono ?_
    rintro e w2 ⟨rfl, k1⟩
    go_wp2_with fail
    refine (cnone_body v _ (h.keep k1)).mono ?_
    rintro e w3 ⟨rfl, rfl⟩
    go_wp2_with fail
    go_ret2
    exact ⟨rfl, K.trans k1⟩
  · have HA := Lib.hid ha
    clear ha
    go_enter Try.func48, Try.ntmps48
    go_wp2_with fail
    refine (addr_no u _ Hu.out HA.out).mono ?_
    rintro e w2 ⟨rfl, k1⟩
    go_wp2_with fail
    refine (cnone_body v _ (h.keep k1)).mono ?_
    rintro e w3 ⟨rfl, rfl⟩
    go_wp2_with fail
    go_ret2
    exact ⟨rfl, K.trans k1⟩

set_option maxHeartbeats 400000 in
theorem store_body (v : Value) (addr u : Int) (w : World) (h : NoCards w v) :
    Calls Try.prog 46 #[v, .int .i64 addr, .int .u64 u] w fun e w' => e = .returned (.int .i64 18) ∧ w = w' := by
  go_enter Try.func46, Try.ntmps46
  go_wp2_with fail
  refine (cnone_body v _ h).mono ?_
  rintro e w1 ⟨rfl, rfl⟩
  go_wp2_with fail
  go_ret
  exact ⟨rfl, rfl⟩

set_option maxHeartbeats 400000 in
theorem again_body (v : Value) (seg card : Int) (w : World) (h : NoCards w v) :
    Calls Try.prog 41 #[v, .int .i64 seg, .int .i64 card] w fun e w' => e = .returned (.int .i64 19) ∧ w.alloc (.cells #[v] 77) = w' := by
  have h1 : NoCards (w.alloc (.cells #[v] 77)) v := h.keep ((Keep.refl _ _).alloc _)
  go_enter Try.func41, Try.ntmps41
  have hv : (w.alloc (.cells #[v] 77)).cell? ⟨w.heap.size, 0, none⟩ = some v := by rw [World.cell?_alloc_new]; rfl
  obtain hs | ⟨c, hs⟩ : v = .pointer none ∨ ∃ c, v = .pointer (some ⟨c, 0, none⟩) := by rcases h with h | ⟨c, h, _⟩ <;> simp [h]
  all_goals
    subst hs
    go_wp2_with fail
    refine (cnone_body _ _ h1).mono ?_
    rintro e w1 ⟨rfl, rfl⟩
    go_wp2_with fail
    go_ret
    exact ⟨rfl, rfl⟩

set_option maxHeartbeats 400000 in
theorem dirty_body (v : Value) (gg : Int) (w : World) (h : NoCards w v) :
    Calls Try.prog 42 #[v, .int .i64 gg] w fun e w' => e = .returned (.slice none 0 0) ∧ w = w' := by
  go_enter Try.func42, Try.ntmps42
  go_wp2_with fail
  refine (cnone_body v _ h).mono ?_
  rintro e w1 ⟨rfl, rfl⟩
  go_wp2_with fail
  go_ret
  exact ⟨rfl, rfl⟩

set_option maxHeartbeats 400000 in
theorem copy9_nil (w : World) : Calls Try.prog 49 #[.pointer none] w fun e w' => e = .returned (.pointer none) ∧ w = w' := by
  go_enter Try.func49, Try.ntmps49
  go_wp2_with fail
  go_ret
  exact ⟨rfl, rfl⟩
/-- What the round of CardNobody reads, of whatever world that has kept what lay in w1. -/
def NcFacts (lb xb k : Nat) (v : Value) (x : ActV) (w' : World) : Prop :=
  w'.cell? ⟨lb, k, none⟩ = some v ∧ w'.cell? ⟨xb, 1, none⟩ = some (.int .i64 x.a) ∧ w'.cell? ⟨xb, 2, none⟩ = some (.int .i64 x.b) ∧ w'.cell? ⟨xb, 4, none⟩ = some (.int .u64 x.w)
theorem nc_facts {w1 w' : World} {lb xb k : Nat} {v : Value} {x : ActV} (h : NcFacts lb xb k v x w1) (K : Keep (fun _ => False) w1 w') :
    w'.cell? ⟨lb, k, none⟩ = some v ∧ w'.cell? ⟨xb, 1, none⟩ = some (.int .i64 x.a) ∧ w'.cell? ⟨xb, 2, none⟩ = some (.int .i64 x.b) ∧ w'.cell? ⟨xb, 4, none⟩ = some (.int .u64 x.w) ∧ Keep (fun _ => False) w1 w' := by
  obtain ⟨h0, h1, h2, h4⟩ := h
  have f : ∀ {p : Addr} {u : Value}, w1.cell? p = some u → w'.cell? p = some u := fun {p u} hc => (K.cell (World.block_lt_of_cell? w1 p hc) (by simp)).trans hc
  exact ⟨f h0, f h1, f h2, f h4, K⟩

set_option maxRecDepth 100000 in
set_option maxHeartbeats 8000000 in
theorem cardNobody_walk (x : ActV) (w : World) (xok : x.Ok) :
    Calls Try.prog 11 #[.agg #[.int .i64 x.op, .int .i64 x.a, .int .i64 x.b, .int .i64 x.c, .int .u64 x.w]] w fun e w' => e = .returned (.bool true) ∧ Keep (fun _ => False) w w' := by
  have Hw0 := Lib.hid xok.w0
  have Hw1 := Lib.hid xok.w1
  go_enter Try.func11, Try.ntmps11
  go_wp2_with fail
  obtain ⟨w1, hw1⟩ : ∃ w1, w1 = ((w.alloc (.cells #[.int .i64 x.op, .int .i64 x.a, .int .i64 x.b, .int .i64 x.c, .int .u64 x.w] 92)).alloc (.cells #[.pointer none] 80)).alloc (.cells #[.pointer none, .pointer (some ⟨w.heap.size + 1, 0, none⟩)] 77) := ⟨_, rfl⟩
  have k1 : Keep (fun _ => False) w w1 := by rw [hw1]; exact (((Keep.refl _ _).alloc _).alloc _).alloc _
  have facts : ∀ k, k < 2 → ∃ v, NcFacts (w.heap.size + 1 + 1) w.heap.size k v x w1 ∧ NoCards w1 v := by
    have hE : w1.cell? ⟨w.heap.size + 1, 0, none⟩ = some (.pointer none) := by
      rw [hw1, World.cell?_alloc_lt _ _ _ (by simp)]
      simp
    have hx : ∀ j, j < 5 → w1.cell? ⟨w.heap.size, j, none⟩ = #[Value.int .i64 x.op, .int .i64 x.a, .int .i64 x.b, .int .i64 x.c, .int .u64 x.w][j]? := by
      intro j _
      rw [hw1, World.cell?_alloc_lt _ _ _ (by simp; omega), World.cell?_alloc_lt _ _ _ (by simp), World.cell?_alloc_new]
    have hl : ∀ j, j < 2 → w1.cell? ⟨w.heap.size + 1 + 1, j, none⟩ = #[Value.pointer none, .pointer (some ⟨w.heap.size + 1, 0, none⟩)][j]? := by
      intro j _
      rw [hw1]
      have := World.cell?_alloc_new ((w.alloc (.cells #[.int .i64 x.op, .int .i64 x.a, .int .i64 x.b, .int .i64 x.c, .int .u64 x.w] 92)).alloc (.cells #[.pointer none] 80)) #[Value.pointer none, .pointer (some ⟨w.heap.size + 1, 0, none⟩)] 77 j
      simpa using this
    intro k hk
    match k, hk with
    | 0, _ => exact ⟨_, ⟨hl 0 (by omega), hx 1 (by omega), hx 2 (by omega), hx 4 (by omega)⟩, .inl rfl⟩
    | 1, _ => exact ⟨_, ⟨hl 1 (by omega), hx 1 (by omega), hx 2 (by omega), hx 4 (by omega)⟩, .inr ⟨_, rfl, hE⟩⟩
  rw [← hw1]
  clear hw1
  generalize w.heap.size + 1 + 1 = lb at facts ⊢
  generalize w.heap.size = xb at facts ⊢
  go_loopw [5] (fun i wr => ∃ k : Nat, k ≤ 2 ∧ i = .int .i64 k ∧ Keep (fun _ => False) w1 wr) (fun i _ => 2 - (intOf i).toNat)
  case atStart => exact ⟨0, by omega, rfl, Keep.refl _ _⟩
  case round =>
    obtain ⟨k, hk, rfl, K⟩ := hrel
    by_cases hlt : k < 2
    · obtain ⟨v, hf, hN⟩ := facts k hlt
      obtain ⟨f0, f1, f2, f4, _⟩ := nc_facts hf K
      have kk0 : (0 : Int) ≤ (k : Int) := by omega
      have kk1 : (k : Int) < 2 := by omega
      clear facts
      go_wp2_with fail
      go_region_held3 (fun w' => w'.cell? ⟨lb, k, none⟩ = some v ∧ w'.cell? ⟨xb, 1, none⟩ = some (.int .i64 x.a) ∧ w'.cell? ⟨xb, 2, none⟩ = some (.int .i64 x.b) ∧ w'.cell? ⟨xb, 4, none⟩ = some (.int .u64 x.w) ∧ Keep (fun _ => False) w1 w')
        (first | exact ⟨f0, f1, f2, f4, K⟩ | (go_split_ands; exact nc_facts hf (by repeat (first | assumption | apply Keep.drew | apply Keep.alloc))))
        ((go_at_call 48; go_split_ands; refine (gen_body v _ w1 _ hN (by repeat (first | assumption | apply Keep.drew)) Hw0.out Hw1.out).mono ?_; rintro e w' ⟨rfl, k'⟩))
      go_wp2_with fail
      all_goals
        obtain ⟨f0, f1, f2, f4, _⟩ := nc_facts hf (by assumption : Keep (fun _ => False) w1 w')
        go_region_held3 (fun w' => w'.cell? ⟨lb, k, none⟩ = some v ∧ w'.cell? ⟨xb, 1, none⟩ = some (.int .i64 x.a) ∧ w'.cell? ⟨xb, 2, none⟩ = some (.int .i64 x.b) ∧ w'.cell? ⟨xb, 4, none⟩ = some (.int .u64 x.w) ∧ Keep (fun _ => False) w1 w')
          (first | exact ⟨f0, f1, f2, f4, by assumption⟩ | (go_split_ands; exact nc_facts hf (by repeat (first | assumption | apply Keep.drew | apply Keep.alloc))))
          (first
            | (go_at_call 46; go_split_ands; refine (store_body v _ _ _ (hN.keep (by repeat (first | assumption | apply Keep.drew | apply Keep.alloc)))).mono ?_; rintro e w' ⟨rfl, rfl⟩)
            | (go_at_call 41; go_split_ands; refine (again_body v _ _ _ (hN.keep (by repeat (first | assumption | apply Keep.drew | apply Keep.alloc)))).mono ?_; rintro e w' ⟨rfl, rfl⟩)
            | (go_at_call 42; go_split_ands; refine (dirty_body v _ _ (hN.keep (by repeat (first | assumption | apply Keep.drew | apply Keep.alloc)))).mono ?_; rintro e w' ⟨rfl, rfl⟩))
        go_wp2_with fail
      all_goals exact ⟨⟨k + 1, by omega, by go_num, by assumption⟩, by simp [intOf]; omega⟩
    · obtain rfl : k = 2 := by omega
      go_wp2_with fail
      refine (copy9_nil _).mono ?_
      rintro e w2 ⟨rfl, rfl⟩
      go_wp2_with fail
      refine (awake9 _).mono ?_
      rintro e w3 ⟨rfl, k3⟩
      go_wp2_with fail
      go_ret
      exact ⟨rfl, (k1.trans K).trans k3⟩
end Go.Proofs.Ytgnpeciedefeiaa
