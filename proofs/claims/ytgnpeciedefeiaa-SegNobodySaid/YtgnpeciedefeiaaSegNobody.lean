/-
  morainelaw07.SegNobody answers true, whatever call it is handed. No condition.
-/
import Derived.Test.YtgnpeciedefeiaaTaken
import Derived.Test.YtgnpeciedefeiaaOpen
import Derived.Deep.RegionHeld3
namespace Go.Proofs.Ytgnpeciedefeiaa
open Go.RowKit

set_option maxRecDepth 100000 in
set_option maxHeartbeats 400000 in
theorem taken_body (v : Value) (w : World) (h : Nobody w v) : Calls Try.prog 22 #[v, .slice none 0 0] w fun e w' => (∃ A c, e = .returned (.slice A 0 c)) ∧ Keep (fun _ => False) w w' := by
  rcases h with rfl | ⟨p, rfl, he⟩
  · go_enter Try.func22, Try.ntmps22
    go_wp2_with fail
    go_ret
    exact ⟨⟨none, 0, rfl⟩, (Keep.refl _ _).alloc _⟩
  · obtain ⟨c0, _, _⟩ := he.cells
    have hp := he.lt
    have hp1 : ¬ p = w.heap.size := by omega
    have hp2 : ¬ w.heap.size = p := by omega
    go_enter Try.func22, Try.ntmps22
    go_wp2_with fail
    refine wp_loop_rounds 1 ?_
    rw [rounds_succ]
    go_wp2_with fail
    have hc := Go.Proofs.AnyF.slices_SortFunc_none (P := Try.prog) (ρ := Try.sortL_ren) { Try.sortL with } none 0 (.func (.func 58) #[] #[.pointer (some ⟨w.heap.size, 0, none⟩)]) (w.alloc (.cells #[.pointer (some ⟨p, 0, none⟩)] 23))
    change Calls Try.prog 57 _ _ _ at hc
    refine hc.mono ?_
    rintro e w1 ⟨rfl, rfl⟩
    go_wp2_with fail
    go_ret
    exact ⟨⟨none, 0, rfl⟩, (Keep.refl _ _).alloc _⟩

set_option maxHeartbeats 400000 in
theorem seg_body_w (v : Value) (seg : Int) (w : World) (h : Nobody w v) : Calls Try.prog 17 #[v, .int .i64 seg] w fun e w' => e = .returned (.tuple #[.agg #[.int .i64 0, .int .i64 0, .int .i64 0, .int .i64 0, .int .i64 0, .int .i64 0, .int .i64 0], .bool false]) ∧ w.alloc (.cells #[.int .i64 0, .int .i64 0, .int .i64 0, .int .i64 0, .int .i64 0, .int .i64 0, .int .i64 0] 37) = w' := by
  go_enter Try.func17, Try.ntmps17
  go_wp2_with fail
  refine (at_body v _ _ (h.keep ((Keep.refl _ _).alloc _))).mono ?_
  rintro e w1 ⟨rfl, rfl⟩
  go_wp2_with fail
  exact bodyPost_ret (v := .tuple #[.agg #[.int .i64 0, .int .i64 0, .int .i64 0, .int .i64 0, .int .i64 0, .int .i64 0, .int .i64 0], .bool false]) (by simp [results, Try.results17, go_sem]) rfl ⟨rfl, rfl⟩

theorem taken_body_k (v : Value) (w1 w : World) (h : Nobody w1 v) (K : Keep (fun _ => False) w1 w) : Calls Try.prog 22 #[v, .slice none 0 0] w fun e w' => (∃ A c, e = .returned (.slice A 0 c)) ∧ Keep (fun _ => False) w1 w' :=
  (taken_body v w (h.keep K)).mono fun _ _ ⟨he, hk⟩ => ⟨he, K.trans hk⟩

/-- What the round of SegNobody reads, of whatever world that has kept what lay in w1. -/
def NbFacts (lb xb k : Nat) (v : Value) (x : ActV) (w' : World) : Prop :=
  w'.cell? ⟨lb, k, none⟩ = some v ∧ w'.cell? ⟨xb, 1, none⟩ = some (.int .i64 x.a) ∧ w'.cell? ⟨xb, 2, none⟩ = some (.int .i64 x.b) ∧ w'.cell? ⟨xb, 3, none⟩ = some (.int .i64 x.c) ∧ w'.cell? ⟨xb, 4, none⟩ = some (.int .u64 x.w)

theorem nb_facts {w1 w' : World} {lb xb k : Nat} {v : Value} {x : ActV} (h : NbFacts lb xb k v x w1) (K : Keep (fun _ => False) w1 w') :
    w'.cell? ⟨lb, k, none⟩ = some v ∧ w'.cell? ⟨xb, 1, none⟩ = some (.int .i64 x.a) ∧ w'.cell? ⟨xb, 2, none⟩ = some (.int .i64 x.b) ∧ w'.cell? ⟨xb, 3, none⟩ = some (.int .i64 x.c) ∧ w'.cell? ⟨xb, 4, none⟩ = some (.int .u64 x.w) ∧ Keep (fun _ => False) w1 w' := by
  obtain ⟨h0, h1, h2, h3, h4⟩ := h
  have f : ∀ {p : Addr} {u : Value}, w1.cell? p = some u → w'.cell? p = some u := fun {p u} hc => (K.cell (World.block_lt_of_cell? w1 p hc) (by simp)).trans hc
  exact ⟨f h0, f h1, f h2, f h3, f h4, K⟩

set_option maxRecDepth 100000 in
set_option maxHeartbeats 8000000 in
theorem segNobody_walk (x : ActV) (w : World) (xok : x.Ok) :
    Calls Try.prog 7 #[.agg #[.int .i64 x.op, .int .i64 x.a, .int .i64 x.b, .int .i64 x.c, .int .u64 x.w]] w fun e w' => e = .returned (.bool true) ∧ Keep (fun _ => False) w w' := by
  have xa := xok.a1
  go_enter Try.func7, Try.ntmps7
  go_wp2_with fail
  obtain ⟨w1, hw1⟩ : ∃ w1, w1 = ((w.alloc (.cells #[.int .i64 x.op, .int .i64 x.a, .int .i64 x.b, .int .i64 x.c, .int .u64 x.w] 31)).alloc (.cells #[.slice none 0 0, .int .i64 0, .int .i64 0] 57)).alloc (.cells #[.pointer none, .pointer (some ⟨w.heap.size + 1, 0, none⟩)] 23) := ⟨_, rfl⟩
  have k1 : Keep (fun _ => False) w w1 := by rw [hw1]; exact (((Keep.refl _ _).alloc _).alloc _).alloc _
  have facts : ∀ k, k < 2 → ∃ v, NbFacts (w.heap.size + 1 + 1) w.heap.size k v x w1 ∧ Nobody w1 v := by
    have hE : EmptyAt w1 (w.heap.size + 1) := by
      rw [hw1]
      show (((w.alloc _).alloc _).alloc _).heap[w.heap.size + 1]? = _
      rw [Below.heap_alloc _ _ _ (by simp)]
      have := heap_alloc_new (w.alloc (.cells #[.int .i64 x.op, .int .i64 x.a, .int .i64 x.b, .int .i64 x.c, .int .u64 x.w] 31)) (.cells #[.slice none 0 0, .int .i64 0, .int .i64 0] 57)
      simpa using this
    have hx : ∀ j, j < 5 → w1.cell? ⟨w.heap.size, j, none⟩ = #[Value.int .i64 x.op, .int .i64 x.a, .int .i64 x.b, .int .i64 x.c, .int .u64 x.w][j]? := by
      intro j _
      rw [hw1, World.cell?_alloc_lt _ _ _ (by simp; omega), World.cell?_alloc_lt _ _ _ (by simp), World.cell?_alloc_new]
    have hl : ∀ j, j < 2 → w1.cell? ⟨w.heap.size + 1 + 1, j, none⟩ = #[Value.pointer none, .pointer (some ⟨w.heap.size + 1, 0, none⟩)][j]? := by
      intro j _
      rw [hw1]
      have := World.cell?_alloc_new ((w.alloc (.cells #[.int .i64 x.op, .int .i64 x.a, .int .i64 x.b, .int .i64 x.c, .int .u64 x.w] 31)).alloc (.cells #[.slice none 0 0, .int .i64 0, .int .i64 0] 57)) #[Value.pointer none, .pointer (some ⟨w.heap.size + 1, 0, none⟩)] 23 j
      simpa using this
    intro k hk
    match k, hk with
    | 0, _ => exact ⟨_, ⟨hl 0 (by omega), hx 1 (by omega), hx 2 (by omega), hx 3 (by omega), hx 4 (by omega)⟩, .inl rfl⟩
    | 1, _ => exact ⟨_, ⟨hl 1 (by omega), hx 1 (by omega), hx 2 (by omega), hx 3 (by omega), hx 4 (by omega)⟩, .inr ⟨_, rfl, hE⟩⟩
  rw [← hw1]
  clear hw1
  generalize w.heap.size + 1 + 1 = lb at facts ⊢
  generalize w.heap.size = xb at facts ⊢
  go_loopw [5] (fun i wr => ∃ k : Nat, k ≤ 2 ∧ i = .int .i64 k ∧ Keep (fun _ => False) w1 wr) (fun i _ => 2 - (intOf i).toNat)
  case atStart => exact ⟨0, by omega, rfl, Keep.refl _ _⟩
  case round =>
    obtain ⟨k, hk, rfl, K⟩ := hrel
    by_cases hlt : k < 2
    · obtain ⟨v, hf, hN⟩ := facts k hlt
      have F := fun {a b : World} (h : NbFacts lb xb k v x a) (K : Keep (fun _ => False) a b) => nb_facts h K
      have hf' := nb_facts hf K
      obtain ⟨f0, f1, f2, f3, f4, _⟩ := hf'
      have hN' := hN.keep K
      have kk0 : (0 : Int) ≤ (k : Int) := by omega
      have kk1 : (k : Int) < 2 := by omega
      clear facts F
      go_wp2_with fail
      go_quiet ((go_at_call 16; exact Calls.quiet_of_same ((take_body v _ _ _ (hN.keep (by first | exact K | exact K.drewN _))).mono fun _ _ ⟨he, hw⟩ => ⟨he, hw.symm⟩)))
      go_wp2_with fail
      replace K := K.drewN nq
      clear f0 f1 f2 f3 f4 hN'
      generalize wr.drewN nq = w2 at K ⊢
      obtain ⟨f0, f1, f2, f3, f4, _⟩ := nb_facts hf K
      go_wp2_with fail
      go_quiet ((go_at_call 19; exact Calls.quiet_of_same ((bump_body v _ _ _ (hN.keep (by first | exact K | exact K.drewN _))).mono fun _ _ ⟨he, hw⟩ => ⟨he, hw.symm⟩)))
      go_wp2_with fail
      replace K := K.drewN nq
      clear f0 f1 f2 f3 f4
      generalize w2.drewN nq = w3 at K ⊢
      obtain ⟨f0, f1, f2, f3, f4, _⟩ := nb_facts hf K
      go_wp2_with fail
      go_quiet ((go_at_call 21; exact Calls.quiet_of_same ((read_body v _ _ (hN.keep (by first | exact K | exact K.drewN _)) xa).mono fun _ _ ⟨he, hw⟩ => ⟨he, hw.symm⟩)))
      go_wp2_with fail
      replace K := K.drewN nq
      clear f0 f1 f2 f3 f4
      generalize w3.drewN nq = w4 at K ⊢
      obtain ⟨f0, f1, f2, f3, f4, _⟩ := nb_facts hf K
      go_region_held3 (fun w' => w'.cell? ⟨lb, k, none⟩ = some v ∧ w'.cell? ⟨xb, 1, none⟩ = some (.int .i64 x.a) ∧ w'.cell? ⟨xb, 2, none⟩ = some (.int .i64 x.b) ∧ w'.cell? ⟨xb, 3, none⟩ = some (.int .i64 x.c) ∧ w'.cell? ⟨xb, 4, none⟩ = some (.int .u64 x.w) ∧ Keep (fun _ => False) w1 w')
        (first | exact ⟨f0, f1, f2, f3, f4, K⟩ | (go_split_ands; exact nb_facts hf (by repeat (first | assumption | apply Keep.drew | apply Keep.alloc))))
        ((go_at_call 17; go_split_ands; refine (seg_body_w v _ _ (hN.keep (by repeat (first | assumption | apply Keep.drew | apply Keep.alloc)))).mono ?_; rintro e w' ⟨rfl, rfl⟩))
      go_wp2_with fail
      all_goals
        have K5 : Keep (fun _ => False) w1 (((w4.alloc (.cells #[.int .i64 0, .int .i64 0, .int .i64 0, .int .i64 0, .int .i64 0, .int .i64 0, .int .i64 0] 37)).alloc (.cells #[.int .i64 0, .int .i64 0, .int .i64 0, .int .i64 0, .int .i64 0, .int .i64 0, .int .i64 0] 37)).drew) := ((K.alloc _).alloc _).drew
        clear f0 f1 f2 f3 f4 K
        generalize ((w4.alloc (.cells #[.int .i64 0, .int .i64 0, .int .i64 0, .int .i64 0, .int .i64 0, .int .i64 0, .int .i64 0] 37)).alloc (.cells #[.int .i64 0, .int .i64 0, .int .i64 0, .int .i64 0, .int .i64 0, .int .i64 0, .int .i64 0] 37)).drew = w5 at K5 ⊢
        obtain ⟨f0, f1, f2, f3, f4, _⟩ := nb_facts hf K5
        simp only [List.append_eq, List.cons_append, List.nil_append]
        go_region_held3 (fun w' => w'.cell? ⟨lb, k, none⟩ = some v ∧ w'.cell? ⟨xb, 1, none⟩ = some (.int .i64 x.a) ∧ w'.cell? ⟨xb, 2, none⟩ = some (.int .i64 x.b) ∧ w'.cell? ⟨xb, 3, none⟩ = some (.int .i64 x.c) ∧ w'.cell? ⟨xb, 4, none⟩ = some (.int .u64 x.w) ∧ Keep (fun _ => False) w1 w')
          (first | exact ⟨f0, f1, f2, f3, f4, K5⟩ | (go_split_ands; exact nb_facts hf (by repeat (first | assumption | apply Keep.drew | apply Keep.alloc))))
          (first
            | (go_at_call 20; go_split_ands; refine (write_body v _ _ _ (hN.keep (by repeat (first | assumption | apply Keep.drew))) xa).mono ?_; rintro e w' ⟨rfl, rfl⟩)
            | (go_at_call 18; go_split_ands; refine (give_body v _ _ (hN.keep (by repeat (first | assumption | apply Keep.drew)))).mono ?_; rintro e w' ⟨rfl, rfl⟩)
            | (go_at_call 28; go_split_ands; refine (mark_body v _ _ _ _ (hN.keep (by repeat (first | assumption | apply Keep.drew)))).mono ?_; rintro e w' ⟨rfl, rfl⟩)
            | (go_at_call 22; go_split_ands; refine (taken_body_k v w1 _ hN (by repeat (first | assumption | apply Keep.drew))).mono ?_; rintro e w' ⟨⟨A, c, rfl⟩, k'⟩)
            | (go_at_call 15; go_split_ands; refine (free_body v _ (hN.keep (by repeat (first | assumption | apply Keep.drew)))).mono ?_; rintro e w' ⟨rfl, rfl⟩)
            | (go_at_call 23; go_split_ands; refine (limit_body v _ (hN.keep (by repeat (first | assumption | apply Keep.drew)))).mono ?_; rintro e w' ⟨rfl, rfl⟩))
        go_wp2_with fail
      all_goals exact ⟨⟨k + 1, by omega, by go_num, by assumption⟩, by simp [intOf]; omega⟩
    · obtain rfl : k = 2 := by omega
      go_wp2_with fail
      refine (copy_nil _).mono ?_
      rintro e w2 ⟨rfl, rfl⟩
      go_wp2_with fail
      refine (awake7 _).mono ?_
      rintro e w3 ⟨rfl, k3⟩
      go_wp2_with fail
      go_ret
      exact ⟨rfl, (k1.trans K).trans k3⟩
end Go.Proofs.Ytgnpeciedefeiaa
