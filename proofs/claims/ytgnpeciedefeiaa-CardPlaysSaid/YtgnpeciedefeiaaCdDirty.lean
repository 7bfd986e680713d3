/-
  Cards: what Dirty answers.
-/
import Derived.Test.YtgnpeciedefeiaaCdNew
namespace Go.Proofs.Ytgnpeciedefeiaa
open Go.RowKit

/-- Is a card dirty for g? -/
def dirtyB (M : MemV) (g : Int) (t k : Nat) : Bool := decide (g < (M.sg t).gen) && decide ((M.sg t).card k ≤ g)
/-- The dirty ones of the first j cards of a segment. -/
def dirtyS (M : MemV) (g : Int) (t j : Nat) : List (Nat × Nat) := ((List.range j).filter (dirtyB M g t)).map fun k => (t, k)
/-- The dirty ones of a list. -/
def dirtyL (M : MemV) (g : Int) (L : List Nat) : List (Nat × Nat) := L.flatMap fun t => dirtyS M g t 4
theorem dirtyS_succ (M : MemV) (g : Int) (t j : Nat) : dirtyS M g t (j + 1) = dirtyS M g t j ++ if dirtyB M g t j = true then [(t, j)] else [] := by
  unfold dirtyS
  rw [List.range_succ, List.filter_append, List.map_append]
  by_cases h : dirtyB M g t j = true
  · rw [if_pos h]; simp [h]
  · rw [if_neg h]; simp [h]
theorem dirtyS_len (M : MemV) (g : Int) (t j : Nat) : (dirtyS M g t j).length ≤ j := by
  unfold dirtyS
  rw [List.length_map]
  exact Nat.le_trans (List.length_filter_le _ _) (by simp)
theorem dirtyL_take (M : MemV) (g : Int) (L : List Nat) (i : Nat) (hi : i < L.length) : dirtyL M g (L.take (i + 1)) = dirtyL M g (L.take i) ++ dirtyS M g (L.getD i 0) 4 := by
  unfold dirtyL
  rw [List.take_succ_eq_append_getElem hi, List.flatMap_append, List.getD_eq_getElem?_getD, List.getElem?_eq_getElem hi]
  simp
theorem dirtyL_len (M : MemV) (g : Int) : ∀ L : List Nat, (dirtyL M g L).length ≤ 4 * L.length
  | [] => by simp [dirtyL]
  | t :: L => by
    have ih := dirtyL_len M g L
    have h := dirtyS_len M g t 4
    unfold dirtyL at *
    rw [List.flatMap_cons, List.length_append, List.length_cons]
    omega
/-- The cells of a list of cards. -/
def cardCells (l : List (Nat × Nat)) : List Value := l.flatMap fun x => [.int .i64 (x.1 : Int), .int .i64 (x.2 : Int)]
theorem cardCells_append (l m : List (Nat × Nat)) : cardCells (l ++ m) = cardCells l ++ cardCells m := by simp [cardCells]
theorem cardCells_len : ∀ l : List (Nat × Nat), (cardCells l).length = l.length * 2
  | [] => rfl
  | x :: l => by
    have := cardCells_len l
    unfold cardCells at *
    rw [List.flatMap_cons, List.length_append, this, List.length_cons]
    simp
    omega
theorem cardCells_get : ∀ (l : List (Nat × Nat)) (i : Nat), i < l.length → (cardCells l)[i * 2]? = some (.int .i64 ((l.getD i (0, 0)).1 : Int)) ∧ (cardCells l)[i * 2 + 1]? = some (.int .i64 ((l.getD i (0, 0)).2 : Int))
  | [], i, h => by simp at h
  | x :: l, 0, _ => by simp [cardCells]
  | x :: l, i + 1, h => by
    have ih := cardCells_get l i (by simpa using h)
    have e : cardCells (x :: l) = .int .i64 (x.1 : Int) :: .int .i64 (x.2 : Int) :: cardCells l := by simp [cardCells]
    rw [e, show (i + 1) * 2 = i * 2 + 1 + 1 from by omega]
    simpa using ih

/-- A slice of cards that lies there. -/
def CardsAt (w : World) (A : Option Addr) (n : Nat) (l : List (Nat × Nat)) : Prop :=
  l.length = n ∧ ∀ j, j < n → ∃ b off, A = some ⟨b, off, none⟩ ∧ b < w.heap.size ∧ w.cell? ⟨b, off + j * 2, none⟩ = some (.int .i64 ((l.getD j (0, 0)).1 : Int)) ∧ w.cell? ⟨b, off + j * 2 + 1, none⟩ = some (.int .i64 ((l.getD j (0, 0)).2 : Int))
theorem CardsAt.keep0 {w w' : World} {A : Option Addr} {n : Nat} {l : List (Nat × Nat)} (h : CardsAt w A n l) (K : Keep (fun _ => False) w w') : CardsAt w' A n l :=
  ⟨h.1, fun j hj => by
    obtain ⟨b, off, e, hb, h1, h2⟩ := h.2 j hj
    exact ⟨b, off, e, Nat.lt_of_lt_of_le hb K.size, (K.cell (p := ⟨b, off + j * 2, none⟩) hb (by simp)).trans h1, (K.cell (p := ⟨b, off + j * 2 + 1, none⟩) hb (by simp)).trans h2⟩⟩
theorem CardsAt.keep {T : Nat → Prop} {w w' : World} {A : Option Addr} {n : Nat} {l : List (Nat × Nat)} (h : CardsAt w A n l) (K : Keep T w w') (hs : ∀ b off, A = some ⟨b, off, none⟩ → ¬ T b) : CardsAt w' A n l :=
  ⟨h.1, fun j hj => by
    obtain ⟨b, off, e, hb, h1, h2⟩ := h.2 j hj
    exact ⟨b, off, e, Nat.lt_of_lt_of_le hb K.size, (K.cell (p := ⟨b, off + j * 2, none⟩) hb (hs b off e)).trans h1, (K.cell (p := ⟨b, off + j * 2 + 1, none⟩) hb (hs b off e)).trans h2⟩⟩
theorem own_cards {w : World} {base n : Nat} {v : Value} {l : List (Nat × Nat)} (h : w.ownsRow base 90 2 v n (cardCells l)) : ∃ A c, v = .slice A n c ∧ CardsAt w A n l ∧ ∀ b off, A = some ⟨b, off, none⟩ → base ≤ b ∧ b < w.heap.size := by
  have hlen : l.length = n := by have := h.1; rw [cardCells_len] at this; omega
  obtain ⟨A, c, rfl⟩ := own_shape h
  refine ⟨A, c, rfl, ⟨hlen, fun j hj => ?_⟩, fun b off e => ?_⟩
  · obtain ⟨g, c', hv, _, hlt⟩ := h.form (by omega)
    injection hv with h1 _ h3
    subst h1 h3
    obtain ⟨e1, e2⟩ := cardCells_get l j (by omega)
    refine ⟨g, 0, rfl, hlt, ?_, ?_⟩
    · rw [Nat.zero_add, h.cellAt _ (by omega), e1]
    · rw [Nat.zero_add, h.cellAt _ (by omega), e2]
  · subst e
    exact h.lt b rfl

/-- What Dirty leaves. -/
def DirtyPost (l : List (Nat × Nat)) (w : World) (e : Ending) (w' : World) : Prop :=
  ∃ (A : Option Addr) (c : Nat), e = .returned (.slice A l.length c) ∧ CardsAt w' A l.length l ∧ (∀ b off, A = some ⟨b, off, none⟩ → w.heap.size ≤ b) ∧ Keep (fun _ => False) w w'

theorem info90 : (Try.prog.info? 90).map (fun i => (i.zero, i.size, i.bytes)) = some (some (.agg #[.int .i64 0, .int .i64 0]), 2, 16) := by kernel_rfl

theorem pair_at (w : World) (x y : Value) (t : TypeId) : ∀ j u, [x, y][j]? = some u → (w.alloc (.cells #[x, y] t)).cell? ((⟨w.heap.size, 0, none⟩ : Addr).add j) = some u := by
  intro j u h
  match j with
  | 0 => simp at h; subst h; simp [Addr.add]
  | 1 => simp at h; subst h; simp [Addr.add]
  | j + 2 => simp at h

theorem ix0 (a b c d : Int) (w : World) : (Instr.index 35 (.agg #[.int .i64 a, .int .i64 b, .int .i64 c, .int .i64 d]) (.int .i64 0)).run Try.prog w = .ok (.int .i64 a) w := by kernel_rfl
theorem ix1 (a b c d : Int) (w : World) : (Instr.index 35 (.agg #[.int .i64 a, .int .i64 b, .int .i64 c, .int .i64 d]) (.int .i64 1)).run Try.prog w = .ok (.int .i64 b) w := by kernel_rfl
theorem ix2 (a b c d : Int) (w : World) : (Instr.index 35 (.agg #[.int .i64 a, .int .i64 b, .int .i64 c, .int .i64 d]) (.int .i64 2)).run Try.prog w = .ok (.int .i64 c) w := by kernel_rfl
theorem ix3 (a b c d : Int) (w : World) : (Instr.index 35 (.agg #[.int .i64 a, .int .i64 b, .int .i64 c, .int .i64 d]) (.int .i64 3)).run Try.prog w = .ok (.int .i64 d) w := by kernel_rfl
theorem ix_card (s : Sg) (j : Nat) (hj : j < 4) (w : World) : (Instr.index 35 (.agg #[.int .i64 s.c0, .int .i64 s.c1, .int .i64 s.c2, .int .i64 s.c3]) (.int .i64 (j : Int))).run Try.prog w = .ok (.int .i64 (s.card j)) w := by
  match j, hj with
  | 0, _ => exact ix0 _ _ _ _ w
  | 1, _ => exact ix1 _ _ _ _ w
  | 2, _ => exact ix2 _ _ _ _ w
  | 3, _ => exact ix3 _ _ _ _ w

/-- The inner loop's relation. -/
def DirtyRel (w0 : World) (_M : MemV) (l : List (Nat × Nat)) (v : Value) (w : World) : Prop := w.ownsRow w0.heap.size 90 2 v l.length (cardCells l)

theorem DirtyRel.skip {w0 w : World} {M : MemV} {A : List (Nat × Nat)} {gg : Int} {t j : Nat} {v : Value} (h : DirtyRel w0 M (A ++ dirtyS M gg t j) v w) (hd : dirtyB M gg t j = false) : DirtyRel w0 M (A ++ dirtyS M gg t (j + 1)) v w := by
  rw [dirtyS_succ, hd]
  simpa using h
theorem DirtyRel.hit {w0 w : World} {M : MemV} {A : List (Nat × Nat)} {gg : Int} {t j : Nat} {v : Value} (h : w.ownsRow w0.heap.size 90 2 v (A.length + (dirtyS M gg t j).length + 1) (cardCells (A ++ dirtyS M gg t j) ++ [.int .i64 (t : Int), .int .i64 (j : Int)])) (hd : dirtyB M gg t j = true) : DirtyRel w0 M (A ++ dirtyS M gg t (j + 1)) v w := by
  unfold DirtyRel
  rw [dirtyS_succ, if_pos hd, ← List.append_assoc, cardCells_append]
  simpa [cardCells, Nat.add_assoc] using h

set_option maxRecDepth 100000 in
set_option maxHeartbeats 4000000 in
theorem dirty_any {w : World} {c s p g : Nat} {S : SpV} {L : List Nat} (h : CdAt w c s p g S) (ok : S.Ok) (T : TakenL S.M [] L) (gg : Int) :
    Calls Try.prog 42 #[.pointer (some ⟨c, 0, none⟩), .int .i64 gg] w (DirtyPost (dirtyL S.M gg L) w) := by
  obtain ⟨i0, hi, hz0, hz1, hz2⟩ := info_parts info90
  have c0 := h.ptr
  have s0 := h.sp.ptr
  have l1024 := ok.mem.l1024
  have hl : L.length ≤ 1024 := by have := T.len; have := sel_len S.M [] S.M.lim; omega
  go_enter Try.func42, Try.ntmps42
  go_wp2_with fail
  refine (cnone_no c0 s0).mono ?_
  rintro e w1 ⟨rfl, rfl⟩
  go_wp2_with fail
  refine (taken_any p g S.M ok.mem none 0 0 [] _ h.sp.mem (IntsAt.nil _ _) (by omega)).mono ?_
  rintro e w1 ⟨A', c', L', rfl, I1, T', m1, K1⟩
  obtain rfl : L' = L := T'.unique T
  clear c0 s0
  go_wp2_with fail
  go_loopw [5, 7, 8, 23] (fun v _ _ i wr => ∃ k : Nat, k ≤ L'.length ∧ i = .int .i64 k ∧ DirtyRel w1 S.M (dirtyL S.M gg (L'.take k)) v wr ∧ Keep (fun _ => False) w wr ∧ Keep (fun _ => False) w1 wr) (fun _ _ _ i _ => L'.length - (intOf i).toNat)
  case atStart => exact ⟨0, Nat.zero_le _, rfl, World.ownsRow_nil _ _ _ _, K1, Keep.refl _ _⟩
  case round =>
    obtain ⟨k, hk, rfl, own, K, K'⟩ := hrel
    have hr := h.keep0 K
    have c0 := hr.ptr
    have s0 := hr.sp.ptr
    by_cases hlt : k < L'.length
    · obtain ⟨b, off, rfl, hb, hcell⟩ := (I1.keep0 K').2 k hlt
      rw [getD_cast L' k hlt] at hcell
      obtain ⟨htl, htt⟩ := T.mem (getD_mem hlt)
      have htk := dirtyL_take S.M gg L' k hlt
      have hlen := dirtyL_len S.M gg (L'.take k)
      have hlen2 : (L'.take k).length ≤ 1024 := by rw [List.length_take]; omega
      obtain ⟨t, ht⟩ : ∃ t, t = L'.getD k 0 := ⟨_, rfl⟩
      rw [← ht] at hcell htl htt htk
      have Htk := Lib.hid htk
      have Own := Lib.hid own
      have Hlen := Lib.hid (show (dirtyL S.M gg (L'.take k)).length ≤ 4096 by omega)
      clear htk ht own hlen hlen2
      go_wp2_with fail
      refine (seg_yes2 p g S.M t _ _ hr.sp.mem l1024 rfl htl htt).mono ?_
      rintro e w3 ⟨rfl, k3⟩
      go_wp2_with fail
      have k4 := k3.alloc (.cells #[.int .i64 (S.M.sg t).gen, .int .i64 (S.M.sg t).kind, .int .i64 (S.M.sg t).n, .int .i64 (S.M.sg t).c0, .int .i64 (S.M.sg t).c1, .int .i64 (S.M.sg t).c2, .int .i64 (S.M.sg t).c3] 37)
      have hS : SAt (w3.alloc (.cells #[.int .i64 (S.M.sg t).gen, .int .i64 (S.M.sg t).kind, .int .i64 (S.M.sg t).n, .int .i64 (S.M.sg t).c0, .int .i64 (S.M.sg t).c1, .int .i64 (S.M.sg t).c2, .int .i64 (S.M.sg t).c3] 37)) w3.heap.size (S.M.sg t) := heap_alloc_new _ _
      have hx0 : w.heap.size ≤ w3.heap.size := Nat.le_trans K.size k3.size
      have own4 := own_keep k4 Own.out (fun _ _ => id)
      generalize w3.heap.size = xb at hS hx0 ⊢
      generalize w3.alloc (.cells #[.int .i64 (S.M.sg t).gen, .int .i64 (S.M.sg t).kind, .int .i64 (S.M.sg t).n, .int .i64 (S.M.sg t).c0, .int .i64 (S.M.sg t).c1, .int .i64 (S.M.sg t).c2, .int .i64 (S.M.sg t).c3] 37) = w4 at k4 hS own4 ⊢
      have K4 := K.trans k4
      have K4' := K'.trans k4
      clear k4 k3 K K' hr c0 s0 hcell
      go_loopw [5, 41] (fun v i wx => ∃ j : Nat, j ≤ 4 ∧ i = .int .i64 j ∧ DirtyRel w1 S.M (dirtyL S.M gg (L'.take k) ++ dirtyS S.M gg t j) v wx ∧ SAt wx xb (S.M.sg t) ∧ Keep (fun _ => False) w wx ∧ Keep (fun _ => False) w1 wx) (fun _ i _ => 4 - (intOf i).toNat)
      case atStart => exact ⟨0, by omega, rfl, by simpa [DirtyRel, dirtyS] using own4, hS, K4, K4'⟩
      case round =>
        clear hS K4 K4' own4
        obtain ⟨j, hj, rfl, own, hS, K, K'⟩ := hrel
        by_cases hj4 : j < 4
        · have hx := fun w => ix_card (S.M.sg t) j hj4 w
          have s0 := hS.cells.1
          have jj0 : (0 : Int) ≤ (j : Int) := by omega
          have jj4 : (j : Int) < 4 := by omega
          by_cases d1 : gg < (S.M.sg t).gen
          · by_cases d2 : (S.M.sg t).card j ≤ gg
            · have hd : dirtyB S.M gg t j = true := by simp [dirtyB, d1, d2]
              have Hd := Lib.hid hd
              unfold DirtyRel at own
              have Own := Lib.hid own
              have hl4 : (dirtyL S.M gg (L'.take k) ++ dirtyS S.M gg t j).length ≤ 5000 := by
                rw [List.length_append]
                have := dirtyS_len S.M gg t j
                have := Hlen.out
                omega
              have Hl4 := Lib.hid hl4
              clear hd own hl4
              go_wp2_with (at_builtin; refine wpList_append_own _ rfl (.tmp 54) (.tmp 58) 85 rfl w1.heap.size 90 i0 _ 2 16 Try.underlying85 hi hz0 hz1 hz2 rfl (by decide) _ _ _ rfl (Own.out.alloc _) ⟨wr.heap.size, 0, none⟩ 1 1 [.int .i64 (t : Int), .int .i64 (j : Int)] rfl rfl (pair_at _ _ _ _) ?a1 ?a2 ?a3 ?a4 ?_)
              case a1 => intro u hu; simp at hu; rcases hu with rfl | rfl <;> rfl
              case a2 => have := Hl4.out; unfold maxLen; omega
              case a3 => have := Hl4.out; omega
              case a4 => have := K'.size; simp; omega
              intro v' w5 own5 hgrow _
              have K5 : Keep (fun _ => False) w w5 := (K.alloc (.cells #[.int .i64 (t : Int), .int .i64 (j : Int)] 90)).grown hgrow (fun b hb => .inr (Nat.le_trans K1.size (own_type Own.out hb).1))
              have K5' : Keep (fun _ => False) w1 w5 := (K'.alloc (.cells #[.int .i64 (t : Int), .int .i64 (j : Int)] 90)).grown hgrow (fun b hb => .inr (own_type Own.out hb).1)
              have k5 : Keep (fun b => ∃ cc, wr.heap[b]? = some (.cells cc 90 (0, 0))) wr w5 := ((Keep.refl (fun b => ∃ cc, wr.heap[b]? = some (.cells cc 90 (0, 0))) wr).alloc (.cells #[.int .i64 (t : Int), .int .i64 (j : Int)] 90)).grown hgrow (fun b hb => .inl (own_type Own.out hb).2)
              have hS5 : SAt w5 xb (S.M.sg t) := k5.heap hS (fun e => by
                obtain ⟨cc, hcc⟩ := e
                unfold SAt at hS
                rw [hS] at hcc
                injection hcc with hcc
                injection hcc with _ hcc
                exact absurd hcc (by decide))
              have own6 := Lib.hid (DirtyRel.hit (w0 := w1) own5 Hd.out)
              clear own5 hgrow k5 hS s0
              go_wp2
              go_roundw
              case rel => exact ⟨j + 1, by omega, by go_num, own6.out, hS5, K5, K5'⟩
              case measure => simp [intOf]; omega
            · have Own := Lib.hid (own.skip (j := j) (by simp [dirtyB, d2]))
              clear own
              go_wp2_with fail
              go_roundw
              case rel => exact ⟨j + 1, by omega, by go_num, Own.out, hS, K, K'⟩
              case measure => simp [intOf]; omega
          · have Own := Lib.hid (own.skip (j := j) (by simp [dirtyB, d1]))
            clear own
            go_wp2_with fail
            go_roundw
            case rel => exact ⟨j + 1, by omega, by go_num, Own.out, hS, K, K'⟩
            case measure => simp [intOf]; omega
        · obtain rfl : j = 4 := by omega
          rw [← Htk.out] at own
          have Own := Lib.hid own
          clear own
          go_wp2_with fail
          go_roundw
          case rel => exact ⟨k + 1, by omega, by go_num, Own.out, K, K'⟩
          case measure => simp [intOf]; omega
    · obtain rfl : k = L'.length := by omega
      rw [List.take_length] at own
      obtain ⟨A, cc, rfl, hC, hb⟩ := own_cards own
      clear own
      go_wp2_with fail
      go_ret
      exact ⟨A, cc, rfl, hC, fun b off e => Nat.le_trans K1.size (hb b off e).1, K⟩
end Go.Proofs.Ytgnpeciedefeiaa
