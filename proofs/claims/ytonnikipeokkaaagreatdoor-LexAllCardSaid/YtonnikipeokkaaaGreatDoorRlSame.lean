/-
  The document's lex: Same.
-/
import Derived.Test.YtonnikipeokkaaaGreatDoorRlWord
import Derived.LoopN
namespace Go.Proofs.YtonnikipeokkaaaGreatDoor
open Go.RowKit Go.Lib

theorem dat_cells {w : World} {B : Nat} {x0 x1 x2 x3 x4 x5 : Value} (h : w.heap[B]? = some (.cells #[x0, x1, x2, x3, x4, x5] 27 (0, 0))) :
    w.cell? ⟨B, 0, none⟩ = some x0 ∧ w.cell? ⟨B, 1, none⟩ = some x1 ∧ w.cell? ⟨B, 2, none⟩ = some x2 ∧ w.cell? ⟨B, 3, none⟩ = some x3 ∧ w.cell? ⟨B, 4, none⟩ = some x4 ∧ w.cell? ⟨B, 5, none⟩ = some x5 := by
  refine ⟨?_, ?_, ?_, ?_, ?_, ?_⟩
  all_goals (rw [cell_of_row w _ _ _ _ _ h]; rfl)
set_option maxRecDepth 100000 in
set_option maxHeartbeats 2000000 in
theorem rsame_dat (k c : Int) (neg : Bool) (A A' : Option Addr) (n cp n' cp' : Nat) (t : ByteArray) (l : List Nat) (w : World) (h : LimbsAt w A n cp l) (h' : LimbsAt w A' n' cp' l) :
    Calls Tryz.prog 20 #[datV k c neg A n cp t, datV k c neg A' n' cp' t] w (BoolPost true w) := by
  have hb1 : ((w.alloc (.cells #[.int .i64 k, .int .i32 c, .bool neg, .slice A n cp, .string t, .slice none 0 0] 27)).alloc (.cells #[.int .i64 k, .int .i32 c, .bool neg, .slice A' n' cp', .string t, .slice none 0 0] 27)).heap[w.heap.size]? = some (.cells #[.int .i64 k, .int .i32 c, .bool neg, .slice A n cp, .string t, .slice none 0 0] 27 (0, 0)) := by
    rw [Below.heap_alloc _ _ _ (by simp)]; exact heap_alloc_new w _
  have hb2 : ((w.alloc (.cells #[.int .i64 k, .int .i32 c, .bool neg, .slice A n cp, .string t, .slice none 0 0] 27)).alloc (.cells #[.int .i64 k, .int .i32 c, .bool neg, .slice A' n' cp', .string t, .slice none 0 0] 27)).heap[w.heap.size + 1]? = some (.cells #[.int .i64 k, .int .i32 c, .bool neg, .slice A' n' cp', .string t, .slice none 0 0] 27 (0, 0)) := by
    have := heap_alloc_new (w.alloc (.cells #[.int .i64 k, .int .i32 c, .bool neg, .slice A n cp, .string t, .slice none 0 0] 27)) (.cells #[.int .i64 k, .int .i32 c, .bool neg, .slice A' n' cp', .string t, .slice none 0 0] 27)
    rwa [World.size_alloc] at this
  have K : Keep (fun _ => False) w ((w.alloc (.cells #[.int .i64 k, .int .i32 c, .bool neg, .slice A n cp, .string t, .slice none 0 0] 27)).alloc (.cells #[.int .i64 k, .int .i32 c, .bool neg, .slice A' n' cp', .string t, .slice none 0 0] 27)) := ((Keep.refl _ _).alloc _).alloc _
  have HB1 := Lib.hid hb1
  have HB2 := Lib.hid hb2
  have HK := Lib.hid K
  have HS := Lib.hid (fun (w1 : World) (k1 : Keep (fun _ => False) w w1) => same_any neg A n cp l neg A' n' cp' l w1 (h.keep0 k1) (h'.keep0 k1))
  have HSB := Lib.hid (show sameB neg l neg l = true from decide_eq_true ⟨rfl, rfl⟩)
  obtain ⟨a0, a1, a2, a3, a4, a5⟩ := dat_cells hb1
  obtain ⟨b0, b1, b2, b3, b4, b5⟩ := dat_cells hb2
  have ek : (k != k) = false := by simp
  have ec : (c != c) = false := by simp
  have et : (t.toList != t.toList) = false := by simp
  have et2 : (t.toList == t.toList) = true := by simp
  clear hb1 hb2 K h h'
  go_enter Tryz.func20, Tryz.ntmps20
  go_wp2_with fail
  generalize ((w.alloc (.cells #[.int .i64 k, .int .i32 c, .bool neg, .slice A n cp, .string t, .slice none 0 0] 27)).alloc (.cells #[.int .i64 k, .int .i32 c, .bool neg, .slice A' n' cp', .string t, .slice none 0 0] 27)) = w1 at *
  refine (HS.out _ HK.out).mono ?_
  rintro e w2 ⟨rfl, k2⟩
  rw [HSB.out]
  have hb1 := k2.heap HB1.out (by simp)
  have hb2 := k2.heap HB2.out (by simp)
  have HK2 := Lib.hid (HK.out.trans k2)
  clear a0 a1 a2 a3 a4 a5 b0 b1 b2 b3 b4 b5 k2
  obtain ⟨a0, a1, a2, a3, a4, a5⟩ := dat_cells hb1
  obtain ⟨b0, b1, b2, b3, b4, b5⟩ := dat_cells hb2
  clear hb1 hb2
  go_wp2_with fail
  refine wp_loop_rounds 1 ?_
  rw [rounds_succ]
  go_wp2_with fail
  go_ret
  exact ⟨rfl, HK2.out⟩
set_option maxRecDepth 100000 in
set_option maxHeartbeats 2000000 in
theorem rsame_tok (kind at_ end_ : Int) (sq : Bool) (k c : Int) (neg : Bool) (A A' : Option Addr) (n cp n' cp' : Nat) (t : ByteArray) (l : List Nat) (w : World) (h : LimbsAt w A n cp l) (h' : LimbsAt w A' n' cp' l) :
    Calls Tryz.prog 15 #[tokV kind at_ end_ sq k c neg A n cp t, tokV kind at_ end_ sq k c neg A' n' cp' t] w (BoolPost true w) := by
  have hb1 : ((w.alloc (.cells #[.int .i64 kind, .int .i64 at_, .int .i64 end_, .bool sq, .int .i64 k, .int .i32 c, .bool neg, .slice A n cp, .string t, .slice none 0 0] 29)).alloc (.cells #[.int .i64 kind, .int .i64 at_, .int .i64 end_, .bool sq, .int .i64 k, .int .i32 c, .bool neg, .slice A' n' cp', .string t, .slice none 0 0] 29)).heap[w.heap.size]? = some (.cells #[.int .i64 kind, .int .i64 at_, .int .i64 end_, .bool sq, .int .i64 k, .int .i32 c, .bool neg, .slice A n cp, .string t, .slice none 0 0] 29 (0, 0)) := by
    rw [Below.heap_alloc _ _ _ (by simp)]; exact heap_alloc_new w _
  have hb2 : ((w.alloc (.cells #[.int .i64 kind, .int .i64 at_, .int .i64 end_, .bool sq, .int .i64 k, .int .i32 c, .bool neg, .slice A n cp, .string t, .slice none 0 0] 29)).alloc (.cells #[.int .i64 kind, .int .i64 at_, .int .i64 end_, .bool sq, .int .i64 k, .int .i32 c, .bool neg, .slice A' n' cp', .string t, .slice none 0 0] 29)).heap[w.heap.size + 1]? = some (.cells #[.int .i64 kind, .int .i64 at_, .int .i64 end_, .bool sq, .int .i64 k, .int .i32 c, .bool neg, .slice A' n' cp', .string t, .slice none 0 0] 29 (0, 0)) := by
    have := heap_alloc_new (w.alloc (.cells #[.int .i64 kind, .int .i64 at_, .int .i64 end_, .bool sq, .int .i64 k, .int .i32 c, .bool neg, .slice A n cp, .string t, .slice none 0 0] 29)) (.cells #[.int .i64 kind, .int .i64 at_, .int .i64 end_, .bool sq, .int .i64 k, .int .i32 c, .bool neg, .slice A' n' cp', .string t, .slice none 0 0] 29)
    rwa [World.size_alloc] at this
  have K : Keep (fun _ => False) w ((w.alloc (.cells #[.int .i64 kind, .int .i64 at_, .int .i64 end_, .bool sq, .int .i64 k, .int .i32 c, .bool neg, .slice A n cp, .string t, .slice none 0 0] 29)).alloc (.cells #[.int .i64 kind, .int .i64 at_, .int .i64 end_, .bool sq, .int .i64 k, .int .i32 c, .bool neg, .slice A' n' cp', .string t, .slice none 0 0] 29)) := ((Keep.refl _ _).alloc _).alloc _
  have HK := Lib.hid K
  have HS := Lib.hid (fun (w1 : World) (k1 : Keep (fun _ => False) w w1) => rsame_dat k c neg A A' n cp n' cp' t l w1 (h.keep0 k1) (h'.keep0 k1))
  obtain ⟨⟨a0, a1, a2, a3, a4, a5, a6, a7, a8, a9⟩, _⟩ := tok_cells hb1
  obtain ⟨⟨b0, b1, b2, b3, b4, b5, b6, b7, b8, b9⟩, _⟩ := tok_cells hb2
  have e1 : (kind == kind) = true := by simp
  have e2 : (at_ == at_) = true := by simp
  have e3 : (end_ == end_) = true := by simp
  have e4 : (sq == sq) = true := by simp
  clear hb1 hb2 K h h'
  go_enter Tryz.func15, Tryz.ntmps15
  go_wp2_with fail
  generalize ((w.alloc (.cells #[.int .i64 kind, .int .i64 at_, .int .i64 end_, .bool sq, .int .i64 k, .int .i32 c, .bool neg, .slice A n cp, .string t, .slice none 0 0] 29)).alloc (.cells #[.int .i64 kind, .int .i64 at_, .int .i64 end_, .bool sq, .int .i64 k, .int .i32 c, .bool neg, .slice A' n' cp', .string t, .slice none 0 0] 29)) = w1 at *
  refine (HS.out _ HK.out).mono ?_
  rintro e w2 ⟨rfl, k2⟩
  have HK2 := Lib.hid (HK.out.trans k2)
  clear a0 a1 a2 a3 a4 a5 a6 a7 a8 a9 b0 b1 b2 b3 b4 b5 b6 b7 b8 b9 k2
  go_wp2_with fail
  go_ret
  exact ⟨rfl, HK2.out⟩
/-- Two tokens of one and the same. -/
theorem leaf_two {w : World} {d : Leaf} {k c k' c' : Int} {neg neg' : Bool} {A A' : Option Addr} {n cp n' cp' : Nat} {t t' : ByteArray} (h : LeafAt w d k c neg A n cp t) (h' : LeafAt w d k' c' neg' A' n' cp' t') :
    k = k' ∧ c = c' ∧ neg = neg' ∧ t = t' ∧ ∃ l, LimbsAt w A n cp l ∧ LimbsAt w A' n' cp' l := by
  cases d
  case int x =>
    obtain ⟨rfl, rfl, rfl, h1, _, rfl⟩ := h
    obtain ⟨rfl, rfl, rfl, h2, _, rfl⟩ := h'
    exact ⟨rfl, rfl, rfl, rfl, _, h1.lim, h2.lim⟩
  all_goals
    obtain ⟨rfl, rfl, rfl, rfl, rfl, rfl, rfl⟩ := h
    obtain ⟨rfl, rfl, rfl, rfl, rfl, rfl, rfl⟩ := h'
    exact ⟨rfl, rfl, rfl, rfl, [], none_limbs w, none_limbs w⟩
end Go.Proofs.YtonnikipeokkaaaGreatDoor
