/-
  A word's datum: build.Datum, of a number and of a truth.
-/
import Derived.Test.YtkjocmenpccooaaGreatDoorHpU
import Derived.Test.YtkjocmenpccooaaGreatDoorG3
namespace Go.Proofs.YtkjocmenpccooaaGreatDoor
open Go.RowKit

abbrev datV (k : Int) (q : Bool) (A : Option Addr) (n c : Nat) (t : ByteArray) : Value := .agg #[.int .i64 k, .int .i32 0, .bool q, .slice A n c, .string t, .slice none 0 0]
abbrev datC (k : Int) (q : Bool) (A : Option Addr) (n c : Nat) (t : ByteArray) : Obj := .cells #[.int .i64 k, .int .i32 0, .bool q, .slice A n c, .string t, .slice none 0 0] 27
abbrev sixSet (w : World) (B : Nat) (y0 y1 y2 y3 y4 y5 : Value) : World := (((((((((((w.setCell ⟨B, 0, none⟩ y0)).setCell ⟨B, 1, none⟩ y1)).setCell ⟨B, 2, none⟩ y2)).setCell ⟨B, 3, none⟩ y3)).setCell ⟨B, 4, none⟩ y4)).setCell ⟨B, 5, none⟩ y5)
theorem six_row {w : World} {B : Nat} {x0 x1 x2 x3 x4 x5 : Value} (h : w.heap[B]? = some (.cells #[x0, x1, x2, x3, x4, x5] 27 (0, 0))) (y0 y1 y2 y3 y4 y5 : Value) : (sixSet w B y0 y1 y2 y3 y4 y5).heap[B]? = some (.cells #[y0, y1, y2, y3, y4, y5] 27 (0, 0)) := by
  simp [sixSet, World.setCell, Array.getElem?_modify, h]
theorem six_self (w : World) (B : Nat) (y0 y1 y2 y3 y4 y5 : Value) : Keep (fun b => b = B) w (sixSet w B y0 y1 y2 y3 y4 y5) := by
  refine Keep.setCell (S := fun b => b = B) (p := ⟨B, 5, none⟩) ?_ (.inl rfl) _
  refine Keep.setCell (S := fun b => b = B) (p := ⟨B, 4, none⟩) ?_ (.inl rfl) _
  refine Keep.setCell (S := fun b => b = B) (p := ⟨B, 3, none⟩) ?_ (.inl rfl) _
  refine Keep.setCell (S := fun b => b = B) (p := ⟨B, 2, none⟩) ?_ (.inl rfl) _
  refine Keep.setCell (S := fun b => b = B) (p := ⟨B, 1, none⟩) ?_ (.inl rfl) _
  refine Keep.setCell (S := fun b => b = B) (p := ⟨B, 0, none⟩) ?_ (.inl rfl) _
  exact Keep.refl _ _
theorem six_keep {w w1 : World} {B : Nat} (k : Keep (fun _ => False) w w1) (hB : w.heap.size ≤ B) (y0 y1 y2 y3 y4 y5 : Value) : Keep (fun _ => False) w (sixSet w1 B y0 y1 y2 y3 y4 y5) :=
  k.into (six_self w1 B y0 y1 y2 y3 y4 y5) (by rintro i rfl; exact hB)
/-! ### New -/
def HNewPost (w : World) (e : Ending) (w' : World) : Prop := ∃ h c s p g : Nat, e = .returned (.tuple #[.pointer (some ⟨h, 0, none⟩), .int .i64 0]) ∧ w.heap.size ≤ h ∧ w.heap.size ≤ c ∧ w.heap.size ≤ s ∧ w.heap.size ≤ p ∧ w.heap.size ≤ g ∧ HpAt w' h c s p g (SpV.new 100) ∧ Keep (fun _ => False) w w'
set_option maxRecDepth 100000 in
set_option maxHeartbeats 4000000 in
theorem hnew_any (w : World) : Calls Tryz.prog 16 #[.int .i64 100] w (HNewPost w) := by
  have HN := Lib.hid (new9_yes 100 100 w rfl (by decide) (by decide))
  go_enter Tryz.func16, Tryz.ntmps16
  go_wp2_with fail
  refine HN.out.mono ?_
  rintro e w2 ⟨c, s, p, g, rfl, hc, hs, hp, hg, cd, k2⟩
  have HCD := Lib.hid cd
  have HK := Lib.hid k2
  have hl := Lib.hid (And.intro hc (And.intro hs (And.intro hp hg)))
  have hb := heap_alloc_new w2 (.cells #[.pointer (some ⟨c, 0, none⟩), .slice none 0 0, .slice none 0 0, .int .u64 0] 58)
  have HB := Lib.hid hb
  have hcl := cd.lt
  have hsl := cd.sp.lt
  have hpl := cd.sp.mem.lt
  have hgl := cd.sp.mem.segs.lt
  have hnm := cd.notMine
  have HR := Lib.hid (show HpAt (w2.alloc (.cells #[.pointer (some ⟨c, 0, none⟩), .slice none 0 0, .slice none 0 0, .int .u64 0] 58)) w2.heap.size c s p g (SpV.new 100) from
    ⟨hb, cd.keep0 ((Keep.refl _ _).alloc _), SpV.Ok.new (by decide) (by decide), by decide, by omega, by omega, by omega, fun e => hnm (.inl e), fun e => hnm (.inr (.inl e)), fun e => hnm (.inr (.inr e))⟩)
  clear cd k2 hc hs hp hg hb hcl hsl hpl hgl hnm
  go_wp2_with fail
  go_ret2
  exact ⟨_, c, s, p, g, rfl, HK.out.size, hl.out.1, hl.out.2.1, hl.out.2.2.1, hl.out.2.2.2, HR.out, HK.out.alloc _⟩
/-! ### constants -/
def DatPost (v : Value) (b : Value) (w : World) (e : Ending) (w' : World) : Prop := e = .returned (.tuple #[v, b]) ∧ Keep (fun _ => False) w w'
theorem zero_box (w : World) : (w.alloc (datC 0 false none 0 0 ⟨#[]⟩)).heap[w.heap.size]? = some (.cells #[.int .i64 0, .int .i32 0, .bool false, .slice none 0 0, .string ⟨#[]⟩, .slice none 0 0] 27 (0, 0)) := heap_alloc_new w _
theorem two_box (w : World) (k : Int) (q : Bool) (A : Option Addr) (n c : Nat) (t : ByteArray) (o : Obj) : ((w.alloc (datC k q A n c t)).alloc o).heap[w.heap.size]? = some (.cells #[.int .i64 k, .int .i32 0, .bool q, .slice A n c, .string t, .slice none 0 0] 27 (0, 0)) := bx_old (heap_alloc_new w _) _
set_option maxRecDepth 100000 in
set_option maxHeartbeats 4000000 in
theorem const_true (b : Bool) (w : World) : Calls Tryz.prog 81 #[.int .u64 (if b then 12 else 4)] w (DatPost (datV (if b then 1 else 2) false none 0 0 ⟨#[]⟩) (.bool true) w) := by
  cases b with
  | true =>
    simp only [if_true]
    go_enter Tryz.func81, Tryz.ntmps81
    go_wp2_with fail
    refine bodyPost_ret (v := .tuple #[datV 1 false none 0 0 ⟨#[]⟩, .bool true]) ?_ rfl ⟨rfl, ((Keep.refl _ _).alloc _).alloc _⟩
    obtain ⟨⟨e0, e1, e2, e3, e4, e5⟩, _⟩ := six_cells (two_box w 1 false none 0 0 ⟨#[]⟩ (datC 1 false none 0 0 ⟨#[]⟩))
    simp [results, Tryz.results81, go_sem, e0, e1, e2, e3, e4, e5]
  | false =>
    simp only [Bool.false_eq_true, if_false]
    go_enter Tryz.func81, Tryz.ntmps81
    go_wp2_with fail
    refine bodyPost_ret (v := .tuple #[datV 2 false none 0 0 ⟨#[]⟩, .bool true]) ?_ rfl ⟨rfl, ((Keep.refl _ _).alloc _).alloc _⟩
    obtain ⟨⟨e0, e1, e2, e3, e4, e5⟩, _⟩ := six_cells (two_box w 2 false none 0 0 ⟨#[]⟩ (datC 2 false none 0 0 ⟨#[]⟩))
    simp [results, Tryz.results81, go_sem, e0, e1, e2, e3, e4, e5]
set_option maxRecDepth 100000 in
set_option maxHeartbeats 4000000 in
theorem const_no (u : Nat) (w : World) (hu : u ≤ 18446744073709551615) (ht : u % 8 ≠ 4) : Calls Tryz.prog 81 #[.int .u64 (u : Int)] w (DatPost (datV 0 false none 0 0 ⟨#[]⟩) (.bool false) w) := by
  have HR := Lib.hid (fun w => rune_no u w hu ht)
  obtain ⟨x, hx⟩ : ∃ x : Int, x = (u : Int) := ⟨_, rfl⟩
  rw [← hx] at HR ⊢
  have h12 : (x == 12) = false := beq_eq_false_iff_ne.2 (by omega)
  have h4 : (x == 4) = false := beq_eq_false_iff_ne.2 (by omega)
  have h36 : (x == 36) = false := beq_eq_false_iff_ne.2 (by omega)
  have h28 : (x == 28) = false := beq_eq_false_iff_ne.2 (by omega)
  have h20 : (x == 20) = false := beq_eq_false_iff_ne.2 (by omega)
  clear hx ht
  have K2 := Lib.hid (show Keep (fun _ => False) w ((w.alloc (datC 0 false none 0 0 ⟨#[]⟩)).alloc (datC 0 false none 0 0 ⟨#[]⟩)) from ((Keep.refl _ _).alloc _).alloc _)
  have HB1 := Lib.hid (two_box w 0 false none 0 0 ⟨#[]⟩ (datC 0 false none 0 0 ⟨#[]⟩))
  have HB2 := Lib.hid (show ((w.alloc (datC 0 false none 0 0 ⟨#[]⟩)).alloc (datC 0 false none 0 0 ⟨#[]⟩)).heap[w.heap.size + 1]? = some (.cells #[.int .i64 0, .int .i32 0, .bool false, .slice none 0 0, .string ⟨#[]⟩, .slice none 0 0] 27 (0, 0)) from by
    have := heap_alloc_new (w.alloc (datC 0 false none 0 0 ⟨#[]⟩)) (datC 0 false none 0 0 ⟨#[]⟩)
    rwa [World.size_alloc] at this)
  go_enter Tryz.func81, Tryz.ntmps81
  go_wp2_with fail
  generalize (w.alloc (datC 0 false none 0 0 ⟨#[]⟩)).alloc (datC 0 false none 0 0 ⟨#[]⟩) = w2 at *
  refine (HR.out _).mono ?_
  rintro e w3 ⟨rfl, k3⟩
  have HK3 := Lib.hid (K2.out.trans k3)
  have hb2 := k3.heap HB2.out id
  have hb1 := k3.heap HB1.out id
  obtain ⟨⟨c0, c1, c2, c3, c4, c5⟩, _⟩ := six_cells hb2
  obtain ⟨⟨d0, d1, d2, d3, d4, d5⟩, f0, f1, f2, f3, f4, f5⟩ := six_cells hb1
  have HC := Lib.hid (six_cells (six_row hb1 (.int .i64 0) (.int .i32 0) (.bool false) (.slice none 0 0) (.string ⟨#[]⟩) (.slice none 0 0))).1
  clear k3 hb1 hb2
  go_wp2_with fail
  refine bodyPost_ret (v := .tuple #[datV 0 false none 0 0 ⟨#[]⟩, .bool false]) ?_ rfl ⟨rfl, six_keep HK3.out (Nat.le_refl _) _ _ _ _ _ _⟩
  obtain ⟨e0, e1, e2, e3, e4, e5⟩ := HC.out
  simp [results, Tryz.results81, go_sem, e0, e1, e2, e3, e4, e5]
/-! ### a reader -/
theorem one_any (w : World) (r h : Nat) (hb : w.heap[r]? = some (.cells #[.pointer (some ⟨h, 0, none⟩), .int .i64 0] 82 (0, 0))) : Calls Tryz.prog 80 #[.pointer (some ⟨r, 0, none⟩)] w (fun e w' => e = .returned (.int .i64 0) ∧ w' = w.setCell ⟨r, 1, none⟩ (.int .i64 1)) := by
  have c0 : w.cell? ⟨r, 0, none⟩ = some (.pointer (some ⟨h, 0, none⟩)) := by rw [cell_of_row _ _ _ _ _ _ hb]; rfl
  have c1 : w.cell? ⟨r, 1, none⟩ = some (.int .i64 0) := by rw [cell_of_row _ _ _ _ _ _ hb]; rfl
  have f1 : w.frozen? ⟨r, 1, none⟩ = false := by simp [World.frozen?, hb]
  have hb2 : (w.setCell ⟨r, 1, none⟩ (.int .i64 1)).heap[r]? = some (.cells #[.pointer (some ⟨h, 0, none⟩), .int .i64 1] 82 (0, 0)) := by simp [World.setCell, Array.getElem?_modify, hb]
  have d1 : (w.setCell ⟨r, 1, none⟩ (.int .i64 1)).cell? ⟨r, 1, none⟩ = some (.int .i64 1) := by rw [cell_of_row _ _ _ _ _ _ hb2]; rfl
  clear hb hb2
  go_enter Tryz.func80, Tryz.ntmps80
  go_wp2_with fail
  go_ret
  exact ⟨rfl, rfl⟩
theorem Keep.intoS {S T : Nat → Prop} {w a b : World} (h : Keep S w a) (k : Keep T a b) (hs : ∀ i, T i → w.heap.size ≤ i) : Keep S w b :=
  ⟨k.os.trans h.os, k.tape.trans h.tape, k.output.trans h.output, Nat.le_trans h.size k.size, fun i hi hn => (k.block i (Nat.lt_of_lt_of_le hi h.size) (fun t => by have := hs i t; omega)).trans (h.block i hi hn)⟩
theorem Keep.joinR {r : Nat} {w w1 w2 : World} (h : Keep (fun b => b = r) w w1) (k : Keep (fun _ => False) w1 w2) : Keep (fun b => b = r) w w2 := h.trans (k.mono (fun _ _ f => f.elim))
set_option maxRecDepth 100000 in
set_option maxHeartbeats 8000000 in
theorem rdat_truth (b : Bool) (w : World) (r h : Nat) (hb : w.heap[r]? = some (.cells #[.pointer (some ⟨h, 0, none⟩), .int .i64 0] 82 (0, 0))) : Calls Tryz.prog 41 #[.pointer (some ⟨r, 0, none⟩), .int .u64 (if b then 12 else 4), .int .i64 0] w (fun e w' => e = .returned (.tuple #[datV (if b then 1 else 2) false none 0 0 ⟨#[]⟩, .int .i64 0]) ∧ Keep (fun b => b = r) w w') := by
  have HO := Lib.hid (one_any (w.alloc (datC 0 false none 0 0 ⟨#[]⟩)) r h (bx_old hb _))
  have HC := Lib.hid (fun w => const_true b w)
  have hrl := heap_lt hb
  obtain ⟨u, hu⟩ : ∃ u : Int, u = if b then 12 else 4 := ⟨_, rfl⟩
  obtain ⟨k, hk⟩ : ∃ k : Int, k = if b then 1 else 2 := ⟨_, rfl⟩
  unfold DatPost at HC
  rw [← hu, ← hk] at HC ⊢
  have hb1 := zero_box w
  have K1 : Keep (fun b => b = r) w ((w.alloc (datC 0 false none 0 0 ⟨#[]⟩)).setCell ⟨r, 1, none⟩ (.int .i64 1)) := Keep.setCell (S := fun b => b = r) (p := ⟨r, 1, none⟩) ((Keep.refl _ _).alloc _) (.inl rfl) _
  have hb2 : ((w.alloc (datC 0 false none 0 0 ⟨#[]⟩)).setCell ⟨r, 1, none⟩ (.int .i64 1)).heap[w.heap.size]? = some (.cells #[.int .i64 0, .int .i32 0, .bool false, .slice none 0 0, .string ⟨#[]⟩, .slice none 0 0] 27 (0, 0)) := (Keep.setCell (S := fun b => b = r) (p := ⟨r, 1, none⟩) (Keep.refl _ _) (.inl rfl) _).heap hb1 (by omega)
  have HB2 := Lib.hid hb2
  have HK1 := Lib.hid K1
  clear hb1 hb2 K1 hu hk
  go_enter Tryz.func41, Tryz.ntmps41
  go_wp2_with fail
  refine HO.out.mono ?_
  rintro e w2 ⟨rfl, rfl⟩
  generalize (w.alloc (datC 0 false none 0 0 ⟨#[]⟩)).setCell ⟨r, 1, none⟩ (.int .i64 1) = w2 at *
  go_wp2_with fail
  refine (HC.out _).mono ?_
  rintro e w3 ⟨rfl, k3⟩
  have hb3 := k3.heap HB2.out id
  have hb4 := bx_old hb3 (datC k false none 0 0 ⟨#[]⟩)
  have HK4 := Lib.hid (HK1.out.joinR (k3.alloc (datC k false none 0 0 ⟨#[]⟩)))
  have hbn := heap_alloc_new w3 (datC k false none 0 0 ⟨#[]⟩)
  obtain ⟨⟨c0, c1, c2, c3, c4, c5⟩, _⟩ := six_cells hbn
  obtain ⟨⟨d0, d1, d2, d3, d4, d5⟩, f0, f1, f2, f3, f4, f5⟩ := six_cells hb4
  have HCC := Lib.hid (six_cells (six_row hb4 (.int .i64 k) (.int .i32 0) (.bool false) (.slice none 0 0) (.string ⟨#[]⟩) (.slice none 0 0))).1
  clear k3 hb3 hb4 hbn
  go_wp2_with fail
  refine bodyPost_ret (v := .tuple #[datV k false none 0 0 ⟨#[]⟩, .int .i64 0]) ?_ rfl ⟨rfl, ?_⟩
  · obtain ⟨e0, e1, e2, e3, e4, e5⟩ := HCC.out
    simp [results, Tryz.results41, go_sem, e0, e1, e2, e3, e4, e5]
  · exact HK4.out.intoS (six_self _ _ _ _ _ _ _ _) (by rintro i rfl; exact Nat.le_refl _)
/-- A number's datum. -/
def NumDat (x : Int) (S : Nat → Prop) (w : World) (e : Ending) (w' : World) : Prop :=
  ∃ (A : Option Addr) (n c : Nat), e = .returned (.tuple #[datV 4 (decide (x < 0)) A n c ⟨#[]⟩, .int .i64 0]) ∧ OwnR 39 .u32 w' w.heap.size A n c (limbs x.natAbs) ∧ Keep S w w'
set_option maxRecDepth 100000 in
set_option maxHeartbeats 8000000 in
theorem rdat_num {w : World} {h c s p g : Nat} {S : SpV} (H : HpAt w h c s p g S) (x : Int) (u r : Nat) (D : DenH S.M u x) (hu4 : u % 8 ≠ 4) (hb : w.heap[r]? = some (.cells #[.pointer (some ⟨h, 0, none⟩), .int .i64 0] 82 (0, 0))) (hr : r ≠ s ∧ r ≠ p ∧ r ≠ g ∧ r ≠ h ∧ r ≠ c) : Calls Tryz.prog 41 #[.pointer (some ⟨r, 0, none⟩), .int .u64 (u : Int), .int .i64 0] w (NumDat x (fun b => b = r) w) := by
  have HO := Lib.hid (one_any (w.alloc (datC 0 false none 0 0 ⟨#[]⟩)) r h (bx_old hb _))
  have HC := Lib.hid (fun w => const_no u w D.lt hu4)
  unfold DatPost at HC
  have HN := Lib.hid (fun (w2 : World) (K : Keep (fun b => b = r) w w2) => hnum_any (H.keep K (fun e => hr.2.2.2.1 e.symm) (fun e => hr.2.2.2.2 e.symm) (fun e => hr.1 e.symm) (fun e => hr.2.1 e.symm) (fun e => hr.2.2.1 e.symm)) x u D)
  have hrl := heap_lt hb
  have hb1 := zero_box w
  have K1 : Keep (fun b => b = r) w ((w.alloc (datC 0 false none 0 0 ⟨#[]⟩)).setCell ⟨r, 1, none⟩ (.int .i64 1)) := Keep.setCell (S := fun b => b = r) (p := ⟨r, 1, none⟩) ((Keep.refl _ _).alloc _) (.inl rfl) _
  have hb2 : ((w.alloc (datC 0 false none 0 0 ⟨#[]⟩)).setCell ⟨r, 1, none⟩ (.int .i64 1)).heap[w.heap.size]? = some (.cells #[.int .i64 0, .int .i32 0, .bool false, .slice none 0 0, .string ⟨#[]⟩, .slice none 0 0] 27 (0, 0)) := (Keep.setCell (S := fun b => b = r) (p := ⟨r, 1, none⟩) (Keep.refl _ _) (.inl rfl) _).heap hb1 (by omega)
  have hr2 : ((w.alloc (datC 0 false none 0 0 ⟨#[]⟩)).setCell ⟨r, 1, none⟩ (.int .i64 1)).heap[r]? = some (.cells #[.pointer (some ⟨h, 0, none⟩), .int .i64 1] 82 (0, 0)) := by
    have := bx_old hb (datC 0 false none 0 0 ⟨#[]⟩)
    simp [World.setCell, Array.getElem?_modify, this]
  have HB2 := Lib.hid hb2
  have HR2 := Lib.hid hr2
  have HK1 := Lib.hid K1
  clear hb1 hb2 K1 hr2 D hu4 hb H hr
  go_enter Tryz.func41, Tryz.ntmps41
  go_wp2_with fail
  refine HO.out.mono ?_
  rintro e w2 ⟨rfl, rfl⟩
  generalize (w.alloc (datC 0 false none 0 0 ⟨#[]⟩)).setCell ⟨r, 1, none⟩ (.int .i64 1) = w2 at *
  go_wp2_with fail
  refine (HC.out _).mono ?_
  rintro e w3 ⟨rfl, k3⟩
  have HB3 := Lib.hid (bx_old (k3.heap HB2.out id) (datC 0 false none 0 0 ⟨#[]⟩))
  have hr3 := bx_old (k3.heap HR2.out id) (datC 0 false none 0 0 ⟨#[]⟩)
  have HK3 := Lib.hid (HK1.out.joinR (k3.alloc (datC 0 false none 0 0 ⟨#[]⟩)))
  have r0 : (w3.alloc (datC 0 false none 0 0 ⟨#[]⟩)).cell? ⟨r, 0, none⟩ = some (.pointer (some ⟨h, 0, none⟩)) := by rw [cell_of_row _ _ _ _ _ _ hr3]; rfl
  clear k3 hr3
  go_wp2_with fail
  generalize w3.alloc (datC 0 false none 0 0 ⟨#[]⟩) = w4 at *
  generalize w3.heap.size = B4 at *
  refine (HN.out _ HK3.out).mono ?_
  rintro e w5 ⟨A, n, cc, rfl, own, k5⟩
  obtain ⟨q, hq⟩ : ∃ q, q = decide (x < 0) := ⟨_, rfl⟩
  rw [← hq]
  have HQ := Lib.hid hq
  have HOWN := Lib.hid (own.keep0 ((Keep.refl _ _).alloc (.cells #[.bool q, .slice A n cc] 24)))
  have HK6 := Lib.hid (HK3.out.joinR (k5.alloc (.cells #[.bool q, .slice A n cc] 24)))
  have hb6 := bx_old (k5.heap HB3.out id) (.cells #[.bool q, .slice A n cc] 24)
  have hbn := heap_alloc_new w5 (.cells #[.bool q, .slice A n cc] 24)
  have n0 : (w5.alloc (.cells #[.bool q, .slice A n cc] 24)).cell? ⟨w5.heap.size, 0, none⟩ = some (.bool q) := by rw [cell_of_row _ _ _ _ _ _ hbn]; rfl
  have n1 : (w5.alloc (.cells #[.bool q, .slice A n cc] 24)).cell? ⟨w5.heap.size, 1, none⟩ = some (.slice A n cc) := by rw [cell_of_row _ _ _ _ _ _ hbn]; rfl
  obtain ⟨⟨d0, d1, d2, d3, d4, d5⟩, f0, f1, f2, f3, f4, f5⟩ := six_cells hb6
  have HCC := Lib.hid (six_cells (six_row hb6 (.int .i64 4) (.int .i32 0) (.bool q) (.slice A n cc) (.string ⟨#[]⟩) (.slice none 0 0))).1
  have HSS := Lib.hid (six_self (w5.alloc (.cells #[.bool q, .slice A n cc] 24)) w.heap.size (.int .i64 4) (.int .i32 0) (.bool q) (.slice A n cc) (.string ⟨#[]⟩) (.slice none 0 0))
  have HLT := Lib.hid (show w.heap.size < w4.heap.size from heap_lt HB3.out)
  clear k5 own hb6 hbn hq r0
  go_wp2_with fail
  refine bodyPost_ret (v := .tuple #[datV 4 q A n cc ⟨#[]⟩, .int .i64 0]) ?_ rfl ⟨A, n, cc, by rw [HQ.out], ?_, ?_⟩
  · obtain ⟨e0, e1, e2, e3, e4, e5⟩ := HCC.out
    simp [results, Tryz.results41, go_sem, e0, e1, e2, e3, e4, e5]
  · exact (HOWN.out.keep HSS.out (fun b off e hb => by have := (HOWN.out.fresh b off e).1; have := HLT.out; omega)).mono (by have := HLT.out; omega)
  · exact HK6.out.intoS HSS.out (by rintro i rfl; exact Nat.le_refl _)
end Go.Proofs.YtkjocmenpccooaaGreatDoor
