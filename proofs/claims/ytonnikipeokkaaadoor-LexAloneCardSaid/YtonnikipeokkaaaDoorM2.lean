/-
  Numbers, by program: texts of another seat, turned to this one.
-/
import Derived.Test.YtonnikipeokkaaaDoorM1
namespace Go.Proofs.YtonnikipeokkaaaDoor
open Go.RowKit Go.Lib
/-- A datum without a list. -/
abbrev datV (k c : Int) (neg : Bool) (A : Option Addr) (n cp : Nat) (t : ByteArray) : Value := .agg #[.int .i64 k, .int .i32 c, .bool neg, .slice A n cp, .string t, .slice none 0 0]
/-- A token. -/
abbrev tokV (kind at_ end_ : Int) (sq : Bool) (k c : Int) (neg : Bool) (A : Option Addr) (n cp : Nat) (t : ByteArray) : Value := .agg #[.int .i64 kind, .int .i64 at_, .int .i64 end_, .bool sq, .int .i64 k, .int .i32 c, .bool neg, .slice A n cp, .string t, .slice none 0 0]
set_option maxRecDepth 100000 in
set_option maxHeartbeats 1000000 in
theorem atom_any (k c : Int) (neg : Bool) (A : Option Addr) (n cp : Nat) (t : ByteArray) (a b : Int) (w : World) :
    Calls Tryd.prog 42 #[datV k c neg A n cp t, .int .i64 a, .int .i64 b] w fun e w' => e = .returned (tokV 9 a b false k c neg A n cp t) ∧ Keep (fun _ => False) w w' := by
  go_enter Tryd.func42, Tryd.ntmps42
  go_wp2_with fail
  exact bodyPost_ret (v := tokV 9 a b false k c neg A n cp t) (by simp [results, Tryd.results42, go_sem]) rfl ⟨rfl, ((Keep.refl _ _).alloc _).alloc _⟩
abbrev tok0 : Array Value := #[.int .i64 0, .int .i64 0, .int .i64 0, .bool false, .int .i64 0, .int .i32 0, .bool false, .slice none 0 0, .string ⟨#[]⟩, .slice none 0 0]
/-- The cells of a token's block, and that they may be written. -/
theorem tok_cells {w : World} {B : Nat} {x0 x1 x2 x3 x4 x5 x6 x7 x8 x9 : Value} (h : w.heap[B]? = some (.cells #[x0, x1, x2, x3, x4, x5, x6, x7, x8, x9] 33 (0, 0))) :
    (w.cell? ⟨B, 0, none⟩ = some x0 ∧ w.cell? ⟨B, 1, none⟩ = some x1 ∧ w.cell? ⟨B, 2, none⟩ = some x2 ∧ w.cell? ⟨B, 3, none⟩ = some x3 ∧ w.cell? ⟨B, 4, none⟩ = some x4 ∧ w.cell? ⟨B, 5, none⟩ = some x5 ∧ w.cell? ⟨B, 6, none⟩ = some x6 ∧ w.cell? ⟨B, 7, none⟩ = some x7 ∧ w.cell? ⟨B, 8, none⟩ = some x8 ∧ w.cell? ⟨B, 9, none⟩ = some x9) ∧
    (w.frozen? ⟨B, 0, none⟩ = false ∧ w.frozen? ⟨B, 1, none⟩ = false ∧ w.frozen? ⟨B, 2, none⟩ = false ∧ w.frozen? ⟨B, 3, none⟩ = false ∧ w.frozen? ⟨B, 4, none⟩ = false ∧ w.frozen? ⟨B, 5, none⟩ = false ∧ w.frozen? ⟨B, 6, none⟩ = false ∧ w.frozen? ⟨B, 7, none⟩ = false ∧ w.frozen? ⟨B, 8, none⟩ = false ∧ w.frozen? ⟨B, 9, none⟩ = false) := by
  refine ⟨⟨?_, ?_, ?_, ?_, ?_, ?_, ?_, ?_, ?_, ?_⟩, ?_, ?_, ?_, ?_, ?_, ?_, ?_, ?_, ?_, ?_⟩
  all_goals first
    | (rw [cell_of_row w _ _ _ _ _ h]; rfl)
    | simp [World.frozen?, h]
/-- A token, stored. -/
abbrev setTok (w : World) (B : Nat) (y0 y1 y2 y3 y4 y5 y6 y7 y8 y9 : Value) : World := (((((((((w.setCell ⟨B, 0, none⟩ y0).setCell ⟨B, 1, none⟩ y1).setCell ⟨B, 2, none⟩ y2).setCell ⟨B, 3, none⟩ y3).setCell ⟨B, 4, none⟩ y4).setCell ⟨B, 5, none⟩ y5).setCell ⟨B, 6, none⟩ y6).setCell ⟨B, 7, none⟩ y7).setCell ⟨B, 8, none⟩ y8).setCell ⟨B, 9, none⟩ y9
theorem setTok_row {w : World} {B : Nat} {x0 x1 x2 x3 x4 x5 x6 x7 x8 x9 : Value} (h : w.heap[B]? = some (.cells #[x0, x1, x2, x3, x4, x5, x6, x7, x8, x9] 33 (0, 0))) (y0 y1 y2 y3 y4 y5 y6 y7 y8 y9 : Value) :
    (setTok w B y0 y1 y2 y3 y4 y5 y6 y7 y8 y9).heap[B]? = some (.cells #[y0, y1, y2, y3, y4, y5, y6, y7, y8, y9] 33 (0, 0)) := by
  simp [setTok, World.setCell, Array.getElem?_modify, h]
theorem setTok_self (w : World) (B : Nat) (y0 y1 y2 y3 y4 y5 y6 y7 y8 y9 : Value) : Keep (fun b => b = B) w (setTok w B y0 y1 y2 y3 y4 y5 y6 y7 y8 y9) :=
  by
  refine Keep.setCell (S := fun b => b = B) (p := ⟨B, 9, none⟩) ?_ (.inl rfl) _
  refine Keep.setCell (S := fun b => b = B) (p := ⟨B, 8, none⟩) ?_ (.inl rfl) _
  refine Keep.setCell (S := fun b => b = B) (p := ⟨B, 7, none⟩) ?_ (.inl rfl) _
  refine Keep.setCell (S := fun b => b = B) (p := ⟨B, 6, none⟩) ?_ (.inl rfl) _
  refine Keep.setCell (S := fun b => b = B) (p := ⟨B, 5, none⟩) ?_ (.inl rfl) _
  refine Keep.setCell (S := fun b => b = B) (p := ⟨B, 4, none⟩) ?_ (.inl rfl) _
  refine Keep.setCell (S := fun b => b = B) (p := ⟨B, 3, none⟩) ?_ (.inl rfl) _
  refine Keep.setCell (S := fun b => b = B) (p := ⟨B, 2, none⟩) ?_ (.inl rfl) _
  refine Keep.setCell (S := fun b => b = B) (p := ⟨B, 1, none⟩) ?_ (.inl rfl) _
  refine Keep.setCell (S := fun b => b = B) (p := ⟨B, 0, none⟩) ?_ (.inl rfl) _
  exact Keep.refl _ _
theorem setTok_keep {w w1 : World} {B : Nat} (k : Keep (fun _ => False) w w1) (hB : w.heap.size ≤ B) (y0 y1 y2 y3 y4 y5 y6 y7 y8 y9 : Value) : Keep (fun _ => False) w (setTok w1 B y0 y1 y2 y3 y4 y5 y6 y7 y8 y9) :=
  k.into (setTok_self w1 B y0 y1 y2 y3 y4 y5 y6 y7 y8 y9) (by rintro i rfl; exact hB)
theorem ErrAt.set {w w' : World} {v : Value} {p c : Int} {B : Nat} {X : Array Value} (h : ErrAt w v p c) (hb : w.heap[B]? = some (.cells X 33 (0, 0))) (k : Keep (fun b => b = B) w w') : ErrAt w' v p c := by
  obtain ⟨A, C, what, h1, h2, h3⟩ := h
  refine ⟨A, C, what, h1, k.heap h2 ?_, k.heap h3 ?_⟩
  · rintro rfl; rw [h2] at hb; injection hb with hb; injection hb with _ hb; cases hb
  · rintro rfl; rw [h3] at hb; injection hb with hb; injection hb with _ hb; cases hb
/-- The tables that lex reads. -/
structure Tabs (w : World) : Prop where
  u8 : Lib.Utf8Tabs 1 2 w
  err : w.cell? ⟨0, 0, none⟩ = some (.iface 74 (.agg #[.pointer (some ⟨4, 46, none⟩)]))
theorem Tabs.keep {w w' : World} (h : Tabs w) (k : Keep (fun _ => False) w w') : Tabs w' := by
  have l1 : 1 < w.heap.size := World.block_lt_of_cell? w _ (h.u8.1 0 (by omega))
  have l2 : 2 < w.heap.size := World.block_lt_of_cell? w _ (h.u8.2 0 (by omega)).1
  refine ⟨⟨fun c hc => ?_, fun i hi => ⟨?_, ?_⟩⟩, ?_⟩
  · rw [k.cell (p := ⟨1, c, none⟩) l1 id]; exact h.u8.1 c hc
  · rw [k.cell (p := ⟨2, 2 * i, none⟩) l2 id]; exact (h.u8.2 i hi).1
  · rw [k.cell (p := ⟨2, 2 * i + 1, none⟩) l2 id]; exact (h.u8.2 i hi).2
  · rw [k.cell (p := ⟨0, 0, none⟩) (show 0 < w.heap.size by omega) id]; exact h.err
theorem runes_valid : ∀ (n : Nat) (l : List UInt8), (runesGo n l).isSome = Lib.validGoD n l
  | 0, _ => rfl
  | n + 1, l => by
    have ih := runes_valid n (l.drop (decodeL l).2)
    unfold runesGo Lib.validGoD
    by_cases h : l = []
    · rw [if_pos h, if_pos h]; rfl
    rw [if_neg h, if_neg h]
    by_cases g : (decodeL l).1 = 65533 ∧ (decodeL l).2 = 1
    · rw [if_pos g, if_pos g]; rfl
    rw [if_neg g, if_neg g, ← ih]
    cases runesGo n (l.drop (decodeL l).2) <;> rfl
theorem runesL_valid (l : List UInt8) : (runesL l).isSome = Lib.validD l := runes_valid _ _
theorem runes_count (s : ByteArray) : ∀ (n pos : Nat) (r : List Nat), s.size ≤ pos + n → runesGo n (s.data.toList.drop pos) = some r → Lib.runeCountFrom s n pos = r.length
  | 0, pos, r, hn, h => by
    injection h with h
    rw [← h]; rfl
  | n + 1, pos, r, hn, h => by
    have hz : s.data.toList.length = s.size := (Lib.size_eq s).symm
    unfold runesGo at h
    unfold Lib.runeCountFrom
    by_cases hp : pos < s.size
    · have hne : s.data.toList.drop pos ≠ [] := by rw [drop_cons (by omega)]; simp
      rw [if_neg hne, decodeL_drop] at h
      rw [if_pos hp]
      have hw := decodeL_wd hne
      rw [decodeL_drop] at hw
      split at h
      · cases h
      · rw [List.drop_drop] at h
        cases hr : runesGo n (s.data.toList.drop (pos + (Utf8.decode s pos).2)) with
        | none => rw [hr] at h; cases h
        | some q =>
          rw [hr] at h
          injection h with h
          rw [runes_count s n _ q (by omega) hr, ← h, List.length_cons]
          omega
    · rw [if_neg hp]
      rw [List.drop_of_length_le (by omega), if_pos rfl] at h
      injection h with h
      rw [← h]; rfl
theorem runesL_count (s : ByteArray) (r : List Nat) (h : runesL s.data.toList = some r) : Lib.runeCount s = r.length := by
  unfold runesL at h
  rw [show s.data.toList.length = s.size from (Lib.size_eq s).symm] at h
  exact runes_count s s.size 0 r (by omega) h
/-- What texted answers. -/
def TextPost (r : Except Nat Leaf) (sym : Bool) (x : ByteArray) (a b : Nat) (w : World) (e : Ending) (w' : World) : Prop :=
  match r with
  | .ok _ => e = .returned (.tuple #[tokV 9 a b false (if sym then 6 else 5) 0 false none 0 0 x, .nilIface]) ∧ Keep (fun _ => False) w w'
  | .error c => ∃ v, e = .returned (.tuple #[.agg tok0, v]) ∧ ErrAt w' v a c ∧ Keep (fun _ => False) w w'
/-- What a call that answers a token and an error gives: for use at each error. -/
theorem tok_err_end {w w2 : World} {B : Nat} {X : Array Value} {v : Value} {p c : Int} (K : Keep (fun _ => False) w w2) (hB : w.heap.size ≤ B) (hb : w2.heap[B]? = some (.cells X 33 (0, 0))) (he : ErrAt w2 v p c) (y0 y1 y2 y3 y4 y5 y6 y7 y8 y9 : Value) :
    ErrAt (setTok w2 B y0 y1 y2 y3 y4 y5 y6 y7 y8 y9) v p c ∧ Keep (fun _ => False) w (setTok w2 B y0 y1 y2 y3 y4 y5 y6 y7 y8 y9) :=
  ⟨he.set hb (setTok_self _ _ _ _ _ _ _ _ _ _ _ _), setTok_keep K hB _ _ _ _ _ _ _ _ _ _⟩
set_option maxRecDepth 100000 in
set_option maxHeartbeats 4000000 in
theorem texted_inv5 (x : ByteArray) (a b : Nat) (w : World) (hT : Tabs w) (hs : x.size ≤ 1000000) (hv : Lib.validD x.data.toList = false) :
    Calls Tryd.prog 28 #[.int .i64 5, .string x, .int .i64 (a : Int), .int .i64 (b : Int)] w (fun e w' => ∃ v, e = .returned (.tuple #[.agg tok0, v]) ∧ ErrAt w' v a 9 ∧ Keep (fun _ => False) w w') := by
  have HT := Lib.hid hT
  have hb : (w.alloc (.cells tok0 33)).heap[w.heap.size]? = some (.cells tok0 33 (0, 0)) := heap_alloc_new w _
  have HB := Lib.hid hb
  have HKA := Lib.hid (show Keep (fun _ => False) w (w.alloc (.cells tok0 33)) from (Keep.refl _ _).alloc _)
  clear hT hb
  have HV := Lib.hid hv
  clear hv
  go_enter Tryd.func28, Tryd.ntmps28
  go_wp2_with fail
  refine (Tryd.utf8_ValidString x _ (by omega) (HT.out.keep HKA.out).u8).mono ?_
  rintro e w1 ⟨rfl, hbel⟩
  rw [HV.out]
  have k1 := Keep.of_below hbel
  have HB1 := Lib.hid (k1.heap HB.out (by simp))
  have HK1 := Lib.hid (HKA.out.trans k1)
  clear hbel k1
  try dsimp only
  go_wp2_with fail
  refine (wrong_any _ _ _ _).mono ?_
  rintro e w2 ⟨v, rfl, he, k2⟩
  have HB2 := Lib.hid (k2.heap HB1.out (by simp))
  obtain ⟨⟨c0, c1, c2, c3, c4, c5, c6, c7, c8, c9⟩, f0, f1, f2, f3, f4, f5, f6, f7, f8, f9⟩ := tok_cells HB2.out
  have HE := Lib.hid (tok_err_end (HK1.out.trans k2) (Nat.le_refl _) HB2.out he (.int .i64 0) (.int .i64 0) (.int .i64 0) (.bool false) (.int .i64 0) (.int .i32 0) (.bool false) (.slice none 0 0) (.string ⟨#[]⟩) (.slice none 0 0))
  have HR := Lib.hid (tok_cells (setTok_row HB2.out (.int .i64 0) (.int .i64 0) (.int .i64 0) (.bool false) (.int .i64 0) (.int .i32 0) (.bool false) (.slice none 0 0) (.string ⟨#[]⟩) (.slice none 0 0))).1
  clear he k2
  try dsimp only
  go_wp2_with fail
  refine bodyPost_ret (v := .tuple #[.agg tok0, v]) ?_ rfl ⟨v, rfl, HE.out⟩
  obtain ⟨e0, e1, e2, e3, e4, e5, e6, e7, e8, e9⟩ := HR.out
  simp [results, Tryd.results28, go_sem, e0, e1, e2, e3, e4, e5, e6, e7, e8, e9]
set_option maxRecDepth 100000 in
set_option maxHeartbeats 4000000 in
theorem texted_big5 (x : ByteArray) (a b : Nat) (w : World) (hT : Tabs w) (hs : x.size ≤ 1000000) (hv : Lib.validD x.data.toList = true) (hc : decide ((62 : Int) < (Lib.runeCount x : Int)) = true) :
    Calls Tryd.prog 28 #[.int .i64 5, .string x, .int .i64 (a : Int), .int .i64 (b : Int)] w (fun e w' => ∃ v, e = .returned (.tuple #[.agg tok0, v]) ∧ ErrAt w' v a 6 ∧ Keep (fun _ => False) w w') := by
  have HT := Lib.hid hT
  have hb : (w.alloc (.cells tok0 33)).heap[w.heap.size]? = some (.cells tok0 33 (0, 0)) := heap_alloc_new w _
  have HB := Lib.hid hb
  have HKA := Lib.hid (show Keep (fun _ => False) w (w.alloc (.cells tok0 33)) from (Keep.refl _ _).alloc _)
  clear hT hb
  have HV := Lib.hid hv
  clear hv
  go_enter Tryd.func28, Tryd.ntmps28
  go_wp2_with fail
  refine (Tryd.utf8_ValidString x _ (by omega) (HT.out.keep HKA.out).u8).mono ?_
  rintro e w1 ⟨rfl, hbel⟩
  rw [HV.out]
  have k1 := Keep.of_below hbel
  have HB1 := Lib.hid (k1.heap HB.out (by simp))
  have HK1 := Lib.hid (HKA.out.trans k1)
  clear hbel k1
  try dsimp only
  go_wp2_with fail
  refine (Tryd.utf8_RuneCountInString x _ (by omega)).mono ?_
  rintro e wi ⟨rfl, pos, hwi⟩
  have ki : Keep (fun _ => False) w1 wi := by rw [hwi]; exact (Keep.refl _ _).alloc _
  clear hwi
  have HB3 := Lib.hid (ki.heap HB1.out (by simp))
  have HK3 := Lib.hid (HK1.out.trans ki)
  clear ki
  try dsimp only
  go_wp2_with fail
  refine (wrong_any _ _ _ _).mono ?_
  rintro e w2 ⟨v, rfl, he, k2⟩
  have HB2 := Lib.hid (k2.heap HB3.out (by simp))
  obtain ⟨⟨c0, c1, c2, c3, c4, c5, c6, c7, c8, c9⟩, f0, f1, f2, f3, f4, f5, f6, f7, f8, f9⟩ := tok_cells HB2.out
  have HE := Lib.hid (tok_err_end (HK3.out.trans k2) (Nat.le_refl _) HB2.out he (.int .i64 0) (.int .i64 0) (.int .i64 0) (.bool false) (.int .i64 0) (.int .i32 0) (.bool false) (.slice none 0 0) (.string ⟨#[]⟩) (.slice none 0 0))
  have HR := Lib.hid (tok_cells (setTok_row HB2.out (.int .i64 0) (.int .i64 0) (.int .i64 0) (.bool false) (.int .i64 0) (.int .i32 0) (.bool false) (.slice none 0 0) (.string ⟨#[]⟩) (.slice none 0 0))).1
  clear he k2
  try dsimp only
  go_wp2_with fail
  refine bodyPost_ret (v := .tuple #[.agg tok0, v]) ?_ rfl ⟨v, rfl, HE.out⟩
  obtain ⟨e0, e1, e2, e3, e4, e5, e6, e7, e8, e9⟩ := HR.out
  simp [results, Tryd.results28, go_sem, e0, e1, e2, e3, e4, e5, e6, e7, e8, e9]
set_option maxRecDepth 100000 in
set_option maxHeartbeats 4000000 in
theorem texted_ok5 (x : ByteArray) (a b : Nat) (w : World) (hT : Tabs w) (hs : x.size ≤ 1000000) (hv : Lib.validD x.data.toList = true) (hc : decide ((62 : Int) < (Lib.runeCount x : Int)) = false) :
    Calls Tryd.prog 28 #[.int .i64 5, .string x, .int .i64 (a : Int), .int .i64 (b : Int)] w (fun e w' => e = .returned (.tuple #[tokV 9 a b false 5 0 false none 0 0 x, .nilIface]) ∧ Keep (fun _ => False) w w') := by
  have HT := Lib.hid hT
  have hb : (w.alloc (.cells tok0 33)).heap[w.heap.size]? = some (.cells tok0 33 (0, 0)) := heap_alloc_new w _
  have HB := Lib.hid hb
  have HKA := Lib.hid (show Keep (fun _ => False) w (w.alloc (.cells tok0 33)) from (Keep.refl _ _).alloc _)
  clear hT hb
  have HV := Lib.hid hv
  clear hv
  go_enter Tryd.func28, Tryd.ntmps28
  go_wp2_with fail
  refine (Tryd.utf8_ValidString x _ (by omega) (HT.out.keep HKA.out).u8).mono ?_
  rintro e w1 ⟨rfl, hbel⟩
  rw [HV.out]
  have k1 := Keep.of_below hbel
  have HB1 := Lib.hid (k1.heap HB.out (by simp))
  have HK1 := Lib.hid (HKA.out.trans k1)
  clear hbel k1
  try dsimp only
  go_wp2_with fail
  refine (Tryd.utf8_RuneCountInString x _ (by omega)).mono ?_
  rintro e wi ⟨rfl, pos, hwi⟩
  have ki : Keep (fun _ => False) w1 wi := by rw [hwi]; exact (Keep.refl _ _).alloc _
  clear hwi
  have HB3 := Lib.hid (ki.heap HB1.out (by simp))
  have HK3 := Lib.hid (HK1.out.trans ki)
  clear ki
  try dsimp only
  go_wp2_with fail
  refine (atom_any 5 0 false none 0 0 x a b _).mono ?_
  rintro e w2 ⟨rfl, k2⟩
  have HB2 := Lib.hid (k2.heap HB3.out (by simp))
  obtain ⟨⟨c0, c1, c2, c3, c4, c5, c6, c7, c8, c9⟩, f0, f1, f2, f3, f4, f5, f6, f7, f8, f9⟩ := tok_cells HB2.out
  have HE := Lib.hid (setTok_keep (HK3.out.trans k2) (Nat.le_refl _) (.int .i64 9) (.int .i64 (a : Int)) (.int .i64 (b : Int)) (.bool false) (.int .i64 5) (.int .i32 0) (.bool false) (.slice none 0 0) (.string x) (.slice none 0 0))
  have HR := Lib.hid (tok_cells (setTok_row HB2.out (.int .i64 9) (.int .i64 (a : Int)) (.int .i64 (b : Int)) (.bool false) (.int .i64 5) (.int .i32 0) (.bool false) (.slice none 0 0) (.string x) (.slice none 0 0))).1
  clear k2
  try dsimp only
  go_wp2_with fail
  refine bodyPost_ret (v := .tuple #[tokV 9 a b false 5 0 false none 0 0 x, .nilIface]) ?_ rfl ⟨rfl, HE.out⟩
  obtain ⟨e0, e1, e2, e3, e4, e5, e6, e7, e8, e9⟩ := HR.out
  simp [results, Tryd.results28, go_sem, e0, e1, e2, e3, e4, e5, e6, e7, e8, e9]
set_option maxRecDepth 100000 in
set_option maxHeartbeats 4000000 in
theorem texted_inv6 (x : ByteArray) (a b : Nat) (w : World) (hT : Tabs w) (hs : x.size ≤ 1000000) (hv : Lib.validD x.data.toList = false) :
    Calls Tryd.prog 28 #[.int .i64 6, .string x, .int .i64 (a : Int), .int .i64 (b : Int)] w (fun e w' => ∃ v, e = .returned (.tuple #[.agg tok0, v]) ∧ ErrAt w' v a 9 ∧ Keep (fun _ => False) w w') := by
  have HT := Lib.hid hT
  have hb : (w.alloc (.cells tok0 33)).heap[w.heap.size]? = some (.cells tok0 33 (0, 0)) := heap_alloc_new w _
  have HB := Lib.hid hb
  have HKA := Lib.hid (show Keep (fun _ => False) w (w.alloc (.cells tok0 33)) from (Keep.refl _ _).alloc _)
  clear hT hb
  have HV := Lib.hid hv
  clear hv
  go_enter Tryd.func28, Tryd.ntmps28
  go_wp2_with fail
  refine (Tryd.utf8_ValidString x _ (by omega) (HT.out.keep HKA.out).u8).mono ?_
  rintro e w1 ⟨rfl, hbel⟩
  rw [HV.out]
  have k1 := Keep.of_below hbel
  have HB1 := Lib.hid (k1.heap HB.out (by simp))
  have HK1 := Lib.hid (HKA.out.trans k1)
  clear hbel k1
  try dsimp only
  go_wp2_with fail
  refine (wrong_any _ _ _ _).mono ?_
  rintro e w2 ⟨v, rfl, he, k2⟩
  have HB2 := Lib.hid (k2.heap HB1.out (by simp))
  obtain ⟨⟨c0, c1, c2, c3, c4, c5, c6, c7, c8, c9⟩, f0, f1, f2, f3, f4, f5, f6, f7, f8, f9⟩ := tok_cells HB2.out
  have HE := Lib.hid (tok_err_end (HK1.out.trans k2) (Nat.le_refl _) HB2.out he (.int .i64 0) (.int .i64 0) (.int .i64 0) (.bool false) (.int .i64 0) (.int .i32 0) (.bool false) (.slice none 0 0) (.string ⟨#[]⟩) (.slice none 0 0))
  have HR := Lib.hid (tok_cells (setTok_row HB2.out (.int .i64 0) (.int .i64 0) (.int .i64 0) (.bool false) (.int .i64 0) (.int .i32 0) (.bool false) (.slice none 0 0) (.string ⟨#[]⟩) (.slice none 0 0))).1
  clear he k2
  try dsimp only
  go_wp2_with fail
  refine bodyPost_ret (v := .tuple #[.agg tok0, v]) ?_ rfl ⟨v, rfl, HE.out⟩
  obtain ⟨e0, e1, e2, e3, e4, e5, e6, e7, e8, e9⟩ := HR.out
  simp [results, Tryd.results28, go_sem, e0, e1, e2, e3, e4, e5, e6, e7, e8, e9]
set_option maxRecDepth 100000 in
set_option maxHeartbeats 4000000 in
theorem texted_none (x : ByteArray) (a b : Nat) (w : World) (hT : Tabs w) (hs : x.size ≤ 1000000) (hv : Lib.validD x.data.toList = true) (he : x.toList.isEmpty = true) :
    Calls Tryd.prog 28 #[.int .i64 6, .string x, .int .i64 (a : Int), .int .i64 (b : Int)] w (fun e w' => ∃ v, e = .returned (.tuple #[.agg tok0, v]) ∧ ErrAt w' v a 9 ∧ Keep (fun _ => False) w w') := by
  have HT := Lib.hid hT
  have hb : (w.alloc (.cells tok0 33)).heap[w.heap.size]? = some (.cells tok0 33 (0, 0)) := heap_alloc_new w _
  have HB := Lib.hid hb
  have HKA := Lib.hid (show Keep (fun _ => False) w (w.alloc (.cells tok0 33)) from (Keep.refl _ _).alloc _)
  clear hT hb
  have HV := Lib.hid hv
  clear hv
  go_enter Tryd.func28, Tryd.ntmps28
  go_wp2_with fail
  refine (Tryd.utf8_ValidString x _ (by omega) (HT.out.keep HKA.out).u8).mono ?_
  rintro e w1 ⟨rfl, hbel⟩
  rw [HV.out]
  have k1 := Keep.of_below hbel
  have HB1 := Lib.hid (k1.heap HB.out (by simp))
  have HK1 := Lib.hid (HKA.out.trans k1)
  clear hbel k1
  try dsimp only
  go_wp2_with fail
  refine (wrong_any _ _ _ _).mono ?_
  rintro e w2 ⟨v, rfl, he, k2⟩
  have HB2 := Lib.hid (k2.heap HB1.out (by simp))
  obtain ⟨⟨c0, c1, c2, c3, c4, c5, c6, c7, c8, c9⟩, f0, f1, f2, f3, f4, f5, f6, f7, f8, f9⟩ := tok_cells HB2.out
  have HE := Lib.hid (tok_err_end (HK1.out.trans k2) (Nat.le_refl _) HB2.out he (.int .i64 0) (.int .i64 0) (.int .i64 0) (.bool false) (.int .i64 0) (.int .i32 0) (.bool false) (.slice none 0 0) (.string ⟨#[]⟩) (.slice none 0 0))
  have HR := Lib.hid (tok_cells (setTok_row HB2.out (.int .i64 0) (.int .i64 0) (.int .i64 0) (.bool false) (.int .i64 0) (.int .i32 0) (.bool false) (.slice none 0 0) (.string ⟨#[]⟩) (.slice none 0 0))).1
  clear he k2
  try dsimp only
  go_wp2_with fail
  refine bodyPost_ret (v := .tuple #[.agg tok0, v]) ?_ rfl ⟨v, rfl, HE.out⟩
  obtain ⟨e0, e1, e2, e3, e4, e5, e6, e7, e8, e9⟩ := HR.out
  simp [results, Tryd.results28, go_sem, e0, e1, e2, e3, e4, e5, e6, e7, e8, e9]
set_option maxRecDepth 100000 in
set_option maxHeartbeats 4000000 in
theorem texted_big6 (x : ByteArray) (a b : Nat) (w : World) (hT : Tabs w) (hs : x.size ≤ 1000000) (hv : Lib.validD x.data.toList = true) (he : x.toList.isEmpty = false) (hc : decide ((62 : Int) < (Lib.runeCount x : Int)) = true) :
    Calls Tryd.prog 28 #[.int .i64 6, .string x, .int .i64 (a : Int), .int .i64 (b : Int)] w (fun e w' => ∃ v, e = .returned (.tuple #[.agg tok0, v]) ∧ ErrAt w' v a 6 ∧ Keep (fun _ => False) w w') := by
  have HT := Lib.hid hT
  have hb : (w.alloc (.cells tok0 33)).heap[w.heap.size]? = some (.cells tok0 33 (0, 0)) := heap_alloc_new w _
  have HB := Lib.hid hb
  have HKA := Lib.hid (show Keep (fun _ => False) w (w.alloc (.cells tok0 33)) from (Keep.refl _ _).alloc _)
  clear hT hb
  have HV := Lib.hid hv
  clear hv
  go_enter Tryd.func28, Tryd.ntmps28
  go_wp2_with fail
  refine (Tryd.utf8_ValidString x _ (by omega) (HT.out.keep HKA.out).u8).mono ?_
  rintro e w1 ⟨rfl, hbel⟩
  rw [HV.out]
  have k1 := Keep.of_below hbel
  have HB1 := Lib.hid (k1.heap HB.out (by simp))
  have HK1 := Lib.hid (HKA.out.trans k1)
  clear hbel k1
  try dsimp only
  go_wp2_with fail
  refine (Tryd.utf8_RuneCountInString x _ (by omega)).mono ?_
  rintro e wi ⟨rfl, pos, hwi⟩
  have ki : Keep (fun _ => False) w1 wi := by rw [hwi]; exact (Keep.refl _ _).alloc _
  clear hwi
  have HB3 := Lib.hid (ki.heap HB1.out (by simp))
  have HK3 := Lib.hid (HK1.out.trans ki)
  clear ki
  try dsimp only
  go_wp2_with fail
  refine (wrong_any _ _ _ _).mono ?_
  rintro e w2 ⟨v, rfl, he, k2⟩
  have HB2 := Lib.hid (k2.heap HB3.out (by simp))
  obtain ⟨⟨c0, c1, c2, c3, c4, c5, c6, c7, c8, c9⟩, f0, f1, f2, f3, f4, f5, f6, f7, f8, f9⟩ := tok_cells HB2.out
  have HE := Lib.hid (tok_err_end (HK3.out.trans k2) (Nat.le_refl _) HB2.out he (.int .i64 0) (.int .i64 0) (.int .i64 0) (.bool false) (.int .i64 0) (.int .i32 0) (.bool false) (.slice none 0 0) (.string ⟨#[]⟩) (.slice none 0 0))
  have HR := Lib.hid (tok_cells (setTok_row HB2.out (.int .i64 0) (.int .i64 0) (.int .i64 0) (.bool false) (.int .i64 0) (.int .i32 0) (.bool false) (.slice none 0 0) (.string ⟨#[]⟩) (.slice none 0 0))).1
  clear he k2
  try dsimp only
  go_wp2_with fail
  refine bodyPost_ret (v := .tuple #[.agg tok0, v]) ?_ rfl ⟨v, rfl, HE.out⟩
  obtain ⟨e0, e1, e2, e3, e4, e5, e6, e7, e8, e9⟩ := HR.out
  simp [results, Tryd.results28, go_sem, e0, e1, e2, e3, e4, e5, e6, e7, e8, e9]
set_option maxRecDepth 100000 in
set_option maxHeartbeats 4000000 in
theorem texted_ok6 (x : ByteArray) (a b : Nat) (w : World) (hT : Tabs w) (hs : x.size ≤ 1000000) (hv : Lib.validD x.data.toList = true) (he : x.toList.isEmpty = false) (hc : decide ((62 : Int) < (Lib.runeCount x : Int)) = false) :
    Calls Tryd.prog 28 #[.int .i64 6, .string x, .int .i64 (a : Int), .int .i64 (b : Int)] w (fun e w' => e = .returned (.tuple #[tokV 9 a b false 6 0 false none 0 0 x, .nilIface]) ∧ Keep (fun _ => False) w w') := by
  have HT := Lib.hid hT
  have hb : (w.alloc (.cells tok0 33)).heap[w.heap.size]? = some (.cells tok0 33 (0, 0)) := heap_alloc_new w _
  have HB := Lib.hid hb
  have HKA := Lib.hid (show Keep (fun _ => False) w (w.alloc (.cells tok0 33)) from (Keep.refl _ _).alloc _)
  clear hT hb
  have HV := Lib.hid hv
  clear hv
  go_enter Tryd.func28, Tryd.ntmps28
  go_wp2_with fail
  refine (Tryd.utf8_ValidString x _ (by omega) (HT.out.keep HKA.out).u8).mono ?_
  rintro e w1 ⟨rfl, hbel⟩
  rw [HV.out]
  have k1 := Keep.of_below hbel
  have HB1 := Lib.hid (k1.heap HB.out (by simp))
  have HK1 := Lib.hid (HKA.out.trans k1)
  clear hbel k1
  try dsimp only
  go_wp2_with fail
  refine (Tryd.utf8_RuneCountInString x _ (by omega)).mono ?_
  rintro e wi ⟨rfl, pos, hwi⟩
  have ki : Keep (fun _ => False) w1 wi := by rw [hwi]; exact (Keep.refl _ _).alloc _
  clear hwi
  have HB3 := Lib.hid (ki.heap HB1.out (by simp))
  have HK3 := Lib.hid (HK1.out.trans ki)
  clear ki
  try dsimp only
  go_wp2_with fail
  refine (atom_any 6 0 false none 0 0 x a b _).mono ?_
  rintro e w2 ⟨rfl, k2⟩
  have HB2 := Lib.hid (k2.heap HB3.out (by simp))
  obtain ⟨⟨c0, c1, c2, c3, c4, c5, c6, c7, c8, c9⟩, f0, f1, f2, f3, f4, f5, f6, f7, f8, f9⟩ := tok_cells HB2.out
  have HE := Lib.hid (setTok_keep (HK3.out.trans k2) (Nat.le_refl _) (.int .i64 9) (.int .i64 (a : Int)) (.int .i64 (b : Int)) (.bool false) (.int .i64 6) (.int .i32 0) (.bool false) (.slice none 0 0) (.string x) (.slice none 0 0))
  have HR := Lib.hid (tok_cells (setTok_row HB2.out (.int .i64 9) (.int .i64 (a : Int)) (.int .i64 (b : Int)) (.bool false) (.int .i64 6) (.int .i32 0) (.bool false) (.slice none 0 0) (.string x) (.slice none 0 0))).1
  clear k2
  try dsimp only
  go_wp2_with fail
  refine bodyPost_ret (v := .tuple #[tokV 9 a b false 6 0 false none 0 0 x, .nilIface]) ?_ rfl ⟨rfl, HE.out⟩
  obtain ⟨e0, e1, e2, e3, e4, e5, e6, e7, e8, e9⟩ := HR.out
  simp [results, Tryd.results28, go_sem, e0, e1, e2, e3, e4, e5, e6, e7, e8, e9]
theorem texted_any (sym : Bool) (x : ByteArray) (a b : Nat) (w : World) (hT : Tabs w) (hs : x.size ≤ 1000000) :
    Calls Tryd.prog 28 #[.int .i64 (if sym then 6 else 5), .string x, .int .i64 (a : Int), .int .i64 (b : Int)] w (TextPost (textL sym x.data.toList) sym x a b w) := by
  have hv := runesL_valid x.data.toList
  have hcount := runesL_count x
  have hemp : x.toList.isEmpty = decide (x.data.toList = []) := by
    rw [Lib.toList_data]; cases x.data.toList <;> simp
  unfold textL
  cases hr : runesL x.data.toList with
  | none =>
    rw [hr] at hv
    cases sym
    · exact texted_inv5 x a b w hT hs hv.symm
    · exact texted_inv6 x a b w hT hs hv.symm
  | some r =>
    rw [hr] at hv
    have hc := hcount r hr
    by_cases h1 : sym = true ∧ x.data.toList = []
    · obtain ⟨rfl, h2⟩ := h1
      dsimp only
      rw [if_pos (show true = true ∧ x.data.toList = [] from ⟨rfl, h2⟩)]
      exact texted_none x a b w hT hs hv.symm (by rw [hemp, decide_eq_true h2])
    · dsimp only
      rw [if_neg h1]
      by_cases h3 : 62 < r.length
      · rw [if_pos h3]
        have hd : decide ((62 : Int) < (Lib.runeCount x : Int)) = true := decide_eq_true (by omega)
        cases sym
        · exact texted_big5 x a b w hT hs hv.symm hd
        · exact texted_big6 x a b w hT hs hv.symm (by rw [hemp, decide_eq_false (fun h => h1 ⟨rfl, h⟩)]) hd
      · rw [if_neg h3]
        have hd : decide ((62 : Int) < (Lib.runeCount x : Int)) = false := decide_eq_false (by omega)
        cases sym
        · exact texted_ok5 x a b w hT hs hv.symm hd
        · exact texted_ok6 x a b w hT hs hv.symm (by rw [hemp, decide_eq_false (fun h => h1 ⟨rfl, h⟩)]) hd
open Go.RowKit Go.Lib
theorem eq_list {s : ByteArray} (l : List UInt8) (h : s.data.toList = l) : (s.toList == l) = true := by
  rw [Lib.toList_data, h]; simp
theorem ne_list {s : ByteArray} (l : List UInt8) (h : ¬ s.data.toList = l) : (s.toList == l) = false := by
  rw [Lib.toList_data]; simpa using h
set_option maxRecDepth 100000 in
set_option maxHeartbeats 4000000 in
theorem named_any (s : ByteArray) (w : World) :
    Calls Tryd.prog 45 #[.string s] w fun e w' => e = .returned (.tuple #[.int .i32 (((namedL s.data.toList).getD 0 : Nat) : Int), .bool (namedL s.data.toList).isSome]) ∧ w = w' := by
  by_cases h0 : s.data.toList = [110, 117, 108]
  · have hv : namedL s.data.toList = some 0 := by unfold namedL; rw [if_pos h0]
    rw [hv]
    have e0 := eq_list [110, 117, 108] h0
    clear hv h0
    go_enter Tryd.func45, Tryd.ntmps45
    go_wp2_with fail
    go_ret2
    exact ⟨rfl, rfl⟩
  by_cases h1 : s.data.toList = [97, 108, 97, 114, 109]
  · have hv : namedL s.data.toList = some 7 := by unfold namedL; rw [if_neg h0, if_pos h1]
    rw [hv]
    have e0 := ne_list [110, 117, 108] h0
    have e1 := eq_list [97, 108, 97, 114, 109] h1
    clear hv h0 h1
    go_enter Tryd.func45, Tryd.ntmps45
    go_wp2_with fail
    go_ret2
    exact ⟨rfl, rfl⟩
  by_cases h2 : s.data.toList = [98, 97, 99, 107, 115, 112, 97, 99, 101]
  · have hv : namedL s.data.toList = some 8 := by unfold namedL; rw [if_neg h0, if_neg h1, if_pos h2]
    rw [hv]
    have e0 := ne_list [110, 117, 108] h0
    have e1 := ne_list [97, 108, 97, 114, 109] h1
    have e2 := eq_list [98, 97, 99, 107, 115, 112, 97, 99, 101] h2
    clear hv h0 h1 h2
    go_enter Tryd.func45, Tryd.ntmps45
    go_wp2_with fail
    go_ret2
    exact ⟨rfl, rfl⟩
  by_cases h3 : s.data.toList = [116, 97, 98]
  · have hv : namedL s.data.toList = some 9 := by unfold namedL; rw [if_neg h0, if_neg h1, if_neg h2, if_pos h3]
    rw [hv]
    have e0 := ne_list [110, 117, 108] h0
    have e1 := ne_list [97, 108, 97, 114, 109] h1
    have e2 := ne_list [98, 97, 99, 107, 115, 112, 97, 99, 101] h2
    have e3 := eq_list [116, 97, 98] h3
    clear hv h0 h1 h2 h3
    go_enter Tryd.func45, Tryd.ntmps45
    go_wp2_with fail
    go_ret2
    exact ⟨rfl, rfl⟩
  by_cases h4 : s.data.toList = [110, 101, 119, 108, 105, 110, 101]
  · have hv : namedL s.data.toList = some 10 := by unfold namedL; rw [if_neg h0, if_neg h1, if_neg h2, if_neg h3, if_pos h4]
    rw [hv]
    have e0 := ne_list [110, 117, 108] h0
    have e1 := ne_list [97, 108, 97, 114, 109] h1
    have e2 := ne_list [98, 97, 99, 107, 115, 112, 97, 99, 101] h2
    have e3 := ne_list [116, 97, 98] h3
    have e4 := eq_list [110, 101, 119, 108, 105, 110, 101] h4
    clear hv h0 h1 h2 h3 h4
    go_enter Tryd.func45, Tryd.ntmps45
    go_wp2_with fail
    go_ret2
    exact ⟨rfl, rfl⟩
  by_cases h5 : s.data.toList = [114, 101, 116, 117, 114, 110]
  · have hv : namedL s.data.toList = some 13 := by unfold namedL; rw [if_neg h0, if_neg h1, if_neg h2, if_neg h3, if_neg h4, if_pos h5]
    rw [hv]
    have e0 := ne_list [110, 117, 108] h0
    have e1 := ne_list [97, 108, 97, 114, 109] h1
    have e2 := ne_list [98, 97, 99, 107, 115, 112, 97, 99, 101] h2
    have e3 := ne_list [116, 97, 98] h3
    have e4 := ne_list [110, 101, 119, 108, 105, 110, 101] h4
    have e5 := eq_list [114, 101, 116, 117, 114, 110] h5
    clear hv h0 h1 h2 h3 h4 h5
    go_enter Tryd.func45, Tryd.ntmps45
    go_wp2_with fail
    go_ret2
    exact ⟨rfl, rfl⟩
  by_cases h6 : s.data.toList = [101, 115, 99, 97, 112, 101]
  · have hv : namedL s.data.toList = some 27 := by unfold namedL; rw [if_neg h0, if_neg h1, if_neg h2, if_neg h3, if_neg h4, if_neg h5, if_pos h6]
    rw [hv]
    have e0 := ne_list [110, 117, 108] h0
    have e1 := ne_list [97, 108, 97, 114, 109] h1
    have e2 := ne_list [98, 97, 99, 107, 115, 112, 97, 99, 101] h2
    have e3 := ne_list [116, 97, 98] h3
    have e4 := ne_list [110, 101, 119, 108, 105, 110, 101] h4
    have e5 := ne_list [114, 101, 116, 117, 114, 110] h5
    have e6 := eq_list [101, 115, 99, 97, 112, 101] h6
    clear hv h0 h1 h2 h3 h4 h5 h6
    go_enter Tryd.func45, Tryd.ntmps45
    go_wp2_with fail
    go_ret2
    exact ⟨rfl, rfl⟩
  by_cases h7 : s.data.toList = [115, 112, 97, 99, 101]
  · have hv : namedL s.data.toList = some 32 := by unfold namedL; rw [if_neg h0, if_neg h1, if_neg h2, if_neg h3, if_neg h4, if_neg h5, if_neg h6, if_pos h7]
    rw [hv]
    have e0 := ne_list [110, 117, 108] h0
    have e1 := ne_list [97, 108, 97, 114, 109] h1
    have e2 := ne_list [98, 97, 99, 107, 115, 112, 97, 99, 101] h2
    have e3 := ne_list [116, 97, 98] h3
    have e4 := ne_list [110, 101, 119, 108, 105, 110, 101] h4
    have e5 := ne_list [114, 101, 116, 117, 114, 110] h5
    have e6 := ne_list [101, 115, 99, 97, 112, 101] h6
    have e7 := eq_list [115, 112, 97, 99, 101] h7
    clear hv h0 h1 h2 h3 h4 h5 h6 h7
    go_enter Tryd.func45, Tryd.ntmps45
    go_wp2_with fail
    go_ret2
    exact ⟨rfl, rfl⟩
  by_cases h8 : s.data.toList = [100, 101, 108, 101, 116, 101]
  · have hv : namedL s.data.toList = some 127 := by unfold namedL; rw [if_neg h0, if_neg h1, if_neg h2, if_neg h3, if_neg h4, if_neg h5, if_neg h6, if_neg h7, if_pos h8]
    rw [hv]
    have e0 := ne_list [110, 117, 108] h0
    have e1 := ne_list [97, 108, 97, 114, 109] h1
    have e2 := ne_list [98, 97, 99, 107, 115, 112, 97, 99, 101] h2
    have e3 := ne_list [116, 97, 98] h3
    have e4 := ne_list [110, 101, 119, 108, 105, 110, 101] h4
    have e5 := ne_list [114, 101, 116, 117, 114, 110] h5
    have e6 := ne_list [101, 115, 99, 97, 112, 101] h6
    have e7 := ne_list [115, 112, 97, 99, 101] h7
    have e8 := eq_list [100, 101, 108, 101, 116, 101] h8
    clear hv h0 h1 h2 h3 h4 h5 h6 h7 h8
    go_enter Tryd.func45, Tryd.ntmps45
    go_wp2_with fail
    go_ret2
    exact ⟨rfl, rfl⟩
  have hv : namedL s.data.toList = none := by unfold namedL; rw [if_neg h0, if_neg h1, if_neg h2, if_neg h3, if_neg h4, if_neg h5, if_neg h6, if_neg h7, if_neg h8]
  rw [hv]
  have e0 := ne_list [110, 117, 108] h0
  have e1 := ne_list [97, 108, 97, 114, 109] h1
  have e2 := ne_list [98, 97, 99, 107, 115, 112, 97, 99, 101] h2
  have e3 := ne_list [116, 97, 98] h3
  have e4 := ne_list [110, 101, 119, 108, 105, 110, 101] h4
  have e5 := ne_list [114, 101, 116, 117, 114, 110] h5
  have e6 := ne_list [101, 115, 99, 97, 112, 101] h6
  have e7 := ne_list [115, 112, 97, 99, 101] h7
  have e8 := ne_list [100, 101, 108, 101, 116, 101] h8
  clear hv h0 h1 h2 h3 h4 h5 h6 h7 h8
  go_enter Tryd.func45, Tryd.ntmps45
  go_wp2_with fail
  go_ret2
  exact ⟨rfl, rfl⟩
theorem body_none {l : List UInt8} (h1 : ¬ l.getD 0 0 = 43) (h2 : ¬ l.getD 0 0 = 45) : body l = l := by
  unfold body signB
  cases l with
  | nil => rfl
  | cons c t =>
    have g1 : Lib.hasPrefix (c :: t) [45] = false := by
      unfold Lib.hasPrefix; simp only [List.isPrefixOf, Bool.and_true, beq_eq_false_iff_ne, ne_eq]; exact fun e => h2 e.symm
    have g2 : Lib.hasPrefix (c :: t) [43] = false := by
      unfold Lib.hasPrefix; simp only [List.isPrefixOf, Bool.and_true, beq_eq_false_iff_ne, ne_eq]; exact fun e => h1 e.symm
    rw [g1, g2]; rfl
theorem body_sign {l : List UInt8} (hne : l ≠ []) (h : l.getD 0 0 = 43 ∨ l.getD 0 0 = 45) : body l = l.drop 1 := by
  unfold body signB
  cases l with
  | nil => exact absurd rfl hne
  | cons c t =>
    have h : c = 43 ∨ c = 45 := h
    rcases h with rfl | rfl <;> rfl
theorem parse_some (l : List UInt8) : (parseV l).isSome = (!(decide (body l = [])) && (body l).all digB) := by
  unfold parseV
  by_cases h1 : body l = []
  · rw [if_pos (.inl h1), decide_eq_true h1]; rfl
  · rw [decide_eq_false h1]
    cases h2 : (body l).all digB with
    | true => rw [if_neg (by rintro (h | h); exact h1 h; cases h)]; rfl
    | false => rw [if_pos (.inr rfl)]; rfl
/-- What is behind a sign: are they digits? -/
theorem trim_empty (t : ByteArray) : (⟨(Lib.trimS t.data.toList [48, 49, 50, 51, 52, 53, 54, 55, 56, 57]).toArray⟩ : ByteArray).toList.isEmpty = t.data.toList.all digB := by
  rw [Lib.toList_data]
  show (Lib.trimS t.data.toList [48, 49, 50, 51, 52, 53, 54, 55, 56, 57]).isEmpty = _
  rw [Bool.eq_iff_iff, List.isEmpty_iff, trim_digits]
set_option maxRecDepth 100000 in
set_option maxHeartbeats 4000000 in
theorem number_any (s : ByteArray) (w : World) (hne : s.data.toList ≠ []) (hs : s.size ≤ 1000000) :
    Calls Tryd.prog 47 #[.string s] w fun e w' => e = .returned (.bool (parseV s.data.toList).isSome) ∧ Keep (fun _ => False) w w' := by
  have hz : s.data.toList.length = s.size := (Lib.size_eq s).symm
  have h0 : 0 < s.data.toList.length := List.length_pos_iff.2 hne
  have hx := at_run s 0 h0 _ rfl
  have hx : ∀ W : World, (Instr.index 9 (.string s) (.int .i64 0)).run Tryd.prog W = .ok (.int .u8 ((s.data.toList.getD 0 0).toNat : Int)) W := hx
  obtain ⟨c, hc⟩ : ∃ c, c = s.data.toList.getD 0 0 := ⟨_, rfl⟩
  rw [← hc] at hx
  have HK := Lib.hid (Keep.refl (fun _ => False) w)
  rw [parse_some]
  have b0 : (1 : Int) ≤ (s.size : Int) := by omega
  by_cases hc1 : c = 43 ∨ c = 45
  · have hb : body s.data.toList = (s.extract 1 s.size).data.toList := by
      rw [body_sign hne (by rw [← hc]; exact hc1), Lib.extract_data, List.take_of_length_le (by rw [List.length_drop]; omega)]
    rw [hb]
    have hsz : (s.extract 1 s.size).size ≤ 9223372036854775807 := by rw [Lib.size_eq, ← hb, body_sign hne (by rw [← hc]; exact hc1), List.length_drop]; omega
    have HSZ := Lib.hid hsz
    have HTE := Lib.hid (trim_empty (s.extract 1 s.size))
    have hemp : (s.extract 1 s.size).toList.isEmpty = decide ((s.extract 1 s.size).data.toList = []) := by
      rw [Lib.toList_data]; cases (s.extract 1 s.size).data.toList <;> simp
    clear hb hsz hz h0 hne
    cases he : decide ((s.extract 1 s.size).data.toList = []) with
    | true =>
      rw [he] at hemp
      clear he
      rcases hc1 with rfl | rfl
      all_goals
        clear hc
        go_enter Tryd.func47, Tryd.ntmps47
        go_wp2_with fail
        go_ret
        exact ⟨rfl, HK.out⟩
    | false =>
      rw [he] at hemp
      clear he
      obtain ⟨r, hr⟩ : ∃ r, r = (s.extract 1 s.size).data.toList.all digB := ⟨_, rfl⟩
      rw [← hr] at HTE ⊢
      clear hr
      rcases hc1 with rfl | rfl
      all_goals
        clear hc
        go_enter Tryd.func47, Tryd.ntmps47
        go_wp2_with fail
        refine (trimDigits_any (s.extract 1 s.size) _ HSZ.out).mono ?_
        rintro e w2 ⟨rfl, k2⟩
        have hte := HTE.out
        have HK2 := Lib.hid (HK.out.trans k2)
        clear k2
        obtain ⟨t, ht⟩ : ∃ t : ByteArray, t = ⟨(Lib.trimS (s.extract 1 s.size).data.toList [48, 49, 50, 51, 52, 53, 54, 55, 56, 57]).toArray⟩ := ⟨_, rfl⟩
        rw [← ht] at hte ⊢
        clear ht
        cases r
        all_goals
          try dsimp only
          go_wp2_with fail
          go_ret
          exact ⟨rfl, HK2.out⟩
  · have n1 : c ≠ 43 := fun h => hc1 (.inl h)
    have n2 : c ≠ 45 := fun h => hc1 (.inr h)
    have hb : body s.data.toList = s.data.toList := body_none (by rw [← hc]; exact n1) (by rw [← hc]; exact n2)
    rw [hb, decide_eq_false hne]
    have HSZ := Lib.hid (show s.size ≤ 9223372036854775807 by omega)
    have HTE := Lib.hid (trim_empty s)
    have hemp : s.toList.isEmpty = false := by rw [Lib.toList_data]; cases h : s.data.toList with | nil => exact absurd h hne | cons => rfl
    have e43 : ((c.toNat : Int) == 43) = false := byte_ne n1
    have e45 : ((c.toNat : Int) == 45) = false := byte_ne n2
    obtain ⟨r, hr⟩ : ∃ r, r = s.data.toList.all digB := ⟨_, rfl⟩
    rw [← hr] at HTE ⊢
    clear hb hz h0 hne hr n1 n2 hc1 hc
    go_enter Tryd.func47, Tryd.ntmps47
    go_wp2_with fail
    refine (trimDigits_any s _ HSZ.out).mono ?_
    rintro e w2 ⟨rfl, k2⟩
    have hte := HTE.out
    have HK2 := Lib.hid (HK.out.trans k2)
    clear k2
    obtain ⟨t, ht⟩ : ∃ t : ByteArray, t = ⟨(Lib.trimS s.data.toList [48, 49, 50, 51, 52, 53, 54, 55, 56, 57]).toArray⟩ := ⟨_, rfl⟩
    rw [← ht] at hte ⊢
    clear ht
    cases r
    all_goals
      try dsimp only
      go_wp2_with fail
      go_ret
      exact ⟨rfl, HK2.out⟩
open Go.RowKit Go.Lib
/-- A number's limbs, in a block of limbs. -/
structure NumAt (w : World) (A : Option Addr) (n c : Nat) (l : List Nat) : Prop where
  lim : LimbsAt w A n c l
  typ : 0 < n → ∀ b off, A = some ⟨b, off, none⟩ → ∃ X, w.heap[b]? = some (.cells X 69 (0, 0))
theorem NumAt.keep {w w' : World} {A : Option Addr} {n c : Nat} {l : List Nat} {S : Nat → Prop} (h : NumAt w A n c l) (k : Keep S w w') (hs : ∀ b, S b → ∀ X, w.heap[b]? ≠ some (.cells X 69 (0, 0))) : NumAt w' A n c l := by
  have hb : 0 < n → ∀ b off, A = some ⟨b, off, none⟩ → ¬ S b := fun hn b off e hS => by
    obtain ⟨X, hX⟩ := h.typ hn b off e
    exact hs b hS X hX
  exact ⟨h.lim.keep k hb, fun hn b off e => by
    obtain ⟨X, hX⟩ := h.typ hn b off e
    exact ⟨X, k.heap hX (hb hn b off e)⟩⟩
theorem NumAt.keep0 {w w' : World} {A : Option Addr} {n c : Nat} {l : List Nat} (h : NumAt w A n c l) (k : Keep (fun _ => False) w w') : NumAt w' A n c l := h.keep k (fun _ h => h.elim)
/-- A datum's token in memory: its kind, its char, its number, its text. -/
def LeafAt (w : World) (d : Leaf) (k c : Int) (neg : Bool) (A : Option Addr) (n cp : Nat) (t : ByteArray) : Prop :=
  match d with
  | .no => k = 0 ∧ c = 0 ∧ neg = false ∧ A = none ∧ n = 0 ∧ cp = 0 ∧ t = ⟨#[]⟩
  | .tru => k = 1 ∧ c = 0 ∧ neg = false ∧ A = none ∧ n = 0 ∧ cp = 0 ∧ t = ⟨#[]⟩
  | .fls => k = 2 ∧ c = 0 ∧ neg = false ∧ A = none ∧ n = 0 ∧ cp = 0 ∧ t = ⟨#[]⟩
  | .chr v => k = 3 ∧ c = (v : Int) ∧ neg = false ∧ A = none ∧ n = 0 ∧ cp = 0 ∧ t = ⟨#[]⟩
  | .int x => k = 4 ∧ c = 0 ∧ neg = decide (x < 0) ∧ NumAt w A n cp (limbs x.natAbs) ∧ n ≤ 48 ∧ t = ⟨#[]⟩
  | .str l => k = 5 ∧ c = 0 ∧ neg = false ∧ A = none ∧ n = 0 ∧ cp = 0 ∧ t = ⟨l.toArray⟩
  | .sym l => k = 6 ∧ c = 0 ∧ neg = false ∧ A = none ∧ n = 0 ∧ cp = 0 ∧ t = ⟨l.toArray⟩
theorem LeafAt.keep {w w' : World} {d : Leaf} {k c : Int} {neg : Bool} {A : Option Addr} {n cp : Nat} {t : ByteArray} (h : LeafAt w d k c neg A n cp t) (K : Keep (fun _ => False) w w') : LeafAt w' d k c neg A n cp t := by
  cases d
  case int x => exact ⟨h.1, h.2.1, h.2.2.1, h.2.2.2.1.keep0 K, h.2.2.2.2⟩
  all_goals exact h
/-- What a call answers that reads a token at a place. -/
def TkPost (r : Except (Nat × Nat) Tk) (a : Nat) (w : World) (e : Ending) (w' : World) : Prop :=
  match r with
  | .ok t => ∃ (k c : Int) (neg : Bool) (A : Option Addr) (n cp : Nat) (x : ByteArray), e = .returned (.tuple #[tokV t.kind a ((a + t.len : Nat) : Int) t.sq k c neg A n cp x, .nilIface]) ∧ LeafAt w' t.d k c neg A n cp x ∧ Keep (fun _ => False) w w'
  | .error (p, c) => ∃ v, e = .returned (.tuple #[.agg tok0, v]) ∧ ErrAt w' v ((a + p : Nat) : Int) c ∧ Keep (fun _ => False) w w'
/-- A word's token. -/
def wordR (W : List UInt8) : Except (Nat × Nat) Tk :=
  match wordV W with
  | .ok (k, d) => .ok ⟨k, W.length, false, d⟩
  | .error e => .error (0, e)
/-- What is known behind the first call of word. -/
structure WordSt (w : World) (s : ByteArray) (a : Nat) (W : List UInt8) (E : Nat) (t : ByteArray) : Prop where
  t : t.data.toList = W
  e : E = a + W.length
  le : E ≤ s.size
theorem word_start (s : ByteArray) (a : Nat) (w : World) (ha : a ≤ s.size) : WordSt w s a ((s.data.toList.drop a).takeWhile wordB) (scan wordB s.data.toList a) (s.extract a (scan wordB s.data.toList a)) := by
  have hz : s.data.toList.length = s.size := (Lib.size_eq s).symm
  refine ⟨?_, rfl, by rw [← hz]; exact scan_le _ (by omega)⟩
  rw [Lib.extract_data]
  unfold scan
  rw [show a + ((s.data.toList.drop a).takeWhile wordB).length - a = ((s.data.toList.drop a).takeWhile wordB).length by omega, tw_take]
theorem limbs_set {w w' : World} {A : Option Addr} {n c : Nat} {l : List Nat} {B : Nat} {Y : Array Value} (h : NumAt w A n c l) (hb : w.heap[B]? = some (.cells Y 33 (0, 0))) (k : Keep (fun b => b = B) w w') : NumAt w' A n c l := by
  refine h.keep k ?_
  rintro b rfl X hX
  rw [hb] at hX
  injection hX with hX
  injection hX with _ hX
  cases hX
theorem ResPost.fits {x : Int} {w w' : World} {e : Ending} (h : ResPost x w e w') (f : Fits x) : Keep (fun _ => False) w w' ∧ ∃ (A : Option Addr) (n c : Nat), e = .returned (.tuple #[numArg (decide (x < 0)) A n c, .int .i64 0]) ∧ NumAt w' A n c (limbs x.natAbs) ∧ n ≤ 48 := by
  obtain ⟨k, ⟨hn, _⟩ | ⟨A, n, c, _, he, own⟩⟩ := h
  · exact absurd f hn
  · refine ⟨k, A, n, c, he, ⟨own.num f, ?_⟩, by have := own.len; unfold Fits at f; omega⟩
    rintro hn b off rfl
    rcases own.2 with ⟨hv, h0⟩ | ⟨g, cap, cur, hv, hg, hh, h1, h2⟩
    · omega
    · injection hv with e1 _ _
      injection e1 with e1
      injection e1 with e1
      subst e1
      exact ⟨cur, hh⟩
theorem sym_leaf {W : List UInt8} {d : Leaf} (h : textL true W = .ok d) : d = .sym W := by
  unfold textL at h
  split at h
  · cases h
  split at h
  · cases h
  split at h
  · cases h
  · injection h with h; exact h.symm
set_option maxRecDepth 100000 in
set_option maxHeartbeats 4000000 in
theorem word_dot (s : ByteArray) (a : Nat) (w : World) (W : List UInt8) (E : Nat) (t : ByteArray) (hT : Tabs w) (ha : a ≤ s.size) (hs : s.size ≤ 1000000) (hne : W ≠ []) (hE : E = scan wordB s.data.toList a) (ht : t = s.extract a E) (hw : WordSt w s a W E t)  (h0 : W = [46]) :
    Calls Tryd.prog 30 #[.string s, .int .i64 (a : Int)] w (TkPost (.ok ⟨8, W.length, false, .no⟩) a w) := by
  subst ht
  have HT := Lib.hid hT
  have HW := Lib.hid hw
  have HNE := Lib.hid hne
  have b1 : a ≤ E := by have := hw.e; omega
  have b2 := hw.le
  have htl := hw.t
  have q0 : ((s.extract a E).toList == [46]) = true := eq_list _ (by rw [htl]; exact h0)
  clear h0
  have HRUN := Lib.hid (fun w => run_any s a 124 w ha hs)
  have hb : (w.alloc (.cells tok0 33)).heap[w.heap.size]? = some (.cells tok0 33 (0, 0)) := heap_alloc_new w _
  have HB1 := Lib.hid hb
  have HK1 := Lib.hid (show Keep (fun _ => False) w (w.alloc (.cells tok0 33)) from (Keep.refl _ _).alloc _)
  have HEX := Lib.hid hE
  have HTL := Lib.hid htl
  clear hT hb hE hw htl hne
  go_enter Tryd.func30, Tryd.ntmps30
  go_wp2_with fail
  refine (HRUN.out _).mono ?_
  rintro e w1 ⟨rfl, rfl⟩
  rw [passB_124, ← HEX.out]
  try dsimp only
  obtain ⟨⟨c0, c1, c2, c3, c4, c5, c6, c7, c8, c9⟩, f0, f1, f2, f3, f4, f5, f6, f7, f8, f9⟩ := tok_cells HB1.out
  have HE := Lib.hid (setTok_keep HK1.out (Nat.le_refl _) (.int .i64 8) (.int .i64 (a : Int)) (.int .i64 (E : Int)) (.bool false) (.int .i64 0) (.int .i32 0) (.bool false) (.slice none 0 0) (.string ⟨#[]⟩) (.slice none 0 0))
  have HR := Lib.hid (tok_cells (setTok_row HB1.out (.int .i64 8) (.int .i64 (a : Int)) (.int .i64 (E : Int)) (.bool false) (.int .i64 0) (.int .i32 0) (.bool false) (.slice none 0 0) (.string ⟨#[]⟩) (.slice none 0 0))).1
  generalize w.alloc (.cells tok0 33) = w1 at *
  generalize w.heap.size = B at *
  go_wp2_with fail
  refine bodyPost_ret (v := .tuple #[tokV 8 (a : Int) (E : Int) false 0 0 false none 0 0 ⟨#[]⟩, .nilIface]) ?_ rfl ?_
  · obtain ⟨e0, e1, e2, e3, e4, e5, e6, e7, e8, e9⟩ := HR.out
    simp [results, Tryd.results30, go_sem, e0, e1, e2, e3, e4, e5, e6, e7, e8, e9]
  · exact ⟨0, 0, false, none, 0, 0, ⟨#[]⟩, by rw [← HW.out.e]; rfl, ⟨rfl, rfl, rfl, rfl, rfl, rfl, rfl⟩, HE.out⟩
set_option maxRecDepth 100000 in
set_option maxHeartbeats 4000000 in
theorem word_t1 (s : ByteArray) (a : Nat) (w : World) (W : List UInt8) (E : Nat) (t : ByteArray) (hT : Tabs w) (ha : a ≤ s.size) (hs : s.size ≤ 1000000) (hne : W ≠ []) (hE : E = scan wordB s.data.toList a) (ht : t = s.extract a E) (hw : WordSt w s a W E t) (h0 : ¬ W = [46]) (h1 : W = [35, 116]) :
    Calls Tryd.prog 30 #[.string s, .int .i64 (a : Int)] w (TkPost (.ok ⟨9, W.length, false, .tru⟩) a w) := by
  subst ht
  have HT := Lib.hid hT
  have HW := Lib.hid hw
  have HNE := Lib.hid hne
  have b1 : a ≤ E := by have := hw.e; omega
  have b2 := hw.le
  have htl := hw.t
  have q0 : ((s.extract a E).toList == [46]) = false := ne_list _ (by rw [htl]; exact h0)
  have q1 : ((s.extract a E).toList == [35, 116]) = true := eq_list _ (by rw [htl]; exact h1)
  clear h0 h1
  have HRUN := Lib.hid (fun w => run_any s a 124 w ha hs)
  have hb : (w.alloc (.cells tok0 33)).heap[w.heap.size]? = some (.cells tok0 33 (0, 0)) := heap_alloc_new w _
  have HB1 := Lib.hid hb
  have HK1 := Lib.hid (show Keep (fun _ => False) w (w.alloc (.cells tok0 33)) from (Keep.refl _ _).alloc _)
  have HEX := Lib.hid hE
  have HTL := Lib.hid htl
  clear hT hb hE hw htl hne
  go_enter Tryd.func30, Tryd.ntmps30
  go_wp2_with fail
  refine (HRUN.out _).mono ?_
  rintro e w1 ⟨rfl, rfl⟩
  rw [passB_124, ← HEX.out]
  try dsimp only
  go_wp2_with fail
  refine (atom_any 1 0 false none 0 0 ⟨#[]⟩ a E _).mono ?_
  rintro e w2 ⟨rfl, k2⟩
  have HB2 := Lib.hid (k2.heap HB1.out (by simp))
  have HK2 := Lib.hid (HK1.out.trans k2)
  clear k2
  obtain ⟨⟨c0, c1, c2, c3, c4, c5, c6, c7, c8, c9⟩, f0, f1, f2, f3, f4, f5, f6, f7, f8, f9⟩ := tok_cells HB2.out
  have HE := Lib.hid (setTok_keep HK2.out (Nat.le_refl _) (.int .i64 9) (.int .i64 (a : Int)) (.int .i64 (E : Int)) (.bool false) (.int .i64 1) (.int .i32 0) (.bool false) (.slice none 0 0) (.string ⟨#[]⟩) (.slice none 0 0))
  have HR := Lib.hid (tok_cells (setTok_row HB2.out (.int .i64 9) (.int .i64 (a : Int)) (.int .i64 (E : Int)) (.bool false) (.int .i64 1) (.int .i32 0) (.bool false) (.slice none 0 0) (.string ⟨#[]⟩) (.slice none 0 0))).1
  try dsimp only
  go_wp2_with fail
  refine bodyPost_ret (v := .tuple #[tokV 9 (a : Int) (E : Int) false 1 0 false none 0 0 ⟨#[]⟩, .nilIface]) ?_ rfl ?_
  · obtain ⟨e0, e1, e2, e3, e4, e5, e6, e7, e8, e9⟩ := HR.out
    simp [results, Tryd.results30, go_sem, e0, e1, e2, e3, e4, e5, e6, e7, e8, e9]
  · exact ⟨1, 0, false, none, 0, 0, ⟨#[]⟩, by rw [← HW.out.e]; rfl, ⟨rfl, rfl, rfl, rfl, rfl, rfl, rfl⟩, HE.out⟩
set_option maxRecDepth 100000 in
set_option maxHeartbeats 4000000 in
theorem word_t2 (s : ByteArray) (a : Nat) (w : World) (W : List UInt8) (E : Nat) (t : ByteArray) (hT : Tabs w) (ha : a ≤ s.size) (hs : s.size ≤ 1000000) (hne : W ≠ []) (hE : E = scan wordB s.data.toList a) (ht : t = s.extract a E) (hw : WordSt w s a W E t) (h0 : ¬ W = [46]) (h1 : ¬ W = [35, 116]) (h2 : W = [35, 116, 114, 117, 101]) :
    Calls Tryd.prog 30 #[.string s, .int .i64 (a : Int)] w (TkPost (.ok ⟨9, W.length, false, .tru⟩) a w) := by
  subst ht
  have HT := Lib.hid hT
  have HW := Lib.hid hw
  have HNE := Lib.hid hne
  have b1 : a ≤ E := by have := hw.e; omega
  have b2 := hw.le
  have htl := hw.t
  have q0 : ((s.extract a E).toList == [46]) = false := ne_list _ (by rw [htl]; exact h0)
  have q1 : ((s.extract a E).toList == [35, 116]) = false := ne_list _ (by rw [htl]; exact h1)
  have q2 : ((s.extract a E).toList == [35, 116, 114, 117, 101]) = true := eq_list _ (by rw [htl]; exact h2)
  clear h0 h1 h2
  have HRUN := Lib.hid (fun w => run_any s a 124 w ha hs)
  have hb : (w.alloc (.cells tok0 33)).heap[w.heap.size]? = some (.cells tok0 33 (0, 0)) := heap_alloc_new w _
  have HB1 := Lib.hid hb
  have HK1 := Lib.hid (show Keep (fun _ => False) w (w.alloc (.cells tok0 33)) from (Keep.refl _ _).alloc _)
  have HEX := Lib.hid hE
  have HTL := Lib.hid htl
  clear hT hb hE hw htl hne
  go_enter Tryd.func30, Tryd.ntmps30
  go_wp2_with fail
  refine (HRUN.out _).mono ?_
  rintro e w1 ⟨rfl, rfl⟩
  rw [passB_124, ← HEX.out]
  try dsimp only
  go_wp2_with fail
  refine (atom_any 1 0 false none 0 0 ⟨#[]⟩ a E _).mono ?_
  rintro e w2 ⟨rfl, k2⟩
  have HB2 := Lib.hid (k2.heap HB1.out (by simp))
  have HK2 := Lib.hid (HK1.out.trans k2)
  clear k2
  obtain ⟨⟨c0, c1, c2, c3, c4, c5, c6, c7, c8, c9⟩, f0, f1, f2, f3, f4, f5, f6, f7, f8, f9⟩ := tok_cells HB2.out
  have HE := Lib.hid (setTok_keep HK2.out (Nat.le_refl _) (.int .i64 9) (.int .i64 (a : Int)) (.int .i64 (E : Int)) (.bool false) (.int .i64 1) (.int .i32 0) (.bool false) (.slice none 0 0) (.string ⟨#[]⟩) (.slice none 0 0))
  have HR := Lib.hid (tok_cells (setTok_row HB2.out (.int .i64 9) (.int .i64 (a : Int)) (.int .i64 (E : Int)) (.bool false) (.int .i64 1) (.int .i32 0) (.bool false) (.slice none 0 0) (.string ⟨#[]⟩) (.slice none 0 0))).1
  try dsimp only
  go_wp2_with fail
  refine bodyPost_ret (v := .tuple #[tokV 9 (a : Int) (E : Int) false 1 0 false none 0 0 ⟨#[]⟩, .nilIface]) ?_ rfl ?_
  · obtain ⟨e0, e1, e2, e3, e4, e5, e6, e7, e8, e9⟩ := HR.out
    simp [results, Tryd.results30, go_sem, e0, e1, e2, e3, e4, e5, e6, e7, e8, e9]
  · exact ⟨1, 0, false, none, 0, 0, ⟨#[]⟩, by rw [← HW.out.e]; rfl, ⟨rfl, rfl, rfl, rfl, rfl, rfl, rfl⟩, HE.out⟩
set_option maxRecDepth 100000 in
set_option maxHeartbeats 4000000 in
theorem word_f1 (s : ByteArray) (a : Nat) (w : World) (W : List UInt8) (E : Nat) (t : ByteArray) (hT : Tabs w) (ha : a ≤ s.size) (hs : s.size ≤ 1000000) (hne : W ≠ []) (hE : E = scan wordB s.data.toList a) (ht : t = s.extract a E) (hw : WordSt w s a W E t) (h0 : ¬ W = [46]) (h1 : ¬ W = [35, 116]) (h2 : ¬ W = [35, 116, 114, 117, 101]) (h3 : W = [35, 102]) :
    Calls Tryd.prog 30 #[.string s, .int .i64 (a : Int)] w (TkPost (.ok ⟨9, W.length, false, .fls⟩) a w) := by
  subst ht
  have HT := Lib.hid hT
  have HW := Lib.hid hw
  have HNE := Lib.hid hne
  have b1 : a ≤ E := by have := hw.e; omega
  have b2 := hw.le
  have htl := hw.t
  have q0 : ((s.extract a E).toList == [46]) = false := ne_list _ (by rw [htl]; exact h0)
  have q1 : ((s.extract a E).toList == [35, 116]) = false := ne_list _ (by rw [htl]; exact h1)
  have q2 : ((s.extract a E).toList == [35, 116, 114, 117, 101]) = false := ne_list _ (by rw [htl]; exact h2)
  have q3 : ((s.extract a E).toList == [35, 102]) = true := eq_list _ (by rw [htl]; exact h3)
  clear h0 h1 h2 h3
  have HRUN := Lib.hid (fun w => run_any s a 124 w ha hs)
  have hb : (w.alloc (.cells tok0 33)).heap[w.heap.size]? = some (.cells tok0 33 (0, 0)) := heap_alloc_new w _
  have HB1 := Lib.hid hb
  have HK1 := Lib.hid (show Keep (fun _ => False) w (w.alloc (.cells tok0 33)) from (Keep.refl _ _).alloc _)
  have HEX := Lib.hid hE
  have HTL := Lib.hid htl
  clear hT hb hE hw htl hne
  go_enter Tryd.func30, Tryd.ntmps30
  go_wp2_with fail
  refine (HRUN.out _).mono ?_
  rintro e w1 ⟨rfl, rfl⟩
  rw [passB_124, ← HEX.out]
  try dsimp only
  go_wp2_with fail
  refine (atom_any 2 0 false none 0 0 ⟨#[]⟩ a E _).mono ?_
  rintro e w2 ⟨rfl, k2⟩
  have HB2 := Lib.hid (k2.heap HB1.out (by simp))
  have HK2 := Lib.hid (HK1.out.trans k2)
  clear k2
  obtain ⟨⟨c0, c1, c2, c3, c4, c5, c6, c7, c8, c9⟩, f0, f1, f2, f3, f4, f5, f6, f7, f8, f9⟩ := tok_cells HB2.out
  have HE := Lib.hid (setTok_keep HK2.out (Nat.le_refl _) (.int .i64 9) (.int .i64 (a : Int)) (.int .i64 (E : Int)) (.bool false) (.int .i64 2) (.int .i32 0) (.bool false) (.slice none 0 0) (.string ⟨#[]⟩) (.slice none 0 0))
  have HR := Lib.hid (tok_cells (setTok_row HB2.out (.int .i64 9) (.int .i64 (a : Int)) (.int .i64 (E : Int)) (.bool false) (.int .i64 2) (.int .i32 0) (.bool false) (.slice none 0 0) (.string ⟨#[]⟩) (.slice none 0 0))).1
  try dsimp only
  go_wp2_with fail
  refine bodyPost_ret (v := .tuple #[tokV 9 (a : Int) (E : Int) false 2 0 false none 0 0 ⟨#[]⟩, .nilIface]) ?_ rfl ?_
  · obtain ⟨e0, e1, e2, e3, e4, e5, e6, e7, e8, e9⟩ := HR.out
    simp [results, Tryd.results30, go_sem, e0, e1, e2, e3, e4, e5, e6, e7, e8, e9]
  · exact ⟨2, 0, false, none, 0, 0, ⟨#[]⟩, by rw [← HW.out.e]; rfl, ⟨rfl, rfl, rfl, rfl, rfl, rfl, rfl⟩, HE.out⟩
set_option maxRecDepth 100000 in
set_option maxHeartbeats 4000000 in
theorem word_f2 (s : ByteArray) (a : Nat) (w : World) (W : List UInt8) (E : Nat) (t : ByteArray) (hT : Tabs w) (ha : a ≤ s.size) (hs : s.size ≤ 1000000) (hne : W ≠ []) (hE : E = scan wordB s.data.toList a) (ht : t = s.extract a E) (hw : WordSt w s a W E t) (h0 : ¬ W = [46]) (h1 : ¬ W = [35, 116]) (h2 : ¬ W = [35, 116, 114, 117, 101]) (h3 : ¬ W = [35, 102]) (h4 : W = [35, 102, 97, 108, 115, 101]) :
    Calls Tryd.prog 30 #[.string s, .int .i64 (a : Int)] w (TkPost (.ok ⟨9, W.length, false, .fls⟩) a w) := by
  subst ht
  have HT := Lib.hid hT
  have HW := Lib.hid hw
  have HNE := Lib.hid hne
  have b1 : a ≤ E := by have := hw.e; omega
  have b2 := hw.le
  have htl := hw.t
  have q0 : ((s.extract a E).toList == [46]) = false := ne_list _ (by rw [htl]; exact h0)
  have q1 : ((s.extract a E).toList == [35, 116]) = false := ne_list _ (by rw [htl]; exact h1)
  have q2 : ((s.extract a E).toList == [35, 116, 114, 117, 101]) = false := ne_list _ (by rw [htl]; exact h2)
  have q3 : ((s.extract a E).toList == [35, 102]) = false := ne_list _ (by rw [htl]; exact h3)
  have q4 : ((s.extract a E).toList == [35, 102, 97, 108, 115, 101]) = true := eq_list _ (by rw [htl]; exact h4)
  clear h0 h1 h2 h3 h4
  have HRUN := Lib.hid (fun w => run_any s a 124 w ha hs)
  have hb : (w.alloc (.cells tok0 33)).heap[w.heap.size]? = some (.cells tok0 33 (0, 0)) := heap_alloc_new w _
  have HB1 := Lib.hid hb
  have HK1 := Lib.hid (show Keep (fun _ => False) w (w.alloc (.cells tok0 33)) from (Keep.refl _ _).alloc _)
  have HEX := Lib.hid hE
  have HTL := Lib.hid htl
  clear hT hb hE hw htl hne
  go_enter Tryd.func30, Tryd.ntmps30
  go_wp2_with fail
  refine (HRUN.out _).mono ?_
  rintro e w1 ⟨rfl, rfl⟩
  rw [passB_124, ← HEX.out]
  try dsimp only
  go_wp2_with fail
  refine (atom_any 2 0 false none 0 0 ⟨#[]⟩ a E _).mono ?_
  rintro e w2 ⟨rfl, k2⟩
  have HB2 := Lib.hid (k2.heap HB1.out (by simp))
  have HK2 := Lib.hid (HK1.out.trans k2)
  clear k2
  obtain ⟨⟨c0, c1, c2, c3, c4, c5, c6, c7, c8, c9⟩, f0, f1, f2, f3, f4, f5, f6, f7, f8, f9⟩ := tok_cells HB2.out
  have HE := Lib.hid (setTok_keep HK2.out (Nat.le_refl _) (.int .i64 9) (.int .i64 (a : Int)) (.int .i64 (E : Int)) (.bool false) (.int .i64 2) (.int .i32 0) (.bool false) (.slice none 0 0) (.string ⟨#[]⟩) (.slice none 0 0))
  have HR := Lib.hid (tok_cells (setTok_row HB2.out (.int .i64 9) (.int .i64 (a : Int)) (.int .i64 (E : Int)) (.bool false) (.int .i64 2) (.int .i32 0) (.bool false) (.slice none 0 0) (.string ⟨#[]⟩) (.slice none 0 0))).1
  try dsimp only
  go_wp2_with fail
  refine bodyPost_ret (v := .tuple #[tokV 9 (a : Int) (E : Int) false 2 0 false none 0 0 ⟨#[]⟩, .nilIface]) ?_ rfl ?_
  · obtain ⟨e0, e1, e2, e3, e4, e5, e6, e7, e8, e9⟩ := HR.out
    simp [results, Tryd.results30, go_sem, e0, e1, e2, e3, e4, e5, e6, e7, e8, e9]
  · exact ⟨2, 0, false, none, 0, 0, ⟨#[]⟩, by rw [← HW.out.e]; rfl, ⟨rfl, rfl, rfl, rfl, rfl, rfl, rfl⟩, HE.out⟩
set_option maxRecDepth 100000 in
set_option maxHeartbeats 4000000 in
theorem word_sharp (s : ByteArray) (a : Nat) (w : World) (W : List UInt8) (E : Nat) (t : ByteArray) (hT : Tabs w) (ha : a ≤ s.size) (hs : s.size ≤ 1000000) (hne : W ≠ []) (hE : E = scan wordB s.data.toList a) (ht : t = s.extract a E) (hw : WordSt w s a W E t) (h0 : ¬ W = [46]) (h1 : ¬ W = [35, 116]) (h2 : ¬ W = [35, 116, 114, 117, 101]) (h3 : ¬ W = [35, 102]) (h4 : ¬ W = [35, 102, 97, 108, 115, 101]) (hash : W.getD 0 0 = 35) :
    Calls Tryd.prog 30 #[.string s, .int .i64 (a : Int)] w (TkPost (.error (0, 9)) a w) := by
  subst ht
  have HT := Lib.hid hT
  have HW := Lib.hid hw
  have HNE := Lib.hid hne
  have b1 : a ≤ E := by have := hw.e; omega
  have b2 := hw.le
  have htl := hw.t
  have hx0 := at_run (s.extract a E) 0 (by rw [htl]; exact List.length_pos_iff.2 hne) (W.getD 0 0) (by rw [htl])
  have hx : ∀ W' : World, (Instr.index 9 (.string (s.extract a E)) (.int .i64 0)).run Tryd.prog W' = .ok (.int .u8 ((W.getD 0 0).toNat : Int)) W' := hx0
  have q0 : ((s.extract a E).toList == [46]) = false := ne_list _ (by rw [htl]; exact h0)
  have q1 : ((s.extract a E).toList == [35, 116]) = false := ne_list _ (by rw [htl]; exact h1)
  have q2 : ((s.extract a E).toList == [35, 116, 114, 117, 101]) = false := ne_list _ (by rw [htl]; exact h2)
  have q3 : ((s.extract a E).toList == [35, 102]) = false := ne_list _ (by rw [htl]; exact h3)
  have q4 : ((s.extract a E).toList == [35, 102, 97, 108, 115, 101]) = false := ne_list _ (by rw [htl]; exact h4)
  clear h0 h1 h2 h3 h4
  have hh : ∀ W' : World, (Instr.index 9 (.string (s.extract a E)) (.int .i64 0)).run Tryd.prog W' = .ok (.int .u8 35) W' := by
    intro W'; rw [hx W', hash]; rfl
  clear hx0 hx hash
  have HRUN := Lib.hid (fun w => run_any s a 124 w ha hs)
  have hb : (w.alloc (.cells tok0 33)).heap[w.heap.size]? = some (.cells tok0 33 (0, 0)) := heap_alloc_new w _
  have HB1 := Lib.hid hb
  have HK1 := Lib.hid (show Keep (fun _ => False) w (w.alloc (.cells tok0 33)) from (Keep.refl _ _).alloc _)
  have HEX := Lib.hid hE
  have HTL := Lib.hid htl
  clear hT hb hE hw htl hne
  go_enter Tryd.func30, Tryd.ntmps30
  go_wp2_with fail
  refine (HRUN.out _).mono ?_
  rintro e w1 ⟨rfl, rfl⟩
  rw [passB_124, ← HEX.out]
  try dsimp only
  go_wp2_with fail
  refine (wrong_any _ _ _ _).mono ?_
  rintro e w7 ⟨v, rfl, he, k7⟩
  have HB7 := Lib.hid (k7.heap HB1.out (by simp))
  obtain ⟨⟨c0, c1, c2, c3, c4, c5, c6, c7, c8, c9⟩, f0, f1, f2, f3, f4, f5, f6, f7, f8, f9⟩ := tok_cells HB7.out
  have HE := Lib.hid (tok_err_end (HK1.out.trans k7) (Nat.le_refl _) HB7.out he (.int .i64 0) (.int .i64 0) (.int .i64 0) (.bool false) (.int .i64 0) (.int .i32 0) (.bool false) (.slice none 0 0) (.string ⟨#[]⟩) (.slice none 0 0))
  have HR := Lib.hid (tok_cells (setTok_row HB7.out (.int .i64 0) (.int .i64 0) (.int .i64 0) (.bool false) (.int .i64 0) (.int .i32 0) (.bool false) (.slice none 0 0) (.string ⟨#[]⟩) (.slice none 0 0))).1
  clear he k7
  try dsimp only
  go_wp2_with fail
  refine bodyPost_ret (v := .tuple #[.agg tok0, v]) ?_ rfl ?_
  · obtain ⟨e0, e1, e2, e3, e4, e5, e6, e7, e8, e9⟩ := HR.out
    simp [results, Tryd.results30, go_sem, e0, e1, e2, e3, e4, e5, e6, e7, e8, e9]
  · exact ⟨v, rfl, HE.out⟩
set_option maxRecDepth 100000 in
set_option maxHeartbeats 4000000 in
theorem word_big (s : ByteArray) (a : Nat) (w : World) (W : List UInt8) (E : Nat) (t : ByteArray) (hT : Tabs w) (ha : a ≤ s.size) (hs : s.size ≤ 1000000) (hne : W ≠ []) (hE : E = scan wordB s.data.toList a) (ht : t = s.extract a E) (hw : WordSt w s a W E t) (h0 : ¬ W = [46]) (h1 : ¬ W = [35, 116]) (h2 : ¬ W = [35, 116, 114, 117, 101]) (h3 : ¬ W = [35, 102]) (h4 : ¬ W = [35, 102, 97, 108, 115, 101]) (hash : ¬ W.getD 0 0 = 35) (x : Int) (hp : parseV W = some x) (hf : ¬ Fits x) :
    Calls Tryd.prog 30 #[.string s, .int .i64 (a : Int)] w (TkPost (.error (0, 6)) a w) := by
  subst ht
  have HT := Lib.hid hT
  have HW := Lib.hid hw
  have HNE := Lib.hid hne
  have b1 : a ≤ E := by have := hw.e; omega
  have b2 := hw.le
  have htl := hw.t
  have hx0 := at_run (s.extract a E) 0 (by rw [htl]; exact List.length_pos_iff.2 hne) (W.getD 0 0) (by rw [htl])
  have hx : ∀ W' : World, (Instr.index 9 (.string (s.extract a E)) (.int .i64 0)).run Tryd.prog W' = .ok (.int .u8 ((W.getD 0 0).toNat : Int)) W' := hx0
  have q0 : ((s.extract a E).toList == [46]) = false := ne_list _ (by rw [htl]; exact h0)
  have q1 : ((s.extract a E).toList == [35, 116]) = false := ne_list _ (by rw [htl]; exact h1)
  have q2 : ((s.extract a E).toList == [35, 116, 114, 117, 101]) = false := ne_list _ (by rw [htl]; exact h2)
  have q3 : ((s.extract a E).toList == [35, 102]) = false := ne_list _ (by rw [htl]; exact h3)
  have q4 : ((s.extract a E).toList == [35, 102, 97, 108, 115, 101]) = false := ne_list _ (by rw [htl]; exact h4)
  clear h0 h1 h2 h3 h4
  have e35 : (((W.getD 0 0).toNat : Int) == 35) = false := byte_ne hash
  obtain ⟨c, hcc⟩ : ∃ c, c = ((W.getD 0 0).toNat : Int) := ⟨_, rfl⟩
  rw [← hcc] at hx e35
  clear hx0 hash hcc
  have HSZ := Lib.hid (show (s.extract a E).size ≤ 1000000 by rw [Lib.size_eq, Lib.extract_data]; have := List.length_take_le (E - a) (s.data.toList.drop a); have := hw.le; omega)
  have HPV := Lib.hid hp
  have HF := Lib.hid hf
  clear hp hf
  have HRUN := Lib.hid (fun w => run_any s a 124 w ha hs)
  have hb : (w.alloc (.cells tok0 33)).heap[w.heap.size]? = some (.cells tok0 33 (0, 0)) := heap_alloc_new w _
  have HB1 := Lib.hid hb
  have HK1 := Lib.hid (show Keep (fun _ => False) w (w.alloc (.cells tok0 33)) from (Keep.refl _ _).alloc _)
  have HEX := Lib.hid hE
  have HTL := Lib.hid htl
  clear hT hb hE hw htl hne
  go_enter Tryd.func30, Tryd.ntmps30
  go_wp2_with fail
  refine (HRUN.out _).mono ?_
  rintro e w1 ⟨rfl, rfl⟩
  rw [passB_124, ← HEX.out]
  try dsimp only
  go_wp2_with fail
  refine (number_any (s.extract a E) _ (by rw [HTL.out]; exact HNE.out) HSZ.out).mono ?_
  rintro e w2 ⟨rfl, k2⟩
  rw [HTL.out, HPV.out]
  have HB2 := Lib.hid (k2.heap HB1.out (by simp))
  have HK2 := Lib.hid (HK1.out.trans k2)
  clear k2
  try dsimp only [Option.isSome]
  go_wp2_with fail
  refine (parse_any (s.extract a E) w2 HSZ.out).mono ?_
  intro e w3 hres
  unfold ParsePost at hres
  rw [HTL.out, HPV.out] at hres
  have hres : ResPost x w2 e w3 := hres
  obtain ⟨k3, ⟨_, rfl⟩ | ⟨A, n, cp, hx2, _⟩⟩ := hres
  case inr => exact absurd hx2 HF.out
  have k4 := k3.alloc (.cells #[.bool false, .slice none 0 0] 28)
  have HB3 := Lib.hid (k4.heap HB2.out (by simp))
  have HK3 := Lib.hid (HK2.out.trans k4)
  clear k3 k4
  try dsimp only
  go_wp2_with fail
  refine (wrong_any _ _ _ _).mono ?_
  rintro e w7 ⟨v, rfl, he, k7⟩
  have HB7 := Lib.hid (k7.heap HB3.out (by simp))
  obtain ⟨⟨c0, c1, c2, c3, c4, c5, c6, c7, c8, c9⟩, f0, f1, f2, f3, f4, f5, f6, f7, f8, f9⟩ := tok_cells HB7.out
  have HE := Lib.hid (tok_err_end (HK3.out.trans k7) (Nat.le_refl _) HB7.out he (.int .i64 0) (.int .i64 0) (.int .i64 0) (.bool false) (.int .i64 0) (.int .i32 0) (.bool false) (.slice none 0 0) (.string ⟨#[]⟩) (.slice none 0 0))
  have HR := Lib.hid (tok_cells (setTok_row HB7.out (.int .i64 0) (.int .i64 0) (.int .i64 0) (.bool false) (.int .i64 0) (.int .i32 0) (.bool false) (.slice none 0 0) (.string ⟨#[]⟩) (.slice none 0 0))).1
  clear he k7
  try dsimp only
  go_wp2_with fail
  refine bodyPost_ret (v := .tuple #[.agg tok0, v]) ?_ rfl ?_
  · obtain ⟨e0, e1, e2, e3, e4, e5, e6, e7, e8, e9⟩ := HR.out
    simp [results, Tryd.results30, go_sem, e0, e1, e2, e3, e4, e5, e6, e7, e8, e9]
  · exact ⟨v, rfl, HE.out⟩
set_option maxRecDepth 100000 in
set_option maxHeartbeats 4000000 in
theorem word_int (s : ByteArray) (a : Nat) (w : World) (W : List UInt8) (E : Nat) (t : ByteArray) (hT : Tabs w) (ha : a ≤ s.size) (hs : s.size ≤ 1000000) (hne : W ≠ []) (hE : E = scan wordB s.data.toList a) (ht : t = s.extract a E) (hw : WordSt w s a W E t) (h0 : ¬ W = [46]) (h1 : ¬ W = [35, 116]) (h2 : ¬ W = [35, 116, 114, 117, 101]) (h3 : ¬ W = [35, 102]) (h4 : ¬ W = [35, 102, 97, 108, 115, 101]) (hash : ¬ W.getD 0 0 = 35) (x : Int) (hp : parseV W = some x) (hf : Fits x) :
    Calls Tryd.prog 30 #[.string s, .int .i64 (a : Int)] w (TkPost (.ok ⟨9, W.length, false, .int x⟩) a w) := by
  subst ht
  have HT := Lib.hid hT
  have HW := Lib.hid hw
  have HNE := Lib.hid hne
  have b1 : a ≤ E := by have := hw.e; omega
  have b2 := hw.le
  have htl := hw.t
  have hx0 := at_run (s.extract a E) 0 (by rw [htl]; exact List.length_pos_iff.2 hne) (W.getD 0 0) (by rw [htl])
  have hx : ∀ W' : World, (Instr.index 9 (.string (s.extract a E)) (.int .i64 0)).run Tryd.prog W' = .ok (.int .u8 ((W.getD 0 0).toNat : Int)) W' := hx0
  have q0 : ((s.extract a E).toList == [46]) = false := ne_list _ (by rw [htl]; exact h0)
  have q1 : ((s.extract a E).toList == [35, 116]) = false := ne_list _ (by rw [htl]; exact h1)
  have q2 : ((s.extract a E).toList == [35, 116, 114, 117, 101]) = false := ne_list _ (by rw [htl]; exact h2)
  have q3 : ((s.extract a E).toList == [35, 102]) = false := ne_list _ (by rw [htl]; exact h3)
  have q4 : ((s.extract a E).toList == [35, 102, 97, 108, 115, 101]) = false := ne_list _ (by rw [htl]; exact h4)
  clear h0 h1 h2 h3 h4
  have e35 : (((W.getD 0 0).toNat : Int) == 35) = false := byte_ne hash
  obtain ⟨c, hcc⟩ : ∃ c, c = ((W.getD 0 0).toNat : Int) := ⟨_, rfl⟩
  rw [← hcc] at hx e35
  clear hx0 hash hcc
  have HSZ := Lib.hid (show (s.extract a E).size ≤ 1000000 by rw [Lib.size_eq, Lib.extract_data]; have := List.length_take_le (E - a) (s.data.toList.drop a); have := hw.le; omega)
  have HPV := Lib.hid hp
  have HF := Lib.hid hf
  clear hp hf
  have HRUN := Lib.hid (fun w => run_any s a 124 w ha hs)
  have hb : (w.alloc (.cells tok0 33)).heap[w.heap.size]? = some (.cells tok0 33 (0, 0)) := heap_alloc_new w _
  have HB1 := Lib.hid hb
  have HK1 := Lib.hid (show Keep (fun _ => False) w (w.alloc (.cells tok0 33)) from (Keep.refl _ _).alloc _)
  have HEX := Lib.hid hE
  have HTL := Lib.hid htl
  clear hT hb hE hw htl hne
  go_enter Tryd.func30, Tryd.ntmps30
  go_wp2_with fail
  refine (HRUN.out _).mono ?_
  rintro e w1 ⟨rfl, rfl⟩
  rw [passB_124, ← HEX.out]
  try dsimp only
  go_wp2_with fail
  refine (number_any (s.extract a E) _ (by rw [HTL.out]; exact HNE.out) HSZ.out).mono ?_
  rintro e w2 ⟨rfl, k2⟩
  rw [HTL.out, HPV.out]
  have HB2 := Lib.hid (k2.heap HB1.out (by simp))
  have HK2 := Lib.hid (HK1.out.trans k2)
  clear k2
  try dsimp only [Option.isSome]
  go_wp2_with fail
  refine (parse_any (s.extract a E) w2 HSZ.out).mono ?_
  intro e w3 hres
  unfold ParsePost at hres
  rw [HTL.out, HPV.out] at hres
  have hres : ResPost x w2 e w3 := hres
  obtain ⟨k3, A, n, cp, rfl, hL, hn⟩ := hres.fits HF.out
  obtain ⟨z, hzz⟩ : ∃ z, z = decide (x < 0) := ⟨_, rfl⟩
  rw [← hzz]
  have HZZ := Lib.hid hzz
  clear hres hzz
  have k4 := k3.alloc (.cells #[.bool z, .slice A n cp] 28)
  have HL := Lib.hid (hL.keep0 ((Keep.refl _ _).alloc (.cells #[.bool z, .slice A n cp] 28)))
  have HN := Lib.hid hn
  have HB3 := Lib.hid (k4.heap HB2.out (by simp))
  have HK3 := Lib.hid (HK2.out.trans k4)
  clear k3 k4 hL hn
  try dsimp only
  go_wp2_with fail
  refine (atom_any 4 0 z A n cp ⟨#[]⟩ a E _).mono ?_
  rintro e w5 ⟨rfl, k5⟩
  have HB5 := Lib.hid (k5.heap HB3.out (by simp))
  have HK5 := Lib.hid (HK3.out.trans k5)
  have HL5 := Lib.hid (HL.out.keep0 k5)
  clear k5
  obtain ⟨⟨c0, c1, c2, c3, c4, c5, c6, c7, c8, c9⟩, f0, f1, f2, f3, f4, f5, f6, f7, f8, f9⟩ := tok_cells HB5.out
  have HE := Lib.hid (setTok_keep HK5.out (Nat.le_refl _) (.int .i64 9) (.int .i64 (a : Int)) (.int .i64 (E : Int)) (.bool false) (.int .i64 4) (.int .i32 0) (.bool z) (.slice A n cp) (.string ⟨#[]⟩) (.slice none 0 0))
  have HR := Lib.hid (tok_cells (setTok_row HB5.out (.int .i64 9) (.int .i64 (a : Int)) (.int .i64 (E : Int)) (.bool false) (.int .i64 4) (.int .i32 0) (.bool z) (.slice A n cp) (.string ⟨#[]⟩) (.slice none 0 0))).1
  try dsimp only
  go_wp2_with fail
  refine bodyPost_ret (v := .tuple #[tokV 9 (a : Int) (E : Int) false 4 0 z A n cp ⟨#[]⟩, .nilIface]) ?_ rfl ?_
  · obtain ⟨e0, e1, e2, e3, e4, e5, e6, e7, e8, e9⟩ := HR.out
    simp [results, Tryd.results30, go_sem, e0, e1, e2, e3, e4, e5, e6, e7, e8, e9]
  · refine ⟨4, 0, z, A, n, cp, ⟨#[]⟩, by rw [← HW.out.e]; rfl, ⟨rfl, rfl, HZZ.out, ?_, HN.out, rfl⟩, HE.out⟩
    exact limbs_set HL5.out HB5.out (setTok_self _ _ _ _ _ _ _ _ _ _ _ _)
set_option maxRecDepth 100000 in
set_option maxHeartbeats 4000000 in
theorem word_sym (s : ByteArray) (a : Nat) (w : World) (W : List UInt8) (E : Nat) (t : ByteArray) (hT : Tabs w) (ha : a ≤ s.size) (hs : s.size ≤ 1000000) (hne : W ≠ []) (hE : E = scan wordB s.data.toList a) (ht : t = s.extract a E) (hw : WordSt w s a W E t) (h0 : ¬ W = [46]) (h1 : ¬ W = [35, 116]) (h2 : ¬ W = [35, 116, 114, 117, 101]) (h3 : ¬ W = [35, 102]) (h4 : ¬ W = [35, 102, 97, 108, 115, 101]) (hash : ¬ W.getD 0 0 = 35) (hp : parseV W = none) (d : Leaf) (hd : textL true W = .ok d) :
    Calls Tryd.prog 30 #[.string s, .int .i64 (a : Int)] w (TkPost (.ok ⟨9, W.length, false, d⟩) a w) := by
  subst ht
  have HT := Lib.hid hT
  have HW := Lib.hid hw
  have HNE := Lib.hid hne
  have b1 : a ≤ E := by have := hw.e; omega
  have b2 := hw.le
  have htl := hw.t
  have hx0 := at_run (s.extract a E) 0 (by rw [htl]; exact List.length_pos_iff.2 hne) (W.getD 0 0) (by rw [htl])
  have hx : ∀ W' : World, (Instr.index 9 (.string (s.extract a E)) (.int .i64 0)).run Tryd.prog W' = .ok (.int .u8 ((W.getD 0 0).toNat : Int)) W' := hx0
  have q0 : ((s.extract a E).toList == [46]) = false := ne_list _ (by rw [htl]; exact h0)
  have q1 : ((s.extract a E).toList == [35, 116]) = false := ne_list _ (by rw [htl]; exact h1)
  have q2 : ((s.extract a E).toList == [35, 116, 114, 117, 101]) = false := ne_list _ (by rw [htl]; exact h2)
  have q3 : ((s.extract a E).toList == [35, 102]) = false := ne_list _ (by rw [htl]; exact h3)
  have q4 : ((s.extract a E).toList == [35, 102, 97, 108, 115, 101]) = false := ne_list _ (by rw [htl]; exact h4)
  clear h0 h1 h2 h3 h4
  have e35 : (((W.getD 0 0).toNat : Int) == 35) = false := byte_ne hash
  obtain ⟨c, hcc⟩ : ∃ c, c = ((W.getD 0 0).toNat : Int) := ⟨_, rfl⟩
  rw [← hcc] at hx e35
  clear hx0 hash hcc
  have HSZ := Lib.hid (show (s.extract a E).size ≤ 1000000 by rw [Lib.size_eq, Lib.extract_data]; have := List.length_take_le (E - a) (s.data.toList.drop a); have := hw.le; omega)
  have HPV := Lib.hid hp
  have HTXT := Lib.hid (fun w hT => texted_any true (s.extract a E) a E w hT HSZ.out)
  clear hp
  have HD := Lib.hid hd
  clear hd
  have HRUN := Lib.hid (fun w => run_any s a 124 w ha hs)
  have hb : (w.alloc (.cells tok0 33)).heap[w.heap.size]? = some (.cells tok0 33 (0, 0)) := heap_alloc_new w _
  have HB1 := Lib.hid hb
  have HK1 := Lib.hid (show Keep (fun _ => False) w (w.alloc (.cells tok0 33)) from (Keep.refl _ _).alloc _)
  have HEX := Lib.hid hE
  have HTL := Lib.hid htl
  clear hT hb hE hw htl hne
  go_enter Tryd.func30, Tryd.ntmps30
  go_wp2_with fail
  refine (HRUN.out _).mono ?_
  rintro e w1 ⟨rfl, rfl⟩
  rw [passB_124, ← HEX.out]
  try dsimp only
  go_wp2_with fail
  refine (number_any (s.extract a E) _ (by rw [HTL.out]; exact HNE.out) HSZ.out).mono ?_
  rintro e w2 ⟨rfl, k2⟩
  rw [HTL.out, HPV.out]
  have HB2 := Lib.hid (k2.heap HB1.out (by simp))
  have HK2 := Lib.hid (HK1.out.trans k2)
  clear k2
  try dsimp only [Option.isSome]
  go_wp2_with fail
  refine (HTXT.out w2 (HT.out.keep HK2.out)).mono ?_
  intro e w3 hres
  rw [HTL.out, HD.out] at hres
  obtain ⟨rfl, k3⟩ := hres
  have HB3 := Lib.hid (k3.heap HB2.out (by simp))
  have HK3 := Lib.hid (HK2.out.trans k3)
  clear k3
  obtain ⟨⟨c0, c1, c2, c3, c4, c5, c6, c7, c8, c9⟩, f0, f1, f2, f3, f4, f5, f6, f7, f8, f9⟩ := tok_cells HB3.out
  have HE := Lib.hid (setTok_keep HK3.out (Nat.le_refl _) (.int .i64 9) (.int .i64 (a : Int)) (.int .i64 (E : Int)) (.bool false) (.int .i64 6) (.int .i32 0) (.bool false) (.slice none 0 0) (.string (s.extract a E)) (.slice none 0 0))
  have HR := Lib.hid (tok_cells (setTok_row HB3.out (.int .i64 9) (.int .i64 (a : Int)) (.int .i64 (E : Int)) (.bool false) (.int .i64 6) (.int .i32 0) (.bool false) (.slice none 0 0) (.string (s.extract a E)) (.slice none 0 0))).1
  try dsimp only
  go_wp2_with fail
  refine bodyPost_ret (v := .tuple #[tokV 9 (a : Int) (E : Int) false 6 0 false none 0 0 (s.extract a E), .nilIface]) ?_ rfl ?_
  · obtain ⟨e0, e1, e2, e3, e4, e5, e6, e7, e8, e9⟩ := HR.out
    simp [results, Tryd.results30, go_sem, e0, e1, e2, e3, e4, e5, e6, e7, e8, e9]
  · refine ⟨6, 0, false, none, 0, 0, s.extract a E, by rw [← HW.out.e]; rfl, ?_, HE.out⟩
    rw [sym_leaf HD.out]
    exact ⟨rfl, rfl, rfl, rfl, rfl, rfl, by rw [← HTL.out]⟩
set_option maxRecDepth 100000 in
set_option maxHeartbeats 4000000 in
theorem word_no (s : ByteArray) (a : Nat) (w : World) (W : List UInt8) (E : Nat) (t : ByteArray) (hT : Tabs w) (ha : a ≤ s.size) (hs : s.size ≤ 1000000) (hne : W ≠ []) (hE : E = scan wordB s.data.toList a) (ht : t = s.extract a E) (hw : WordSt w s a W E t) (h0 : ¬ W = [46]) (h1 : ¬ W = [35, 116]) (h2 : ¬ W = [35, 116, 114, 117, 101]) (h3 : ¬ W = [35, 102]) (h4 : ¬ W = [35, 102, 97, 108, 115, 101]) (hash : ¬ W.getD 0 0 = 35) (hp : parseV W = none) (q : Nat) (hd : textL true W = .error q) :
    Calls Tryd.prog 30 #[.string s, .int .i64 (a : Int)] w (TkPost (.error (0, q)) a w) := by
  subst ht
  have HT := Lib.hid hT
  have HW := Lib.hid hw
  have HNE := Lib.hid hne
  have b1 : a ≤ E := by have := hw.e; omega
  have b2 := hw.le
  have htl := hw.t
  have hx0 := at_run (s.extract a E) 0 (by rw [htl]; exact List.length_pos_iff.2 hne) (W.getD 0 0) (by rw [htl])
  have hx : ∀ W' : World, (Instr.index 9 (.string (s.extract a E)) (.int .i64 0)).run Tryd.prog W' = .ok (.int .u8 ((W.getD 0 0).toNat : Int)) W' := hx0
  have q0 : ((s.extract a E).toList == [46]) = false := ne_list _ (by rw [htl]; exact h0)
  have q1 : ((s.extract a E).toList == [35, 116]) = false := ne_list _ (by rw [htl]; exact h1)
  have q2 : ((s.extract a E).toList == [35, 116, 114, 117, 101]) = false := ne_list _ (by rw [htl]; exact h2)
  have q3 : ((s.extract a E).toList == [35, 102]) = false := ne_list _ (by rw [htl]; exact h3)
  have q4 : ((s.extract a E).toList == [35, 102, 97, 108, 115, 101]) = false := ne_list _ (by rw [htl]; exact h4)
  clear h0 h1 h2 h3 h4
  have e35 : (((W.getD 0 0).toNat : Int) == 35) = false := byte_ne hash
  obtain ⟨c, hcc⟩ : ∃ c, c = ((W.getD 0 0).toNat : Int) := ⟨_, rfl⟩
  rw [← hcc] at hx e35
  clear hx0 hash hcc
  have HSZ := Lib.hid (show (s.extract a E).size ≤ 1000000 by rw [Lib.size_eq, Lib.extract_data]; have := List.length_take_le (E - a) (s.data.toList.drop a); have := hw.le; omega)
  have HPV := Lib.hid hp
  have HTXT := Lib.hid (fun w hT => texted_any true (s.extract a E) a E w hT HSZ.out)
  clear hp
  have HD := Lib.hid hd
  clear hd
  have HRUN := Lib.hid (fun w => run_any s a 124 w ha hs)
  have hb : (w.alloc (.cells tok0 33)).heap[w.heap.size]? = some (.cells tok0 33 (0, 0)) := heap_alloc_new w _
  have HB1 := Lib.hid hb
  have HK1 := Lib.hid (show Keep (fun _ => False) w (w.alloc (.cells tok0 33)) from (Keep.refl _ _).alloc _)
  have HEX := Lib.hid hE
  have HTL := Lib.hid htl
  clear hT hb hE hw htl hne
  go_enter Tryd.func30, Tryd.ntmps30
  go_wp2_with fail
  refine (HRUN.out _).mono ?_
  rintro e w1 ⟨rfl, rfl⟩
  rw [passB_124, ← HEX.out]
  try dsimp only
  go_wp2_with fail
  refine (number_any (s.extract a E) _ (by rw [HTL.out]; exact HNE.out) HSZ.out).mono ?_
  rintro e w2 ⟨rfl, k2⟩
  rw [HTL.out, HPV.out]
  have HB2 := Lib.hid (k2.heap HB1.out (by simp))
  have HK2 := Lib.hid (HK1.out.trans k2)
  clear k2
  try dsimp only [Option.isSome]
  go_wp2_with fail
  refine (HTXT.out w2 (HT.out.keep HK2.out)).mono ?_
  intro e w3 hres
  rw [HTL.out, HD.out] at hres
  obtain ⟨v, rfl, he, k3⟩ := hres
  have HB3 := Lib.hid (k3.heap HB2.out (by simp))
  obtain ⟨⟨c0, c1, c2, c3, c4, c5, c6, c7, c8, c9⟩, f0, f1, f2, f3, f4, f5, f6, f7, f8, f9⟩ := tok_cells HB3.out
  have HE := Lib.hid (tok_err_end (HK2.out.trans k3) (Nat.le_refl _) HB3.out he (.int .i64 0) (.int .i64 0) (.int .i64 0) (.bool false) (.int .i64 0) (.int .i32 0) (.bool false) (.slice none 0 0) (.string ⟨#[]⟩) (.slice none 0 0))
  have HR := Lib.hid (tok_cells (setTok_row HB3.out (.int .i64 0) (.int .i64 0) (.int .i64 0) (.bool false) (.int .i64 0) (.int .i32 0) (.bool false) (.slice none 0 0) (.string ⟨#[]⟩) (.slice none 0 0))).1
  clear he k3
  try dsimp only
  go_wp2_with fail
  refine bodyPost_ret (v := .tuple #[.agg tok0, v]) ?_ rfl ⟨v, rfl, HE.out⟩
  obtain ⟨e0, e1, e2, e3, e4, e5, e6, e7, e8, e9⟩ := HR.out
  simp [results, Tryd.results30, go_sem, e0, e1, e2, e3, e4, e5, e6, e7, e8, e9]
theorem word_any (s : ByteArray) (a : Nat) (w : World) (hT : Tabs w) (ha : a ≤ s.size) (hs : s.size ≤ 1000000) (hne : (s.data.toList.drop a).takeWhile wordB ≠ []) :
    Calls Tryd.prog 30 #[.string s, .int .i64 (a : Int)] w (TkPost (wordR ((s.data.toList.drop a).takeWhile wordB)) a w) := by
  have hw := word_start s a w ha
  obtain ⟨W, hW⟩ : ∃ W, W = (s.data.toList.drop a).takeWhile wordB := ⟨_, rfl⟩
  rw [← hW] at hw hne ⊢
  obtain ⟨E, hE⟩ : ∃ E, E = scan wordB s.data.toList a := ⟨_, rfl⟩
  rw [← hE] at hw
  obtain ⟨t, ht⟩ : ∃ t, t = s.extract a E := ⟨_, rfl⟩
  rw [← ht] at hw
  have hgd : W.head? = some 35 ↔ W.getD 0 0 = 35 := by
    cases W with
    | nil => exact absurd rfl hne
    | cons c u => simp
  unfold wordR wordV
  by_cases h0 : W = [46]
  · rw [if_pos h0]; exact word_dot s a w W E t hT ha hs hne hE ht hw h0
  rw [if_neg h0]
  by_cases h1 : W = [35, 116]
  · rw [if_pos (.inl h1)]; exact word_t1 s a w W E t hT ha hs hne hE ht hw h0 h1
  by_cases h2 : W = [35, 116, 114, 117, 101]
  · rw [if_pos (.inr h2)]; exact word_t2 s a w W E t hT ha hs hne hE ht hw h0 h1 h2
  rw [if_neg (by rintro (h | h); exact h1 h; exact h2 h)]
  by_cases h3 : W = [35, 102]
  · rw [if_pos (.inl h3)]; exact word_f1 s a w W E t hT ha hs hne hE ht hw h0 h1 h2 h3
  by_cases h4 : W = [35, 102, 97, 108, 115, 101]
  · rw [if_pos (.inr h4)]; exact word_f2 s a w W E t hT ha hs hne hE ht hw h0 h1 h2 h3 h4
  rw [if_neg (by rintro (h | h); exact h3 h; exact h4 h)]
  by_cases h5 : W.head? = some 35
  · rw [if_pos h5]; exact word_sharp s a w W E t hT ha hs hne hE ht hw h0 h1 h2 h3 h4 (hgd.1 h5)
  rw [if_neg h5]
  have h6 : ¬ W.getD 0 0 = 35 := fun h => h5 (hgd.2 h)
  cases hp : parseV W with
  | some x =>
    dsimp only
    by_cases hf : (limbs x.natAbs).length ≤ 48
    · rw [if_pos hf]; exact word_int s a w W E t hT ha hs hne hE ht hw h0 h1 h2 h3 h4 h6 x hp hf
    · rw [if_neg hf]; exact word_big s a w W E t hT ha hs hne hE ht hw h0 h1 h2 h3 h4 h6 x hp hf
  | none =>
    dsimp only
    cases hd : textL true W with
    | ok d => exact word_sym s a w W E t hT ha hs hne hE ht hw h0 h1 h2 h3 h4 h6 hp d hd
    | error q => exact word_no s a w W E t hT ha hs hne hE ht hw h0 h1 h2 h3 h4 h6 hp q hd
open Go.RowKit Go.Lib
/-- A char's token. -/
def charR (t : List UInt8) : Except (Nat × Nat) Tk :=
  match charL t with
  | .ok (v, n) => .ok ⟨9, 2 + n, false, .chr v⟩
  | .error e => .error (0, e)
theorem decodeGo_L (s : ByteArray) (h : s.data.toList ≠ []) : Lib.decodeGo s = decodeL s.data.toList := by
  unfold Lib.decodeGo
  have hz : s.data.toList.length = s.size := (Lib.size_eq s).symm
  rw [if_neg (by rw [← hz]; exact fun e => h (List.eq_nil_of_length_eq_zero e))]
  have := decodeL_drop s 0
  rw [List.drop_zero] at this
  exact this.symm
theorem ext_end (s : ByteArray) (k : Nat) : (s.extract k s.size).data.toList = s.data.toList.drop k := by
  have hz : s.data.toList.length = s.size := (Lib.size_eq s).symm
  rw [Lib.extract_data, List.take_of_length_le (by rw [List.length_drop]; omega)]
set_option maxRecDepth 100000 in
set_option maxHeartbeats 4000000 in
theorem char_end (s : ByteArray) (a : Nat) (w : World) (hT : Tabs w) (ha : a + 2 ≤ s.size) (hs : s.size ≤ 1000000) (h : a + 2 = s.size) :
    Calls Tryd.prog 29 #[.string s, .int .i64 (a : Int)] w (TkPost (.error (0, 11)) a w) := by
  have HT := Lib.hid hT
  have e0 : ((a : Int) + 2 == (s.size : Int)) = true := by simp; omega
  clear h
  have hb : (w.alloc (.cells tok0 33)).heap[w.heap.size]? = some (.cells tok0 33 (0, 0)) := heap_alloc_new w _
  have HB1 := Lib.hid hb
  have HK1 := Lib.hid (show Keep (fun _ => False) w (w.alloc (.cells tok0 33)) from (Keep.refl _ _).alloc _)
  clear hT hb
  go_enter Tryd.func29, Tryd.ntmps29
  go_wp2_with fail
  refine (wrong_any _ _ _ _).mono ?_
  rintro e w7 ⟨v, rfl, he, k7⟩
  have HB7 := Lib.hid (k7.heap HB1.out (by simp))
  obtain ⟨⟨c0, c1, c2, c3, c4, c5, c6, c7, c8, c9⟩, f0, f1, f2, f3, f4, f5, f6, f7, f8, f9⟩ := tok_cells HB7.out
  have HE := Lib.hid (tok_err_end (HK1.out.trans k7) (Nat.le_refl _) HB7.out he (.int .i64 0) (.int .i64 0) (.int .i64 0) (.bool false) (.int .i64 0) (.int .i32 0) (.bool false) (.slice none 0 0) (.string ⟨#[]⟩) (.slice none 0 0))
  have HR := Lib.hid (tok_cells (setTok_row HB7.out (.int .i64 0) (.int .i64 0) (.int .i64 0) (.bool false) (.int .i64 0) (.int .i32 0) (.bool false) (.slice none 0 0) (.string ⟨#[]⟩) (.slice none 0 0))).1
  clear he k7
  try dsimp only
  go_wp2_with fail
  refine bodyPost_ret (v := .tuple #[.agg tok0, v]) ?_ rfl ⟨v, rfl, HE.out⟩
  obtain ⟨e0, e1, e2, e3, e4, e5, e6, e7, e8, e9⟩ := HR.out
  simp [results, Tryd.results29, go_sem, e0, e1, e2, e3, e4, e5, e6, e7, e8, e9]
set_option maxRecDepth 100000 in
set_option maxHeartbeats 4000000 in
theorem char_bad (s : ByteArray) (a : Nat) (w : World) (hT : Tabs w) (_ha : a + 2 ≤ s.size) (hs : s.size ≤ 1000000) (hlt : a + 2 < s.size) (c n : Nat) (hcn : decodeL (s.data.toList.drop (a + 2)) = (c, n)) (hb : c = 65533 ∧ n = 1) :
    Calls Tryd.prog 29 #[.string s, .int .i64 (a : Int)] w (TkPost (.error (0, 9)) a w) := by
  have HT := Lib.hid hT
  have e0 : ((a : Int) + 2 == (s.size : Int)) = false := by simp; omega
  have hz : s.data.toList.length = s.size := (Lib.size_eq s).symm
  have hx : (s.extract (a + 2) s.size).data.toList = s.data.toList.drop (a + 2) := ext_end s (a + 2)
  have hne : s.data.toList.drop (a + 2) ≠ [] := by rw [drop_cons (by omega)]; simp
  have hdg : Lib.decodeGo (s.extract (a + 2) s.size) = (c, n) := by rw [decodeGo_L _ (by rw [hx]; exact hne), hx, hcn]
  have hw := decodeL_wd hne
  rw [hcn, List.length_drop, hz] at hw
  have hn1 : 1 ≤ n := hw.1
  have hn2 : a + 2 + n ≤ s.size := by have := hw.2; simp only at this; omega
  have HDG := Lib.hid hdg
  have HCN := Lib.hid hcn
  clear hdg hcn hx hne hw hlt
  obtain ⟨rfl, rfl⟩ := hb
  have hb : (w.alloc (.cells tok0 33)).heap[w.heap.size]? = some (.cells tok0 33 (0, 0)) := heap_alloc_new w _
  have HB1 := Lib.hid hb
  have HK1 := Lib.hid (show Keep (fun _ => False) w (w.alloc (.cells tok0 33)) from (Keep.refl _ _).alloc _)
  clear hT hb
  go_enter Tryd.func29, Tryd.ntmps29
  go_wp2_with fail
  refine (Tryd.utf8_DecodeRuneInString _ _ (HT.out.keep HK1.out).u8).mono ?_
  rintro e w2 ⟨rfl, hbel⟩
  rw [HDG.out]
  have k2 := Keep.of_below hbel
  have HB2 := Lib.hid (k2.heap HB1.out (by simp))
  have HK2 := Lib.hid (HK1.out.trans k2)
  clear hbel k2
  try dsimp only
  go_wp2_with fail
  refine (wrong_any _ _ _ _).mono ?_
  rintro e w7 ⟨v, rfl, he, k7⟩
  have HB7 := Lib.hid (k7.heap HB2.out (by simp))
  obtain ⟨⟨c0, c1, c2, c3, c4, c5, c6, c7, c8, c9⟩, f0, f1, f2, f3, f4, f5, f6, f7, f8, f9⟩ := tok_cells HB7.out
  have HE := Lib.hid (tok_err_end (HK2.out.trans k7) (Nat.le_refl _) HB7.out he (.int .i64 0) (.int .i64 0) (.int .i64 0) (.bool false) (.int .i64 0) (.int .i32 0) (.bool false) (.slice none 0 0) (.string ⟨#[]⟩) (.slice none 0 0))
  have HR := Lib.hid (tok_cells (setTok_row HB7.out (.int .i64 0) (.int .i64 0) (.int .i64 0) (.bool false) (.int .i64 0) (.int .i32 0) (.bool false) (.slice none 0 0) (.string ⟨#[]⟩) (.slice none 0 0))).1
  clear he k7
  try dsimp only
  go_wp2_with fail
  refine bodyPost_ret (v := .tuple #[.agg tok0, v]) ?_ rfl ⟨v, rfl, HE.out⟩
  obtain ⟨e0, e1, e2, e3, e4, e5, e6, e7, e8, e9⟩ := HR.out
  simp [results, Tryd.results29, go_sem, e0, e1, e2, e3, e4, e5, e6, e7, e8, e9]
set_option maxRecDepth 100000 in
set_option maxHeartbeats 4000000 in
theorem char_one (s : ByteArray) (a : Nat) (w : World) (hT : Tabs w) (ha : a + 2 ≤ s.size) (hs : s.size ≤ 1000000) (hlt : a + 2 < s.size) (c n : Nat) (hcn : decodeL (s.data.toList.drop (a + 2)) = (c, n)) (hb : ¬ (c = 65533 ∧ n = 1)) (m : Nat) (hm : m = ((s.data.toList.drop (a + 2 + n)).takeWhile (fun b => !delimB b)).length) (E : Nat) (hE : E = a + 2 + n + m) (hm0 : m = 0) :
    Calls Tryd.prog 29 #[.string s, .int .i64 (a : Int)] w (TkPost (.ok ⟨9, 2 + (n + m), false, .chr c⟩) a w) := by
  have HT := Lib.hid hT
  have e0 : ((a : Int) + 2 == (s.size : Int)) = false := by simp; omega
  have hz : s.data.toList.length = s.size := (Lib.size_eq s).symm
  have hx : (s.extract (a + 2) s.size).data.toList = s.data.toList.drop (a + 2) := ext_end s (a + 2)
  have hne : s.data.toList.drop (a + 2) ≠ [] := by rw [drop_cons (by omega)]; simp
  have hdg : Lib.decodeGo (s.extract (a + 2) s.size) = (c, n) := by rw [decodeGo_L _ (by rw [hx]; exact hne), hx, hcn]
  have hw := decodeL_wd hne
  rw [hcn, List.length_drop, hz] at hw
  have hn1 : 1 ≤ n := hw.1
  have hn2 : a + 2 + n ≤ s.size := by have := hw.2; simp only at this; omega
  have HDG := Lib.hid hdg
  have HCN := Lib.hid hcn
  clear hdg hcn hx hne hw hlt
  have hsc : scan (passB 0) s.data.toList (a + 2 + n) = E := by rw [passB_0]; unfold scan; rw [← hm, hE]
  have hE2 : E ≤ s.size := by rw [← hsc, ← hz]; exact scan_le _ (by omega)
  have hE1 : a + 2 + n ≤ E := by omega
  have htail : (s.extract (a + 2 + n) E).data.toList = (s.data.toList.drop (a + 2 + n)).take m := by rw [Lib.extract_data, hE, show a + 2 + n + m - (a + 2 + n) = m by omega]
  have hword : (s.extract (a + 2) E).data.toList = (s.data.toList.drop (a + 2)).take (n + m) := by rw [Lib.extract_data, hE, show a + 2 + n + m - (a + 2) = n + m by omega]
  have htl : ((s.data.toList.drop (a + 2 + n)).take m).length = m := by
    rw [List.length_take]
    have := (List.takeWhile_sublist (fun b => !delimB b) (l := s.data.toList.drop (a + 2 + n))).length_le
    omega
  have HTAIL := Lib.hid htail
  have HWORD := Lib.hid hword
  have HEM := Lib.hid hE
  have HTL := Lib.hid htl
  have HSC := Lib.hid (fun w => run_any s (a + 2 + n) 0 w hn2 hs)
  have HSE := Lib.hid hsc
  have hq : (((c : Int) == 65533) = false) ∨ ((((c : Int) == 65533) = true) ∧ decide ((n : Int) < 2) = false) := by
    by_cases h : c = 65533
    · exact .inr ⟨by simp [h], decide_eq_false (by have : n ≠ 1 := fun e => hb ⟨h, e⟩; omega)⟩
    · exact .inl (by simp; omega)
  clear hsc htail hword hE htl hb hz hm
  have hemp : (s.extract (a + 2 + n) E).toList.isEmpty = true := by
    rw [Lib.toList_data, HTAIL.out]
    have := HTL.out
    generalize (s.data.toList.drop (a + 2 + n)).take m = q at this
    cases q with
    | nil => rfl
    | cons => simp only [List.length_cons] at this; omega
  have HEA := Lib.hid (show E = a + (2 + (n + m)) by have := HEM.out; omega)
  clear hm0
  have hb : (w.alloc (.cells tok0 33)).heap[w.heap.size]? = some (.cells tok0 33 (0, 0)) := heap_alloc_new w _
  have HB1 := Lib.hid hb
  have HK1 := Lib.hid (show Keep (fun _ => False) w (w.alloc (.cells tok0 33)) from (Keep.refl _ _).alloc _)
  clear hT hb
  rcases hq with hq | ⟨hq, hq2⟩
  all_goals
    go_enter Tryd.func29, Tryd.ntmps29
    go_wp2_with fail
    refine (Tryd.utf8_DecodeRuneInString _ _ (HT.out.keep HK1.out).u8).mono ?_
    rintro e w2 ⟨rfl, hbel⟩
    rw [HDG.out]
    have k2 := Keep.of_below hbel
    have HB2 := Lib.hid (k2.heap HB1.out (by simp))
    have HK2 := Lib.hid (HK1.out.trans k2)
    clear hbel k2
    try dsimp only
    go_wp2_with fail
    rw [show ((a : Int) + 2 + (n : Int)) = ((a + 2 + n : Nat) : Int) from rfl]
    refine (HSC.out _).mono ?_
    rintro e wx ⟨rfl, rfl⟩
    rw [HSE.out]
    try dsimp only
    go_wp2_with fail
    refine (atom_any 3 (c : Int) false none 0 0 ⟨#[]⟩ a E _).mono ?_
    rintro e w6 ⟨rfl, k6⟩
    have HB6 := Lib.hid (k6.heap HB2.out (by simp))
    have HK6 := Lib.hid (HK2.out.trans k6)
    clear k6
    obtain ⟨⟨c0, c1, c2, c3, c4, c5, c6, c7, c8, c9⟩, f0, f1, f2, f3, f4, f5, f6, f7, f8, f9⟩ := tok_cells HB6.out
    have HE := Lib.hid (setTok_keep HK6.out (Nat.le_refl _) (.int .i64 9) (.int .i64 (a : Int)) (.int .i64 (E : Int)) (.bool false) (.int .i64 3) (.int .i32 (c : Int)) (.bool false) (.slice none 0 0) (.string ⟨#[]⟩) (.slice none 0 0))
    have HR := Lib.hid (tok_cells (setTok_row HB6.out (.int .i64 9) (.int .i64 (a : Int)) (.int .i64 (E : Int)) (.bool false) (.int .i64 3) (.int .i32 (c : Int)) (.bool false) (.slice none 0 0) (.string ⟨#[]⟩) (.slice none 0 0))).1
    try dsimp only
    go_wp2_with fail
    refine bodyPost_ret (v := .tuple #[tokV 9 (a : Int) (E : Int) false 3 (c : Int) false none 0 0 ⟨#[]⟩, .nilIface]) ?_ rfl ?_
    · obtain ⟨e0, e1, e2, e3, e4, e5, e6, e7, e8, e9⟩ := HR.out
      simp [results, Tryd.results29, go_sem, e0, e1, e2, e3, e4, e5, e6, e7, e8, e9]
    · exact ⟨3, _, false, none, 0, 0, ⟨#[]⟩, by rw [HEA.out]; rfl, ⟨rfl, rfl, rfl, rfl, rfl, rfl, rfl⟩, HE.out⟩
set_option maxRecDepth 100000 in
set_option maxHeartbeats 4000000 in
theorem char_name (s : ByteArray) (a : Nat) (w : World) (hT : Tabs w) (ha : a + 2 ≤ s.size) (hs : s.size ≤ 1000000) (hlt : a + 2 < s.size) (c n : Nat) (hcn : decodeL (s.data.toList.drop (a + 2)) = (c, n)) (hb : ¬ (c = 65533 ∧ n = 1)) (m : Nat) (hm : m = ((s.data.toList.drop (a + 2 + n)).takeWhile (fun b => !delimB b)).length) (E : Nat) (hE : E = a + 2 + n + m) (hm0 : ¬ m = 0) (v : Nat) (hnm : namedL ((s.data.toList.drop (a + 2)).take (n + m)) = some v) :
    Calls Tryd.prog 29 #[.string s, .int .i64 (a : Int)] w (TkPost (.ok ⟨9, 2 + (n + m), false, .chr v⟩) a w) := by
  have HT := Lib.hid hT
  have e0 : ((a : Int) + 2 == (s.size : Int)) = false := by simp; omega
  have hz : s.data.toList.length = s.size := (Lib.size_eq s).symm
  have hx : (s.extract (a + 2) s.size).data.toList = s.data.toList.drop (a + 2) := ext_end s (a + 2)
  have hne : s.data.toList.drop (a + 2) ≠ [] := by rw [drop_cons (by omega)]; simp
  have hdg : Lib.decodeGo (s.extract (a + 2) s.size) = (c, n) := by rw [decodeGo_L _ (by rw [hx]; exact hne), hx, hcn]
  have hw := decodeL_wd hne
  rw [hcn, List.length_drop, hz] at hw
  have hn1 : 1 ≤ n := hw.1
  have hn2 : a + 2 + n ≤ s.size := by have := hw.2; simp only at this; omega
  have HDG := Lib.hid hdg
  have HCN := Lib.hid hcn
  clear hdg hcn hx hne hw hlt
  have hsc : scan (passB 0) s.data.toList (a + 2 + n) = E := by rw [passB_0]; unfold scan; rw [← hm, hE]
  have hE2 : E ≤ s.size := by rw [← hsc, ← hz]; exact scan_le _ (by omega)
  have hE1 : a + 2 + n ≤ E := by omega
  have htail : (s.extract (a + 2 + n) E).data.toList = (s.data.toList.drop (a + 2 + n)).take m := by rw [Lib.extract_data, hE, show a + 2 + n + m - (a + 2 + n) = m by omega]
  have hword : (s.extract (a + 2) E).data.toList = (s.data.toList.drop (a + 2)).take (n + m) := by rw [Lib.extract_data, hE, show a + 2 + n + m - (a + 2) = n + m by omega]
  have htl : ((s.data.toList.drop (a + 2 + n)).take m).length = m := by
    rw [List.length_take]
    have := (List.takeWhile_sublist (fun b => !delimB b) (l := s.data.toList.drop (a + 2 + n))).length_le
    omega
  have HTAIL := Lib.hid htail
  have HWORD := Lib.hid hword
  have HEM := Lib.hid hE
  have HTL := Lib.hid htl
  have HSC := Lib.hid (fun w => run_any s (a + 2 + n) 0 w hn2 hs)
  have HSE := Lib.hid hsc
  have hq : (((c : Int) == 65533) = false) ∨ ((((c : Int) == 65533) = true) ∧ decide ((n : Int) < 2) = false) := by
    by_cases h : c = 65533
    · exact .inr ⟨by simp [h], decide_eq_false (by have : n ≠ 1 := fun e => hb ⟨h, e⟩; omega)⟩
    · exact .inl (by simp; omega)
  clear hsc htail hword hE htl hb hz hm
  have hemp : (s.extract (a + 2 + n) E).toList.isEmpty = false := by
    rw [Lib.toList_data, HTAIL.out]
    have := HTL.out
    generalize (s.data.toList.drop (a + 2 + n)).take m = q at this
    cases q with
    | nil => simp only [List.length_nil] at this; omega
    | cons => rfl
  have HEA := Lib.hid (show E = a + (2 + (n + m)) by have := HEM.out; omega)
  have HNM := Lib.hid hnm
  clear hnm hm0
  have hb : (w.alloc (.cells tok0 33)).heap[w.heap.size]? = some (.cells tok0 33 (0, 0)) := heap_alloc_new w _
  have HB1 := Lib.hid hb
  have HK1 := Lib.hid (show Keep (fun _ => False) w (w.alloc (.cells tok0 33)) from (Keep.refl _ _).alloc _)
  clear hT hb
  rcases hq with hq | ⟨hq, hq2⟩
  all_goals
    go_enter Tryd.func29, Tryd.ntmps29
    go_wp2_with fail
    refine (Tryd.utf8_DecodeRuneInString _ _ (HT.out.keep HK1.out).u8).mono ?_
    rintro e w2 ⟨rfl, hbel⟩
    rw [HDG.out]
    have k2 := Keep.of_below hbel
    have HB2 := Lib.hid (k2.heap HB1.out (by simp))
    have HK2 := Lib.hid (HK1.out.trans k2)
    clear hbel k2
    try dsimp only
    go_wp2_with fail
    rw [show ((a : Int) + 2 + (n : Int)) = ((a + 2 + n : Nat) : Int) from rfl]
    refine (HSC.out _).mono ?_
    rintro e wx ⟨rfl, rfl⟩
    rw [HSE.out]
    try dsimp only
    go_wp2_with fail
    refine (named_any _ _).mono ?_
    rintro e wy ⟨rfl, rfl⟩
    rw [HWORD.out, HNM.out]
    try dsimp only [Option.getD, Option.isSome]
    go_wp2_with fail
    refine (atom_any 3 (v : Int) false none 0 0 ⟨#[]⟩ a E _).mono ?_
    rintro e w6 ⟨rfl, k6⟩
    have HB6 := Lib.hid (k6.heap HB2.out (by simp))
    have HK6 := Lib.hid (HK2.out.trans k6)
    clear k6
    obtain ⟨⟨c0, c1, c2, c3, c4, c5, c6, c7, c8, c9⟩, f0, f1, f2, f3, f4, f5, f6, f7, f8, f9⟩ := tok_cells HB6.out
    have HE := Lib.hid (setTok_keep HK6.out (Nat.le_refl _) (.int .i64 9) (.int .i64 (a : Int)) (.int .i64 (E : Int)) (.bool false) (.int .i64 3) (.int .i32 (v : Int)) (.bool false) (.slice none 0 0) (.string ⟨#[]⟩) (.slice none 0 0))
    have HR := Lib.hid (tok_cells (setTok_row HB6.out (.int .i64 9) (.int .i64 (a : Int)) (.int .i64 (E : Int)) (.bool false) (.int .i64 3) (.int .i32 (v : Int)) (.bool false) (.slice none 0 0) (.string ⟨#[]⟩) (.slice none 0 0))).1
    try dsimp only
    go_wp2_with fail
    refine bodyPost_ret (v := .tuple #[tokV 9 (a : Int) (E : Int) false 3 (v : Int) false none 0 0 ⟨#[]⟩, .nilIface]) ?_ rfl ?_
    · obtain ⟨e0, e1, e2, e3, e4, e5, e6, e7, e8, e9⟩ := HR.out
      simp [results, Tryd.results29, go_sem, e0, e1, e2, e3, e4, e5, e6, e7, e8, e9]
    · exact ⟨3, _, false, none, 0, 0, ⟨#[]⟩, by rw [HEA.out]; rfl, ⟨rfl, rfl, rfl, rfl, rfl, rfl, rfl⟩, HE.out⟩
set_option maxRecDepth 100000 in
set_option maxHeartbeats 4000000 in
theorem char_hex (s : ByteArray) (a : Nat) (w : World) (hT : Tabs w) (ha : a + 2 ≤ s.size) (hs : s.size ≤ 1000000) (hlt : a + 2 < s.size) (c n : Nat) (hcn : decodeL (s.data.toList.drop (a + 2)) = (c, n)) (hb : ¬ (c = 65533 ∧ n = 1)) (m : Nat) (hm : m = ((s.data.toList.drop (a + 2 + n)).takeWhile (fun b => !delimB b)).length) (E : Nat) (hE : E = a + 2 + n + m) (hm0 : ¬ m = 0) (hnm : namedL ((s.data.toList.drop (a + 2)).take (n + m)) = none) (hc : c = 120) (r : Nat) (hhx : hexC ((s.data.toList.drop (a + 2 + n)).take m) = some r) :
    Calls Tryd.prog 29 #[.string s, .int .i64 (a : Int)] w (TkPost (.ok ⟨9, 2 + (n + m), false, .chr r⟩) a w) := by
  have HT := Lib.hid hT
  have e0 : ((a : Int) + 2 == (s.size : Int)) = false := by simp; omega
  have hz : s.data.toList.length = s.size := (Lib.size_eq s).symm
  have hx : (s.extract (a + 2) s.size).data.toList = s.data.toList.drop (a + 2) := ext_end s (a + 2)
  have hne : s.data.toList.drop (a + 2) ≠ [] := by rw [drop_cons (by omega)]; simp
  have hdg : Lib.decodeGo (s.extract (a + 2) s.size) = (c, n) := by rw [decodeGo_L _ (by rw [hx]; exact hne), hx, hcn]
  have hw := decodeL_wd hne
  rw [hcn, List.length_drop, hz] at hw
  have hn1 : 1 ≤ n := hw.1
  have hn2 : a + 2 + n ≤ s.size := by have := hw.2; simp only at this; omega
  have HDG := Lib.hid hdg
  have HCN := Lib.hid hcn
  clear hdg hcn hx hne hw hlt
  have hsc : scan (passB 0) s.data.toList (a + 2 + n) = E := by rw [passB_0]; unfold scan; rw [← hm, hE]
  have hE2 : E ≤ s.size := by rw [← hsc, ← hz]; exact scan_le _ (by omega)
  have hE1 : a + 2 + n ≤ E := by omega
  have htail : (s.extract (a + 2 + n) E).data.toList = (s.data.toList.drop (a + 2 + n)).take m := by rw [Lib.extract_data, hE, show a + 2 + n + m - (a + 2 + n) = m by omega]
  have hword : (s.extract (a + 2) E).data.toList = (s.data.toList.drop (a + 2)).take (n + m) := by rw [Lib.extract_data, hE, show a + 2 + n + m - (a + 2) = n + m by omega]
  have htl : ((s.data.toList.drop (a + 2 + n)).take m).length = m := by
    rw [List.length_take]
    have := (List.takeWhile_sublist (fun b => !delimB b) (l := s.data.toList.drop (a + 2 + n))).length_le
    omega
  have HTAIL := Lib.hid htail
  have HWORD := Lib.hid hword
  have HEM := Lib.hid hE
  have HTL := Lib.hid htl
  have HSC := Lib.hid (fun w => run_any s (a + 2 + n) 0 w hn2 hs)
  have HSE := Lib.hid hsc
  have hq : (((c : Int) == 65533) = false) ∨ ((((c : Int) == 65533) = true) ∧ decide ((n : Int) < 2) = false) := by
    by_cases h : c = 65533
    · exact .inr ⟨by simp [h], decide_eq_false (by have : n ≠ 1 := fun e => hb ⟨h, e⟩; omega)⟩
    · exact .inl (by simp; omega)
  clear hsc htail hword hE htl hb hz hm
  have hemp : (s.extract (a + 2 + n) E).toList.isEmpty = false := by
    rw [Lib.toList_data, HTAIL.out]
    have := HTL.out
    generalize (s.data.toList.drop (a + 2 + n)).take m = q at this
    cases q with
    | nil => simp only [List.length_nil] at this; omega
    | cons => rfl
  have HEA := Lib.hid (show E = a + (2 + (n + m)) by have := HEM.out; omega)
  have HNM := Lib.hid hnm
  clear hnm hm0
  have HTZ := Lib.hid (show (s.extract (a + 2 + n) E).size ≤ 1000000 by rw [Lib.size_eq, HTAIL.out, HTL.out]; have := HEM.out; omega)
  have HHX := Lib.hid hhx
  have e120 : ((c : Int) == 120) = true := by simp; omega
  clear hhx hc
  have hb : (w.alloc (.cells tok0 33)).heap[w.heap.size]? = some (.cells tok0 33 (0, 0)) := heap_alloc_new w _
  have HB1 := Lib.hid hb
  have HK1 := Lib.hid (show Keep (fun _ => False) w (w.alloc (.cells tok0 33)) from (Keep.refl _ _).alloc _)
  clear hT hb
  rcases hq with hq | ⟨hq, hq2⟩
  all_goals
    go_enter Tryd.func29, Tryd.ntmps29
    go_wp2_with fail
    refine (Tryd.utf8_DecodeRuneInString _ _ (HT.out.keep HK1.out).u8).mono ?_
    rintro e w2 ⟨rfl, hbel⟩
    rw [HDG.out]
    have k2 := Keep.of_below hbel
    have HB2 := Lib.hid (k2.heap HB1.out (by simp))
    have HK2 := Lib.hid (HK1.out.trans k2)
    clear hbel k2
    try dsimp only
    go_wp2_with fail
    rw [show ((a : Int) + 2 + (n : Int)) = ((a + 2 + n : Nat) : Int) from rfl]
    refine (HSC.out _).mono ?_
    rintro e wx ⟨rfl, rfl⟩
    rw [HSE.out]
    try dsimp only
    go_wp2_with fail
    refine (named_any _ _).mono ?_
    rintro e wy ⟨rfl, rfl⟩
    rw [HWORD.out, HNM.out]
    try dsimp only [Option.getD, Option.isSome]
    go_wp2_with fail
    refine (digits_any _ _ HTZ.out).mono ?_
    rintro e w3 ⟨r0, hr0, rfl, hr, k3⟩
    rw [HTAIL.out, HHX.out] at hr
    rw [HTAIL.out, HHX.out]
    have HB3 := Lib.hid (k3.heap HB2.out (by simp))
    have HK3 := Lib.hid (HK2.out.trans k3)
    clear k3
    obtain rfl := hr r rfl
    clear hr hr0
    try dsimp only [Option.isSome]
    go_wp2_with fail
    refine (atom_any 3 (r : Int) false none 0 0 ⟨#[]⟩ a E _).mono ?_
    rintro e w6 ⟨rfl, k6⟩
    have HB6 := Lib.hid (k6.heap HB3.out (by simp))
    have HK6 := Lib.hid (HK3.out.trans k6)
    clear k6
    obtain ⟨⟨c0, c1, c2, c3, c4, c5, c6, c7, c8, c9⟩, f0, f1, f2, f3, f4, f5, f6, f7, f8, f9⟩ := tok_cells HB6.out
    have HE := Lib.hid (setTok_keep HK6.out (Nat.le_refl _) (.int .i64 9) (.int .i64 (a : Int)) (.int .i64 (E : Int)) (.bool false) (.int .i64 3) (.int .i32 (r : Int)) (.bool false) (.slice none 0 0) (.string ⟨#[]⟩) (.slice none 0 0))
    have HR := Lib.hid (tok_cells (setTok_row HB6.out (.int .i64 9) (.int .i64 (a : Int)) (.int .i64 (E : Int)) (.bool false) (.int .i64 3) (.int .i32 (r : Int)) (.bool false) (.slice none 0 0) (.string ⟨#[]⟩) (.slice none 0 0))).1
    try dsimp only
    go_wp2_with fail
    refine bodyPost_ret (v := .tuple #[tokV 9 (a : Int) (E : Int) false 3 (r : Int) false none 0 0 ⟨#[]⟩, .nilIface]) ?_ rfl ?_
    · obtain ⟨e0, e1, e2, e3, e4, e5, e6, e7, e8, e9⟩ := HR.out
      simp [results, Tryd.results29, go_sem, e0, e1, e2, e3, e4, e5, e6, e7, e8, e9]
    · exact ⟨3, _, false, none, 0, 0, ⟨#[]⟩, by rw [HEA.out]; rfl, ⟨rfl, rfl, rfl, rfl, rfl, rfl, rfl⟩, HE.out⟩
set_option maxRecDepth 100000 in
set_option maxHeartbeats 4000000 in
theorem char_hexno (s : ByteArray) (a : Nat) (w : World) (hT : Tabs w) (ha : a + 2 ≤ s.size) (hs : s.size ≤ 1000000) (hlt : a + 2 < s.size) (c n : Nat) (hcn : decodeL (s.data.toList.drop (a + 2)) = (c, n)) (hb : ¬ (c = 65533 ∧ n = 1)) (m : Nat) (hm : m = ((s.data.toList.drop (a + 2 + n)).takeWhile (fun b => !delimB b)).length) (E : Nat) (hE : E = a + 2 + n + m) (hm0 : ¬ m = 0) (hnm : namedL ((s.data.toList.drop (a + 2)).take (n + m)) = none) (hc : c = 120) (hhx : hexC ((s.data.toList.drop (a + 2 + n)).take m) = none) :
    Calls Tryd.prog 29 #[.string s, .int .i64 (a : Int)] w (TkPost (.error (0, 9)) a w) := by
  have HT := Lib.hid hT
  have e0 : ((a : Int) + 2 == (s.size : Int)) = false := by simp; omega
  have hz : s.data.toList.length = s.size := (Lib.size_eq s).symm
  have hx : (s.extract (a + 2) s.size).data.toList = s.data.toList.drop (a + 2) := ext_end s (a + 2)
  have hne : s.data.toList.drop (a + 2) ≠ [] := by rw [drop_cons (by omega)]; simp
  have hdg : Lib.decodeGo (s.extract (a + 2) s.size) = (c, n) := by rw [decodeGo_L _ (by rw [hx]; exact hne), hx, hcn]
  have hw := decodeL_wd hne
  rw [hcn, List.length_drop, hz] at hw
  have hn1 : 1 ≤ n := hw.1
  have hn2 : a + 2 + n ≤ s.size := by have := hw.2; simp only at this; omega
  have HDG := Lib.hid hdg
  have HCN := Lib.hid hcn
  clear hdg hcn hx hne hw hlt
  have hsc : scan (passB 0) s.data.toList (a + 2 + n) = E := by rw [passB_0]; unfold scan; rw [← hm, hE]
  have hE2 : E ≤ s.size := by rw [← hsc, ← hz]; exact scan_le _ (by omega)
  have hE1 : a + 2 + n ≤ E := by omega
  have htail : (s.extract (a + 2 + n) E).data.toList = (s.data.toList.drop (a + 2 + n)).take m := by rw [Lib.extract_data, hE, show a + 2 + n + m - (a + 2 + n) = m by omega]
  have hword : (s.extract (a + 2) E).data.toList = (s.data.toList.drop (a + 2)).take (n + m) := by rw [Lib.extract_data, hE, show a + 2 + n + m - (a + 2) = n + m by omega]
  have htl : ((s.data.toList.drop (a + 2 + n)).take m).length = m := by
    rw [List.length_take]
    have := (List.takeWhile_sublist (fun b => !delimB b) (l := s.data.toList.drop (a + 2 + n))).length_le
    omega
  have HTAIL := Lib.hid htail
  have HWORD := Lib.hid hword
  have HEM := Lib.hid hE
  have HTL := Lib.hid htl
  have HSC := Lib.hid (fun w => run_any s (a + 2 + n) 0 w hn2 hs)
  have HSE := Lib.hid hsc
  have hq : (((c : Int) == 65533) = false) ∨ ((((c : Int) == 65533) = true) ∧ decide ((n : Int) < 2) = false) := by
    by_cases h : c = 65533
    · exact .inr ⟨by simp [h], decide_eq_false (by have : n ≠ 1 := fun e => hb ⟨h, e⟩; omega)⟩
    · exact .inl (by simp; omega)
  clear hsc htail hword hE htl hb hz hm
  have hemp : (s.extract (a + 2 + n) E).toList.isEmpty = false := by
    rw [Lib.toList_data, HTAIL.out]
    have := HTL.out
    generalize (s.data.toList.drop (a + 2 + n)).take m = q at this
    cases q with
    | nil => simp only [List.length_nil] at this; omega
    | cons => rfl
  have HNM := Lib.hid hnm
  clear hnm hm0
  have HTZ := Lib.hid (show (s.extract (a + 2 + n) E).size ≤ 1000000 by rw [Lib.size_eq, HTAIL.out, HTL.out]; have := HEM.out; omega)
  have HHX := Lib.hid hhx
  have e120 : ((c : Int) == 120) = true := by simp; omega
  clear hhx hc
  have hb : (w.alloc (.cells tok0 33)).heap[w.heap.size]? = some (.cells tok0 33 (0, 0)) := heap_alloc_new w _
  have HB1 := Lib.hid hb
  have HK1 := Lib.hid (show Keep (fun _ => False) w (w.alloc (.cells tok0 33)) from (Keep.refl _ _).alloc _)
  clear hT hb
  rcases hq with hq | ⟨hq, hq2⟩
  all_goals
    go_enter Tryd.func29, Tryd.ntmps29
    go_wp2_with fail
    refine (Tryd.utf8_DecodeRuneInString _ _ (HT.out.keep HK1.out).u8).mono ?_
    rintro e w2 ⟨rfl, hbel⟩
    rw [HDG.out]
    have k2 := Keep.of_below hbel
    have HB2 := Lib.hid (k2.heap HB1.out (by simp))
    have HK2 := Lib.hid (HK1.out.trans k2)
    clear hbel k2
    try dsimp only
    go_wp2_with fail
    rw [show ((a : Int) + 2 + (n : Int)) = ((a + 2 + n : Nat) : Int) from rfl]
    refine (HSC.out _).mono ?_
    rintro e wx ⟨rfl, rfl⟩
    rw [HSE.out]
    try dsimp only
    go_wp2_with fail
    refine (named_any _ _).mono ?_
    rintro e wy ⟨rfl, rfl⟩
    rw [HWORD.out, HNM.out]
    try dsimp only [Option.getD, Option.isSome]
    go_wp2_with fail
    refine (digits_any _ _ HTZ.out).mono ?_
    rintro e w3 ⟨r0, hr0, rfl, hr, k3⟩
    rw [HTAIL.out, HHX.out] at hr
    rw [HTAIL.out, HHX.out]
    have HB3 := Lib.hid (k3.heap HB2.out (by simp))
    have HK3 := Lib.hid (HK2.out.trans k3)
    clear k3
    clear hr hr0
    try dsimp only [Option.isSome]
    go_wp2_with fail
    refine (wrong_any _ _ _ _).mono ?_
    rintro e w7 ⟨v, rfl, he, k7⟩
    have HB7 := Lib.hid (k7.heap HB3.out (by simp))
    obtain ⟨⟨c0, c1, c2, c3, c4, c5, c6, c7, c8, c9⟩, f0, f1, f2, f3, f4, f5, f6, f7, f8, f9⟩ := tok_cells HB7.out
    have HE := Lib.hid (tok_err_end (HK3.out.trans k7) (Nat.le_refl _) HB7.out he (.int .i64 0) (.int .i64 0) (.int .i64 0) (.bool false) (.int .i64 0) (.int .i32 0) (.bool false) (.slice none 0 0) (.string ⟨#[]⟩) (.slice none 0 0))
    have HR := Lib.hid (tok_cells (setTok_row HB7.out (.int .i64 0) (.int .i64 0) (.int .i64 0) (.bool false) (.int .i64 0) (.int .i32 0) (.bool false) (.slice none 0 0) (.string ⟨#[]⟩) (.slice none 0 0))).1
    clear he k7
    try dsimp only
    go_wp2_with fail
    refine bodyPost_ret (v := .tuple #[.agg tok0, v]) ?_ rfl ⟨v, rfl, HE.out⟩
    obtain ⟨e0, e1, e2, e3, e4, e5, e6, e7, e8, e9⟩ := HR.out
    simp [results, Tryd.results29, go_sem, e0, e1, e2, e3, e4, e5, e6, e7, e8, e9]
set_option maxRecDepth 100000 in
set_option maxHeartbeats 4000000 in
theorem char_no (s : ByteArray) (a : Nat) (w : World) (hT : Tabs w) (ha : a + 2 ≤ s.size) (hs : s.size ≤ 1000000) (hlt : a + 2 < s.size) (c n : Nat) (hcn : decodeL (s.data.toList.drop (a + 2)) = (c, n)) (hb : ¬ (c = 65533 ∧ n = 1)) (m : Nat) (hm : m = ((s.data.toList.drop (a + 2 + n)).takeWhile (fun b => !delimB b)).length) (E : Nat) (hE : E = a + 2 + n + m) (hm0 : ¬ m = 0) (hnm : namedL ((s.data.toList.drop (a + 2)).take (n + m)) = none) (hc : ¬ c = 120) :
    Calls Tryd.prog 29 #[.string s, .int .i64 (a : Int)] w (TkPost (.error (0, 9)) a w) := by
  have HT := Lib.hid hT
  have e0 : ((a : Int) + 2 == (s.size : Int)) = false := by simp; omega
  have hz : s.data.toList.length = s.size := (Lib.size_eq s).symm
  have hx : (s.extract (a + 2) s.size).data.toList = s.data.toList.drop (a + 2) := ext_end s (a + 2)
  have hne : s.data.toList.drop (a + 2) ≠ [] := by rw [drop_cons (by omega)]; simp
  have hdg : Lib.decodeGo (s.extract (a + 2) s.size) = (c, n) := by rw [decodeGo_L _ (by rw [hx]; exact hne), hx, hcn]
  have hw := decodeL_wd hne
  rw [hcn, List.length_drop, hz] at hw
  have hn1 : 1 ≤ n := hw.1
  have hn2 : a + 2 + n ≤ s.size := by have := hw.2; simp only at this; omega
  have HDG := Lib.hid hdg
  have HCN := Lib.hid hcn
  clear hdg hcn hx hne hw hlt
  have hsc : scan (passB 0) s.data.toList (a + 2 + n) = E := by rw [passB_0]; unfold scan; rw [← hm, hE]
  have hE2 : E ≤ s.size := by rw [← hsc, ← hz]; exact scan_le _ (by omega)
  have hE1 : a + 2 + n ≤ E := by omega
  have htail : (s.extract (a + 2 + n) E).data.toList = (s.data.toList.drop (a + 2 + n)).take m := by rw [Lib.extract_data, hE, show a + 2 + n + m - (a + 2 + n) = m by omega]
  have hword : (s.extract (a + 2) E).data.toList = (s.data.toList.drop (a + 2)).take (n + m) := by rw [Lib.extract_data, hE, show a + 2 + n + m - (a + 2) = n + m by omega]
  have htl : ((s.data.toList.drop (a + 2 + n)).take m).length = m := by
    rw [List.length_take]
    have := (List.takeWhile_sublist (fun b => !delimB b) (l := s.data.toList.drop (a + 2 + n))).length_le
    omega
  have HTAIL := Lib.hid htail
  have HWORD := Lib.hid hword
  have HEM := Lib.hid hE
  have HTL := Lib.hid htl
  have HSC := Lib.hid (fun w => run_any s (a + 2 + n) 0 w hn2 hs)
  have HSE := Lib.hid hsc
  have hq : (((c : Int) == 65533) = false) ∨ ((((c : Int) == 65533) = true) ∧ decide ((n : Int) < 2) = false) := by
    by_cases h : c = 65533
    · exact .inr ⟨by simp [h], decide_eq_false (by have : n ≠ 1 := fun e => hb ⟨h, e⟩; omega)⟩
    · exact .inl (by simp; omega)
  clear hsc htail hword hE htl hb hz hm
  have hemp : (s.extract (a + 2 + n) E).toList.isEmpty = false := by
    rw [Lib.toList_data, HTAIL.out]
    have := HTL.out
    generalize (s.data.toList.drop (a + 2 + n)).take m = q at this
    cases q with
    | nil => simp only [List.length_nil] at this; omega
    | cons => rfl
  have HNM := Lib.hid hnm
  clear hnm hm0
  have e120 : ((c : Int) == 120) = false := by simp; omega
  clear hc
  have hb : (w.alloc (.cells tok0 33)).heap[w.heap.size]? = some (.cells tok0 33 (0, 0)) := heap_alloc_new w _
  have HB1 := Lib.hid hb
  have HK1 := Lib.hid (show Keep (fun _ => False) w (w.alloc (.cells tok0 33)) from (Keep.refl _ _).alloc _)
  clear hT hb
  rcases hq with hq | ⟨hq, hq2⟩
  all_goals
    go_enter Tryd.func29, Tryd.ntmps29
    go_wp2_with fail
    refine (Tryd.utf8_DecodeRuneInString _ _ (HT.out.keep HK1.out).u8).mono ?_
    rintro e w2 ⟨rfl, hbel⟩
    rw [HDG.out]
    have k2 := Keep.of_below hbel
    have HB2 := Lib.hid (k2.heap HB1.out (by simp))
    have HK2 := Lib.hid (HK1.out.trans k2)
    clear hbel k2
    try dsimp only
    go_wp2_with fail
    rw [show ((a : Int) + 2 + (n : Int)) = ((a + 2 + n : Nat) : Int) from rfl]
    refine (HSC.out _).mono ?_
    rintro e wx ⟨rfl, rfl⟩
    rw [HSE.out]
    try dsimp only
    go_wp2_with fail
    refine (named_any _ _).mono ?_
    rintro e wy ⟨rfl, rfl⟩
    rw [HWORD.out, HNM.out]
    try dsimp only [Option.getD, Option.isSome]
    go_wp2_with fail
    refine (wrong_any _ _ _ _).mono ?_
    rintro e w7 ⟨v, rfl, he, k7⟩
    have HB7 := Lib.hid (k7.heap HB2.out (by simp))
    obtain ⟨⟨c0, c1, c2, c3, c4, c5, c6, c7, c8, c9⟩, f0, f1, f2, f3, f4, f5, f6, f7, f8, f9⟩ := tok_cells HB7.out
    have HE := Lib.hid (tok_err_end (HK2.out.trans k7) (Nat.le_refl _) HB7.out he (.int .i64 0) (.int .i64 0) (.int .i64 0) (.bool false) (.int .i64 0) (.int .i32 0) (.bool false) (.slice none 0 0) (.string ⟨#[]⟩) (.slice none 0 0))
    have HR := Lib.hid (tok_cells (setTok_row HB7.out (.int .i64 0) (.int .i64 0) (.int .i64 0) (.bool false) (.int .i64 0) (.int .i32 0) (.bool false) (.slice none 0 0) (.string ⟨#[]⟩) (.slice none 0 0))).1
    clear he k7
    try dsimp only
    go_wp2_with fail
    refine bodyPost_ret (v := .tuple #[.agg tok0, v]) ?_ rfl ⟨v, rfl, HE.out⟩
    obtain ⟨e0, e1, e2, e3, e4, e5, e6, e7, e8, e9⟩ := HR.out
    simp [results, Tryd.results29, go_sem, e0, e1, e2, e3, e4, e5, e6, e7, e8, e9]
theorem char_any (s : ByteArray) (a : Nat) (w : World) (hT : Tabs w) (ha : a + 2 ≤ s.size) (hs : s.size ≤ 1000000) :
    Calls Tryd.prog 29 #[.string s, .int .i64 (a : Int)] w (TkPost (charR (s.data.toList.drop (a + 2))) a w) := by
  have hz : s.data.toList.length = s.size := (Lib.size_eq s).symm
  unfold charR charL
  by_cases h0 : a + 2 = s.size
  · rw [if_pos (List.drop_of_length_le (by omega))]
    exact char_end s a w hT ha hs h0
  have hlt : a + 2 < s.size := by omega
  have hne : s.data.toList.drop (a + 2) ≠ [] := by rw [drop_cons (by omega)]; simp
  rw [if_neg hne]
  obtain ⟨c, n, hcn⟩ : ∃ c n, decodeL (s.data.toList.drop (a + 2)) = (c, n) := ⟨_, _, rfl⟩
  rw [hcn]
  dsimp only
  by_cases hb : c = 65533 ∧ n = 1
  · rw [if_pos hb]
    exact char_bad s a w hT ha hs hlt c n hcn hb
  rw [if_neg hb, List.drop_drop]
  obtain ⟨m, hm⟩ : ∃ m, m = ((s.data.toList.drop (a + 2 + n)).takeWhile (fun b => !delimB b)).length := ⟨_, rfl⟩
  rw [← hm]
  by_cases hm0 : m = 0
  · rw [if_pos hm0]
    have := char_one s a w hT ha hs hlt c n hcn hb m hm (a + 2 + n + m) rfl hm0
    rw [hm0] at this
    exact this
  rw [if_neg hm0]
  cases hnm : namedL ((s.data.toList.drop (a + 2)).take (n + m)) with
  | some v => exact char_name s a w hT ha hs hlt c n hcn hb m hm (a + 2 + n + m) rfl hm0 v hnm
  | none =>
    dsimp only
    by_cases hc : c = 120
    · rw [if_pos hc]
      cases hhx : hexC ((s.data.toList.drop (a + 2 + n)).take m) with
      | some r => exact char_hex s a w hT ha hs hlt c n hcn hb m hm (a + 2 + n + m) rfl hm0 hnm hc r hhx
      | none => exact char_hexno s a w hT ha hs hlt c n hcn hb m hm (a + 2 + n + m) rfl hm0 hnm hc hhx
    · rw [if_neg hc]
      exact char_no s a w hT ha hs hlt c n hcn hb m hm (a + 2 + n + m) rfl hm0 hnm hc
end Go.Proofs.YtonnikipeokkaaaDoor
