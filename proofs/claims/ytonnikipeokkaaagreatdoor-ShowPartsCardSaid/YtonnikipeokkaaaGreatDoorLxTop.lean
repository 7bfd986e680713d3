/-
  lex: Next.
-/
import Derived.Test.YtonnikipeokkaaaGreatDoorLxNext
import Derived.Test.YtonnikipeokkaaaGreatDoorLxAs
import Derived.BigRegion
import Derived.RegionTactic
import Derived.StillTailTactics
namespace Go.Proofs.YtonnikipeokkaaaGreatDoor
open Go.RowKit Go.Lib

/-- A token's number lies in no block of tokens. -/
theorem leaf_set2 {w w' : World} {d : Leaf} {k c : Int} {neg : Bool} {A : Option Addr} {n cp : Nat} {t : ByteArray} {B : Nat} {Y : Array Value} (h : LeafAt w d k c neg A n cp t) (hb : w.heap[B]? = some (.cells Y 29 (0, 0))) (K : Keep (fun b => b = B) w w') {X : Prop} (_ : X) : LeafAt w' d k c neg A n cp t := by
  cases d
  case int x => exact ⟨h.1, h.2.1, h.2.2.1, limbs_set h.2.2.2.1 hb K, h.2.2.2.2⟩
  all_goals exact h
/-- What Next answers. -/
def NextPost (r : Except (Nat × Nat) (Nat × Tk)) (w : World) (e : Ending) (w' : World) : Prop :=
  match r with
  | .ok (j, t) => ∃ (k c : Int) (neg : Bool) (A : Option Addr) (n cp : Nat) (x : ByteArray), e = .returned (.tuple #[tokV t.kind j ((j + t.len : Nat) : Int) t.sq k c neg A n cp x, .int .i64 0, .int .i64 0]) ∧ LeafAt w' t.d k c neg A n cp x ∧ Keep (fun _ => False) w w'
  | .error (p, c) => e = .returned (.tuple #[.agg tok0, .int .i64 p, .int .i64 c]) ∧ Keep (fun _ => False) w w'
set_option maxRecDepth 100000 in
set_option maxHeartbeats 1000000 in
theorem lexNext_long (s : ByteArray) (at_ : Int) (w : World) (h : 4096 < s.size) :
    Calls Tryz.prog 13 #[.string s, .int .i64 at_] w (NextPost (.error (0, 12)) w) := by
  have h1 : decide ((4096 : Int) < (s.size : Int)) = true := decide_eq_true (by omega)
  clear h
  go_enter Tryz.func13, Tryz.ntmps13
  go_wp2_with fail
  exact bodyPost_ret (v := .tuple #[.agg tok0, .int .i64 0, .int .i64 12]) (by simp [results, Tryz.results13, go_sem]) rfl ⟨rfl, (Keep.refl _ _).alloc _⟩
set_option maxRecDepth 100000 in
set_option maxHeartbeats 1000000 in
theorem lexNext_arg (s : ByteArray) (at_ : Int) (w : World) (h : ¬ 4096 < s.size) (ha : at_ < 0 ∨ (s.size : Int) < at_) :
    Calls Tryz.prog 13 #[.string s, .int .i64 at_] w (NextPost (.error (0, 1)) w) := by
  have h1 : decide ((4096 : Int) < (s.size : Int)) = false := decide_eq_false (by omega)
  have h2 : decide (4096 < s.size) = false := decide_eq_false h
  clear h
  by_cases h0 : at_ < 0
  · have h3 : decide (at_ < 0) = true := decide_eq_true h0
    clear ha h0
    go_enter Tryz.func13, Tryz.ntmps13
    go_wp2_with fail
    exact bodyPost_ret (v := .tuple #[.agg tok0, .int .i64 0, .int .i64 1]) (by simp [results, Tryz.results13, go_sem]) rfl ⟨rfl, (Keep.refl _ _).alloc _⟩
  · have h3 : decide (at_ < 0) = false := decide_eq_false h0
    have h4 : decide ((s.size : Int) < at_) = true := decide_eq_true (by omega)
    clear ha h0
    go_enter Tryz.func13, Tryz.ntmps13
    go_wp2_with fail
    exact bodyPost_ret (v := .tuple #[.agg tok0, .int .i64 0, .int .i64 1]) (by simp [results, Tryz.results13, go_sem]) rfl ⟨rfl, (Keep.refl _ _).alloc _⟩
set_option maxRecDepth 100000 in
set_option maxHeartbeats 4000000 in
theorem lexNext_ok (s : ByteArray) (a : Nat) (w : World) (hT : Tabs w) (h : ¬ 4096 < s.size) (ha : a ≤ s.size) (j : Nat) (t : Tk) (hl : lexAt s.data.toList a = .ok (j, t)) :
    Calls Tryz.prog 13 #[.string s, .int .i64 (a : Int)] w (NextPost (.ok (j, t)) w) := by
  have h1 : decide ((4096 : Int) < (s.size : Int)) = false := decide_eq_false (by omega)
  have h2 : decide (4096 < s.size) = false := decide_eq_false h
  have h3 : decide ((s.size : Int) < (a : Int)) = false := decide_eq_false (by omega)
  have h4 : decide (s.size < a) = false := decide_eq_false (by omega)
  have HT := Lib.hid hT
  have HNX := Lib.hid (fun w hT => next_any s a w hT ha (by omega))
  rw [hl] at HNX
  have hb : (w.alloc (.cells tok0 29)).heap[w.heap.size]? = some (.cells tok0 29 (0, 0)) := heap_alloc_new w _
  have HB1 := Lib.hid hb
  have HK1 := Lib.hid (show Keep (fun _ => False) w (w.alloc (.cells tok0 29)) from (Keep.refl _ _).alloc _)
  have h5 : decide ((a : Int) < 0) = false := decide_eq_false (by omega)
  clear h hT hl hb
  go_enter Tryz.func13, Tryz.ntmps13
  go_wp2_with fail
  refine (HNX.out _ (HT.out.keep HK1.out)).mono ?_
  intro e w2 hres
  obtain ⟨k, c, neg, A, n, cp, x, he, hlf, k2⟩ := hres
  obtain ⟨tk, htk⟩ : ∃ z : Int, z = (t.kind : Int) := ⟨_, rfl⟩
  obtain ⟨te, hte⟩ : ∃ z : Int, z = ((j + t.len : Nat) : Int) := ⟨_, rfl⟩
  obtain ⟨ts, hts⟩ : ∃ z : Bool, z = t.sq := ⟨_, rfl⟩
  rw [← htk, ← hte, ← hts] at he
  subst he
  have HEND := Lib.hid (show tokV tk (j : Int) te ts k c neg A n cp x = tokV t.kind (j : Int) ((j + t.len : Nat) : Int) t.sq k c neg A n cp x by rw [htk, hte, hts])
  have HB2 := Lib.hid (k2.heap HB1.out (by simp))
  have HK2 := Lib.hid (HK1.out.trans k2)
  have HLF := Lib.hid hlf
  obtain ⟨⟨c0, c1, c2, c3, c4, c5, c6, c7, c8, c9⟩, f0, f1, f2, f3, f4, f5, f6, f7, f8, f9⟩ := tok_cells HB2.out
  have HROW := Lib.hid (setTok_row HB2.out (.int .i64 tk) (.int .i64 (j : Int)) (.int .i64 te) (.bool ts) (.int .i64 k) (.int .i32 c) (.bool neg) (.slice A n cp) (.string x) (.slice none 0 0))
  have HKS := Lib.hid (setTok_keep HK2.out (Nat.le_refl _) (.int .i64 tk) (.int .i64 (j : Int)) (.int .i64 te) (.bool ts) (.int .i64 k) (.int .i32 c) (.bool neg) (.slice A n cp) (.string x) (.slice none 0 0))
  have HL2 := Lib.hid (leaf_set HLF.out HB2.out (setTok_self w2 w.heap.size (.int .i64 tk) (.int .i64 (j : Int)) (.int .i64 te) (.bool ts) (.int .i64 k) (.int .i32 c) (.bool neg) (.slice A n cp) (.string x) (.slice none 0 0)))
  clear hlf k2 htk hte hts
  try dsimp only
  go_wp2_with fail
  refine (Aslex.as_nil _ _).mono ?_
  rintro e w3 ⟨rfl, hw⟩
  have hlt := heap_lt HB2.out
  have HB3 := Lib.hid (show w3.heap[w.heap.size]? = some (.cells #[.int .i64 tk, .int .i64 (j : Int), .int .i64 te, .bool ts, .int .i64 k, .int .i32 c, .bool neg, .slice A n cp, .string x, .slice none 0 0] 29 (0, 0)) by
    rw [← hw, Below.heap_alloc _ _ _ (heap_lt HROW.out)]; exact HROW.out)
  have HK3 := Lib.hid (show Keep (fun _ => False) w w3 by rw [← hw]; exact HKS.out.alloc _)
  have HL3 := Lib.hid (show LeafAt w3 t.d k c neg A n cp x by rw [← hw]; exact HL2.out.keep ((Keep.refl _ _).alloc _))
  clear hw c0 c1 c2 c3 c4 c5 c6 c7 c8 c9 f0 f1 f2 f3 f4 f5 f6 f7 f8 f9 hlt
  obtain ⟨⟨c0, c1, c2, c3, c4, c5, c6, c7, c8, c9⟩, f0, f1, f2, f3, f4, f5, f6, f7, f8, f9⟩ := tok_cells HB3.out
  have HE := Lib.hid (setTok_keep HK3.out (Nat.le_refl _) (.int .i64 tk) (.int .i64 (j : Int)) (.int .i64 te) (.bool ts) (.int .i64 k) (.int .i32 c) (.bool neg) (.slice A n cp) (.string x) (.slice none 0 0))
  have HR := Lib.hid (tok_cells (setTok_row HB3.out (.int .i64 tk) (.int .i64 (j : Int)) (.int .i64 te) (.bool ts) (.int .i64 k) (.int .i32 c) (.bool neg) (.slice A n cp) (.string x) (.slice none 0 0))).1
  have HLE := Lib.hid (leaf_set2 HL3.out HB3.out (setTok_self w3 w.heap.size (.int .i64 tk) (.int .i64 (j : Int)) (.int .i64 te) (.bool ts) (.int .i64 k) (.int .i32 c) (.bool neg) (.slice A n cp) (.string x) (.slice none 0 0)) (setTok_row HB3.out (.int .i64 tk) (.int .i64 (j : Int)) (.int .i64 te) (.bool ts) (.int .i64 k) (.int .i32 c) (.bool neg) (.slice A n cp) (.string x) (.slice none 0 0)))
  try dsimp only
  go_wp2_with fail
  refine bodyPost_ret (v := .tuple #[tokV tk (j : Int) te ts k c neg A n cp x, .int .i64 0, .int .i64 0]) ?_ rfl ?_
  · obtain ⟨e0, e1, e2, e3, e4, e5, e6, e7, e8, e9⟩ := HR.out
    simp [results, Tryz.results13, go_sem, e0, e1, e2, e3, e4, e5, e6, e7, e8, e9]
  · exact ⟨k, c, neg, A, n, cp, x, by rw [HEND.out], HLE.out, HE.out⟩
set_option maxRecDepth 100000 in
set_option maxHeartbeats 4000000 in
theorem lexNext_err (s : ByteArray) (a : Nat) (w : World) (hT : Tabs w) (h : ¬ 4096 < s.size) (ha : a ≤ s.size) (p q : Nat) (hl : lexAt s.data.toList a = .error (p, q)) :
    Calls Tryz.prog 13 #[.string s, .int .i64 (a : Int)] w (NextPost (.error (p, q)) w) := by
  have h1 : decide ((4096 : Int) < (s.size : Int)) = false := decide_eq_false (by omega)
  have h2 : decide (4096 < s.size) = false := decide_eq_false h
  have h3 : decide ((s.size : Int) < (a : Int)) = false := decide_eq_false (by omega)
  have h4 : decide (s.size < a) = false := decide_eq_false (by omega)
  have h5 : decide ((a : Int) < 0) = false := decide_eq_false (by omega)
  have HT := Lib.hid hT
  have HNX := Lib.hid (fun w hT => next_any s a w hT ha (by omega))
  rw [hl] at HNX
  have hb : (w.alloc (.cells tok0 29)).heap[w.heap.size]? = some (.cells tok0 29 (0, 0)) := heap_alloc_new w _
  have HB1 := Lib.hid hb
  have HK1 := Lib.hid (show Keep (fun _ => False) w (w.alloc (.cells tok0 29)) from (Keep.refl _ _).alloc _)
  clear h hT hl hb
  go_enter Tryz.func13, Tryz.ntmps13
  go_wp2_with fail
  refine (HNX.out _ (HT.out.keep HK1.out)).mono ?_
  rintro e w2 ⟨v, rfl, he, k2⟩
  have HB2 := Lib.hid (k2.heap HB1.out (by simp))
  have HK2 := Lib.hid (HK1.out.trans k2)
  obtain ⟨⟨c0, c1, c2, c3, c4, c5, c6, c7, c8, c9⟩, f0, f1, f2, f3, f4, f5, f6, f7, f8, f9⟩ := tok_cells HB2.out
  have HROW := Lib.hid (setTok_row HB2.out (.int .i64 0) (.int .i64 0) (.int .i64 0) (.bool false) (.int .i64 0) (.int .i32 0) (.bool false) (.slice none 0 0) (.string ⟨#[]⟩) (.slice none 0 0))
  have HE := Lib.hid (tok_err_end HK2.out (Nat.le_refl _) HB2.out he (.int .i64 0) (.int .i64 0) (.int .i64 0) (.bool false) (.int .i64 0) (.int .i32 0) (.bool false) (.slice none 0 0) (.string ⟨#[]⟩) (.slice none 0 0))
  clear he k2
  try dsimp only
  go_wp2_with fail
  have hsz : (setTok w2 w.heap.size (.int .i64 0) (.int .i64 0) (.int .i64 0) (.bool false) (.int .i64 0) (.int .i32 0) (.bool false) (.slice none 0 0) (.string ⟨#[]⟩) (.slice none 0 0)).heap.size = w2.heap.size := by simp [setTok, World.setCell]
  obtain ⟨A, B, what, rfl, hB, hA⟩ := HE.out.1
  have lA := heap_lt hA
  have lB := heap_lt hB
  have lR := heap_lt HROW.out
  have hB4 : ((setTok w2 w.heap.size (.int .i64 0) (.int .i64 0) (.int .i64 0) (.bool false) (.int .i64 0) (.int .i32 0) (.bool false) (.slice none 0 0) (.string ⟨#[]⟩) (.slice none 0 0)).alloc (.cells #[.pointer none] 63)).heap[B]? = some (.cells #[.string what, .iface 63 (.pointer (some ⟨A, 0, none⟩))] 209 (0, 0)) := by rw [Below.heap_alloc _ _ _ lB]; exact hB
  have hA4 : ((setTok w2 w.heap.size (.int .i64 0) (.int .i64 0) (.int .i64 0) (.bool false) (.int .i64 0) (.int .i32 0) (.bool false) (.slice none 0 0) (.string ⟨#[]⟩) (.slice none 0 0)).alloc (.cells #[.pointer none] 63)).heap[A]? = some (.cells #[.int .i64 (p : Int), .int .i64 (q : Int)] 67 (0, 0)) := by
    rw [Below.heap_alloc _ _ _ lA]; exact hA
  have hR4 : ((setTok w2 w.heap.size (.int .i64 0) (.int .i64 0) (.int .i64 0) (.bool false) (.int .i64 0) (.int .i32 0) (.bool false) (.slice none 0 0) (.string ⟨#[]⟩) (.slice none 0 0)).alloc (.cells #[.pointer none] 63)).heap[w.heap.size]? = some (.cells tok0 29 (0, 0)) := by rw [Below.heap_alloc _ _ _ lR]; exact HROW.out
  have ht4 : ((setTok w2 w.heap.size (.int .i64 0) (.int .i64 0) (.int .i64 0) (.bool false) (.int .i64 0) (.int .i32 0) (.bool false) (.slice none 0 0) (.string ⟨#[]⟩) (.slice none 0 0)).alloc (.cells #[.pointer none] 63)).heap[w2.heap.size]? = some (.cells #[.pointer none] 63 (0, 0)) := by
    have := heap_alloc_new (setTok w2 w.heap.size (.int .i64 0) (.int .i64 0) (.int .i64 0) (.bool false) (.int .i64 0) (.int .i32 0) (.bool false) (.slice none 0 0) (.string ⟨#[]⟩) (.slice none 0 0)) (.cells #[.pointer none] 63)
    rw [hsz] at this
    exact this
  have k4 : Keep (fun _ => False) w ((setTok w2 w.heap.size (.int .i64 0) (.int .i64 0) (.int .i64 0) (.bool false) (.int .i64 0) (.int .i32 0) (.bool false) (.slice none 0 0) (.string ⟨#[]⟩) (.slice none 0 0)).alloc (.cells #[.pointer none] 63)) := HE.out.2.alloc _
  have hg4 := (HT.out.keep k4).err
  rw [hsz] at lA lR
  have HA4 := Lib.hid hA4
  have HR4 := Lib.hid hR4
  have HK4 := Lib.hid k4
  have HLT := Lib.hid (And.intro lA lR)
  clear hA hB hA4 hR4 k4 lA lB lR c0 c1 c2 c3 c4 c5 c6 c7 c8 c9 f0 f1 f2 f3 f4 f5 f6 f7 f8 f9
  refine (Aslex.as_hit A B w2.heap.size what (.pointer none) #[] _ hg4 hB4 ht4).mono ?_
  rintro e w5 ⟨rfl, htb, k5⟩
  have hA5 := k5.heap HA4.out (by have := HLT.out.1; omega)
  have hR5 := k5.heap HR4.out (by have := HLT.out.2; omega)
  have hK5 : Keep (fun _ => False) w w5 := HK4.out.into k5 (by rintro i rfl; have := HLT.out.2; omega)
  obtain ⟨⟨c0, c1, c2, c3, c4, c5, c6, c7, c8, c9⟩, f0, f1, f2, f3, f4, f5, f6, f7, f8, f9⟩ := tok_cells hR5
  have g0 : w5.cell? ⟨w2.heap.size, 0, none⟩ = some (.pointer (some ⟨A, 0, none⟩)) := by rw [cell_of_row w5 _ _ _ _ _ htb]; rfl
  have g1 : w5.cell? ⟨A, 0, none⟩ = some (.int .i64 (p : Int)) := by rw [cell_of_row w5 _ _ _ _ _ hA5]; rfl
  have g2 : w5.cell? ⟨A, 1, none⟩ = some (.int .i64 (q : Int)) := by rw [cell_of_row w5 _ _ _ _ _ hA5]; rfl
  have n1 : ¬ A = w.heap.size := by
    rintro rfl
    rw [hA5] at hR5; injection hR5 with hR5; injection hR5 with _ hR5; cases hR5
  have HR5 := Lib.hid (tok_cells (setTok_row hR5 (.int .i64 0) (.int .i64 0) (.int .i64 0) (.bool false) (.int .i64 0) (.int .i32 0) (.bool false) (.slice none 0 0) (.string ⟨#[]⟩) (.slice none 0 0))).1
  have HK5 := Lib.hid (setTok_keep hK5 (Nat.le_refl _) (.int .i64 0) (.int .i64 0) (.int .i64 0) (.bool false) (.int .i64 0) (.int .i32 0) (.bool false) (.slice none 0 0) (.string ⟨#[]⟩) (.slice none 0 0))
  have n2 : ¬ w2.heap.size = w.heap.size := by have := HLT.out.2; omega
  clear hB4 ht4 hg4 hA5 hR5 hK5 htb k5 hsz
  try dsimp only
  go_wp2_with fail
  have ks := setTok_self w5 w.heap.size (.int .i64 0) (.int .i64 0) (.int .i64 0) (.bool false) (.int .i64 0) (.int .i32 0) (.bool false) (.slice none 0 0) (.string ⟨#[]⟩) (.slice none 0 0)
  have lA := World.block_lt_of_cell? w5 _ g1
  have l2 := World.block_lt_of_cell? w5 _ g0
  have p0 := (ks.cell (p := ⟨w2.heap.size, 0, none⟩) l2 n2).trans g0
  have p1 := (ks.cell (p := ⟨A, 0, none⟩) lA n1).trans g1
  have p2 := (ks.cell (p := ⟨A, 1, none⟩) lA n1).trans g2
  dsimp only [setTok] at p0 p1 p2
  clear ks lA l2
  generalize hB0 : w.heap.size = B0 at *
  generalize w2.heap.size = B2 at *
  go_big_region
  go_wp2_with fail
  refine bodyPost_ret (v := .tuple #[.agg tok0, .int .i64 (p : Int), .int .i64 (q : Int)]) ?_ rfl ?_
  · obtain ⟨e0, e1, e2, e3, e4, e5, e6, e7, e8, e9⟩ := HR5.out
    simp [results, Tryz.results13, go_sem, e0, e1, e2, e3, e4, e5, e6, e7, e8, e9]
  · exact ⟨rfl, HK5.out.drew⟩
theorem lexNext_any (s : ByteArray) (at_ : Int) (w : World) (hT : Tabs w) :
    Calls Tryz.prog 13 #[.string s, .int .i64 at_] w (NextPost (nextV s.data.toList at_) w) := by
  have hz : s.data.toList.length = s.size := (Lib.size_eq s).symm
  unfold nextV
  rw [hz]
  by_cases h1 : 4096 < s.size
  · rw [if_pos h1]; exact lexNext_long s at_ w h1
  rw [if_neg h1]
  by_cases h2 : at_ < 0 ∨ (s.size : Int) < at_
  · rw [if_pos h2]; exact lexNext_arg s at_ w h1 h2
  rw [if_neg h2]
  obtain ⟨a, rfl⟩ := Int.eq_ofNat_of_zero_le (show 0 ≤ at_ by omega)
  rw [Int.toNat_natCast]
  cases hl : lexAt s.data.toList a with
  | ok r => obtain ⟨j, t⟩ := r; exact lexNext_ok s a w hT h1 (by omega) j t hl
  | error r => obtain ⟨p, q⟩ := r; exact lexNext_err s a w hT h1 (by omega) p q hl
end Go.Proofs.YtonnikipeokkaaaGreatDoor
