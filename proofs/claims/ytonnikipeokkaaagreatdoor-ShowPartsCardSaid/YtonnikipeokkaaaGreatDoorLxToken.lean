/-
  lex: token.
-/
import Derived.Test.YtonnikipeokkaaaGreatDoorLxChar
namespace Go.Proofs.YtonnikipeokkaaaGreatDoor
open Go.RowKit Go.Lib

set_option maxRecDepth 100000 in
set_option maxHeartbeats 4000000 in
theorem tok_91 (s : ByteArray) (a : Nat) (w : World) (hT : Tabs w) (ha : a < s.size) (hs : s.size ≤ 1000000) (hc : s.data.toList.getD a 0 = 91)  :
    Calls Tryz.prog 56 #[.string s, .int .i64 (a : Int)] w (TkPost (.ok ⟨1, 1, true, .no⟩) a w) := by
  have HT := Lib.hid hT
  have hz : s.data.toList.length = s.size := (Lib.size_eq s).symm
  have hx : ∀ W : World, (Instr.index 9 (.string s) (.int .i64 (a : Int))).run Tryz.prog W = .ok (.int .u8 91) W := at_run s a (by rw [hz]; exact ha) 91 hc.symm
  clear hc hz
  clear hT
  go_enter Tryz.func56, Tryz.ntmps56
  go_wp2_with fail
  refine bodyPost_ret (v := .tuple #[tokV 1 (a : Int) ((a + 1 : Nat) : Int) true 0 0 false none 0 0 ⟨#[]⟩, .nilIface]) (by simp [results, Tryz.results56, go_sem]) rfl ?_
  exact ⟨0, 0, false, none, 0, 0, ⟨#[]⟩, rfl, ⟨rfl, rfl, rfl, rfl, rfl, rfl, rfl⟩, ((Keep.refl _ _).alloc _).alloc _⟩
set_option maxRecDepth 100000 in
set_option maxHeartbeats 4000000 in
theorem tok_40 (s : ByteArray) (a : Nat) (w : World) (hT : Tabs w) (ha : a < s.size) (hs : s.size ≤ 1000000) (hc : s.data.toList.getD a 0 = 40)  :
    Calls Tryz.prog 56 #[.string s, .int .i64 (a : Int)] w (TkPost (.ok ⟨1, 1, false, .no⟩) a w) := by
  have HT := Lib.hid hT
  have hz : s.data.toList.length = s.size := (Lib.size_eq s).symm
  have hx : ∀ W : World, (Instr.index 9 (.string s) (.int .i64 (a : Int))).run Tryz.prog W = .ok (.int .u8 40) W := at_run s a (by rw [hz]; exact ha) 40 hc.symm
  clear hc hz
  clear hT
  go_enter Tryz.func56, Tryz.ntmps56
  go_wp2_with fail
  refine bodyPost_ret (v := .tuple #[tokV 1 (a : Int) ((a + 1 : Nat) : Int) false 0 0 false none 0 0 ⟨#[]⟩, .nilIface]) (by simp [results, Tryz.results56, go_sem]) rfl ?_
  exact ⟨0, 0, false, none, 0, 0, ⟨#[]⟩, rfl, ⟨rfl, rfl, rfl, rfl, rfl, rfl, rfl⟩, ((Keep.refl _ _).alloc _).alloc _⟩
set_option maxRecDepth 100000 in
set_option maxHeartbeats 4000000 in
theorem tok_93 (s : ByteArray) (a : Nat) (w : World) (hT : Tabs w) (ha : a < s.size) (hs : s.size ≤ 1000000) (hc : s.data.toList.getD a 0 = 93)  :
    Calls Tryz.prog 56 #[.string s, .int .i64 (a : Int)] w (TkPost (.ok ⟨2, 1, true, .no⟩) a w) := by
  have HT := Lib.hid hT
  have hz : s.data.toList.length = s.size := (Lib.size_eq s).symm
  have hx : ∀ W : World, (Instr.index 9 (.string s) (.int .i64 (a : Int))).run Tryz.prog W = .ok (.int .u8 93) W := at_run s a (by rw [hz]; exact ha) 93 hc.symm
  clear hc hz
  clear hT
  go_enter Tryz.func56, Tryz.ntmps56
  go_wp2_with fail
  refine bodyPost_ret (v := .tuple #[tokV 2 (a : Int) ((a + 1 : Nat) : Int) true 0 0 false none 0 0 ⟨#[]⟩, .nilIface]) (by simp [results, Tryz.results56, go_sem]) rfl ?_
  exact ⟨0, 0, false, none, 0, 0, ⟨#[]⟩, rfl, ⟨rfl, rfl, rfl, rfl, rfl, rfl, rfl⟩, ((Keep.refl _ _).alloc _).alloc _⟩
set_option maxRecDepth 100000 in
set_option maxHeartbeats 4000000 in
theorem tok_41 (s : ByteArray) (a : Nat) (w : World) (hT : Tabs w) (ha : a < s.size) (hs : s.size ≤ 1000000) (hc : s.data.toList.getD a 0 = 41)  :
    Calls Tryz.prog 56 #[.string s, .int .i64 (a : Int)] w (TkPost (.ok ⟨2, 1, false, .no⟩) a w) := by
  have HT := Lib.hid hT
  have hz : s.data.toList.length = s.size := (Lib.size_eq s).symm
  have hx : ∀ W : World, (Instr.index 9 (.string s) (.int .i64 (a : Int))).run Tryz.prog W = .ok (.int .u8 41) W := at_run s a (by rw [hz]; exact ha) 41 hc.symm
  clear hc hz
  clear hT
  go_enter Tryz.func56, Tryz.ntmps56
  go_wp2_with fail
  refine bodyPost_ret (v := .tuple #[tokV 2 (a : Int) ((a + 1 : Nat) : Int) false 0 0 false none 0 0 ⟨#[]⟩, .nilIface]) (by simp [results, Tryz.results56, go_sem]) rfl ?_
  exact ⟨0, 0, false, none, 0, 0, ⟨#[]⟩, rfl, ⟨rfl, rfl, rfl, rfl, rfl, rfl, rfl⟩, ((Keep.refl _ _).alloc _).alloc _⟩
set_option maxRecDepth 100000 in
set_option maxHeartbeats 4000000 in
theorem tok_39 (s : ByteArray) (a : Nat) (w : World) (hT : Tabs w) (ha : a < s.size) (hs : s.size ≤ 1000000) (hc : s.data.toList.getD a 0 = 39)  :
    Calls Tryz.prog 56 #[.string s, .int .i64 (a : Int)] w (TkPost (.ok ⟨4, 1, false, .no⟩) a w) := by
  have HT := Lib.hid hT
  have hz : s.data.toList.length = s.size := (Lib.size_eq s).symm
  have hx : ∀ W : World, (Instr.index 9 (.string s) (.int .i64 (a : Int))).run Tryz.prog W = .ok (.int .u8 39) W := at_run s a (by rw [hz]; exact ha) 39 hc.symm
  clear hc hz
  clear hT
  go_enter Tryz.func56, Tryz.ntmps56
  go_wp2_with fail
  refine bodyPost_ret (v := .tuple #[tokV 4 (a : Int) ((a + 1 : Nat) : Int) false 0 0 false none 0 0 ⟨#[]⟩, .nilIface]) (by simp [results, Tryz.results56, go_sem]) rfl ?_
  exact ⟨0, 0, false, none, 0, 0, ⟨#[]⟩, rfl, ⟨rfl, rfl, rfl, rfl, rfl, rfl, rfl⟩, ((Keep.refl _ _).alloc _).alloc _⟩
set_option maxRecDepth 100000 in
set_option maxHeartbeats 4000000 in
theorem tok_96 (s : ByteArray) (a : Nat) (w : World) (hT : Tabs w) (ha : a < s.size) (hs : s.size ≤ 1000000) (hc : s.data.toList.getD a 0 = 96)  :
    Calls Tryz.prog 56 #[.string s, .int .i64 (a : Int)] w (TkPost (.ok ⟨5, 1, false, .no⟩) a w) := by
  have HT := Lib.hid hT
  have hz : s.data.toList.length = s.size := (Lib.size_eq s).symm
  have hx : ∀ W : World, (Instr.index 9 (.string s) (.int .i64 (a : Int))).run Tryz.prog W = .ok (.int .u8 96) W := at_run s a (by rw [hz]; exact ha) 96 hc.symm
  clear hc hz
  clear hT
  go_enter Tryz.func56, Tryz.ntmps56
  go_wp2_with fail
  refine bodyPost_ret (v := .tuple #[tokV 5 (a : Int) ((a + 1 : Nat) : Int) false 0 0 false none 0 0 ⟨#[]⟩, .nilIface]) (by simp [results, Tryz.results56, go_sem]) rfl ?_
  exact ⟨0, 0, false, none, 0, 0, ⟨#[]⟩, rfl, ⟨rfl, rfl, rfl, rfl, rfl, rfl, rfl⟩, ((Keep.refl _ _).alloc _).alloc _⟩
set_option maxRecDepth 100000 in
set_option maxHeartbeats 4000000 in
theorem tok_44b (s : ByteArray) (a : Nat) (w : World) (hT : Tabs w) (ha : a < s.size) (hs : s.size ≤ 1000000) (hc : s.data.toList.getD a 0 = 44) (h1 : a + 1 < s.size) (h2 : s.data.toList.getD (a + 1) 0 = 64) :
    Calls Tryz.prog 56 #[.string s, .int .i64 (a : Int)] w (TkPost (.ok ⟨7, 2, false, .no⟩) a w) := by
  have HT := Lib.hid hT
  have hz : s.data.toList.length = s.size := (Lib.size_eq s).symm
  have hx : ∀ W : World, (Instr.index 9 (.string s) (.int .i64 (a : Int))).run Tryz.prog W = .ok (.int .u8 44) W := at_run s a (by rw [hz]; exact ha) 44 hc.symm
  have hp : Lib.hasPrefix (s.extract a s.size).data.toList [44, 64] = true := by
    rw [prefix_drop2 s a 44 64 ha]
    exact decide_eq_true ⟨h1, hc, h2⟩
  have Hhp := Lib.hid hp
  clear hp h1 h2
  clear hc hz
  clear hT
  go_enter Tryz.func56, Tryz.ntmps56
  go_wp2_with fail
  refine (Tryz.strings_HasPrefix _ _ _).mono ?_
  rintro e w1 ⟨rfl, rfl⟩
  rw [show Lib.hasPrefix (s.extract a s.size).data.toList (⟨#[44, 64]⟩ : ByteArray).data.toList = _ from Hhp.out]
  try dsimp only
  go_wp2_with fail
  refine bodyPost_ret (v := .tuple #[tokV 7 (a : Int) ((a + 2 : Nat) : Int) false 0 0 false none 0 0 ⟨#[]⟩, .nilIface]) (by simp [results, Tryz.results56, go_sem]) rfl ?_
  exact ⟨0, 0, false, none, 0, 0, ⟨#[]⟩, rfl, ⟨rfl, rfl, rfl, rfl, rfl, rfl, rfl⟩, ((Keep.refl _ _).alloc _).alloc _⟩
set_option maxRecDepth 100000 in
set_option maxHeartbeats 4000000 in
theorem tok_44a (s : ByteArray) (a : Nat) (w : World) (hT : Tabs w) (ha : a < s.size) (hs : s.size ≤ 1000000) (hc : s.data.toList.getD a 0 = 44) (hno : ¬ (a + 1 < s.size ∧ s.data.toList.getD (a + 1) 0 = 64)) :
    Calls Tryz.prog 56 #[.string s, .int .i64 (a : Int)] w (TkPost (.ok ⟨6, 1, false, .no⟩) a w) := by
  have HT := Lib.hid hT
  have hz : s.data.toList.length = s.size := (Lib.size_eq s).symm
  have hx : ∀ W : World, (Instr.index 9 (.string s) (.int .i64 (a : Int))).run Tryz.prog W = .ok (.int .u8 44) W := at_run s a (by rw [hz]; exact ha) 44 hc.symm
  have hp : Lib.hasPrefix (s.extract a s.size).data.toList [44, 64] = false := by
    rw [prefix_drop2 s a 44 64 ha]
    exact decide_eq_false (fun h => hno ⟨h.1, h.2.2⟩)
  have Hhp := Lib.hid hp
  clear hp hno
  clear hc hz
  clear hT
  go_enter Tryz.func56, Tryz.ntmps56
  go_wp2_with fail
  refine (Tryz.strings_HasPrefix _ _ _).mono ?_
  rintro e w1 ⟨rfl, rfl⟩
  rw [show Lib.hasPrefix (s.extract a s.size).data.toList (⟨#[44, 64]⟩ : ByteArray).data.toList = _ from Hhp.out]
  try dsimp only
  go_wp2_with fail
  refine bodyPost_ret (v := .tuple #[tokV 6 (a : Int) ((a + 1 : Nat) : Int) false 0 0 false none 0 0 ⟨#[]⟩, .nilIface]) (by simp [results, Tryz.results56, go_sem]) rfl ?_
  exact ⟨0, 0, false, none, 0, 0, ⟨#[]⟩, rfl, ⟨rfl, rfl, rfl, rfl, rfl, rfl, rfl⟩, ((Keep.refl _ _).alloc _).alloc _⟩
set_option maxRecDepth 100000 in
set_option maxHeartbeats 4000000 in
theorem tok_vec (s : ByteArray) (a : Nat) (w : World) (hT : Tabs w) (ha : a < s.size) (hs : s.size ≤ 1000000) (hc : s.data.toList.getD a 0 = 35) (h1 : a + 1 < s.size) (h2 : s.data.toList.getD (a + 1) 0 = 40) :
    Calls Tryz.prog 56 #[.string s, .int .i64 (a : Int)] w (TkPost (.ok ⟨3, 2, false, .no⟩) a w) := by
  have HT := Lib.hid hT
  have hz : s.data.toList.length = s.size := (Lib.size_eq s).symm
  have hx : ∀ W : World, (Instr.index 9 (.string s) (.int .i64 (a : Int))).run Tryz.prog W = .ok (.int .u8 35) W := at_run s a (by rw [hz]; exact ha) 35 hc.symm
  have hp : Lib.hasPrefix (s.extract a s.size).data.toList [35, 40] = true := by
    rw [prefix_drop2 s a 35 40 ha]
    exact decide_eq_true ⟨h1, hc, h2⟩
  have Hhp := Lib.hid hp
  clear hp h1 h2
  clear hc hz
  clear hT
  go_enter Tryz.func56, Tryz.ntmps56
  go_wp2_with fail
  refine (Tryz.strings_HasPrefix _ _ _).mono ?_
  rintro e w1 ⟨rfl, rfl⟩
  rw [show Lib.hasPrefix (s.extract a s.size).data.toList (⟨#[35, 40]⟩ : ByteArray).data.toList = _ from Hhp.out]
  try dsimp only
  go_wp2_with fail
  refine bodyPost_ret (v := .tuple #[tokV 3 (a : Int) ((a + 2 : Nat) : Int) false 0 0 false none 0 0 ⟨#[]⟩, .nilIface]) (by simp [results, Tryz.results56, go_sem]) rfl ?_
  exact ⟨0, 0, false, none, 0, 0, ⟨#[]⟩, rfl, ⟨rfl, rfl, rfl, rfl, rfl, rfl, rfl⟩, ((Keep.refl _ _).alloc _).alloc _⟩
theorem leaf_set {w w' : World} {d : Leaf} {k c : Int} {neg : Bool} {A : Option Addr} {n cp : Nat} {t : ByteArray} {B : Nat} (h : LeafAt w d k c neg A n cp t) (hb : w.heap[B]? = some (.cells tok0 29 (0, 0))) (K : Keep (fun b => b = B) w w') : LeafAt w' d k c neg A n cp t := by
  cases d
  case int x => exact ⟨h.1, h.2.1, h.2.2.1, limbs_set h.2.2.2.1 hb K, h.2.2.2.2⟩
  all_goals exact h
set_option maxRecDepth 100000 in
set_option maxHeartbeats 4000000 in
theorem tok_char (s : ByteArray) (a : Nat) (w : World) (hT : Tabs w) (ha : a < s.size) (hs : s.size ≤ 1000000) (hc : s.data.toList.getD a 0 = 35) (h1 : a + 1 < s.size) (h2 : s.data.toList.getD (a + 1) 0 = 92) :
    Calls Tryz.prog 56 #[.string s, .int .i64 (a : Int)] w (TkPost (charR (s.data.toList.drop (a + 2))) a w) := by
  have HT := Lib.hid hT
  have hz : s.data.toList.length = s.size := (Lib.size_eq s).symm
  have hx : ∀ W : World, (Instr.index 9 (.string s) (.int .i64 (a : Int))).run Tryz.prog W = .ok (.int .u8 35) W := at_run s a (by rw [hz]; exact ha) 35 hc.symm
  have hp1 : Lib.hasPrefix (s.extract a s.size).data.toList [35, 40] = false := by
    rw [prefix_drop2 s a 35 40 ha]
    exact decide_eq_false (fun h => by rw [h2] at h; exact absurd h.2.2 (by decide))
  have hp2 : Lib.hasPrefix (s.extract a s.size).data.toList [35, 92] = true := by
    rw [prefix_drop2 s a 35 92 ha]
    exact decide_eq_true ⟨h1, hc, h2⟩
  have Hhp1 := Lib.hid hp1
  have Hhp2 := Lib.hid hp2
  have HCH := Lib.hid (fun w hT => char_any s a w hT (by omega) hs)
  obtain ⟨R, hRR⟩ : ∃ R, R = charR (s.data.toList.drop (a + 2)) := ⟨_, rfl⟩
  rw [← hRR] at HCH ⊢
  clear hp1 hp2 hRR h1 h2 hc hz
  have hb : (w.alloc (.cells tok0 29)).heap[w.heap.size]? = some (.cells tok0 29 (0, 0)) := heap_alloc_new w _
  have hb2 : ((w.alloc (.cells tok0 29)).alloc (.cells #[.int .i64 0, .int .i64 (a : Int), .int .i64 ((a : Int) + 1), .bool false, .int .i64 0, .int .i32 0, .bool false, .slice none 0 0, .string ⟨#[]⟩, .slice none 0 0] 29)).heap[w.heap.size]? = some (.cells tok0 29 (0, 0)) := by
    rw [Below.heap_alloc _ _ _ (by simp)]; exact hb
  have HB1 := Lib.hid hb2
  have HK1 := Lib.hid (show Keep (fun _ => False) w ((w.alloc (.cells tok0 29)).alloc (.cells #[.int .i64 0, .int .i64 (a : Int), .int .i64 ((a : Int) + 1), .bool false, .int .i64 0, .int .i32 0, .bool false, .slice none 0 0, .string ⟨#[]⟩, .slice none 0 0] 29)) from ((Keep.refl _ _).alloc _).alloc _)
  clear hb hb2
  clear hT
  go_enter Tryz.func56, Tryz.ntmps56
  go_wp2_with fail
  refine (Tryz.strings_HasPrefix _ _ _).mono ?_
  rintro e w1 ⟨rfl, rfl⟩
  rw [show Lib.hasPrefix (s.extract a s.size).data.toList (⟨#[35, 40]⟩ : ByteArray).data.toList = _ from Hhp1.out]
  try dsimp only
  go_wp2_with fail
  refine (Tryz.strings_HasPrefix _ _ _).mono ?_
  rintro e w1 ⟨rfl, rfl⟩
  rw [show Lib.hasPrefix (s.extract a s.size).data.toList (⟨#[35, 92]⟩ : ByteArray).data.toList = _ from Hhp2.out]
  try dsimp only
  go_wp2_with fail
  refine (HCH.out _ (HT.out.keep HK1.out)).mono ?_
  intro e w2 hres
  cases hR : R with
  | ok t =>
    rw [hR] at hres
    obtain ⟨k, c, neg, A, n, cp, x, he, hl, k2⟩ := hres
    obtain ⟨tk, htk⟩ : ∃ z : Int, z = (t.kind : Int) := ⟨_, rfl⟩
    obtain ⟨te, hte⟩ : ∃ z : Int, z = ((a + t.len : Nat) : Int) := ⟨_, rfl⟩
    obtain ⟨ts, hts⟩ : ∃ z : Bool, z = t.sq := ⟨_, rfl⟩
    rw [← htk, ← hte, ← hts] at he
    subst he
    have HEND := Lib.hid (show tokV tk (a : Int) te ts k c neg A n cp x = tokV t.kind (a : Int) ((a + t.len : Nat) : Int) t.sq k c neg A n cp x by rw [htk, hte, hts])
    have HB2 := Lib.hid (k2.heap HB1.out (by simp))
    have HK2 := Lib.hid (HK1.out.trans k2)
    have HLF := Lib.hid hl
    obtain ⟨⟨c0, c1, c2, c3, c4, c5, c6, c7, c8, c9⟩, f0, f1, f2, f3, f4, f5, f6, f7, f8, f9⟩ := tok_cells HB2.out
    have HE := Lib.hid (setTok_keep HK2.out (Nat.le_refl _) (.int .i64 tk) (.int .i64 (a : Int)) (.int .i64 te) (.bool ts) (.int .i64 k) (.int .i32 c) (.bool neg) (.slice A n cp) (.string x) (.slice none 0 0))
    have HR := Lib.hid (tok_cells (setTok_row HB2.out (.int .i64 tk) (.int .i64 (a : Int)) (.int .i64 te) (.bool ts) (.int .i64 k) (.int .i32 c) (.bool neg) (.slice A n cp) (.string x) (.slice none 0 0))).1
    have HRQ := Lib.hid hR
    clear hl k2 htk hte hts hR
    try dsimp only
    go_wp2_with fail
    refine bodyPost_ret (v := .tuple #[tokV tk (a : Int) te ts k c neg A n cp x, .nilIface]) ?_ rfl ?_
    · obtain ⟨e0, e1, e2, e3, e4, e5, e6, e7, e8, e9⟩ := HR.out
      simp [results, Tryz.results56, go_sem, e0, e1, e2, e3, e4, e5, e6, e7, e8, e9]
    · rw [HRQ.out]
      exact ⟨k, c, neg, A, n, cp, x, by rw [HEND.out], leaf_set HLF.out HB2.out (setTok_self _ _ _ _ _ _ _ _ _ _ _ _), HE.out⟩
  | error q =>
    obtain ⟨p, c⟩ := q
    rw [hR] at hres
    obtain ⟨v, rfl, he, k2⟩ := hres
    have HB2 := Lib.hid (k2.heap HB1.out (by simp))
    obtain ⟨⟨c0, c1, c2, c3, c4, c5, c6, c7, c8, c9⟩, f0, f1, f2, f3, f4, f5, f6, f7, f8, f9⟩ := tok_cells HB2.out
    have HE := Lib.hid (tok_err_end (HK1.out.trans k2) (Nat.le_refl _) HB2.out he (.int .i64 0) (.int .i64 0) (.int .i64 0) (.bool false) (.int .i64 0) (.int .i32 0) (.bool false) (.slice none 0 0) (.string ⟨#[]⟩) (.slice none 0 0))
    have HR := Lib.hid (tok_cells (setTok_row HB2.out (.int .i64 0) (.int .i64 0) (.int .i64 0) (.bool false) (.int .i64 0) (.int .i32 0) (.bool false) (.slice none 0 0) (.string ⟨#[]⟩) (.slice none 0 0))).1
    have HRQ := Lib.hid hR
    clear he k2 hR
    try dsimp only
    go_wp2_with fail
    refine bodyPost_ret (v := .tuple #[.agg tok0, v]) ?_ rfl (by rw [HRQ.out]; exact ⟨v, rfl, HE.out⟩)
    obtain ⟨e0, e1, e2, e3, e4, e5, e6, e7, e8, e9⟩ := HR.out
    simp [results, Tryz.results56, go_sem, e0, e1, e2, e3, e4, e5, e6, e7, e8, e9]
set_option maxRecDepth 100000 in
set_option maxHeartbeats 4000000 in
theorem tok_word (s : ByteArray) (a : Nat) (w : World) (hT : Tabs w) (ha : a < s.size) (hs : s.size ≤ 1000000) (hw : [91, 93, 40, 41, 39, 96, 44, 34, 124].all (fun x => decide (s.data.toList.getD a 0 ≠ x)) = true) (h4 : ¬ (a + 1 < s.size ∧ s.data.toList.getD a 0 = 35 ∧ s.data.toList.getD (a + 1) 0 = 40)) (h5 : ¬ (a + 1 < s.size ∧ s.data.toList.getD a 0 = 35 ∧ s.data.toList.getD (a + 1) 0 = 92)) (hne : (s.data.toList.drop a).takeWhile wordB ≠ []) :
    Calls Tryz.prog 56 #[.string s, .int .i64 (a : Int)] w (TkPost (wordR ((s.data.toList.drop a).takeWhile wordB)) a w) := by
  have HT := Lib.hid hT
  have hz : s.data.toList.length = s.size := (Lib.size_eq s).symm
  obtain ⟨c, hcc⟩ : ∃ c, c = s.data.toList.getD a 0 := ⟨_, rfl⟩
  have hx : ∀ W : World, (Instr.index 9 (.string s) (.int .i64 (a : Int))).run Tryz.prog W = .ok (.int .u8 (c.toNat : Int)) W := at_run s a (by rw [hz]; exact ha) c hcc
  rw [← hcc] at hw h4 h5
  have hc0 : [91, 93, 40, 41, 39, 96, 44, 34, 124].all (fun x => decide (c ≠ x)) = true := hw
  have g91 : ((c.toNat : Int) == 91) = false := byte_ne (by simp at hc0; exact hc0.1)
  have g93 : ((c.toNat : Int) == 93) = false := byte_ne (by simp at hc0; exact hc0.2.1)
  have g40 : ((c.toNat : Int) == 40) = false := byte_ne (by simp at hc0; exact hc0.2.2.1)
  have g41 : ((c.toNat : Int) == 41) = false := byte_ne (by simp at hc0; exact hc0.2.2.2.1)
  have g39 : ((c.toNat : Int) == 39) = false := byte_ne (by simp at hc0; exact hc0.2.2.2.2.1)
  have g96 : ((c.toNat : Int) == 96) = false := byte_ne (by simp at hc0; exact hc0.2.2.2.2.2.1)
  have g44 : ((c.toNat : Int) == 44) = false := byte_ne (by simp at hc0; exact hc0.2.2.2.2.2.2.1)
  have g34 : ((c.toNat : Int) == 34) = false := byte_ne (by simp at hc0; exact hc0.2.2.2.2.2.2.2.1)
  have g124 : ((c.toNat : Int) == 124) = false := byte_ne (by simp at hc0; exact hc0.2.2.2.2.2.2.2.2)
  have hp1 : Lib.hasPrefix (s.extract a s.size).data.toList [35, 40] = false := by
    rw [prefix_drop2 s a 35 40 ha, ← hcc]
    exact decide_eq_false (fun h => h4 ⟨h.1, h.2.1, h.2.2⟩)
  have hp2 : Lib.hasPrefix (s.extract a s.size).data.toList [35, 92] = false := by
    rw [prefix_drop2 s a 35 92 ha, ← hcc]
    exact decide_eq_false (fun h => h5 ⟨h.1, h.2.1, h.2.2⟩)
  have Hhp1 := Lib.hid hp1
  have Hhp2 := Lib.hid hp2
  have HWD := Lib.hid (fun w hT => word_any s a w hT (by omega) hs hne)
  obtain ⟨R, hRR⟩ : ∃ R, R = wordR ((s.data.toList.drop a).takeWhile wordB) := ⟨_, rfl⟩
  rw [← hRR] at HWD ⊢
  obtain ⟨d, hd⟩ : ∃ d, d = (c.toNat : Int) := ⟨_, rfl⟩
  rw [← hd] at hx g91 g93 g40 g41 g39 g96 g44 g34 g124
  clear hp1 hp2 hRR hc0 hcc hz hw h4 h5 hd hne
  have hb : (w.alloc (.cells tok0 29)).heap[w.heap.size]? = some (.cells tok0 29 (0, 0)) := heap_alloc_new w _
  have hb2 : ((w.alloc (.cells tok0 29)).alloc (.cells #[.int .i64 0, .int .i64 (a : Int), .int .i64 ((a : Int) + 1), .bool false, .int .i64 0, .int .i32 0, .bool false, .slice none 0 0, .string ⟨#[]⟩, .slice none 0 0] 29)).heap[w.heap.size]? = some (.cells tok0 29 (0, 0)) := by
    rw [Below.heap_alloc _ _ _ (by simp)]; exact hb
  have HB1 := Lib.hid hb2
  have HK1 := Lib.hid (show Keep (fun _ => False) w ((w.alloc (.cells tok0 29)).alloc (.cells #[.int .i64 0, .int .i64 (a : Int), .int .i64 ((a : Int) + 1), .bool false, .int .i64 0, .int .i32 0, .bool false, .slice none 0 0, .string ⟨#[]⟩, .slice none 0 0] 29)) from ((Keep.refl _ _).alloc _).alloc _)
  clear hb hb2
  clear hT
  go_enter Tryz.func56, Tryz.ntmps56
  go_wp2_with fail
  refine (Tryz.strings_HasPrefix _ _ _).mono ?_
  rintro e w1 ⟨rfl, rfl⟩
  rw [show Lib.hasPrefix (s.extract a s.size).data.toList (⟨#[35, 40]⟩ : ByteArray).data.toList = _ from Hhp1.out]
  try dsimp only
  go_wp2_with fail
  refine (Tryz.strings_HasPrefix _ _ _).mono ?_
  rintro e w1 ⟨rfl, rfl⟩
  rw [show Lib.hasPrefix (s.extract a s.size).data.toList (⟨#[35, 92]⟩ : ByteArray).data.toList = _ from Hhp2.out]
  try dsimp only
  go_wp2_with fail
  refine (HWD.out _ (HT.out.keep HK1.out)).mono ?_
  intro e w2 hres
  cases hR : R with
  | ok t =>
    rw [hR] at hres
    obtain ⟨k, c, neg, A, n, cp, x, he, hl, k2⟩ := hres
    obtain ⟨tk, htk⟩ : ∃ z : Int, z = (t.kind : Int) := ⟨_, rfl⟩
    obtain ⟨te, hte⟩ : ∃ z : Int, z = ((a + t.len : Nat) : Int) := ⟨_, rfl⟩
    obtain ⟨ts, hts⟩ : ∃ z : Bool, z = t.sq := ⟨_, rfl⟩
    rw [← htk, ← hte, ← hts] at he
    subst he
    have HEND := Lib.hid (show tokV tk (a : Int) te ts k c neg A n cp x = tokV t.kind (a : Int) ((a + t.len : Nat) : Int) t.sq k c neg A n cp x by rw [htk, hte, hts])
    have HB2 := Lib.hid (k2.heap HB1.out (by simp))
    have HK2 := Lib.hid (HK1.out.trans k2)
    have HLF := Lib.hid hl
    obtain ⟨⟨c0, c1, c2, c3, c4, c5, c6, c7, c8, c9⟩, f0, f1, f2, f3, f4, f5, f6, f7, f8, f9⟩ := tok_cells HB2.out
    have HE := Lib.hid (setTok_keep HK2.out (Nat.le_refl _) (.int .i64 tk) (.int .i64 (a : Int)) (.int .i64 te) (.bool ts) (.int .i64 k) (.int .i32 c) (.bool neg) (.slice A n cp) (.string x) (.slice none 0 0))
    have HR := Lib.hid (tok_cells (setTok_row HB2.out (.int .i64 tk) (.int .i64 (a : Int)) (.int .i64 te) (.bool ts) (.int .i64 k) (.int .i32 c) (.bool neg) (.slice A n cp) (.string x) (.slice none 0 0))).1
    have HRQ := Lib.hid hR
    clear hl k2 htk hte hts hR
    try dsimp only
    go_wp2_with fail
    refine bodyPost_ret (v := .tuple #[tokV tk (a : Int) te ts k c neg A n cp x, .nilIface]) ?_ rfl ?_
    · obtain ⟨e0, e1, e2, e3, e4, e5, e6, e7, e8, e9⟩ := HR.out
      simp [results, Tryz.results56, go_sem, e0, e1, e2, e3, e4, e5, e6, e7, e8, e9]
    · rw [HRQ.out]
      exact ⟨k, c, neg, A, n, cp, x, by rw [HEND.out], leaf_set HLF.out HB2.out (setTok_self _ _ _ _ _ _ _ _ _ _ _ _), HE.out⟩
  | error q =>
    obtain ⟨p, c⟩ := q
    rw [hR] at hres
    obtain ⟨v, rfl, he, k2⟩ := hres
    have HB2 := Lib.hid (k2.heap HB1.out (by simp))
    obtain ⟨⟨c0, c1, c2, c3, c4, c5, c6, c7, c8, c9⟩, f0, f1, f2, f3, f4, f5, f6, f7, f8, f9⟩ := tok_cells HB2.out
    have HE := Lib.hid (tok_err_end (HK1.out.trans k2) (Nat.le_refl _) HB2.out he (.int .i64 0) (.int .i64 0) (.int .i64 0) (.bool false) (.int .i64 0) (.int .i32 0) (.bool false) (.slice none 0 0) (.string ⟨#[]⟩) (.slice none 0 0))
    have HR := Lib.hid (tok_cells (setTok_row HB2.out (.int .i64 0) (.int .i64 0) (.int .i64 0) (.bool false) (.int .i64 0) (.int .i32 0) (.bool false) (.slice none 0 0) (.string ⟨#[]⟩) (.slice none 0 0))).1
    have HRQ := Lib.hid hR
    clear he k2 hR
    try dsimp only
    go_wp2_with fail
    refine bodyPost_ret (v := .tuple #[.agg tok0, v]) ?_ rfl (by rw [HRQ.out]; exact ⟨v, rfl, HE.out⟩)
    obtain ⟨e0, e1, e2, e3, e4, e5, e6, e7, e8, e9⟩ := HR.out
    simp [results, Tryz.results56, go_sem, e0, e1, e2, e3, e4, e5, e6, e7, e8, e9]
end Go.Proofs.YtonnikipeokkaaaGreatDoor
