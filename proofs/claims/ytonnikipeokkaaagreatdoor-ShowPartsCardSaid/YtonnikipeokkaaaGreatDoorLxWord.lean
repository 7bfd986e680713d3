/-
  lex: word.
-/
import Derived.Test.YtonnikipeokkaaaGreatDoorLxNum
namespace Go.Proofs.YtonnikipeokkaaaGreatDoor
open Go.RowKit Go.Lib

/-- A number's limbs, in a block of limbs. -/
structure NumAt (w : World) (A : Option Addr) (n c : Nat) (l : List Nat) : Prop where
  lim : LimbsAt w A n c l
  typ : 0 < n → ∀ b off, A = some ⟨b, off, none⟩ → ∃ X, w.heap[b]? = some (.cells X 126 (0, 0))
theorem NumAt.keep {w w' : World} {A : Option Addr} {n c : Nat} {l : List Nat} {S : Nat → Prop} (h : NumAt w A n c l) (k : Keep S w w') (hs : ∀ b, S b → ∀ X, w.heap[b]? ≠ some (.cells X 126 (0, 0))) : NumAt w' A n c l := by
  have hb : 0 < n → ∀ b off, A = some ⟨b, off, none⟩ → ¬ S b := fun hn b off e hS => by
    obtain ⟨X, hX⟩ := h.typ hn b off e
    exact hs b hS X hX
  exact ⟨h.lim.keep k hb, fun hn b off e => by
    obtain ⟨X, hX⟩ := h.typ hn b off e
    exact ⟨X, k.heap hX (hb hn b off e)⟩⟩
theorem NumAt.keep0 {w w' : World} {A : Option Addr} {n c : Nat} {l : List Nat} (h : NumAt w A n c l) (k : Keep (fun _ => False) w w') : NumAt w' A n c l := h.keep k (fun _ h => h.elim)
/-- A datum's token in memory: its kind, its char, its number, its text. -/
def LeafAt (w : World) (d : Leaf) (k c : Int) (neg : Bool) (A : Option Addr) (n cp : Nat) (t : ByteArray) : Prop :=
  match d with
  | .no => k = 0 ∧ c = 0 ∧ neg = false ∧ A = none ∧ n = 0 ∧ cp = 0 ∧ t = ⟨#[]⟩
  | .tru => k = 1 ∧ c = 0 ∧ neg = false ∧ A = none ∧ n = 0 ∧ cp = 0 ∧ t = ⟨#[]⟩
  | .fls => k = 2 ∧ c = 0 ∧ neg = false ∧ A = none ∧ n = 0 ∧ cp = 0 ∧ t = ⟨#[]⟩
  | .chr v => k = 3 ∧ c = (v : Int) ∧ neg = false ∧ A = none ∧ n = 0 ∧ cp = 0 ∧ t = ⟨#[]⟩
  | .int x => k = 4 ∧ c = 0 ∧ neg = decide (x < 0) ∧ NumAt w A n cp (limbs x.natAbs) ∧ n ≤ 48 ∧ t = ⟨#[]⟩
  | .str l => k = 5 ∧ c = 0 ∧ neg = false ∧ A = none ∧ n = 0 ∧ cp = 0 ∧ t = ⟨l.toArray⟩
  | .sym l => k = 6 ∧ c = 0 ∧ neg = false ∧ A = none ∧ n = 0 ∧ cp = 0 ∧ t = ⟨l.toArray⟩
theorem LeafAt.keep {w w' : World} {d : Leaf} {k c : Int} {neg : Bool} {A : Option Addr} {n cp : Nat} {t : ByteArray} (h : LeafAt w d k c neg A n cp t) (K : Keep (fun _ => False) w w') : LeafAt w' d k c neg A n cp t := by
  cases d
  case int x => exact ⟨h.1, h.2.1, h.2.2.1, h.2.2.2.1.keep0 K, h.2.2.2.2⟩
  all_goals exact h
/-- What a call answers that reads a token at a place. -/
def TkPost (r : Except (Nat × Nat) Tk) (a : Nat) (w : World) (e : Ending) (w' : World) : Prop :=
  match r with
  | .ok t => ∃ (k c : Int) (neg : Bool) (A : Option Addr) (n cp : Nat) (x : ByteArray), e = .returned (.tuple #[tokV t.kind a ((a + t.len : Nat) : Int) t.sq k c neg A n cp x, .nilIface]) ∧ LeafAt w' t.d k c neg A n cp x ∧ Keep (fun _ => False) w w'
  | .error (p, c) => ∃ v, e = .returned (.tuple #[.agg tok0, v]) ∧ ErrAt w' v ((a + p : Nat) : Int) c ∧ Keep (fun _ => False) w w'
/-- A word's token. -/
def wordR (W : List UInt8) : Except (Nat × Nat) Tk :=
  match wordV W with
  | .ok (k, d) => .ok ⟨k, W.length, false, d⟩
  | .error e => .error (0, e)
/-- What is known behind the first call of word. -/
structure WordSt (w : World) (s : ByteArray) (a : Nat) (W : List UInt8) (E : Nat) (t : ByteArray) : Prop where
  t : t.data.toList = W
  e : E = a + W.length
  le : E ≤ s.size
theorem word_start (s : ByteArray) (a : Nat) (w : World) (ha : a ≤ s.size) : WordSt w s a ((s.data.toList.drop a).takeWhile wordB) (scan wordB s.data.toList a) (s.extract a (scan wordB s.data.toList a)) := by
  have hz : s.data.toList.length = s.size := (Lib.size_eq s).symm
  refine ⟨?_, rfl, by rw [← hz]; exact scan_le _ (by omega)⟩
  rw [Lib.extract_data]
  unfold scan
  rw [show a + ((s.data.toList.drop a).takeWhile wordB).length - a = ((s.data.toList.drop a).takeWhile wordB).length by omega, tw_take]
theorem limbs_set {w w' : World} {A : Option Addr} {n c : Nat} {l : List Nat} {B : Nat} {Y : Array Value} (h : NumAt w A n c l) (hb : w.heap[B]? = some (.cells Y 29 (0, 0))) (k : Keep (fun b => b = B) w w') : NumAt w' A n c l := by
  refine h.keep k ?_
  rintro b rfl X hX
  rw [hb] at hX
  injection hX with hX
  injection hX with _ hX
  cases hX
theorem ResPost.fits {x : Int} {w w' : World} {e : Ending} (h : ResPost x w e w') (f : Fits x) : Keep (fun _ => False) w w' ∧ ∃ (A : Option Addr) (n c : Nat), e = .returned (.tuple #[numArg (decide (x < 0)) A n c, .int .i64 0]) ∧ NumAt w' A n c (limbs x.natAbs) ∧ n ≤ 48 := by
  obtain ⟨k, ⟨hn, _⟩ | ⟨A, n, c, _, he, own⟩⟩ := h
  · exact absurd f hn
  · refine ⟨k, A, n, c, he, ⟨own.num f, ?_⟩, by have := own.len; unfold Fits at f; omega⟩
    rintro hn b off rfl
    rcases own.2 with ⟨hv, h0⟩ | ⟨g, cap, cur, hv, hg, hh, h1, h2⟩
    · omega
    · injection hv with e1 _ _
      injection e1 with e1
      injection e1 with e1
      subst e1
      exact ⟨cur, hh⟩
theorem sym_leaf {W : List UInt8} {d : Leaf} (h : textL true W = .ok d) : d = .sym W := by
  unfold textL at h
  split at h
  · cases h
  split at h
  · cases h
  split at h
  · cases h
  · injection h with h; exact h.symm
set_option maxRecDepth 100000 in
set_option maxHeartbeats 4000000 in
theorem word_dot (s : ByteArray) (a : Nat) (w : World) (W : List UInt8) (E : Nat) (t : ByteArray) (hT : Tabs w) (ha : a ≤ s.size) (hs : s.size ≤ 1000000) (hne : W ≠ []) (hE : E = scan wordB s.data.toList a) (ht : t = s.extract a E) (hw : WordSt w s a W E t)  (h0 : W = [46]) :
    Calls Tryz.prog 91 #[.string s, .int .i64 (a : Int)] w (TkPost (.ok ⟨8, W.length, false, .no⟩) a w) := by
  subst ht
  have HT := Lib.hid hT
  have HW := Lib.hid hw
  have HNE := Lib.hid hne
  have b1 : a ≤ E := by have := hw.e; omega
  have b2 := hw.le
  have htl := hw.t
  have q0 : ((s.extract a E).toList == [46]) = true := eq_list _ (by rw [htl]; exact h0)
  clear h0
  have HRUN := Lib.hid (fun w => run_any s a 124 w ha hs)
  have hb : (w.alloc (.cells tok0 29)).heap[w.heap.size]? = some (.cells tok0 29 (0, 0)) := heap_alloc_new w _
  have HB1 := Lib.hid hb
  have HK1 := Lib.hid (show Keep (fun _ => False) w (w.alloc (.cells tok0 29)) from (Keep.refl _ _).alloc _)
  have HEX := Lib.hid hE
  have HTL := Lib.hid htl
  clear hT hb hE hw htl hne
  go_enter Tryz.func91, Tryz.ntmps91
  go_wp2_with fail
  refine (HRUN.out _).mono ?_
  rintro e w1 ⟨rfl, rfl⟩
  rw [passB_124, ← HEX.out]
  try dsimp only
  obtain ⟨⟨c0, c1, c2, c3, c4, c5, c6, c7, c8, c9⟩, f0, f1, f2, f3, f4, f5, f6, f7, f8, f9⟩ := tok_cells HB1.out
  have HE := Lib.hid (setTok_keep HK1.out (Nat.le_refl _) (.int .i64 8) (.int .i64 (a : Int)) (.int .i64 (E : Int)) (.bool false) (.int .i64 0) (.int .i32 0) (.bool false) (.slice none 0 0) (.string ⟨#[]⟩) (.slice none 0 0))
  have HR := Lib.hid (tok_cells (setTok_row HB1.out (.int .i64 8) (.int .i64 (a : Int)) (.int .i64 (E : Int)) (.bool false) (.int .i64 0) (.int .i32 0) (.bool false) (.slice none 0 0) (.string ⟨#[]⟩) (.slice none 0 0))).1
  generalize w.alloc (.cells tok0 29) = w1 at *
  generalize w.heap.size = B at *
  go_wp2_with fail
  refine bodyPost_ret (v := .tuple #[tokV 8 (a : Int) (E : Int) false 0 0 false none 0 0 ⟨#[]⟩, .nilIface]) ?_ rfl ?_
  · obtain ⟨e0, e1, e2, e3, e4, e5, e6, e7, e8, e9⟩ := HR.out
    simp [results, Tryz.results91, go_sem, e0, e1, e2, e3, e4, e5, e6, e7, e8, e9]
  · exact ⟨0, 0, false, none, 0, 0, ⟨#[]⟩, by rw [← HW.out.e]; rfl, ⟨rfl, rfl, rfl, rfl, rfl, rfl, rfl⟩, HE.out⟩
set_option maxRecDepth 100000 in
set_option maxHeartbeats 4000000 in
theorem word_t1 (s : ByteArray) (a : Nat) (w : World) (W : List UInt8) (E : Nat) (t : ByteArray) (hT : Tabs w) (ha : a ≤ s.size) (hs : s.size ≤ 1000000) (hne : W ≠ []) (hE : E = scan wordB s.data.toList a) (ht : t = s.extract a E) (hw : WordSt w s a W E t) (h0 : ¬ W = [46]) (h1 : W = [35, 116]) :
    Calls Tryz.prog 91 #[.string s, .int .i64 (a : Int)] w (TkPost (.ok ⟨9, W.length, false, .tru⟩) a w) := by
  subst ht
  have HT := Lib.hid hT
  have HW := Lib.hid hw
  have HNE := Lib.hid hne
  have b1 : a ≤ E := by have := hw.e; omega
  have b2 := hw.le
  have htl := hw.t
  have q0 : ((s.extract a E).toList == [46]) = false := ne_list _ (by rw [htl]; exact h0)
  have q1 : ((s.extract a E).toList == [35, 116]) = true := eq_list _ (by rw [htl]; exact h1)
  clear h0 h1
  have HRUN := Lib.hid (fun w => run_any s a 124 w ha hs)
  have hb : (w.alloc (.cells tok0 29)).heap[w.heap.size]? = some (.cells tok0 29 (0, 0)) := heap_alloc_new w _
  have HB1 := Lib.hid hb
  have HK1 := Lib.hid (show Keep (fun _ => False) w (w.alloc (.cells tok0 29)) from (Keep.refl _ _).alloc _)
  have HEX := Lib.hid hE
  have HTL := Lib.hid htl
  clear hT hb hE hw htl hne
  go_enter Tryz.func91, Tryz.ntmps91
  go_wp2_with fail
  refine (HRUN.out _).mono ?_
  rintro e w1 ⟨rfl, rfl⟩
  rw [passB_124, ← HEX.out]
  try dsimp only
  go_wp2_with fail
  refine (atom_any 1 0 false none 0 0 ⟨#[]⟩ a E _).mono ?_
  rintro e w2 ⟨rfl, k2⟩
  have HB2 := Lib.hid (k2.heap HB1.out (by simp))
  have HK2 := Lib.hid (HK1.out.trans k2)
  clear k2
  obtain ⟨⟨c0, c1, c2, c3, c4, c5, c6, c7, c8, c9⟩, f0, f1, f2, f3, f4, f5, f6, f7, f8, f9⟩ := tok_cells HB2.out
  have HE := Lib.hid (setTok_keep HK2.out (Nat.le_refl _) (.int .i64 9) (.int .i64 (a : Int)) (.int .i64 (E : Int)) (.bool false) (.int .i64 1) (.int .i32 0) (.bool false) (.slice none 0 0) (.string ⟨#[]⟩) (.slice none 0 0))
  have HR := Lib.hid (tok_cells (setTok_row HB2.out (.int .i64 9) (.int .i64 (a : Int)) (.int .i64 (E : Int)) (.bool false) (.int .i64 1) (.int .i32 0) (.bool false) (.slice none 0 0) (.string ⟨#[]⟩) (.slice none 0 0))).1
  try dsimp only
  go_wp2_with fail
  refine bodyPost_ret (v := .tuple #[tokV 9 (a : Int) (E : Int) false 1 0 false none 0 0 ⟨#[]⟩, .nilIface]) ?_ rfl ?_
  · obtain ⟨e0, e1, e2, e3, e4, e5, e6, e7, e8, e9⟩ := HR.out
    simp [results, Tryz.results91, go_sem, e0, e1, e2, e3, e4, e5, e6, e7, e8, e9]
  · exact ⟨1, 0, false, none, 0, 0, ⟨#[]⟩, by rw [← HW.out.e]; rfl, ⟨rfl, rfl, rfl, rfl, rfl, rfl, rfl⟩, HE.out⟩
set_option maxRecDepth 100000 in
set_option maxHeartbeats 4000000 in
theorem word_t2 (s : ByteArray) (a : Nat) (w : World) (W : List UInt8) (E : Nat) (t : ByteArray) (hT : Tabs w) (ha : a ≤ s.size) (hs : s.size ≤ 1000000) (hne : W ≠ []) (hE : E = scan wordB s.data.toList a) (ht : t = s.extract a E) (hw : WordSt w s a W E t) (h0 : ¬ W = [46]) (h1 : ¬ W = [35, 116]) (h2 : W = [35, 116, 114, 117, 101]) :
    Calls Tryz.prog 91 #[.string s, .int .i64 (a : Int)] w (TkPost (.ok ⟨9, W.length, false, .tru⟩) a w) := by
  subst ht
  have HT := Lib.hid hT
  have HW := Lib.hid hw
  have HNE := Lib.hid hne
  have b1 : a ≤ E := by have := hw.e; omega
  have b2 := hw.le
  have htl := hw.t
  have q0 : ((s.extract a E).toList == [46]) = false := ne_list _ (by rw [htl]; exact h0)
  have q1 : ((s.extract a E).toList == [35, 116]) = false := ne_list _ (by rw [htl]; exact h1)
  have q2 : ((s.extract a E).toList == [35, 116, 114, 117, 101]) = true := eq_list _ (by rw [htl]; exact h2)
  clear h0 h1 h2
  have HRUN := Lib.hid (fun w => run_any s a 124 w ha hs)
  have hb : (w.alloc (.cells tok0 29)).heap[w.heap.size]? = some (.cells tok0 29 (0, 0)) := heap_alloc_new w _
  have HB1 := Lib.hid hb
  have HK1 := Lib.hid (show Keep (fun _ => False) w (w.alloc (.cells tok0 29)) from (Keep.refl _ _).alloc _)
  have HEX := Lib.hid hE
  have HTL := Lib.hid htl
  clear hT hb hE hw htl hne
  go_enter Tryz.func91, Tryz.ntmps91
  go_wp2_with fail
  refine (HRUN.out _).mono ?_
  rintro e w1 ⟨rfl, rfl⟩
  rw [passB_124, ← HEX.out]
  try dsimp only
  go_wp2_with fail
  refine (atom_any 1 0 false none 0 0 ⟨#[]⟩ a E _).mono ?_
  rintro e w2 ⟨rfl, k2⟩
  have HB2 := Lib.hid (k2.heap HB1.out (by simp))
  have HK2 := Lib.hid (HK1.out.trans k2)
  clear k2
  obtain ⟨⟨c0, c1, c2, c3, c4, c5, c6, c7, c8, c9⟩, f0, f1, f2, f3, f4, f5, f6, f7, f8, f9⟩ := tok_cells HB2.out
  have HE := Lib.hid (setTok_keep HK2.out (Nat.le_refl _) (.int .i64 9) (.int .i64 (a : Int)) (.int .i64 (E : Int)) (.bool false) (.int .i64 1) (.int .i32 0) (.bool false) (.slice none 0 0) (.string ⟨#[]⟩) (.slice none 0 0))
  have HR := Lib.hid (tok_cells (setTok_row HB2.out (.int .i64 9) (.int .i64 (a : Int)) (.int .i64 (E : Int)) (.bool false) (.int .i64 1) (.int .i32 0) (.bool false) (.slice none 0 0) (.string ⟨#[]⟩) (.slice none 0 0))).1
  try dsimp only
  go_wp2_with fail
  refine bodyPost_ret (v := .tuple #[tokV 9 (a : Int) (E : Int) false 1 0 false none 0 0 ⟨#[]⟩, .nilIface]) ?_ rfl ?_
  · obtain ⟨e0, e1, e2, e3, e4, e5, e6, e7, e8, e9⟩ := HR.out
    simp [results, Tryz.results91, go_sem, e0, e1, e2, e3, e4, e5, e6, e7, e8, e9]
  · exact ⟨1, 0, false, none, 0, 0, ⟨#[]⟩, by rw [← HW.out.e]; rfl, ⟨rfl, rfl, rfl, rfl, rfl, rfl, rfl⟩, HE.out⟩
set_option maxRecDepth 100000 in
set_option maxHeartbeats 4000000 in
theorem word_f1 (s : ByteArray) (a : Nat) (w : World) (W : List UInt8) (E : Nat) (t : ByteArray) (hT : Tabs w) (ha : a ≤ s.size) (hs : s.size ≤ 1000000) (hne : W ≠ []) (hE : E = scan wordB s.data.toList a) (ht : t = s.extract a E) (hw : WordSt w s a W E t) (h0 : ¬ W = [46]) (h1 : ¬ W = [35, 116]) (h2 : ¬ W = [35, 116, 114, 117, 101]) (h3 : W = [35, 102]) :
    Calls Tryz.prog 91 #[.string s, .int .i64 (a : Int)] w (TkPost (.ok ⟨9, W.length, false, .fls⟩) a w) := by
  subst ht
  have HT := Lib.hid hT
  have HW := Lib.hid hw
  have HNE := Lib.hid hne
  have b1 : a ≤ E := by have := hw.e; omega
  have b2 := hw.le
  have htl := hw.t
  have q0 : ((s.extract a E).toList == [46]) = false := ne_list _ (by rw [htl]; exact h0)
  have q1 : ((s.extract a E).toList == [35, 116]) = false := ne_list _ (by rw [htl]; exact h1)
  have q2 : ((s.extract a E).toList == [35, 116, 114, 117, 101]) = false := ne_list _ (by rw [htl]; exact h2)
  have q3 : ((s.extract a E).toList == [35, 102]) = true := eq_list _ (by rw [htl]; exact h3)
  clear h0 h1 h2 h3
  have HRUN := Lib.hid (fun w => run_any s a 124 w ha hs)
  have hb : (w.alloc (.cells tok0 29)).heap[w.heap.size]? = some (.cells tok0 29 (0, 0)) := heap_alloc_new w _
  have HB1 := Lib.hid hb
  have HK1 := Lib.hid (show Keep (fun _ => False) w (w.alloc (.cells tok0 29)) from (Keep.refl _ _).alloc _)
  have HEX := Lib.hid hE
  have HTL := Lib.hid htl
  clear hT hb hE hw htl hne
  go_enter Tryz.func91, Tryz.ntmps91
  go_wp2_with fail
  refine (HRUN.out _).mono ?_
  rintro e w1 ⟨rfl, rfl⟩
  rw [passB_124, ← HEX.out]
  try dsimp only
  go_wp2_with fail
  refine (atom_any 2 0 false none 0 0 ⟨#[]⟩ a E _).mono ?_
  rintro e w2 ⟨rfl, k2⟩
  have HB2 := Lib.hid (k2.heap HB1.out (by simp))
  have HK2 := Lib.hid (HK1.out.trans k2)
  clear k2
  obtain ⟨⟨c0, c1, c2, c3, c4, c5, c6, c7, c8, c9⟩, f0, f1, f2, f3, f4, f5, f6, f7, f8, f9⟩ := tok_cells HB2.out
  have HE := Lib.hid (setTok_keep HK2.out (Nat.le_refl _) (.int .i64 9) (.int .i64 (a : Int)) (.int .i64 (E : Int)) (.bool false) (.int .i64 2) (.int .i32 0) (.bool false) (.slice none 0 0) (.string ⟨#[]⟩) (.slice none 0 0))
  have HR := Lib.hid (tok_cells (setTok_row HB2.out (.int .i64 9) (.int .i64 (a : Int)) (.int .i64 (E : Int)) (.bool false) (.int .i64 2) (.int .i32 0) (.bool false) (.slice none 0 0) (.string ⟨#[]⟩) (.slice none 0 0))).1
  try dsimp only
  go_wp2_with fail
  refine bodyPost_ret (v := .tuple #[tokV 9 (a : Int) (E : Int) false 2 0 false none 0 0 ⟨#[]⟩, .nilIface]) ?_ rfl ?_
  · obtain ⟨e0, e1, e2, e3, e4, e5, e6, e7, e8, e9⟩ := HR.out
    simp [results, Tryz.results91, go_sem, e0, e1, e2, e3, e4, e5, e6, e7, e8, e9]
  · exact ⟨2, 0, false, none, 0, 0, ⟨#[]⟩, by rw [← HW.out.e]; rfl, ⟨rfl, rfl, rfl, rfl, rfl, rfl, rfl⟩, HE.out⟩
set_option maxRecDepth 100000 in
set_option maxHeartbeats 4000000 in
theorem word_f2 (s : ByteArray) (a : Nat) (w : World) (W : List UInt8) (E : Nat) (t : ByteArray) (hT : Tabs w) (ha : a ≤ s.size) (hs : s.size ≤ 1000000) (hne : W ≠ []) (hE : E = scan wordB s.data.toList a) (ht : t = s.extract a E) (hw : WordSt w s a W E t) (h0 : ¬ W = [46]) (h1 : ¬ W = [35, 116]) (h2 : ¬ W = [35, 116, 114, 117, 101]) (h3 : ¬ W = [35, 102]) (h4 : W = [35, 102, 97, 108, 115, 101]) :
    Calls Tryz.prog 91 #[.string s, .int .i64 (a : Int)] w (TkPost (.ok ⟨9, W.length, false, .fls⟩) a w) := by
  subst ht
  have HT := Lib.hid hT
  have HW := Lib.hid hw
  have HNE := Lib.hid hne
  have b1 : a ≤ E := by have := hw.e; omega
  have b2 := hw.le
  have htl := hw.t
  have q0 : ((s.extract a E).toList == [46]) = false := ne_list _ (by rw [htl]; exact h0)
  have q1 : ((s.extract a E).toList == [35, 116]) = false := ne_list _ (by rw [htl]; exact h1)
  have q2 : ((s.extract a E).toList == [35, 116, 114, 117, 101]) = false := ne_list _ (by rw [htl]; exact h2)
  have q3 : ((s.extract a E).toList == [35, 102]) = false := ne_list _ (by rw [htl]; exact h3)
  have q4 : ((s.extract a E).toList == [35, 102, 97, 108, 115, 101]) = true := eq_list _ (by rw [htl]; exact h4)
  clear h0 h1 h2 h3 h4
  have HRUN := Lib.hid (fun w => run_any s a 124 w ha hs)
  have hb : (w.alloc (.cells tok0 29)).heap[w.heap.size]? = some (.cells tok0 29 (0, 0)) := heap_alloc_new w _
  have HB1 := Lib.hid hb
  have HK1 := Lib.hid (show Keep (fun _ => False) w (w.alloc (.cells tok0 29)) from (Keep.refl _ _).alloc _)
  have HEX := Lib.hid hE
  have HTL := Lib.hid htl
  clear hT hb hE hw htl hne
  go_enter Tryz.func91, Tryz.ntmps91
  go_wp2_with fail
  refine (HRUN.out _).mono ?_
  rintro e w1 ⟨rfl, rfl⟩
  rw [passB_124, ← HEX.out]
  try dsimp only
  go_wp2_with fail
  refine (atom_any 2 0 false none 0 0 ⟨#[]⟩ a E _).mono ?_
  rintro e w2 ⟨rfl, k2⟩
  have HB2 := Lib.hid (k2.heap HB1.out (by simp))
  have HK2 := Lib.hid (HK1.out.trans k2)
  clear k2
  obtain ⟨⟨c0, c1, c2, c3, c4, c5, c6, c7, c8, c9⟩, f0, f1, f2, f3, f4, f5, f6, f7, f8, f9⟩ := tok_cells HB2.out
  have HE := Lib.hid (setTok_keep HK2.out (Nat.le_refl _) (.int .i64 9) (.int .i64 (a : Int)) (.int .i64 (E : Int)) (.bool false) (.int .i64 2) (.int .i32 0) (.bool false) (.slice none 0 0) (.string ⟨#[]⟩) (.slice none 0 0))
  have HR := Lib.hid (tok_cells (setTok_row HB2.out (.int .i64 9) (.int .i64 (a : Int)) (.int .i64 (E : Int)) (.bool false) (.int .i64 2) (.int .i32 0) (.bool false) (.slice none 0 0) (.string ⟨#[]⟩) (.slice none 0 0))).1
  try dsimp only
  go_wp2_with fail
  refine bodyPost_ret (v := .tuple #[tokV 9 (a : Int) (E : Int) false 2 0 false none 0 0 ⟨#[]⟩, .nilIface]) ?_ rfl ?_
  · obtain ⟨e0, e1, e2, e3, e4, e5, e6, e7, e8, e9⟩ := HR.out
    simp [results, Tryz.results91, go_sem, e0, e1, e2, e3, e4, e5, e6, e7, e8, e9]
  · exact ⟨2, 0, false, none, 0, 0, ⟨#[]⟩, by rw [← HW.out.e]; rfl, ⟨rfl, rfl, rfl, rfl, rfl, rfl, rfl⟩, HE.out⟩
set_option maxRecDepth 100000 in
set_option maxHeartbeats 4000000 in
theorem word_sharp (s : ByteArray) (a : Nat) (w : World) (W : List UInt8) (E : Nat) (t : ByteArray) (hT : Tabs w) (ha : a ≤ s.size) (hs : s.size ≤ 1000000) (hne : W ≠ []) (hE : E = scan wordB s.data.toList a) (ht : t = s.extract a E) (hw : WordSt w s a W E t) (h0 : ¬ W = [46]) (h1 : ¬ W = [35, 116]) (h2 : ¬ W = [35, 116, 114, 117, 101]) (h3 : ¬ W = [35, 102]) (h4 : ¬ W = [35, 102, 97, 108, 115, 101]) (hash : W.getD 0 0 = 35) :
    Calls Tryz.prog 91 #[.string s, .int .i64 (a : Int)] w (TkPost (.error (0, 9)) a w) := by
  subst ht
  have HT := Lib.hid hT
  have HW := Lib.hid hw
  have HNE := Lib.hid hne
  have b1 : a ≤ E := by have := hw.e; omega
  have b2 := hw.le
  have htl := hw.t
  have hx0 := at_run (s.extract a E) 0 (by rw [htl]; exact List.length_pos_iff.2 hne) (W.getD 0 0) (by rw [htl])
  have hx : ∀ W' : World, (Instr.index 9 (.string (s.extract a E)) (.int .i64 0)).run Tryz.prog W' = .ok (.int .u8 ((W.getD 0 0).toNat : Int)) W' := hx0
  have q0 : ((s.extract a E).toList == [46]) = false := ne_list _ (by rw [htl]; exact h0)
  have q1 : ((s.extract a E).toList == [35, 116]) = false := ne_list _ (by rw [htl]; exact h1)
  have q2 : ((s.extract a E).toList == [35, 116, 114, 117, 101]) = false := ne_list _ (by rw [htl]; exact h2)
  have q3 : ((s.extract a E).toList == [35, 102]) = false := ne_list _ (by rw [htl]; exact h3)
  have q4 : ((s.extract a E).toList == [35, 102, 97, 108, 115, 101]) = false := ne_list _ (by rw [htl]; exact h4)
  clear h0 h1 h2 h3 h4
  have hh : ∀ W' : World, (Instr.index 9 (.string (s.extract a E)) (.int .i64 0)).run Tryz.prog W' = .ok (.int .u8 35) W' := by
    intro W'; rw [hx W', hash]; rfl
  clear hx0 hx hash
  have HRUN := Lib.hid (fun w => run_any s a 124 w ha hs)
  have hb : (w.alloc (.cells tok0 29)).heap[w.heap.size]? = some (.cells tok0 29 (0, 0)) := heap_alloc_new w _
  have HB1 := Lib.hid hb
  have HK1 := Lib.hid (show Keep (fun _ => False) w (w.alloc (.cells tok0 29)) from (Keep.refl _ _).alloc _)
  have HEX := Lib.hid hE
  have HTL := Lib.hid htl
  clear hT hb hE hw htl hne
  go_enter Tryz.func91, Tryz.ntmps91
  go_wp2_with fail
  refine (HRUN.out _).mono ?_
  rintro e w1 ⟨rfl, rfl⟩
  rw [passB_124, ← HEX.out]
  try dsimp only
  go_wp2_with fail
  refine (wrong_any _ _ _ _).mono ?_
  rintro e w7 ⟨v, rfl, he, k7⟩
  have HB7 := Lib.hid (k7.heap HB1.out (by simp))
  obtain ⟨⟨c0, c1, c2, c3, c4, c5, c6, c7, c8, c9⟩, f0, f1, f2, f3, f4, f5, f6, f7, f8, f9⟩ := tok_cells HB7.out
  have HE := Lib.hid (tok_err_end (HK1.out.trans k7) (Nat.le_refl _) HB7.out he (.int .i64 0) (.int .i64 0) (.int .i64 0) (.bool false) (.int .i64 0) (.int .i32 0) (.bool false) (.slice none 0 0) (.string ⟨#[]⟩) (.slice none 0 0))
  have HR := Lib.hid (tok_cells (setTok_row HB7.out (.int .i64 0) (.int .i64 0) (.int .i64 0) (.bool false) (.int .i64 0) (.int .i32 0) (.bool false) (.slice none 0 0) (.string ⟨#[]⟩) (.slice none 0 0))).1
  clear he k7
  try dsimp only
  go_wp2_with fail
  refine bodyPost_ret (v := .tuple #[.agg tok0, v]) ?_ rfl ?_
  · obtain ⟨e0, e1, e2, e3, e4, e5, e6, e7, e8, e9⟩ := HR.out
    simp [results, Tryz.results91, go_sem, e0, e1, e2, e3, e4, e5, e6, e7, e8, e9]
  · exact ⟨v, rfl, HE.out⟩
set_option maxRecDepth 100000 in
set_option maxHeartbeats 4000000 in
theorem word_big (s : ByteArray) (a : Nat) (w : World) (W : List UInt8) (E : Nat) (t : ByteArray) (hT : Tabs w) (ha : a ≤ s.size) (hs : s.size ≤ 1000000) (hne : W ≠ []) (hE : E = scan wordB s.data.toList a) (ht : t = s.extract a E) (hw : WordSt w s a W E t) (h0 : ¬ W = [46]) (h1 : ¬ W = [35, 116]) (h2 : ¬ W = [35, 116, 114, 117, 101]) (h3 : ¬ W = [35, 102]) (h4 : ¬ W = [35, 102, 97, 108, 115, 101]) (hash : ¬ W.getD 0 0 = 35) (x : Int) (hp : parseV W = some x) (hf : ¬ Fits x) :
    Calls Tryz.prog 91 #[.string s, .int .i64 (a : Int)] w (TkPost (.error (0, 6)) a w) := by
  subst ht
  have HT := Lib.hid hT
  have HW := Lib.hid hw
  have HNE := Lib.hid hne
  have b1 : a ≤ E := by have := hw.e; omega
  have b2 := hw.le
  have htl := hw.t
  have hx0 := at_run (s.extract a E) 0 (by rw [htl]; exact List.length_pos_iff.2 hne) (W.getD 0 0) (by rw [htl])
  have hx : ∀ W' : World, (Instr.index 9 (.string (s.extract a E)) (.int .i64 0)).run Tryz.prog W' = .ok (.int .u8 ((W.getD 0 0).toNat : Int)) W' := hx0
  have q0 : ((s.extract a E).toList == [46]) = false := ne_list _ (by rw [htl]; exact h0)
  have q1 : ((s.extract a E).toList == [35, 116]) = false := ne_list _ (by rw [htl]; exact h1)
  have q2 : ((s.extract a E).toList == [35, 116, 114, 117, 101]) = false := ne_list _ (by rw [htl]; exact h2)
  have q3 : ((s.extract a E).toList == [35, 102]) = false := ne_list _ (by rw [htl]; exact h3)
  have q4 : ((s.extract a E).toList == [35, 102, 97, 108, 115, 101]) = false := ne_list _ (by rw [htl]; exact h4)
  clear h0 h1 h2 h3 h4
  have e35 : (((W.getD 0 0).toNat : Int) == 35) = false := byte_ne hash
  obtain ⟨c, hcc⟩ : ∃ c, c = ((W.getD 0 0).toNat : Int) := ⟨_, rfl⟩
  rw [← hcc] at hx e35
  clear hx0 hash hcc
  have HSZ := Lib.hid (show (s.extract a E).size ≤ 1000000 by rw [Lib.size_eq, Lib.extract_data]; have := List.length_take_le (E - a) (s.data.toList.drop a); have := hw.le; omega)
  have HPV := Lib.hid hp
  have HF := Lib.hid hf
  clear hp hf
  have HRUN := Lib.hid (fun w => run_any s a 124 w ha hs)
  have hb : (w.alloc (.cells tok0 29)).heap[w.heap.size]? = some (.cells tok0 29 (0, 0)) := heap_alloc_new w _
  have HB1 := Lib.hid hb
  have HK1 := Lib.hid (show Keep (fun _ => False) w (w.alloc (.cells tok0 29)) from (Keep.refl _ _).alloc _)
  have HEX := Lib.hid hE
  have HTL := Lib.hid htl
  clear hT hb hE hw htl hne
  go_enter Tryz.func91, Tryz.ntmps91
  go_wp2_with fail
  refine (HRUN.out _).mono ?_
  rintro e w1 ⟨rfl, rfl⟩
  rw [passB_124, ← HEX.out]
  try dsimp only
  go_wp2_with fail
  refine (number_any (s.extract a E) _ (by rw [HTL.out]; exact HNE.out) HSZ.out).mono ?_
  rintro e w2 ⟨rfl, k2⟩
  rw [HTL.out, HPV.out]
  have HB2 := Lib.hid (k2.heap HB1.out (by simp))
  have HK2 := Lib.hid (HK1.out.trans k2)
  clear k2
  try dsimp only [Option.isSome]
  go_wp2_with fail
  refine (parse_any (s.extract a E) w2 HSZ.out).mono ?_
  intro e w3 hres
  unfold ParsePost at hres
  rw [HTL.out, HPV.out] at hres
  have hres : ResPost x w2 e w3 := hres
  obtain ⟨k3, ⟨_, rfl⟩ | ⟨A, n, cp, hx2, _⟩⟩ := hres
  case inr => exact absurd hx2 HF.out
  have k4 := k3.alloc (.cells #[.bool false, .slice none 0 0] 24)
  have HB3 := Lib.hid (k4.heap HB2.out (by simp))
  have HK3 := Lib.hid (HK2.out.trans k4)
  clear k3 k4
  try dsimp only
  go_wp2_with fail
  refine (wrong_any _ _ _ _).mono ?_
  rintro e w7 ⟨v, rfl, he, k7⟩
  have HB7 := Lib.hid (k7.heap HB3.out (by simp))
  obtain ⟨⟨c0, c1, c2, c3, c4, c5, c6, c7, c8, c9⟩, f0, f1, f2, f3, f4, f5, f6, f7, f8, f9⟩ := tok_cells HB7.out
  have HE := Lib.hid (tok_err_end (HK3.out.trans k7) (Nat.le_refl _) HB7.out he (.int .i64 0) (.int .i64 0) (.int .i64 0) (.bool false) (.int .i64 0) (.int .i32 0) (.bool false) (.slice none 0 0) (.string ⟨#[]⟩) (.slice none 0 0))
  have HR := Lib.hid (tok_cells (setTok_row HB7.out (.int .i64 0) (.int .i64 0) (.int .i64 0) (.bool false) (.int .i64 0) (.int .i32 0) (.bool false) (.slice none 0 0) (.string ⟨#[]⟩) (.slice none 0 0))).1
  clear he k7
  try dsimp only
  go_wp2_with fail
  refine bodyPost_ret (v := .tuple #[.agg tok0, v]) ?_ rfl ?_
  · obtain ⟨e0, e1, e2, e3, e4, e5, e6, e7, e8, e9⟩ := HR.out
    simp [results, Tryz.results91, go_sem, e0, e1, e2, e3, e4, e5, e6, e7, e8, e9]
  · exact ⟨v, rfl, HE.out⟩
set_option maxRecDepth 100000 in
set_option maxHeartbeats 4000000 in
theorem word_int (s : ByteArray) (a : Nat) (w : World) (W : List UInt8) (E : Nat) (t : ByteArray) (hT : Tabs w) (ha : a ≤ s.size) (hs : s.size ≤ 1000000) (hne : W ≠ []) (hE : E = scan wordB s.data.toList a) (ht : t = s.extract a E) (hw : WordSt w s a W E t) (h0 : ¬ W = [46]) (h1 : ¬ W = [35, 116]) (h2 : ¬ W = [35, 116, 114, 117, 101]) (h3 : ¬ W = [35, 102]) (h4 : ¬ W = [35, 102, 97, 108, 115, 101]) (hash : ¬ W.getD 0 0 = 35) (x : Int) (hp : parseV W = some x) (hf : Fits x) :
    Calls Tryz.prog 91 #[.string s, .int .i64 (a : Int)] w (TkPost (.ok ⟨9, W.length, false, .int x⟩) a w) := by
  subst ht
  have HT := Lib.hid hT
  have HW := Lib.hid hw
  have HNE := Lib.hid hne
  have b1 : a ≤ E := by have := hw.e; omega
  have b2 := hw.le
  have htl := hw.t
  have hx0 := at_run (s.extract a E) 0 (by rw [htl]; exact List.length_pos_iff.2 hne) (W.getD 0 0) (by rw [htl])
  have hx : ∀ W' : World, (Instr.index 9 (.string (s.extract a E)) (.int .i64 0)).run Tryz.prog W' = .ok (.int .u8 ((W.getD 0 0).toNat : Int)) W' := hx0
  have q0 : ((s.extract a E).toList == [46]) = false := ne_list _ (by rw [htl]; exact h0)
  have q1 : ((s.extract a E).toList == [35, 116]) = false := ne_list _ (by rw [htl]; exact h1)
  have q2 : ((s.extract a E).toList == [35, 116, 114, 117, 101]) = false := ne_list _ (by rw [htl]; exact h2)
  have q3 : ((s.extract a E).toList == [35, 102]) = false := ne_list _ (by rw [htl]; exact h3)
  have q4 : ((s.extract a E).toList == [35, 102, 97, 108, 115, 101]) = false := ne_list _ (by rw [htl]; exact h4)
  clear h0 h1 h2 h3 h4
  have e35 : (((W.getD 0 0).toNat : Int) == 35) = false := byte_ne hash
  obtain ⟨c, hcc⟩ : ∃ c, c = ((W.getD 0 0).toNat : Int) := ⟨_, rfl⟩
  rw [← hcc] at hx e35
  clear hx0 hash hcc
  have HSZ := Lib.hid (show (s.extract a E).size ≤ 1000000 by rw [Lib.size_eq, Lib.extract_data]; have := List.length_take_le (E - a) (s.data.toList.drop a); have := hw.le; omega)
  have HPV := Lib.hid hp
  have HF := Lib.hid hf
  clear hp hf
  have HRUN := Lib.hid (fun w => run_any s a 124 w ha hs)
  have hb : (w.alloc (.cells tok0 29)).heap[w.heap.size]? = some (.cells tok0 29 (0, 0)) := heap_alloc_new w _
  have HB1 := Lib.hid hb
  have HK1 := Lib.hid (show Keep (fun _ => False) w (w.alloc (.cells tok0 29)) from (Keep.refl _ _).alloc _)
  have HEX := Lib.hid hE
  have HTL := Lib.hid htl
  clear hT hb hE hw htl hne
  go_enter Tryz.func91, Tryz.ntmps91
  go_wp2_with fail
  refine (HRUN.out _).mono ?_
  rintro e w1 ⟨rfl, rfl⟩
  rw [passB_124, ← HEX.out]
  try dsimp only
  go_wp2_with fail
  refine (number_any (s.extract a E) _ (by rw [HTL.out]; exact HNE.out) HSZ.out).mono ?_
  rintro e w2 ⟨rfl, k2⟩
  rw [HTL.out, HPV.out]
  have HB2 := Lib.hid (k2.heap HB1.out (by simp))
  have HK2 := Lib.hid (HK1.out.trans k2)
  clear k2
  try dsimp only [Option.isSome]
  go_wp2_with fail
  refine (parse_any (s.extract a E) w2 HSZ.out).mono ?_
  intro e w3 hres
  unfold ParsePost at hres
  rw [HTL.out, HPV.out] at hres
  have hres : ResPost x w2 e w3 := hres
  obtain ⟨k3, A, n, cp, rfl, hL, hn⟩ := hres.fits HF.out
  obtain ⟨z, hzz⟩ : ∃ z, z = decide (x < 0) := ⟨_, rfl⟩
  rw [← hzz]
  have HZZ := Lib.hid hzz
  clear hres hzz
  have k4 := k3.alloc (.cells #[.bool z, .slice A n cp] 24)
  have HL := Lib.hid (hL.keep0 ((Keep.refl _ _).alloc (.cells #[.bool z, .slice A n cp] 24)))
  have HN := Lib.hid hn
  have HB3 := Lib.hid (k4.heap HB2.out (by simp))
  have HK3 := Lib.hid (HK2.out.trans k4)
  clear k3 k4 hL hn
  try dsimp only
  go_wp2_with fail
  refine (atom_any 4 0 z A n cp ⟨#[]⟩ a E _).mono ?_
  rintro e w5 ⟨rfl, k5⟩
  have HB5 := Lib.hid (k5.heap HB3.out (by simp))
  have HK5 := Lib.hid (HK3.out.trans k5)
  have HL5 := Lib.hid (HL.out.keep0 k5)
  clear k5
  obtain ⟨⟨c0, c1, c2, c3, c4, c5, c6, c7, c8, c9⟩, f0, f1, f2, f3, f4, f5, f6, f7, f8, f9⟩ := tok_cells HB5.out
  have HE := Lib.hid (setTok_keep HK5.out (Nat.le_refl _) (.int .i64 9) (.int .i64 (a : Int)) (.int .i64 (E : Int)) (.bool false) (.int .i64 4) (.int .i32 0) (.bool z) (.slice A n cp) (.string ⟨#[]⟩) (.slice none 0 0))
  have HR := Lib.hid (tok_cells (setTok_row HB5.out (.int .i64 9) (.int .i64 (a : Int)) (.int .i64 (E : Int)) (.bool false) (.int .i64 4) (.int .i32 0) (.bool z) (.slice A n cp) (.string ⟨#[]⟩) (.slice none 0 0))).1
  try dsimp only
  go_wp2_with fail
  refine bodyPost_ret (v := .tuple #[tokV 9 (a : Int) (E : Int) false 4 0 z A n cp ⟨#[]⟩, .nilIface]) ?_ rfl ?_
  · obtain ⟨e0, e1, e2, e3, e4, e5, e6, e7, e8, e9⟩ := HR.out
    simp [results, Tryz.results91, go_sem, e0, e1, e2, e3, e4, e5, e6, e7, e8, e9]
  · refine ⟨4, 0, z, A, n, cp, ⟨#[]⟩, by rw [← HW.out.e]; rfl, ⟨rfl, rfl, HZZ.out, ?_, HN.out, rfl⟩, HE.out⟩
    exact limbs_set HL5.out HB5.out (setTok_self _ _ _ _ _ _ _ _ _ _ _ _)
set_option maxRecDepth 100000 in
set_option maxHeartbeats 4000000 in
theorem word_sym (s : ByteArray) (a : Nat) (w : World) (W : List UInt8) (E : Nat) (t : ByteArray) (hT : Tabs w) (ha : a ≤ s.size) (hs : s.size ≤ 1000000) (hne : W ≠ []) (hE : E = scan wordB s.data.toList a) (ht : t = s.extract a E) (hw : WordSt w s a W E t) (h0 : ¬ W = [46]) (h1 : ¬ W = [35, 116]) (h2 : ¬ W = [35, 116, 114, 117, 101]) (h3 : ¬ W = [35, 102]) (h4 : ¬ W = [35, 102, 97, 108, 115, 101]) (hash : ¬ W.getD 0 0 = 35) (hp : parseV W = none) (d : Leaf) (hd : textL true W = .ok d) :
    Calls Tryz.prog 91 #[.string s, .int .i64 (a : Int)] w (TkPost (.ok ⟨9, W.length, false, d⟩) a w) := by
  subst ht
  have HT := Lib.hid hT
  have HW := Lib.hid hw
  have HNE := Lib.hid hne
  have b1 : a ≤ E := by have := hw.e; omega
  have b2 := hw.le
  have htl := hw.t
  have hx0 := at_run (s.extract a E) 0 (by rw [htl]; exact List.length_pos_iff.2 hne) (W.getD 0 0) (by rw [htl])
  have hx : ∀ W' : World, (Instr.index 9 (.string (s.extract a E)) (.int .i64 0)).run Tryz.prog W' = .ok (.int .u8 ((W.getD 0 0).toNat : Int)) W' := hx0
  have q0 : ((s.extract a E).toList == [46]) = false := ne_list _ (by rw [htl]; exact h0)
  have q1 : ((s.extract a E).toList == [35, 116]) = false := ne_list _ (by rw [htl]; exact h1)
  have q2 : ((s.extract a E).toList == [35, 116, 114, 117, 101]) = false := ne_list _ (by rw [htl]; exact h2)
  have q3 : ((s.extract a E).toList == [35, 102]) = false := ne_list _ (by rw [htl]; exact h3)
  have q4 : ((s.extract a E).toList == [35, 102, 97, 108, 115, 101]) = false := ne_list _ (by rw [htl]; exact h4)
  clear h0 h1 h2 h3 h4
  have e35 : (((W.getD 0 0).toNat : Int) == 35) = false := byte_ne hash
  obtain ⟨c, hcc⟩ : ∃ c, c = ((W.getD 0 0).toNat : Int) := ⟨_, rfl⟩
  rw [← hcc] at hx e35
  clear hx0 hash hcc
  have HSZ := Lib.hid (show (s.extract a E).size ≤ 1000000 by rw [Lib.size_eq, Lib.extract_data]; have := List.length_take_le (E - a) (s.data.toList.drop a); have := hw.le; omega)
  have HPV := Lib.hid hp
  have HTXT := Lib.hid (fun w hT => texted_any true (s.extract a E) a E w hT HSZ.out)
  clear hp
  have HD := Lib.hid hd
  clear hd
  have HRUN := Lib.hid (fun w => run_any s a 124 w ha hs)
  have hb : (w.alloc (.cells tok0 29)).heap[w.heap.size]? = some (.cells tok0 29 (0, 0)) := heap_alloc_new w _
  have HB1 := Lib.hid hb
  have HK1 := Lib.hid (show Keep (fun _ => False) w (w.alloc (.cells tok0 29)) from (Keep.refl _ _).alloc _)
  have HEX := Lib.hid hE
  have HTL := Lib.hid htl
  clear hT hb hE hw htl hne
  go_enter Tryz.func91, Tryz.ntmps91
  go_wp2_with fail
  refine (HRUN.out _).mono ?_
  rintro e w1 ⟨rfl, rfl⟩
  rw [passB_124, ← HEX.out]
  try dsimp only
  go_wp2_with fail
  refine (number_any (s.extract a E) _ (by rw [HTL.out]; exact HNE.out) HSZ.out).mono ?_
  rintro e w2 ⟨rfl, k2⟩
  rw [HTL.out, HPV.out]
  have HB2 := Lib.hid (k2.heap HB1.out (by simp))
  have HK2 := Lib.hid (HK1.out.trans k2)
  clear k2
  try dsimp only [Option.isSome]
  go_wp2_with fail
  refine (HTXT.out w2 (HT.out.keep HK2.out)).mono ?_
  intro e w3 hres
  rw [HTL.out, HD.out] at hres
  obtain ⟨rfl, k3⟩ := hres
  have HB3 := Lib.hid (k3.heap HB2.out (by simp))
  have HK3 := Lib.hid (HK2.out.trans k3)
  clear k3
  obtain ⟨⟨c0, c1, c2, c3, c4, c5, c6, c7, c8, c9⟩, f0, f1, f2, f3, f4, f5, f6, f7, f8, f9⟩ := tok_cells HB3.out
  have HE := Lib.hid (setTok_keep HK3.out (Nat.le_refl _) (.int .i64 9) (.int .i64 (a : Int)) (.int .i64 (E : Int)) (.bool false) (.int .i64 6) (.int .i32 0) (.bool false) (.slice none 0 0) (.string (s.extract a E)) (.slice none 0 0))
  have HR := Lib.hid (tok_cells (setTok_row HB3.out (.int .i64 9) (.int .i64 (a : Int)) (.int .i64 (E : Int)) (.bool false) (.int .i64 6) (.int .i32 0) (.bool false) (.slice none 0 0) (.string (s.extract a E)) (.slice none 0 0))).1
  try dsimp only
  go_wp2_with fail
  refine bodyPost_ret (v := .tuple #[tokV 9 (a : Int) (E : Int) false 6 0 false none 0 0 (s.extract a E), .nilIface]) ?_ rfl ?_
  · obtain ⟨e0, e1, e2, e3, e4, e5, e6, e7, e8, e9⟩ := HR.out
    simp [results, Tryz.results91, go_sem, e0, e1, e2, e3, e4, e5, e6, e7, e8, e9]
  · refine ⟨6, 0, false, none, 0, 0, s.extract a E, by rw [← HW.out.e]; rfl, ?_, HE.out⟩
    rw [sym_leaf HD.out]
    exact ⟨rfl, rfl, rfl, rfl, rfl, rfl, by rw [← HTL.out]⟩
set_option maxRecDepth 100000 in
set_option maxHeartbeats 4000000 in
theorem word_no (s : ByteArray) (a : Nat) (w : World) (W : List UInt8) (E : Nat) (t : ByteArray) (hT : Tabs w) (ha : a ≤ s.size) (hs : s.size ≤ 1000000) (hne : W ≠ []) (hE : E = scan wordB s.data.toList a) (ht : t = s.extract a E) (hw : WordSt w s a W E t) (h0 : ¬ W = [46]) (h1 : ¬ W = [35, 116]) (h2 : ¬ W = [35, 116, 114, 117, 101]) (h3 : ¬ W = [35, 102]) (h4 : ¬ W = [35, 102, 97, 108, 115, 101]) (hash : ¬ W.getD 0 0 = 35) (hp : parseV W = none) (q : Nat) (hd : textL true W = .error q) :
    Calls Tryz.prog 91 #[.string s, .int .i64 (a : Int)] w (TkPost (.error (0, q)) a w) := by
  subst ht
  have HT := Lib.hid hT
  have HW := Lib.hid hw
  have HNE := Lib.hid hne
  have b1 : a ≤ E := by have := hw.e; omega
  have b2 := hw.le
  have htl := hw.t
  have hx0 := at_run (s.extract a E) 0 (by rw [htl]; exact List.length_pos_iff.2 hne) (W.getD 0 0) (by rw [htl])
  have hx : ∀ W' : World, (Instr.index 9 (.string (s.extract a E)) (.int .i64 0)).run Tryz.prog W' = .ok (.int .u8 ((W.getD 0 0).toNat : Int)) W' := hx0
  have q0 : ((s.extract a E).toList == [46]) = false := ne_list _ (by rw [htl]; exact h0)
  have q1 : ((s.extract a E).toList == [35, 116]) = false := ne_list _ (by rw [htl]; exact h1)
  have q2 : ((s.extract a E).toList == [35, 116, 114, 117, 101]) = false := ne_list _ (by rw [htl]; exact h2)
  have q3 : ((s.extract a E).toList == [35, 102]) = false := ne_list _ (by rw [htl]; exact h3)
  have q4 : ((s.extract a E).toList == [35, 102, 97, 108, 115, 101]) = false := ne_list _ (by rw [htl]; exact h4)
  clear h0 h1 h2 h3 h4
  have e35 : (((W.getD 0 0).toNat : Int) == 35) = false := byte_ne hash
  obtain ⟨c, hcc⟩ : ∃ c, c = ((W.getD 0 0).toNat : Int) := ⟨_, rfl⟩
  rw [← hcc] at hx e35
  clear hx0 hash hcc
  have HSZ := Lib.hid (show (s.extract a E).size ≤ 1000000 by rw [Lib.size_eq, Lib.extract_data]; have := List.length_take_le (E - a) (s.data.toList.drop a); have := hw.le; omega)
  have HPV := Lib.hid hp
  have HTXT := Lib.hid (fun w hT => texted_any true (s.extract a E) a E w hT HSZ.out)
  clear hp
  have HD := Lib.hid hd
  clear hd
  have HRUN := Lib.hid (fun w => run_any s a 124 w ha hs)
  have hb : (w.alloc (.cells tok0 29)).heap[w.heap.size]? = some (.cells tok0 29 (0, 0)) := heap_alloc_new w _
  have HB1 := Lib.hid hb
  have HK1 := Lib.hid (show Keep (fun _ => False) w (w.alloc (.cells tok0 29)) from (Keep.refl _ _).alloc _)
  have HEX := Lib.hid hE
  have HTL := Lib.hid htl
  clear hT hb hE hw htl hne
  go_enter Tryz.func91, Tryz.ntmps91
  go_wp2_with fail
  refine (HRUN.out _).mono ?_
  rintro e w1 ⟨rfl, rfl⟩
  rw [passB_124, ← HEX.out]
  try dsimp only
  go_wp2_with fail
  refine (number_any (s.extract a E) _ (by rw [HTL.out]; exact HNE.out) HSZ.out).mono ?_
  rintro e w2 ⟨rfl, k2⟩
  rw [HTL.out, HPV.out]
  have HB2 := Lib.hid (k2.heap HB1.out (by simp))
  have HK2 := Lib.hid (HK1.out.trans k2)
  clear k2
  try dsimp only [Option.isSome]
  go_wp2_with fail
  refine (HTXT.out w2 (HT.out.keep HK2.out)).mono ?_
  intro e w3 hres
  rw [HTL.out, HD.out] at hres
  obtain ⟨v, rfl, he, k3⟩ := hres
  have HB3 := Lib.hid (k3.heap HB2.out (by simp))
  obtain ⟨⟨c0, c1, c2, c3, c4, c5, c6, c7, c8, c9⟩, f0, f1, f2, f3, f4, f5, f6, f7, f8, f9⟩ := tok_cells HB3.out
  have HE := Lib.hid (tok_err_end (HK2.out.trans k3) (Nat.le_refl _) HB3.out he (.int .i64 0) (.int .i64 0) (.int .i64 0) (.bool false) (.int .i64 0) (.int .i32 0) (.bool false) (.slice none 0 0) (.string ⟨#[]⟩) (.slice none 0 0))
  have HR := Lib.hid (tok_cells (setTok_row HB3.out (.int .i64 0) (.int .i64 0) (.int .i64 0) (.bool false) (.int .i64 0) (.int .i32 0) (.bool false) (.slice none 0 0) (.string ⟨#[]⟩) (.slice none 0 0))).1
  clear he k3
  try dsimp only
  go_wp2_with fail
  refine bodyPost_ret (v := .tuple #[.agg tok0, v]) ?_ rfl ⟨v, rfl, HE.out⟩
  obtain ⟨e0, e1, e2, e3, e4, e5, e6, e7, e8, e9⟩ := HR.out
  simp [results, Tryz.results91, go_sem, e0, e1, e2, e3, e4, e5, e6, e7, e8, e9]
theorem word_any (s : ByteArray) (a : Nat) (w : World) (hT : Tabs w) (ha : a ≤ s.size) (hs : s.size ≤ 1000000) (hne : (s.data.toList.drop a).takeWhile wordB ≠ []) :
    Calls Tryz.prog 91 #[.string s, .int .i64 (a : Int)] w (TkPost (wordR ((s.data.toList.drop a).takeWhile wordB)) a w) := by
  have hw := word_start s a w ha
  obtain ⟨W, hW⟩ : ∃ W, W = (s.data.toList.drop a).takeWhile wordB := ⟨_, rfl⟩
  rw [← hW] at hw hne ⊢
  obtain ⟨E, hE⟩ : ∃ E, E = scan wordB s.data.toList a := ⟨_, rfl⟩
  rw [← hE] at hw
  obtain ⟨t, ht⟩ : ∃ t, t = s.extract a E := ⟨_, rfl⟩
  rw [← ht] at hw
  have hgd : W.head? = some 35 ↔ W.getD 0 0 = 35 := by
    cases W with
    | nil => exact absurd rfl hne
    | cons c u => simp
  unfold wordR wordV
  by_cases h0 : W = [46]
  · rw [if_pos h0]; exact word_dot s a w W E t hT ha hs hne hE ht hw h0
  rw [if_neg h0]
  by_cases h1 : W = [35, 116]
  · rw [if_pos (.inl h1)]; exact word_t1 s a w W E t hT ha hs hne hE ht hw h0 h1
  by_cases h2 : W = [35, 116, 114, 117, 101]
  · rw [if_pos (.inr h2)]; exact word_t2 s a w W E t hT ha hs hne hE ht hw h0 h1 h2
  rw [if_neg (by rintro (h | h); exact h1 h; exact h2 h)]
  by_cases h3 : W = [35, 102]
  · rw [if_pos (.inl h3)]; exact word_f1 s a w W E t hT ha hs hne hE ht hw h0 h1 h2 h3
  by_cases h4 : W = [35, 102, 97, 108, 115, 101]
  · rw [if_pos (.inr h4)]; exact word_f2 s a w W E t hT ha hs hne hE ht hw h0 h1 h2 h3 h4
  rw [if_neg (by rintro (h | h); exact h3 h; exact h4 h)]
  by_cases h5 : W.head? = some 35
  · rw [if_pos h5]; exact word_sharp s a w W E t hT ha hs hne hE ht hw h0 h1 h2 h3 h4 (hgd.1 h5)
  rw [if_neg h5]
  have h6 : ¬ W.getD 0 0 = 35 := fun h => h5 (hgd.2 h)
  cases hp : parseV W with
  | some x =>
    dsimp only
    by_cases hf : (limbs x.natAbs).length ≤ 48
    · rw [if_pos hf]; exact word_int s a w W E t hT ha hs hne hE ht hw h0 h1 h2 h3 h4 h6 x hp hf
    · rw [if_neg hf]; exact word_big s a w W E t hT ha hs hne hE ht hw h0 h1 h2 h3 h4 h6 x hp hf
  | none =>
    dsimp only
    cases hd : textL true W with
    | ok d => exact word_sym s a w W E t hT ha hs hne hE ht hw h0 h1 h2 h3 h4 h6 hp d hd
    | error q => exact word_no s a w W E t hT ha hs hne hE ht hw h0 h1 h2 h3 h4 h6 hp q hd
end Go.Proofs.YtonnikipeokkaaaGreatDoor
