/-
  Numbers, by program: texts of another seat, turned to this one.
-/
import Derived.Test.YtkjocmenpccooaaGreatDoorG2
namespace Go.Proofs.YtkjocmenpccooaaGreatDoor
open Go.RowKit Go.Lib
set_option maxRecDepth 100000 in
set_option maxHeartbeats 4000000 in
theorem equal_len (A : Option Addr) (n c : Nat) (A' : Option Addr) (n' c' : Nat) (w : World) (h : ((n : Int) == (n' : Int)) = false) :
    Calls Tryz.prog 130 #[.slice A n c, .slice A' n' c'] w (BoolPost false w) := by
  go_enter Tryz.func130, Tryz.ntmps130
  go_wp2_with fail
  go_ret
  exact ⟨rfl, Keep.refl _ _⟩
set_option maxRecDepth 100000 in
set_option maxHeartbeats 4000000 in
theorem equal_same (A : Option Addr) (n c : Nat) (A' : Option Addr) (c' : Nat) (l l' : List Nat) (w : World) (h : RowAt .u32 w A n l) (h' : RowAt .u32 w A' n l') (hn : n ≤ 9000000000) :
    Calls Tryz.prog 130 #[.slice A n c, .slice A' n c'] w (BoolPost (decide (l = l')) w) := by
  have HH := Lib.hid h
  have HH' := Lib.hid h'
  have HN := Lib.hid hn
  have e0 : ((n : Int) == (n : Int)) = true := beq_iff_eq.2 rfl
  clear h h' hn
  go_enter Tryz.func130, Tryz.ntmps130
  go_wp2_with fail
  go_loopw [13] (fun iv wr => ∃ k : Nat, k ≤ n ∧ iv = .int .i64 (k : Int) ∧ (∀ j, j < k → l.getD j 0 = l'.getD j 0) ∧ Keep (fun _ => False) w wr) (fun iv _ => n - (RowKit.intOf iv).toNat)
  case atStart => exact ⟨0, Nat.zero_le _, rfl, fun j h1 => by omega, Keep.refl _ _⟩
  case round =>
    obtain ⟨k, hk, rfl, he, KW⟩ := hrel
    have HE := Lib.hid he
    have HK := Lib.hid KW
    by_cases hkn : k < n
    · obtain ⟨b1, o1, rfl, hb1, q1⟩ := (HH.out.keep0 KW).2 k hkn
      obtain ⟨b2, o2, rfl, hb2, q2⟩ := (HH'.out.keep0 KW).2 k hkn
      obtain ⟨x, hx⟩ : ∃ x, x = l.getD k 0 := ⟨_, rfl⟩
      obtain ⟨y, hy⟩ : ∃ y, y = l'.getD k 0 := ⟨_, rfl⟩
      rw [← hx] at q1
      rw [← hy] at q2
      have HXY := Lib.hid (And.intro hx hy)
      have HKN := Lib.hid hkn
      have l1 : (k : Int) < (n : Int) := by omega
      have l2 : (0 : Int) ≤ (k : Int) := by omega
      have l3 : (k : Int) ≤ 9000000000 := by have := HN.out; omega
      clear he KW hk hx hy hb1 hb2
      by_cases hxy : x = y
      · have f1 : ((x : Int) == (y : Int)) = true := beq_iff_eq.2 (by omega)
        go_wp2_with fail
        go_quiet (fail)
        go_wp2_with fail
        go_roundw
        case rel =>
          refine ⟨k + 1, by have := HKN.out; omega, by go_num, fun j hj => ?_, HK.out.drewN _⟩
          by_cases hjk : j = k
          · rw [hjk, ← HXY.out.1, ← HXY.out.2, hxy]
          · exact HE.out j (by omega)
        case measure => have := HKN.out; simp only [RowKit.intOf]; omega
      · have f1 : ((x : Int) == (y : Int)) = false := beq_eq_false_iff_ne.2 (by omega)
        have HF := Lib.hid (show decide (l = l') = false from decide_eq_false (fun e => hxy (by rw [HXY.out.1, HXY.out.2, e])))
        clear hxy
        go_wp2_with fail
        go_quiet (fail)
        go_wp2_with fail
        go_ret
        exact ⟨by rw [HF.out]; rfl, HK.out.drewN _⟩
    · have hkn2 : k = n := by omega
      have HF := Lib.hid (show decide (l = l') = true from decide_eq_true (by
        refine List.ext_getElem (by rw [HH.out.1, HH'.out.1]) (fun j h1 h2 => ?_)
        have := he j (by rw [HH.out.1] at h1; omega)
        rw [List.getD_eq_getElem?_getD, List.getD_eq_getElem?_getD, List.getElem?_eq_getElem h1, List.getElem?_eq_getElem h2] at this
        exact this))
      have l1 : decide ((k : Int) < (n : Int)) = false := decide_eq_false (by omega)
      have l2 : decide (k < n) = false := decide_eq_false hkn
      clear he KW hk hkn hkn2
      go_wp2_with fail
      go_ret
      exact ⟨by rw [HF.out]; rfl, HK.out⟩
/-- slices.Equal, of two rows of limbs. -/
theorem equal_any (A : Option Addr) (n c : Nat) (A' : Option Addr) (n' c' : Nat) (l l' : List Nat) (w : World) (h : LimbsAt w A n c l) (h' : LimbsAt w A' n' c' l') :
    Calls Tryz.prog 130 #[.slice A n c, .slice A' n' c'] w (BoolPost (decide (l = l')) w) := by
  by_cases e : n = n'
  · subst e
    have := h.max
    exact equal_same A n c A' c' l l' w h.row h'.row (by omega)
  · have : decide (l = l') = false := decide_eq_false (fun e2 => e (by rw [← h.len, ← h'.len, e2]))
    rw [this]
    exact equal_len A n c A' n' c' w (beq_eq_false_iff_ne.2 (by omega))
open Go.RowKit Go.Lib
/-- What own hands back. -/
def OwnP (c : Int) (neg : Bool) (A : Option Addr) (n cp : Nat) (t : ByteArray) (B : Option Addr) (m cap : Nat) (k : Int) (w : World) (e : Ending) (w' : World) : Prop :=
  e = .returned (.agg #[.int .i64 k, .int .i32 c, .bool neg, .slice A n cp, .string t, .slice B m cap]) ∧ Keep (fun _ => False) w w'
set_option maxRecDepth 100000 in
set_option maxHeartbeats 8000000 in
theorem own_c4 (k c : Int) (neg : Bool) (A : Option Addr) (n cp : Nat) (t : ByteArray) (B : Option Addr) (m cap : Nat) (w : World) (s3 : (k == 3) = false) (s4 : (k == 4) = true) : Calls Tryz.prog 92 #[.agg #[.int .i64 k, .int .i32 c, .bool neg, .slice A n cp, .string t, .slice B m cap]] w (OwnP 0 neg A n cp ⟨#[]⟩ none 0 0 k w) := by
  have hb1 : (w.alloc (.cells #[.int .i64 k, .int .i32 c, .bool neg, .slice A n cp, .string t, .slice B m cap] 27)).heap[w.heap.size]? = some (.cells #[.int .i64 k, .int .i32 c, .bool neg, .slice A n cp, .string t, .slice B m cap] 27 (0, 0)) := heap_alloc_new w _
  obtain ⟨⟨a0, a1, a2, a3, a4, a5⟩, _⟩ := six_cells hb1
  have hb2 : (((w.alloc (.cells #[.int .i64 k, .int .i32 c, .bool neg, .slice A n cp, .string t, .slice B m cap] 27)).alloc (.cells #[.int .i64 k, .int .i32 0, .bool neg, .slice A n cp, .string ⟨#[]⟩, .slice none 0 0] 27)).alloc (.cells #[.int .i64 k, .int .i32 0, .bool neg, .slice A n cp, .string ⟨#[]⟩, .slice none 0 0] 27)).heap[w.heap.size + 1]? = some (.cells #[.int .i64 k, .int .i32 0, .bool neg, .slice A n cp, .string ⟨#[]⟩, .slice none 0 0] 27 (0, 0)) := bx_old (by
    have := heap_alloc_new (w.alloc (.cells #[.int .i64 k, .int .i32 c, .bool neg, .slice A n cp, .string t, .slice B m cap] 27)) (.cells #[.int .i64 k, .int .i32 0, .bool neg, .slice A n cp, .string ⟨#[]⟩, .slice none 0 0] 27)
    rwa [World.size_alloc] at this) _
  have HE := Lib.hid (six_cells hb2).1
  clear hb1 hb2
  go_enter Tryz.func92, Tryz.ntmps92
  go_wp2_with fail
  obtain ⟨e0, e1, e2, e3, e4, e5⟩ := HE.out
  exact bodyPost_ret (v := .agg #[.int .i64 k, .int .i32 0, .bool neg, .slice A n cp, .string ⟨#[]⟩, .slice none 0 0]) (by simp [results, Tryz.results92, go_sem, e0, e1, e2, e3, e4, e5]) rfl ⟨rfl, (((Keep.refl _ _).alloc _).alloc _).alloc _⟩
set_option maxRecDepth 100000 in
set_option maxHeartbeats 8000000 in
theorem own_c5 (k c : Int) (neg : Bool) (A : Option Addr) (n cp : Nat) (t : ByteArray) (B : Option Addr) (m cap : Nat) (w : World) (s3 : (k == 3) = false) (s4 : (k == 4) = false) (s5 : (k == 5) = true) : Calls Tryz.prog 92 #[.agg #[.int .i64 k, .int .i32 c, .bool neg, .slice A n cp, .string t, .slice B m cap]] w (OwnP 0 false none 0 0 t none 0 0 k w) := by
  have hb1 : (w.alloc (.cells #[.int .i64 k, .int .i32 c, .bool neg, .slice A n cp, .string t, .slice B m cap] 27)).heap[w.heap.size]? = some (.cells #[.int .i64 k, .int .i32 c, .bool neg, .slice A n cp, .string t, .slice B m cap] 27 (0, 0)) := heap_alloc_new w _
  obtain ⟨⟨a0, a1, a2, a3, a4, a5⟩, _⟩ := six_cells hb1
  have hb2 : (((w.alloc (.cells #[.int .i64 k, .int .i32 c, .bool neg, .slice A n cp, .string t, .slice B m cap] 27)).alloc (.cells #[.int .i64 k, .int .i32 0, .bool false, .slice none 0 0, .string t, .slice none 0 0] 27)).alloc (.cells #[.int .i64 k, .int .i32 0, .bool false, .slice none 0 0, .string t, .slice none 0 0] 27)).heap[w.heap.size + 1]? = some (.cells #[.int .i64 k, .int .i32 0, .bool false, .slice none 0 0, .string t, .slice none 0 0] 27 (0, 0)) := bx_old (by
    have := heap_alloc_new (w.alloc (.cells #[.int .i64 k, .int .i32 c, .bool neg, .slice A n cp, .string t, .slice B m cap] 27)) (.cells #[.int .i64 k, .int .i32 0, .bool false, .slice none 0 0, .string t, .slice none 0 0] 27)
    rwa [World.size_alloc] at this) _
  have HE := Lib.hid (six_cells hb2).1
  clear hb1 hb2
  go_enter Tryz.func92, Tryz.ntmps92
  go_wp2_with fail
  obtain ⟨e0, e1, e2, e3, e4, e5⟩ := HE.out
  exact bodyPost_ret (v := .agg #[.int .i64 k, .int .i32 0, .bool false, .slice none 0 0, .string t, .slice none 0 0]) (by simp [results, Tryz.results92, go_sem, e0, e1, e2, e3, e4, e5]) rfl ⟨rfl, (((Keep.refl _ _).alloc _).alloc _).alloc _⟩
set_option maxRecDepth 100000 in
set_option maxHeartbeats 8000000 in
theorem own_cx (k c : Int) (neg : Bool) (A : Option Addr) (n cp : Nat) (t : ByteArray) (B : Option Addr) (m cap : Nat) (w : World) (s3 : (k == 3) = false) (s4 : (k == 4) = false) (s5 : (k == 5) = false) (s6 : (k == 6) = false) (s7 : (k == 7) = false) (s8 : (k == 8) = false) : Calls Tryz.prog 92 #[.agg #[.int .i64 k, .int .i32 c, .bool neg, .slice A n cp, .string t, .slice B m cap]] w (OwnP 0 false none 0 0 ⟨#[]⟩ none 0 0 k w) := by
  have hb1 : (w.alloc (.cells #[.int .i64 k, .int .i32 c, .bool neg, .slice A n cp, .string t, .slice B m cap] 27)).heap[w.heap.size]? = some (.cells #[.int .i64 k, .int .i32 c, .bool neg, .slice A n cp, .string t, .slice B m cap] 27 (0, 0)) := heap_alloc_new w _
  obtain ⟨⟨a0, a1, a2, a3, a4, a5⟩, _⟩ := six_cells hb1
  have hb2 : (((w.alloc (.cells #[.int .i64 k, .int .i32 c, .bool neg, .slice A n cp, .string t, .slice B m cap] 27)).alloc (.cells #[.int .i64 k, .int .i32 0, .bool false, .slice none 0 0, .string ⟨#[]⟩, .slice none 0 0] 27)).alloc (.cells #[.int .i64 k, .int .i32 0, .bool false, .slice none 0 0, .string ⟨#[]⟩, .slice none 0 0] 27)).heap[w.heap.size + 1]? = some (.cells #[.int .i64 k, .int .i32 0, .bool false, .slice none 0 0, .string ⟨#[]⟩, .slice none 0 0] 27 (0, 0)) := bx_old (by
    have := heap_alloc_new (w.alloc (.cells #[.int .i64 k, .int .i32 c, .bool neg, .slice A n cp, .string t, .slice B m cap] 27)) (.cells #[.int .i64 k, .int .i32 0, .bool false, .slice none 0 0, .string ⟨#[]⟩, .slice none 0 0] 27)
    rwa [World.size_alloc] at this) _
  have HE := Lib.hid (six_cells hb2).1
  clear hb1 hb2
  go_enter Tryz.func92, Tryz.ntmps92
  go_wp2_with fail
  obtain ⟨e0, e1, e2, e3, e4, e5⟩ := HE.out
  exact bodyPost_ret (v := .agg #[.int .i64 k, .int .i32 0, .bool false, .slice none 0 0, .string ⟨#[]⟩, .slice none 0 0]) (by simp [results, Tryz.results92, go_sem, e0, e1, e2, e3, e4, e5]) rfl ⟨rfl, (((Keep.refl _ _).alloc _).alloc _).alloc _⟩
set_option maxRecDepth 100000 in
set_option maxHeartbeats 8000000 in
theorem flat_any (k c : Int) (neg : Bool) (A : Option Addr) (n cp : Nat) (t : ByteArray) (B : Option Addr) (m cap : Nat) (k' c' : Int) (neg' : Bool) (A' : Option Addr) (n' cp' : Nat) (t' : ByteArray) (B' : Option Addr) (m' cap' : Nat) (l l' : List Nat) (w : World) (h : LimbsAt w A n cp l) (h' : LimbsAt w A' n' cp' l') :
    Calls Tryz.prog 91 #[.agg #[.int .i64 k, .int .i32 c, .bool neg, .slice A n cp, .string t, .slice B m cap], .agg #[.int .i64 k', .int .i32 c', .bool neg', .slice A' n' cp', .string t', .slice B' m' cap']] w (BoolPost (k == k' && (c == c' && (neg == neg' && (decide (l = l') && (t.toList == t'.toList && (m : Int) == (m' : Int)))))) w) := by
  have hb1 : ((w.alloc (.cells #[.int .i64 k, .int .i32 c, .bool neg, .slice A n cp, .string t, .slice B m cap] 27)).alloc (.cells #[.int .i64 k', .int .i32 c', .bool neg', .slice A' n' cp', .string t', .slice B' m' cap'] 27)).heap[w.heap.size]? = some (.cells #[.int .i64 k, .int .i32 c, .bool neg, .slice A n cp, .string t, .slice B m cap] 27 (0, 0)) := bx_old (heap_alloc_new w _) _
  have hb2 : ((w.alloc (.cells #[.int .i64 k, .int .i32 c, .bool neg, .slice A n cp, .string t, .slice B m cap] 27)).alloc (.cells #[.int .i64 k', .int .i32 c', .bool neg', .slice A' n' cp', .string t', .slice B' m' cap'] 27)).heap[w.heap.size + 1]? = some (.cells #[.int .i64 k', .int .i32 c', .bool neg', .slice A' n' cp', .string t', .slice B' m' cap'] 27 (0, 0)) := by
    have := heap_alloc_new (w.alloc (.cells #[.int .i64 k, .int .i32 c, .bool neg, .slice A n cp, .string t, .slice B m cap] 27)) (.cells #[.int .i64 k', .int .i32 c', .bool neg', .slice A' n' cp', .string t', .slice B' m' cap'] 27)
    rwa [World.size_alloc] at this
  have K : Keep (fun _ => False) w ((w.alloc (.cells #[.int .i64 k, .int .i32 c, .bool neg, .slice A n cp, .string t, .slice B m cap] 27)).alloc (.cells #[.int .i64 k', .int .i32 c', .bool neg', .slice A' n' cp', .string t', .slice B' m' cap'] 27)) := ((Keep.refl _ _).alloc _).alloc _
  have HK := Lib.hid K
  have HEQ := Lib.hid (equal_any A n cp A' n' cp' l l' ((w.alloc (.cells #[.int .i64 k, .int .i32 c, .bool neg, .slice A n cp, .string t, .slice B m cap] 27)).alloc (.cells #[.int .i64 k', .int .i32 c', .bool neg', .slice A' n' cp', .string t', .slice B' m' cap'] 27)) (h.keep0 K) (h'.keep0 K))
  have HB := Lib.hid (fun (W : World) (k : Keep (fun _ => False) ((w.alloc (.cells #[.int .i64 k, .int .i32 c, .bool neg, .slice A n cp, .string t, .slice B m cap] 27)).alloc (.cells #[.int .i64 k', .int .i32 c', .bool neg', .slice A' n' cp', .string t', .slice B' m' cap'] 27)) W) => And.intro (six_cells (k.heap hb1 id)).1 (six_cells (k.heap hb2 id)).1)
  obtain ⟨⟨a0, a1, a2, a3, a4, a5⟩, b0, b1, b2, b3, b4, b5⟩ := HB.out _ (Keep.refl _ _)
  obtain ⟨q, hq⟩ : ∃ q, q = decide (l = l') := ⟨_, rfl⟩
  rw [← hq] at HEQ ⊢
  clear hb1 hb2 K h h' hq
  go_enter Tryz.func91, Tryz.ntmps91
  by_cases t2 : k = k'
  · have ft2 : (k == k') = true := beq_iff_eq.2 t2
    rw [ft2, Bool.true_and]
    have Hft2 := Lib.hid t2
    clear t2
    by_cases t1 : c = c'
    · have ft1 : (c == c') = true := beq_iff_eq.2 t1
      rw [ft1, Bool.true_and]
      have Hft1 := Lib.hid t1
      clear t1
      by_cases t0 : neg = neg'
      · have ft0 : (neg == neg') = true := beq_iff_eq.2 t0
        rw [ft0, Bool.true_and]
        have Hft0 := Lib.hid t0
        clear t0
        go_wp2_with fail
        refine HEQ.out.mono ?_
        rintro e w3 ⟨rfl, k3⟩
        clear a0 a1 a2 a3 a4 a5 b0 b1 b2 b3 b4 b5
        obtain ⟨⟨a0, a1, a2, a3, a4, a5⟩, b0, b1, b2, b3, b4, b5⟩ := HB.out _ k3
        have HK3 := Lib.hid (HK.out.trans k3)
        clear k3
        cases q with
        | false =>
          try dsimp only
          go_wp2_with fail
          go_ret
          exact ⟨rfl, HK3.out⟩
        | true =>
          by_cases ht : t.toList = t'.toList
          · have ft : (t.toList == t'.toList) = true := beq_iff_eq.2 ht
            clear ht
            try dsimp only
            go_wp2_with fail
            go_ret
            exact ⟨by rw [ft]; rfl, HK3.out⟩
          · have ft : (t.toList == t'.toList) = false := beq_eq_false_iff_ne.2 ht
            clear ht
            try dsimp only
            go_wp2_with fail
            go_ret
            exact ⟨by rw [ft]; rfl, HK3.out⟩
      · have ft0 : (neg == neg') = false := beq_eq_false_iff_ne.2 t0
        rw [ft0, Bool.false_and]
        clear t0
        go_wp2_with fail
        go_ret
        exact ⟨rfl, HK.out⟩
    · have ft1 : (c == c') = false := beq_eq_false_iff_ne.2 t1
      rw [ft1, Bool.false_and]
      clear t1
      go_wp2_with fail
      go_ret
      exact ⟨rfl, HK.out⟩
  · have ft2 : (k == k') = false := beq_eq_false_iff_ne.2 t2
    rw [ft2, Bool.false_and]
    clear t2
    go_wp2_with fail
    go_ret
    exact ⟨rfl, HK.out⟩
open Go.RowKit Go.Lib
set_option maxRecDepth 100000 in
set_option maxHeartbeats 8000000 in
theorem ptext_w (s : ByteArray) (least n : Int) (v : Bool) (w : World) (HC : Hid (∀ W : World, Keep (fun _ => False) w W → Calls Tryz.prog 54 #[.string s] W (fun e w' => e = .returned (.int .i64 n) ∧ Keep (fun _ => False) W w'))) (HV : Hid (∀ W : World, Keep (fun _ => False) w W → Calls Tryz.prog 53 #[.string s] W (BoolPost v W))) :
    Calls Tryz.prog 94 #[.string s, .int .i64 least] w (BoolPost (v && (decide (least ≤ n) && decide (n ≤ 62))) w) := by
  go_enter Tryz.func94, Tryz.ntmps94
  go_wp2_with fail
  refine (HC.out _ (Keep.refl _ _)).mono ?_
  rintro e w2 ⟨rfl, k2⟩
  have HK2 := Lib.hid k2
  clear k2
  try dsimp only
  go_wp2_with fail
  refine (HV.out _ HK2.out).mono ?_
  rintro e w3 ⟨rfl, k3⟩
  have HK3 := Lib.hid (HK2.out.trans k3)
  clear k3
  cases v with
  | false =>
    try dsimp only
    go_wp2_with fail
    go_ret
    exact ⟨rfl, HK3.out⟩
  | true =>
    by_cases h : least ≤ n
    · have f : decide (least ≤ n) = true := decide_eq_true h
      try dsimp only
      go_wp2_with fail
      go_ret
      exact ⟨by rw [f]; rfl, HK3.out⟩
    · have f : decide (least ≤ n) = false := decide_eq_false h
      clear h
      try dsimp only
      go_wp2_with fail
      go_ret
      exact ⟨by rw [f]; rfl, HK3.out⟩
open Go.RowKit Go.Lib
set_option maxRecDepth 100000 in
set_option maxHeartbeats 8000000 in
theorem pplain_x (r : Raw) (p : PV) (W : World) (h : decide (r.k < 0) = false) (h2 : decide (10 < r.k) = false) (s3 : (r.k == 3) = false) (s4 : (r.k == 4) = false) (s6 : (r.k == 6) = false) (s5 : (r.k == 5) = false) (s7 : (r.k == 7) = false) (s8 : (r.k == 8) = false) (c : Int) (neg : Bool) (A : Option Addr) (n cp : Nat) (t : ByteArray) (B : Option Addr) (m cap : Nat) (b : Bool) (HO : Hid (∀ w : World, Calls Tryz.prog 92 #[rawV r p] w (OwnP c neg A n cp t B m cap r.k w))) (HF : Hid (∀ w : World, Keep (fun _ => False) W w → Calls Tryz.prog 91 #[rawV r p, .agg #[.int .i64 r.k, .int .i32 c, .bool neg, .slice A n cp, .string t, .slice B m cap]] w (BoolPost b w))) (hb : Hid (b = true))  : Calls Tryz.prog 47 #[rawV r p] W (BoolPost true W) := by
  have hb1 : (W.alloc (.cells #[.int .i64 r.k, .int .i32 r.c, .bool r.neg, .slice p.A p.n p.cp, .string r.t, .slice p.B p.m p.cap] 27)).heap[W.heap.size]? = some (.cells #[.int .i64 r.k, .int .i32 r.c, .bool r.neg, .slice p.A p.n p.cp, .string r.t, .slice p.B p.m p.cap] 27 (0, 0)) := heap_alloc_new W _
  have HB1 := Lib.hid hb1
  have HK1 := Lib.hid (show Keep (fun _ => False) W (W.alloc (.cells #[.int .i64 r.k, .int .i32 r.c, .bool r.neg, .slice p.A p.n p.cp, .string r.t, .slice p.B p.m p.cap] 27)) from (Keep.refl _ _).alloc _)
  obtain ⟨a0, a1, a2, a3, a4, a5⟩ := dat_cells hb1
  clear hb1
  go_enter Tryz.func47, Tryz.ntmps47
  go_wp2_with fail
  generalize W.alloc (.cells #[.int .i64 r.k, .int .i32 r.c, .bool r.neg, .slice p.A p.n p.cp, .string r.t, .slice p.B p.m p.cap] 27) = w1 at *
  generalize W.heap.size = B1 at *
  rw [hb.out] at HF
  have HCL := Lib.hid (fun (w' : World) (K : Keep (fun _ => False) w1 w') => (show (w'.cell? ⟨B1, 0, none⟩ = some (.int .i64 r.k) ∧ w'.cell? ⟨B1, 1, none⟩ = some (.int .i32 r.c) ∧ w'.cell? ⟨B1, 2, none⟩ = some (.bool r.neg) ∧ w'.cell? ⟨B1, 3, none⟩ = some (.slice p.A p.n p.cp) ∧ w'.cell? ⟨B1, 4, none⟩ = some (.string r.t) ∧ w'.cell? ⟨B1, 5, none⟩ = some (.slice p.B p.m p.cap)) ∧ Keep (fun _ => False) w1 w' from by
    obtain ⟨e0, e1, e2, e3, e4, e5⟩ := dat_cells (K.heap HB1.out id)
    exact ⟨⟨e0, e1, e2, e3, e4, e5⟩, K⟩))
  have Kd : Keep (fun _ => False) w1 w1.drew := (Keep.refl _ _).drew
  clear a0 a1 a2 a3 a4 a5
  go_region_held3 (fun w' => (w'.cell? ⟨B1, 0, none⟩ = some (.int .i64 r.k) ∧ w'.cell? ⟨B1, 1, none⟩ = some (.int .i32 r.c) ∧ w'.cell? ⟨B1, 2, none⟩ = some (.bool r.neg) ∧ w'.cell? ⟨B1, 3, none⟩ = some (.slice p.A p.n p.cp) ∧ w'.cell? ⟨B1, 4, none⟩ = some (.string r.t) ∧ w'.cell? ⟨B1, 5, none⟩ = some (.slice p.B p.m p.cap)) ∧ Keep (fun _ => False) w1 w')
    (first | exact HCL.out _ Kd | exact HCL.out _ (by assumption))
    (first
      | (go_at_call 92; go_split_ands; (with_reducible refine (HO.out _).mono ?_); rintro e w5 ⟨rfl, k5⟩; have K5 := Keep.trans (by assumption) k5)
      | (go_at_call 91; go_split_ands; (with_reducible refine (HF.out _ (HK1.out.trans (by assumption))).mono ?_); rintro e w6 ⟨rfl, k6⟩; have K6 := Keep.trans (by assumption) k6))
  have HK6 := Lib.hid (HK1.out.trans K6)
  obtain ⟨a0, a1, a2, a3, a4, a5⟩ := dat_cells (K6.heap HB1.out id)
  clear K5 K6 Kd
  try dsimp only
  go_wp2_with fail
  go_ret
  exact ⟨rfl, HK6.out⟩
set_option maxRecDepth 100000 in
set_option maxHeartbeats 8000000 in
theorem pplain_c4 (r : Raw) (p : PV) (W : World) (h : decide (r.k < 0) = false) (h2 : decide (10 < r.k) = false) (s3 : (r.k == 3) = false) (s4 : (r.k == 4) = true) (c : Int) (neg : Bool) (A : Option Addr) (n cp : Nat) (t : ByteArray) (B : Option Addr) (m cap : Nat) (b : Bool) (HO : Hid (∀ w : World, Calls Tryz.prog 92 #[rawV r p] w (OwnP c neg A n cp t B m cap r.k w))) (HF : Hid (∀ w : World, Keep (fun _ => False) W w → Calls Tryz.prog 91 #[rawV r p, .agg #[.int .i64 r.k, .int .i32 c, .bool neg, .slice A n cp, .string t, .slice B m cap]] w (BoolPost b w))) (hb : Hid (b = true)) (v : Bool) (HC : Hid (∀ w : World, Keep (fun _ => False) W w → Calls Tryz.prog 63 #[numArg r.neg p.A p.n p.cp] w (BoolPost v w))) : Calls Tryz.prog 47 #[rawV r p] W (BoolPost v W) := by
  have hb1 : (W.alloc (.cells #[.int .i64 r.k, .int .i32 r.c, .bool r.neg, .slice p.A p.n p.cp, .string r.t, .slice p.B p.m p.cap] 27)).heap[W.heap.size]? = some (.cells #[.int .i64 r.k, .int .i32 r.c, .bool r.neg, .slice p.A p.n p.cp, .string r.t, .slice p.B p.m p.cap] 27 (0, 0)) := heap_alloc_new W _
  have HB1 := Lib.hid hb1
  have HK1 := Lib.hid (show Keep (fun _ => False) W (W.alloc (.cells #[.int .i64 r.k, .int .i32 r.c, .bool r.neg, .slice p.A p.n p.cp, .string r.t, .slice p.B p.m p.cap] 27)) from (Keep.refl _ _).alloc _)
  obtain ⟨a0, a1, a2, a3, a4, a5⟩ := dat_cells hb1
  clear hb1
  go_enter Tryz.func47, Tryz.ntmps47
  go_wp2_with fail
  generalize W.alloc (.cells #[.int .i64 r.k, .int .i32 r.c, .bool r.neg, .slice p.A p.n p.cp, .string r.t, .slice p.B p.m p.cap] 27) = w1 at *
  generalize W.heap.size = B1 at *
  rw [hb.out] at HF
  have HCL := Lib.hid (fun (w' : World) (K : Keep (fun _ => False) w1 w') => (show (w'.cell? ⟨B1, 0, none⟩ = some (.int .i64 r.k) ∧ w'.cell? ⟨B1, 1, none⟩ = some (.int .i32 r.c) ∧ w'.cell? ⟨B1, 2, none⟩ = some (.bool r.neg) ∧ w'.cell? ⟨B1, 3, none⟩ = some (.slice p.A p.n p.cp) ∧ w'.cell? ⟨B1, 4, none⟩ = some (.string r.t) ∧ w'.cell? ⟨B1, 5, none⟩ = some (.slice p.B p.m p.cap)) ∧ Keep (fun _ => False) w1 w' from by
    obtain ⟨e0, e1, e2, e3, e4, e5⟩ := dat_cells (K.heap HB1.out id)
    exact ⟨⟨e0, e1, e2, e3, e4, e5⟩, K⟩))
  have Kd : Keep (fun _ => False) w1 w1.drew := (Keep.refl _ _).drew
  clear a0 a1 a2 a3 a4 a5
  go_region_held3 (fun w' => (w'.cell? ⟨B1, 0, none⟩ = some (.int .i64 r.k) ∧ w'.cell? ⟨B1, 1, none⟩ = some (.int .i32 r.c) ∧ w'.cell? ⟨B1, 2, none⟩ = some (.bool r.neg) ∧ w'.cell? ⟨B1, 3, none⟩ = some (.slice p.A p.n p.cp) ∧ w'.cell? ⟨B1, 4, none⟩ = some (.string r.t) ∧ w'.cell? ⟨B1, 5, none⟩ = some (.slice p.B p.m p.cap)) ∧ Keep (fun _ => False) w1 w')
    (first | exact HCL.out _ Kd | exact HCL.out _ (by assumption))
    (first
      | (go_at_call 92; go_split_ands; (with_reducible refine (HO.out _).mono ?_); rintro e w5 ⟨rfl, k5⟩; have K5 := Keep.trans (by assumption) k5)
      | (go_at_call 91; go_split_ands; (with_reducible refine (HF.out _ (HK1.out.trans (by assumption))).mono ?_); rintro e w6 ⟨rfl, k6⟩; have K6 := Keep.trans (by assumption) k6))
  have HK6 := Lib.hid (HK1.out.trans K6)
  obtain ⟨a0, a1, a2, a3, a4, a5⟩ := dat_cells (K6.heap HB1.out id)
  clear K5 K6 Kd
  try dsimp only
  go_wp2_with fail
  refine (HC.out _ HK6.out).mono ?_
  rintro e w7 ⟨rfl, k7⟩
  have HK7 := Lib.hid (HK6.out.trans k7)
  clear k7
  try dsimp only
  go_wp2_with fail
  go_ret
  exact ⟨rfl, HK7.out⟩
set_option maxRecDepth 100000 in
set_option maxHeartbeats 8000000 in
theorem pplain_c5 (r : Raw) (p : PV) (W : World) (h : decide (r.k < 0) = false) (h2 : decide (10 < r.k) = false) (s3 : (r.k == 3) = false) (s4 : (r.k == 4) = false) (s6 : (r.k == 6) = false) (s5 : (r.k == 5) = true) (c : Int) (neg : Bool) (A : Option Addr) (n cp : Nat) (t : ByteArray) (B : Option Addr) (m cap : Nat) (b : Bool) (HO : Hid (∀ w : World, Calls Tryz.prog 92 #[rawV r p] w (OwnP c neg A n cp t B m cap r.k w))) (HF : Hid (∀ w : World, Keep (fun _ => False) W w → Calls Tryz.prog 91 #[rawV r p, .agg #[.int .i64 r.k, .int .i32 c, .bool neg, .slice A n cp, .string t, .slice B m cap]] w (BoolPost b w))) (hb : Hid (b = true)) (v : Bool) (HC : Hid (∀ w : World, Keep (fun _ => False) W w → Calls Tryz.prog 94 #[.string r.t, .int .i64 0] w (BoolPost v w))) : Calls Tryz.prog 47 #[rawV r p] W (BoolPost v W) := by
  have hb1 : (W.alloc (.cells #[.int .i64 r.k, .int .i32 r.c, .bool r.neg, .slice p.A p.n p.cp, .string r.t, .slice p.B p.m p.cap] 27)).heap[W.heap.size]? = some (.cells #[.int .i64 r.k, .int .i32 r.c, .bool r.neg, .slice p.A p.n p.cp, .string r.t, .slice p.B p.m p.cap] 27 (0, 0)) := heap_alloc_new W _
  have HB1 := Lib.hid hb1
  have HK1 := Lib.hid (show Keep (fun _ => False) W (W.alloc (.cells #[.int .i64 r.k, .int .i32 r.c, .bool r.neg, .slice p.A p.n p.cp, .string r.t, .slice p.B p.m p.cap] 27)) from (Keep.refl _ _).alloc _)
  obtain ⟨a0, a1, a2, a3, a4, a5⟩ := dat_cells hb1
  clear hb1
  go_enter Tryz.func47, Tryz.ntmps47
  go_wp2_with fail
  generalize W.alloc (.cells #[.int .i64 r.k, .int .i32 r.c, .bool r.neg, .slice p.A p.n p.cp, .string r.t, .slice p.B p.m p.cap] 27) = w1 at *
  generalize W.heap.size = B1 at *
  rw [hb.out] at HF
  have HCL := Lib.hid (fun (w' : World) (K : Keep (fun _ => False) w1 w') => (show (w'.cell? ⟨B1, 0, none⟩ = some (.int .i64 r.k) ∧ w'.cell? ⟨B1, 1, none⟩ = some (.int .i32 r.c) ∧ w'.cell? ⟨B1, 2, none⟩ = some (.bool r.neg) ∧ w'.cell? ⟨B1, 3, none⟩ = some (.slice p.A p.n p.cp) ∧ w'.cell? ⟨B1, 4, none⟩ = some (.string r.t) ∧ w'.cell? ⟨B1, 5, none⟩ = some (.slice p.B p.m p.cap)) ∧ Keep (fun _ => False) w1 w' from by
    obtain ⟨e0, e1, e2, e3, e4, e5⟩ := dat_cells (K.heap HB1.out id)
    exact ⟨⟨e0, e1, e2, e3, e4, e5⟩, K⟩))
  have Kd : Keep (fun _ => False) w1 w1.drew := (Keep.refl _ _).drew
  clear a0 a1 a2 a3 a4 a5
  go_region_held3 (fun w' => (w'.cell? ⟨B1, 0, none⟩ = some (.int .i64 r.k) ∧ w'.cell? ⟨B1, 1, none⟩ = some (.int .i32 r.c) ∧ w'.cell? ⟨B1, 2, none⟩ = some (.bool r.neg) ∧ w'.cell? ⟨B1, 3, none⟩ = some (.slice p.A p.n p.cp) ∧ w'.cell? ⟨B1, 4, none⟩ = some (.string r.t) ∧ w'.cell? ⟨B1, 5, none⟩ = some (.slice p.B p.m p.cap)) ∧ Keep (fun _ => False) w1 w')
    (first | exact HCL.out _ Kd | exact HCL.out _ (by assumption))
    (first
      | (go_at_call 92; go_split_ands; (with_reducible refine (HO.out _).mono ?_); rintro e w5 ⟨rfl, k5⟩; have K5 := Keep.trans (by assumption) k5)
      | (go_at_call 91; go_split_ands; (with_reducible refine (HF.out _ (HK1.out.trans (by assumption))).mono ?_); rintro e w6 ⟨rfl, k6⟩; have K6 := Keep.trans (by assumption) k6))
  have HK6 := Lib.hid (HK1.out.trans K6)
  obtain ⟨a0, a1, a2, a3, a4, a5⟩ := dat_cells (K6.heap HB1.out id)
  clear K5 K6 Kd
  try dsimp only
  go_wp2_with fail
  refine (HC.out _ HK6.out).mono ?_
  rintro e w7 ⟨rfl, k7⟩
  have HK7 := Lib.hid (HK6.out.trans k7)
  clear k7
  try dsimp only
  go_wp2_with fail
  go_ret
  exact ⟨rfl, HK7.out⟩
open Go.RowKit Go.Lib
open Go.RowKit Go.Lib
end Go.Proofs.YtkjocmenpccooaaGreatDoor
