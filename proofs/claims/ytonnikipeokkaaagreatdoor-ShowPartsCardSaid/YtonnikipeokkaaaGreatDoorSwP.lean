/-
  The program's May, first part: slices.Equal, flat, own.
  The program's own and flat.  (Printed by gen_sown.py.)
  The program's May: plain.  (Printed by gen_smay.py.)
-/
import Derived.Test.YtonnikipeokkaaaGreatDoorPaOne
import Derived.Test.YtonnikipeokkaaaGreatDoorPnMay
import Derived.Test.YtonnikipeokkaaaGreatDoorSwNum
namespace Go.Proofs.YtonnikipeokkaaaGreatDoor
open Go.RowKit Go.Lib

set_option maxRecDepth 100000 in
set_option maxHeartbeats 4000000 in
theorem equal_len (A : Option Addr) (n c : Nat) (A' : Option Addr) (n' c' : Nat) (w : World) (h : ((n : Int) == (n' : Int)) = false) :
    Calls Tryz.prog 160 #[.slice A n c, .slice A' n' c'] w (BoolPost false w) := by
  go_enter Tryz.func160, Tryz.ntmps160
  go_wp2_with fail
  go_ret
  exact ⟨rfl, Keep.refl _ _⟩
set_option maxRecDepth 100000 in
set_option maxHeartbeats 4000000 in
theorem equal_same (A : Option Addr) (n c : Nat) (A' : Option Addr) (c' : Nat) (l l' : List Nat) (w : World) (h : RowAt .u32 w A n l) (h' : RowAt .u32 w A' n l') (hn : n ≤ 9000000000) :
    Calls Tryz.prog 160 #[.slice A n c, .slice A' n c'] w (BoolPost (decide (l = l')) w) := by
  have HH := Lib.hid h
  have HH' := Lib.hid h'
  have HN := Lib.hid hn
  have e0 : ((n : Int) == (n : Int)) = true := beq_iff_eq.2 rfl
  clear h h' hn
  go_enter Tryz.func160, Tryz.ntmps160
  go_wp2_with fail
  go_loopw [13] (fun iv wr => ∃ k : Nat, k ≤ n ∧ iv = .int .i64 (k : Int) ∧ (∀ j, j < k → l.getD j 0 = l'.getD j 0) ∧ Keep (fun _ => False) w wr) (fun iv _ => n - (intOf iv).toNat)
  case atStart => exact ⟨0, Nat.zero_le _, rfl, fun j h1 => by omega, Keep.refl _ _⟩
  case round =>
    obtain ⟨k, hk, rfl, he, KW⟩ := hrel
    have HE := Lib.hid he
    have HK := Lib.hid KW
    by_cases hkn : k < n
    · obtain ⟨b1, o1, rfl, hb1, q1⟩ := (HH.out.keep0 KW).2 k hkn
      obtain ⟨b2, o2, rfl, hb2, q2⟩ := (HH'.out.keep0 KW).2 k hkn
      obtain ⟨x, hx⟩ : ∃ x, x = l.getD k 0 := ⟨_, rfl⟩
      obtain ⟨y, hy⟩ : ∃ y, y = l'.getD k 0 := ⟨_, rfl⟩
      rw [← hx] at q1
      rw [← hy] at q2
      have HXY := Lib.hid (And.intro hx hy)
      have HKN := Lib.hid hkn
      have l1 : (k : Int) < (n : Int) := by omega
      have l2 : (0 : Int) ≤ (k : Int) := by omega
      have l3 : (k : Int) ≤ 9000000000 := by have := HN.out; omega
      clear he KW hk hx hy hb1 hb2
      by_cases hxy : x = y
      · have f1 : ((x : Int) == (y : Int)) = true := beq_iff_eq.2 (by omega)
        go_wp2_with fail
        go_quiet (fail)
        go_wp2_with fail
        go_roundw
        case rel =>
          refine ⟨k + 1, by have := HKN.out; omega, by go_num, fun j hj => ?_, HK.out.drewN _⟩
          by_cases hjk : j = k
          · rw [hjk, ← HXY.out.1, ← HXY.out.2, hxy]
          · exact HE.out j (by omega)
        case measure => have := HKN.out; simp only [intOf]; omega
      · have f1 : ((x : Int) == (y : Int)) = false := beq_eq_false_iff_ne.2 (by omega)
        have HF := Lib.hid (show decide (l = l') = false from decide_eq_false (fun e => hxy (by rw [HXY.out.1, HXY.out.2, e])))
        clear hxy
        go_wp2_with fail
        go_quiet (fail)
        go_wp2_with fail
        go_ret
        exact ⟨by rw [HF.out]; rfl, HK.out.drewN _⟩
    · have hkn2 : k = n := by omega
      have HF := Lib.hid (show decide (l = l') = true from decide_eq_true (by
        refine List.ext_getElem (by rw [HH.out.1, HH'.out.1]) (fun j h1 h2 => ?_)
        have := he j (by rw [HH.out.1] at h1; omega)
        rw [List.getD_eq_getElem?_getD, List.getD_eq_getElem?_getD, List.getElem?_eq_getElem h1, List.getElem?_eq_getElem h2] at this
        exact this))
      have l1 : decide ((k : Int) < (n : Int)) = false := decide_eq_false (by omega)
      have l2 : decide (k < n) = false := decide_eq_false hkn
      clear he KW hk hkn hkn2
      go_wp2_with fail
      go_ret
      exact ⟨by rw [HF.out]; rfl, HK.out⟩
/-- slices.Equal, of two rows of limbs. -/
theorem equal_any (A : Option Addr) (n c : Nat) (A' : Option Addr) (n' c' : Nat) (l l' : List Nat) (w : World) (h : LimbsAt w A n c l) (h' : LimbsAt w A' n' c' l') :
    Calls Tryz.prog 160 #[.slice A n c, .slice A' n' c'] w (BoolPost (decide (l = l')) w) := by
  by_cases e : n = n'
  · subst e
    have := h.max
    exact equal_same A n c A' c' l l' w h.row h'.row (by omega)
  · have : decide (l = l') = false := decide_eq_false (fun e2 => e (by rw [← h.len, ← h'.len, e2]))
    rw [this]
    exact equal_len A n c A' n' c' w (beq_eq_false_iff_ne.2 (by omega))
end Go.Proofs.YtonnikipeokkaaaGreatDoor

namespace Go.Proofs.YtonnikipeokkaaaGreatDoor
open Go.RowKit Go.Lib

/-- What own hands back. -/
def OwnP (c : Int) (neg : Bool) (A : Option Addr) (n cp : Nat) (t : ByteArray) (B : Option Addr) (m cap : Nat) (k : Int) (w : World) (e : Ending) (w' : World) : Prop :=
  e = .returned (.agg #[.int .i64 k, .int .i32 c, .bool neg, .slice A n cp, .string t, .slice B m cap]) ∧ Keep (fun _ => False) w w'
set_option maxRecDepth 100000 in
set_option maxHeartbeats 8000000 in
theorem own_c3 (k c : Int) (neg : Bool) (A : Option Addr) (n cp : Nat) (t : ByteArray) (B : Option Addr) (m cap : Nat) (w : World) (s3 : (k == 3) = true) : Calls Tryz.prog 133 #[.agg #[.int .i64 k, .int .i32 c, .bool neg, .slice A n cp, .string t, .slice B m cap]] w (OwnP c false none 0 0 ⟨#[]⟩ none 0 0 k w) := by
  have hb1 : (w.alloc (.cells #[.int .i64 k, .int .i32 c, .bool neg, .slice A n cp, .string t, .slice B m cap] 27)).heap[w.heap.size]? = some (.cells #[.int .i64 k, .int .i32 c, .bool neg, .slice A n cp, .string t, .slice B m cap] 27 (0, 0)) := heap_alloc_new w _
  obtain ⟨⟨a0, a1, a2, a3, a4, a5⟩, _⟩ := six_cells hb1
  have hb2 : (((w.alloc (.cells #[.int .i64 k, .int .i32 c, .bool neg, .slice A n cp, .string t, .slice B m cap] 27)).alloc (.cells #[.int .i64 k, .int .i32 c, .bool false, .slice none 0 0, .string ⟨#[]⟩, .slice none 0 0] 27)).alloc (.cells #[.int .i64 k, .int .i32 c, .bool false, .slice none 0 0, .string ⟨#[]⟩, .slice none 0 0] 27)).heap[w.heap.size + 1]? = some (.cells #[.int .i64 k, .int .i32 c, .bool false, .slice none 0 0, .string ⟨#[]⟩, .slice none 0 0] 27 (0, 0)) := bx_old (by
    have := heap_alloc_new (w.alloc (.cells #[.int .i64 k, .int .i32 c, .bool neg, .slice A n cp, .string t, .slice B m cap] 27)) (.cells #[.int .i64 k, .int .i32 c, .bool false, .slice none 0 0, .string ⟨#[]⟩, .slice none 0 0] 27)
    rwa [World.size_alloc] at this) _
  have HE := Lib.hid (six_cells hb2).1
  clear hb1 hb2
  go_enter Tryz.func133, Tryz.ntmps133
  go_wp2_with fail
  obtain ⟨e0, e1, e2, e3, e4, e5⟩ := HE.out
  exact bodyPost_ret (v := .agg #[.int .i64 k, .int .i32 c, .bool false, .slice none 0 0, .string ⟨#[]⟩, .slice none 0 0]) (by simp [results, Tryz.results133, go_sem, e0, e1, e2, e3, e4, e5]) rfl ⟨rfl, (((Keep.refl _ _).alloc _).alloc _).alloc _⟩
set_option maxRecDepth 100000 in
set_option maxHeartbeats 8000000 in
theorem own_c4 (k c : Int) (neg : Bool) (A : Option Addr) (n cp : Nat) (t : ByteArray) (B : Option Addr) (m cap : Nat) (w : World) (s3 : (k == 3) = false) (s4 : (k == 4) = true) : Calls Tryz.prog 133 #[.agg #[.int .i64 k, .int .i32 c, .bool neg, .slice A n cp, .string t, .slice B m cap]] w (OwnP 0 neg A n cp ⟨#[]⟩ none 0 0 k w) := by
  have hb1 : (w.alloc (.cells #[.int .i64 k, .int .i32 c, .bool neg, .slice A n cp, .string t, .slice B m cap] 27)).heap[w.heap.size]? = some (.cells #[.int .i64 k, .int .i32 c, .bool neg, .slice A n cp, .string t, .slice B m cap] 27 (0, 0)) := heap_alloc_new w _
  obtain ⟨⟨a0, a1, a2, a3, a4, a5⟩, _⟩ := six_cells hb1
  have hb2 : (((w.alloc (.cells #[.int .i64 k, .int .i32 c, .bool neg, .slice A n cp, .string t, .slice B m cap] 27)).alloc (.cells #[.int .i64 k, .int .i32 0, .bool neg, .slice A n cp, .string ⟨#[]⟩, .slice none 0 0] 27)).alloc (.cells #[.int .i64 k, .int .i32 0, .bool neg, .slice A n cp, .string ⟨#[]⟩, .slice none 0 0] 27)).heap[w.heap.size + 1]? = some (.cells #[.int .i64 k, .int .i32 0, .bool neg, .slice A n cp, .string ⟨#[]⟩, .slice none 0 0] 27 (0, 0)) := bx_old (by
    have := heap_alloc_new (w.alloc (.cells #[.int .i64 k, .int .i32 c, .bool neg, .slice A n cp, .string t, .slice B m cap] 27)) (.cells #[.int .i64 k, .int .i32 0, .bool neg, .slice A n cp, .string ⟨#[]⟩, .slice none 0 0] 27)
    rwa [World.size_alloc] at this) _
  have HE := Lib.hid (six_cells hb2).1
  clear hb1 hb2
  go_enter Tryz.func133, Tryz.ntmps133
  go_wp2_with fail
  obtain ⟨e0, e1, e2, e3, e4, e5⟩ := HE.out
  exact bodyPost_ret (v := .agg #[.int .i64 k, .int .i32 0, .bool neg, .slice A n cp, .string ⟨#[]⟩, .slice none 0 0]) (by simp [results, Tryz.results133, go_sem, e0, e1, e2, e3, e4, e5]) rfl ⟨rfl, (((Keep.refl _ _).alloc _).alloc _).alloc _⟩
set_option maxRecDepth 100000 in
set_option maxHeartbeats 8000000 in
theorem own_c5 (k c : Int) (neg : Bool) (A : Option Addr) (n cp : Nat) (t : ByteArray) (B : Option Addr) (m cap : Nat) (w : World) (s3 : (k == 3) = false) (s4 : (k == 4) = false) (s5 : (k == 5) = true) : Calls Tryz.prog 133 #[.agg #[.int .i64 k, .int .i32 c, .bool neg, .slice A n cp, .string t, .slice B m cap]] w (OwnP 0 false none 0 0 t none 0 0 k w) := by
  have hb1 : (w.alloc (.cells #[.int .i64 k, .int .i32 c, .bool neg, .slice A n cp, .string t, .slice B m cap] 27)).heap[w.heap.size]? = some (.cells #[.int .i64 k, .int .i32 c, .bool neg, .slice A n cp, .string t, .slice B m cap] 27 (0, 0)) := heap_alloc_new w _
  obtain ⟨⟨a0, a1, a2, a3, a4, a5⟩, _⟩ := six_cells hb1
  have hb2 : (((w.alloc (.cells #[.int .i64 k, .int .i32 c, .bool neg, .slice A n cp, .string t, .slice B m cap] 27)).alloc (.cells #[.int .i64 k, .int .i32 0, .bool false, .slice none 0 0, .string t, .slice none 0 0] 27)).alloc (.cells #[.int .i64 k, .int .i32 0, .bool false, .slice none 0 0, .string t, .slice none 0 0] 27)).heap[w.heap.size + 1]? = some (.cells #[.int .i64 k, .int .i32 0, .bool false, .slice none 0 0, .string t, .slice none 0 0] 27 (0, 0)) := bx_old (by
    have := heap_alloc_new (w.alloc (.cells #[.int .i64 k, .int .i32 c, .bool neg, .slice A n cp, .string t, .slice B m cap] 27)) (.cells #[.int .i64 k, .int .i32 0, .bool false, .slice none 0 0, .string t, .slice none 0 0] 27)
    rwa [World.size_alloc] at this) _
  have HE := Lib.hid (six_cells hb2).1
  clear hb1 hb2
  go_enter Tryz.func133, Tryz.ntmps133
  go_wp2_with fail
  obtain ⟨e0, e1, e2, e3, e4, e5⟩ := HE.out
  exact bodyPost_ret (v := .agg #[.int .i64 k, .int .i32 0, .bool false, .slice none 0 0, .string t, .slice none 0 0]) (by simp [results, Tryz.results133, go_sem, e0, e1, e2, e3, e4, e5]) rfl ⟨rfl, (((Keep.refl _ _).alloc _).alloc _).alloc _⟩
set_option maxRecDepth 100000 in
set_option maxHeartbeats 8000000 in
theorem own_c6 (k c : Int) (neg : Bool) (A : Option Addr) (n cp : Nat) (t : ByteArray) (B : Option Addr) (m cap : Nat) (w : World) (s3 : (k == 3) = false) (s4 : (k == 4) = false) (s5 : (k == 5) = false) (s6 : (k == 6) = true) : Calls Tryz.prog 133 #[.agg #[.int .i64 k, .int .i32 c, .bool neg, .slice A n cp, .string t, .slice B m cap]] w (OwnP 0 false none 0 0 t none 0 0 k w) := by
  have hb1 : (w.alloc (.cells #[.int .i64 k, .int .i32 c, .bool neg, .slice A n cp, .string t, .slice B m cap] 27)).heap[w.heap.size]? = some (.cells #[.int .i64 k, .int .i32 c, .bool neg, .slice A n cp, .string t, .slice B m cap] 27 (0, 0)) := heap_alloc_new w _
  obtain ⟨⟨a0, a1, a2, a3, a4, a5⟩, _⟩ := six_cells hb1
  have hb2 : (((w.alloc (.cells #[.int .i64 k, .int .i32 c, .bool neg, .slice A n cp, .string t, .slice B m cap] 27)).alloc (.cells #[.int .i64 k, .int .i32 0, .bool false, .slice none 0 0, .string t, .slice none 0 0] 27)).alloc (.cells #[.int .i64 k, .int .i32 0, .bool false, .slice none 0 0, .string t, .slice none 0 0] 27)).heap[w.heap.size + 1]? = some (.cells #[.int .i64 k, .int .i32 0, .bool false, .slice none 0 0, .string t, .slice none 0 0] 27 (0, 0)) := bx_old (by
    have := heap_alloc_new (w.alloc (.cells #[.int .i64 k, .int .i32 c, .bool neg, .slice A n cp, .string t, .slice B m cap] 27)) (.cells #[.int .i64 k, .int .i32 0, .bool false, .slice none 0 0, .string t, .slice none 0 0] 27)
    rwa [World.size_alloc] at this) _
  have HE := Lib.hid (six_cells hb2).1
  clear hb1 hb2
  go_enter Tryz.func133, Tryz.ntmps133
  go_wp2_with fail
  obtain ⟨e0, e1, e2, e3, e4, e5⟩ := HE.out
  exact bodyPost_ret (v := .agg #[.int .i64 k, .int .i32 0, .bool false, .slice none 0 0, .string t, .slice none 0 0]) (by simp [results, Tryz.results133, go_sem, e0, e1, e2, e3, e4, e5]) rfl ⟨rfl, (((Keep.refl _ _).alloc _).alloc _).alloc _⟩
set_option maxRecDepth 100000 in
set_option maxHeartbeats 8000000 in
theorem own_c7 (k c : Int) (neg : Bool) (A : Option Addr) (n cp : Nat) (t : ByteArray) (B : Option Addr) (m cap : Nat) (w : World) (s3 : (k == 3) = false) (s4 : (k == 4) = false) (s5 : (k == 5) = false) (s6 : (k == 6) = false) (s7 : (k == 7) = true) : Calls Tryz.prog 133 #[.agg #[.int .i64 k, .int .i32 c, .bool neg, .slice A n cp, .string t, .slice B m cap]] w (OwnP 0 false none 0 0 ⟨#[]⟩ B m cap k w) := by
  have hb1 : (w.alloc (.cells #[.int .i64 k, .int .i32 c, .bool neg, .slice A n cp, .string t, .slice B m cap] 27)).heap[w.heap.size]? = some (.cells #[.int .i64 k, .int .i32 c, .bool neg, .slice A n cp, .string t, .slice B m cap] 27 (0, 0)) := heap_alloc_new w _
  obtain ⟨⟨a0, a1, a2, a3, a4, a5⟩, _⟩ := six_cells hb1
  have hb2 : (((w.alloc (.cells #[.int .i64 k, .int .i32 c, .bool neg, .slice A n cp, .string t, .slice B m cap] 27)).alloc (.cells #[.int .i64 k, .int .i32 0, .bool false, .slice none 0 0, .string ⟨#[]⟩, .slice B m cap] 27)).alloc (.cells #[.int .i64 k, .int .i32 0, .bool false, .slice none 0 0, .string ⟨#[]⟩, .slice B m cap] 27)).heap[w.heap.size + 1]? = some (.cells #[.int .i64 k, .int .i32 0, .bool false, .slice none 0 0, .string ⟨#[]⟩, .slice B m cap] 27 (0, 0)) := bx_old (by
    have := heap_alloc_new (w.alloc (.cells #[.int .i64 k, .int .i32 c, .bool neg, .slice A n cp, .string t, .slice B m cap] 27)) (.cells #[.int .i64 k, .int .i32 0, .bool false, .slice none 0 0, .string ⟨#[]⟩, .slice B m cap] 27)
    rwa [World.size_alloc] at this) _
  have HE := Lib.hid (six_cells hb2).1
  clear hb1 hb2
  go_enter Tryz.func133, Tryz.ntmps133
  go_wp2_with fail
  obtain ⟨e0, e1, e2, e3, e4, e5⟩ := HE.out
  exact bodyPost_ret (v := .agg #[.int .i64 k, .int .i32 0, .bool false, .slice none 0 0, .string ⟨#[]⟩, .slice B m cap]) (by simp [results, Tryz.results133, go_sem, e0, e1, e2, e3, e4, e5]) rfl ⟨rfl, (((Keep.refl _ _).alloc _).alloc _).alloc _⟩
set_option maxRecDepth 100000 in
set_option maxHeartbeats 8000000 in
theorem own_c8 (k c : Int) (neg : Bool) (A : Option Addr) (n cp : Nat) (t : ByteArray) (B : Option Addr) (m cap : Nat) (w : World) (s3 : (k == 3) = false) (s4 : (k == 4) = false) (s5 : (k == 5) = false) (s6 : (k == 6) = false) (s7 : (k == 7) = false) (s8 : (k == 8) = true) : Calls Tryz.prog 133 #[.agg #[.int .i64 k, .int .i32 c, .bool neg, .slice A n cp, .string t, .slice B m cap]] w (OwnP 0 false none 0 0 ⟨#[]⟩ B m cap k w) := by
  have hb1 : (w.alloc (.cells #[.int .i64 k, .int .i32 c, .bool neg, .slice A n cp, .string t, .slice B m cap] 27)).heap[w.heap.size]? = some (.cells #[.int .i64 k, .int .i32 c, .bool neg, .slice A n cp, .string t, .slice B m cap] 27 (0, 0)) := heap_alloc_new w _
  obtain ⟨⟨a0, a1, a2, a3, a4, a5⟩, _⟩ := six_cells hb1
  have hb2 : (((w.alloc (.cells #[.int .i64 k, .int .i32 c, .bool neg, .slice A n cp, .string t, .slice B m cap] 27)).alloc (.cells #[.int .i64 k, .int .i32 0, .bool false, .slice none 0 0, .string ⟨#[]⟩, .slice B m cap] 27)).alloc (.cells #[.int .i64 k, .int .i32 0, .bool false, .slice none 0 0, .string ⟨#[]⟩, .slice B m cap] 27)).heap[w.heap.size + 1]? = some (.cells #[.int .i64 k, .int .i32 0, .bool false, .slice none 0 0, .string ⟨#[]⟩, .slice B m cap] 27 (0, 0)) := bx_old (by
    have := heap_alloc_new (w.alloc (.cells #[.int .i64 k, .int .i32 c, .bool neg, .slice A n cp, .string t, .slice B m cap] 27)) (.cells #[.int .i64 k, .int .i32 0, .bool false, .slice none 0 0, .string ⟨#[]⟩, .slice B m cap] 27)
    rwa [World.size_alloc] at this) _
  have HE := Lib.hid (six_cells hb2).1
  clear hb1 hb2
  go_enter Tryz.func133, Tryz.ntmps133
  go_wp2_with fail
  obtain ⟨e0, e1, e2, e3, e4, e5⟩ := HE.out
  exact bodyPost_ret (v := .agg #[.int .i64 k, .int .i32 0, .bool false, .slice none 0 0, .string ⟨#[]⟩, .slice B m cap]) (by simp [results, Tryz.results133, go_sem, e0, e1, e2, e3, e4, e5]) rfl ⟨rfl, (((Keep.refl _ _).alloc _).alloc _).alloc _⟩
set_option maxRecDepth 100000 in
set_option maxHeartbeats 8000000 in
theorem own_cx (k c : Int) (neg : Bool) (A : Option Addr) (n cp : Nat) (t : ByteArray) (B : Option Addr) (m cap : Nat) (w : World) (s3 : (k == 3) = false) (s4 : (k == 4) = false) (s5 : (k == 5) = false) (s6 : (k == 6) = false) (s7 : (k == 7) = false) (s8 : (k == 8) = false) : Calls Tryz.prog 133 #[.agg #[.int .i64 k, .int .i32 c, .bool neg, .slice A n cp, .string t, .slice B m cap]] w (OwnP 0 false none 0 0 ⟨#[]⟩ none 0 0 k w) := by
  have hb1 : (w.alloc (.cells #[.int .i64 k, .int .i32 c, .bool neg, .slice A n cp, .string t, .slice B m cap] 27)).heap[w.heap.size]? = some (.cells #[.int .i64 k, .int .i32 c, .bool neg, .slice A n cp, .string t, .slice B m cap] 27 (0, 0)) := heap_alloc_new w _
  obtain ⟨⟨a0, a1, a2, a3, a4, a5⟩, _⟩ := six_cells hb1
  have hb2 : (((w.alloc (.cells #[.int .i64 k, .int .i32 c, .bool neg, .slice A n cp, .string t, .slice B m cap] 27)).alloc (.cells #[.int .i64 k, .int .i32 0, .bool false, .slice none 0 0, .string ⟨#[]⟩, .slice none 0 0] 27)).alloc (.cells #[.int .i64 k, .int .i32 0, .bool false, .slice none 0 0, .string ⟨#[]⟩, .slice none 0 0] 27)).heap[w.heap.size + 1]? = some (.cells #[.int .i64 k, .int .i32 0, .bool false, .slice none 0 0, .string ⟨#[]⟩, .slice none 0 0] 27 (0, 0)) := bx_old (by
    have := heap_alloc_new (w.alloc (.cells #[.int .i64 k, .int .i32 c, .bool neg, .slice A n cp, .string t, .slice B m cap] 27)) (.cells #[.int .i64 k, .int .i32 0, .bool false, .slice none 0 0, .string ⟨#[]⟩, .slice none 0 0] 27)
    rwa [World.size_alloc] at this) _
  have HE := Lib.hid (six_cells hb2).1
  clear hb1 hb2
  go_enter Tryz.func133, Tryz.ntmps133
  go_wp2_with fail
  obtain ⟨e0, e1, e2, e3, e4, e5⟩ := HE.out
  exact bodyPost_ret (v := .agg #[.int .i64 k, .int .i32 0, .bool false, .slice none 0 0, .string ⟨#[]⟩, .slice none 0 0]) (by simp [results, Tryz.results133, go_sem, e0, e1, e2, e3, e4, e5]) rfl ⟨rfl, (((Keep.refl _ _).alloc _).alloc _).alloc _⟩
set_option maxRecDepth 100000 in
set_option maxHeartbeats 8000000 in
theorem flat_any (k c : Int) (neg : Bool) (A : Option Addr) (n cp : Nat) (t : ByteArray) (B : Option Addr) (m cap : Nat) (k' c' : Int) (neg' : Bool) (A' : Option Addr) (n' cp' : Nat) (t' : ByteArray) (B' : Option Addr) (m' cap' : Nat) (l l' : List Nat) (w : World) (h : LimbsAt w A n cp l) (h' : LimbsAt w A' n' cp' l') :
    Calls Tryz.prog 132 #[.agg #[.int .i64 k, .int .i32 c, .bool neg, .slice A n cp, .string t, .slice B m cap], .agg #[.int .i64 k', .int .i32 c', .bool neg', .slice A' n' cp', .string t', .slice B' m' cap']] w (BoolPost (k == k' && (c == c' && (neg == neg' && (decide (l = l') && (t.toList == t'.toList && (m : Int) == (m' : Int)))))) w) := by
  have hb1 : ((w.alloc (.cells #[.int .i64 k, .int .i32 c, .bool neg, .slice A n cp, .string t, .slice B m cap] 27)).alloc (.cells #[.int .i64 k', .int .i32 c', .bool neg', .slice A' n' cp', .string t', .slice B' m' cap'] 27)).heap[w.heap.size]? = some (.cells #[.int .i64 k, .int .i32 c, .bool neg, .slice A n cp, .string t, .slice B m cap] 27 (0, 0)) := bx_old (heap_alloc_new w _) _
  have hb2 : ((w.alloc (.cells #[.int .i64 k, .int .i32 c, .bool neg, .slice A n cp, .string t, .slice B m cap] 27)).alloc (.cells #[.int .i64 k', .int .i32 c', .bool neg', .slice A' n' cp', .string t', .slice B' m' cap'] 27)).heap[w.heap.size + 1]? = some (.cells #[.int .i64 k', .int .i32 c', .bool neg', .slice A' n' cp', .string t', .slice B' m' cap'] 27 (0, 0)) := by
    have := heap_alloc_new (w.alloc (.cells #[.int .i64 k, .int .i32 c, .bool neg, .slice A n cp, .string t, .slice B m cap] 27)) (.cells #[.int .i64 k', .int .i32 c', .bool neg', .slice A' n' cp', .string t', .slice B' m' cap'] 27)
    rwa [World.size_alloc] at this
  have K : Keep (fun _ => False) w ((w.alloc (.cells #[.int .i64 k, .int .i32 c, .bool neg, .slice A n cp, .string t, .slice B m cap] 27)).alloc (.cells #[.int .i64 k', .int .i32 c', .bool neg', .slice A' n' cp', .string t', .slice B' m' cap'] 27)) := ((Keep.refl _ _).alloc _).alloc _
  have HK := Lib.hid K
  have HEQ := Lib.hid (equal_any A n cp A' n' cp' l l' ((w.alloc (.cells #[.int .i64 k, .int .i32 c, .bool neg, .slice A n cp, .string t, .slice B m cap] 27)).alloc (.cells #[.int .i64 k', .int .i32 c', .bool neg', .slice A' n' cp', .string t', .slice B' m' cap'] 27)) (h.keep0 K) (h'.keep0 K))
  have HB := Lib.hid (fun (W : World) (k : Keep (fun _ => False) ((w.alloc (.cells #[.int .i64 k, .int .i32 c, .bool neg, .slice A n cp, .string t, .slice B m cap] 27)).alloc (.cells #[.int .i64 k', .int .i32 c', .bool neg', .slice A' n' cp', .string t', .slice B' m' cap'] 27)) W) => And.intro (six_cells (k.heap hb1 id)).1 (six_cells (k.heap hb2 id)).1)
  obtain ⟨⟨a0, a1, a2, a3, a4, a5⟩, b0, b1, b2, b3, b4, b5⟩ := HB.out _ (Keep.refl _ _)
  obtain ⟨q, hq⟩ : ∃ q, q = decide (l = l') := ⟨_, rfl⟩
  rw [← hq] at HEQ ⊢
  clear hb1 hb2 K h h' hq
  go_enter Tryz.func132, Tryz.ntmps132
  by_cases t2 : k = k'
  · have ft2 : (k == k') = true := beq_iff_eq.2 t2
    rw [ft2, Bool.true_and]
    have Hft2 := Lib.hid t2
    clear t2
    by_cases t1 : c = c'
    · have ft1 : (c == c') = true := beq_iff_eq.2 t1
      rw [ft1, Bool.true_and]
      have Hft1 := Lib.hid t1
      clear t1
      by_cases t0 : neg = neg'
      · have ft0 : (neg == neg') = true := beq_iff_eq.2 t0
        rw [ft0, Bool.true_and]
        have Hft0 := Lib.hid t0
        clear t0
        go_wp2_with fail
        refine HEQ.out.mono ?_
        rintro e w3 ⟨rfl, k3⟩
        clear a0 a1 a2 a3 a4 a5 b0 b1 b2 b3 b4 b5
        obtain ⟨⟨a0, a1, a2, a3, a4, a5⟩, b0, b1, b2, b3, b4, b5⟩ := HB.out _ k3
        have HK3 := Lib.hid (HK.out.trans k3)
        clear k3
        cases q with
        | false =>
          try dsimp only
          go_wp2_with fail
          go_ret
          exact ⟨rfl, HK3.out⟩
        | true =>
          by_cases ht : t.toList = t'.toList
          · have ft : (t.toList == t'.toList) = true := beq_iff_eq.2 ht
            clear ht
            try dsimp only
            go_wp2_with fail
            go_ret
            exact ⟨by rw [ft]; rfl, HK3.out⟩
          · have ft : (t.toList == t'.toList) = false := beq_eq_false_iff_ne.2 ht
            clear ht
            try dsimp only
            go_wp2_with fail
            go_ret
            exact ⟨by rw [ft]; rfl, HK3.out⟩
      · have ft0 : (neg == neg') = false := beq_eq_false_iff_ne.2 t0
        rw [ft0, Bool.false_and]
        clear t0
        go_wp2_with fail
        go_ret
        exact ⟨rfl, HK.out⟩
    · have ft1 : (c == c') = false := beq_eq_false_iff_ne.2 t1
      rw [ft1, Bool.false_and]
      clear t1
      go_wp2_with fail
      go_ret
      exact ⟨rfl, HK.out⟩
  · have ft2 : (k == k') = false := beq_eq_false_iff_ne.2 t2
    rw [ft2, Bool.false_and]
    clear t2
    go_wp2_with fail
    go_ret
    exact ⟨rfl, HK.out⟩
end Go.Proofs.YtonnikipeokkaaaGreatDoor

namespace Go.Proofs.YtonnikipeokkaaaGreatDoor
open Go.RowKit Go.Lib

set_option maxRecDepth 100000 in
set_option maxHeartbeats 8000000 in
theorem ptext_w (s : ByteArray) (least n : Int) (v : Bool) (w : World) (HC : Hid (∀ W : World, Keep (fun _ => False) w W → Calls Tryz.prog 122 #[.string s] W (fun e w' => e = .returned (.int .i64 n) ∧ Keep (fun _ => False) W w'))) (HV : Hid (∀ W : World, Keep (fun _ => False) w W → Calls Tryz.prog 121 #[.string s] W (BoolPost v W))) :
    Calls Tryz.prog 136 #[.string s, .int .i64 least] w (BoolPost (v && (decide (least ≤ n) && decide (n ≤ 62))) w) := by
  go_enter Tryz.func136, Tryz.ntmps136
  go_wp2_with fail
  refine (HC.out _ (Keep.refl _ _)).mono ?_
  rintro e w2 ⟨rfl, k2⟩
  have HK2 := Lib.hid k2
  clear k2
  try dsimp only
  go_wp2_with fail
  refine (HV.out _ HK2.out).mono ?_
  rintro e w3 ⟨rfl, k3⟩
  have HK3 := Lib.hid (HK2.out.trans k3)
  clear k3
  cases v with
  | false =>
    try dsimp only
    go_wp2_with fail
    go_ret
    exact ⟨rfl, HK3.out⟩
  | true =>
    by_cases h : least ≤ n
    · have f : decide (least ≤ n) = true := decide_eq_true h
      try dsimp only
      go_wp2_with fail
      go_ret
      exact ⟨by rw [f]; rfl, HK3.out⟩
    · have f : decide (least ≤ n) = false := decide_eq_false h
      clear h
      try dsimp only
      go_wp2_with fail
      go_ret
      exact ⟨by rw [f]; rfl, HK3.out⟩
theorem ptext_any (s : ByteArray) (sym : Bool) (w : World) (hs : s.size ≤ 1000000000) (hT : Tabs w) : Calls Tryz.prog 136 #[.string s, .int .i64 (if sym then 1 else 0)] w (BoolPost (textB (runesL s.data.toList) sym) w) := by
  have hv := runesL_valid s.data.toList
  have key : ∀ n : Int, n = (Lib.runeCount s : Int) → textB (runesL s.data.toList) sym = (Lib.validD s.data.toList && (decide ((if sym then (1 : Int) else 0) ≤ n) && decide (n ≤ 62))) := by
    intro n hn
    rw [← hv]
    cases hr : runesL s.data.toList with
    | none => rfl
    | some r =>
      have hc := runesL_count s r hr
      rw [hn, hc]
      unfold textB
      simp only [Option.isSome_some, Bool.true_and]
      rw [Bool.and_comm]
      congr 1
      · cases sym
        · simp
        · simp only [if_true, Bool.not_true, Bool.false_or]
          rw [Bool.eq_iff_iff, decide_eq_true_iff, decide_eq_true_iff]
          omega
      · rw [Bool.eq_iff_iff, decide_eq_true_iff, decide_eq_true_iff]
        omega
  rw [key _ rfl]
  refine ptext_w s _ _ _ w (Lib.hid (fun W _ => (Tryz.utf8_RuneCountInString s W (by omega)).mono (fun e w' h => ⟨h.1, ?_⟩))) (Lib.hid (fun W K => (Tryz.utf8_ValidString s W (by omega) (hT.keep K).u8).mono (fun e w' h => ⟨h.1, Keep.of_below h.2⟩)))
  obtain ⟨pos, rfl⟩ := h.2
  exact (Keep.refl _ _).alloc _
set_option maxRecDepth 100000 in
set_option maxHeartbeats 8000000 in
theorem plain1_any (r : Raw) (p : PV) (w : World) (b : Bool) (HC : Hid (∀ W : World, Keep (fun _ => False) w W → Calls Tryz.prog 105 #[rawV r p] W (BoolPost b W))) : Calls Tryz.prog 138 #[rawV r p] w (BoolPost (!b) w) := by
  have hb1 : (w.alloc (.cells (rawC r p) 27)).heap[w.heap.size]? = some (.cells (rawC r p) 27 (0, 0)) := heap_alloc_new w _
  have HK1 := Lib.hid (show Keep (fun _ => False) w (w.alloc (.cells (rawC r p) 27)) from (Keep.refl _ _).alloc _)
  obtain ⟨⟨a0, a1, a2, a3, a4, a5⟩, _⟩ := six_cells hb1
  clear hb1
  go_enter Tryz.func138, Tryz.ntmps138
  go_wp2_with fail
  refine (HC.out _ HK1.out).mono ?_
  rintro e w3 ⟨rfl, k3⟩
  have HK3 := Lib.hid (HK1.out.trans k3)
  clear k3
  try dsimp only
  go_wp2_with fail
  go_ret
  exact ⟨rfl, HK3.out⟩
set_option maxRecDepth 100000 in
set_option maxHeartbeats 8000000 in
theorem dindex_any (l : List Raw) (vs : Nat → PV) (B : Option Addr) (m cap : Nat) (w : World) (hl : Hid (l.length = m)) (hm : m ≤ 9223372036854775807) (HROW : Hid (0 < m → ∃ bb off, B = some ⟨bb, off, .none⟩ ∧ ∀ i (h : i < l.length), ItemC w bb off i l[i] (vs i)))
    (HI : Hid (∀ i (h : i < l.length) (W : World), Keep (fun _ => False) w W → Calls Tryz.prog 138 #[rawV l[i] (vs i)] W (BoolPost (!plainB l[i]) W))) :
    Calls Tryz.prog 161 #[.slice B m cap, .func (.func 138) #[] #[]] w (fun e w' => ∃ z : Int, e = .returned (.int .i64 z) ∧ decide (0 ≤ z) = !plainL l ∧ Keep (fun _ => False) w w') := by
  go_enter Tryz.func161, Tryz.ntmps161
  go_wp2_with fail
  go_loopw [8] (fun iv wr => ∃ i : Nat, i ≤ m ∧ iv = .int .i64 (i : Int) ∧ (∀ j (h : j < l.length), j < i → plainB l[j] = true) ∧ Keep (fun _ => False) w wr) (fun iv _ => m - (intOf iv).toNat)
  case atStart => exact ⟨0, Nat.zero_le _, rfl, fun _ _ h => absurd h (Nat.not_lt_zero _), Keep.refl _ _⟩
  case round =>
    obtain ⟨i, hi, rfl, hp, kr⟩ := hrel
    have HP := Lib.hid hp
    have HK := Lib.hid kr
    by_cases h4 : i < m
    · have hil : i < l.length := by rw [hl.out]; exact h4
      obtain ⟨bb, off, rfl, hrow⟩ := HROW.out (by omega)
      obtain ⟨c0, c1, c2, c3, c4, c5⟩ := ((hrow i hil).keep kr id).cells
      have HC := Lib.hid (HI.out i hil)
      have HPL : Hid (plainB l[i] = false → plainL l = false) := Lib.hid (fun h => plainL_false hil h)
      have HNX : Hid (plainB l[i] = true → ∀ j (h : j < l.length), j < i + 1 → plainB l[j] = true) := Lib.hid (fun h j hj hji => by
        by_cases e : j = i
        · subst e; exact h
        · exact hp j hj (by omega))
      obtain ⟨x, hx⟩ : ∃ x, x = l[i]'hil := ⟨_, rfl⟩
      rw [← hx] at c0 c1 c2 c4 HC HPL HNX
      obtain ⟨v, hv⟩ : ∃ v, v = vs i := ⟨_, rfl⟩
      rw [← hv] at c3 c5 HC
      have l1 : (i : Int) < (m : Int) := by omega
      have l2 : (0 : Int) ≤ (i : Int) := by omega
      have HI4 := Lib.hid h4
      clear hp kr hil hrow hx hv hi h4
      go_wp2_with fail
      refine (HC.out _ HK.out).mono ?_
      rintro e w3 ⟨rfl, k3⟩
      have HK3 := Lib.hid (HK.out.trans k3)
      clear k3 c0 c1 c2 c3 c4 c5
      cases hb : plainB x with
      | true =>
        have HN := Lib.hid (HNX.out hb)
        clear hb
        try dsimp only
        go_wp2_with fail
        go_roundw
        case rel => exact ⟨i + 1, by have := HI4.out; omega, by go_num, HN.out, HK3.out⟩
        case measure => have := HI4.out; simp only [intOf]; omega
      | false =>
        have HN := Lib.hid (HPL.out hb)
        clear hb
        try dsimp only
        go_wp2_with fail
        go_ret
        exact ⟨_, rfl, by rw [HN.out]; exact decide_eq_true (by omega), HK3.out⟩
    · have HA := Lib.hid (show plainL l = true from plainL_true.2 (fun j hj => hp j hj (by rw [hl.out] at hj; omega)))
      have l1 : decide ((i : Int) < (m : Int)) = false := decide_eq_false (by omega)
      have l3 : decide (i < m) = false := decide_eq_false h4
      clear hp kr hi h4
      go_wp2_with fail
      go_ret
      exact ⟨_, rfl, by rw [HA.out]; rfl, HK.out⟩
set_option maxRecDepth 100000 in
set_option maxHeartbeats 8000000 in
theorem dcont_any (l : List Raw) (vs : Nat → PV) (B : Option Addr) (m cap : Nat) (w : World) (hl : l.length = m) (hm : m ≤ 9223372036854775807) (HROW : 0 < m → ∃ bb off, B = some ⟨bb, off, .none⟩ ∧ ∀ i (h : i < l.length), ItemC w bb off i l[i] (vs i))
    (HI : ∀ i (h : i < l.length) (W : World), Keep (fun _ => False) w W → Calls Tryz.prog 105 #[rawV l[i] (vs i)] W (BoolPost (plainB l[i]) W)) :
    Calls Tryz.prog 137 #[.slice B m cap, .func (.func 138) #[] #[]] w (BoolPost (!plainL l) w) := by
  have HX := Lib.hid (dindex_any l vs B m cap w (Lib.hid hl) hm (Lib.hid HROW) (Lib.hid (fun i h W K => plain1_any l[i] (vs i) W _ (Lib.hid (fun W' K' => HI i h W' (K.trans K'))))))
  clear HI HROW hl hm
  go_enter Tryz.func137, Tryz.ntmps137
  go_wp2_with fail
  refine HX.out.mono ?_
  rintro e w3 ⟨z, rfl, hz, k3⟩
  have HZ := Lib.hid hz
  have HK3 := Lib.hid k3
  clear k3 hz
  try dsimp only
  go_wp2_with fail
  go_ret
  exact ⟨by rw [← HZ.out]; go_num, HK3.out⟩
end Go.Proofs.YtonnikipeokkaaaGreatDoor
