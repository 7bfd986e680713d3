/-
  num: row.
-/
import Derived.Test.YtdfekphahdmffaaDoorNuCmp
namespace Go.Proofs.YtdfekphahdmffaaDoor
open Go.RowKit

/-- The row when k limbs of n are made. -/
def rowPart (F : Nat → Nat → Nat) (n k : Nat) : List Nat := (List.range n).map fun i => if i < k then F i (rowC BB F i) % BB else 0
theorem rowPart_len (F : Nat → Nat → Nat) (n k : Nat) : (rowPart F n k).length = n := by simp [rowPart]
theorem rowPart_all (F : Nat → Nat → Nat) (n : Nat) : rowPart F n n = rowL BB F n := by
  unfold rowPart rowL
  refine List.map_congr_left fun i hi => ?_
  rw [if_pos (List.mem_range.1 hi)]
theorem rowPart_set (F : Nat → Nat → Nat) (n k : Nat) (hk : k < n) : (rowPart F n k).set k (F k (rowC BB F k) % BB) = rowPart F n (k + 1) := by
  refine List.ext_getElem? fun i => ?_
  rw [List.getElem?_set]
  unfold rowPart
  by_cases hi : i < n
  · by_cases e : k = i
    · subst e
      simp [hi]
    · rw [if_neg e, List.getElem?_map, List.getElem?_map, List.getElem?_range hi]
      simp only [Option.map_some]
      by_cases h : i < k
      · rw [if_pos h, if_pos (by omega)]
      · rw [if_neg h, if_neg (by omega)]
  · rw [List.getElem?_eq_none (by simp; omega), if_neg (by omega), List.getElem?_eq_none (by simp; omega)]
theorem made_zero (n : Nat) : (madeCells #[Value.int .u32 0] n).toList = (List.replicate n 0).map fun x : Nat => Value.int .u32 (x : Int) := by
  refine List.ext_getElem? fun i => ?_
  by_cases hi : i < n
  · simp [madeCells, hi, Nat.mod_one]
  · simp [madeCells, hi]
theorem rowPart_zero (F : Nat → Nat → Nat) (n : Nat) : rowPart F n 0 = List.replicate n 0 := by
  unfold rowPart
  simp only [Nat.not_lt_zero, if_false]
  rw [List.map_const', List.length_range]
/-- What make gives. -/
theorem make_own (w : World) (n : Nat) (hn : n ≤ 100000) : OwnR 63 .u32 (w.alloc (.cells (madeCells #[Value.int .u32 0] n) 63)) w.heap.size (some ⟨w.heap.size, 0, none⟩) n n (List.replicate n 0) := by
  refine ⟨by simp, .inr ⟨w.heap.size, n, madeCells #[Value.int .u32 0] n, rfl, Nat.le_refl _, heap_alloc_new _ _, Nat.le_refl _, by unfold maxLen; omega, by simp [size_madeCells], ?_⟩⟩
  rw [made_zero, List.take_of_length_le (by simp)]
theorem make_run (n : Nat) (hn : n ≤ 100000) (W : World) : (Instr.makeSlice 23 (.int .i64 (n : Int)) (.int .i64 (n : Int))).run Tryd.prog W = .ok (.slice (some ⟨W.heap.size, 0, none⟩) n n) (W.alloc (.cells (madeCells #[Value.int .u32 0] n) 63)) := by
  obtain ⟨i0, hi, hz0, hz1, hz2⟩ := info_parts info63
  have := run_make (P := Tryd.prog) W 23 63 i0 _ Tryd.underlying23 hi hz0 .i64 .i64 (n : Int) (n : Int) (by omega) (by omega) (by rw [hz2]; omega) (by omega)
  rw [hz1] at this
  simpa [Value.cells] using this

set_option maxRecDepth 100000 in
set_option maxHeartbeats 2000000 in
theorem row96 (n b1 b2 : Nat) (F : Nat → Nat → Nat) (w : World) (hn : n ≤ 100000) (hF : ∀ i, i < n → F i (rowC BB F i) ≤ 18446744073709551615)
    (hcall : ∀ i w', i < n → Keep (fun _ => False) w w' → Calls Tryd.prog 96 #[.int .i64 (i : Int), .int .u64 (rowC BB F i : Nat), .pointer (some ⟨b1, 0, none⟩), .pointer (some ⟨b2, 0, none⟩)] w' fun e w'' => e = .returned (.int .u64 (F i (rowC BB F i) : Nat)) ∧ Keep (fun _ => False) w' w'') :
    Calls Tryd.prog 65 #[.int .i64 (n : Int), .func (.func 96) #[] #[.pointer (some ⟨b1, 0, none⟩), .pointer (some ⟨b2, 0, none⟩)]] w (OwnPost (rowL BB F n) w) := by
  have hmk := fun W : World => make_run n hn W
  have HF := Lib.hid hF
  have HC := Lib.hid hcall
  have own := make_own w n hn
  have K : Keep (fun _ => False) w (w.alloc (.cells (madeCells #[Value.int .u32 0] n) 63)) := (Keep.refl _ _).alloc _
  rw [← rowPart_zero F n] at own
  clear hF hcall
  go_enter Tryd.func65, Tryd.ntmps65
  go_wp2_with fail
  clear hmk
  generalize hB : w.heap.size = B at own ⊢
  generalize w.alloc (.cells (madeCells #[Value.int .u32 0] n) 63) = w1 at own K ⊢
  have HB := Lib.hid hB
  clear hB
  go_loopw [6, 7, 8, 12] (fun cv _ _ iv wr => ∃ k : Nat, k ≤ n ∧ iv = .int .i64 k ∧ cv = .int .u64 (rowC BB F k : Nat) ∧ OwnR 63 .u32 wr B (some ⟨B, 0, none⟩) n n (rowPart F n k) ∧ Keep (fun _ => False) w wr) (fun _ _ _ iv _ => n - (intOf iv).toNat)
  case atStart => exact ⟨0, Nat.zero_le _, rfl, rfl, own, K⟩
  case round =>
    clear own K
    obtain ⟨k, hk, rfl, rfl, own, K⟩ := hrel
    by_cases hlt : k < n
    · have hf := HF.out k hlt
      have OWN := Lib.hid own
      clear own
      go_wp2_with fail
      refine (HC.out k _ hlt K).mono ?_
      rintro e w2 ⟨rfl, k2⟩
      have own2 := OWN.out.keep0 k2
      have K2 := K.trans k2
      obtain ⟨b, off, e1, hb, hc⟩ := own2.row.2 k hlt
      injection e1 with e1
      injection e1 with e1a e1b _
      subst e1a e1b
      rw [Nat.zero_add] at hc
      have hfz := own2.frozen _ _ rfl k
      generalize (rowPart F n k).getD k 0 = y at hc
      have OWN2 := Lib.hid own2
      have hsuc : F k (rowC BB F k) / BB = rowC BB F (k + 1) := rfl
      have hset := rowPart_set F n k hlt
      have HSUC := Lib.hid hsuc
      have HSET := Lib.hid hset
      obtain ⟨x, hx⟩ : ∃ x, x = F k (rowC BB F k) := ⟨_, rfl⟩
      rw [← hx] at hf HSUC HSET ⊢
      clear hx hsuc hset own2 hb K OWN k2
      have hd : (x : Int) / 4294967296 = ((rowC BB F (k + 1) : Nat) : Int) := by rw [← HSUC.out]; unfold BB; omega
      have hm : (x : Int) % 4294967296 = ((x % BB : Nat) : Int) := by unfold BB; omega
      have HD := Lib.hid hd
      have HM := Lib.hid hm
      clear hd hm
      go_wp2_with fail
      go_roundw
      case rel => exact ⟨k + 1, by omega, by go_num, by rw [HD.out], by rw [HM.out, ← HSET.out]; exact OWN2.out.set hlt _, K2.setCell (p := ⟨B, k, none⟩) (.inr (by rw [HB.out]; exact Nat.le_refl _)) _⟩
      case measure => simp [intOf]; omega
    · obtain rfl : k = n := by omega
      have OWN := Lib.hid own
      clear own
      go_wp2_with fail
      go_ret
      have o := OWN.out
      rw [rowPart_all] at o
      exact ⟨some ⟨B, 0, none⟩, k, k, rfl, o.mono (by rw [HB.out]; exact Nat.le_refl _), K⟩
set_option maxRecDepth 100000 in
set_option maxHeartbeats 2000000 in
theorem row95 (n b1 b2 : Nat) (F : Nat → Nat → Nat) (w : World) (hn : n ≤ 100000) (hF : ∀ i, i < n → F i (rowC BB F i) ≤ 18446744073709551615)
    (hcall : ∀ i w', i < n → Keep (fun _ => False) w w' → Calls Tryd.prog 95 #[.int .i64 (i : Int), .int .u64 (rowC BB F i : Nat), .pointer (some ⟨b1, 0, none⟩), .pointer (some ⟨b2, 0, none⟩)] w' fun e w'' => e = .returned (.int .u64 (F i (rowC BB F i) : Nat)) ∧ Keep (fun _ => False) w' w'') :
    Calls Tryd.prog 65 #[.int .i64 (n : Int), .func (.func 95) #[] #[.pointer (some ⟨b1, 0, none⟩), .pointer (some ⟨b2, 0, none⟩)]] w (OwnPost (rowL BB F n) w) := by
  have hmk := fun W : World => make_run n hn W
  have HF := Lib.hid hF
  have HC := Lib.hid hcall
  have own := make_own w n hn
  have K : Keep (fun _ => False) w (w.alloc (.cells (madeCells #[Value.int .u32 0] n) 63)) := (Keep.refl _ _).alloc _
  rw [← rowPart_zero F n] at own
  clear hF hcall
  go_enter Tryd.func65, Tryd.ntmps65
  go_wp2_with fail
  clear hmk
  generalize hB : w.heap.size = B at own ⊢
  generalize w.alloc (.cells (madeCells #[Value.int .u32 0] n) 63) = w1 at own K ⊢
  have HB := Lib.hid hB
  clear hB
  go_loopw [6, 7, 8, 12] (fun cv _ _ iv wr => ∃ k : Nat, k ≤ n ∧ iv = .int .i64 k ∧ cv = .int .u64 (rowC BB F k : Nat) ∧ OwnR 63 .u32 wr B (some ⟨B, 0, none⟩) n n (rowPart F n k) ∧ Keep (fun _ => False) w wr) (fun _ _ _ iv _ => n - (intOf iv).toNat)
  case atStart => exact ⟨0, Nat.zero_le _, rfl, rfl, own, K⟩
  case round =>
    clear own K
    obtain ⟨k, hk, rfl, rfl, own, K⟩ := hrel
    by_cases hlt : k < n
    · have hf := HF.out k hlt
      have OWN := Lib.hid own
      clear own
      go_wp2_with fail
      refine (HC.out k _ hlt K).mono ?_
      rintro e w2 ⟨rfl, k2⟩
      have own2 := OWN.out.keep0 k2
      have K2 := K.trans k2
      obtain ⟨b, off, e1, hb, hc⟩ := own2.row.2 k hlt
      injection e1 with e1
      injection e1 with e1a e1b _
      subst e1a e1b
      rw [Nat.zero_add] at hc
      have hfz := own2.frozen _ _ rfl k
      generalize (rowPart F n k).getD k 0 = y at hc
      have OWN2 := Lib.hid own2
      have hsuc : F k (rowC BB F k) / BB = rowC BB F (k + 1) := rfl
      have hset := rowPart_set F n k hlt
      have HSUC := Lib.hid hsuc
      have HSET := Lib.hid hset
      obtain ⟨x, hx⟩ : ∃ x, x = F k (rowC BB F k) := ⟨_, rfl⟩
      rw [← hx] at hf HSUC HSET ⊢
      clear hx hsuc hset own2 hb K OWN k2
      have hd : (x : Int) / 4294967296 = ((rowC BB F (k + 1) : Nat) : Int) := by rw [← HSUC.out]; unfold BB; omega
      have hm : (x : Int) % 4294967296 = ((x % BB : Nat) : Int) := by unfold BB; omega
      have HD := Lib.hid hd
      have HM := Lib.hid hm
      clear hd hm
      go_wp2_with fail
      go_roundw
      case rel => exact ⟨k + 1, by omega, by go_num, by rw [HD.out], by rw [HM.out, ← HSET.out]; exact OWN2.out.set hlt _, K2.setCell (p := ⟨B, k, none⟩) (.inr (by rw [HB.out]; exact Nat.le_refl _)) _⟩
      case measure => simp [intOf]; omega
    · obtain rfl : k = n := by omega
      have OWN := Lib.hid own
      clear own
      go_wp2_with fail
      go_ret
      have o := OWN.out
      rw [rowPart_all] at o
      exact ⟨some ⟨B, 0, none⟩, k, k, rfl, o.mono (by rw [HB.out]; exact Nat.le_refl _), K⟩
set_option maxRecDepth 100000 in
set_option maxHeartbeats 2000000 in
theorem row94 (n b1 b2 : Nat) (F : Nat → Nat → Nat) (w : World) (hn : n ≤ 100000) (hF : ∀ i, i < n → F i (rowC BB F i) ≤ 18446744073709551615)
    (hcall : ∀ i w', i < n → Keep (fun _ => False) w w' → Calls Tryd.prog 94 #[.int .i64 (i : Int), .int .u64 (rowC BB F i : Nat), .pointer (some ⟨b1, 0, none⟩), .pointer (some ⟨b2, 0, none⟩)] w' fun e w'' => e = .returned (.int .u64 (F i (rowC BB F i) : Nat)) ∧ Keep (fun _ => False) w' w'') :
    Calls Tryd.prog 65 #[.int .i64 (n : Int), .func (.func 94) #[] #[.pointer (some ⟨b1, 0, none⟩), .pointer (some ⟨b2, 0, none⟩)]] w (OwnPost (rowL BB F n) w) := by
  have hmk := fun W : World => make_run n hn W
  have HF := Lib.hid hF
  have HC := Lib.hid hcall
  have own := make_own w n hn
  have K : Keep (fun _ => False) w (w.alloc (.cells (madeCells #[Value.int .u32 0] n) 63)) := (Keep.refl _ _).alloc _
  rw [← rowPart_zero F n] at own
  clear hF hcall
  go_enter Tryd.func65, Tryd.ntmps65
  go_wp2_with fail
  clear hmk
  generalize hB : w.heap.size = B at own ⊢
  generalize w.alloc (.cells (madeCells #[Value.int .u32 0] n) 63) = w1 at own K ⊢
  have HB := Lib.hid hB
  clear hB
  go_loopw [6, 7, 8, 12] (fun cv _ _ iv wr => ∃ k : Nat, k ≤ n ∧ iv = .int .i64 k ∧ cv = .int .u64 (rowC BB F k : Nat) ∧ OwnR 63 .u32 wr B (some ⟨B, 0, none⟩) n n (rowPart F n k) ∧ Keep (fun _ => False) w wr) (fun _ _ _ iv _ => n - (intOf iv).toNat)
  case atStart => exact ⟨0, Nat.zero_le _, rfl, rfl, own, K⟩
  case round =>
    clear own K
    obtain ⟨k, hk, rfl, rfl, own, K⟩ := hrel
    by_cases hlt : k < n
    · have hf := HF.out k hlt
      have OWN := Lib.hid own
      clear own
      go_wp2_with fail
      refine (HC.out k _ hlt K).mono ?_
      rintro e w2 ⟨rfl, k2⟩
      have own2 := OWN.out.keep0 k2
      have K2 := K.trans k2
      obtain ⟨b, off, e1, hb, hc⟩ := own2.row.2 k hlt
      injection e1 with e1
      injection e1 with e1a e1b _
      subst e1a e1b
      rw [Nat.zero_add] at hc
      have hfz := own2.frozen _ _ rfl k
      generalize (rowPart F n k).getD k 0 = y at hc
      have OWN2 := Lib.hid own2
      have hsuc : F k (rowC BB F k) / BB = rowC BB F (k + 1) := rfl
      have hset := rowPart_set F n k hlt
      have HSUC := Lib.hid hsuc
      have HSET := Lib.hid hset
      obtain ⟨x, hx⟩ : ∃ x, x = F k (rowC BB F k) := ⟨_, rfl⟩
      rw [← hx] at hf HSUC HSET ⊢
      clear hx hsuc hset own2 hb K OWN k2
      have hd : (x : Int) / 4294967296 = ((rowC BB F (k + 1) : Nat) : Int) := by rw [← HSUC.out]; unfold BB; omega
      have hm : (x : Int) % 4294967296 = ((x % BB : Nat) : Int) := by unfold BB; omega
      have HD := Lib.hid hd
      have HM := Lib.hid hm
      clear hd hm
      go_wp2_with fail
      go_roundw
      case rel => exact ⟨k + 1, by omega, by go_num, by rw [HD.out], by rw [HM.out, ← HSET.out]; exact OWN2.out.set hlt _, K2.setCell (p := ⟨B, k, none⟩) (.inr (by rw [HB.out]; exact Nat.le_refl _)) _⟩
      case measure => simp [intOf]; omega
    · obtain rfl : k = n := by omega
      have OWN := Lib.hid own
      clear own
      go_wp2_with fail
      go_ret
      have o := OWN.out
      rw [rowPart_all] at o
      exact ⟨some ⟨B, 0, none⟩, k, k, rfl, o.mono (by rw [HB.out]; exact Nat.le_refl _), K⟩
set_option maxRecDepth 100000 in
set_option maxHeartbeats 2000000 in
theorem row66 (n b1 b2 : Nat) (F : Nat → Nat → Nat) (w : World) (hn : n ≤ 100000) (hF : ∀ i, i < n → F i (rowC BB F i) ≤ 18446744073709551615)
    (hcall : ∀ i w', i < n → Keep (fun _ => False) w w' → Calls Tryd.prog 66 #[.int .i64 (i : Int), .int .u64 (rowC BB F i : Nat), .pointer (some ⟨b1, 0, none⟩), .pointer (some ⟨b2, 0, none⟩)] w' fun e w'' => e = .returned (.int .u64 (F i (rowC BB F i) : Nat)) ∧ Keep (fun _ => False) w' w'') :
    Calls Tryd.prog 65 #[.int .i64 (n : Int), .func (.func 66) #[] #[.pointer (some ⟨b1, 0, none⟩), .pointer (some ⟨b2, 0, none⟩)]] w (OwnPost (rowL BB F n) w) := by
  have hmk := fun W : World => make_run n hn W
  have HF := Lib.hid hF
  have HC := Lib.hid hcall
  have own := make_own w n hn
  have K : Keep (fun _ => False) w (w.alloc (.cells (madeCells #[Value.int .u32 0] n) 63)) := (Keep.refl _ _).alloc _
  rw [← rowPart_zero F n] at own
  clear hF hcall
  go_enter Tryd.func65, Tryd.ntmps65
  go_wp2_with fail
  clear hmk
  generalize hB : w.heap.size = B at own ⊢
  generalize w.alloc (.cells (madeCells #[Value.int .u32 0] n) 63) = w1 at own K ⊢
  have HB := Lib.hid hB
  clear hB
  go_loopw [6, 7, 8, 12] (fun cv _ _ iv wr => ∃ k : Nat, k ≤ n ∧ iv = .int .i64 k ∧ cv = .int .u64 (rowC BB F k : Nat) ∧ OwnR 63 .u32 wr B (some ⟨B, 0, none⟩) n n (rowPart F n k) ∧ Keep (fun _ => False) w wr) (fun _ _ _ iv _ => n - (intOf iv).toNat)
  case atStart => exact ⟨0, Nat.zero_le _, rfl, rfl, own, K⟩
  case round =>
    clear own K
    obtain ⟨k, hk, rfl, rfl, own, K⟩ := hrel
    by_cases hlt : k < n
    · have hf := HF.out k hlt
      have OWN := Lib.hid own
      clear own
      go_wp2_with fail
      refine (HC.out k _ hlt K).mono ?_
      rintro e w2 ⟨rfl, k2⟩
      have own2 := OWN.out.keep0 k2
      have K2 := K.trans k2
      obtain ⟨b, off, e1, hb, hc⟩ := own2.row.2 k hlt
      injection e1 with e1
      injection e1 with e1a e1b _
      subst e1a e1b
      rw [Nat.zero_add] at hc
      have hfz := own2.frozen _ _ rfl k
      generalize (rowPart F n k).getD k 0 = y at hc
      have OWN2 := Lib.hid own2
      have hsuc : F k (rowC BB F k) / BB = rowC BB F (k + 1) := rfl
      have hset := rowPart_set F n k hlt
      have HSUC := Lib.hid hsuc
      have HSET := Lib.hid hset
      obtain ⟨x, hx⟩ : ∃ x, x = F k (rowC BB F k) := ⟨_, rfl⟩
      rw [← hx] at hf HSUC HSET ⊢
      clear hx hsuc hset own2 hb K OWN k2
      have hd : (x : Int) / 4294967296 = ((rowC BB F (k + 1) : Nat) : Int) := by rw [← HSUC.out]; unfold BB; omega
      have hm : (x : Int) % 4294967296 = ((x % BB : Nat) : Int) := by unfold BB; omega
      have HD := Lib.hid hd
      have HM := Lib.hid hm
      clear hd hm
      go_wp2_with fail
      go_roundw
      case rel => exact ⟨k + 1, by omega, by go_num, by rw [HD.out], by rw [HM.out, ← HSET.out]; exact OWN2.out.set hlt _, K2.setCell (p := ⟨B, k, none⟩) (.inr (by rw [HB.out]; exact Nat.le_refl _)) _⟩
      case measure => simp [intOf]; omega
    · obtain rfl : k = n := by omega
      have OWN := Lib.hid own
      clear own
      go_wp2_with fail
      go_ret
      have o := OWN.out
      rw [rowPart_all] at o
      exact ⟨some ⟨B, 0, none⟩, k, k, rfl, o.mono (by rw [HB.out]; exact Nat.le_refl _), K⟩
end Go.Proofs.YtdfekphahdmffaaDoor
