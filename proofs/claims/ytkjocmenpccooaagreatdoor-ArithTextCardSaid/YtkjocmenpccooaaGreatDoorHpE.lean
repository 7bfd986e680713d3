/-
  A word's datum: build.Datum.
-/
import Derived.Test.YtkjocmenpccooaaGreatDoorHpD
namespace Go.Proofs.YtkjocmenpccooaaGreatDoor
open Go.RowKit

set_option maxRecDepth 100000 in
set_option maxHeartbeats 8000000 in
theorem bdat_truth (b : Bool) (w : World) (h : Nat) : Calls Tryz.prog 19 #[.pointer (some ⟨h, 0, none⟩), .int .u64 (if b then 12 else 4)] w (DatPost (datV (if b then 1 else 2) false none 0 0 ⟨#[]⟩) (.int .i64 0) w) := by
  have hr := heap_alloc_new (w.alloc (datC 0 false none 0 0 ⟨#[]⟩)) (.cells #[.pointer (some ⟨h, 0, none⟩), .int .i64 0] 82)
  have hb1 := bx_old (zero_box w) (.cells #[.pointer (some ⟨h, 0, none⟩), .int .i64 0] 82)
  rw [World.size_alloc] at hr
  have HO := Lib.hid (rdat_truth b _ _ h hr)
  have HB1 := Lib.hid hb1
  have HK2 := Lib.hid (show Keep (fun _ => False) w ((w.alloc (datC 0 false none 0 0 ⟨#[]⟩)).alloc (.cells #[.pointer (some ⟨h, 0, none⟩), .int .i64 0] 82)) from ((Keep.refl _ _).alloc _).alloc _)
  obtain ⟨u, hu⟩ : ∃ u : Int, u = if b then 12 else 4 := ⟨_, rfl⟩
  obtain ⟨k, hk⟩ : ∃ k : Int, k = if b then 1 else 2 := ⟨_, rfl⟩
  unfold DatPost
  rw [← hu, ← hk] at HO ⊢
  clear hr hb1 hu hk
  go_enter Tryz.func19, Tryz.ntmps19
  go_wp2_with fail
  generalize (w.alloc (datC 0 false none 0 0 ⟨#[]⟩)).alloc (.cells #[.pointer (some ⟨h, 0, none⟩), .int .i64 0] 82) = w2 at *
  refine HO.out.mono ?_
  rintro e w3 ⟨rfl, k3⟩
  have HK4 := Lib.hid ((HK2.out.intoS k3 (by rintro i rfl; omega)).alloc (datC k false none 0 0 ⟨#[]⟩))
  have hb4 := bx_old (k3.heap HB1.out (by omega)) (datC k false none 0 0 ⟨#[]⟩)
  have hbn := heap_alloc_new w3 (datC k false none 0 0 ⟨#[]⟩)
  obtain ⟨⟨c0, c1, c2, c3, c4, c5⟩, _⟩ := six_cells hbn
  obtain ⟨⟨d0, d1, d2, d3, d4, d5⟩, f0, f1, f2, f3, f4, f5⟩ := six_cells hb4
  have HCC := Lib.hid (six_cells (six_row hb4 (.int .i64 k) (.int .i32 0) (.bool false) (.slice none 0 0) (.string ⟨#[]⟩) (.slice none 0 0))).1
  clear k3 hb4 hbn
  go_wp2_with fail
  refine bodyPost_ret (v := .tuple #[datV k false none 0 0 ⟨#[]⟩, .int .i64 0]) ?_ rfl ⟨rfl, ?_⟩
  · obtain ⟨e0, e1, e2, e3, e4, e5⟩ := HCC.out
    simp [results, Tryz.results19, go_sem, e0, e1, e2, e3, e4, e5]
  · exact six_keep HK4.out (Nat.le_refl _) _ _ _ _ _ _
set_option maxRecDepth 100000 in
set_option maxHeartbeats 8000000 in
theorem bdat_num {w : World} {h c s p g : Nat} {S : SpV} (H : HpAt w h c s p g S) (x : Int) (u : Nat) (D : DenH S.M u x) : Calls Tryz.prog 19 #[.pointer (some ⟨h, 0, none⟩), .int .u64 (u : Int)] w (NumDat x (fun _ => False) w) := by
  have hu4 : u % 8 ≠ 4 := by
    rcases D with ⟨_, rfl⟩ | ⟨_, _, a, _, rfl, _⟩
    · have := fixW_tag x; omega
    · omega
  have hr := heap_alloc_new (w.alloc (datC 0 false none 0 0 ⟨#[]⟩)) (.cells #[.pointer (some ⟨h, 0, none⟩), .int .i64 0] 82)
  have hb1 := bx_old (zero_box w) (.cells #[.pointer (some ⟨h, 0, none⟩), .int .i64 0] 82)
  rw [World.size_alloc] at hr
  have K2 : Keep (fun _ => False) w ((w.alloc (datC 0 false none 0 0 ⟨#[]⟩)).alloc (.cells #[.pointer (some ⟨h, 0, none⟩), .int .i64 0] 82)) := ((Keep.refl _ _).alloc _).alloc _
  have hl := H.lts
  have HO := Lib.hid (rdat_num (H.keep0 K2) x u _ D hu4 hr (by omega))
  have HB1 := Lib.hid hb1
  have HK2 := Lib.hid K2
  have HSZ := Lib.hid (show w.heap.size + 1 < ((w.alloc (datC 0 false none 0 0 ⟨#[]⟩)).alloc (.cells #[.pointer (some ⟨h, 0, none⟩), .int .i64 0] 82)).heap.size from heap_lt hr)
  clear hr hb1 hu4 H D K2 hl
  go_enter Tryz.func19, Tryz.ntmps19
  go_wp2_with fail
  generalize (w.alloc (datC 0 false none 0 0 ⟨#[]⟩)).alloc (.cells #[.pointer (some ⟨h, 0, none⟩), .int .i64 0] 82) = w2 at *
  refine HO.out.mono ?_
  rintro e w3 ⟨A, n, cc, rfl, own, k3⟩
  obtain ⟨q, hq⟩ : ∃ q, q = decide (x < 0) := ⟨_, rfl⟩
  rw [← hq]
  have HQ := Lib.hid hq
  have HK4 := Lib.hid ((HK2.out.intoS k3 (by rintro i rfl; omega)).alloc (datC 4 q A n cc ⟨#[]⟩))
  have HOWN := Lib.hid (own.keep0 ((Keep.refl _ _).alloc (datC 4 q A n cc ⟨#[]⟩)))
  have hb4 := bx_old (k3.heap HB1.out (by omega)) (datC 4 q A n cc ⟨#[]⟩)
  have hbn := heap_alloc_new w3 (datC 4 q A n cc ⟨#[]⟩)
  obtain ⟨⟨c0, c1, c2, c3, c4, c5⟩, _⟩ := six_cells hbn
  obtain ⟨⟨d0, d1, d2, d3, d4, d5⟩, f0, f1, f2, f3, f4, f5⟩ := six_cells hb4
  have HCC := Lib.hid (six_cells (six_row hb4 (.int .i64 4) (.int .i32 0) (.bool q) (.slice A n cc) (.string ⟨#[]⟩) (.slice none 0 0))).1
  have HSS := Lib.hid (six_self (w3.alloc (datC 4 q A n cc ⟨#[]⟩)) w.heap.size (.int .i64 4) (.int .i32 0) (.bool q) (.slice A n cc) (.string ⟨#[]⟩) (.slice none 0 0))
  clear k3 hb4 hbn own hq
  go_wp2_with fail
  refine bodyPost_ret (v := .tuple #[datV 4 q A n cc ⟨#[]⟩, .int .i64 0]) ?_ rfl ⟨A, n, cc, by rw [HQ.out], ?_, ?_⟩
  · obtain ⟨e0, e1, e2, e3, e4, e5⟩ := HCC.out
    simp [results, Tryz.results19, go_sem, e0, e1, e2, e3, e4, e5]
  · exact (HOWN.out.keep HSS.out (fun b off e hb => by have := (HOWN.out.fresh b off e).1; have := HSZ.out; omega)).mono (by have := HSZ.out; omega)
  · exact six_keep HK4.out (Nat.le_refl _) _ _ _ _ _ _
end Go.Proofs.YtkjocmenpccooaaGreatDoor
