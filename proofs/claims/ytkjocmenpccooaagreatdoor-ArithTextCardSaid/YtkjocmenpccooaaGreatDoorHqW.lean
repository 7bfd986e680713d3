/-
  The laws' awake.
-/
import Derived.Test.YtkjocmenpccooaaGreatDoorHqX
namespace Go.Proofs.YtkjocmenpccooaaGreatDoor
open Go.RowKit

theorem run_123 (W : World) (A : Option Addr) (cp : Nat) (h : ArgsR W A [1, 2, 3]) : Calls Tryz.prog 9 #[.int .i64 0, .slice A 3 cp] W (RunEnd 4 0 6 W) := by
  have := run_add W A 3 cp (.inr rfl) [1, 2, 3] rfl h
  have e : foldV (· + ·) 0 [1, 2, 3] = some 6 := by
    unfold foldV
    rw [if_pos (of_fits (by decide))]
    unfold foldV
    rw [if_pos (of_fits (by decide))]
    exact fold_one (of_fits (by decide))
  rw [e] at this
  exact this
theorem run_72 (W : World) (A : Option Addr) (cp : Nat) (h : ArgsR W A [-7, 2]) : Calls Tryz.prog 9 #[.int .i64 4, .slice A 2 cp] W (RunEnd 4 0 (-3) W) := by
  have := run_div 4 (.inl rfl) W A cp (-7) 2 (by decide) h
  rw [show divV 4 (-7) 2 = -3 from rfl, if_pos (of_fits (by decide))] at this
  exact this
theorem row_new (W : World) (cs : Array Value) (ty : Nat) : (W.alloc (.cells cs ty)).heap[W.heap.size]? = some (.cells cs ty (0, 0)) := heap_alloc_new W _
theorem nil_item {W : World} {cs : Array Value} {tg : Nat × Nat} {R : Nat} (hr : W.heap[R]? = some (.cells cs 27 tg)) (h0 : cs[6]? = some (.int .i64 0)) (h1 : cs[7]? = some (.int .i32 0)) (h2 : cs[8]? = some (.bool false)) (h3 : cs[9]? = some (.slice none 0 0)) (h4 : cs[10]? = some (.string ⟨#[]⟩)) (h5 : cs[11]? = some (.slice none 0 0)) :
    ItmC W (some ⟨R, 0, none⟩) 1 (fun _ u => u = 20) := by
  refine ⟨R, 0, _, _, _, _, _, _, rfl, heap_lt hr, ?_, ?_, ?_, ?_, ?_, ?_, fun wr h c s p g S _ H _ _ => heap_nil H⟩
  all_goals rw [cell_of_row _ _ _ _ _ _ hr]
  · exact h0
  · exact h1
  · exact h2
  · exact h3
  · exact h4
  · exact h5
set_option maxRecDepth 100000 in
set_option maxHeartbeats 8000000 in
theorem awake_any (w : World) : Calls Tryz.prog 8 #[] w (BoolPost true w) := by
  go_enter Tryz.func8, Tryz.ntmps8
  go_wp2_with fail
  refine (fix_lit _ false 1 1 1 rfl (by decide) (by decide) rfl).mono ?_
  rintro e w1 ⟨A1, rfl, i1, k1⟩
  have I1 := Lib.hid (show Bx.Is w1 ⟨0, 1, false, A1, 1, 1⟩ from ⟨i1.1, i1.2.1, i1.2.2⟩)
  have HK := Lib.hid k1
  clear i1 k1
  go_wp2_with fail
  refine (fix_lit _ false 2 2 2 rfl (by decide) (by decide) rfl).mono ?_
  rintro e w2 ⟨A2, rfl, i2, k2⟩
  have I2 := Lib.hid (show Bx.Is w2 ⟨0, 2, false, A2, 1, 1⟩ from ⟨i2.1, i2.2.1, i2.2.2⟩)
  have I1' := Lib.hid (I1.out.keep k2)
  have HK' := Lib.hid (HK.out.trans k2)
  clear i2 k2 I1 HK
  go_wp2_with fail
  refine (fix_lit _ false 3 3 3 rfl (by decide) (by decide) rfl).mono ?_
  rintro e w3 ⟨A3, rfl, i3, k3⟩
  have I3 := Lib.hid (show Bx.Is w3 ⟨0, 3, false, A3, 1, 1⟩ from ⟨i3.1, i3.2.1, i3.2.2⟩)
  have I2' := Lib.hid (I2.out.keep k3)
  have I1 := Lib.hid (I1'.out.keep k3)
  have HK := Lib.hid (HK'.out.trans k3)
  clear i3 k3 I1' HK' I2
  have HA := Lib.hid (fun (cs : Array Value) (hc : cs.toList = [(⟨0, 1, false, A1, 1, 1⟩ : Bx), ⟨0, 2, false, A2, 1, 1⟩, ⟨0, 3, false, A3, 1, 1⟩].flatMap Bx.vs ++ []) => args_is (W := w3.alloc (.cells cs 27)) [⟨0, 1, false, A1, 1, 1⟩, ⟨0, 2, false, A2, 1, 1⟩, ⟨0, 3, false, A3, 1, 1⟩] [] (row_new w3 cs 27) hc (by
    intro b hb
    have k := (Keep.refl (fun _ => False) w3).alloc (.cells cs 27)
    simp only [List.mem_cons, List.not_mem_nil, or_false] at hb
    rcases hb with rfl | rfl | rfl
    · exact I1.out.keep k
    · exact I2'.out.keep k
    · exact I3.out.keep k))
  clear I1 I2' I3
  go_wp2_with fail
  refine (run_123 _ _ _ (HA.out _ (by rfl))).mono ?_
  rintro e w4 hre
  obtain ⟨q4, A4, n4, c4, rfl, k4, hv⟩ := hre.good
  have HX := Lib.hid ((Road.keep ⟨HK.out, fun b hb => absurd hb List.not_mem_nil⟩ (((Keep.refl _ _).alloc _).trans k4)).new hv)
  clear HA HK k4 hv hre
  go_wp2_with fail
  refine (fix_lit _ true 7 7 (-7) rfl (by decide) (by decide) rfl).mono ?_
  rintro e w5 ⟨A5, rfl, i5, k5⟩
  have I5 := Lib.hid (show Bx.Is w5 ⟨0, -7, true, A5, 1, 1⟩ from ⟨i5.1, i5.2.1, i5.2.2⟩)
  have HX1 := Lib.hid (HX.out.keep k5)
  generalize w4.heap.size = B4 at *
  clear HX i5 k5
  go_wp2_with fail
  refine (fix_lit _ false 2 2 2 rfl (by decide) (by decide) rfl).mono ?_
  rintro e w6 ⟨A6, rfl, i6, k6⟩
  have I6 := Lib.hid (show Bx.Is w6 ⟨0, 2, false, A6, 1, 1⟩ from ⟨i6.1, i6.2.1, i6.2.2⟩)
  have I5' := Lib.hid (I5.out.keep k6)
  have HX := Lib.hid (HX1.out.keep k6)
  clear HX1 i6 k6 I5
  have HA := Lib.hid (fun (cs : Array Value) (hc : cs.toList = [(⟨0, -7, true, A5, 1, 1⟩ : Bx), ⟨0, 2, false, A6, 1, 1⟩].flatMap Bx.vs ++ []) => args_is (W := w6.alloc (.cells cs 27)) [⟨0, -7, true, A5, 1, 1⟩, ⟨0, 2, false, A6, 1, 1⟩] [] (row_new w6 cs 27) hc (by
    intro b hb
    have k := (Keep.refl (fun _ => False) w6).alloc (.cells cs 27)
    simp only [List.mem_cons, List.not_mem_nil, or_false] at hb
    rcases hb with rfl | rfl
    · exact I5'.out.keep k
    · exact I6.out.keep k))
  clear I5' I6
  go_wp2_with fail
  refine (run_72 _ _ _ (HA.out _ (by rfl))).mono ?_
  rintro e w7 hre
  obtain ⟨q7, A7, n7, c7, rfl, k7, hv⟩ := hre.good
  have HX1 := Lib.hid ((HX.out.keep (((Keep.refl _ _).alloc _).trans k7)).new hv)
  clear HA HX k7 hv hre
  go_wp2_with fail
  refine (fix_lit _ false 1 1 1 rfl (by decide) (by decide) rfl).mono ?_
  rintro e w8 ⟨A8, rfl, i8, k8⟩
  have I8 := Lib.hid (show Bx.Is w8 ⟨0, 1, false, A8, 1, 1⟩ from ⟨i8.1, i8.2.1, i8.2.2⟩)
  have HX := Lib.hid (HX1.out.keep k8)
  generalize w7.heap.size = B7 at *
  clear HX1 i8 k8
  have HB := Lib.hid (fun (cs : Array Value) (hc : cs = #[.int .i64 4, .int .i32 0, .bool false, .slice A8 1 1, .string ⟨#[]⟩, .slice none 0 0, .int .i64 0, .int .i32 0, .bool false, .slice none 0 0, .string ⟨#[]⟩, .slice none 0 0]) (cp : Nat) => (show Calls Tryz.prog 9 #[.int .i64 4, .slice (some ⟨w8.heap.size, 0, none⟩) 2 cp] (w8.alloc (.cells cs 27)) (RunEnd 0 3 0 (w8.alloc (.cells cs 27))) from by
    subst hc
    have h := args_is (W := w8.alloc (.cells _ 27)) [⟨0, 1, false, A8, 1, 1⟩] [.int .i64 0, .int .i32 0, .bool false, .slice none 0 0, .string ⟨#[]⟩, .slice none 0 0] (row_new w8 #[.int .i64 4, .int .i32 0, .bool false, .slice A8 1 1, .string ⟨#[]⟩, .slice none 0 0, .int .i64 0, .int .i32 0, .bool false, .slice none 0 0, .string ⟨#[]⟩, .slice none 0 0] 27) rfl (by
      intro b hb
      simp only [List.mem_cons, List.not_mem_nil, or_false] at hb
      rw [hb]
      exact I8.out.keep ((Keep.refl _ _).alloc _))
    exact run_bad _ _ cp 1 fits_one (h.item 0 (by simp)) (nil_item (row_new w8 _ 27) rfl rfl rfl rfl rfl rfl)))
  clear I8
  go_wp2_with fail
  refine (HB.out _ (by rfl) _).mono ?_
  rintro e w9 hre
  obtain ⟨k9, q9, A9, n9, c9, rfl, kk, _⟩ := hre.any
  have HX1 := Lib.hid ((HX.out.keep (((Keep.refl _ _).alloc _).trans kk)).other (datC k9 q9 A9 n9 c9 ⟨#[]⟩))
  clear HB HX kk hre
  have Kd : Keep (fun _ => False) (w9.alloc (datC k9 q9 A9 n9 c9 ⟨#[]⟩)) (w9.alloc (datC k9 q9 A9 n9 c9 ⟨#[]⟩)).drew := (Keep.refl _ _).drew
  have HC := Lib.hid (fun (w' : World) (K : Keep (fun _ => False) (w9.alloc (datC k9 q9 A9 n9 c9 ⟨#[]⟩)) w') => (show (w'.cell? ⟨B4, 0, none⟩ = some (.int .i64 4) ∧ w'.cell? ⟨B4, 1, none⟩ = some (.int .i32 0) ∧ w'.cell? ⟨B4, 2, none⟩ = some (.bool q4) ∧ w'.cell? ⟨B4, 3, none⟩ = some (.slice A4 n4 c4) ∧ w'.cell? ⟨B4, 4, none⟩ = some (.string ⟨#[]⟩) ∧ w'.cell? ⟨B4, 5, none⟩ = some (.slice none 0 0)) ∧ (w'.cell? ⟨B7, 0, none⟩ = some (.int .i64 4) ∧ w'.cell? ⟨B7, 1, none⟩ = some (.int .i32 0) ∧ w'.cell? ⟨B7, 2, none⟩ = some (.bool q7) ∧ w'.cell? ⟨B7, 3, none⟩ = some (.slice A7 n7 c7) ∧ w'.cell? ⟨B7, 4, none⟩ = some (.string ⟨#[]⟩) ∧ w'.cell? ⟨B7, 5, none⟩ = some (.slice none 0 0)) from ⟨(HX1.out.keep K).cells ⟨B4, 6, q4, A4, n4, c4⟩ (by simp), (HX1.out.keep K).cells ⟨B7, -3, q7, A7, n7, c7⟩ (by simp)⟩))
  go_wp2_with fail
  generalize w9.alloc (datC k9 q9 A9 n9 c9 ⟨#[]⟩) = w10 at HX1 HC Kd ⊢
  go_region_held3 (fun w' => (w'.cell? ⟨B4, 0, none⟩ = some (.int .i64 4) ∧ w'.cell? ⟨B4, 1, none⟩ = some (.int .i32 0) ∧ w'.cell? ⟨B4, 2, none⟩ = some (.bool q4) ∧ w'.cell? ⟨B4, 3, none⟩ = some (.slice A4 n4 c4) ∧ w'.cell? ⟨B4, 4, none⟩ = some (.string ⟨#[]⟩) ∧ w'.cell? ⟨B4, 5, none⟩ = some (.slice none 0 0)) ∧ (w'.cell? ⟨B7, 0, none⟩ = some (.int .i64 4) ∧ w'.cell? ⟨B7, 1, none⟩ = some (.int .i32 0) ∧ w'.cell? ⟨B7, 2, none⟩ = some (.bool q7) ∧ w'.cell? ⟨B7, 3, none⟩ = some (.slice A7 n7 c7) ∧ w'.cell? ⟨B7, 4, none⟩ = some (.string ⟨#[]⟩) ∧ w'.cell? ⟨B7, 5, none⟩ = some (.slice none 0 0)))
    (first | exact HC.out _ Kd | (refine HC.out _ ?_; assumption))
    (first
      | (go_at_call 13; have hz := Kr; refine (fix_lit _ true 3 3 (-3) rfl (by decide) (by decide) rfl).mono ?_; rintro e wu ⟨Au, rfl, iu, ku⟩; have Ku := Kr.trans ku; have IU := Lib.hid (show Bx.Is wu ⟨0, -3, true, Au, 1, 1⟩ from ⟨iu.1, iu.2.1, iu.2.2⟩); clear iu ku hz)
      | (go_at_call 13; refine (fix_lit _ false 6 6 6 rfl (by decide) (by decide) rfl).mono ?_; rintro e wp ⟨Ap, rfl, ip, kp⟩; have Kp := Kd.trans kp; have IP := Lib.hid (show Bx.Is wp ⟨0, 6, false, Ap, 1, 1⟩ from ⟨ip.1, ip.2.1, ip.2.2⟩); clear ip kp)
      | (go_at_call 10; have hz := Ku; refine (same_is ⟨B7, -3, q7, A7, n7, c7⟩ ⟨0, -3, true, Au, 1, 1⟩ ((HX1.out.keep Ku).bs _ (by simp)).is IU.out true rfl).mono ?_; rintro e wv ⟨rfl, kv⟩; have Kv := Ku.trans kv; clear kv hz)
      | (go_at_call 10; refine (same_is ⟨B4, 6, q4, A4, n4, c4⟩ ⟨0, 6, false, Ap, 1, 1⟩ ((HX1.out.keep Kp).bs _ (by simp)).is IP.out true rfl).mono ?_; rintro e wq ⟨rfl, kq⟩; have Kr := Kp.trans kq; clear kq))
  have HKV := Lib.hid (HX1.out.K.trans Kv)
  go_wp2_with fail
  go_ret
  exact ⟨rfl, HKV.out⟩
end Go.Proofs.YtkjocmenpccooaaGreatDoor
