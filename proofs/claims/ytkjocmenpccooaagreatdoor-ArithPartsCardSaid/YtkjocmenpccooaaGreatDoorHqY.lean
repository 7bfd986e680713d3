/-
  The law ArithParts: its walk.
-/
import Derived.Test.YtkjocmenpccooaaGreatDoorHqQ
namespace Go.Proofs.YtkjocmenpccooaaGreatDoor
open Go.RowKit

theorem ask_even (x : Int) : askB 18 x = !askB 19 x := by
  unfold askB
  simp
theorem ask_next (x : Int) : (askB 19 x == askB 19 (x + 1)) = false := by
  unfold askB
  simp only [show ¬ (19 : Int) = 15 by decide, show ¬ (19 : Int) = 16 by decide, show ¬ (19 : Int) = 17 by decide, show ¬ (19 : Int) = 18 by decide, if_false]
  by_cases h : x % 2 = 0
  · rw [decide_eq_true h, decide_eq_false (by omega)]; rfl
  · rw [decide_eq_false h, decide_eq_true (by omega)]; rfl
theorem ask_zero (x : Int) : (askB 15 x && !askB 19 x) = false := by
  unfold askB
  simp only [show ¬ (19 : Int) = 15 by decide, show ¬ (19 : Int) = 16 by decide, show ¬ (19 : Int) = 17 by decide, show ¬ (19 : Int) = 18 by decide, if_false, if_true]
  by_cases h : x = 0
  · rw [decide_eq_true h, decide_eq_true (by omega)]; rfl
  · rw [decide_eq_false h]; rfl
theorem ask_15 (x : Int) : askB 15 x = decide (x = 0) := by
  unfold askB
  rw [if_pos rfl]
theorem ask_17 (x : Int) : askB 17 x = decide (x < 0) := by
  unfold askB
  rw [if_neg (by decide), if_neg (by decide), if_pos rfl]
set_option maxRecDepth 100000 in
set_option maxHeartbeats 40000000 in
theorem ptlaw_any (w : World) (qx : Bool) (Ax : Option Addr) (nx cx : Nat) (lx : List Nat) (qy : Bool) (Ay : Option Addr) (ny cy : Nat) (ly : List Nat)
    (h1 : nx ≤ 60 → LimbsAt w Ax nx cx lx) (h2 : ny ≤ 60 → LimbsAt w Ay ny cy ly) :
    Calls Tryz.prog 6 #[numArg qx Ax nx cx, numArg qy Ay ny cy] w (BoolPost true w) := by
  have HL := Lib.hid (And.intro h1 h2)
  clear h1 h2
  obtain ⟨wa, hwa⟩ : ∃ wa, wa = (w.alloc (.cells #[.bool qx, .slice Ax nx cx] 24)).alloc (.cells #[.bool qy, .slice Ay ny cy] 24) := ⟨_, rfl⟩
  have HR3 := Lib.hid (boxes_two w (.bool qx) (.slice Ax nx cx) (.bool qy) (.slice Ay ny cy))
  rw [← hwa] at HR3
  have HKA := Lib.hid (show Keep (fun _ => False) w wa from by rw [hwa]; exact ((Keep.refl _ _).alloc _).alloc _)
  go_enter Tryz.func6, Tryz.ntmps6
  go_upto_region 1 with fail
  rw [← hwa]
  clear hwa
  go_cut [5, 6, 7] from 21 (fun v5 v6 v7 wy => ∃ (Bx By Bu : Nat) (qu : Bool) (Au : Option Addr) (nu cu : Nat), v5 = .pointer (some ⟨Bx, 0, none⟩) ∧ v6 = .pointer (some ⟨By, 0, none⟩) ∧ v7 = .pointer (some ⟨Bu, 0, none⟩) ∧ Raw2 w wy ⟨qx, lx, ⟨Ax, nx, cx⟩⟩ ⟨qy, ly, ⟨Ay, ny, cy⟩⟩ Bx By ⟨Bu, 1, qu, Au, nu, cu⟩)
  case first =>
    rename_i J K hJ hK
    have HG := Lib.hid (show Keep (fun _ => False) wa wa.drew from (Keep.refl _ _).drew)
    refine region_vals2 (by kernel_rfl) 11 8 (by decide) (by kernel_rfl) (by kernel_rfl) (by kernel_rfl) (fun i => (if i < 5 then 21 + i else i)) (fun k => (Nat.ble 5 k && Nat.ble k 7) || (Nat.ble 21 k && Nat.ble k 25)) (fun i _ j _ h => by have h2 : (if i < 5 then 21 + i else i) = (if j < 5 then 21 + j else j) := h; split at h2 <;> split at h2 <;> omega) (fun i hi => by show ((Nat.ble 5 (if i < 5 then 21 + i else i) && Nat.ble (if i < 5 then 21 + i else i) 7) || (Nat.ble 21 (if i < 5 then 21 + i else i) && Nat.ble (if i < 5 then 21 + i else i) 25)) = true; simp only [Bool.or_eq_true, Bool.and_eq_true, Nat.ble_eq]; split <;> omega) (fun i hi => Nat.lt_of_lt_of_le (show (if i < 5 then 21 + i else i) < 26 by split <;> omega) (Nat.le_of_ble_eq_true rfl)) (fun w' => Keep (fun _ => False) wa w') HG.out (fun i => Nat.ble 5 i && Nat.ble i 7) (fun i => (([Sp.val true (numArg qx Ax nx cx), Sp.val true (datV 4 qx Ax nx cx ⟨#[]⟩), Sp.val true (numArg qy Ay ny cy), Sp.val true (datV 4 qy Ay ny cy ⟨#[]⟩), Sp.small, Sp.box wa.heap.size, Sp.box wa.heap.size, Sp.box wa.heap.size] : List Sp).getD i (Sp.val false undef)).T) (fun i => Sp.mono _) (fun i hi => match i, hi with
      | 0, _ => by
        intro a w1 hG hf hT K hK
        obtain ⟨r1, r2⟩ := HR3.out
        obtain ⟨e0, e1⟩ := pair_cells (hG.heap r1 id)
        exact op_run rfl rfl (exec_load24 rfl (hf 2 rfl) e0 e1) (hK _ _ hG (Keep.refl _ _) rfl (fun h => by cases h))
      | 1, _ => by
        intro a w1 hG hf hT K hK
        have e0 : a.tmps.getD 21 undef = numArg qx Ax nx cx := hT 0 (by kernel_rfl)
        refine op_call rfl rfl (exec_call1 call11 rfl rfl rfl e0) (num_any11 w1 qx Ax nx cx) (fun e w2 he => ?_)
        obtain ⟨rfl, kk⟩ := he
        exact ⟨_, rfl, hK _ _ (hG.trans kk) kk rfl (fun h => by cases h)⟩
      | 2, _ => by
        intro a w1 hG hf hT K hK
        obtain ⟨r1, r2⟩ := HR3.out
        obtain ⟨e0, e1⟩ := pair_cells (hG.heap r2 id)
        exact op_run rfl rfl (exec_load24 rfl (hf 3 rfl) e0 e1) (hK _ _ hG (Keep.refl _ _) rfl (fun h => by cases h))
      | 3, _ => by
        intro a w1 hG hf hT K hK
        have e0 : a.tmps.getD 23 undef = numArg qy Ay ny cy := hT 2 (by kernel_rfl)
        refine op_call rfl rfl (exec_call1 call11 rfl rfl rfl e0) (num_any11 w1 qy Ay ny cy) (fun e w2 he => ?_)
        obtain ⟨rfl, kk⟩ := he
        exact ⟨_, rfl, hK _ _ (hG.trans kk) kk rfl (fun h => by cases h)⟩
      | 4, _ => by
        intro a w1 hG hf hT K hK
        refine op_call rfl rfl (exec_call2 call13 rfl rfl rfl rfl rfl) (fix_lit w1 false 1 1 1 rfl (by decide) (by decide) rfl) (fun e w2 he => ?_)
        obtain ⟨A, rfl, i1, kk⟩ := he
        exact ⟨_, rfl, hK _ _ (hG.trans kk) kk ⟨A, rfl, i1.1, i1.2.1, i1.2.2⟩ (fun h => by cases h)⟩
      | 5, _ => by
        intro a w1 hG hf hT K hK
        refine op_run rfl rfl (exec_alloc rfl) (hK _ _ (hG.alloc _) ((Keep.refl _ _).alloc _) ⟨_, rfl, hG.size, heap_alloc_new w1 _⟩ (fun _ j u hj hu => ?_))
        have hj2 : (Nat.ble 5 j && Nat.ble j 7) = true := hj
        rw [Bool.and_eq_true, Nat.ble_eq, Nat.ble_eq] at hj2
        rcases (by omega : j = 5 ∨ j = 6 ∨ j = 7) with rfl | rfl | rfl
        all_goals exact box_fresh (s := wa.heap.size) hu
      | 6, _ => by
        intro a w1 hG hf hT K hK
        refine op_run rfl rfl (exec_alloc rfl) (hK _ _ (hG.alloc _) ((Keep.refl _ _).alloc _) ⟨_, rfl, hG.size, heap_alloc_new w1 _⟩ (fun _ j u hj hu => ?_))
        have hj2 : (Nat.ble 5 j && Nat.ble j 7) = true := hj
        rw [Bool.and_eq_true, Nat.ble_eq, Nat.ble_eq] at hj2
        rcases (by omega : j = 5 ∨ j = 6 ∨ j = 7) with rfl | rfl | rfl
        all_goals exact box_fresh (s := wa.heap.size) hu
      | 7, _ => by
        intro a w1 hG hf hT K hK
        refine op_run rfl rfl (exec_alloc rfl) (hK _ _ (hG.alloc _) ((Keep.refl _ _).alloc _) ⟨_, rfl, hG.size, heap_alloc_new w1 _⟩ (fun _ j u hj hu => ?_))
        have hj2 : (Nat.ble 5 j && Nat.ble j 7) = true := hj
        rw [Bool.and_eq_true, Nat.ble_eq, Nat.ble_eq] at hj2
        rcases (by omega : j = 5 ∨ j = 6 ∨ j = 7) with rfl | rfl | rfl
        all_goals exact box_fresh (s := wa.heap.size) hu
      | m + 8, h => absurd h (by omega)) (fun a w1 hG hT hne hmix => ?_)
    obtain ⟨Bx, ex, sx, rx⟩ : ∃ B, a.tmps.getD 5 undef = .pointer (some ⟨B, 0, none⟩) ∧ wa.heap.size ≤ B ∧ w1.heap[B]? = some (datC 0 false none 0 0 ⟨#[]⟩) := hT 5 (by decide)
    have vx : a.tmps.getD 22 undef = datV 4 qx Ax nx cx ⟨#[]⟩ := hT 1 (by decide)
    obtain ⟨By, ey, sy, ry⟩ : ∃ B, a.tmps.getD 6 undef = .pointer (some ⟨B, 0, none⟩) ∧ wa.heap.size ≤ B ∧ w1.heap[B]? = some (datC 0 false none 0 0 ⟨#[]⟩) := hT 6 (by decide)
    have vy : a.tmps.getD 24 undef = datV 4 qy Ay ny cy ⟨#[]⟩ := hT 3 (by decide)
    obtain ⟨Bu, eu, su, ru⟩ : ∃ B, a.tmps.getD 7 undef = .pointer (some ⟨B, 0, none⟩) ∧ wa.heap.size ≤ B ∧ w1.heap[B]? = some (datC 0 false none 0 0 ⟨#[]⟩) := hT 7 (by decide)
    obtain ⟨Au, vu, iu⟩ : ∃ A, a.tmps.getD 25 undef = datV 4 false A 1 1 ⟨#[]⟩ ∧ Go.Proofs.YtkjocmenpccooaaGreatDoor.Bx.Is w1 ⟨0, 1, false, A, 1, 1⟩ := hT 4 (by decide)
    have nxy : Bx ≠ By := fun e => hne 5 6 (by decide) (by decide) (by decide) (by decide) (by decide) (by show a.tmps.getD 5 undef = a.tmps.getD 6 undef; rw [ex, ey, e])
    have nxu : Bx ≠ Bu := fun e => hne 5 7 (by decide) (by decide) (by decide) (by decide) (by decide) (by show a.tmps.getD 5 undef = a.tmps.getD 7 undef; rw [ex, eu, e])
    have nyu : By ≠ Bu := fun e => hne 6 7 (by decide) (by decide) (by decide) (by decide) (by decide) (by show a.tmps.getD 6 undef = a.tmps.getD 7 undef; rw [ey, eu, e])
    refine any_one (i := 8) (by kernel_rfl) (op_skip rfl rfl (exec_store rfl ex vx rx) ?_)
    refine any_one (i := 9) (by kernel_rfl) (op_skip rfl rfl (exec_store rfl ey vy (six_far ry nxy _ _ _ _ _ _)) ?_)
    refine any_one (i := 10) (by kernel_rfl) (op_skip rfl rfl (exec_store rfl eu vu (six_far (six_far ru nxu _ _ _ _ _ _) nyu _ _ _ _ _ _)) ?_)
    refine ⟨by kernel_rfl, ?_⟩
    have K3 := six_keep (six_keep (six_keep hG sx (.int .i64 4) (.int .i32 0) (.bool qx) (.slice Ax nx cx) (.string ⟨#[]⟩) (.slice none 0 0)) sy (.int .i64 4) (.int .i32 0) (.bool qy) (.slice Ay ny cy) (.string ⟨#[]⟩) (.slice none 0 0)) su (.int .i64 4) (.int .i32 0) (.bool false) (.slice Au 1 1) (.string ⟨#[]⟩) (.slice none 0 0)
    show Exit.then _ _ .normal a _
    rw [hmix]
    refine hK _ _ (Met.intro (hJ _ _ ?_))
    repeat apply Exists.intro
    refine ⟨?rel, rfl⟩
    case rel =>
      refine ⟨Bx, By, Bu, false, Au, 1, 1, ex, ey, eu, HKA.out.trans K3, ⟨?_, fun hn => (HL.out.1 hn).keep0 (HKA.out.trans K3)⟩, ⟨?_, fun hn => (HL.out.2 hn).keep0 (HKA.out.trans K3)⟩, ?_, iu.q, ?_, iu.f⟩
      · exact six_far (six_far (six_row rx _ _ _ _ _ _) (Ne.symm nxy) _ _ _ _ _ _) (Ne.symm nxu) _ _ _ _ _ _
      · exact six_far (six_row (six_far ry nxy _ _ _ _ _ _) _ _ _ _ _ _) (Ne.symm nyu) _ _ _ _ _ _
      · exact six_row (six_far (six_far ru nxu _ _ _ _ _ _) nyu _ _ _ _ _ _) _ _ _ _ _ _
      · exact ((iu.l.off6 rx _ _ _ _ _ _).off6 (six_far ry nxy _ _ _ _ _ _) _ _ _ _ _ _).off6 (six_far (six_far ru nxu _ _ _ _ _ _) nyu _ _ _ _ _ _) _ _ _ _ _ _
  case rest =>
    obtain ⟨Bx, By, Bu, qu, Au, nu, cu, rfl, rfl, rfl, hraw⟩ := hcut
    have HR := Lib.hid hraw
    obtain ⟨x0, x1, x2, x3, x4, x5⟩ := (six_cells hraw.2.1.1).1
    obtain ⟨y0, y1, y2, y3, y4, y5⟩ := (six_cells hraw.2.2.1.1).1
    clear hraw HL HR3 HKA
    obtain ⟨t, ht⟩ : ∃ t, t = rightB [⟨qx, lx, ⟨Ax, nx, cx⟩⟩, ⟨qy, ly, ⟨Ay, ny, cy⟩⟩] := ⟨_, rfl⟩
    have HT := Lib.hid ht
    clear ht
    go_wp2_with fail
    refine (right_any _ _ 2 _ [⟨qx, lx, ⟨Ax, nx, cx⟩⟩, ⟨qy, ly, ⟨Ay, ny, cy⟩⟩] rfl (DatR.of [⟨qx, lx, ⟨Ax, nx, cx⟩⟩, ⟨qy, ly, ⟨Ay, ny, cy⟩⟩] [] (row_new wc _ 27) (by rfl) (fun d hd => by
      have k := (Keep.refl (fun _ => False) wc).alloc
      simp only [List.mem_cons, List.not_mem_nil, or_false] at hd
      rcases hd with rfl | rfl
      · exact HR.out.2.1.2.keep0 (k _)
      · exact HR.out.2.2.1.2.keep0 (k _))) (by decide) t HT.out).mono ?_
    rintro e wr ⟨rfl, kr⟩
    have HKR := Lib.hid (((Keep.refl _ _).alloc _).trans kr)
    clear kr x0 x1 x2 x3 x4 x5 y0 y1 y2 y3 y4 y5
    cases t with
    | false =>
      go_wp2_with fail
      refine (awake_any _).mono ?_
      rintro e w5 ⟨rfl, k5⟩
      have HK5 := Lib.hid ((HR.out.1.trans HKR.out).trans k5)
      clear k5
      go_wp2_with fail
      go_ret
      exact ⟨rfl, HK5.out⟩
    | true =>
      have OK := rightB_ok HT.out.symm
      have X1 := (HR.out.2.1.keep HKR.out).good (OK _ List.mem_cons_self)
      have X2 := (HR.out.2.2.1.keep HKR.out).good (OK _ (List.mem_cons_of_mem _ List.mem_cons_self))
      have X3 := HR.out.2.2.2.keep HKR.out
      obtain ⟨x, hx⟩ : ∃ x, x = ND.x ⟨qx, lx, ⟨Ax, nx, cx⟩⟩ := ⟨_, rfl⟩
      obtain ⟨y, hy⟩ : ∃ y, y = ND.x ⟨qy, ly, ⟨Ay, ny, cy⟩⟩ := ⟨_, rfl⟩
      rw [← hx] at X1
      rw [← hy] at X2
      have HX := Lib.hid (show Road w wr [⟨Bu, 1, qu, Au, nu, cu⟩, ⟨By, y, qy, Ay, ny, cy⟩, ⟨Bx, x, qx, Ax, nx, cx⟩] from ⟨HR.out.1.trans HKR.out, List.forall_mem_cons.2 ⟨X3, List.forall_mem_cons.2 ⟨X2, List.forall_mem_cons.2 ⟨X1, fun _ h => absurd h List.not_mem_nil⟩⟩⟩⟩)
      have HF := Lib.hid (And.intro X1.is.f X2.is.f)
      clear HR HKR HT OK X1 X2 X3 hx hy
      obtain ⟨t18x, ht18x⟩ : ∃ t, t = askB 18 x := ⟨_, rfl⟩
      have Yt18x := Lib.hid (yes_ask 18 (by omega) (x) t18x ht18x)
      have Ht18x := Lib.hid ht18x
      clear ht18x
      obtain ⟨t19x, ht19x⟩ : ∃ t, t = askB 19 x := ⟨_, rfl⟩
      have Yt19x := Lib.hid (yes_ask 19 (by omega) (x) t19x ht19x)
      have Ht19x := Lib.hid ht19x
      clear ht19x
      obtain ⟨t15x, ht15x⟩ : ∃ t, t = askB 15 x := ⟨_, rfl⟩
      have Yt15x := Lib.hid (yes_ask 15 (by omega) (x) t15x ht15x)
      have Ht15x := Lib.hid ht15x
      clear ht15x
      go_upto_region 4 with fail
      go_cut [49] from 32 to 49 (fun v wy => v = .bool false ∧ Road w wy [⟨Bu, 1, qu, Au, nu, cu⟩, ⟨By, y, qy, Ay, ny, cy⟩, ⟨Bx, x, qx, Ax, nx, cx⟩])
      case first =>
        rename_i J K hJ hK
        obtain ⟨g39, hg39⟩ : ∃ b : Bool, b = (t18x == t19x) := ⟨_, rfl⟩
        have Hg39 := Lib.hid hg39
        clear hg39
        obtain ⟨g43, hg43⟩ : ∃ b : Bool, b = t15x := ⟨_, rfl⟩
        have Hg43 := Lib.hid hg43
        clear hg43
        have HE := Lib.hid (show (g39 || (g43 && (!t19x))) = false from by
          have a1 : t18x = !t19x := by rw [Ht18x.out, Ht19x.out]; exact ask_even x
          have a2 : (t15x && !t19x) = false := by rw [Ht15x.out, Ht19x.out]; exact ask_zero x
          rw [Hg39.out, Hg43.out, a1]
          revert a2
          generalize t15x = b1
          generalize t19x = b2
          cases b1 <;> cases b2 <;> decide)
        refine region_vals (by kernel_rfl) 18 (by kernel_rfl) (by kernel_rfl) (fun i => 32 + i) (fun k => Nat.ble 32 k && Nat.ble k 49) (fun i _ j _ h => by have h2 : 32 + i = 32 + j := h; omega) (fun i hi => by simp only [Bool.and_eq_true, Nat.ble_eq]; omega) (fun i hi => Nat.lt_of_lt_of_le (show 32 + i < 50 by omega) (Nat.le_of_ble_eq_true rfl)) (fun w' => Road w w' [⟨Bu, 1, qu, Au, nu, cu⟩, ⟨By, y, qy, Ay, ny, cy⟩, ⟨Bx, x, qx, Ax, nx, cx⟩]) (HX.out.keep (Keep.refl _ _).drew) (fun i => (([Sp.val true (datV 4 qx Ax nx cx ⟨#[]⟩), Sp.row true 1 [x], Sp.val true (.bool t18x), Sp.val true (datV 4 qx Ax nx cx ⟨#[]⟩), Sp.row true 1 [x], Sp.val true (.bool t19x), Sp.val true (.bool (t18x == t19x)), Sp.val true (.bool g39), Sp.val (!g39) (datV 4 qx Ax nx cx ⟨#[]⟩), Sp.row (!g39) 1 [x], Sp.val (!g39) (.bool t15x), Sp.val (!g39) (.bool g43), Sp.val (!g39 && g43) (datV 4 qx Ax nx cx ⟨#[]⟩), Sp.row (!g39 && g43) 1 [x], Sp.val (!g39 && g43) (.bool t19x), Sp.val (!g39 && g43) (.bool (!t19x)), Sp.val (!g39) (.bool (g43 && (!t19x))), Sp.val true (.bool (g39 || (g43 && (!t19x))))] : List Sp).getD i (Sp.val false undef)).T) (fun i => Sp.mono _) (fun i hi => match i, hi with
          | 0, _ => by
            intro a w hG hf hT K hK
            exact op_run rfl rfl (exec_load (b := ⟨Bx, x, qx, Ax, nx, cx⟩) rfl (hf 5 rfl) hG (List.mem_cons_of_mem _ (List.mem_cons_of_mem _ List.mem_cons_self))) (hK _ _ hG (Keep.refl _ _) rfl)
          | 1, _ => by
            intro a w hG hf hT K hK
            have e0 : a.tmps.getD 32 undef = datV 4 qx Ax nx cx ⟨#[]⟩ := hT 0 (by kernel_rfl)
            exact op_run rfl rfl (exec_row1 rfl e0) (hK _ _ (hG.keep ((Keep.refl _ _).alloc _)) ((Keep.refl _ _).alloc _) ⟨_, rfl, hG.args [⟨Bx, x, qx, Ax, nx, cx⟩] _ rfl (List.forall_mem_cons.2 ⟨(List.mem_cons_of_mem _ (List.mem_cons_of_mem _ List.mem_cons_self)), (fun _ h => absurd h List.not_mem_nil)⟩) _ rfl⟩)
          | 2, _ => by
            intro a w hG hf hT K hK
            obtain ⟨R33, e1, ha⟩ : ∃ R, a.tmps.getD 33 undef = .slice (some ⟨R, 0, none⟩) 1 1 ∧ ArgsR w (some ⟨R, 0, none⟩) [x] := hT 1 (by kernel_rfl)
            refine op_call rfl rfl (exec_call2 call12 rfl rfl rfl rfl e1) (Yt18x.out _ _ _ ha) (fun e w2 he => ?_)
            obtain ⟨rfl, kk⟩ := he
            exact ⟨_, rfl, hK _ _ (hG.keep kk) kk rfl⟩
          | 3, _ => by
            intro a w hG hf hT K hK
            exact op_run rfl rfl (exec_load (b := ⟨Bx, x, qx, Ax, nx, cx⟩) rfl (hf 5 rfl) hG (List.mem_cons_of_mem _ (List.mem_cons_of_mem _ List.mem_cons_self))) (hK _ _ hG (Keep.refl _ _) rfl)
          | 4, _ => by
            intro a w hG hf hT K hK
            have e0 : a.tmps.getD 35 undef = datV 4 qx Ax nx cx ⟨#[]⟩ := hT 3 (by kernel_rfl)
            exact op_run rfl rfl (exec_row1 rfl e0) (hK _ _ (hG.keep ((Keep.refl _ _).alloc _)) ((Keep.refl _ _).alloc _) ⟨_, rfl, hG.args [⟨Bx, x, qx, Ax, nx, cx⟩] _ rfl (List.forall_mem_cons.2 ⟨(List.mem_cons_of_mem _ (List.mem_cons_of_mem _ List.mem_cons_self)), (fun _ h => absurd h List.not_mem_nil)⟩) _ rfl⟩)
          | 5, _ => by
            intro a w hG hf hT K hK
            obtain ⟨R36, e1, ha⟩ : ∃ R, a.tmps.getD 36 undef = .slice (some ⟨R, 0, none⟩) 1 1 ∧ ArgsR w (some ⟨R, 0, none⟩) [x] := hT 4 (by kernel_rfl)
            refine op_call rfl rfl (exec_call2 call12 rfl rfl rfl rfl e1) (Yt19x.out _ _ _ ha) (fun e w2 he => ?_)
            obtain ⟨rfl, kk⟩ := he
            exact ⟨_, rfl, hK _ _ (hG.keep kk) kk rfl⟩
          | 6, _ => by
            intro a w hG hf hT K hK
            have e0 : a.tmps.getD 34 undef = .bool t18x := hT 2 (by kernel_rfl)
            have e1 : a.tmps.getD 37 undef = .bool t19x := hT 5 (by kernel_rfl)
            exact op_run rfl rfl (exec_eql rfl e0 e1) (hK _ _ hG (Keep.refl _ _) rfl)
          | 7, _ => by
            intro a w hG hf hT K hK
            have e0 : a.tmps.getD 38 undef = .bool (t18x == t19x) := hT 6 (by kernel_rfl)
            exact op_run rfl rfl (exec_move rfl) (hK _ _ hG (Keep.refl _ _) (e0.trans (by rw [Hg39.out]; rfl)))
          | 8, _ => by
            intro a w hG hf hT K hK
            have e9 : a.tmps.getD 39 undef = .bool g39 := hT 7 (by kernel_rfl)
            cases g39
            case true => exact op_shut rfl (want_off (k := 7) (s := 39) (b := false) rfl rfl e9) (hK _ _ hG (Keep.refl _ _) rfl)
            case false =>
              exact op_run rfl (want_on (k := 7) (s := 39) (b := false) rfl rfl e9) (exec_load (b := ⟨Bx, x, qx, Ax, nx, cx⟩) rfl (hf 5 rfl) hG (List.mem_cons_of_mem _ (List.mem_cons_of_mem _ List.mem_cons_self))) (hK _ _ hG (Keep.refl _ _) rfl)
          | 9, _ => by
            intro a w hG hf hT K hK
            have e9 : a.tmps.getD 39 undef = .bool g39 := hT 7 (by kernel_rfl)
            cases g39
            case true => exact op_shut rfl (want_off (k := 7) (s := 39) (b := false) rfl rfl e9) (hK _ _ hG (Keep.refl _ _) rfl)
            case false =>
              have e0 : a.tmps.getD 40 undef = datV 4 qx Ax nx cx ⟨#[]⟩ := hT 8 (by kernel_rfl)
              exact op_run rfl (want_on (k := 7) (s := 39) (b := false) rfl rfl e9) (exec_row1 rfl e0) (hK _ _ (hG.keep ((Keep.refl _ _).alloc _)) ((Keep.refl _ _).alloc _) ⟨_, rfl, hG.args [⟨Bx, x, qx, Ax, nx, cx⟩] _ rfl (List.forall_mem_cons.2 ⟨(List.mem_cons_of_mem _ (List.mem_cons_of_mem _ List.mem_cons_self)), (fun _ h => absurd h List.not_mem_nil)⟩) _ rfl⟩)
          | 10, _ => by
            intro a w hG hf hT K hK
            have e9 : a.tmps.getD 39 undef = .bool g39 := hT 7 (by kernel_rfl)
            cases g39
            case true => exact op_shut rfl (want_off (k := 7) (s := 39) (b := false) rfl rfl e9) (hK _ _ hG (Keep.refl _ _) rfl)
            case false =>
              obtain ⟨R41, e1, ha⟩ : ∃ R, a.tmps.getD 41 undef = .slice (some ⟨R, 0, none⟩) 1 1 ∧ ArgsR w (some ⟨R, 0, none⟩) [x] := hT 9 (by kernel_rfl)
              refine op_call rfl (want_on (k := 7) (s := 39) (b := false) rfl rfl e9) (exec_call2 call12 rfl rfl rfl rfl e1) (Yt15x.out _ _ _ ha) (fun e w2 he => ?_)
              obtain ⟨rfl, kk⟩ := he
              exact ⟨_, rfl, hK _ _ (hG.keep kk) kk rfl⟩
          | 11, _ => by
            intro a w hG hf hT K hK
            have e9 : a.tmps.getD 39 undef = .bool g39 := hT 7 (by kernel_rfl)
            cases g39
            case true => exact op_shut rfl (want_off (k := 7) (s := 39) (b := false) rfl rfl e9) (hK _ _ hG (Keep.refl _ _) rfl)
            case false =>
              have e0 : a.tmps.getD 42 undef = .bool t15x := hT 10 (by kernel_rfl)
              exact op_run rfl (want_on (k := 7) (s := 39) (b := false) rfl rfl e9) (exec_move rfl) (hK _ _ hG (Keep.refl _ _) (e0.trans (by rw [Hg43.out]; rfl)))
          | 12, _ => by
            intro a w hG hf hT K hK
            cases g39
            case true =>
              have e9 : a.tmps.getD 43 undef = undef := hT 11 (by kernel_rfl)
              exact op_shut rfl (want_none (k := 11) (s := 43) (b := true) rfl rfl e9) (hK _ _ hG (Keep.refl _ _) rfl)
            case false =>
              have e9 : a.tmps.getD 43 undef = .bool g43 := hT 11 (by kernel_rfl)
              cases g43
              case false => exact op_shut rfl (want_off (k := 11) (s := 43) (b := true) rfl rfl e9) (hK _ _ hG (Keep.refl _ _) rfl)
              case true =>
                exact op_run rfl (want_on (k := 11) (s := 43) (b := true) rfl rfl e9) (exec_load (b := ⟨Bx, x, qx, Ax, nx, cx⟩) rfl (hf 5 rfl) hG (List.mem_cons_of_mem _ (List.mem_cons_of_mem _ List.mem_cons_self))) (hK _ _ hG (Keep.refl _ _) rfl)
          | 13, _ => by
            intro a w hG hf hT K hK
            cases g39
            case true =>
              have e9 : a.tmps.getD 43 undef = undef := hT 11 (by kernel_rfl)
              exact op_shut rfl (want_none (k := 11) (s := 43) (b := true) rfl rfl e9) (hK _ _ hG (Keep.refl _ _) rfl)
            case false =>
              have e9 : a.tmps.getD 43 undef = .bool g43 := hT 11 (by kernel_rfl)
              cases g43
              case false => exact op_shut rfl (want_off (k := 11) (s := 43) (b := true) rfl rfl e9) (hK _ _ hG (Keep.refl _ _) rfl)
              case true =>
                have e0 : a.tmps.getD 44 undef = datV 4 qx Ax nx cx ⟨#[]⟩ := hT 12 (by kernel_rfl)
                exact op_run rfl (want_on (k := 11) (s := 43) (b := true) rfl rfl e9) (exec_row1 rfl e0) (hK _ _ (hG.keep ((Keep.refl _ _).alloc _)) ((Keep.refl _ _).alloc _) ⟨_, rfl, hG.args [⟨Bx, x, qx, Ax, nx, cx⟩] _ rfl (List.forall_mem_cons.2 ⟨(List.mem_cons_of_mem _ (List.mem_cons_of_mem _ List.mem_cons_self)), (fun _ h => absurd h List.not_mem_nil)⟩) _ rfl⟩)
          | 14, _ => by
            intro a w hG hf hT K hK
            cases g39
            case true =>
              have e9 : a.tmps.getD 43 undef = undef := hT 11 (by kernel_rfl)
              exact op_shut rfl (want_none (k := 11) (s := 43) (b := true) rfl rfl e9) (hK _ _ hG (Keep.refl _ _) rfl)
            case false =>
              have e9 : a.tmps.getD 43 undef = .bool g43 := hT 11 (by kernel_rfl)
              cases g43
              case false => exact op_shut rfl (want_off (k := 11) (s := 43) (b := true) rfl rfl e9) (hK _ _ hG (Keep.refl _ _) rfl)
              case true =>
                obtain ⟨R45, e1, ha⟩ : ∃ R, a.tmps.getD 45 undef = .slice (some ⟨R, 0, none⟩) 1 1 ∧ ArgsR w (some ⟨R, 0, none⟩) [x] := hT 13 (by kernel_rfl)
                refine op_call rfl (want_on (k := 11) (s := 43) (b := true) rfl rfl e9) (exec_call2 call12 rfl rfl rfl rfl e1) (Yt19x.out _ _ _ ha) (fun e w2 he => ?_)
                obtain ⟨rfl, kk⟩ := he
                exact ⟨_, rfl, hK _ _ (hG.keep kk) kk rfl⟩
          | 15, _ => by
            intro a w hG hf hT K hK
            cases g39
            case true =>
              have e9 : a.tmps.getD 43 undef = undef := hT 11 (by kernel_rfl)
              exact op_shut rfl (want_none (k := 11) (s := 43) (b := true) rfl rfl e9) (hK _ _ hG (Keep.refl _ _) rfl)
            case false =>
              have e9 : a.tmps.getD 43 undef = .bool g43 := hT 11 (by kernel_rfl)
              cases g43
              case false => exact op_shut rfl (want_off (k := 11) (s := 43) (b := true) rfl rfl e9) (hK _ _ hG (Keep.refl _ _) rfl)
              case true =>
                have e0 : a.tmps.getD 46 undef = .bool t19x := hT 14 (by kernel_rfl)
                exact op_run rfl (want_on (k := 11) (s := 43) (b := true) rfl rfl e9) (exec_not rfl e0) (hK _ _ hG (Keep.refl _ _) rfl)
          | 16, _ => by
            intro a w hG hf hT K hK
            have e9 : a.tmps.getD 39 undef = .bool g39 := hT 7 (by kernel_rfl)
            cases g39
            case true => exact op_shut rfl (want_off (k := 7) (s := 39) (b := false) rfl rfl e9) (hK _ _ hG (Keep.refl _ _) rfl)
            case false =>
              have e0 : a.tmps.getD 43 undef = .bool g43 := hT 11 (by kernel_rfl)
              have e1 : a.tmps.getD 47 undef = bif g43 then .bool (!t19x) else undef := hT 15 (by kernel_rfl)
              refine op_run rfl (want_on (k := 7) (s := 39) (b := false) rfl rfl e9) (exec_pick rfl e0) (hK _ _ hG (Keep.refl _ _) ?_)
              show (bif g43 then a.tmps.getD 47 undef else .bool false) = .bool (g43 && (!t19x))
              rw [e1, Hg43.out]
              cases g43 <;> cases t15x <;> cases t19x <;> rfl
          | 17, _ => by
            intro a w hG hf hT K hK
            have e0 : a.tmps.getD 39 undef = .bool g39 := hT 7 (by kernel_rfl)
            have e1 : a.tmps.getD 48 undef = bif !g39 then .bool (g43 && (!t19x)) else undef := hT 16 (by kernel_rfl)
            refine op_run rfl rfl (exec_pick rfl e0) (hK _ _ hG (Keep.refl _ _) ?_)
            show (bif g39 then .bool true else a.tmps.getD 48 undef) = .bool (g39 || (g43 && (!t19x)))
            rw [e1, Hg39.out]
            cases g39 <;> cases g43 <;> cases t18x <;> cases t19x <;> rfl
          | m + 18, h => absurd h (by omega)
        ) (fun a w hG hT => ?_)
        have eL : a.tmps.getD 49 undef = .bool (g39 || (g43 && (!t19x))) := hT 17 (by decide)
        refine hK _ _ (Met.intro (hJ _ _ ?_))
        repeat apply Exists.intro
        refine ⟨?rel, rfl⟩
        case rel => exact ⟨eL.trans (congrArg Value.bool HE.out), hG⟩
      case rest =>
        obtain ⟨rfl, hx⟩ := hcut
        clear HX
        have HX := Lib.hid hx
        clear hx
        clear Yt18x Ht18x t18x Yt15x Ht15x t15x
        go_upto_region 6 with fail
        go_cut [8, 9] from 50 to 56 (fun v8 v9 wy => ∃ (er : Int) (Bn : Nat) (qn : Bool) (An : Option Addr) (nn cn : Nat), v8 = .pointer (some ⟨Bn, 0, none⟩) ∧ v9 = .int .i64 er ∧ Road w wy [⟨Bu, 1, qu, Au, nu, cu⟩, ⟨By, y, qy, Ay, ny, cy⟩, ⟨Bx, x, qx, Ax, nx, cx⟩] ∧ (er = 0 → Go.Proofs.YtkjocmenpccooaaGreatDoor.Bx.At wy ⟨Bn, x + 1, qn, An, nn, cn⟩) ∧ (er = 0 ∨ er = 6))
        case first =>
          rename_i J K hJ hK
          obtain ⟨x0, x1, x2, x3, x4, x5⟩ := HX.out.cells ⟨Bx, x, qx, Ax, nx, cx⟩ (List.mem_cons_of_mem _ (List.mem_cons_of_mem _ List.mem_cons_self))
          obtain ⟨u0, u1, u2, u3, u4, u5⟩ := HX.out.cells ⟨Bu, 1, qu, Au, nu, cu⟩ List.mem_cons_self
          go_wp2_with fail
          refine (run_sum _ _ _ x 1 HF.out.1 (HX.out.args [⟨Bx, x, qx, Ax, nx, cx⟩, ⟨Bu, 1, qu, Au, nu, cu⟩] _ (by rfl) (List.forall_mem_cons.2 ⟨(List.mem_cons_of_mem _ (List.mem_cons_of_mem _ List.mem_cons_self)), (List.forall_mem_cons.2 ⟨List.mem_cons_self, (fun _ h => absurd h List.not_mem_nil)⟩)⟩) _ (by simp))).mono ?_
          rintro e w11 hre
          clear x0 x1 x2 x3 x4 x5 u0 u1 u2 u3 u4 u5
          by_cases hs : Fits (x + 1)
          · rw [if_pos hs] at hre
            obtain ⟨qn, An, nn, cn, rfl, kk, hv⟩ := hre.good
            have HX1 := Lib.hid ((HX.out.keep (((Keep.refl _ _).alloc _).trans kk)).new hv)
            clear hv kk hre
            clear HX
            have HX := HX1
            clear HX1
            go_wp2_with fail
            go_meet
            case rel => exact ⟨0, _, _, _, _, _, rfl, rfl, HX.out.sub (List.forall_mem_cons.2 ⟨(List.mem_cons_of_mem _ List.mem_cons_self), (List.forall_mem_cons.2 ⟨(List.mem_cons_of_mem _ (List.mem_cons_of_mem _ List.mem_cons_self)), (List.forall_mem_cons.2 ⟨(List.mem_cons_of_mem _ (List.mem_cons_of_mem _ (List.mem_cons_of_mem _ List.mem_cons_self))), (fun _ h => absurd h List.not_mem_nil)⟩)⟩)⟩), fun _ => HX.out.bs _ List.mem_cons_self, .inl rfl⟩
          · rw [if_neg hs] at hre
            obtain ⟨ko, qo, Ao, no, co, rfl, kk, hw⟩ := hre.any
            have HX1 := Lib.hid ((HX.out.keep (((Keep.refl _ _).alloc _).trans kk)).other (datC ko qo Ao no co ⟨#[]⟩))
            clear kk hw hre
            clear HX
            have HX := HX1
            clear HX1
            go_wp2_with fail
            go_meet
            case rel => exact ⟨6, _, false, none, 0, 0, rfl, rfl, HX.out, fun h => absurd h (by decide), .inr rfl⟩
        case rest =>
          obtain ⟨er, Bn, qn, An, nn, cn, rfl, rfl, hx, hat, her⟩ := hcut
          clear HX
          have HX := Lib.hid hx
          have HAT := Lib.hid hat
          clear hx hat
          go_upto_region 7 with fail
          go_cut [67] from 57 to 67 (fun v wy => v = .bool false ∧ Road w wy [⟨Bu, 1, qu, Au, nu, cu⟩, ⟨By, y, qy, Ay, ny, cy⟩, ⟨Bx, x, qx, Ax, nx, cx⟩])
          case first =>
            rename_i J K hJ hK
            rcases her with rfl | rfl
            ·
              have HX1 := Lib.hid (show Road w _ [⟨Bn, x + 1, qn, An, nn, cn⟩, ⟨Bu, 1, qu, Au, nu, cu⟩, ⟨By, y, qy, Ay, ny, cy⟩, ⟨Bx, x, qx, Ax, nx, cx⟩] from ⟨HX.out.K, List.forall_mem_cons.2 ⟨HAT.out rfl, HX.out.bs⟩⟩)
              clear HX
              have HX := HX1
              clear HX1
              obtain ⟨t19n, ht19n⟩ : ∃ t, t = askB 19 (x + 1) := ⟨_, rfl⟩
              have Yt19n := Lib.hid (yes_ask 19 (by omega) (x + 1) t19n ht19n)
              have Ht19n := Lib.hid ht19n
              clear ht19n
              obtain ⟨g59, hg59⟩ : ∃ b : Bool, b = (0 == 0) := ⟨_, rfl⟩
              have Hg59 := Lib.hid hg59
              clear hg59
              have HE := Lib.hid (show (g59 && (t19x == t19n)) = false from by
                have a1 : (t19x == t19n) = false := by rw [Ht19x.out, Ht19n.out]; exact ask_next x
                rw [a1, Bool.and_false])
              refine region_vals (by kernel_rfl) 11 (by kernel_rfl) (by kernel_rfl) (fun i => 57 + i) (fun k => Nat.ble 57 k && Nat.ble k 67) (fun i _ j _ h => by have h2 : 57 + i = 57 + j := h; omega) (fun i hi => by simp only [Bool.and_eq_true, Nat.ble_eq]; omega) (fun i hi => Nat.lt_of_lt_of_le (show 57 + i < 68 by omega) (Nat.le_of_ble_eq_true rfl)) (fun w' => Road w w' [⟨Bn, x + 1, qn, An, nn, cn⟩, ⟨Bu, 1, qu, Au, nu, cu⟩, ⟨By, y, qy, Ay, ny, cy⟩, ⟨Bx, x, qx, Ax, nx, cx⟩]) (HX.out.keep (Keep.refl _ _).drew) (fun i => (([Sp.val true (.int .i64 0), Sp.val true (.bool (0 == 0)), Sp.val true (.bool g59), Sp.val (g59) (datV 4 qx Ax nx cx ⟨#[]⟩), Sp.row (g59) 1 [x], Sp.val (g59) (.bool t19x), Sp.val (g59) (datV 4 qn An nn cn ⟨#[]⟩), Sp.row (g59) 1 [x + 1], Sp.val (g59) (.bool t19n), Sp.val (g59) (.bool (t19x == t19n)), Sp.val true (.bool (g59 && (t19x == t19n)))] : List Sp).getD i (Sp.val false undef)).T) (fun i => Sp.mono _) (fun i hi => match i, hi with
                | 0, _ => by
                  intro a w hG hf hT K hK
                  exact op_run rfl rfl (exec_move rfl) (hK _ _ hG (Keep.refl _ _) (hf 9 rfl))
                | 1, _ => by
                  intro a w hG hf hT K hK
                  have e0 : a.tmps.getD 57 undef = .int .i64 0 := hT 0 (by kernel_rfl)
                  exact op_run rfl rfl (exec_eqi rfl e0 rfl) (hK _ _ hG (Keep.refl _ _) rfl)
                | 2, _ => by
                  intro a w hG hf hT K hK
                  have e0 : a.tmps.getD 58 undef = .bool (0 == 0) := hT 1 (by kernel_rfl)
                  exact op_run rfl rfl (exec_move rfl) (hK _ _ hG (Keep.refl _ _) (e0.trans (by rw [Hg59.out]; rfl)))
                | 3, _ => by
                  intro a w hG hf hT K hK
                  have e9 : a.tmps.getD 59 undef = .bool g59 := hT 2 (by kernel_rfl)
                  cases g59
                  case false => exact op_shut rfl (want_off (k := 2) (s := 59) (b := true) rfl rfl e9) (hK _ _ hG (Keep.refl _ _) rfl)
                  case true =>
                    exact op_run rfl (want_on (k := 2) (s := 59) (b := true) rfl rfl e9) (exec_load (b := ⟨Bx, x, qx, Ax, nx, cx⟩) rfl (hf 5 rfl) hG (List.mem_cons_of_mem _ (List.mem_cons_of_mem _ (List.mem_cons_of_mem _ List.mem_cons_self)))) (hK _ _ hG (Keep.refl _ _) rfl)
                | 4, _ => by
                  intro a w hG hf hT K hK
                  have e9 : a.tmps.getD 59 undef = .bool g59 := hT 2 (by kernel_rfl)
                  cases g59
                  case false => exact op_shut rfl (want_off (k := 2) (s := 59) (b := true) rfl rfl e9) (hK _ _ hG (Keep.refl _ _) rfl)
                  case true =>
                    have e0 : a.tmps.getD 60 undef = datV 4 qx Ax nx cx ⟨#[]⟩ := hT 3 (by kernel_rfl)
                    exact op_run rfl (want_on (k := 2) (s := 59) (b := true) rfl rfl e9) (exec_row1 rfl e0) (hK _ _ (hG.keep ((Keep.refl _ _).alloc _)) ((Keep.refl _ _).alloc _) ⟨_, rfl, hG.args [⟨Bx, x, qx, Ax, nx, cx⟩] _ rfl (List.forall_mem_cons.2 ⟨(List.mem_cons_of_mem _ (List.mem_cons_of_mem _ (List.mem_cons_of_mem _ List.mem_cons_self))), (fun _ h => absurd h List.not_mem_nil)⟩) _ rfl⟩)
                | 5, _ => by
                  intro a w hG hf hT K hK
                  have e9 : a.tmps.getD 59 undef = .bool g59 := hT 2 (by kernel_rfl)
                  cases g59
                  case false => exact op_shut rfl (want_off (k := 2) (s := 59) (b := true) rfl rfl e9) (hK _ _ hG (Keep.refl _ _) rfl)
                  case true =>
                    obtain ⟨R61, e1, ha⟩ : ∃ R, a.tmps.getD 61 undef = .slice (some ⟨R, 0, none⟩) 1 1 ∧ ArgsR w (some ⟨R, 0, none⟩) [x] := hT 4 (by kernel_rfl)
                    refine op_call rfl (want_on (k := 2) (s := 59) (b := true) rfl rfl e9) (exec_call2 call12 rfl rfl rfl rfl e1) (Yt19x.out _ _ _ ha) (fun e w2 he => ?_)
                    obtain ⟨rfl, kk⟩ := he
                    exact ⟨_, rfl, hK _ _ (hG.keep kk) kk rfl⟩
                | 6, _ => by
                  intro a w hG hf hT K hK
                  have e9 : a.tmps.getD 59 undef = .bool g59 := hT 2 (by kernel_rfl)
                  cases g59
                  case false => exact op_shut rfl (want_off (k := 2) (s := 59) (b := true) rfl rfl e9) (hK _ _ hG (Keep.refl _ _) rfl)
                  case true =>
                    exact op_run rfl (want_on (k := 2) (s := 59) (b := true) rfl rfl e9) (exec_load (b := ⟨Bn, x + 1, qn, An, nn, cn⟩) rfl (hf 8 rfl) hG List.mem_cons_self) (hK _ _ hG (Keep.refl _ _) rfl)
                | 7, _ => by
                  intro a w hG hf hT K hK
                  have e9 : a.tmps.getD 59 undef = .bool g59 := hT 2 (by kernel_rfl)
                  cases g59
                  case false => exact op_shut rfl (want_off (k := 2) (s := 59) (b := true) rfl rfl e9) (hK _ _ hG (Keep.refl _ _) rfl)
                  case true =>
                    have e0 : a.tmps.getD 63 undef = datV 4 qn An nn cn ⟨#[]⟩ := hT 6 (by kernel_rfl)
                    exact op_run rfl (want_on (k := 2) (s := 59) (b := true) rfl rfl e9) (exec_row1 rfl e0) (hK _ _ (hG.keep ((Keep.refl _ _).alloc _)) ((Keep.refl _ _).alloc _) ⟨_, rfl, hG.args [⟨Bn, x + 1, qn, An, nn, cn⟩] _ rfl (List.forall_mem_cons.2 ⟨List.mem_cons_self, (fun _ h => absurd h List.not_mem_nil)⟩) _ rfl⟩)
                | 8, _ => by
                  intro a w hG hf hT K hK
                  have e9 : a.tmps.getD 59 undef = .bool g59 := hT 2 (by kernel_rfl)
                  cases g59
                  case false => exact op_shut rfl (want_off (k := 2) (s := 59) (b := true) rfl rfl e9) (hK _ _ hG (Keep.refl _ _) rfl)
                  case true =>
                    obtain ⟨R64, e1, ha⟩ : ∃ R, a.tmps.getD 64 undef = .slice (some ⟨R, 0, none⟩) 1 1 ∧ ArgsR w (some ⟨R, 0, none⟩) [x + 1] := hT 7 (by kernel_rfl)
                    refine op_call rfl (want_on (k := 2) (s := 59) (b := true) rfl rfl e9) (exec_call2 call12 rfl rfl rfl rfl e1) (Yt19n.out _ _ _ ha) (fun e w2 he => ?_)
                    obtain ⟨rfl, kk⟩ := he
                    exact ⟨_, rfl, hK _ _ (hG.keep kk) kk rfl⟩
                | 9, _ => by
                  intro a w hG hf hT K hK
                  have e9 : a.tmps.getD 59 undef = .bool g59 := hT 2 (by kernel_rfl)
                  cases g59
                  case false => exact op_shut rfl (want_off (k := 2) (s := 59) (b := true) rfl rfl e9) (hK _ _ hG (Keep.refl _ _) rfl)
                  case true =>
                    have e0 : a.tmps.getD 62 undef = .bool t19x := hT 5 (by kernel_rfl)
                    have e1 : a.tmps.getD 65 undef = .bool t19n := hT 8 (by kernel_rfl)
                    exact op_run rfl (want_on (k := 2) (s := 59) (b := true) rfl rfl e9) (exec_eql rfl e0 e1) (hK _ _ hG (Keep.refl _ _) rfl)
                | 10, _ => by
                  intro a w hG hf hT K hK
                  have e0 : a.tmps.getD 59 undef = .bool g59 := hT 2 (by kernel_rfl)
                  have e1 : a.tmps.getD 66 undef = bif g59 then .bool (t19x == t19n) else undef := hT 9 (by kernel_rfl)
                  refine op_run rfl rfl (exec_pick rfl e0) (hK _ _ hG (Keep.refl _ _) ?_)
                  show (bif g59 then a.tmps.getD 66 undef else .bool false) = .bool (g59 && (t19x == t19n))
                  rw [e1, Hg59.out]
                  cases g59 <;> cases t19n <;> cases t19x <;> rfl
                | m + 11, h => absurd h (by omega)
              ) (fun a w hG hT => ?_)
              have eL : a.tmps.getD 67 undef = .bool (g59 && (t19x == t19n)) := hT 10 (by decide)
              refine hK _ _ (Met.intro (hJ _ _ ?_))
              repeat apply Exists.intro
              refine ⟨?rel, rfl⟩
              case rel => exact ⟨eL.trans (congrArg Value.bool HE.out), hG.sub (List.forall_mem_cons.2 ⟨(List.mem_cons_of_mem _ List.mem_cons_self), (List.forall_mem_cons.2 ⟨(List.mem_cons_of_mem _ (List.mem_cons_of_mem _ List.mem_cons_self)), (List.forall_mem_cons.2 ⟨(List.mem_cons_of_mem _ (List.mem_cons_of_mem _ (List.mem_cons_of_mem _ List.mem_cons_self))), (fun _ h => absurd h List.not_mem_nil)⟩)⟩)⟩)⟩
            ·
              refine wp_region_held_drew (S := fun _ => True) (by kernel_rfl) trivial (fun hHeld => ?_)
              refine wpAnyH_take (i := 0) (oi := _) (v := ?_) rfl (by kernel_rfl) (by kernel_rfl) (by kernel_rfl) (fun _ _ _ h => h) (Or.inl ⟨by rfl, ?_⟩) (by assumption) ?_
              rotate_left
              · (intro w hSw; (try dsimp only at hSw); go_simp)
                all_goals with_reducible rfl
              try dsimp only [List.getElem_toArray, List.getElem_cons_succ, List.getElem_cons_zero]
              try simp only [Act.put, List.setIfInBounds_toArray, List.set_cons_zero, List.set_cons_succ]
              refine wpAnyH_take (i := 1) (oi := _) (v := ?_) rfl (by kernel_rfl) (by kernel_rfl) (by kernel_rfl) (fun _ _ _ h => h) (Or.inl ⟨by rfl, ?_⟩) (by assumption) ?_
              rotate_left
              · (intro w hSw; (try dsimp only at hSw); go_simp)
                all_goals with_reducible rfl
              try dsimp only [List.getElem_toArray, List.getElem_cons_succ, List.getElem_cons_zero]
              try simp only [Act.put, List.setIfInBounds_toArray, List.set_cons_zero, List.set_cons_succ]
              refine wpAnyH_take (i := 2) (oi := _) (v := ?_) rfl (by kernel_rfl) (by kernel_rfl) (by kernel_rfl) (fun _ _ _ h => h) (Or.inl ⟨by rfl, ?_⟩) (by assumption) ?_
              rotate_left
              · (intro w hSw; (try dsimp only at hSw); go_simp)
                all_goals with_reducible rfl
              try dsimp only [List.getElem_toArray, List.getElem_cons_succ, List.getElem_cons_zero]
              try simp only [Act.put, List.setIfInBounds_toArray, List.set_cons_zero, List.set_cons_succ]
              refine wpAnyH_take (i := 3) (oi := _) (v := undef) rfl (by kernel_rfl) (by kernel_rfl) (by kernel_rfl) (fun _ _ _ h => h) (Or.inr ⟨by rfl, rfl⟩) (by assumption) ?_
              refine wpAnyH_take (i := 4) (oi := _) (v := undef) rfl (by kernel_rfl) (by kernel_rfl) (by kernel_rfl) (fun _ _ _ h => h) (Or.inr ⟨by rfl, rfl⟩) (by assumption) ?_
              refine wpAnyH_take (i := 5) (oi := _) (v := undef) rfl (by kernel_rfl) (by kernel_rfl) (by kernel_rfl) (fun _ _ _ h => h) (Or.inr ⟨by rfl, rfl⟩) (by assumption) ?_
              try dsimp only [List.getElem_toArray, List.getElem_cons_succ, List.getElem_cons_zero]
              try simp only [Act.put, List.setIfInBounds_toArray, List.set_cons_zero, List.set_cons_succ]
              refine wpAnyH_take (i := 6) (oi := _) (v := undef) rfl (by kernel_rfl) (by kernel_rfl) (by kernel_rfl) (fun _ _ _ h => h) (Or.inr ⟨by rfl, rfl⟩) (by assumption) ?_
              refine wpAnyH_take (i := 7) (oi := _) (v := undef) rfl (by kernel_rfl) (by kernel_rfl) (by kernel_rfl) (fun _ _ _ h => h) (Or.inr ⟨by rfl, rfl⟩) (by assumption) ?_
              refine wpAnyH_take (i := 8) (oi := _) (v := undef) rfl (by kernel_rfl) (by kernel_rfl) (by kernel_rfl) (fun _ _ _ h => h) (Or.inr ⟨by rfl, rfl⟩) (by assumption) ?_
              refine wpAnyH_take (i := 9) (oi := _) (v := undef) rfl (by kernel_rfl) (by kernel_rfl) (by kernel_rfl) (fun _ _ _ h => h) (Or.inr ⟨by rfl, rfl⟩) (by assumption) ?_
              try dsimp only [List.getElem_toArray, List.getElem_cons_succ, List.getElem_cons_zero]
              try simp only [Act.put, List.setIfInBounds_toArray, List.set_cons_zero, List.set_cons_succ]
              refine wpAnyH_take (i := 10) (oi := _) (v := ?_) rfl (by kernel_rfl) (by kernel_rfl) (by kernel_rfl) (fun _ _ _ h => h) (Or.inl ⟨by rfl, ?_⟩) (by assumption) ?_
              rotate_left
              · (intro w hSw; (try dsimp only at hSw); go_simp)
                all_goals with_reducible rfl
              try dsimp only [List.getElem_toArray, List.getElem_cons_succ, List.getElem_cons_zero]
              try simp only [Act.put, List.setIfInBounds_toArray, List.set_cons_zero, List.set_cons_succ]
              refine wpAnyH_done (by kernel_rfl) ?_ _
              refine hK _ _ (Met.intro (hJ _ _ ?_))
              repeat apply Exists.intro
              refine ⟨?rel, rfl⟩
              case rel => exact ⟨rfl, HX.out.keep ((Keep.refl _ _).drew)⟩
          case rest =>
            obtain ⟨rfl, hx⟩ := hcut
            clear HX
            have HX := Lib.hid hx
            clear hx HAT Yt19x Ht19x t19x her
            obtain ⟨x0, x1, x2, x3, x4, x5⟩ := HX.out.cells ⟨Bx, x, qx, Ax, nx, cx⟩ (List.mem_cons_of_mem _ (List.mem_cons_of_mem _ List.mem_cons_self))
            go_wp2_with fail
            refine (run_neg _ _ _ x (HX.out.args [⟨Bx, x, qx, Ax, nx, cx⟩] _ (by rfl) (List.forall_mem_cons.2 ⟨(List.mem_cons_of_mem _ (List.mem_cons_of_mem _ List.mem_cons_self)), (fun _ h => absurd h List.not_mem_nil)⟩) _ (by simp))).mono ?_
            rintro e w12 hre
            clear x0 x1 x2 x3 x4 x5
            obtain ⟨qm, Am, nm, cm, rfl, kk, hv⟩ := hre.good
            have HX1 := Lib.hid ((HX.out.keep (((Keep.refl _ _).alloc _).trans kk)).new hv)
            clear hv kk hre
            clear HX
            have HX := HX1
            clear HX1
            obtain ⟨x0, x1, x2, x3, x4, x5⟩ := HX.out.cells ⟨Bx, x, qx, Ax, nx, cx⟩ (List.mem_cons_of_mem _ (List.mem_cons_of_mem _ (List.mem_cons_of_mem _ List.mem_cons_self)))
            obtain ⟨m0, m1, m2, m3, m4, m5⟩ := HX.out.cells ⟨w12.heap.size, (-x), qm, Am, nm, cm⟩ List.mem_cons_self
            go_wp2_with fail
            refine (run_sum _ _ _ x (-x) HF.out.1 (HX.out.args [⟨Bx, x, qx, Ax, nx, cx⟩, ⟨w12.heap.size, (-x), qm, Am, nm, cm⟩] _ (by rfl) (List.forall_mem_cons.2 ⟨(List.mem_cons_of_mem _ (List.mem_cons_of_mem _ (List.mem_cons_of_mem _ List.mem_cons_self))), (List.forall_mem_cons.2 ⟨List.mem_cons_self, (fun _ h => absurd h List.not_mem_nil)⟩)⟩) _ (by simp))).mono ?_
            rintro e w13 hre
            clear x0 x1 x2 x3 x4 x5 m0 m1 m2 m3 m4 m5
            rw [show x + -x = 0 from by omega, if_pos fits_zero] at hre
            obtain ⟨qk, Ak, nk, ck, rfl, kk, hv⟩ := hre.good
            have HX1 := Lib.hid ((HX.out.keep (((Keep.refl _ _).alloc _).trans kk)).new hv)
            clear hv kk hre
            clear HX
            have HX := HX1
            clear HX1
            generalize w12.heap.size = Bm at HX ⊢
            obtain ⟨x0, x1, x2, x3, x4, x5⟩ := HX.out.cells ⟨Bx, x, qx, Ax, nx, cx⟩ (List.mem_cons_of_mem _ (List.mem_cons_of_mem _ (List.mem_cons_of_mem _ (List.mem_cons_of_mem _ List.mem_cons_self))))
            go_wp2_with fail
            refine (run_abs _ _ _ x (HX.out.args [⟨Bx, x, qx, Ax, nx, cx⟩] _ (by rfl) (List.forall_mem_cons.2 ⟨(List.mem_cons_of_mem _ (List.mem_cons_of_mem _ (List.mem_cons_of_mem _ (List.mem_cons_of_mem _ List.mem_cons_self)))), (fun _ h => absurd h List.not_mem_nil)⟩) _ (by simp))).mono ?_
            rintro e w14 hre
            clear x0 x1 x2 x3 x4 x5
            obtain ⟨qb, Ab, nb, cb, rfl, kk, hv⟩ := hre.good
            have HX1 := Lib.hid ((HX.out.keep (((Keep.refl _ _).alloc _).trans kk)).new hv)
            clear hv kk hre
            clear HX
            have HX := HX1
            clear HX1
            generalize w13.heap.size = Bk at HX ⊢
            go_upto_region 12 with fail
            generalize w14.heap.size = Bb at HX ⊢
            go_cut [119] from 87 to 119 (fun v wy => v = .bool false ∧ Road w wy [⟨Bb, (x.natAbs : Int), qb, Ab, nb, cb⟩, ⟨Bk, 0, qk, Ak, nk, ck⟩, ⟨Bm, (-x), qm, Am, nm, cm⟩, ⟨Bu, 1, qu, Au, nu, cu⟩, ⟨By, y, qy, Ay, ny, cy⟩, ⟨Bx, x, qx, Ax, nx, cx⟩])
            case first =>
              rename_i J K hJ hK
              obtain ⟨s1, hs1⟩ : ∃ s, s = decide ((x.natAbs : Int) = x) := ⟨_, rfl⟩
              have HS1 := Lib.hid hs1
              clear hs1
              obtain ⟨k0, k1, k2, k3, k4, k5⟩ := HX.out.cells ⟨Bk, 0, qk, Ak, nk, ck⟩ (List.mem_cons_of_mem _ List.mem_cons_self)
              go_wp2_with fail
              refine (yes_ask 15 (by omega) 0 true rfl _ _ _ (HX.out.args [⟨Bk, 0, qk, Ak, nk, ck⟩] _ (by rfl) (List.forall_mem_cons.2 ⟨(List.mem_cons_of_mem _ List.mem_cons_self), (fun _ h => absurd h List.not_mem_nil)⟩) _ (by simp))).mono ?_
              rintro e w15 ⟨rfl, kk⟩
              have HX1 := Lib.hid (HX.out.keep (((Keep.refl _ _).alloc _).trans kk))
              clear kk
              clear k0 k1 k2 k3 k4 k5
              clear HX
              have HX := HX1
              clear HX1
              obtain ⟨b0, b1, b2, b3, b4, b5⟩ := HX.out.cells ⟨Bb, (x.natAbs : Int), qb, Ab, nb, cb⟩ List.mem_cons_self
              go_wp2_with fail
              refine (yes_ask 17 (by omega) (x.natAbs : Int) false (by rw [ask_17]; exact (decide_eq_false (by omega)).symm) _ _ _ (HX.out.args [⟨Bb, (x.natAbs : Int), qb, Ab, nb, cb⟩] _ (by rfl) (List.forall_mem_cons.2 ⟨List.mem_cons_self, (fun _ h => absurd h List.not_mem_nil)⟩) _ (by simp))).mono ?_
              rintro e w16 ⟨rfl, kk⟩
              have HX1 := Lib.hid (HX.out.keep (((Keep.refl _ _).alloc _).trans kk))
              clear kk
              clear b0 b1 b2 b3 b4 b5
              clear HX
              have HX := HX1
              clear HX1
              obtain ⟨b0, b1, b2, b3, b4, b5⟩ := HX.out.cells ⟨Bb, (x.natAbs : Int), qb, Ab, nb, cb⟩ List.mem_cons_self
              obtain ⟨x0, x1, x2, x3, x4, x5⟩ := HX.out.cells ⟨Bx, x, qx, Ax, nx, cx⟩ (List.mem_cons_of_mem _ (List.mem_cons_of_mem _ (List.mem_cons_of_mem _ (List.mem_cons_of_mem _ (List.mem_cons_of_mem _ List.mem_cons_self)))))
              go_wp2_with fail
              refine (HX.out.same ⟨Bb, (x.natAbs : Int), qb, Ab, nb, cb⟩ ⟨Bx, x, qx, Ax, nx, cx⟩ List.mem_cons_self (List.mem_cons_of_mem _ (List.mem_cons_of_mem _ (List.mem_cons_of_mem _ (List.mem_cons_of_mem _ (List.mem_cons_of_mem _ List.mem_cons_self))))) s1 HS1.out).mono ?_
              rintro e w17 ⟨rfl, kk⟩
              have HX1 := Lib.hid (HX.out.keep kk)
              clear kk
              clear HX
              have HX := HX1
              clear HX1
              clear b0 b1 b2 b3 b4 b5 x0 x1 x2 x3 x4 x5
              cases s1 with
              | true =>
                go_wp2_with fail
                go_meet
                case rel => exact ⟨rfl, HX.out⟩
              | false =>
                have hs2 := of_decide_eq_false HS1.out.symm
                obtain ⟨b0, b1, b2, b3, b4, b5⟩ := HX.out.cells ⟨Bb, (x.natAbs : Int), qb, Ab, nb, cb⟩ List.mem_cons_self
                obtain ⟨m0, m1, m2, m3, m4, m5⟩ := HX.out.cells ⟨Bm, (-x), qm, Am, nm, cm⟩ (List.mem_cons_of_mem _ (List.mem_cons_of_mem _ List.mem_cons_self))
                go_wp2_with fail
                refine (HX.out.same ⟨Bb, (x.natAbs : Int), qb, Ab, nb, cb⟩ ⟨Bm, (-x), qm, Am, nm, cm⟩ List.mem_cons_self (List.mem_cons_of_mem _ (List.mem_cons_of_mem _ List.mem_cons_self)) true (decide_eq_true (show (x.natAbs : Int) = -x by omega)).symm).mono ?_
                rintro e w18 ⟨rfl, kk⟩
                have HX1 := Lib.hid (HX.out.keep kk)
                clear kk
                clear HX
                have HX := HX1
                clear HX1
                clear b0 b1 b2 b3 b4 b5 m0 m1 m2 m3 m4 m5
                go_wp2_with fail
                go_meet
                case rel => exact ⟨rfl, HX.out⟩
            case rest =>
              obtain ⟨rfl, hx⟩ := hcut
              clear HX
              have HX := Lib.hid hx
              clear hx
              by_cases hy0 : y = 0
              · subst hy0
                obtain ⟨x0, x1, x2, x3, x4, x5⟩ := HX.out.cells ⟨Bx, x, qx, Ax, nx, cx⟩ (List.mem_cons_of_mem _ (List.mem_cons_of_mem _ (List.mem_cons_of_mem _ (List.mem_cons_of_mem _ (List.mem_cons_of_mem _ List.mem_cons_self)))))
                obtain ⟨y0, y1, y2, y3, y4, y5⟩ := HX.out.cells ⟨By, 0, qy, Ay, ny, cy⟩ (List.mem_cons_of_mem _ (List.mem_cons_of_mem _ (List.mem_cons_of_mem _ (List.mem_cons_of_mem _ List.mem_cons_self))))
                go_wp2_with fail
                refine (run_zero 6 (.inr (.inr rfl)) _ _ _ x (HX.out.args [⟨Bx, x, qx, Ax, nx, cx⟩, ⟨By, 0, qy, Ay, ny, cy⟩] _ (by rfl) (List.forall_mem_cons.2 ⟨(List.mem_cons_of_mem _ (List.mem_cons_of_mem _ (List.mem_cons_of_mem _ (List.mem_cons_of_mem _ (List.mem_cons_of_mem _ List.mem_cons_self))))), (List.forall_mem_cons.2 ⟨(List.mem_cons_of_mem _ (List.mem_cons_of_mem _ (List.mem_cons_of_mem _ (List.mem_cons_of_mem _ List.mem_cons_self)))), (fun _ h => absurd h List.not_mem_nil)⟩)⟩) _ (by simp))).mono ?_
                rintro e w19 hre
                clear x0 x1 x2 x3 x4 x5 y0 y1 y2 y3 y4 y5
                obtain ⟨ko, qo, Ao, no, co, rfl, kk, hw⟩ := hre.any
                have HX1 := Lib.hid ((HX.out.keep (((Keep.refl _ _).alloc _).trans kk)).other (datC ko qo Ao no co ⟨#[]⟩))
                clear kk hw hre
                clear HX
                have HX := HX1
                clear HX1
                obtain ⟨y0, y1, y2, y3, y4, y5⟩ := HX.out.cells ⟨By, 0, qy, Ay, ny, cy⟩ (List.mem_cons_of_mem _ (List.mem_cons_of_mem _ (List.mem_cons_of_mem _ (List.mem_cons_of_mem _ List.mem_cons_self))))
                go_wp2_with fail
                refine (yes_ask 15 (by omega) 0 true rfl _ _ _ (HX.out.args [⟨By, 0, qy, Ay, ny, cy⟩] _ (by rfl) (List.forall_mem_cons.2 ⟨(List.mem_cons_of_mem _ (List.mem_cons_of_mem _ (List.mem_cons_of_mem _ (List.mem_cons_of_mem _ List.mem_cons_self)))), (fun _ h => absurd h List.not_mem_nil)⟩) _ (by simp))).mono ?_
                rintro e w20 ⟨rfl, kk⟩
                have HX1 := Lib.hid (HX.out.keep (((Keep.refl _ _).alloc _).trans kk))
                clear kk
                clear y0 y1 y2 y3 y4 y5
                clear HX
                have HX := HX1
                clear HX1
                go_wp2_with fail
                refine (awake_any _).mono ?_
                rintro e w5 ⟨rfl, k5⟩
                have HK5 := Lib.hid (HX.out.K.trans k5)
                clear k5
                go_wp2_with fail
                go_ret
                exact ⟨rfl, HK5.out⟩
              · have HMF := Lib.hid (mod_facts x y HF.out.2 hy0)
                have HY0 := Lib.hid hy0
                clear hy0
                obtain ⟨vm, hvm⟩ : ∃ v, v = divV 6 x y := ⟨_, rfl⟩
                obtain ⟨vd, hvd⟩ : ∃ v, v = x - vm := ⟨_, rfl⟩
                have HV := Lib.hid (show Fits vm ∧ divV 5 vd y = 0 ∧ (vm = 0 ∨ decide (vm < 0) = decide (y < 0)) from ⟨by rw [hvm]; exact HMF.out.m, by rw [hvd, hvm]; exact HMF.out.z, by rw [hvm]; exact HMF.out.s⟩)
                have HVE := Lib.hid (And.intro hvm hvd)
                clear hvm hvd HMF
                obtain ⟨x0, x1, x2, x3, x4, x5⟩ := HX.out.cells ⟨Bx, x, qx, Ax, nx, cx⟩ (List.mem_cons_of_mem _ (List.mem_cons_of_mem _ (List.mem_cons_of_mem _ (List.mem_cons_of_mem _ (List.mem_cons_of_mem _ List.mem_cons_self)))))
                obtain ⟨y0, y1, y2, y3, y4, y5⟩ := HX.out.cells ⟨By, y, qy, Ay, ny, cy⟩ (List.mem_cons_of_mem _ (List.mem_cons_of_mem _ (List.mem_cons_of_mem _ (List.mem_cons_of_mem _ List.mem_cons_self))))
                go_wp2_with fail
                refine (run_div 6 (.inr (.inr rfl)) _ _ _ x y HY0.out (HX.out.args [⟨Bx, x, qx, Ax, nx, cx⟩, ⟨By, y, qy, Ay, ny, cy⟩] _ (by rfl) (List.forall_mem_cons.2 ⟨(List.mem_cons_of_mem _ (List.mem_cons_of_mem _ (List.mem_cons_of_mem _ (List.mem_cons_of_mem _ (List.mem_cons_of_mem _ List.mem_cons_self))))), (List.forall_mem_cons.2 ⟨(List.mem_cons_of_mem _ (List.mem_cons_of_mem _ (List.mem_cons_of_mem _ (List.mem_cons_of_mem _ List.mem_cons_self)))), (fun _ h => absurd h List.not_mem_nil)⟩)⟩) _ (by simp))).mono ?_
                rintro e w21 hre
                clear x0 x1 x2 x3 x4 x5 y0 y1 y2 y3 y4 y5
                rw [← HVE.out.1, if_pos HV.out.1] at hre
                obtain ⟨qv, Av, nv, cv, rfl, kk, hv⟩ := hre.good
                have HX1 := Lib.hid ((HX.out.keep (((Keep.refl _ _).alloc _).trans kk)).new hv)
                clear hv kk hre
                clear HX
                have HX := HX1
                clear HX1
                obtain ⟨x0, x1, x2, x3, x4, x5⟩ := HX.out.cells ⟨Bx, x, qx, Ax, nx, cx⟩ (List.mem_cons_of_mem _ (List.mem_cons_of_mem _ (List.mem_cons_of_mem _ (List.mem_cons_of_mem _ (List.mem_cons_of_mem _ (List.mem_cons_of_mem _ List.mem_cons_self))))))
                obtain ⟨v0, v1, v2, v3, v4, v5⟩ := HX.out.cells ⟨w21.heap.size, vm, qv, Av, nv, cv⟩ List.mem_cons_self
                go_wp2_with fail
                refine (run_sub _ _ _ x vm (HX.out.args [⟨Bx, x, qx, Ax, nx, cx⟩, ⟨w21.heap.size, vm, qv, Av, nv, cv⟩] _ (by rfl) (List.forall_mem_cons.2 ⟨(List.mem_cons_of_mem _ (List.mem_cons_of_mem _ (List.mem_cons_of_mem _ (List.mem_cons_of_mem _ (List.mem_cons_of_mem _ (List.mem_cons_of_mem _ List.mem_cons_self)))))), (List.forall_mem_cons.2 ⟨List.mem_cons_self, (fun _ h => absurd h List.not_mem_nil)⟩)⟩) _ (by simp))).mono ?_
                rintro e w22 hre
                clear x0 x1 x2 x3 x4 x5 v0 v1 v2 v3 v4 v5
                rw [← HVE.out.2] at hre
                by_cases hs : Fits vd
                · rw [if_pos hs] at hre
                  obtain ⟨qd, Ad, nd, cd, rfl, kk, hv⟩ := hre.good
                  have HX1 := Lib.hid ((HX.out.keep (((Keep.refl _ _).alloc _).trans kk)).new hv)
                  clear hv kk hre
                  clear HX
                  have HX := HX1
                  clear HX1
                  generalize w21.heap.size = Bv at HX ⊢
                  obtain ⟨d0, d1, d2, d3, d4, d5⟩ := HX.out.cells ⟨w22.heap.size, vd, qd, Ad, nd, cd⟩ List.mem_cons_self
                  obtain ⟨y0, y1, y2, y3, y4, y5⟩ := HX.out.cells ⟨By, y, qy, Ay, ny, cy⟩ (List.mem_cons_of_mem _ (List.mem_cons_of_mem _ (List.mem_cons_of_mem _ (List.mem_cons_of_mem _ (List.mem_cons_of_mem _ (List.mem_cons_of_mem _ List.mem_cons_self))))))
                  go_wp2_with fail
                  refine (run_div 5 (.inr (.inl rfl)) _ _ _ vd y HY0.out (HX.out.args [⟨w22.heap.size, vd, qd, Ad, nd, cd⟩, ⟨By, y, qy, Ay, ny, cy⟩] _ (by rfl) (List.forall_mem_cons.2 ⟨List.mem_cons_self, (List.forall_mem_cons.2 ⟨(List.mem_cons_of_mem _ (List.mem_cons_of_mem _ (List.mem_cons_of_mem _ (List.mem_cons_of_mem _ (List.mem_cons_of_mem _ (List.mem_cons_of_mem _ List.mem_cons_self)))))), (fun _ h => absurd h List.not_mem_nil)⟩)⟩) _ (by simp))).mono ?_
                  rintro e w23 hre
                  clear d0 d1 d2 d3 d4 d5 y0 y1 y2 y3 y4 y5
                  rw [HV.out.2.1, if_pos fits_zero] at hre
                  obtain ⟨qr, Ar, nr, cr, rfl, kk, hv⟩ := hre.good
                  have HX1 := Lib.hid ((HX.out.keep (((Keep.refl _ _).alloc _).trans kk)).new hv)
                  clear hv kk hre
                  clear HX
                  have HX := HX1
                  clear HX1
                  generalize w22.heap.size = Bd at HX ⊢
                  obtain ⟨t15r, ht15r⟩ : ∃ t, t = askB 15 (0) := ⟨_, rfl⟩
                  have Yt15r := Lib.hid (yes_ask 15 (by omega) (0) t15r ht15r)
                  have Ht15r := Lib.hid ht15r
                  clear ht15r
                  obtain ⟨t15v, ht15v⟩ : ∃ t, t = askB 15 vm := ⟨_, rfl⟩
                  have Yt15v := Lib.hid (yes_ask 15 (by omega) (vm) t15v ht15v)
                  have Ht15v := Lib.hid ht15v
                  clear ht15v
                  obtain ⟨t17v, ht17v⟩ : ∃ t, t = askB 17 vm := ⟨_, rfl⟩
                  have Yt17v := Lib.hid (yes_ask 17 (by omega) (vm) t17v ht17v)
                  have Ht17v := Lib.hid ht17v
                  clear ht17v
                  obtain ⟨t17y, ht17y⟩ : ∃ t, t = askB 17 y := ⟨_, rfl⟩
                  have Yt17y := Lib.hid (yes_ask 17 (by omega) (y) t17y ht17y)
                  have Ht17y := Lib.hid ht17y
                  clear ht17y
                  clear hs
                  go_upto_region 21 with fail
                  rename_i K9 hK9
                  generalize w23.heap.size = Br at HX ⊢
                  obtain ⟨g162, hg162⟩ : ∃ b : Bool, b = (0 == 0) := ⟨_, rfl⟩
                  have Hg162 := Lib.hid hg162
                  clear hg162
                  obtain ⟨g167, hg167⟩ : ∃ b : Bool, b = (g162 && t15r) := ⟨_, rfl⟩
                  have Hg167 := Lib.hid hg167
                  clear hg167
                  obtain ⟨g171, hg171⟩ : ∃ b : Bool, b = t15v := ⟨_, rfl⟩
                  have Hg171 := Lib.hid hg171
                  clear hg171
                  obtain ⟨g181, hg181⟩ : ∃ b : Bool, b = (g167 && (g171 || (t17v == t17y))) := ⟨_, rfl⟩
                  have Hg181 := Lib.hid hg181
                  clear hg181
                  have HE := Lib.hid (show (g181 || false) = true from by
                    have a1 : t15r = true := Ht15r.out
                    have a2 : (t15v || (t17v == t17y)) = true := by
                      rw [Ht15v.out, Ht17v.out, Ht17y.out, ask_15, ask_17, ask_17]
                      rcases HV.out.2.2 with h | h
                      · rw [decide_eq_true h]; rfl
                      · rw [h, beq_self_eq_true, Bool.or_true]
                    rw [Hg181.out, Hg167.out, Hg162.out, Hg171.out]
                    revert a2
                    rw [a1]
                    generalize t15v = b1
                    generalize t17v = b2
                    generalize t17y = b3
                    cases b1 <;> cases b2 <;> cases b3 <;> decide)
                  refine region_vals2 (by kernel_rfl) 25 25 (by decide) (by kernel_rfl) (by kernel_rfl) (by kernel_rfl) (fun i => (if i < 24 then 160 + i else 4)) (fun k => (Nat.ble 160 k && Nat.ble k 183) || Nat.beq k 4) (fun i _ j _ h => by have h2 : (if i < 24 then 160 + i else 4) = (if j < 24 then 160 + j else 4) := h; split at h2 <;> split at h2 <;> omega) (fun i hi => by show ((Nat.ble 160 (if i < 24 then 160 + i else 4) && Nat.ble (if i < 24 then 160 + i else 4) 183) || Nat.beq (if i < 24 then 160 + i else 4) 4) = true; simp only [Bool.or_eq_true, Bool.and_eq_true, Nat.ble_eq, Nat.beq_eq]; split <;> omega) (fun i hi => Nat.lt_of_lt_of_le (show (if i < 24 then 160 + i else 4) < 184 by split <;> omega) (Nat.le_of_ble_eq_true rfl)) (fun w' => Road w w' [⟨Br, 0, qr, Ar, nr, cr⟩, ⟨Bd, vd, qd, Ad, nd, cd⟩, ⟨Bv, vm, qv, Av, nv, cv⟩, ⟨Bb, (x.natAbs : Int), qb, Ab, nb, cb⟩, ⟨Bk, 0, qk, Ak, nk, ck⟩, ⟨Bm, (-x), qm, Am, nm, cm⟩, ⟨Bu, 1, qu, Au, nu, cu⟩, ⟨By, y, qy, Ay, ny, cy⟩, ⟨Bx, x, qx, Ax, nx, cx⟩]) (HX.out.keep (Keep.refl _ _).drew) (fun _ => false) (fun i => (([Sp.val true (.int .i64 0), Sp.val true (.bool (0 == 0)), Sp.val true (.bool g162), Sp.val (g162) (datV 4 qr Ar nr cr ⟨#[]⟩), Sp.row (g162) 1 [0], Sp.val (g162) (.bool t15r), Sp.val true (.bool (g162 && t15r)), Sp.val true (.bool g167), Sp.val (g167) (datV 4 qv Av nv cv ⟨#[]⟩), Sp.row (g167) 1 [vm], Sp.val (g167) (.bool t15v), Sp.val (g167) (.bool g171), Sp.val (g167 && !g171) (datV 4 qv Av nv cv ⟨#[]⟩), Sp.row (g167 && !g171) 1 [vm], Sp.val (g167 && !g171) (.bool t17v), Sp.val (g167 && !g171) (datV 4 qy Ay ny cy ⟨#[]⟩), Sp.row (g167 && !g171) 1 [y], Sp.val (g167 && !g171) (.bool t17y), Sp.val (g167 && !g171) (.bool (t17v == t17y)), Sp.val (g167) (.bool (g171 || (t17v == t17y))), Sp.val true (.bool (g167 && (g171 || (t17v == t17y)))), Sp.val true (.bool g181), Sp.val (g181) (.bool true), Sp.val true (.bool (g181 || false)), Sp.val true (.bool (g181 || false))] : List Sp).getD i (Sp.val false undef)).T) (fun i => Sp.mono _) (fun i hi a w hG hf hT K hK0 => (fun hK => match i, hi, hT, hK with
                    | 0, _, hT, hK => by
                      exact op_run rfl rfl (exec_move rfl) (hK _ _ hG (Keep.refl _ _) (hf 20 rfl))
                    | 1, _, hT, hK => by
                      have e0 : a.tmps.getD 160 undef = .int .i64 0 := hT 0 (by kernel_rfl)
                      exact op_run rfl rfl (exec_eqi rfl e0 rfl) (hK _ _ hG (Keep.refl _ _) rfl)
                    | 2, _, hT, hK => by
                      have e0 : a.tmps.getD 161 undef = .bool (0 == 0) := hT 1 (by kernel_rfl)
                      exact op_run rfl rfl (exec_move rfl) (hK _ _ hG (Keep.refl _ _) (e0.trans (by rw [Hg162.out]; rfl)))
                    | 3, _, hT, hK => by
                      have e9 : a.tmps.getD 162 undef = .bool g162 := hT 2 (by kernel_rfl)
                      cases g162
                      case false => exact op_shut rfl (want_off (k := 2) (s := 162) (b := true) rfl rfl e9) (hK _ _ hG (Keep.refl _ _) rfl)
                      case true =>
                        exact op_run rfl (want_on (k := 2) (s := 162) (b := true) rfl rfl e9) (exec_load (b := ⟨Br, 0, qr, Ar, nr, cr⟩) rfl (hf 19 rfl) hG List.mem_cons_self) (hK _ _ hG (Keep.refl _ _) rfl)
                    | 4, _, hT, hK => by
                      have e9 : a.tmps.getD 162 undef = .bool g162 := hT 2 (by kernel_rfl)
                      cases g162
                      case false => exact op_shut rfl (want_off (k := 2) (s := 162) (b := true) rfl rfl e9) (hK _ _ hG (Keep.refl _ _) rfl)
                      case true =>
                        have e0 : a.tmps.getD 163 undef = datV 4 qr Ar nr cr ⟨#[]⟩ := hT 3 (by kernel_rfl)
                        exact op_run rfl (want_on (k := 2) (s := 162) (b := true) rfl rfl e9) (exec_row1 rfl e0) (hK _ _ (hG.keep ((Keep.refl _ _).alloc _)) ((Keep.refl _ _).alloc _) ⟨_, rfl, hG.args [⟨Br, 0, qr, Ar, nr, cr⟩] _ rfl (List.forall_mem_cons.2 ⟨List.mem_cons_self, (fun _ h => absurd h List.not_mem_nil)⟩) _ rfl⟩)
                    | 5, _, hT, hK => by
                      have e9 : a.tmps.getD 162 undef = .bool g162 := hT 2 (by kernel_rfl)
                      cases g162
                      case false => exact op_shut rfl (want_off (k := 2) (s := 162) (b := true) rfl rfl e9) (hK _ _ hG (Keep.refl _ _) rfl)
                      case true =>
                        obtain ⟨R164, e1, ha⟩ : ∃ R, a.tmps.getD 164 undef = .slice (some ⟨R, 0, none⟩) 1 1 ∧ ArgsR w (some ⟨R, 0, none⟩) [0] := hT 4 (by kernel_rfl)
                        refine op_call rfl (want_on (k := 2) (s := 162) (b := true) rfl rfl e9) (exec_call2 call12 rfl rfl rfl rfl e1) (Yt15r.out _ _ _ ha) (fun e w2 he => ?_)
                        obtain ⟨rfl, kk⟩ := he
                        exact ⟨_, rfl, hK _ _ (hG.keep kk) kk rfl⟩
                    | 6, _, hT, hK => by
                      have e0 : a.tmps.getD 162 undef = .bool g162 := hT 2 (by kernel_rfl)
                      have e1 : a.tmps.getD 165 undef = bif g162 then .bool t15r else undef := hT 5 (by kernel_rfl)
                      refine op_run rfl rfl (exec_pick rfl e0) (hK _ _ hG (Keep.refl _ _) ?_)
                      show (bif g162 then a.tmps.getD 165 undef else .bool false) = .bool (g162 && t15r)
                      rw [e1, Hg162.out]
                      cases g162 <;> cases t15r <;> rfl
                    | 7, _, hT, hK => by
                      have e0 : a.tmps.getD 166 undef = .bool (g162 && t15r) := hT 6 (by kernel_rfl)
                      exact op_run rfl rfl (exec_move rfl) (hK _ _ hG (Keep.refl _ _) (e0.trans (by rw [Hg167.out]; rfl)))
                    | 8, _, hT, hK => by
                      have e9 : a.tmps.getD 167 undef = .bool g167 := hT 7 (by kernel_rfl)
                      cases g167
                      case false => exact op_shut rfl (want_off (k := 7) (s := 167) (b := true) rfl rfl e9) (hK _ _ hG (Keep.refl _ _) rfl)
                      case true =>
                        exact op_run rfl (want_on (k := 7) (s := 167) (b := true) rfl rfl e9) (exec_load (b := ⟨Bv, vm, qv, Av, nv, cv⟩) rfl (hf 15 rfl) hG (List.mem_cons_of_mem _ (List.mem_cons_of_mem _ List.mem_cons_self))) (hK _ _ hG (Keep.refl _ _) rfl)
                    | 9, _, hT, hK => by
                      have e9 : a.tmps.getD 167 undef = .bool g167 := hT 7 (by kernel_rfl)
                      cases g167
                      case false => exact op_shut rfl (want_off (k := 7) (s := 167) (b := true) rfl rfl e9) (hK _ _ hG (Keep.refl _ _) rfl)
                      case true =>
                        have e0 : a.tmps.getD 168 undef = datV 4 qv Av nv cv ⟨#[]⟩ := hT 8 (by kernel_rfl)
                        exact op_run rfl (want_on (k := 7) (s := 167) (b := true) rfl rfl e9) (exec_row1 rfl e0) (hK _ _ (hG.keep ((Keep.refl _ _).alloc _)) ((Keep.refl _ _).alloc _) ⟨_, rfl, hG.args [⟨Bv, vm, qv, Av, nv, cv⟩] _ rfl (List.forall_mem_cons.2 ⟨(List.mem_cons_of_mem _ (List.mem_cons_of_mem _ List.mem_cons_self)), (fun _ h => absurd h List.not_mem_nil)⟩) _ rfl⟩)
                    | 10, _, hT, hK => by
                      have e9 : a.tmps.getD 167 undef = .bool g167 := hT 7 (by kernel_rfl)
                      cases g167
                      case false => exact op_shut rfl (want_off (k := 7) (s := 167) (b := true) rfl rfl e9) (hK _ _ hG (Keep.refl _ _) rfl)
                      case true =>
                        obtain ⟨R169, e1, ha⟩ : ∃ R, a.tmps.getD 169 undef = .slice (some ⟨R, 0, none⟩) 1 1 ∧ ArgsR w (some ⟨R, 0, none⟩) [vm] := hT 9 (by kernel_rfl)
                        refine op_call rfl (want_on (k := 7) (s := 167) (b := true) rfl rfl e9) (exec_call2 call12 rfl rfl rfl rfl e1) (Yt15v.out _ _ _ ha) (fun e w2 he => ?_)
                        obtain ⟨rfl, kk⟩ := he
                        exact ⟨_, rfl, hK _ _ (hG.keep kk) kk rfl⟩
                    | 11, _, hT, hK => by
                      have e9 : a.tmps.getD 167 undef = .bool g167 := hT 7 (by kernel_rfl)
                      cases g167
                      case false => exact op_shut rfl (want_off (k := 7) (s := 167) (b := true) rfl rfl e9) (hK _ _ hG (Keep.refl _ _) rfl)
                      case true =>
                        have e0 : a.tmps.getD 170 undef = .bool t15v := hT 10 (by kernel_rfl)
                        exact op_run rfl (want_on (k := 7) (s := 167) (b := true) rfl rfl e9) (exec_move rfl) (hK _ _ hG (Keep.refl _ _) (e0.trans (by rw [Hg171.out]; rfl)))
                    | 12, _, hT, hK => by
                      cases g167
                      case false =>
                        have e9 : a.tmps.getD 171 undef = undef := hT 11 (by kernel_rfl)
                        exact op_shut rfl (want_none (k := 11) (s := 171) (b := false) rfl rfl e9) (hK _ _ hG (Keep.refl _ _) rfl)
                      case true =>
                        have e9 : a.tmps.getD 171 undef = .bool g171 := hT 11 (by kernel_rfl)
                        cases g171
                        case true => exact op_shut rfl (want_off (k := 11) (s := 171) (b := false) rfl rfl e9) (hK _ _ hG (Keep.refl _ _) rfl)
                        case false =>
                          exact op_run rfl (want_on (k := 11) (s := 171) (b := false) rfl rfl e9) (exec_load (b := ⟨Bv, vm, qv, Av, nv, cv⟩) rfl (hf 15 rfl) hG (List.mem_cons_of_mem _ (List.mem_cons_of_mem _ List.mem_cons_self))) (hK _ _ hG (Keep.refl _ _) rfl)
                    | 13, _, hT, hK => by
                      cases g167
                      case false =>
                        have e9 : a.tmps.getD 171 undef = undef := hT 11 (by kernel_rfl)
                        exact op_shut rfl (want_none (k := 11) (s := 171) (b := false) rfl rfl e9) (hK _ _ hG (Keep.refl _ _) rfl)
                      case true =>
                        have e9 : a.tmps.getD 171 undef = .bool g171 := hT 11 (by kernel_rfl)
                        cases g171
                        case true => exact op_shut rfl (want_off (k := 11) (s := 171) (b := false) rfl rfl e9) (hK _ _ hG (Keep.refl _ _) rfl)
                        case false =>
                          have e0 : a.tmps.getD 172 undef = datV 4 qv Av nv cv ⟨#[]⟩ := hT 12 (by kernel_rfl)
                          exact op_run rfl (want_on (k := 11) (s := 171) (b := false) rfl rfl e9) (exec_row1 rfl e0) (hK _ _ (hG.keep ((Keep.refl _ _).alloc _)) ((Keep.refl _ _).alloc _) ⟨_, rfl, hG.args [⟨Bv, vm, qv, Av, nv, cv⟩] _ rfl (List.forall_mem_cons.2 ⟨(List.mem_cons_of_mem _ (List.mem_cons_of_mem _ List.mem_cons_self)), (fun _ h => absurd h List.not_mem_nil)⟩) _ rfl⟩)
                    | 14, _, hT, hK => by
                      cases g167
                      case false =>
                        have e9 : a.tmps.getD 171 undef = undef := hT 11 (by kernel_rfl)
                        exact op_shut rfl (want_none (k := 11) (s := 171) (b := false) rfl rfl e9) (hK _ _ hG (Keep.refl _ _) rfl)
                      case true =>
                        have e9 : a.tmps.getD 171 undef = .bool g171 := hT 11 (by kernel_rfl)
                        cases g171
                        case true => exact op_shut rfl (want_off (k := 11) (s := 171) (b := false) rfl rfl e9) (hK _ _ hG (Keep.refl _ _) rfl)
                        case false =>
                          obtain ⟨R173, e1, ha⟩ : ∃ R, a.tmps.getD 173 undef = .slice (some ⟨R, 0, none⟩) 1 1 ∧ ArgsR w (some ⟨R, 0, none⟩) [vm] := hT 13 (by kernel_rfl)
                          refine op_call rfl (want_on (k := 11) (s := 171) (b := false) rfl rfl e9) (exec_call2 call12 rfl rfl rfl rfl e1) (Yt17v.out _ _ _ ha) (fun e w2 he => ?_)
                          obtain ⟨rfl, kk⟩ := he
                          exact ⟨_, rfl, hK _ _ (hG.keep kk) kk rfl⟩
                    | 15, _, hT, hK => by
                      cases g167
                      case false =>
                        have e9 : a.tmps.getD 171 undef = undef := hT 11 (by kernel_rfl)
                        exact op_shut rfl (want_none (k := 11) (s := 171) (b := false) rfl rfl e9) (hK _ _ hG (Keep.refl _ _) rfl)
                      case true =>
                        have e9 : a.tmps.getD 171 undef = .bool g171 := hT 11 (by kernel_rfl)
                        cases g171
                        case true => exact op_shut rfl (want_off (k := 11) (s := 171) (b := false) rfl rfl e9) (hK _ _ hG (Keep.refl _ _) rfl)
                        case false =>
                          exact op_run rfl (want_on (k := 11) (s := 171) (b := false) rfl rfl e9) (exec_load (b := ⟨By, y, qy, Ay, ny, cy⟩) rfl (hf 6 rfl) hG (List.mem_cons_of_mem _ (List.mem_cons_of_mem _ (List.mem_cons_of_mem _ (List.mem_cons_of_mem _ (List.mem_cons_of_mem _ (List.mem_cons_of_mem _ (List.mem_cons_of_mem _ List.mem_cons_self)))))))) (hK _ _ hG (Keep.refl _ _) rfl)
                    | 16, _, hT, hK => by
                      cases g167
                      case false =>
                        have e9 : a.tmps.getD 171 undef = undef := hT 11 (by kernel_rfl)
                        exact op_shut rfl (want_none (k := 11) (s := 171) (b := false) rfl rfl e9) (hK _ _ hG (Keep.refl _ _) rfl)
                      case true =>
                        have e9 : a.tmps.getD 171 undef = .bool g171 := hT 11 (by kernel_rfl)
                        cases g171
                        case true => exact op_shut rfl (want_off (k := 11) (s := 171) (b := false) rfl rfl e9) (hK _ _ hG (Keep.refl _ _) rfl)
                        case false =>
                          have e0 : a.tmps.getD 175 undef = datV 4 qy Ay ny cy ⟨#[]⟩ := hT 15 (by kernel_rfl)
                          exact op_run rfl (want_on (k := 11) (s := 171) (b := false) rfl rfl e9) (exec_row1 rfl e0) (hK _ _ (hG.keep ((Keep.refl _ _).alloc _)) ((Keep.refl _ _).alloc _) ⟨_, rfl, hG.args [⟨By, y, qy, Ay, ny, cy⟩] _ rfl (List.forall_mem_cons.2 ⟨(List.mem_cons_of_mem _ (List.mem_cons_of_mem _ (List.mem_cons_of_mem _ (List.mem_cons_of_mem _ (List.mem_cons_of_mem _ (List.mem_cons_of_mem _ (List.mem_cons_of_mem _ List.mem_cons_self))))))), (fun _ h => absurd h List.not_mem_nil)⟩) _ rfl⟩)
                    | 17, _, hT, hK => by
                      cases g167
                      case false =>
                        have e9 : a.tmps.getD 171 undef = undef := hT 11 (by kernel_rfl)
                        exact op_shut rfl (want_none (k := 11) (s := 171) (b := false) rfl rfl e9) (hK _ _ hG (Keep.refl _ _) rfl)
                      case true =>
                        have e9 : a.tmps.getD 171 undef = .bool g171 := hT 11 (by kernel_rfl)
                        cases g171
                        case true => exact op_shut rfl (want_off (k := 11) (s := 171) (b := false) rfl rfl e9) (hK _ _ hG (Keep.refl _ _) rfl)
                        case false =>
                          obtain ⟨R176, e1, ha⟩ : ∃ R, a.tmps.getD 176 undef = .slice (some ⟨R, 0, none⟩) 1 1 ∧ ArgsR w (some ⟨R, 0, none⟩) [y] := hT 16 (by kernel_rfl)
                          refine op_call rfl (want_on (k := 11) (s := 171) (b := false) rfl rfl e9) (exec_call2 call12 rfl rfl rfl rfl e1) (Yt17y.out _ _ _ ha) (fun e w2 he => ?_)
                          obtain ⟨rfl, kk⟩ := he
                          exact ⟨_, rfl, hK _ _ (hG.keep kk) kk rfl⟩
                    | 18, _, hT, hK => by
                      cases g167
                      case false =>
                        have e9 : a.tmps.getD 171 undef = undef := hT 11 (by kernel_rfl)
                        exact op_shut rfl (want_none (k := 11) (s := 171) (b := false) rfl rfl e9) (hK _ _ hG (Keep.refl _ _) rfl)
                      case true =>
                        have e9 : a.tmps.getD 171 undef = .bool g171 := hT 11 (by kernel_rfl)
                        cases g171
                        case true => exact op_shut rfl (want_off (k := 11) (s := 171) (b := false) rfl rfl e9) (hK _ _ hG (Keep.refl _ _) rfl)
                        case false =>
                          have e0 : a.tmps.getD 174 undef = .bool t17v := hT 14 (by kernel_rfl)
                          have e1 : a.tmps.getD 177 undef = .bool t17y := hT 17 (by kernel_rfl)
                          exact op_run rfl (want_on (k := 11) (s := 171) (b := false) rfl rfl e9) (exec_eql rfl e0 e1) (hK _ _ hG (Keep.refl _ _) rfl)
                    | 19, _, hT, hK => by
                      have e9 : a.tmps.getD 167 undef = .bool g167 := hT 7 (by kernel_rfl)
                      cases g167
                      case false => exact op_shut rfl (want_off (k := 7) (s := 167) (b := true) rfl rfl e9) (hK _ _ hG (Keep.refl _ _) rfl)
                      case true =>
                        have e0 : a.tmps.getD 171 undef = .bool g171 := hT 11 (by kernel_rfl)
                        have e1 : a.tmps.getD 178 undef = bif !g171 then .bool (t17v == t17y) else undef := hT 18 (by kernel_rfl)
                        refine op_run rfl (want_on (k := 7) (s := 167) (b := true) rfl rfl e9) (exec_pick rfl e0) (hK _ _ hG (Keep.refl _ _) ?_)
                        show (bif g171 then .bool true else a.tmps.getD 178 undef) = .bool (g171 || (t17v == t17y))
                        rw [e1, Hg171.out]
                        cases g171 <;> cases t15v <;> cases t17v <;> cases t17y <;> rfl
                    | 20, _, hT, hK => by
                      have e0 : a.tmps.getD 167 undef = .bool g167 := hT 7 (by kernel_rfl)
                      have e1 : a.tmps.getD 179 undef = bif g167 then .bool (g171 || (t17v == t17y)) else undef := hT 19 (by kernel_rfl)
                      refine op_run rfl rfl (exec_pick rfl e0) (hK _ _ hG (Keep.refl _ _) ?_)
                      show (bif g167 then a.tmps.getD 179 undef else .bool false) = .bool (g167 && (g171 || (t17v == t17y)))
                      rw [e1, Hg167.out]
                      cases g162 <;> cases g167 <;> cases g171 <;> cases t15r <;> cases t17v <;> cases t17y <;> rfl
                    | 21, _, hT, hK => by
                      have e0 : a.tmps.getD 180 undef = .bool (g167 && (g171 || (t17v == t17y))) := hT 20 (by kernel_rfl)
                      exact op_run rfl rfl (exec_move rfl) (hK _ _ hG (Keep.refl _ _) (e0.trans (by rw [Hg181.out]; rfl)))
                    | 22, _, hT, hK => by
                      have e9 : a.tmps.getD 181 undef = .bool g181 := hT 21 (by kernel_rfl)
                      cases g181
                      case false => exact op_shut rfl (want_off (k := 21) (s := 181) (b := true) rfl rfl e9) (hK _ _ hG (Keep.refl _ _) rfl)
                      case true =>
                        refine op_call rfl (want_on (k := 21) (s := 181) (b := true) rfl rfl e9) (exec_call0 call8 rfl rfl rfl) (awake_any w) (fun e w2 he => ?_)
                        obtain ⟨rfl, kk⟩ := he
                        exact ⟨_, rfl, hK _ _ (hG.keep kk) kk rfl⟩
                    | 23, _, hT, hK => by
                      have e0 : a.tmps.getD 181 undef = .bool g181 := hT 21 (by kernel_rfl)
                      have e1 : a.tmps.getD 182 undef = bif g181 then .bool true else undef := hT 22 (by kernel_rfl)
                      refine op_run rfl rfl (exec_pick rfl e0) (hK _ _ hG (Keep.refl _ _) ?_)
                      show (bif g181 then a.tmps.getD 182 undef else .bool false) = .bool (g181 || false)
                      rw [e1, Hg181.out]
                      cases g167 <;> cases g171 <;> cases g181 <;> cases t17v <;> cases t17y <;> rfl
                    | 24, _, hT, hK => by
                      have e0 : a.tmps.getD 183 undef = .bool (g181 || false) := hT 23 (by kernel_rfl)
                      exact op_run rfl rfl (exec_assign rfl) (hK _ _ hG (Keep.refl _ _) e0)
                    | m + 25, h, _, _ => absurd h (by omega)
                  ) (fun v w2 h1 h2 h3 => hK0 v w2 h1 h2 h3 (fun h => by cases h))) (fun a w hG hT _ hmix => ⟨by kernel_rfl, ?_⟩)
                  have eL : a.tmps.getD 4 undef = .bool (g181 || false) := hT 24 (by decide)
                  rw [HE.out, Array.getD_eq_getD_getElem?] at eL
                  have hde : a.defers = [] := (congrArg Act.defers hmix).trans rfl
                  clear hmix
                  refine hK9 _ _ (wp_ret (bodyPost_ret (v := .bool true) ?_ hde ⟨rfl, hG.K⟩))
                  simp [results, Tryz.results6, go_sem, eL]
                · rw [if_neg hs] at hre
                  obtain ⟨ko, qo, Ao, no, co, rfl, kk, hw⟩ := hre.any
                  have HX1 := Lib.hid ((HX.out.keep (((Keep.refl _ _).alloc _).trans kk)).other (datC ko qo Ao no co ⟨#[]⟩))
                  clear kk hw hre
                  clear HX
                  have HX := HX1
                  clear HX1
                  generalize w21.heap.size = Bv at HX ⊢
                  go_wp2_with fail
                  refine (awake_any _).mono ?_
                  rintro e w5 ⟨rfl, k5⟩
                  have HK5 := Lib.hid (HX.out.K.trans k5)
                  clear k5
                  go_wp2_with fail
                  go_ret
                  exact ⟨rfl, HK5.out⟩
end Go.Proofs.YtkjocmenpccooaaGreatDoor
