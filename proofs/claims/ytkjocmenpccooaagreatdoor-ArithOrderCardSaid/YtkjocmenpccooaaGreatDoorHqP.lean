/-
  The law ArithOrder: its walk.
-/
import Derived.Test.YtkjocmenpccooaaGreatDoorHqQ
namespace Go.Proofs.YtkjocmenpccooaaGreatDoor
open Go.RowKit

/-- Is it one of the first i? -/
def anyB (v x y z : Int) : Nat → Bool
  | 0 => false
  | 1 => decide (v = x)
  | 2 => decide (v = x) || decide (v = y)
  | _ => (decide (v = x) || decide (v = y)) || decide (v = z)
theorem anyB_three {v x y z : Int} (h : v = x ∨ v = y ∨ v = z) : anyB v x y z 3 = true := by
  show ((decide (v = x) || decide (v = y)) || decide (v = z)) = true
  rcases h with h | h | h
  · rw [decide_eq_true h]; rfl
  · rw [decide_eq_true h, Bool.or_true]; rfl
  · rw [decide_eq_true h, Bool.or_true]
set_option maxRecDepth 100000 in
set_option maxHeartbeats 40000000 in
theorem ordlaw_any (w : World) (qx : Bool) (Ax : Option Addr) (nx cx : Nat) (lx : List Nat) (qy : Bool) (Ay : Option Addr) (ny cy : Nat) (ly : List Nat) (qz : Bool) (Az : Option Addr) (nz cz : Nat) (lz : List Nat)
    (h1 : nx ≤ 60 → LimbsAt w Ax nx cx lx) (h2 : ny ≤ 60 → LimbsAt w Ay ny cy ly) (h3 : nz ≤ 60 → LimbsAt w Az nz cz lz) :
    Calls Tryz.prog 4 #[numArg qx Ax nx cx, numArg qy Ay ny cy, numArg qz Az nz cz] w (BoolPost true w) := by
  have HL := Lib.hid (And.intro h1 (And.intro h2 h3))
  clear h1 h2 h3
  obtain ⟨wa, hwa⟩ : ∃ wa, wa = ((w.alloc (.cells #[.bool qx, .slice Ax nx cx] 24)).alloc (.cells #[.bool qy, .slice Ay ny cy] 24)).alloc (.cells #[.bool qz, .slice Az nz cz] 24) := ⟨_, rfl⟩
  have HR3 := Lib.hid (boxes_three w (.bool qx) (.slice Ax nx cx) (.bool qy) (.slice Ay ny cy) (.bool qz) (.slice Az nz cz))
  rw [← hwa] at HR3
  have HKA := Lib.hid (show Keep (fun _ => False) w wa from by rw [hwa]; exact (((Keep.refl _ _).alloc _).alloc _).alloc _)
  go_enter Tryz.func4, Tryz.ntmps4
  go_upto_region 1 with fail
  rw [← hwa]
  clear hwa
  go_cut [7, 8, 9] from 19 (fun v7 v8 v9 wy => ∃ (Bx By Bz : Nat), v7 = .pointer (some ⟨Bx, 0, none⟩) ∧ v8 = .pointer (some ⟨By, 0, none⟩) ∧ v9 = .pointer (some ⟨Bz, 0, none⟩) ∧ Raw3 w wy ⟨qx, lx, ⟨Ax, nx, cx⟩⟩ ⟨qy, ly, ⟨Ay, ny, cy⟩⟩ ⟨qz, lz, ⟨Az, nz, cz⟩⟩ Bx By Bz)
  case first =>
    rename_i J K hJ hK
    have HG := Lib.hid (show Keep (fun _ => False) wa wa.drew from (Keep.refl _ _).drew)
    refine region_vals2 (by kernel_rfl) 12 9 (by decide) (by kernel_rfl) (by kernel_rfl) (by kernel_rfl) (fun i => if i < 6 then 19 + i else i + 1) (fun k => (Nat.ble 7 k && Nat.ble k 9) || (Nat.ble 19 k && Nat.ble k 24)) (fun i _ j _ h => by have h2 : (if i < 6 then 19 + i else i + 1) = (if j < 6 then 19 + j else j + 1) := h; split at h2 <;> split at h2 <;> omega) (fun i hi => by show ((Nat.ble 7 (if i < 6 then 19 + i else i + 1) && Nat.ble (if i < 6 then 19 + i else i + 1) 9) || (Nat.ble 19 (if i < 6 then 19 + i else i + 1) && Nat.ble (if i < 6 then 19 + i else i + 1) 24)) = true; simp only [Bool.or_eq_true, Bool.and_eq_true, Nat.ble_eq]; split <;> omega) (fun i hi => Nat.lt_of_lt_of_le (show (if i < 6 then 19 + i else i + 1) < 25 by split <;> omega) (Nat.le_of_ble_eq_true rfl)) (fun w' => Keep (fun _ => False) wa w') HG.out (fun i => Nat.ble 6 i && Nat.ble i 8) (fun i => (([Sp.val true (numArg qx Ax nx cx), Sp.val true (datV 4 qx Ax nx cx ⟨#[]⟩), Sp.val true (numArg qy Ay ny cy), Sp.val true (datV 4 qy Ay ny cy ⟨#[]⟩), Sp.val true (numArg qz Az nz cz), Sp.val true (datV 4 qz Az nz cz ⟨#[]⟩), Sp.box wa.heap.size, Sp.box wa.heap.size, Sp.box wa.heap.size] : List Sp).getD i (Sp.val false undef)).T) (fun i => Sp.mono _) (fun i hi => match i, hi with
      | 0, _ => by
        intro a w1 hG hf hT K hK
        obtain ⟨r1, r2, r3⟩ := HR3.out
        obtain ⟨e0, e1⟩ := pair_cells (hG.heap r1 id)
        exact op_run rfl rfl (exec_load24 rfl (hf 3 rfl) e0 e1) (hK _ _ hG (Keep.refl _ _) rfl (fun h => by cases h))
      | 1, _ => by
        intro a w1 hG hf hT K hK
        have e0 : a.tmps.getD 19 undef = numArg qx Ax nx cx := hT 0 (by kernel_rfl)
        refine op_call rfl rfl (exec_call1 call11 rfl rfl rfl e0) (num_any11 w1 qx Ax nx cx) (fun e w2 he => ?_)
        obtain ⟨rfl, kk⟩ := he
        exact ⟨_, rfl, hK _ _ (hG.trans kk) kk rfl (fun h => by cases h)⟩
      | 2, _ => by
        intro a w1 hG hf hT K hK
        obtain ⟨r1, r2, r3⟩ := HR3.out
        obtain ⟨e0, e1⟩ := pair_cells (hG.heap r2 id)
        exact op_run rfl rfl (exec_load24 rfl (hf 4 rfl) e0 e1) (hK _ _ hG (Keep.refl _ _) rfl (fun h => by cases h))
      | 3, _ => by
        intro a w1 hG hf hT K hK
        have e0 : a.tmps.getD 21 undef = numArg qy Ay ny cy := hT 2 (by kernel_rfl)
        refine op_call rfl rfl (exec_call1 call11 rfl rfl rfl e0) (num_any11 w1 qy Ay ny cy) (fun e w2 he => ?_)
        obtain ⟨rfl, kk⟩ := he
        exact ⟨_, rfl, hK _ _ (hG.trans kk) kk rfl (fun h => by cases h)⟩
      | 4, _ => by
        intro a w1 hG hf hT K hK
        obtain ⟨r1, r2, r3⟩ := HR3.out
        obtain ⟨e0, e1⟩ := pair_cells (hG.heap r3 id)
        exact op_run rfl rfl (exec_load24 rfl (hf 5 rfl) e0 e1) (hK _ _ hG (Keep.refl _ _) rfl (fun h => by cases h))
      | 5, _ => by
        intro a w1 hG hf hT K hK
        have e0 : a.tmps.getD 23 undef = numArg qz Az nz cz := hT 4 (by kernel_rfl)
        refine op_call rfl rfl (exec_call1 call11 rfl rfl rfl e0) (num_any11 w1 qz Az nz cz) (fun e w2 he => ?_)
        obtain ⟨rfl, kk⟩ := he
        exact ⟨_, rfl, hK _ _ (hG.trans kk) kk rfl (fun h => by cases h)⟩
      | 6, _ => by
        intro a w1 hG hf hT K hK
        refine op_run rfl rfl (exec_alloc rfl) (hK _ _ (hG.alloc _) ((Keep.refl _ _).alloc _) ⟨_, rfl, hG.size, heap_alloc_new w1 _⟩ (fun _ j u hj hu => ?_))
        have hj2 : (Nat.ble 6 j && Nat.ble j 8) = true := hj
        rw [Bool.and_eq_true, Nat.ble_eq, Nat.ble_eq] at hj2
        rcases (by omega : j = 6 ∨ j = 7 ∨ j = 8) with rfl | rfl | rfl
        all_goals exact box_fresh (s := wa.heap.size) hu
      | 7, _ => by
        intro a w1 hG hf hT K hK
        refine op_run rfl rfl (exec_alloc rfl) (hK _ _ (hG.alloc _) ((Keep.refl _ _).alloc _) ⟨_, rfl, hG.size, heap_alloc_new w1 _⟩ (fun _ j u hj hu => ?_))
        have hj2 : (Nat.ble 6 j && Nat.ble j 8) = true := hj
        rw [Bool.and_eq_true, Nat.ble_eq, Nat.ble_eq] at hj2
        rcases (by omega : j = 6 ∨ j = 7 ∨ j = 8) with rfl | rfl | rfl
        all_goals exact box_fresh (s := wa.heap.size) hu
      | 8, _ => by
        intro a w1 hG hf hT K hK
        refine op_run rfl rfl (exec_alloc rfl) (hK _ _ (hG.alloc _) ((Keep.refl _ _).alloc _) ⟨_, rfl, hG.size, heap_alloc_new w1 _⟩ (fun _ j u hj hu => ?_))
        have hj2 : (Nat.ble 6 j && Nat.ble j 8) = true := hj
        rw [Bool.and_eq_true, Nat.ble_eq, Nat.ble_eq] at hj2
        rcases (by omega : j = 6 ∨ j = 7 ∨ j = 8) with rfl | rfl | rfl
        all_goals exact box_fresh (s := wa.heap.size) hu
      | m + 9, h => absurd h (by omega)) (fun a w1 hG hT hne hmix => ?_)
    obtain ⟨Bx, ex, sx, rx⟩ : ∃ B, a.tmps.getD 7 undef = .pointer (some ⟨B, 0, none⟩) ∧ wa.heap.size ≤ B ∧ w1.heap[B]? = some (datC 0 false none 0 0 ⟨#[]⟩) := hT 6 (by decide)
    have vx : a.tmps.getD 20 undef = datV 4 qx Ax nx cx ⟨#[]⟩ := hT 1 (by decide)
    obtain ⟨By, ey, sy, ry⟩ : ∃ B, a.tmps.getD 8 undef = .pointer (some ⟨B, 0, none⟩) ∧ wa.heap.size ≤ B ∧ w1.heap[B]? = some (datC 0 false none 0 0 ⟨#[]⟩) := hT 7 (by decide)
    have vy : a.tmps.getD 22 undef = datV 4 qy Ay ny cy ⟨#[]⟩ := hT 3 (by decide)
    obtain ⟨Bz, ez, sz, rz⟩ : ∃ B, a.tmps.getD 9 undef = .pointer (some ⟨B, 0, none⟩) ∧ wa.heap.size ≤ B ∧ w1.heap[B]? = some (datC 0 false none 0 0 ⟨#[]⟩) := hT 8 (by decide)
    have vz : a.tmps.getD 24 undef = datV 4 qz Az nz cz ⟨#[]⟩ := hT 5 (by decide)
    have nxy : Bx ≠ By := fun e => hne 6 7 (by decide) (by decide) (by decide) (by decide) (by decide) (by show a.tmps.getD 7 undef = a.tmps.getD 8 undef; rw [ex, ey, e])
    have nxz : Bx ≠ Bz := fun e => hne 6 8 (by decide) (by decide) (by decide) (by decide) (by decide) (by show a.tmps.getD 7 undef = a.tmps.getD 9 undef; rw [ex, ez, e])
    have nyz : By ≠ Bz := fun e => hne 7 8 (by decide) (by decide) (by decide) (by decide) (by decide) (by show a.tmps.getD 8 undef = a.tmps.getD 9 undef; rw [ey, ez, e])
    refine any_one (i := 9) (by kernel_rfl) (op_skip rfl rfl (exec_store rfl ex vx rx) ?_)
    refine any_one (i := 10) (by kernel_rfl) (op_skip rfl rfl (exec_store rfl ey vy (six_far ry nxy _ _ _ _ _ _)) ?_)
    refine any_one (i := 11) (by kernel_rfl) (op_skip rfl rfl (exec_store rfl ez vz (six_far (six_far rz nxz _ _ _ _ _ _) nyz _ _ _ _ _ _)) ?_)
    refine ⟨by kernel_rfl, ?_⟩
    have K3 := six_keep (six_keep (six_keep hG sx (.int .i64 4) (.int .i32 0) (.bool qx) (.slice Ax nx cx) (.string ⟨#[]⟩) (.slice none 0 0)) sy (.int .i64 4) (.int .i32 0) (.bool qy) (.slice Ay ny cy) (.string ⟨#[]⟩) (.slice none 0 0)) sz (.int .i64 4) (.int .i32 0) (.bool qz) (.slice Az nz cz) (.string ⟨#[]⟩) (.slice none 0 0)
    show Exit.then _ _ .normal a _
    rw [hmix]
    refine hK _ _ (Met.intro (hJ _ _ ?_))
    repeat apply Exists.intro
    refine ⟨?rel, rfl⟩
    case rel =>
      refine ⟨Bx, By, Bz, ex, ey, ez, raw3_of HKA.out K3 HL.out ?_ ?_ ?_⟩
      · exact six_far (six_far (six_row rx _ _ _ _ _ _) (Ne.symm nxy) _ _ _ _ _ _) (Ne.symm nxz) _ _ _ _ _ _
      · exact six_far (six_row (six_far ry nxy _ _ _ _ _ _) _ _ _ _ _ _) (Ne.symm nyz) _ _ _ _ _ _
      · exact six_row (six_far (six_far rz nxz _ _ _ _ _ _) nyz _ _ _ _ _ _) _ _ _ _ _ _
  case rest =>
    obtain ⟨Bx, By, Bz, rfl, rfl, rfl, hraw⟩ := hcut
    have HR := Lib.hid hraw
    obtain ⟨x0, x1, x2, x3, x4, x5⟩ := (six_cells hraw.2.1.1).1
    obtain ⟨y0, y1, y2, y3, y4, y5⟩ := (six_cells hraw.2.2.1.1).1
    obtain ⟨z0, z1, z2, z3, z4, z5⟩ := (six_cells hraw.2.2.2.1).1
    clear hraw HL HR3 HKA
    obtain ⟨t, ht⟩ : ∃ t, t = rightB [⟨qx, lx, ⟨Ax, nx, cx⟩⟩, ⟨qy, ly, ⟨Ay, ny, cy⟩⟩, ⟨qz, lz, ⟨Az, nz, cz⟩⟩] := ⟨_, rfl⟩
    have HT := Lib.hid ht
    clear ht
    go_wp2_with fail
    refine (right_any _ _ 3 _ [⟨qx, lx, ⟨Ax, nx, cx⟩⟩, ⟨qy, ly, ⟨Ay, ny, cy⟩⟩, ⟨qz, lz, ⟨Az, nz, cz⟩⟩] rfl (DatR.of [⟨qx, lx, ⟨Ax, nx, cx⟩⟩, ⟨qy, ly, ⟨Ay, ny, cy⟩⟩, ⟨qz, lz, ⟨Az, nz, cz⟩⟩] [] (row_new wc _ 27) (by rfl) (fun d hd => by
      have k := (Keep.refl (fun _ => False) wc).alloc
      simp only [List.mem_cons, List.not_mem_nil, or_false] at hd
      rcases hd with rfl | rfl | rfl
      · exact HR.out.2.1.2.keep0 (k _)
      · exact HR.out.2.2.1.2.keep0 (k _)
      · exact HR.out.2.2.2.2.keep0 (k _))) (by decide) t HT.out).mono ?_
    rintro e wr ⟨rfl, kr⟩
    have HKR := Lib.hid (((Keep.refl _ _).alloc _).trans kr)
    clear kr x0 x1 x2 x3 x4 x5 y0 y1 y2 y3 y4 y5 z0 z1 z2 z3 z4 z5
    cases t with
    | false =>
      go_wp2_with fail
      refine (awake_any _).mono ?_
      rintro e w5 ⟨rfl, k5⟩
      have HK5 := Lib.hid ((HR.out.1.trans HKR.out).trans k5)
      clear k5
      go_wp2_with fail
      go_ret
      exact ⟨rfl, HK5.out⟩
    | true =>
      have OK := rightB_ok HT.out.symm
      have X1 := (HR.out.2.1.keep HKR.out).good (OK _ List.mem_cons_self)
      have X2 := (HR.out.2.2.1.keep HKR.out).good (OK _ (List.mem_cons_of_mem _ List.mem_cons_self))
      have X3 := (HR.out.2.2.2.keep HKR.out).good (OK _ (List.mem_cons_of_mem _ (List.mem_cons_of_mem _ List.mem_cons_self)))
      obtain ⟨x, hx⟩ : ∃ x, x = ND.x ⟨qx, lx, ⟨Ax, nx, cx⟩⟩ := ⟨_, rfl⟩
      obtain ⟨y, hy⟩ : ∃ y, y = ND.x ⟨qy, ly, ⟨Ay, ny, cy⟩⟩ := ⟨_, rfl⟩
      obtain ⟨z, hz⟩ : ∃ z, z = ND.x ⟨qz, lz, ⟨Az, nz, cz⟩⟩ := ⟨_, rfl⟩
      rw [← hx] at X1
      rw [← hy] at X2
      rw [← hz] at X3
      have HX := Lib.hid (show Road w wr [⟨Bz, z, qz, Az, nz, cz⟩, ⟨By, y, qy, Ay, ny, cy⟩, ⟨Bx, x, qx, Ax, nx, cx⟩] from ⟨HR.out.1.trans HKR.out, List.forall_mem_cons.2 ⟨X3, List.forall_mem_cons.2 ⟨X2, List.forall_mem_cons.2 ⟨X1, fun _ h => absurd h List.not_mem_nil⟩⟩⟩⟩)
      clear HR HKR HT OK X1 X2 X3 hx hy hz
      obtain ⟨t8xy, ht8xy⟩ : ∃ t, t = orderB 8 [x, y] := ⟨_, rfl⟩
      have Yt8xy := Lib.hid (yes_cmp 8 (by omega) 2 (by decide) (by decide) [x, y] rfl t8xy ht8xy)
      have Ht8xy := Lib.hid ht8xy
      clear ht8xy
      obtain ⟨t8yz, ht8yz⟩ : ∃ t, t = orderB 8 [y, z] := ⟨_, rfl⟩
      have Yt8yz := Lib.hid (yes_cmp 8 (by omega) 2 (by decide) (by decide) [y, z] rfl t8yz ht8yz)
      have Ht8yz := Lib.hid ht8yz
      clear ht8yz
      obtain ⟨t8xz, ht8xz⟩ : ∃ t, t = orderB 8 [x, z] := ⟨_, rfl⟩
      have Yt8xz := Lib.hid (yes_cmp 8 (by omega) 2 (by decide) (by decide) [x, z] rfl t8xz ht8xz)
      have Ht8xz := Lib.hid ht8xz
      clear ht8xz
      obtain ⟨t9yx, ht9yx⟩ : ∃ t, t = orderB 9 [y, x] := ⟨_, rfl⟩
      have Yt9yx := Lib.hid (yes_cmp 9 (by omega) 2 (by decide) (by decide) [y, x] rfl t9yx ht9yx)
      have Ht9yx := Lib.hid ht9yx
      clear ht9yx
      obtain ⟨t10xy, ht10xy⟩ : ∃ t, t = orderB 10 [x, y] := ⟨_, rfl⟩
      have Yt10xy := Lib.hid (yes_cmp 10 (by omega) 2 (by decide) (by decide) [x, y] rfl t10xy ht10xy)
      have Ht10xy := Lib.hid ht10xy
      clear ht10xy
      obtain ⟨t9xy, ht9xy⟩ : ∃ t, t = orderB 9 [x, y] := ⟨_, rfl⟩
      have Yt9xy := Lib.hid (yes_cmp 9 (by omega) 2 (by decide) (by decide) [x, y] rfl t9xy ht9xy)
      have Ht9xy := Lib.hid ht9xy
      clear ht9xy
      obtain ⟨t11xy, ht11xy⟩ : ∃ t, t = orderB 11 [x, y] := ⟨_, rfl⟩
      have Yt11xy := Lib.hid (yes_cmp 11 (by omega) 2 (by decide) (by decide) [x, y] rfl t11xy ht11xy)
      have Ht11xy := Lib.hid ht11xy
      clear ht11xy
      go_upto_region 4 with fail
      go_cut [81] from 32 to 81 (fun v wy => v = .bool false ∧ Road w wy [⟨Bz, z, qz, Az, nz, cz⟩, ⟨By, y, qy, Ay, ny, cy⟩, ⟨Bx, x, qx, Ax, nx, cx⟩])
      case first =>
        rename_i J K hJ hK
        obtain ⟨g36, hg36⟩ : ∃ b : Bool, b = t8xy := ⟨_, rfl⟩
        have Hg36 := Lib.hid hg36
        clear hg36
        obtain ⟨g42, hg42⟩ : ∃ b : Bool, b = (g36 && t8yz) := ⟨_, rfl⟩
        have Hg42 := Lib.hid hg42
        clear hg42
        obtain ⟨g49, hg49⟩ : ∃ b : Bool, b = (g42 && (!t8xz)) := ⟨_, rfl⟩
        have Hg49 := Lib.hid hg49
        clear hg49
        obtain ⟨g60, hg60⟩ : ∃ b : Bool, b = (g49 || (t8xy != t9yx)) := ⟨_, rfl⟩
        have Hg60 := Lib.hid hg60
        clear hg60
        obtain ⟨g71, hg71⟩ : ∃ b : Bool, b = (g60 || (t10xy == t9xy)) := ⟨_, rfl⟩
        have Hg71 := Lib.hid hg71
        clear hg71
        have HE := Lib.hid (show (g71 || (t11xy == t8xy)) = false from by
          rw [Hg71.out, Hg60.out, Hg49.out, Hg42.out, Hg36.out, Ht8xy.out, Ht8yz.out, Ht8xz.out, Ht9yx.out, Ht10xy.out, Ht9xy.out, Ht11xy.out]
          simp only [so_8, so_9, so_10, so_11]
          by_cases a1 : x < y <;> by_cases a2 : y < z <;> by_cases a3 : x < z <;> by_cases a4 : y < x <;> by_cases a5 : x ≤ y <;> by_cases a6 : y ≤ x <;> simp [a1, a2, a3, a4, a5, a6] <;> omega)
        refine region_vals (by kernel_rfl) 50 (by kernel_rfl) (by kernel_rfl) (fun i => 32 + i) (fun k => Nat.ble 32 k && Nat.ble k 81) (fun i _ j _ h => by have h2 : 32 + i = 32 + j := h; omega) (fun i hi => by simp only [Bool.and_eq_true, Nat.ble_eq]; omega) (fun i hi => Nat.lt_of_lt_of_le (show 32 + i < 82 by omega) (Nat.le_of_ble_eq_true rfl)) (fun w' => Road w w' [⟨Bz, z, qz, Az, nz, cz⟩, ⟨By, y, qy, Ay, ny, cy⟩, ⟨Bx, x, qx, Ax, nx, cx⟩]) (HX.out.keep (Keep.refl _ _).drew) (fun i => (([Sp.val true (datV 4 qx Ax nx cx ⟨#[]⟩), Sp.val true (datV 4 qy Ay ny cy ⟨#[]⟩), Sp.row true 2 [x, y], Sp.val true (.bool t8xy), Sp.val true (.bool g36), Sp.val (g36) (datV 4 qy Ay ny cy ⟨#[]⟩), Sp.val (g36) (datV 4 qz Az nz cz ⟨#[]⟩), Sp.row (g36) 2 [y, z], Sp.val (g36) (.bool t8yz), Sp.val true (.bool (g36 && t8yz)), Sp.val true (.bool g42), Sp.val (g42) (datV 4 qx Ax nx cx ⟨#[]⟩), Sp.val (g42) (datV 4 qz Az nz cz ⟨#[]⟩), Sp.row (g42) 2 [x, z], Sp.val (g42) (.bool t8xz), Sp.val (g42) (.bool (!t8xz)), Sp.val true (.bool (g42 && (!t8xz))), Sp.val true (.bool g49), Sp.val (!g49) (datV 4 qx Ax nx cx ⟨#[]⟩), Sp.val (!g49) (datV 4 qy Ay ny cy ⟨#[]⟩), Sp.row (!g49) 2 [x, y], Sp.val (!g49) (.bool t8xy), Sp.val (!g49) (datV 4 qy Ay ny cy ⟨#[]⟩), Sp.val (!g49) (datV 4 qx Ax nx cx ⟨#[]⟩), Sp.row (!g49) 2 [y, x], Sp.val (!g49) (.bool t9yx), Sp.val (!g49) (.bool (t8xy != t9yx)), Sp.val true (.bool (g49 || (t8xy != t9yx))), Sp.val true (.bool g60), Sp.val (!g60) (datV 4 qx Ax nx cx ⟨#[]⟩), Sp.val (!g60) (datV 4 qy Ay ny cy ⟨#[]⟩), Sp.row (!g60) 2 [x, y], Sp.val (!g60) (.bool t10xy), Sp.val (!g60) (datV 4 qx Ax nx cx ⟨#[]⟩), Sp.val (!g60) (datV 4 qy Ay ny cy ⟨#[]⟩), Sp.row (!g60) 2 [x, y], Sp.val (!g60) (.bool t9xy), Sp.val (!g60) (.bool (t10xy == t9xy)), Sp.val true (.bool (g60 || (t10xy == t9xy))), Sp.val true (.bool g71), Sp.val (!g71) (datV 4 qx Ax nx cx ⟨#[]⟩), Sp.val (!g71) (datV 4 qy Ay ny cy ⟨#[]⟩), Sp.row (!g71) 2 [x, y], Sp.val (!g71) (.bool t11xy), Sp.val (!g71) (datV 4 qx Ax nx cx ⟨#[]⟩), Sp.val (!g71) (datV 4 qy Ay ny cy ⟨#[]⟩), Sp.row (!g71) 2 [x, y], Sp.val (!g71) (.bool t8xy), Sp.val (!g71) (.bool (t11xy == t8xy)), Sp.val true (.bool (g71 || (t11xy == t8xy)))] : List Sp).getD i (Sp.val false undef)).T) (fun i => Sp.mono _) (fun i hi => match i, hi with
          | 0, _ => by
            intro a w hG hf hT K hK
            exact op_run rfl rfl (exec_load (b := ⟨Bx, x, qx, Ax, nx, cx⟩) rfl (hf 7 rfl) hG (List.mem_cons_of_mem _ (List.mem_cons_of_mem _ List.mem_cons_self))) (hK _ _ hG (Keep.refl _ _) rfl)
          | 1, _ => by
            intro a w hG hf hT K hK
            exact op_run rfl rfl (exec_load (b := ⟨By, y, qy, Ay, ny, cy⟩) rfl (hf 8 rfl) hG (List.mem_cons_of_mem _ List.mem_cons_self)) (hK _ _ hG (Keep.refl _ _) rfl)
          | 2, _ => by
            intro a w hG hf hT K hK
            have e0 : a.tmps.getD 32 undef = datV 4 qx Ax nx cx ⟨#[]⟩ := hT 0 (by kernel_rfl)
            have e1 : a.tmps.getD 33 undef = datV 4 qy Ay ny cy ⟨#[]⟩ := hT 1 (by kernel_rfl)
            exact op_run rfl rfl (exec_row2 rfl e0 e1) (hK _ _ (hG.keep ((Keep.refl _ _).alloc _)) ((Keep.refl _ _).alloc _) ⟨_, rfl, hG.args [⟨Bx, x, qx, Ax, nx, cx⟩, ⟨By, y, qy, Ay, ny, cy⟩] _ rfl (List.forall_mem_cons.2 ⟨(List.mem_cons_of_mem _ (List.mem_cons_of_mem _ List.mem_cons_self)), (List.forall_mem_cons.2 ⟨(List.mem_cons_of_mem _ List.mem_cons_self), (fun _ h => absurd h List.not_mem_nil)⟩)⟩) _ rfl⟩)
          | 3, _ => by
            intro a w hG hf hT K hK
            obtain ⟨R34, e1, ha⟩ : ∃ R, a.tmps.getD 34 undef = .slice (some ⟨R, 0, none⟩) 2 2 ∧ ArgsR w (some ⟨R, 0, none⟩) [x, y] := hT 2 (by kernel_rfl)
            refine op_call rfl rfl (exec_call2 call12 rfl rfl rfl rfl e1) (Yt8xy.out _ _ _ ha) (fun e w2 he => ?_)
            obtain ⟨rfl, kk⟩ := he
            exact ⟨_, rfl, hK _ _ (hG.keep kk) kk rfl⟩
          | 4, _ => by
            intro a w hG hf hT K hK
            have e0 : a.tmps.getD 35 undef = .bool t8xy := hT 3 (by kernel_rfl)
            exact op_run rfl rfl (exec_move rfl) (hK _ _ hG (Keep.refl _ _) (e0.trans (by rw [Hg36.out]; rfl)))
          | 5, _ => by
            intro a w hG hf hT K hK
            have e9 : a.tmps.getD 36 undef = .bool g36 := hT 4 (by kernel_rfl)
            cases g36
            case false => exact op_shut rfl (want_off (k := 4) (s := 36) (b := true) rfl rfl e9) (hK _ _ hG (Keep.refl _ _) rfl)
            case true =>
              exact op_run rfl (want_on (k := 4) (s := 36) (b := true) rfl rfl e9) (exec_load (b := ⟨By, y, qy, Ay, ny, cy⟩) rfl (hf 8 rfl) hG (List.mem_cons_of_mem _ List.mem_cons_self)) (hK _ _ hG (Keep.refl _ _) rfl)
          | 6, _ => by
            intro a w hG hf hT K hK
            have e9 : a.tmps.getD 36 undef = .bool g36 := hT 4 (by kernel_rfl)
            cases g36
            case false => exact op_shut rfl (want_off (k := 4) (s := 36) (b := true) rfl rfl e9) (hK _ _ hG (Keep.refl _ _) rfl)
            case true =>
              exact op_run rfl (want_on (k := 4) (s := 36) (b := true) rfl rfl e9) (exec_load (b := ⟨Bz, z, qz, Az, nz, cz⟩) rfl (hf 9 rfl) hG List.mem_cons_self) (hK _ _ hG (Keep.refl _ _) rfl)
          | 7, _ => by
            intro a w hG hf hT K hK
            have e9 : a.tmps.getD 36 undef = .bool g36 := hT 4 (by kernel_rfl)
            cases g36
            case false => exact op_shut rfl (want_off (k := 4) (s := 36) (b := true) rfl rfl e9) (hK _ _ hG (Keep.refl _ _) rfl)
            case true =>
              have e0 : a.tmps.getD 37 undef = datV 4 qy Ay ny cy ⟨#[]⟩ := hT 5 (by kernel_rfl)
              have e1 : a.tmps.getD 38 undef = datV 4 qz Az nz cz ⟨#[]⟩ := hT 6 (by kernel_rfl)
              exact op_run rfl (want_on (k := 4) (s := 36) (b := true) rfl rfl e9) (exec_row2 rfl e0 e1) (hK _ _ (hG.keep ((Keep.refl _ _).alloc _)) ((Keep.refl _ _).alloc _) ⟨_, rfl, hG.args [⟨By, y, qy, Ay, ny, cy⟩, ⟨Bz, z, qz, Az, nz, cz⟩] _ rfl (List.forall_mem_cons.2 ⟨(List.mem_cons_of_mem _ List.mem_cons_self), (List.forall_mem_cons.2 ⟨List.mem_cons_self, (fun _ h => absurd h List.not_mem_nil)⟩)⟩) _ rfl⟩)
          | 8, _ => by
            intro a w hG hf hT K hK
            have e9 : a.tmps.getD 36 undef = .bool g36 := hT 4 (by kernel_rfl)
            cases g36
            case false => exact op_shut rfl (want_off (k := 4) (s := 36) (b := true) rfl rfl e9) (hK _ _ hG (Keep.refl _ _) rfl)
            case true =>
              obtain ⟨R39, e1, ha⟩ : ∃ R, a.tmps.getD 39 undef = .slice (some ⟨R, 0, none⟩) 2 2 ∧ ArgsR w (some ⟨R, 0, none⟩) [y, z] := hT 7 (by kernel_rfl)
              refine op_call rfl (want_on (k := 4) (s := 36) (b := true) rfl rfl e9) (exec_call2 call12 rfl rfl rfl rfl e1) (Yt8yz.out _ _ _ ha) (fun e w2 he => ?_)
              obtain ⟨rfl, kk⟩ := he
              exact ⟨_, rfl, hK _ _ (hG.keep kk) kk rfl⟩
          | 9, _ => by
            intro a w hG hf hT K hK
            have e0 : a.tmps.getD 36 undef = .bool g36 := hT 4 (by kernel_rfl)
            have e1 : a.tmps.getD 40 undef = bif g36 then .bool t8yz else undef := hT 8 (by kernel_rfl)
            refine op_run rfl rfl (exec_pick rfl e0) (hK _ _ hG (Keep.refl _ _) ?_)
            show (bif g36 then a.tmps.getD 40 undef else .bool false) = .bool (g36 && t8yz)
            rw [e1, Hg36.out]
            cases g36 <;> cases t8xy <;> cases t8yz <;> rfl
          | 10, _ => by
            intro a w hG hf hT K hK
            have e0 : a.tmps.getD 41 undef = .bool (g36 && t8yz) := hT 9 (by kernel_rfl)
            exact op_run rfl rfl (exec_move rfl) (hK _ _ hG (Keep.refl _ _) (e0.trans (by rw [Hg42.out]; rfl)))
          | 11, _ => by
            intro a w hG hf hT K hK
            have e9 : a.tmps.getD 42 undef = .bool g42 := hT 10 (by kernel_rfl)
            cases g42
            case false => exact op_shut rfl (want_off (k := 10) (s := 42) (b := true) rfl rfl e9) (hK _ _ hG (Keep.refl _ _) rfl)
            case true =>
              exact op_run rfl (want_on (k := 10) (s := 42) (b := true) rfl rfl e9) (exec_load (b := ⟨Bx, x, qx, Ax, nx, cx⟩) rfl (hf 7 rfl) hG (List.mem_cons_of_mem _ (List.mem_cons_of_mem _ List.mem_cons_self))) (hK _ _ hG (Keep.refl _ _) rfl)
          | 12, _ => by
            intro a w hG hf hT K hK
            have e9 : a.tmps.getD 42 undef = .bool g42 := hT 10 (by kernel_rfl)
            cases g42
            case false => exact op_shut rfl (want_off (k := 10) (s := 42) (b := true) rfl rfl e9) (hK _ _ hG (Keep.refl _ _) rfl)
            case true =>
              exact op_run rfl (want_on (k := 10) (s := 42) (b := true) rfl rfl e9) (exec_load (b := ⟨Bz, z, qz, Az, nz, cz⟩) rfl (hf 9 rfl) hG List.mem_cons_self) (hK _ _ hG (Keep.refl _ _) rfl)
          | 13, _ => by
            intro a w hG hf hT K hK
            have e9 : a.tmps.getD 42 undef = .bool g42 := hT 10 (by kernel_rfl)
            cases g42
            case false => exact op_shut rfl (want_off (k := 10) (s := 42) (b := true) rfl rfl e9) (hK _ _ hG (Keep.refl _ _) rfl)
            case true =>
              have e0 : a.tmps.getD 43 undef = datV 4 qx Ax nx cx ⟨#[]⟩ := hT 11 (by kernel_rfl)
              have e1 : a.tmps.getD 44 undef = datV 4 qz Az nz cz ⟨#[]⟩ := hT 12 (by kernel_rfl)
              exact op_run rfl (want_on (k := 10) (s := 42) (b := true) rfl rfl e9) (exec_row2 rfl e0 e1) (hK _ _ (hG.keep ((Keep.refl _ _).alloc _)) ((Keep.refl _ _).alloc _) ⟨_, rfl, hG.args [⟨Bx, x, qx, Ax, nx, cx⟩, ⟨Bz, z, qz, Az, nz, cz⟩] _ rfl (List.forall_mem_cons.2 ⟨(List.mem_cons_of_mem _ (List.mem_cons_of_mem _ List.mem_cons_self)), (List.forall_mem_cons.2 ⟨List.mem_cons_self, (fun _ h => absurd h List.not_mem_nil)⟩)⟩) _ rfl⟩)
          | 14, _ => by
            intro a w hG hf hT K hK
            have e9 : a.tmps.getD 42 undef = .bool g42 := hT 10 (by kernel_rfl)
            cases g42
            case false => exact op_shut rfl (want_off (k := 10) (s := 42) (b := true) rfl rfl e9) (hK _ _ hG (Keep.refl _ _) rfl)
            case true =>
              obtain ⟨R45, e1, ha⟩ : ∃ R, a.tmps.getD 45 undef = .slice (some ⟨R, 0, none⟩) 2 2 ∧ ArgsR w (some ⟨R, 0, none⟩) [x, z] := hT 13 (by kernel_rfl)
              refine op_call rfl (want_on (k := 10) (s := 42) (b := true) rfl rfl e9) (exec_call2 call12 rfl rfl rfl rfl e1) (Yt8xz.out _ _ _ ha) (fun e w2 he => ?_)
              obtain ⟨rfl, kk⟩ := he
              exact ⟨_, rfl, hK _ _ (hG.keep kk) kk rfl⟩
          | 15, _ => by
            intro a w hG hf hT K hK
            have e9 : a.tmps.getD 42 undef = .bool g42 := hT 10 (by kernel_rfl)
            cases g42
            case false => exact op_shut rfl (want_off (k := 10) (s := 42) (b := true) rfl rfl e9) (hK _ _ hG (Keep.refl _ _) rfl)
            case true =>
              have e0 : a.tmps.getD 46 undef = .bool t8xz := hT 14 (by kernel_rfl)
              exact op_run rfl (want_on (k := 10) (s := 42) (b := true) rfl rfl e9) (exec_not rfl e0) (hK _ _ hG (Keep.refl _ _) rfl)
          | 16, _ => by
            intro a w hG hf hT K hK
            have e0 : a.tmps.getD 42 undef = .bool g42 := hT 10 (by kernel_rfl)
            have e1 : a.tmps.getD 47 undef = bif g42 then .bool (!t8xz) else undef := hT 15 (by kernel_rfl)
            refine op_run rfl rfl (exec_pick rfl e0) (hK _ _ hG (Keep.refl _ _) ?_)
            show (bif g42 then a.tmps.getD 47 undef else .bool false) = .bool (g42 && (!t8xz))
            rw [e1, Hg42.out]
            cases g36 <;> cases g42 <;> cases t8xz <;> cases t8yz <;> rfl
          | 17, _ => by
            intro a w hG hf hT K hK
            have e0 : a.tmps.getD 48 undef = .bool (g42 && (!t8xz)) := hT 16 (by kernel_rfl)
            exact op_run rfl rfl (exec_move rfl) (hK _ _ hG (Keep.refl _ _) (e0.trans (by rw [Hg49.out]; rfl)))
          | 18, _ => by
            intro a w hG hf hT K hK
            have e9 : a.tmps.getD 49 undef = .bool g49 := hT 17 (by kernel_rfl)
            cases g49
            case true => exact op_shut rfl (want_off (k := 17) (s := 49) (b := false) rfl rfl e9) (hK _ _ hG (Keep.refl _ _) rfl)
            case false =>
              exact op_run rfl (want_on (k := 17) (s := 49) (b := false) rfl rfl e9) (exec_load (b := ⟨Bx, x, qx, Ax, nx, cx⟩) rfl (hf 7 rfl) hG (List.mem_cons_of_mem _ (List.mem_cons_of_mem _ List.mem_cons_self))) (hK _ _ hG (Keep.refl _ _) rfl)
          | 19, _ => by
            intro a w hG hf hT K hK
            have e9 : a.tmps.getD 49 undef = .bool g49 := hT 17 (by kernel_rfl)
            cases g49
            case true => exact op_shut rfl (want_off (k := 17) (s := 49) (b := false) rfl rfl e9) (hK _ _ hG (Keep.refl _ _) rfl)
            case false =>
              exact op_run rfl (want_on (k := 17) (s := 49) (b := false) rfl rfl e9) (exec_load (b := ⟨By, y, qy, Ay, ny, cy⟩) rfl (hf 8 rfl) hG (List.mem_cons_of_mem _ List.mem_cons_self)) (hK _ _ hG (Keep.refl _ _) rfl)
          | 20, _ => by
            intro a w hG hf hT K hK
            have e9 : a.tmps.getD 49 undef = .bool g49 := hT 17 (by kernel_rfl)
            cases g49
            case true => exact op_shut rfl (want_off (k := 17) (s := 49) (b := false) rfl rfl e9) (hK _ _ hG (Keep.refl _ _) rfl)
            case false =>
              have e0 : a.tmps.getD 50 undef = datV 4 qx Ax nx cx ⟨#[]⟩ := hT 18 (by kernel_rfl)
              have e1 : a.tmps.getD 51 undef = datV 4 qy Ay ny cy ⟨#[]⟩ := hT 19 (by kernel_rfl)
              exact op_run rfl (want_on (k := 17) (s := 49) (b := false) rfl rfl e9) (exec_row2 rfl e0 e1) (hK _ _ (hG.keep ((Keep.refl _ _).alloc _)) ((Keep.refl _ _).alloc _) ⟨_, rfl, hG.args [⟨Bx, x, qx, Ax, nx, cx⟩, ⟨By, y, qy, Ay, ny, cy⟩] _ rfl (List.forall_mem_cons.2 ⟨(List.mem_cons_of_mem _ (List.mem_cons_of_mem _ List.mem_cons_self)), (List.forall_mem_cons.2 ⟨(List.mem_cons_of_mem _ List.mem_cons_self), (fun _ h => absurd h List.not_mem_nil)⟩)⟩) _ rfl⟩)
          | 21, _ => by
            intro a w hG hf hT K hK
            have e9 : a.tmps.getD 49 undef = .bool g49 := hT 17 (by kernel_rfl)
            cases g49
            case true => exact op_shut rfl (want_off (k := 17) (s := 49) (b := false) rfl rfl e9) (hK _ _ hG (Keep.refl _ _) rfl)
            case false =>
              obtain ⟨R52, e1, ha⟩ : ∃ R, a.tmps.getD 52 undef = .slice (some ⟨R, 0, none⟩) 2 2 ∧ ArgsR w (some ⟨R, 0, none⟩) [x, y] := hT 20 (by kernel_rfl)
              refine op_call rfl (want_on (k := 17) (s := 49) (b := false) rfl rfl e9) (exec_call2 call12 rfl rfl rfl rfl e1) (Yt8xy.out _ _ _ ha) (fun e w2 he => ?_)
              obtain ⟨rfl, kk⟩ := he
              exact ⟨_, rfl, hK _ _ (hG.keep kk) kk rfl⟩
          | 22, _ => by
            intro a w hG hf hT K hK
            have e9 : a.tmps.getD 49 undef = .bool g49 := hT 17 (by kernel_rfl)
            cases g49
            case true => exact op_shut rfl (want_off (k := 17) (s := 49) (b := false) rfl rfl e9) (hK _ _ hG (Keep.refl _ _) rfl)
            case false =>
              exact op_run rfl (want_on (k := 17) (s := 49) (b := false) rfl rfl e9) (exec_load (b := ⟨By, y, qy, Ay, ny, cy⟩) rfl (hf 8 rfl) hG (List.mem_cons_of_mem _ List.mem_cons_self)) (hK _ _ hG (Keep.refl _ _) rfl)
          | 23, _ => by
            intro a w hG hf hT K hK
            have e9 : a.tmps.getD 49 undef = .bool g49 := hT 17 (by kernel_rfl)
            cases g49
            case true => exact op_shut rfl (want_off (k := 17) (s := 49) (b := false) rfl rfl e9) (hK _ _ hG (Keep.refl _ _) rfl)
            case false =>
              exact op_run rfl (want_on (k := 17) (s := 49) (b := false) rfl rfl e9) (exec_load (b := ⟨Bx, x, qx, Ax, nx, cx⟩) rfl (hf 7 rfl) hG (List.mem_cons_of_mem _ (List.mem_cons_of_mem _ List.mem_cons_self))) (hK _ _ hG (Keep.refl _ _) rfl)
          | 24, _ => by
            intro a w hG hf hT K hK
            have e9 : a.tmps.getD 49 undef = .bool g49 := hT 17 (by kernel_rfl)
            cases g49
            case true => exact op_shut rfl (want_off (k := 17) (s := 49) (b := false) rfl rfl e9) (hK _ _ hG (Keep.refl _ _) rfl)
            case false =>
              have e0 : a.tmps.getD 54 undef = datV 4 qy Ay ny cy ⟨#[]⟩ := hT 22 (by kernel_rfl)
              have e1 : a.tmps.getD 55 undef = datV 4 qx Ax nx cx ⟨#[]⟩ := hT 23 (by kernel_rfl)
              exact op_run rfl (want_on (k := 17) (s := 49) (b := false) rfl rfl e9) (exec_row2 rfl e0 e1) (hK _ _ (hG.keep ((Keep.refl _ _).alloc _)) ((Keep.refl _ _).alloc _) ⟨_, rfl, hG.args [⟨By, y, qy, Ay, ny, cy⟩, ⟨Bx, x, qx, Ax, nx, cx⟩] _ rfl (List.forall_mem_cons.2 ⟨(List.mem_cons_of_mem _ List.mem_cons_self), (List.forall_mem_cons.2 ⟨(List.mem_cons_of_mem _ (List.mem_cons_of_mem _ List.mem_cons_self)), (fun _ h => absurd h List.not_mem_nil)⟩)⟩) _ rfl⟩)
          | 25, _ => by
            intro a w hG hf hT K hK
            have e9 : a.tmps.getD 49 undef = .bool g49 := hT 17 (by kernel_rfl)
            cases g49
            case true => exact op_shut rfl (want_off (k := 17) (s := 49) (b := false) rfl rfl e9) (hK _ _ hG (Keep.refl _ _) rfl)
            case false =>
              obtain ⟨R56, e1, ha⟩ : ∃ R, a.tmps.getD 56 undef = .slice (some ⟨R, 0, none⟩) 2 2 ∧ ArgsR w (some ⟨R, 0, none⟩) [y, x] := hT 24 (by kernel_rfl)
              refine op_call rfl (want_on (k := 17) (s := 49) (b := false) rfl rfl e9) (exec_call2 call12 rfl rfl rfl rfl e1) (Yt9yx.out _ _ _ ha) (fun e w2 he => ?_)
              obtain ⟨rfl, kk⟩ := he
              exact ⟨_, rfl, hK _ _ (hG.keep kk) kk rfl⟩
          | 26, _ => by
            intro a w hG hf hT K hK
            have e9 : a.tmps.getD 49 undef = .bool g49 := hT 17 (by kernel_rfl)
            cases g49
            case true => exact op_shut rfl (want_off (k := 17) (s := 49) (b := false) rfl rfl e9) (hK _ _ hG (Keep.refl _ _) rfl)
            case false =>
              have e0 : a.tmps.getD 53 undef = .bool t8xy := hT 21 (by kernel_rfl)
              have e1 : a.tmps.getD 57 undef = .bool t9yx := hT 25 (by kernel_rfl)
              exact op_run rfl (want_on (k := 17) (s := 49) (b := false) rfl rfl e9) (exec_neq rfl e0 e1) (hK _ _ hG (Keep.refl _ _) rfl)
          | 27, _ => by
            intro a w hG hf hT K hK
            have e0 : a.tmps.getD 49 undef = .bool g49 := hT 17 (by kernel_rfl)
            have e1 : a.tmps.getD 58 undef = bif !g49 then .bool (t8xy != t9yx) else undef := hT 26 (by kernel_rfl)
            refine op_run rfl rfl (exec_pick rfl e0) (hK _ _ hG (Keep.refl _ _) ?_)
            show (bif g49 then .bool true else a.tmps.getD 58 undef) = .bool (g49 || (t8xy != t9yx))
            rw [e1, Hg49.out]
            cases g42 <;> cases g49 <;> cases t8xy <;> cases t8xz <;> cases t9yx <;> rfl
          | 28, _ => by
            intro a w hG hf hT K hK
            have e0 : a.tmps.getD 59 undef = .bool (g49 || (t8xy != t9yx)) := hT 27 (by kernel_rfl)
            exact op_run rfl rfl (exec_move rfl) (hK _ _ hG (Keep.refl _ _) (e0.trans (by rw [Hg60.out]; rfl)))
          | 29, _ => by
            intro a w hG hf hT K hK
            have e9 : a.tmps.getD 60 undef = .bool g60 := hT 28 (by kernel_rfl)
            cases g60
            case true => exact op_shut rfl (want_off (k := 28) (s := 60) (b := false) rfl rfl e9) (hK _ _ hG (Keep.refl _ _) rfl)
            case false =>
              exact op_run rfl (want_on (k := 28) (s := 60) (b := false) rfl rfl e9) (exec_load (b := ⟨Bx, x, qx, Ax, nx, cx⟩) rfl (hf 7 rfl) hG (List.mem_cons_of_mem _ (List.mem_cons_of_mem _ List.mem_cons_self))) (hK _ _ hG (Keep.refl _ _) rfl)
          | 30, _ => by
            intro a w hG hf hT K hK
            have e9 : a.tmps.getD 60 undef = .bool g60 := hT 28 (by kernel_rfl)
            cases g60
            case true => exact op_shut rfl (want_off (k := 28) (s := 60) (b := false) rfl rfl e9) (hK _ _ hG (Keep.refl _ _) rfl)
            case false =>
              exact op_run rfl (want_on (k := 28) (s := 60) (b := false) rfl rfl e9) (exec_load (b := ⟨By, y, qy, Ay, ny, cy⟩) rfl (hf 8 rfl) hG (List.mem_cons_of_mem _ List.mem_cons_self)) (hK _ _ hG (Keep.refl _ _) rfl)
          | 31, _ => by
            intro a w hG hf hT K hK
            have e9 : a.tmps.getD 60 undef = .bool g60 := hT 28 (by kernel_rfl)
            cases g60
            case true => exact op_shut rfl (want_off (k := 28) (s := 60) (b := false) rfl rfl e9) (hK _ _ hG (Keep.refl _ _) rfl)
            case false =>
              have e0 : a.tmps.getD 61 undef = datV 4 qx Ax nx cx ⟨#[]⟩ := hT 29 (by kernel_rfl)
              have e1 : a.tmps.getD 62 undef = datV 4 qy Ay ny cy ⟨#[]⟩ := hT 30 (by kernel_rfl)
              exact op_run rfl (want_on (k := 28) (s := 60) (b := false) rfl rfl e9) (exec_row2 rfl e0 e1) (hK _ _ (hG.keep ((Keep.refl _ _).alloc _)) ((Keep.refl _ _).alloc _) ⟨_, rfl, hG.args [⟨Bx, x, qx, Ax, nx, cx⟩, ⟨By, y, qy, Ay, ny, cy⟩] _ rfl (List.forall_mem_cons.2 ⟨(List.mem_cons_of_mem _ (List.mem_cons_of_mem _ List.mem_cons_self)), (List.forall_mem_cons.2 ⟨(List.mem_cons_of_mem _ List.mem_cons_self), (fun _ h => absurd h List.not_mem_nil)⟩)⟩) _ rfl⟩)
          | 32, _ => by
            intro a w hG hf hT K hK
            have e9 : a.tmps.getD 60 undef = .bool g60 := hT 28 (by kernel_rfl)
            cases g60
            case true => exact op_shut rfl (want_off (k := 28) (s := 60) (b := false) rfl rfl e9) (hK _ _ hG (Keep.refl _ _) rfl)
            case false =>
              obtain ⟨R63, e1, ha⟩ : ∃ R, a.tmps.getD 63 undef = .slice (some ⟨R, 0, none⟩) 2 2 ∧ ArgsR w (some ⟨R, 0, none⟩) [x, y] := hT 31 (by kernel_rfl)
              refine op_call rfl (want_on (k := 28) (s := 60) (b := false) rfl rfl e9) (exec_call2 call12 rfl rfl rfl rfl e1) (Yt10xy.out _ _ _ ha) (fun e w2 he => ?_)
              obtain ⟨rfl, kk⟩ := he
              exact ⟨_, rfl, hK _ _ (hG.keep kk) kk rfl⟩
          | 33, _ => by
            intro a w hG hf hT K hK
            have e9 : a.tmps.getD 60 undef = .bool g60 := hT 28 (by kernel_rfl)
            cases g60
            case true => exact op_shut rfl (want_off (k := 28) (s := 60) (b := false) rfl rfl e9) (hK _ _ hG (Keep.refl _ _) rfl)
            case false =>
              exact op_run rfl (want_on (k := 28) (s := 60) (b := false) rfl rfl e9) (exec_load (b := ⟨Bx, x, qx, Ax, nx, cx⟩) rfl (hf 7 rfl) hG (List.mem_cons_of_mem _ (List.mem_cons_of_mem _ List.mem_cons_self))) (hK _ _ hG (Keep.refl _ _) rfl)
          | 34, _ => by
            intro a w hG hf hT K hK
            have e9 : a.tmps.getD 60 undef = .bool g60 := hT 28 (by kernel_rfl)
            cases g60
            case true => exact op_shut rfl (want_off (k := 28) (s := 60) (b := false) rfl rfl e9) (hK _ _ hG (Keep.refl _ _) rfl)
            case false =>
              exact op_run rfl (want_on (k := 28) (s := 60) (b := false) rfl rfl e9) (exec_load (b := ⟨By, y, qy, Ay, ny, cy⟩) rfl (hf 8 rfl) hG (List.mem_cons_of_mem _ List.mem_cons_self)) (hK _ _ hG (Keep.refl _ _) rfl)
          | 35, _ => by
            intro a w hG hf hT K hK
            have e9 : a.tmps.getD 60 undef = .bool g60 := hT 28 (by kernel_rfl)
            cases g60
            case true => exact op_shut rfl (want_off (k := 28) (s := 60) (b := false) rfl rfl e9) (hK _ _ hG (Keep.refl _ _) rfl)
            case false =>
              have e0 : a.tmps.getD 65 undef = datV 4 qx Ax nx cx ⟨#[]⟩ := hT 33 (by kernel_rfl)
              have e1 : a.tmps.getD 66 undef = datV 4 qy Ay ny cy ⟨#[]⟩ := hT 34 (by kernel_rfl)
              exact op_run rfl (want_on (k := 28) (s := 60) (b := false) rfl rfl e9) (exec_row2 rfl e0 e1) (hK _ _ (hG.keep ((Keep.refl _ _).alloc _)) ((Keep.refl _ _).alloc _) ⟨_, rfl, hG.args [⟨Bx, x, qx, Ax, nx, cx⟩, ⟨By, y, qy, Ay, ny, cy⟩] _ rfl (List.forall_mem_cons.2 ⟨(List.mem_cons_of_mem _ (List.mem_cons_of_mem _ List.mem_cons_self)), (List.forall_mem_cons.2 ⟨(List.mem_cons_of_mem _ List.mem_cons_self), (fun _ h => absurd h List.not_mem_nil)⟩)⟩) _ rfl⟩)
          | 36, _ => by
            intro a w hG hf hT K hK
            have e9 : a.tmps.getD 60 undef = .bool g60 := hT 28 (by kernel_rfl)
            cases g60
            case true => exact op_shut rfl (want_off (k := 28) (s := 60) (b := false) rfl rfl e9) (hK _ _ hG (Keep.refl _ _) rfl)
            case false =>
              obtain ⟨R67, e1, ha⟩ : ∃ R, a.tmps.getD 67 undef = .slice (some ⟨R, 0, none⟩) 2 2 ∧ ArgsR w (some ⟨R, 0, none⟩) [x, y] := hT 35 (by kernel_rfl)
              refine op_call rfl (want_on (k := 28) (s := 60) (b := false) rfl rfl e9) (exec_call2 call12 rfl rfl rfl rfl e1) (Yt9xy.out _ _ _ ha) (fun e w2 he => ?_)
              obtain ⟨rfl, kk⟩ := he
              exact ⟨_, rfl, hK _ _ (hG.keep kk) kk rfl⟩
          | 37, _ => by
            intro a w hG hf hT K hK
            have e9 : a.tmps.getD 60 undef = .bool g60 := hT 28 (by kernel_rfl)
            cases g60
            case true => exact op_shut rfl (want_off (k := 28) (s := 60) (b := false) rfl rfl e9) (hK _ _ hG (Keep.refl _ _) rfl)
            case false =>
              have e0 : a.tmps.getD 64 undef = .bool t10xy := hT 32 (by kernel_rfl)
              have e1 : a.tmps.getD 68 undef = .bool t9xy := hT 36 (by kernel_rfl)
              exact op_run rfl (want_on (k := 28) (s := 60) (b := false) rfl rfl e9) (exec_eql rfl e0 e1) (hK _ _ hG (Keep.refl _ _) rfl)
          | 38, _ => by
            intro a w hG hf hT K hK
            have e0 : a.tmps.getD 60 undef = .bool g60 := hT 28 (by kernel_rfl)
            have e1 : a.tmps.getD 69 undef = bif !g60 then .bool (t10xy == t9xy) else undef := hT 37 (by kernel_rfl)
            refine op_run rfl rfl (exec_pick rfl e0) (hK _ _ hG (Keep.refl _ _) ?_)
            show (bif g60 then .bool true else a.tmps.getD 69 undef) = .bool (g60 || (t10xy == t9xy))
            rw [e1, Hg60.out]
            cases g49 <;> cases g60 <;> cases t10xy <;> cases t8xy <;> cases t9xy <;> cases t9yx <;> rfl
          | 39, _ => by
            intro a w hG hf hT K hK
            have e0 : a.tmps.getD 70 undef = .bool (g60 || (t10xy == t9xy)) := hT 38 (by kernel_rfl)
            exact op_run rfl rfl (exec_move rfl) (hK _ _ hG (Keep.refl _ _) (e0.trans (by rw [Hg71.out]; rfl)))
          | 40, _ => by
            intro a w hG hf hT K hK
            have e9 : a.tmps.getD 71 undef = .bool g71 := hT 39 (by kernel_rfl)
            cases g71
            case true => exact op_shut rfl (want_off (k := 39) (s := 71) (b := false) rfl rfl e9) (hK _ _ hG (Keep.refl _ _) rfl)
            case false =>
              exact op_run rfl (want_on (k := 39) (s := 71) (b := false) rfl rfl e9) (exec_load (b := ⟨Bx, x, qx, Ax, nx, cx⟩) rfl (hf 7 rfl) hG (List.mem_cons_of_mem _ (List.mem_cons_of_mem _ List.mem_cons_self))) (hK _ _ hG (Keep.refl _ _) rfl)
          | 41, _ => by
            intro a w hG hf hT K hK
            have e9 : a.tmps.getD 71 undef = .bool g71 := hT 39 (by kernel_rfl)
            cases g71
            case true => exact op_shut rfl (want_off (k := 39) (s := 71) (b := false) rfl rfl e9) (hK _ _ hG (Keep.refl _ _) rfl)
            case false =>
              exact op_run rfl (want_on (k := 39) (s := 71) (b := false) rfl rfl e9) (exec_load (b := ⟨By, y, qy, Ay, ny, cy⟩) rfl (hf 8 rfl) hG (List.mem_cons_of_mem _ List.mem_cons_self)) (hK _ _ hG (Keep.refl _ _) rfl)
          | 42, _ => by
            intro a w hG hf hT K hK
            have e9 : a.tmps.getD 71 undef = .bool g71 := hT 39 (by kernel_rfl)
            cases g71
            case true => exact op_shut rfl (want_off (k := 39) (s := 71) (b := false) rfl rfl e9) (hK _ _ hG (Keep.refl _ _) rfl)
            case false =>
              have e0 : a.tmps.getD 72 undef = datV 4 qx Ax nx cx ⟨#[]⟩ := hT 40 (by kernel_rfl)
              have e1 : a.tmps.getD 73 undef = datV 4 qy Ay ny cy ⟨#[]⟩ := hT 41 (by kernel_rfl)
              exact op_run rfl (want_on (k := 39) (s := 71) (b := false) rfl rfl e9) (exec_row2 rfl e0 e1) (hK _ _ (hG.keep ((Keep.refl _ _).alloc _)) ((Keep.refl _ _).alloc _) ⟨_, rfl, hG.args [⟨Bx, x, qx, Ax, nx, cx⟩, ⟨By, y, qy, Ay, ny, cy⟩] _ rfl (List.forall_mem_cons.2 ⟨(List.mem_cons_of_mem _ (List.mem_cons_of_mem _ List.mem_cons_self)), (List.forall_mem_cons.2 ⟨(List.mem_cons_of_mem _ List.mem_cons_self), (fun _ h => absurd h List.not_mem_nil)⟩)⟩) _ rfl⟩)
          | 43, _ => by
            intro a w hG hf hT K hK
            have e9 : a.tmps.getD 71 undef = .bool g71 := hT 39 (by kernel_rfl)
            cases g71
            case true => exact op_shut rfl (want_off (k := 39) (s := 71) (b := false) rfl rfl e9) (hK _ _ hG (Keep.refl _ _) rfl)
            case false =>
              obtain ⟨R74, e1, ha⟩ : ∃ R, a.tmps.getD 74 undef = .slice (some ⟨R, 0, none⟩) 2 2 ∧ ArgsR w (some ⟨R, 0, none⟩) [x, y] := hT 42 (by kernel_rfl)
              refine op_call rfl (want_on (k := 39) (s := 71) (b := false) rfl rfl e9) (exec_call2 call12 rfl rfl rfl rfl e1) (Yt11xy.out _ _ _ ha) (fun e w2 he => ?_)
              obtain ⟨rfl, kk⟩ := he
              exact ⟨_, rfl, hK _ _ (hG.keep kk) kk rfl⟩
          | 44, _ => by
            intro a w hG hf hT K hK
            have e9 : a.tmps.getD 71 undef = .bool g71 := hT 39 (by kernel_rfl)
            cases g71
            case true => exact op_shut rfl (want_off (k := 39) (s := 71) (b := false) rfl rfl e9) (hK _ _ hG (Keep.refl _ _) rfl)
            case false =>
              exact op_run rfl (want_on (k := 39) (s := 71) (b := false) rfl rfl e9) (exec_load (b := ⟨Bx, x, qx, Ax, nx, cx⟩) rfl (hf 7 rfl) hG (List.mem_cons_of_mem _ (List.mem_cons_of_mem _ List.mem_cons_self))) (hK _ _ hG (Keep.refl _ _) rfl)
          | 45, _ => by
            intro a w hG hf hT K hK
            have e9 : a.tmps.getD 71 undef = .bool g71 := hT 39 (by kernel_rfl)
            cases g71
            case true => exact op_shut rfl (want_off (k := 39) (s := 71) (b := false) rfl rfl e9) (hK _ _ hG (Keep.refl _ _) rfl)
            case false =>
              exact op_run rfl (want_on (k := 39) (s := 71) (b := false) rfl rfl e9) (exec_load (b := ⟨By, y, qy, Ay, ny, cy⟩) rfl (hf 8 rfl) hG (List.mem_cons_of_mem _ List.mem_cons_self)) (hK _ _ hG (Keep.refl _ _) rfl)
          | 46, _ => by
            intro a w hG hf hT K hK
            have e9 : a.tmps.getD 71 undef = .bool g71 := hT 39 (by kernel_rfl)
            cases g71
            case true => exact op_shut rfl (want_off (k := 39) (s := 71) (b := false) rfl rfl e9) (hK _ _ hG (Keep.refl _ _) rfl)
            case false =>
              have e0 : a.tmps.getD 76 undef = datV 4 qx Ax nx cx ⟨#[]⟩ := hT 44 (by kernel_rfl)
              have e1 : a.tmps.getD 77 undef = datV 4 qy Ay ny cy ⟨#[]⟩ := hT 45 (by kernel_rfl)
              exact op_run rfl (want_on (k := 39) (s := 71) (b := false) rfl rfl e9) (exec_row2 rfl e0 e1) (hK _ _ (hG.keep ((Keep.refl _ _).alloc _)) ((Keep.refl _ _).alloc _) ⟨_, rfl, hG.args [⟨Bx, x, qx, Ax, nx, cx⟩, ⟨By, y, qy, Ay, ny, cy⟩] _ rfl (List.forall_mem_cons.2 ⟨(List.mem_cons_of_mem _ (List.mem_cons_of_mem _ List.mem_cons_self)), (List.forall_mem_cons.2 ⟨(List.mem_cons_of_mem _ List.mem_cons_self), (fun _ h => absurd h List.not_mem_nil)⟩)⟩) _ rfl⟩)
          | 47, _ => by
            intro a w hG hf hT K hK
            have e9 : a.tmps.getD 71 undef = .bool g71 := hT 39 (by kernel_rfl)
            cases g71
            case true => exact op_shut rfl (want_off (k := 39) (s := 71) (b := false) rfl rfl e9) (hK _ _ hG (Keep.refl _ _) rfl)
            case false =>
              obtain ⟨R78, e1, ha⟩ : ∃ R, a.tmps.getD 78 undef = .slice (some ⟨R, 0, none⟩) 2 2 ∧ ArgsR w (some ⟨R, 0, none⟩) [x, y] := hT 46 (by kernel_rfl)
              refine op_call rfl (want_on (k := 39) (s := 71) (b := false) rfl rfl e9) (exec_call2 call12 rfl rfl rfl rfl e1) (Yt8xy.out _ _ _ ha) (fun e w2 he => ?_)
              obtain ⟨rfl, kk⟩ := he
              exact ⟨_, rfl, hK _ _ (hG.keep kk) kk rfl⟩
          | 48, _ => by
            intro a w hG hf hT K hK
            have e9 : a.tmps.getD 71 undef = .bool g71 := hT 39 (by kernel_rfl)
            cases g71
            case true => exact op_shut rfl (want_off (k := 39) (s := 71) (b := false) rfl rfl e9) (hK _ _ hG (Keep.refl _ _) rfl)
            case false =>
              have e0 : a.tmps.getD 75 undef = .bool t11xy := hT 43 (by kernel_rfl)
              have e1 : a.tmps.getD 79 undef = .bool t8xy := hT 47 (by kernel_rfl)
              exact op_run rfl (want_on (k := 39) (s := 71) (b := false) rfl rfl e9) (exec_eql rfl e0 e1) (hK _ _ hG (Keep.refl _ _) rfl)
          | 49, _ => by
            intro a w hG hf hT K hK
            have e0 : a.tmps.getD 71 undef = .bool g71 := hT 39 (by kernel_rfl)
            have e1 : a.tmps.getD 80 undef = bif !g71 then .bool (t11xy == t8xy) else undef := hT 48 (by kernel_rfl)
            refine op_run rfl rfl (exec_pick rfl e0) (hK _ _ hG (Keep.refl _ _) ?_)
            show (bif g71 then .bool true else a.tmps.getD 80 undef) = .bool (g71 || (t11xy == t8xy))
            rw [e1, Hg71.out]
            cases g60 <;> cases g71 <;> cases t10xy <;> cases t11xy <;> cases t8xy <;> cases t9xy <;> rfl
          | m + 50, h => absurd h (by omega)
        ) (fun a w hG hT => ?_)
        have eL : a.tmps.getD 81 undef = .bool (g71 || (t11xy == t8xy)) := hT 49 (by decide)
        refine hK _ _ (Met.intro (hJ _ _ ?_))
        repeat apply Exists.intro
        refine ⟨?rel, rfl⟩
        case rel => exact ⟨eL.trans (congrArg Value.bool HE.out), hG⟩
      case rest =>
        obtain ⟨rfl, hx⟩ := hcut
        clear HX
        have HX := Lib.hid hx
        clear hx
        go_wp2_with fail
        go_loopw [10] (fun iv wr => ∃ j : Nat, j ≤ 5 ∧ iv = .int .i64 ((j : Int) + 7) ∧ Road w wr [⟨Bz, z, qz, Az, nz, cz⟩, ⟨By, y, qy, Ay, ny, cy⟩, ⟨Bx, x, qx, Ax, nx, cx⟩]) (fun iv _ => 12 - (intOf iv).toNat)
        case atStart => exact ⟨0, by decide, rfl, HX.out⟩
        case round =>
          obtain ⟨j, hj, rfl, hx⟩ := hrel
          clear HX
          have HX := Lib.hid hx
          clear hx
          by_cases h4 : j < 5
          · have l1 : decide ((j : Int) + 7 ≤ 11) = true := decide_eq_true (by omega)
            have l2 : decide ((j : Int) ≤ 4) = true := decide_eq_true (by omega)
            obtain ⟨tjInt7xyz, htjInt7xyz⟩ : ∃ t, t = orderB ((j : Int) + 7) [x, y, z] := ⟨_, rfl⟩
            have YtjInt7xyz := Lib.hid (yes_cmp ((j : Int) + 7) (by omega) 3 (by decide) (by decide) [x, y, z] rfl tjInt7xyz htjInt7xyz)
            have HtjInt7xyz := Lib.hid htjInt7xyz
            clear htjInt7xyz
            obtain ⟨tjInt7xy, htjInt7xy⟩ : ∃ t, t = orderB ((j : Int) + 7) [x, y] := ⟨_, rfl⟩
            have YtjInt7xy := Lib.hid (yes_cmp ((j : Int) + 7) (by omega) 2 (by decide) (by decide) [x, y] rfl tjInt7xy htjInt7xy)
            have HtjInt7xy := Lib.hid htjInt7xy
            clear htjInt7xy
            obtain ⟨tjInt7yz, htjInt7yz⟩ : ∃ t, t = orderB ((j : Int) + 7) [y, z] := ⟨_, rfl⟩
            have YtjInt7yz := Lib.hid (yes_cmp ((j : Int) + 7) (by omega) 2 (by decide) (by decide) [y, z] rfl tjInt7yz htjInt7yz)
            have HtjInt7yz := Lib.hid htjInt7yz
            clear htjInt7yz
            obtain ⟨tjInt7x, htjInt7x⟩ : ∃ t, t = orderB ((j : Int) + 7) [x] := ⟨_, rfl⟩
            have YtjInt7x := Lib.hid (yes_cmp ((j : Int) + 7) (by omega) 1 (by decide) (by decide) [x] rfl tjInt7x htjInt7x)
            have HtjInt7x := Lib.hid htjInt7x
            clear htjInt7x
            go_upto_region 9 with fail
            go_cut [111] from 86 to 111 (fun v wy => v = .bool false ∧ Road w wy [⟨Bz, z, qz, Az, nz, cz⟩, ⟨By, y, qy, Ay, ny, cy⟩, ⟨Bx, x, qx, Ax, nx, cx⟩])
            case first =>
              rename_i J K hJ hK
              obtain ⟨g97, hg97⟩ : ∃ b : Bool, b = tjInt7xy := ⟨_, rfl⟩
              have Hg97 := Lib.hid hg97
              clear hg97
              obtain ⟨g105, hg105⟩ : ∃ b : Bool, b = (tjInt7xyz != (g97 && tjInt7yz)) := ⟨_, rfl⟩
              have Hg105 := Lib.hid hg105
              clear hg105
              have HE := Lib.hid (show (g105 || (!tjInt7x)) = false from by
                have a1 : tjInt7xyz = (tjInt7xy && tjInt7yz) := by rw [HtjInt7xyz.out, HtjInt7xy.out, HtjInt7yz.out, so_three]
                have a2 : tjInt7x = true := HtjInt7x.out
                rw [Hg105.out, Hg97.out, a1, a2]
                generalize tjInt7xy = b1
                generalize tjInt7yz = b2
                cases b1 <;> cases b2 <;> rfl)
              refine region_vals (by kernel_rfl) 26 (by kernel_rfl) (by kernel_rfl) (fun i => 86 + i) (fun k => Nat.ble 86 k && Nat.ble k 111) (fun i _ j _ h => by have h2 : 86 + i = 86 + j := h; omega) (fun i hi => by simp only [Bool.and_eq_true, Nat.ble_eq]; omega) (fun i hi => Nat.lt_of_lt_of_le (show 86 + i < 112 by omega) (Nat.le_of_ble_eq_true rfl)) (fun w' => Road w w' [⟨Bz, z, qz, Az, nz, cz⟩, ⟨By, y, qy, Ay, ny, cy⟩, ⟨Bx, x, qx, Ax, nx, cx⟩]) (HX.out.keep (Keep.refl _ _).drew) (fun i => (([Sp.val true (.int .i64 ((j : Int) + 7)), Sp.val true (datV 4 qx Ax nx cx ⟨#[]⟩), Sp.val true (datV 4 qy Ay ny cy ⟨#[]⟩), Sp.val true (datV 4 qz Az nz cz ⟨#[]⟩), Sp.row true 3 [x, y, z], Sp.val true (.bool tjInt7xyz), Sp.val true (.int .i64 ((j : Int) + 7)), Sp.val true (datV 4 qx Ax nx cx ⟨#[]⟩), Sp.val true (datV 4 qy Ay ny cy ⟨#[]⟩), Sp.row true 2 [x, y], Sp.val true (.bool tjInt7xy), Sp.val true (.bool g97), Sp.val (g97) (.int .i64 ((j : Int) + 7)), Sp.val (g97) (datV 4 qy Ay ny cy ⟨#[]⟩), Sp.val (g97) (datV 4 qz Az nz cz ⟨#[]⟩), Sp.row (g97) 2 [y, z], Sp.val (g97) (.bool tjInt7yz), Sp.val true (.bool (g97 && tjInt7yz)), Sp.val true (.bool (tjInt7xyz != (g97 && tjInt7yz))), Sp.val true (.bool g105), Sp.val (!g105) (.int .i64 ((j : Int) + 7)), Sp.val (!g105) (datV 4 qx Ax nx cx ⟨#[]⟩), Sp.row (!g105) 1 [x], Sp.val (!g105) (.bool tjInt7x), Sp.val (!g105) (.bool (!tjInt7x)), Sp.val true (.bool (g105 || (!tjInt7x)))] : List Sp).getD i (Sp.val false undef)).T) (fun i => Sp.mono _) (fun i hi => match i, hi with
                | 0, _ => by
                  intro a w hG hf hT K hK
                  exact op_run rfl rfl (exec_move rfl) (hK _ _ hG (Keep.refl _ _) (hf 10 rfl))
                | 1, _ => by
                  intro a w hG hf hT K hK
                  exact op_run rfl rfl (exec_load (b := ⟨Bx, x, qx, Ax, nx, cx⟩) rfl (hf 7 rfl) hG (List.mem_cons_of_mem _ (List.mem_cons_of_mem _ List.mem_cons_self))) (hK _ _ hG (Keep.refl _ _) rfl)
                | 2, _ => by
                  intro a w hG hf hT K hK
                  exact op_run rfl rfl (exec_load (b := ⟨By, y, qy, Ay, ny, cy⟩) rfl (hf 8 rfl) hG (List.mem_cons_of_mem _ List.mem_cons_self)) (hK _ _ hG (Keep.refl _ _) rfl)
                | 3, _ => by
                  intro a w hG hf hT K hK
                  exact op_run rfl rfl (exec_load (b := ⟨Bz, z, qz, Az, nz, cz⟩) rfl (hf 9 rfl) hG List.mem_cons_self) (hK _ _ hG (Keep.refl _ _) rfl)
                | 4, _ => by
                  intro a w hG hf hT K hK
                  have e0 : a.tmps.getD 87 undef = datV 4 qx Ax nx cx ⟨#[]⟩ := hT 1 (by kernel_rfl)
                  have e1 : a.tmps.getD 88 undef = datV 4 qy Ay ny cy ⟨#[]⟩ := hT 2 (by kernel_rfl)
                  have e2 : a.tmps.getD 89 undef = datV 4 qz Az nz cz ⟨#[]⟩ := hT 3 (by kernel_rfl)
                  exact op_run rfl rfl (exec_row3 rfl e0 e1 e2) (hK _ _ (hG.keep ((Keep.refl _ _).alloc _)) ((Keep.refl _ _).alloc _) ⟨_, rfl, hG.args [⟨Bx, x, qx, Ax, nx, cx⟩, ⟨By, y, qy, Ay, ny, cy⟩, ⟨Bz, z, qz, Az, nz, cz⟩] _ rfl (List.forall_mem_cons.2 ⟨(List.mem_cons_of_mem _ (List.mem_cons_of_mem _ List.mem_cons_self)), (List.forall_mem_cons.2 ⟨(List.mem_cons_of_mem _ List.mem_cons_self), (List.forall_mem_cons.2 ⟨List.mem_cons_self, (fun _ h => absurd h List.not_mem_nil)⟩)⟩)⟩) _ rfl⟩)
                | 5, _ => by
                  intro a w hG hf hT K hK
                  have e0 : a.tmps.getD 86 undef = .int .i64 ((j : Int) + 7) := hT 0 (by kernel_rfl)
                  obtain ⟨R90, e1, ha⟩ : ∃ R, a.tmps.getD 90 undef = .slice (some ⟨R, 0, none⟩) 3 3 ∧ ArgsR w (some ⟨R, 0, none⟩) [x, y, z] := hT 4 (by kernel_rfl)
                  refine op_call rfl rfl (exec_call2 call12 rfl rfl rfl e0 e1) (YtjInt7xyz.out _ _ _ ha) (fun e w2 he => ?_)
                  obtain ⟨rfl, kk⟩ := he
                  exact ⟨_, rfl, hK _ _ (hG.keep kk) kk rfl⟩
                | 6, _ => by
                  intro a w hG hf hT K hK
                  exact op_run rfl rfl (exec_move rfl) (hK _ _ hG (Keep.refl _ _) (hf 10 rfl))
                | 7, _ => by
                  intro a w hG hf hT K hK
                  exact op_run rfl rfl (exec_load (b := ⟨Bx, x, qx, Ax, nx, cx⟩) rfl (hf 7 rfl) hG (List.mem_cons_of_mem _ (List.mem_cons_of_mem _ List.mem_cons_self))) (hK _ _ hG (Keep.refl _ _) rfl)
                | 8, _ => by
                  intro a w hG hf hT K hK
                  exact op_run rfl rfl (exec_load (b := ⟨By, y, qy, Ay, ny, cy⟩) rfl (hf 8 rfl) hG (List.mem_cons_of_mem _ List.mem_cons_self)) (hK _ _ hG (Keep.refl _ _) rfl)
                | 9, _ => by
                  intro a w hG hf hT K hK
                  have e0 : a.tmps.getD 93 undef = datV 4 qx Ax nx cx ⟨#[]⟩ := hT 7 (by kernel_rfl)
                  have e1 : a.tmps.getD 94 undef = datV 4 qy Ay ny cy ⟨#[]⟩ := hT 8 (by kernel_rfl)
                  exact op_run rfl rfl (exec_row2 rfl e0 e1) (hK _ _ (hG.keep ((Keep.refl _ _).alloc _)) ((Keep.refl _ _).alloc _) ⟨_, rfl, hG.args [⟨Bx, x, qx, Ax, nx, cx⟩, ⟨By, y, qy, Ay, ny, cy⟩] _ rfl (List.forall_mem_cons.2 ⟨(List.mem_cons_of_mem _ (List.mem_cons_of_mem _ List.mem_cons_self)), (List.forall_mem_cons.2 ⟨(List.mem_cons_of_mem _ List.mem_cons_self), (fun _ h => absurd h List.not_mem_nil)⟩)⟩) _ rfl⟩)
                | 10, _ => by
                  intro a w hG hf hT K hK
                  have e0 : a.tmps.getD 92 undef = .int .i64 ((j : Int) + 7) := hT 6 (by kernel_rfl)
                  obtain ⟨R95, e1, ha⟩ : ∃ R, a.tmps.getD 95 undef = .slice (some ⟨R, 0, none⟩) 2 2 ∧ ArgsR w (some ⟨R, 0, none⟩) [x, y] := hT 9 (by kernel_rfl)
                  refine op_call rfl rfl (exec_call2 call12 rfl rfl rfl e0 e1) (YtjInt7xy.out _ _ _ ha) (fun e w2 he => ?_)
                  obtain ⟨rfl, kk⟩ := he
                  exact ⟨_, rfl, hK _ _ (hG.keep kk) kk rfl⟩
                | 11, _ => by
                  intro a w hG hf hT K hK
                  have e0 : a.tmps.getD 96 undef = .bool tjInt7xy := hT 10 (by kernel_rfl)
                  exact op_run rfl rfl (exec_move rfl) (hK _ _ hG (Keep.refl _ _) (e0.trans (by rw [Hg97.out]; rfl)))
                | 12, _ => by
                  intro a w hG hf hT K hK
                  have e9 : a.tmps.getD 97 undef = .bool g97 := hT 11 (by kernel_rfl)
                  cases g97
                  case false => exact op_shut rfl (want_off (k := 11) (s := 97) (b := true) rfl rfl e9) (hK _ _ hG (Keep.refl _ _) rfl)
                  case true =>
                    exact op_run rfl (want_on (k := 11) (s := 97) (b := true) rfl rfl e9) (exec_move rfl) (hK _ _ hG (Keep.refl _ _) (hf 10 rfl))
                | 13, _ => by
                  intro a w hG hf hT K hK
                  have e9 : a.tmps.getD 97 undef = .bool g97 := hT 11 (by kernel_rfl)
                  cases g97
                  case false => exact op_shut rfl (want_off (k := 11) (s := 97) (b := true) rfl rfl e9) (hK _ _ hG (Keep.refl _ _) rfl)
                  case true =>
                    exact op_run rfl (want_on (k := 11) (s := 97) (b := true) rfl rfl e9) (exec_load (b := ⟨By, y, qy, Ay, ny, cy⟩) rfl (hf 8 rfl) hG (List.mem_cons_of_mem _ List.mem_cons_self)) (hK _ _ hG (Keep.refl _ _) rfl)
                | 14, _ => by
                  intro a w hG hf hT K hK
                  have e9 : a.tmps.getD 97 undef = .bool g97 := hT 11 (by kernel_rfl)
                  cases g97
                  case false => exact op_shut rfl (want_off (k := 11) (s := 97) (b := true) rfl rfl e9) (hK _ _ hG (Keep.refl _ _) rfl)
                  case true =>
                    exact op_run rfl (want_on (k := 11) (s := 97) (b := true) rfl rfl e9) (exec_load (b := ⟨Bz, z, qz, Az, nz, cz⟩) rfl (hf 9 rfl) hG List.mem_cons_self) (hK _ _ hG (Keep.refl _ _) rfl)
                | 15, _ => by
                  intro a w hG hf hT K hK
                  have e9 : a.tmps.getD 97 undef = .bool g97 := hT 11 (by kernel_rfl)
                  cases g97
                  case false => exact op_shut rfl (want_off (k := 11) (s := 97) (b := true) rfl rfl e9) (hK _ _ hG (Keep.refl _ _) rfl)
                  case true =>
                    have e0 : a.tmps.getD 99 undef = datV 4 qy Ay ny cy ⟨#[]⟩ := hT 13 (by kernel_rfl)
                    have e1 : a.tmps.getD 100 undef = datV 4 qz Az nz cz ⟨#[]⟩ := hT 14 (by kernel_rfl)
                    exact op_run rfl (want_on (k := 11) (s := 97) (b := true) rfl rfl e9) (exec_row2 rfl e0 e1) (hK _ _ (hG.keep ((Keep.refl _ _).alloc _)) ((Keep.refl _ _).alloc _) ⟨_, rfl, hG.args [⟨By, y, qy, Ay, ny, cy⟩, ⟨Bz, z, qz, Az, nz, cz⟩] _ rfl (List.forall_mem_cons.2 ⟨(List.mem_cons_of_mem _ List.mem_cons_self), (List.forall_mem_cons.2 ⟨List.mem_cons_self, (fun _ h => absurd h List.not_mem_nil)⟩)⟩) _ rfl⟩)
                | 16, _ => by
                  intro a w hG hf hT K hK
                  have e9 : a.tmps.getD 97 undef = .bool g97 := hT 11 (by kernel_rfl)
                  cases g97
                  case false => exact op_shut rfl (want_off (k := 11) (s := 97) (b := true) rfl rfl e9) (hK _ _ hG (Keep.refl _ _) rfl)
                  case true =>
                    have e0 : a.tmps.getD 98 undef = .int .i64 ((j : Int) + 7) := hT 12 (by kernel_rfl)
                    obtain ⟨R101, e1, ha⟩ : ∃ R, a.tmps.getD 101 undef = .slice (some ⟨R, 0, none⟩) 2 2 ∧ ArgsR w (some ⟨R, 0, none⟩) [y, z] := hT 15 (by kernel_rfl)
                    refine op_call rfl (want_on (k := 11) (s := 97) (b := true) rfl rfl e9) (exec_call2 call12 rfl rfl rfl e0 e1) (YtjInt7yz.out _ _ _ ha) (fun e w2 he => ?_)
                    obtain ⟨rfl, kk⟩ := he
                    exact ⟨_, rfl, hK _ _ (hG.keep kk) kk rfl⟩
                | 17, _ => by
                  intro a w hG hf hT K hK
                  have e0 : a.tmps.getD 97 undef = .bool g97 := hT 11 (by kernel_rfl)
                  have e1 : a.tmps.getD 102 undef = bif g97 then .bool tjInt7yz else undef := hT 16 (by kernel_rfl)
                  refine op_run rfl rfl (exec_pick rfl e0) (hK _ _ hG (Keep.refl _ _) ?_)
                  show (bif g97 then a.tmps.getD 102 undef else .bool false) = .bool (g97 && tjInt7yz)
                  rw [e1, Hg97.out]
                  cases g97 <;> cases tjInt7xy <;> cases tjInt7yz <;> rfl
                | 18, _ => by
                  intro a w hG hf hT K hK
                  have e0 : a.tmps.getD 91 undef = .bool tjInt7xyz := hT 5 (by kernel_rfl)
                  have e1 : a.tmps.getD 103 undef = .bool (g97 && tjInt7yz) := hT 17 (by kernel_rfl)
                  exact op_run rfl rfl (exec_neq rfl e0 e1) (hK _ _ hG (Keep.refl _ _) rfl)
                | 19, _ => by
                  intro a w hG hf hT K hK
                  have e0 : a.tmps.getD 104 undef = .bool (tjInt7xyz != (g97 && tjInt7yz)) := hT 18 (by kernel_rfl)
                  exact op_run rfl rfl (exec_move rfl) (hK _ _ hG (Keep.refl _ _) (e0.trans (by rw [Hg105.out]; rfl)))
                | 20, _ => by
                  intro a w hG hf hT K hK
                  have e9 : a.tmps.getD 105 undef = .bool g105 := hT 19 (by kernel_rfl)
                  cases g105
                  case true => exact op_shut rfl (want_off (k := 19) (s := 105) (b := false) rfl rfl e9) (hK _ _ hG (Keep.refl _ _) rfl)
                  case false =>
                    exact op_run rfl (want_on (k := 19) (s := 105) (b := false) rfl rfl e9) (exec_move rfl) (hK _ _ hG (Keep.refl _ _) (hf 10 rfl))
                | 21, _ => by
                  intro a w hG hf hT K hK
                  have e9 : a.tmps.getD 105 undef = .bool g105 := hT 19 (by kernel_rfl)
                  cases g105
                  case true => exact op_shut rfl (want_off (k := 19) (s := 105) (b := false) rfl rfl e9) (hK _ _ hG (Keep.refl _ _) rfl)
                  case false =>
                    exact op_run rfl (want_on (k := 19) (s := 105) (b := false) rfl rfl e9) (exec_load (b := ⟨Bx, x, qx, Ax, nx, cx⟩) rfl (hf 7 rfl) hG (List.mem_cons_of_mem _ (List.mem_cons_of_mem _ List.mem_cons_self))) (hK _ _ hG (Keep.refl _ _) rfl)
                | 22, _ => by
                  intro a w hG hf hT K hK
                  have e9 : a.tmps.getD 105 undef = .bool g105 := hT 19 (by kernel_rfl)
                  cases g105
                  case true => exact op_shut rfl (want_off (k := 19) (s := 105) (b := false) rfl rfl e9) (hK _ _ hG (Keep.refl _ _) rfl)
                  case false =>
                    have e0 : a.tmps.getD 107 undef = datV 4 qx Ax nx cx ⟨#[]⟩ := hT 21 (by kernel_rfl)
                    exact op_run rfl (want_on (k := 19) (s := 105) (b := false) rfl rfl e9) (exec_row1 rfl e0) (hK _ _ (hG.keep ((Keep.refl _ _).alloc _)) ((Keep.refl _ _).alloc _) ⟨_, rfl, hG.args [⟨Bx, x, qx, Ax, nx, cx⟩] _ rfl (List.forall_mem_cons.2 ⟨(List.mem_cons_of_mem _ (List.mem_cons_of_mem _ List.mem_cons_self)), (fun _ h => absurd h List.not_mem_nil)⟩) _ rfl⟩)
                | 23, _ => by
                  intro a w hG hf hT K hK
                  have e9 : a.tmps.getD 105 undef = .bool g105 := hT 19 (by kernel_rfl)
                  cases g105
                  case true => exact op_shut rfl (want_off (k := 19) (s := 105) (b := false) rfl rfl e9) (hK _ _ hG (Keep.refl _ _) rfl)
                  case false =>
                    have e0 : a.tmps.getD 106 undef = .int .i64 ((j : Int) + 7) := hT 20 (by kernel_rfl)
                    obtain ⟨R108, e1, ha⟩ : ∃ R, a.tmps.getD 108 undef = .slice (some ⟨R, 0, none⟩) 1 1 ∧ ArgsR w (some ⟨R, 0, none⟩) [x] := hT 22 (by kernel_rfl)
                    refine op_call rfl (want_on (k := 19) (s := 105) (b := false) rfl rfl e9) (exec_call2 call12 rfl rfl rfl e0 e1) (YtjInt7x.out _ _ _ ha) (fun e w2 he => ?_)
                    obtain ⟨rfl, kk⟩ := he
                    exact ⟨_, rfl, hK _ _ (hG.keep kk) kk rfl⟩
                | 24, _ => by
                  intro a w hG hf hT K hK
                  have e9 : a.tmps.getD 105 undef = .bool g105 := hT 19 (by kernel_rfl)
                  cases g105
                  case true => exact op_shut rfl (want_off (k := 19) (s := 105) (b := false) rfl rfl e9) (hK _ _ hG (Keep.refl _ _) rfl)
                  case false =>
                    have e0 : a.tmps.getD 109 undef = .bool tjInt7x := hT 23 (by kernel_rfl)
                    exact op_run rfl (want_on (k := 19) (s := 105) (b := false) rfl rfl e9) (exec_not rfl e0) (hK _ _ hG (Keep.refl _ _) rfl)
                | 25, _ => by
                  intro a w hG hf hT K hK
                  have e0 : a.tmps.getD 105 undef = .bool g105 := hT 19 (by kernel_rfl)
                  have e1 : a.tmps.getD 110 undef = bif !g105 then .bool (!tjInt7x) else undef := hT 24 (by kernel_rfl)
                  refine op_run rfl rfl (exec_pick rfl e0) (hK _ _ hG (Keep.refl _ _) ?_)
                  show (bif g105 then .bool true else a.tmps.getD 110 undef) = .bool (g105 || (!tjInt7x))
                  rw [e1, Hg105.out]
                  cases g105 <;> cases g97 <;> cases tjInt7x <;> cases tjInt7xyz <;> cases tjInt7yz <;> rfl
                | m + 26, h => absurd h (by omega)
              ) (fun a w hG hT => ?_)
              have eL : a.tmps.getD 111 undef = .bool (g105 || (!tjInt7x)) := hT 25 (by decide)
              refine hK _ _ (Met.intro (hJ _ _ ?_))
              repeat apply Exists.intro
              refine ⟨?rel, rfl⟩
              case rel => exact ⟨eL.trans (congrArg Value.bool HE.out), hG⟩
            case rest =>
              obtain ⟨rfl, hx⟩ := hcut
              clear HX
              have HX := Lib.hid hx
              clear hx
              go_wp2_with fail
              go_roundw
              case rel => exact ⟨j + 1, h4, by go_num, HX.out⟩
              case measure => simp only [intOf]; omega
          · have l1 : decide ((j : Int) + 7 ≤ 11) = false := decide_eq_false (by omega)
            have l2 : decide ((j : Int) ≤ 4) = false := decide_eq_false (by omega)
            obtain rfl : j = 5 := by omega
            obtain ⟨vt, hvt⟩ : ∃ v, v = bestV 12 x [y, z] := ⟨_, rfl⟩
            obtain ⟨vl, hvl⟩ : ∃ v, v = bestV 13 x [y, z] := ⟨_, rfl⟩
            have HB := Lib.hid (And.intro hvt hvl)
            clear hvt hvl
            have HBT := Lib.hid (show x ≤ vt ∧ y ≤ vt ∧ z ≤ vt from by rw [HB.out.1]; exact best_12 x y z)
            have HBL := Lib.hid (show vl ≤ x ∧ vl ≤ y ∧ vl ≤ z from by rw [HB.out.2]; exact best_13 x y z)
            obtain ⟨x0, x1, x2, x3, x4, x5⟩ := HX.out.cells ⟨Bx, x, qx, Ax, nx, cx⟩ (List.mem_cons_of_mem _ (List.mem_cons_of_mem _ List.mem_cons_self))
            obtain ⟨y0, y1, y2, y3, y4, y5⟩ := HX.out.cells ⟨By, y, qy, Ay, ny, cy⟩ (List.mem_cons_of_mem _ List.mem_cons_self)
            obtain ⟨z0, z1, z2, z3, z4, z5⟩ := HX.out.cells ⟨Bz, z, qz, Az, nz, cz⟩ List.mem_cons_self
            go_wp2_with fail
            refine (run_best 12 (.inl rfl) _ _ _ x y z (HX.out.args [⟨Bx, x, qx, Ax, nx, cx⟩, ⟨By, y, qy, Ay, ny, cy⟩, ⟨Bz, z, qz, Az, nz, cz⟩] _ (by rfl) (List.forall_mem_cons.2 ⟨(List.mem_cons_of_mem _ (List.mem_cons_of_mem _ List.mem_cons_self)), (List.forall_mem_cons.2 ⟨(List.mem_cons_of_mem _ List.mem_cons_self), (List.forall_mem_cons.2 ⟨List.mem_cons_self, (fun _ h => absurd h List.not_mem_nil)⟩)⟩)⟩) _ (by simp))).mono ?_
            rintro e w11 hre
            clear x0 x1 x2 x3 x4 x5 y0 y1 y2 y3 y4 y5 z0 z1 z2 z3 z4 z5
            rw [← HB.out.1] at hre
            obtain ⟨qt, At, nt, ct, rfl, kk, hv⟩ := hre.good
            have HX1 := Lib.hid ((HX.out.keep (((Keep.refl _ _).alloc _).trans kk)).new hv)
            clear hv kk hre
            clear HX
            have HX := HX1
            clear HX1
            obtain ⟨x0, x1, x2, x3, x4, x5⟩ := HX.out.cells ⟨Bx, x, qx, Ax, nx, cx⟩ (List.mem_cons_of_mem _ (List.mem_cons_of_mem _ (List.mem_cons_of_mem _ List.mem_cons_self)))
            obtain ⟨y0, y1, y2, y3, y4, y5⟩ := HX.out.cells ⟨By, y, qy, Ay, ny, cy⟩ (List.mem_cons_of_mem _ (List.mem_cons_of_mem _ List.mem_cons_self))
            obtain ⟨z0, z1, z2, z3, z4, z5⟩ := HX.out.cells ⟨Bz, z, qz, Az, nz, cz⟩ (List.mem_cons_of_mem _ List.mem_cons_self)
            go_wp2_with fail
            refine (run_best 13 (.inr rfl) _ _ _ x y z (HX.out.args [⟨Bx, x, qx, Ax, nx, cx⟩, ⟨By, y, qy, Ay, ny, cy⟩, ⟨Bz, z, qz, Az, nz, cz⟩] _ (by rfl) (List.forall_mem_cons.2 ⟨(List.mem_cons_of_mem _ (List.mem_cons_of_mem _ (List.mem_cons_of_mem _ List.mem_cons_self))), (List.forall_mem_cons.2 ⟨(List.mem_cons_of_mem _ (List.mem_cons_of_mem _ List.mem_cons_self)), (List.forall_mem_cons.2 ⟨(List.mem_cons_of_mem _ List.mem_cons_self), (fun _ h => absurd h List.not_mem_nil)⟩)⟩)⟩) _ (by simp))).mono ?_
            rintro e w12 hre
            clear x0 x1 x2 x3 x4 x5 y0 y1 y2 y3 y4 y5 z0 z1 z2 z3 z4 z5
            rw [← HB.out.2] at hre
            obtain ⟨ql, Al, nl, cl, rfl, kk, hv⟩ := hre.good
            have HX1 := Lib.hid ((HX.out.keep (((Keep.refl _ _).alloc _).trans kk)).new hv)
            clear hv kk hre
            clear HX
            have HX := HX1
            clear HX1
            generalize w11.heap.size = Bt at HX ⊢
            obtain ⟨x0, x1, x2, x3, x4, x5⟩ := HX.out.cells ⟨Bx, x, qx, Ax, nx, cx⟩ (List.mem_cons_of_mem _ (List.mem_cons_of_mem _ (List.mem_cons_of_mem _ (List.mem_cons_of_mem _ List.mem_cons_self))))
            obtain ⟨y0, y1, y2, y3, y4, y5⟩ := HX.out.cells ⟨By, y, qy, Ay, ny, cy⟩ (List.mem_cons_of_mem _ (List.mem_cons_of_mem _ (List.mem_cons_of_mem _ List.mem_cons_self)))
            obtain ⟨z0, z1, z2, z3, z4, z5⟩ := HX.out.cells ⟨Bz, z, qz, Az, nz, cz⟩ (List.mem_cons_of_mem _ (List.mem_cons_of_mem _ List.mem_cons_self))
            go_upto_region 16 with fail
            clear x0 x1 x2 x3 x4 x5 y0 y1 y2 y3 y4 y5 z0 z1 z2 z3 z4 z5
            have hrow := heap_alloc_new (w12.alloc (datC 4 ql Al nl cl ⟨#[]⟩)) (.cells #[.int .i64 4, .int .i32 0, .bool qx, .slice Ax nx cx, .string ⟨#[]⟩, .slice none 0 0, .int .i64 4, .int .i32 0, .bool qy, .slice Ay ny cy, .string ⟨#[]⟩, .slice none 0 0, .int .i64 4, .int .i32 0, .bool qz, .slice Az nz cz, .string ⟨#[]⟩, .slice none 0 0] 27)
            rw [World.size_alloc] at hrow
            have HX1 := Lib.hid (HX.out.other (.cells #[.int .i64 4, .int .i32 0, .bool qx, .slice Ax nx cx, .string ⟨#[]⟩, .slice none 0 0, .int .i64 4, .int .i32 0, .bool qy, .slice Ay ny cy, .string ⟨#[]⟩, .slice none 0 0, .int .i64 4, .int .i32 0, .bool qz, .slice Az nz cz, .string ⟨#[]⟩, .slice none 0 0] 27))
            clear HX
            have HX := HX1
            clear HX1
            generalize (w12.alloc (datC 4 ql Al nl cl ⟨#[]⟩)).alloc (.cells #[.int .i64 4, .int .i32 0, .bool qx, .slice Ax nx cx, .string ⟨#[]⟩, .slice none 0 0, .int .i64 4, .int .i32 0, .bool qy, .slice Ay ny cy, .string ⟨#[]⟩, .slice none 0 0, .int .i64 4, .int .i32 0, .bool qz, .slice Az nz cz, .string ⟨#[]⟩, .slice none 0 0] 27) = wA at HX hrow ⊢
            generalize w12.heap.size = Bl at HX hrow ⊢
            have HRW := Lib.hid hrow
            clear hrow
            go_wp2_with fail
            go_loopw [16, 17, 18] (fun sv lv iv wr => ∃ i : Nat, i ≤ 3 ∧ sv = .bool (anyB vt x y z i) ∧ lv = .bool (anyB vl x y z i) ∧ iv = .int .i64 (i : Int) ∧ Road w wr [⟨Bl, vl, ql, Al, nl, cl⟩, ⟨Bt, vt, qt, At, nt, ct⟩, ⟨Bz, z, qz, Az, nz, cz⟩, ⟨By, y, qy, Ay, ny, cy⟩, ⟨Bx, x, qx, Ax, nx, cx⟩] ∧ Keep (fun _ => False) wA wr) (fun _ _ iv _ => 3 - (intOf iv).toNat)
            case atStart => exact ⟨0, by decide, rfl, rfl, rfl, HX.out, Keep.refl _ _⟩
            case round =>
              obtain ⟨i, hi, rfl, rfl, rfl, hx, kA⟩ := hrel
              clear HX
              have HX := Lib.hid hx
              have HKA := Lib.hid kA
              clear hx kA
              by_cases h5 : i < 3
              · rcases (by omega : i = 0 ∨ i = 1 ∨ i = 2) with rfl | rfl | rfl
                ·
                  obtain ⟨sb, hsb⟩ : ∃ s, s = anyB vt x y z 0 := ⟨_, rfl⟩
                  obtain ⟨sb2, hsb2⟩ : ∃ s, s = anyB vt x y z 1 := ⟨_, rfl⟩
                  obtain ⟨sb3, hsb3⟩ : ∃ s, s = decide (vt = x) := ⟨_, rfl⟩
                  have Hsb := Lib.hid (And.intro hsb hsb2)
                  have HQsb := Lib.hid hsb3
                  have HSsb := Lib.hid (show sb2 = (sb || sb3) from by rw [hsb, hsb2, hsb3]; rfl)
                  rw [← hsb]
                  clear hsb hsb2 hsb3
                  obtain ⟨lb, hlb⟩ : ∃ s, s = anyB vl x y z 0 := ⟨_, rfl⟩
                  obtain ⟨lb2, hlb2⟩ : ∃ s, s = anyB vl x y z 1 := ⟨_, rfl⟩
                  obtain ⟨lb3, hlb3⟩ : ∃ s, s = decide (vl = x) := ⟨_, rfl⟩
                  have Hlb := Lib.hid (And.intro hlb hlb2)
                  have HQlb := Lib.hid hlb3
                  have HSlb := Lib.hid (show lb2 = (lb || lb3) from by rw [hlb, hlb2, hlb3]; rfl)
                  rw [← hlb]
                  clear hlb hlb2 hlb3
                  go_upto_region 20 with fail
                  go_cut [16] from 142 to 150 (fun v wy => v = .bool sb2 ∧ Road w wy [⟨Bl, vl, ql, Al, nl, cl⟩, ⟨Bt, vt, qt, At, nt, ct⟩, ⟨Bz, z, qz, Az, nz, cz⟩, ⟨By, y, qy, Ay, ny, cy⟩, ⟨Bx, x, qx, Ax, nx, cx⟩] ∧ Keep (fun _ => False) wA wy)
                  case first =>
                    rename_i J K hJ hK
                    have HC := Lib.hid (fun (w' : World) (hx : Road w w' [⟨Bl, vl, ql, Al, nl, cl⟩, ⟨Bt, vt, qt, At, nt, ct⟩, ⟨Bz, z, qz, Az, nz, cz⟩, ⟨By, y, qy, Ay, ny, cy⟩, ⟨Bx, x, qx, Ax, nx, cx⟩]) (K : Keep (fun _ => False) wA w') => (show w'.cell? ⟨Bt, 0, none⟩ = some (.int .i64 4) ∧ w'.cell? ⟨Bt, 1, none⟩ = some (.int .i32 0) ∧ w'.cell? ⟨Bt, 2, none⟩ = some (.bool qt) ∧ w'.cell? ⟨Bt, 3, none⟩ = some (.slice At nt ct) ∧ w'.cell? ⟨Bt, 4, none⟩ = some (.string ⟨#[]⟩) ∧ w'.cell? ⟨Bt, 5, none⟩ = some (.slice none 0 0) ∧ w'.cell? ⟨(Bl + 1), 0, none⟩ = some (.int .i64 4) ∧ w'.cell? ⟨(Bl + 1), 1, none⟩ = some (.int .i32 0) ∧ w'.cell? ⟨(Bl + 1), 2, none⟩ = some (.bool qx) ∧ w'.cell? ⟨(Bl + 1), 3, none⟩ = some (.slice Ax nx cx) ∧ w'.cell? ⟨(Bl + 1), 4, none⟩ = some (.string ⟨#[]⟩) ∧ w'.cell? ⟨(Bl + 1), 5, none⟩ = some (.slice none 0 0) from by
                      obtain ⟨a0, a1, a2, a3, a4, a5⟩ := hx.cells ⟨Bt, vt, qt, At, nt, ct⟩ (List.mem_cons_of_mem _ List.mem_cons_self)
                      have hr := K.heap HRW.out id
                      exact ⟨a0, a1, a2, a3, a4, a5, by rw [cell_of_row _ _ _ _ _ _ hr]; rfl, by rw [cell_of_row _ _ _ _ _ _ hr]; rfl, by rw [cell_of_row _ _ _ _ _ _ hr]; rfl, by rw [cell_of_row _ _ _ _ _ _ hr]; rfl, by rw [cell_of_row _ _ _ _ _ _ hr]; rfl, by rw [cell_of_row _ _ _ _ _ _ hr]; rfl⟩))
                    have KD := HKA.out.trans ((Keep.refl _ _).drew)
                    have HXD := HX.out.keep ((Keep.refl _ _).drew)
                    cases sb
                    case true =>
                      clear HC
                      refine wp_region_held_drew (S := fun _ => True) (by kernel_rfl) trivial (fun hHeld => ?_)
                      refine wpAnyH_take (i := 0) (oi := _) (v := ?_) rfl (by kernel_rfl) (by kernel_rfl) (by kernel_rfl) (fun _ _ _ h => h) (Or.inl ⟨by rfl, ?_⟩) (by assumption) ?_
                      rotate_left
                      · (intro w hSw; (try dsimp only at hSw); go_simp)
                        all_goals with_reducible rfl
                      try dsimp only [List.getElem_toArray, List.getElem_cons_succ, List.getElem_cons_zero]
                      try simp only [Act.put, List.setIfInBounds_toArray, List.set_cons_zero, List.set_cons_succ]
                      refine wpAnyH_take (i := 1) (oi := _) (v := ?_) rfl (by kernel_rfl) (by kernel_rfl) (by kernel_rfl) (fun _ _ _ h => h) (Or.inl ⟨by rfl, ?_⟩) (by assumption) ?_
                      rotate_left
                      · (intro w hSw; (try dsimp only at hSw); go_simp)
                        all_goals with_reducible rfl
                      try dsimp only [List.getElem_toArray, List.getElem_cons_succ, List.getElem_cons_zero]
                      try simp only [Act.put, List.setIfInBounds_toArray, List.set_cons_zero, List.set_cons_succ]
                      refine wpAnyH_take (i := 2) (oi := _) (v := undef) rfl (by kernel_rfl) (by kernel_rfl) (by kernel_rfl) (fun _ _ _ h => h) (Or.inr ⟨by rfl, rfl⟩) (by assumption) ?_
                      refine wpAnyH_take (i := 3) (oi := _) (v := undef) rfl (by kernel_rfl) (by kernel_rfl) (by kernel_rfl) (fun _ _ _ h => h) (Or.inr ⟨by rfl, rfl⟩) (by assumption) ?_
                      refine wpAnyH_take (i := 4) (oi := _) (v := undef) rfl (by kernel_rfl) (by kernel_rfl) (by kernel_rfl) (fun _ _ _ h => h) (Or.inr ⟨by rfl, rfl⟩) (by assumption) ?_
                      try dsimp only [List.getElem_toArray, List.getElem_cons_succ, List.getElem_cons_zero]
                      try simp only [Act.put, List.setIfInBounds_toArray, List.set_cons_zero, List.set_cons_succ]
                      refine wpAnyH_take (i := 5) (oi := _) (v := undef) rfl (by kernel_rfl) (by kernel_rfl) (by kernel_rfl) (fun _ _ _ h => h) (Or.inr ⟨by rfl, rfl⟩) (by assumption) ?_
                      refine wpAnyH_take (i := 6) (oi := _) (v := undef) rfl (by kernel_rfl) (by kernel_rfl) (by kernel_rfl) (fun _ _ _ h => h) (Or.inr ⟨by rfl, rfl⟩) (by assumption) ?_
                      refine wpAnyH_take (i := 7) (oi := _) (v := undef) rfl (by kernel_rfl) (by kernel_rfl) (by kernel_rfl) (fun _ _ _ h => h) (Or.inr ⟨by rfl, rfl⟩) (by assumption) ?_
                      try dsimp only [List.getElem_toArray, List.getElem_cons_succ, List.getElem_cons_zero]
                      try simp only [Act.put, List.setIfInBounds_toArray, List.set_cons_zero, List.set_cons_succ]
                      refine wpAnyH_take (i := 8) (oi := _) (v := ?_) rfl (by kernel_rfl) (by kernel_rfl) (by kernel_rfl) (fun _ _ _ h => h) (Or.inl ⟨by rfl, ?_⟩) (by assumption) ?_
                      rotate_left
                      · (intro w hSw; (try dsimp only at hSw); go_simp)
                        all_goals with_reducible rfl
                      try dsimp only [List.getElem_toArray, List.getElem_cons_succ, List.getElem_cons_zero]
                      try simp only [Act.put, List.setIfInBounds_toArray, List.set_cons_zero, List.set_cons_succ]
                      refine wpAnyH_take (i := 9) (oi := _) (v := ?_) rfl (by kernel_rfl) (by kernel_rfl) (by kernel_rfl) (fun _ _ _ h => h) (Or.inl ⟨by rfl, ?_⟩) (by assumption) ?_
                      rotate_left
                      · (intro w hSw; (try dsimp only at hSw); go_simp)
                        all_goals with_reducible rfl
                      try dsimp only [List.getElem_toArray, List.getElem_cons_succ, List.getElem_cons_zero]
                      try simp only [Act.put, List.setIfInBounds_toArray, List.set_cons_zero, List.set_cons_succ]
                      refine wpAnyH_done (by kernel_rfl) ?_ _
                      refine hK _ _ (Met.intro (hJ _ _ ?_))
                      repeat apply Exists.intro
                      refine ⟨?rel, rfl⟩
                      case rel => exact ⟨by rw [HSsb.out]; rfl, HXD, KD⟩
                    case false =>
                      go_region_held3 (fun w' => w'.cell? ⟨Bt, 0, none⟩ = some (.int .i64 4) ∧ w'.cell? ⟨Bt, 1, none⟩ = some (.int .i32 0) ∧ w'.cell? ⟨Bt, 2, none⟩ = some (.bool qt) ∧ w'.cell? ⟨Bt, 3, none⟩ = some (.slice At nt ct) ∧ w'.cell? ⟨Bt, 4, none⟩ = some (.string ⟨#[]⟩) ∧ w'.cell? ⟨Bt, 5, none⟩ = some (.slice none 0 0) ∧ w'.cell? ⟨(Bl + 1), 0, none⟩ = some (.int .i64 4) ∧ w'.cell? ⟨(Bl + 1), 1, none⟩ = some (.int .i32 0) ∧ w'.cell? ⟨(Bl + 1), 2, none⟩ = some (.bool qx) ∧ w'.cell? ⟨(Bl + 1), 3, none⟩ = some (.slice Ax nx cx) ∧ w'.cell? ⟨(Bl + 1), 4, none⟩ = some (.string ⟨#[]⟩) ∧ w'.cell? ⟨(Bl + 1), 5, none⟩ = some (.slice none 0 0))
                        (first | exact HC.out _ HXD KD | exact HC.out _ (HXD.keep kk) (KD.trans kk))
                        (first | (go_at_call 10; refine (HXD.same ⟨Bt, vt, qt, At, nt, ct⟩ ⟨Bx, x, qx, Ax, nx, cx⟩ (List.mem_cons_of_mem _ List.mem_cons_self) (List.mem_cons_of_mem _ (List.mem_cons_of_mem _ (List.mem_cons_of_mem _ (List.mem_cons_of_mem _ List.mem_cons_self)))) sb3 HQsb.out).mono ?_; rintro e w6 ⟨rfl, kk⟩))
                      refine hK _ _ (Met.intro (hJ _ _ ?_))
                      repeat apply Exists.intro
                      refine ⟨?rel, rfl⟩
                      case rel => exact ⟨by rw [HSsb.out]; rfl, HXD.keep kk, KD.trans kk⟩
                  case rest =>
                    obtain ⟨rfl, hx, kA⟩ := hcut
                    clear HX HKA
                    have HX := Lib.hid hx
                    have HKA := Lib.hid kA
                    clear hx kA
                    go_upto_region 21 with fail
                    go_cut [17] from 151 to 159 (fun v wy => v = .bool lb2 ∧ Road w wy [⟨Bl, vl, ql, Al, nl, cl⟩, ⟨Bt, vt, qt, At, nt, ct⟩, ⟨Bz, z, qz, Az, nz, cz⟩, ⟨By, y, qy, Ay, ny, cy⟩, ⟨Bx, x, qx, Ax, nx, cx⟩] ∧ Keep (fun _ => False) wA wy)
                    case first =>
                      rename_i J K hJ hK
                      have HC := Lib.hid (fun (w' : World) (hx : Road w w' [⟨Bl, vl, ql, Al, nl, cl⟩, ⟨Bt, vt, qt, At, nt, ct⟩, ⟨Bz, z, qz, Az, nz, cz⟩, ⟨By, y, qy, Ay, ny, cy⟩, ⟨Bx, x, qx, Ax, nx, cx⟩]) (K : Keep (fun _ => False) wA w') => (show w'.cell? ⟨Bl, 0, none⟩ = some (.int .i64 4) ∧ w'.cell? ⟨Bl, 1, none⟩ = some (.int .i32 0) ∧ w'.cell? ⟨Bl, 2, none⟩ = some (.bool ql) ∧ w'.cell? ⟨Bl, 3, none⟩ = some (.slice Al nl cl) ∧ w'.cell? ⟨Bl, 4, none⟩ = some (.string ⟨#[]⟩) ∧ w'.cell? ⟨Bl, 5, none⟩ = some (.slice none 0 0) ∧ w'.cell? ⟨(Bl + 1), 0, none⟩ = some (.int .i64 4) ∧ w'.cell? ⟨(Bl + 1), 1, none⟩ = some (.int .i32 0) ∧ w'.cell? ⟨(Bl + 1), 2, none⟩ = some (.bool qx) ∧ w'.cell? ⟨(Bl + 1), 3, none⟩ = some (.slice Ax nx cx) ∧ w'.cell? ⟨(Bl + 1), 4, none⟩ = some (.string ⟨#[]⟩) ∧ w'.cell? ⟨(Bl + 1), 5, none⟩ = some (.slice none 0 0) from by
                        obtain ⟨a0, a1, a2, a3, a4, a5⟩ := hx.cells ⟨Bl, vl, ql, Al, nl, cl⟩ List.mem_cons_self
                        have hr := K.heap HRW.out id
                        exact ⟨a0, a1, a2, a3, a4, a5, by rw [cell_of_row _ _ _ _ _ _ hr]; rfl, by rw [cell_of_row _ _ _ _ _ _ hr]; rfl, by rw [cell_of_row _ _ _ _ _ _ hr]; rfl, by rw [cell_of_row _ _ _ _ _ _ hr]; rfl, by rw [cell_of_row _ _ _ _ _ _ hr]; rfl, by rw [cell_of_row _ _ _ _ _ _ hr]; rfl⟩))
                      have KD := HKA.out.trans ((Keep.refl _ _).drew)
                      have HXD := HX.out.keep ((Keep.refl _ _).drew)
                      cases lb
                      case true =>
                        clear HC
                        refine wp_region_held_drew (S := fun _ => True) (by kernel_rfl) trivial (fun hHeld => ?_)
                        refine wpAnyH_take (i := 0) (oi := _) (v := ?_) rfl (by kernel_rfl) (by kernel_rfl) (by kernel_rfl) (fun _ _ _ h => h) (Or.inl ⟨by rfl, ?_⟩) (by assumption) ?_
                        rotate_left
                        · (intro w hSw; (try dsimp only at hSw); go_simp)
                          all_goals with_reducible rfl
                        try dsimp only [List.getElem_toArray, List.getElem_cons_succ, List.getElem_cons_zero]
                        try simp only [Act.put, List.setIfInBounds_toArray, List.set_cons_zero, List.set_cons_succ]
                        refine wpAnyH_take (i := 1) (oi := _) (v := ?_) rfl (by kernel_rfl) (by kernel_rfl) (by kernel_rfl) (fun _ _ _ h => h) (Or.inl ⟨by rfl, ?_⟩) (by assumption) ?_
                        rotate_left
                        · (intro w hSw; (try dsimp only at hSw); go_simp)
                          all_goals with_reducible rfl
                        try dsimp only [List.getElem_toArray, List.getElem_cons_succ, List.getElem_cons_zero]
                        try simp only [Act.put, List.setIfInBounds_toArray, List.set_cons_zero, List.set_cons_succ]
                        refine wpAnyH_take (i := 2) (oi := _) (v := undef) rfl (by kernel_rfl) (by kernel_rfl) (by kernel_rfl) (fun _ _ _ h => h) (Or.inr ⟨by rfl, rfl⟩) (by assumption) ?_
                        refine wpAnyH_take (i := 3) (oi := _) (v := undef) rfl (by kernel_rfl) (by kernel_rfl) (by kernel_rfl) (fun _ _ _ h => h) (Or.inr ⟨by rfl, rfl⟩) (by assumption) ?_
                        refine wpAnyH_take (i := 4) (oi := _) (v := undef) rfl (by kernel_rfl) (by kernel_rfl) (by kernel_rfl) (fun _ _ _ h => h) (Or.inr ⟨by rfl, rfl⟩) (by assumption) ?_
                        try dsimp only [List.getElem_toArray, List.getElem_cons_succ, List.getElem_cons_zero]
                        try simp only [Act.put, List.setIfInBounds_toArray, List.set_cons_zero, List.set_cons_succ]
                        refine wpAnyH_take (i := 5) (oi := _) (v := undef) rfl (by kernel_rfl) (by kernel_rfl) (by kernel_rfl) (fun _ _ _ h => h) (Or.inr ⟨by rfl, rfl⟩) (by assumption) ?_
                        refine wpAnyH_take (i := 6) (oi := _) (v := undef) rfl (by kernel_rfl) (by kernel_rfl) (by kernel_rfl) (fun _ _ _ h => h) (Or.inr ⟨by rfl, rfl⟩) (by assumption) ?_
                        refine wpAnyH_take (i := 7) (oi := _) (v := undef) rfl (by kernel_rfl) (by kernel_rfl) (by kernel_rfl) (fun _ _ _ h => h) (Or.inr ⟨by rfl, rfl⟩) (by assumption) ?_
                        try dsimp only [List.getElem_toArray, List.getElem_cons_succ, List.getElem_cons_zero]
                        try simp only [Act.put, List.setIfInBounds_toArray, List.set_cons_zero, List.set_cons_succ]
                        refine wpAnyH_take (i := 8) (oi := _) (v := ?_) rfl (by kernel_rfl) (by kernel_rfl) (by kernel_rfl) (fun _ _ _ h => h) (Or.inl ⟨by rfl, ?_⟩) (by assumption) ?_
                        rotate_left
                        · (intro w hSw; (try dsimp only at hSw); go_simp)
                          all_goals with_reducible rfl
                        try dsimp only [List.getElem_toArray, List.getElem_cons_succ, List.getElem_cons_zero]
                        try simp only [Act.put, List.setIfInBounds_toArray, List.set_cons_zero, List.set_cons_succ]
                        refine wpAnyH_take (i := 9) (oi := _) (v := ?_) rfl (by kernel_rfl) (by kernel_rfl) (by kernel_rfl) (fun _ _ _ h => h) (Or.inl ⟨by rfl, ?_⟩) (by assumption) ?_
                        rotate_left
                        · (intro w hSw; (try dsimp only at hSw); go_simp)
                          all_goals with_reducible rfl
                        try dsimp only [List.getElem_toArray, List.getElem_cons_succ, List.getElem_cons_zero]
                        try simp only [Act.put, List.setIfInBounds_toArray, List.set_cons_zero, List.set_cons_succ]
                        refine wpAnyH_done (by kernel_rfl) ?_ _
                        refine hK _ _ (Met.intro (hJ _ _ ?_))
                        repeat apply Exists.intro
                        refine ⟨?rel, rfl⟩
                        case rel => exact ⟨by rw [HSlb.out]; rfl, HXD, KD⟩
                      case false =>
                        go_region_held3 (fun w' => w'.cell? ⟨Bl, 0, none⟩ = some (.int .i64 4) ∧ w'.cell? ⟨Bl, 1, none⟩ = some (.int .i32 0) ∧ w'.cell? ⟨Bl, 2, none⟩ = some (.bool ql) ∧ w'.cell? ⟨Bl, 3, none⟩ = some (.slice Al nl cl) ∧ w'.cell? ⟨Bl, 4, none⟩ = some (.string ⟨#[]⟩) ∧ w'.cell? ⟨Bl, 5, none⟩ = some (.slice none 0 0) ∧ w'.cell? ⟨(Bl + 1), 0, none⟩ = some (.int .i64 4) ∧ w'.cell? ⟨(Bl + 1), 1, none⟩ = some (.int .i32 0) ∧ w'.cell? ⟨(Bl + 1), 2, none⟩ = some (.bool qx) ∧ w'.cell? ⟨(Bl + 1), 3, none⟩ = some (.slice Ax nx cx) ∧ w'.cell? ⟨(Bl + 1), 4, none⟩ = some (.string ⟨#[]⟩) ∧ w'.cell? ⟨(Bl + 1), 5, none⟩ = some (.slice none 0 0))
                          (first | exact HC.out _ HXD KD | exact HC.out _ (HXD.keep kk) (KD.trans kk))
                          (first | (go_at_call 10; refine (HXD.same ⟨Bl, vl, ql, Al, nl, cl⟩ ⟨Bx, x, qx, Ax, nx, cx⟩ List.mem_cons_self (List.mem_cons_of_mem _ (List.mem_cons_of_mem _ (List.mem_cons_of_mem _ (List.mem_cons_of_mem _ List.mem_cons_self)))) lb3 HQlb.out).mono ?_; rintro e w6 ⟨rfl, kk⟩))
                        refine hK _ _ (Met.intro (hJ _ _ ?_))
                        repeat apply Exists.intro
                        refine ⟨?rel, rfl⟩
                        case rel => exact ⟨by rw [HSlb.out]; rfl, HXD.keep kk, KD.trans kk⟩
                    case rest =>
                      obtain ⟨rfl, hx, kA⟩ := hcut
                      clear HX HKA
                      have HX := Lib.hid hx
                      have HKA := Lib.hid kA
                      clear hx kA
                      go_upto_region 22 with fail
                      go_cut [177] from 160 to 177 (fun v wy => v = .bool false ∧ Road w wy [⟨Bl, vl, ql, Al, nl, cl⟩, ⟨Bt, vt, qt, At, nt, ct⟩, ⟨Bz, z, qz, Az, nz, cz⟩, ⟨By, y, qy, Ay, ny, cy⟩, ⟨Bx, x, qx, Ax, nx, cx⟩] ∧ Keep (fun _ => False) wA wy)
                      case first =>
                        rename_i J K hJ hK
                        have HC := Lib.hid (fun (w' : World) (hx : Road w w' [⟨Bl, vl, ql, Al, nl, cl⟩, ⟨Bt, vt, qt, At, nt, ct⟩, ⟨Bz, z, qz, Az, nz, cz⟩, ⟨By, y, qy, Ay, ny, cy⟩, ⟨Bx, x, qx, Ax, nx, cx⟩]) (K : Keep (fun _ => False) wA w') => (show w'.cell? ⟨Bt, 0, none⟩ = some (.int .i64 4) ∧ w'.cell? ⟨Bt, 1, none⟩ = some (.int .i32 0) ∧ w'.cell? ⟨Bt, 2, none⟩ = some (.bool qt) ∧ w'.cell? ⟨Bt, 3, none⟩ = some (.slice At nt ct) ∧ w'.cell? ⟨Bt, 4, none⟩ = some (.string ⟨#[]⟩) ∧ w'.cell? ⟨Bt, 5, none⟩ = some (.slice none 0 0) ∧ w'.cell? ⟨Bl, 0, none⟩ = some (.int .i64 4) ∧ w'.cell? ⟨Bl, 1, none⟩ = some (.int .i32 0) ∧ w'.cell? ⟨Bl, 2, none⟩ = some (.bool ql) ∧ w'.cell? ⟨Bl, 3, none⟩ = some (.slice Al nl cl) ∧ w'.cell? ⟨Bl, 4, none⟩ = some (.string ⟨#[]⟩) ∧ w'.cell? ⟨Bl, 5, none⟩ = some (.slice none 0 0) ∧ w'.cell? ⟨(Bl + 1), 0, none⟩ = some (.int .i64 4) ∧ w'.cell? ⟨(Bl + 1), 1, none⟩ = some (.int .i32 0) ∧ w'.cell? ⟨(Bl + 1), 2, none⟩ = some (.bool qx) ∧ w'.cell? ⟨(Bl + 1), 3, none⟩ = some (.slice Ax nx cx) ∧ w'.cell? ⟨(Bl + 1), 4, none⟩ = some (.string ⟨#[]⟩) ∧ w'.cell? ⟨(Bl + 1), 5, none⟩ = some (.slice none 0 0) from by
                          obtain ⟨a0, a1, a2, a3, a4, a5⟩ := hx.cells ⟨Bt, vt, qt, At, nt, ct⟩ (List.mem_cons_of_mem _ List.mem_cons_self)
                          obtain ⟨b0, b1, b2, b3, b4, b5⟩ := hx.cells ⟨Bl, vl, ql, Al, nl, cl⟩ List.mem_cons_self
                          have hr := K.heap HRW.out id
                          exact ⟨a0, a1, a2, a3, a4, a5, b0, b1, b2, b3, b4, b5, by rw [cell_of_row _ _ _ _ _ _ hr]; rfl, by rw [cell_of_row _ _ _ _ _ _ hr]; rfl, by rw [cell_of_row _ _ _ _ _ _ hr]; rfl, by rw [cell_of_row _ _ _ _ _ _ hr]; rfl, by rw [cell_of_row _ _ _ _ _ _ hr]; rfl, by rw [cell_of_row _ _ _ _ _ _ hr]; rfl⟩))
                        have KD := HKA.out.trans ((Keep.refl _ _).drew)
                        have HXD := HX.out.keep ((Keep.refl _ _).drew)
                        have Y1 := Lib.hid (yes_cmp 10 (by omega) 2 (by decide) (by decide) [x, vt] rfl true (by rw [so_10]; exact (decide_eq_true HBT.out.1).symm))
                        have Y2 := Lib.hid (yes_cmp 10 (by omega) 2 (by decide) (by decide) [vl, x] rfl true (by rw [so_10]; exact (decide_eq_true HBL.out.1).symm))
                        go_region_held3 (fun w' => w'.cell? ⟨Bt, 0, none⟩ = some (.int .i64 4) ∧ w'.cell? ⟨Bt, 1, none⟩ = some (.int .i32 0) ∧ w'.cell? ⟨Bt, 2, none⟩ = some (.bool qt) ∧ w'.cell? ⟨Bt, 3, none⟩ = some (.slice At nt ct) ∧ w'.cell? ⟨Bt, 4, none⟩ = some (.string ⟨#[]⟩) ∧ w'.cell? ⟨Bt, 5, none⟩ = some (.slice none 0 0) ∧ w'.cell? ⟨Bl, 0, none⟩ = some (.int .i64 4) ∧ w'.cell? ⟨Bl, 1, none⟩ = some (.int .i32 0) ∧ w'.cell? ⟨Bl, 2, none⟩ = some (.bool ql) ∧ w'.cell? ⟨Bl, 3, none⟩ = some (.slice Al nl cl) ∧ w'.cell? ⟨Bl, 4, none⟩ = some (.string ⟨#[]⟩) ∧ w'.cell? ⟨Bl, 5, none⟩ = some (.slice none 0 0) ∧ w'.cell? ⟨(Bl + 1), 0, none⟩ = some (.int .i64 4) ∧ w'.cell? ⟨(Bl + 1), 1, none⟩ = some (.int .i32 0) ∧ w'.cell? ⟨(Bl + 1), 2, none⟩ = some (.bool qx) ∧ w'.cell? ⟨(Bl + 1), 3, none⟩ = some (.slice Ax nx cx) ∧ w'.cell? ⟨(Bl + 1), 4, none⟩ = some (.string ⟨#[]⟩) ∧ w'.cell? ⟨(Bl + 1), 5, none⟩ = some (.slice none 0 0))
                          (first | exact HC.out _ HXD KD | exact HC.out _ (HXD.other _) (KD.alloc _) | exact HC.out _ HX6 K6 | exact HC.out _ (HX6.other _) (K6.alloc _) | exact HC.out _ HX7 K7)
                          (first
                            | (go_at_call 12; have hz := HX6; refine (Y2.out _ _ _ (HX6.args [⟨Bl, vl, ql, Al, nl, cl⟩, ⟨Bx, x, qx, Ax, nx, cx⟩] _ (by rfl) (List.forall_mem_cons.2 ⟨List.mem_cons_self, (List.forall_mem_cons.2 ⟨(List.mem_cons_of_mem _ (List.mem_cons_of_mem _ (List.mem_cons_of_mem _ (List.mem_cons_of_mem _ List.mem_cons_self)))), (fun _ h => absurd h List.not_mem_nil)⟩)⟩) _ (by simp))).mono ?_; rintro e w7 ⟨rfl, kk⟩; have HX7 := (HX6.other _).keep kk; have K7 := (K6.alloc _).trans kk; clear hz kk)
                            | (go_at_call 12; refine (Y1.out _ _ _ (HXD.args [⟨Bx, x, qx, Ax, nx, cx⟩, ⟨Bt, vt, qt, At, nt, ct⟩] _ (by rfl) (List.forall_mem_cons.2 ⟨(List.mem_cons_of_mem _ (List.mem_cons_of_mem _ (List.mem_cons_of_mem _ (List.mem_cons_of_mem _ List.mem_cons_self)))), (List.forall_mem_cons.2 ⟨(List.mem_cons_of_mem _ List.mem_cons_self), (fun _ h => absurd h List.not_mem_nil)⟩)⟩) _ (by simp))).mono ?_; rintro e w6 ⟨rfl, kk⟩; have HX6 := (HXD.other _).keep kk; have K6 := (KD.alloc _).trans kk; clear kk))
                        refine hK _ _ (Met.intro (hJ _ _ ?_))
                        repeat apply Exists.intro
                        refine ⟨?rel, rfl⟩
                        case rel => exact ⟨rfl, HX7, K7⟩
                      case rest =>
                        obtain ⟨rfl, hx, kA⟩ := hcut
                        clear HX HKA
                        have HX := Lib.hid hx
                        have HKA := Lib.hid kA
                        clear hx kA
                        go_wp2_with fail
                        go_roundw
                        case rel => exact ⟨1, by decide, by rw [← Hsb.out.2], by rw [← Hlb.out.2], by go_num, HX.out, HKA.out⟩
                        case measure => simp only [intOf]; omega
                ·
                  obtain ⟨sb, hsb⟩ : ∃ s, s = anyB vt x y z 1 := ⟨_, rfl⟩
                  obtain ⟨sb2, hsb2⟩ : ∃ s, s = anyB vt x y z 2 := ⟨_, rfl⟩
                  obtain ⟨sb3, hsb3⟩ : ∃ s, s = decide (vt = y) := ⟨_, rfl⟩
                  have Hsb := Lib.hid (And.intro hsb hsb2)
                  have HQsb := Lib.hid hsb3
                  have HSsb := Lib.hid (show sb2 = (sb || sb3) from by rw [hsb, hsb2, hsb3]; rfl)
                  rw [← hsb]
                  clear hsb hsb2 hsb3
                  obtain ⟨lb, hlb⟩ : ∃ s, s = anyB vl x y z 1 := ⟨_, rfl⟩
                  obtain ⟨lb2, hlb2⟩ : ∃ s, s = anyB vl x y z 2 := ⟨_, rfl⟩
                  obtain ⟨lb3, hlb3⟩ : ∃ s, s = decide (vl = y) := ⟨_, rfl⟩
                  have Hlb := Lib.hid (And.intro hlb hlb2)
                  have HQlb := Lib.hid hlb3
                  have HSlb := Lib.hid (show lb2 = (lb || lb3) from by rw [hlb, hlb2, hlb3]; rfl)
                  rw [← hlb]
                  clear hlb hlb2 hlb3
                  go_upto_region 20 with fail
                  go_cut [16] from 142 to 150 (fun v wy => v = .bool sb2 ∧ Road w wy [⟨Bl, vl, ql, Al, nl, cl⟩, ⟨Bt, vt, qt, At, nt, ct⟩, ⟨Bz, z, qz, Az, nz, cz⟩, ⟨By, y, qy, Ay, ny, cy⟩, ⟨Bx, x, qx, Ax, nx, cx⟩] ∧ Keep (fun _ => False) wA wy)
                  case first =>
                    rename_i J K hJ hK
                    have HC := Lib.hid (fun (w' : World) (hx : Road w w' [⟨Bl, vl, ql, Al, nl, cl⟩, ⟨Bt, vt, qt, At, nt, ct⟩, ⟨Bz, z, qz, Az, nz, cz⟩, ⟨By, y, qy, Ay, ny, cy⟩, ⟨Bx, x, qx, Ax, nx, cx⟩]) (K : Keep (fun _ => False) wA w') => (show w'.cell? ⟨Bt, 0, none⟩ = some (.int .i64 4) ∧ w'.cell? ⟨Bt, 1, none⟩ = some (.int .i32 0) ∧ w'.cell? ⟨Bt, 2, none⟩ = some (.bool qt) ∧ w'.cell? ⟨Bt, 3, none⟩ = some (.slice At nt ct) ∧ w'.cell? ⟨Bt, 4, none⟩ = some (.string ⟨#[]⟩) ∧ w'.cell? ⟨Bt, 5, none⟩ = some (.slice none 0 0) ∧ w'.cell? ⟨(Bl + 1), 6, none⟩ = some (.int .i64 4) ∧ w'.cell? ⟨(Bl + 1), 7, none⟩ = some (.int .i32 0) ∧ w'.cell? ⟨(Bl + 1), 8, none⟩ = some (.bool qy) ∧ w'.cell? ⟨(Bl + 1), 9, none⟩ = some (.slice Ay ny cy) ∧ w'.cell? ⟨(Bl + 1), 10, none⟩ = some (.string ⟨#[]⟩) ∧ w'.cell? ⟨(Bl + 1), 11, none⟩ = some (.slice none 0 0) from by
                      obtain ⟨a0, a1, a2, a3, a4, a5⟩ := hx.cells ⟨Bt, vt, qt, At, nt, ct⟩ (List.mem_cons_of_mem _ List.mem_cons_self)
                      have hr := K.heap HRW.out id
                      exact ⟨a0, a1, a2, a3, a4, a5, by rw [cell_of_row _ _ _ _ _ _ hr]; rfl, by rw [cell_of_row _ _ _ _ _ _ hr]; rfl, by rw [cell_of_row _ _ _ _ _ _ hr]; rfl, by rw [cell_of_row _ _ _ _ _ _ hr]; rfl, by rw [cell_of_row _ _ _ _ _ _ hr]; rfl, by rw [cell_of_row _ _ _ _ _ _ hr]; rfl⟩))
                    have KD := HKA.out.trans ((Keep.refl _ _).drew)
                    have HXD := HX.out.keep ((Keep.refl _ _).drew)
                    cases sb
                    case true =>
                      clear HC
                      refine wp_region_held_drew (S := fun _ => True) (by kernel_rfl) trivial (fun hHeld => ?_)
                      refine wpAnyH_take (i := 0) (oi := _) (v := ?_) rfl (by kernel_rfl) (by kernel_rfl) (by kernel_rfl) (fun _ _ _ h => h) (Or.inl ⟨by rfl, ?_⟩) (by assumption) ?_
                      rotate_left
                      · (intro w hSw; (try dsimp only at hSw); go_simp)
                        all_goals with_reducible rfl
                      try dsimp only [List.getElem_toArray, List.getElem_cons_succ, List.getElem_cons_zero]
                      try simp only [Act.put, List.setIfInBounds_toArray, List.set_cons_zero, List.set_cons_succ]
                      refine wpAnyH_take (i := 1) (oi := _) (v := ?_) rfl (by kernel_rfl) (by kernel_rfl) (by kernel_rfl) (fun _ _ _ h => h) (Or.inl ⟨by rfl, ?_⟩) (by assumption) ?_
                      rotate_left
                      · (intro w hSw; (try dsimp only at hSw); go_simp)
                        all_goals with_reducible rfl
                      try dsimp only [List.getElem_toArray, List.getElem_cons_succ, List.getElem_cons_zero]
                      try simp only [Act.put, List.setIfInBounds_toArray, List.set_cons_zero, List.set_cons_succ]
                      refine wpAnyH_take (i := 2) (oi := _) (v := undef) rfl (by kernel_rfl) (by kernel_rfl) (by kernel_rfl) (fun _ _ _ h => h) (Or.inr ⟨by rfl, rfl⟩) (by assumption) ?_
                      refine wpAnyH_take (i := 3) (oi := _) (v := undef) rfl (by kernel_rfl) (by kernel_rfl) (by kernel_rfl) (fun _ _ _ h => h) (Or.inr ⟨by rfl, rfl⟩) (by assumption) ?_
                      refine wpAnyH_take (i := 4) (oi := _) (v := undef) rfl (by kernel_rfl) (by kernel_rfl) (by kernel_rfl) (fun _ _ _ h => h) (Or.inr ⟨by rfl, rfl⟩) (by assumption) ?_
                      try dsimp only [List.getElem_toArray, List.getElem_cons_succ, List.getElem_cons_zero]
                      try simp only [Act.put, List.setIfInBounds_toArray, List.set_cons_zero, List.set_cons_succ]
                      refine wpAnyH_take (i := 5) (oi := _) (v := undef) rfl (by kernel_rfl) (by kernel_rfl) (by kernel_rfl) (fun _ _ _ h => h) (Or.inr ⟨by rfl, rfl⟩) (by assumption) ?_
                      refine wpAnyH_take (i := 6) (oi := _) (v := undef) rfl (by kernel_rfl) (by kernel_rfl) (by kernel_rfl) (fun _ _ _ h => h) (Or.inr ⟨by rfl, rfl⟩) (by assumption) ?_
                      refine wpAnyH_take (i := 7) (oi := _) (v := undef) rfl (by kernel_rfl) (by kernel_rfl) (by kernel_rfl) (fun _ _ _ h => h) (Or.inr ⟨by rfl, rfl⟩) (by assumption) ?_
                      try dsimp only [List.getElem_toArray, List.getElem_cons_succ, List.getElem_cons_zero]
                      try simp only [Act.put, List.setIfInBounds_toArray, List.set_cons_zero, List.set_cons_succ]
                      refine wpAnyH_take (i := 8) (oi := _) (v := ?_) rfl (by kernel_rfl) (by kernel_rfl) (by kernel_rfl) (fun _ _ _ h => h) (Or.inl ⟨by rfl, ?_⟩) (by assumption) ?_
                      rotate_left
                      · (intro w hSw; (try dsimp only at hSw); go_simp)
                        all_goals with_reducible rfl
                      try dsimp only [List.getElem_toArray, List.getElem_cons_succ, List.getElem_cons_zero]
                      try simp only [Act.put, List.setIfInBounds_toArray, List.set_cons_zero, List.set_cons_succ]
                      refine wpAnyH_take (i := 9) (oi := _) (v := ?_) rfl (by kernel_rfl) (by kernel_rfl) (by kernel_rfl) (fun _ _ _ h => h) (Or.inl ⟨by rfl, ?_⟩) (by assumption) ?_
                      rotate_left
                      · (intro w hSw; (try dsimp only at hSw); go_simp)
                        all_goals with_reducible rfl
                      try dsimp only [List.getElem_toArray, List.getElem_cons_succ, List.getElem_cons_zero]
                      try simp only [Act.put, List.setIfInBounds_toArray, List.set_cons_zero, List.set_cons_succ]
                      refine wpAnyH_done (by kernel_rfl) ?_ _
                      refine hK _ _ (Met.intro (hJ _ _ ?_))
                      repeat apply Exists.intro
                      refine ⟨?rel, rfl⟩
                      case rel => exact ⟨by rw [HSsb.out]; rfl, HXD, KD⟩
                    case false =>
                      go_region_held3 (fun w' => w'.cell? ⟨Bt, 0, none⟩ = some (.int .i64 4) ∧ w'.cell? ⟨Bt, 1, none⟩ = some (.int .i32 0) ∧ w'.cell? ⟨Bt, 2, none⟩ = some (.bool qt) ∧ w'.cell? ⟨Bt, 3, none⟩ = some (.slice At nt ct) ∧ w'.cell? ⟨Bt, 4, none⟩ = some (.string ⟨#[]⟩) ∧ w'.cell? ⟨Bt, 5, none⟩ = some (.slice none 0 0) ∧ w'.cell? ⟨(Bl + 1), 6, none⟩ = some (.int .i64 4) ∧ w'.cell? ⟨(Bl + 1), 7, none⟩ = some (.int .i32 0) ∧ w'.cell? ⟨(Bl + 1), 8, none⟩ = some (.bool qy) ∧ w'.cell? ⟨(Bl + 1), 9, none⟩ = some (.slice Ay ny cy) ∧ w'.cell? ⟨(Bl + 1), 10, none⟩ = some (.string ⟨#[]⟩) ∧ w'.cell? ⟨(Bl + 1), 11, none⟩ = some (.slice none 0 0))
                        (first | exact HC.out _ HXD KD | exact HC.out _ (HXD.keep kk) (KD.trans kk))
                        (first | (go_at_call 10; refine (HXD.same ⟨Bt, vt, qt, At, nt, ct⟩ ⟨By, y, qy, Ay, ny, cy⟩ (List.mem_cons_of_mem _ List.mem_cons_self) (List.mem_cons_of_mem _ (List.mem_cons_of_mem _ (List.mem_cons_of_mem _ List.mem_cons_self))) sb3 HQsb.out).mono ?_; rintro e w6 ⟨rfl, kk⟩))
                      refine hK _ _ (Met.intro (hJ _ _ ?_))
                      repeat apply Exists.intro
                      refine ⟨?rel, rfl⟩
                      case rel => exact ⟨by rw [HSsb.out]; rfl, HXD.keep kk, KD.trans kk⟩
                  case rest =>
                    obtain ⟨rfl, hx, kA⟩ := hcut
                    clear HX HKA
                    have HX := Lib.hid hx
                    have HKA := Lib.hid kA
                    clear hx kA
                    go_upto_region 21 with fail
                    go_cut [17] from 151 to 159 (fun v wy => v = .bool lb2 ∧ Road w wy [⟨Bl, vl, ql, Al, nl, cl⟩, ⟨Bt, vt, qt, At, nt, ct⟩, ⟨Bz, z, qz, Az, nz, cz⟩, ⟨By, y, qy, Ay, ny, cy⟩, ⟨Bx, x, qx, Ax, nx, cx⟩] ∧ Keep (fun _ => False) wA wy)
                    case first =>
                      rename_i J K hJ hK
                      have HC := Lib.hid (fun (w' : World) (hx : Road w w' [⟨Bl, vl, ql, Al, nl, cl⟩, ⟨Bt, vt, qt, At, nt, ct⟩, ⟨Bz, z, qz, Az, nz, cz⟩, ⟨By, y, qy, Ay, ny, cy⟩, ⟨Bx, x, qx, Ax, nx, cx⟩]) (K : Keep (fun _ => False) wA w') => (show w'.cell? ⟨Bl, 0, none⟩ = some (.int .i64 4) ∧ w'.cell? ⟨Bl, 1, none⟩ = some (.int .i32 0) ∧ w'.cell? ⟨Bl, 2, none⟩ = some (.bool ql) ∧ w'.cell? ⟨Bl, 3, none⟩ = some (.slice Al nl cl) ∧ w'.cell? ⟨Bl, 4, none⟩ = some (.string ⟨#[]⟩) ∧ w'.cell? ⟨Bl, 5, none⟩ = some (.slice none 0 0) ∧ w'.cell? ⟨(Bl + 1), 6, none⟩ = some (.int .i64 4) ∧ w'.cell? ⟨(Bl + 1), 7, none⟩ = some (.int .i32 0) ∧ w'.cell? ⟨(Bl + 1), 8, none⟩ = some (.bool qy) ∧ w'.cell? ⟨(Bl + 1), 9, none⟩ = some (.slice Ay ny cy) ∧ w'.cell? ⟨(Bl + 1), 10, none⟩ = some (.string ⟨#[]⟩) ∧ w'.cell? ⟨(Bl + 1), 11, none⟩ = some (.slice none 0 0) from by
                        obtain ⟨a0, a1, a2, a3, a4, a5⟩ := hx.cells ⟨Bl, vl, ql, Al, nl, cl⟩ List.mem_cons_self
                        have hr := K.heap HRW.out id
                        exact ⟨a0, a1, a2, a3, a4, a5, by rw [cell_of_row _ _ _ _ _ _ hr]; rfl, by rw [cell_of_row _ _ _ _ _ _ hr]; rfl, by rw [cell_of_row _ _ _ _ _ _ hr]; rfl, by rw [cell_of_row _ _ _ _ _ _ hr]; rfl, by rw [cell_of_row _ _ _ _ _ _ hr]; rfl, by rw [cell_of_row _ _ _ _ _ _ hr]; rfl⟩))
                      have KD := HKA.out.trans ((Keep.refl _ _).drew)
                      have HXD := HX.out.keep ((Keep.refl _ _).drew)
                      cases lb
                      case true =>
                        clear HC
                        refine wp_region_held_drew (S := fun _ => True) (by kernel_rfl) trivial (fun hHeld => ?_)
                        refine wpAnyH_take (i := 0) (oi := _) (v := ?_) rfl (by kernel_rfl) (by kernel_rfl) (by kernel_rfl) (fun _ _ _ h => h) (Or.inl ⟨by rfl, ?_⟩) (by assumption) ?_
                        rotate_left
                        · (intro w hSw; (try dsimp only at hSw); go_simp)
                          all_goals with_reducible rfl
                        try dsimp only [List.getElem_toArray, List.getElem_cons_succ, List.getElem_cons_zero]
                        try simp only [Act.put, List.setIfInBounds_toArray, List.set_cons_zero, List.set_cons_succ]
                        refine wpAnyH_take (i := 1) (oi := _) (v := ?_) rfl (by kernel_rfl) (by kernel_rfl) (by kernel_rfl) (fun _ _ _ h => h) (Or.inl ⟨by rfl, ?_⟩) (by assumption) ?_
                        rotate_left
                        · (intro w hSw; (try dsimp only at hSw); go_simp)
                          all_goals with_reducible rfl
                        try dsimp only [List.getElem_toArray, List.getElem_cons_succ, List.getElem_cons_zero]
                        try simp only [Act.put, List.setIfInBounds_toArray, List.set_cons_zero, List.set_cons_succ]
                        refine wpAnyH_take (i := 2) (oi := _) (v := undef) rfl (by kernel_rfl) (by kernel_rfl) (by kernel_rfl) (fun _ _ _ h => h) (Or.inr ⟨by rfl, rfl⟩) (by assumption) ?_
                        refine wpAnyH_take (i := 3) (oi := _) (v := undef) rfl (by kernel_rfl) (by kernel_rfl) (by kernel_rfl) (fun _ _ _ h => h) (Or.inr ⟨by rfl, rfl⟩) (by assumption) ?_
                        refine wpAnyH_take (i := 4) (oi := _) (v := undef) rfl (by kernel_rfl) (by kernel_rfl) (by kernel_rfl) (fun _ _ _ h => h) (Or.inr ⟨by rfl, rfl⟩) (by assumption) ?_
                        try dsimp only [List.getElem_toArray, List.getElem_cons_succ, List.getElem_cons_zero]
                        try simp only [Act.put, List.setIfInBounds_toArray, List.set_cons_zero, List.set_cons_succ]
                        refine wpAnyH_take (i := 5) (oi := _) (v := undef) rfl (by kernel_rfl) (by kernel_rfl) (by kernel_rfl) (fun _ _ _ h => h) (Or.inr ⟨by rfl, rfl⟩) (by assumption) ?_
                        refine wpAnyH_take (i := 6) (oi := _) (v := undef) rfl (by kernel_rfl) (by kernel_rfl) (by kernel_rfl) (fun _ _ _ h => h) (Or.inr ⟨by rfl, rfl⟩) (by assumption) ?_
                        refine wpAnyH_take (i := 7) (oi := _) (v := undef) rfl (by kernel_rfl) (by kernel_rfl) (by kernel_rfl) (fun _ _ _ h => h) (Or.inr ⟨by rfl, rfl⟩) (by assumption) ?_
                        try dsimp only [List.getElem_toArray, List.getElem_cons_succ, List.getElem_cons_zero]
                        try simp only [Act.put, List.setIfInBounds_toArray, List.set_cons_zero, List.set_cons_succ]
                        refine wpAnyH_take (i := 8) (oi := _) (v := ?_) rfl (by kernel_rfl) (by kernel_rfl) (by kernel_rfl) (fun _ _ _ h => h) (Or.inl ⟨by rfl, ?_⟩) (by assumption) ?_
                        rotate_left
                        · (intro w hSw; (try dsimp only at hSw); go_simp)
                          all_goals with_reducible rfl
                        try dsimp only [List.getElem_toArray, List.getElem_cons_succ, List.getElem_cons_zero]
                        try simp only [Act.put, List.setIfInBounds_toArray, List.set_cons_zero, List.set_cons_succ]
                        refine wpAnyH_take (i := 9) (oi := _) (v := ?_) rfl (by kernel_rfl) (by kernel_rfl) (by kernel_rfl) (fun _ _ _ h => h) (Or.inl ⟨by rfl, ?_⟩) (by assumption) ?_
                        rotate_left
                        · (intro w hSw; (try dsimp only at hSw); go_simp)
                          all_goals with_reducible rfl
                        try dsimp only [List.getElem_toArray, List.getElem_cons_succ, List.getElem_cons_zero]
                        try simp only [Act.put, List.setIfInBounds_toArray, List.set_cons_zero, List.set_cons_succ]
                        refine wpAnyH_done (by kernel_rfl) ?_ _
                        refine hK _ _ (Met.intro (hJ _ _ ?_))
                        repeat apply Exists.intro
                        refine ⟨?rel, rfl⟩
                        case rel => exact ⟨by rw [HSlb.out]; rfl, HXD, KD⟩
                      case false =>
                        go_region_held3 (fun w' => w'.cell? ⟨Bl, 0, none⟩ = some (.int .i64 4) ∧ w'.cell? ⟨Bl, 1, none⟩ = some (.int .i32 0) ∧ w'.cell? ⟨Bl, 2, none⟩ = some (.bool ql) ∧ w'.cell? ⟨Bl, 3, none⟩ = some (.slice Al nl cl) ∧ w'.cell? ⟨Bl, 4, none⟩ = some (.string ⟨#[]⟩) ∧ w'.cell? ⟨Bl, 5, none⟩ = some (.slice none 0 0) ∧ w'.cell? ⟨(Bl + 1), 6, none⟩ = some (.int .i64 4) ∧ w'.cell? ⟨(Bl + 1), 7, none⟩ = some (.int .i32 0) ∧ w'.cell? ⟨(Bl + 1), 8, none⟩ = some (.bool qy) ∧ w'.cell? ⟨(Bl + 1), 9, none⟩ = some (.slice Ay ny cy) ∧ w'.cell? ⟨(Bl + 1), 10, none⟩ = some (.string ⟨#[]⟩) ∧ w'.cell? ⟨(Bl + 1), 11, none⟩ = some (.slice none 0 0))
                          (first | exact HC.out _ HXD KD | exact HC.out _ (HXD.keep kk) (KD.trans kk))
                          (first | (go_at_call 10; refine (HXD.same ⟨Bl, vl, ql, Al, nl, cl⟩ ⟨By, y, qy, Ay, ny, cy⟩ List.mem_cons_self (List.mem_cons_of_mem _ (List.mem_cons_of_mem _ (List.mem_cons_of_mem _ List.mem_cons_self))) lb3 HQlb.out).mono ?_; rintro e w6 ⟨rfl, kk⟩))
                        refine hK _ _ (Met.intro (hJ _ _ ?_))
                        repeat apply Exists.intro
                        refine ⟨?rel, rfl⟩
                        case rel => exact ⟨by rw [HSlb.out]; rfl, HXD.keep kk, KD.trans kk⟩
                    case rest =>
                      obtain ⟨rfl, hx, kA⟩ := hcut
                      clear HX HKA
                      have HX := Lib.hid hx
                      have HKA := Lib.hid kA
                      clear hx kA
                      go_upto_region 22 with fail
                      go_cut [177] from 160 to 177 (fun v wy => v = .bool false ∧ Road w wy [⟨Bl, vl, ql, Al, nl, cl⟩, ⟨Bt, vt, qt, At, nt, ct⟩, ⟨Bz, z, qz, Az, nz, cz⟩, ⟨By, y, qy, Ay, ny, cy⟩, ⟨Bx, x, qx, Ax, nx, cx⟩] ∧ Keep (fun _ => False) wA wy)
                      case first =>
                        rename_i J K hJ hK
                        have HC := Lib.hid (fun (w' : World) (hx : Road w w' [⟨Bl, vl, ql, Al, nl, cl⟩, ⟨Bt, vt, qt, At, nt, ct⟩, ⟨Bz, z, qz, Az, nz, cz⟩, ⟨By, y, qy, Ay, ny, cy⟩, ⟨Bx, x, qx, Ax, nx, cx⟩]) (K : Keep (fun _ => False) wA w') => (show w'.cell? ⟨Bt, 0, none⟩ = some (.int .i64 4) ∧ w'.cell? ⟨Bt, 1, none⟩ = some (.int .i32 0) ∧ w'.cell? ⟨Bt, 2, none⟩ = some (.bool qt) ∧ w'.cell? ⟨Bt, 3, none⟩ = some (.slice At nt ct) ∧ w'.cell? ⟨Bt, 4, none⟩ = some (.string ⟨#[]⟩) ∧ w'.cell? ⟨Bt, 5, none⟩ = some (.slice none 0 0) ∧ w'.cell? ⟨Bl, 0, none⟩ = some (.int .i64 4) ∧ w'.cell? ⟨Bl, 1, none⟩ = some (.int .i32 0) ∧ w'.cell? ⟨Bl, 2, none⟩ = some (.bool ql) ∧ w'.cell? ⟨Bl, 3, none⟩ = some (.slice Al nl cl) ∧ w'.cell? ⟨Bl, 4, none⟩ = some (.string ⟨#[]⟩) ∧ w'.cell? ⟨Bl, 5, none⟩ = some (.slice none 0 0) ∧ w'.cell? ⟨(Bl + 1), 6, none⟩ = some (.int .i64 4) ∧ w'.cell? ⟨(Bl + 1), 7, none⟩ = some (.int .i32 0) ∧ w'.cell? ⟨(Bl + 1), 8, none⟩ = some (.bool qy) ∧ w'.cell? ⟨(Bl + 1), 9, none⟩ = some (.slice Ay ny cy) ∧ w'.cell? ⟨(Bl + 1), 10, none⟩ = some (.string ⟨#[]⟩) ∧ w'.cell? ⟨(Bl + 1), 11, none⟩ = some (.slice none 0 0) from by
                          obtain ⟨a0, a1, a2, a3, a4, a5⟩ := hx.cells ⟨Bt, vt, qt, At, nt, ct⟩ (List.mem_cons_of_mem _ List.mem_cons_self)
                          obtain ⟨b0, b1, b2, b3, b4, b5⟩ := hx.cells ⟨Bl, vl, ql, Al, nl, cl⟩ List.mem_cons_self
                          have hr := K.heap HRW.out id
                          exact ⟨a0, a1, a2, a3, a4, a5, b0, b1, b2, b3, b4, b5, by rw [cell_of_row _ _ _ _ _ _ hr]; rfl, by rw [cell_of_row _ _ _ _ _ _ hr]; rfl, by rw [cell_of_row _ _ _ _ _ _ hr]; rfl, by rw [cell_of_row _ _ _ _ _ _ hr]; rfl, by rw [cell_of_row _ _ _ _ _ _ hr]; rfl, by rw [cell_of_row _ _ _ _ _ _ hr]; rfl⟩))
                        have KD := HKA.out.trans ((Keep.refl _ _).drew)
                        have HXD := HX.out.keep ((Keep.refl _ _).drew)
                        have Y1 := Lib.hid (yes_cmp 10 (by omega) 2 (by decide) (by decide) [y, vt] rfl true (by rw [so_10]; exact (decide_eq_true HBT.out.2.1).symm))
                        have Y2 := Lib.hid (yes_cmp 10 (by omega) 2 (by decide) (by decide) [vl, y] rfl true (by rw [so_10]; exact (decide_eq_true HBL.out.2.1).symm))
                        go_region_held3 (fun w' => w'.cell? ⟨Bt, 0, none⟩ = some (.int .i64 4) ∧ w'.cell? ⟨Bt, 1, none⟩ = some (.int .i32 0) ∧ w'.cell? ⟨Bt, 2, none⟩ = some (.bool qt) ∧ w'.cell? ⟨Bt, 3, none⟩ = some (.slice At nt ct) ∧ w'.cell? ⟨Bt, 4, none⟩ = some (.string ⟨#[]⟩) ∧ w'.cell? ⟨Bt, 5, none⟩ = some (.slice none 0 0) ∧ w'.cell? ⟨Bl, 0, none⟩ = some (.int .i64 4) ∧ w'.cell? ⟨Bl, 1, none⟩ = some (.int .i32 0) ∧ w'.cell? ⟨Bl, 2, none⟩ = some (.bool ql) ∧ w'.cell? ⟨Bl, 3, none⟩ = some (.slice Al nl cl) ∧ w'.cell? ⟨Bl, 4, none⟩ = some (.string ⟨#[]⟩) ∧ w'.cell? ⟨Bl, 5, none⟩ = some (.slice none 0 0) ∧ w'.cell? ⟨(Bl + 1), 6, none⟩ = some (.int .i64 4) ∧ w'.cell? ⟨(Bl + 1), 7, none⟩ = some (.int .i32 0) ∧ w'.cell? ⟨(Bl + 1), 8, none⟩ = some (.bool qy) ∧ w'.cell? ⟨(Bl + 1), 9, none⟩ = some (.slice Ay ny cy) ∧ w'.cell? ⟨(Bl + 1), 10, none⟩ = some (.string ⟨#[]⟩) ∧ w'.cell? ⟨(Bl + 1), 11, none⟩ = some (.slice none 0 0))
                          (first | exact HC.out _ HXD KD | exact HC.out _ (HXD.other _) (KD.alloc _) | exact HC.out _ HX6 K6 | exact HC.out _ (HX6.other _) (K6.alloc _) | exact HC.out _ HX7 K7)
                          (first
                            | (go_at_call 12; have hz := HX6; refine (Y2.out _ _ _ (HX6.args [⟨Bl, vl, ql, Al, nl, cl⟩, ⟨By, y, qy, Ay, ny, cy⟩] _ (by rfl) (List.forall_mem_cons.2 ⟨List.mem_cons_self, (List.forall_mem_cons.2 ⟨(List.mem_cons_of_mem _ (List.mem_cons_of_mem _ (List.mem_cons_of_mem _ List.mem_cons_self))), (fun _ h => absurd h List.not_mem_nil)⟩)⟩) _ (by simp))).mono ?_; rintro e w7 ⟨rfl, kk⟩; have HX7 := (HX6.other _).keep kk; have K7 := (K6.alloc _).trans kk; clear hz kk)
                            | (go_at_call 12; refine (Y1.out _ _ _ (HXD.args [⟨By, y, qy, Ay, ny, cy⟩, ⟨Bt, vt, qt, At, nt, ct⟩] _ (by rfl) (List.forall_mem_cons.2 ⟨(List.mem_cons_of_mem _ (List.mem_cons_of_mem _ (List.mem_cons_of_mem _ List.mem_cons_self))), (List.forall_mem_cons.2 ⟨(List.mem_cons_of_mem _ List.mem_cons_self), (fun _ h => absurd h List.not_mem_nil)⟩)⟩) _ (by simp))).mono ?_; rintro e w6 ⟨rfl, kk⟩; have HX6 := (HXD.other _).keep kk; have K6 := (KD.alloc _).trans kk; clear kk))
                        refine hK _ _ (Met.intro (hJ _ _ ?_))
                        repeat apply Exists.intro
                        refine ⟨?rel, rfl⟩
                        case rel => exact ⟨rfl, HX7, K7⟩
                      case rest =>
                        obtain ⟨rfl, hx, kA⟩ := hcut
                        clear HX HKA
                        have HX := Lib.hid hx
                        have HKA := Lib.hid kA
                        clear hx kA
                        go_wp2_with fail
                        go_roundw
                        case rel => exact ⟨2, by decide, by rw [← Hsb.out.2], by rw [← Hlb.out.2], by go_num, HX.out, HKA.out⟩
                        case measure => simp only [intOf]; omega
                ·
                  obtain ⟨sb, hsb⟩ : ∃ s, s = anyB vt x y z 2 := ⟨_, rfl⟩
                  obtain ⟨sb2, hsb2⟩ : ∃ s, s = anyB vt x y z 3 := ⟨_, rfl⟩
                  obtain ⟨sb3, hsb3⟩ : ∃ s, s = decide (vt = z) := ⟨_, rfl⟩
                  have Hsb := Lib.hid (And.intro hsb hsb2)
                  have HQsb := Lib.hid hsb3
                  have HSsb := Lib.hid (show sb2 = (sb || sb3) from by rw [hsb, hsb2, hsb3]; rfl)
                  rw [← hsb]
                  clear hsb hsb2 hsb3
                  obtain ⟨lb, hlb⟩ : ∃ s, s = anyB vl x y z 2 := ⟨_, rfl⟩
                  obtain ⟨lb2, hlb2⟩ : ∃ s, s = anyB vl x y z 3 := ⟨_, rfl⟩
                  obtain ⟨lb3, hlb3⟩ : ∃ s, s = decide (vl = z) := ⟨_, rfl⟩
                  have Hlb := Lib.hid (And.intro hlb hlb2)
                  have HQlb := Lib.hid hlb3
                  have HSlb := Lib.hid (show lb2 = (lb || lb3) from by rw [hlb, hlb2, hlb3]; rfl)
                  rw [← hlb]
                  clear hlb hlb2 hlb3
                  go_upto_region 20 with fail
                  go_cut [16] from 142 to 150 (fun v wy => v = .bool sb2 ∧ Road w wy [⟨Bl, vl, ql, Al, nl, cl⟩, ⟨Bt, vt, qt, At, nt, ct⟩, ⟨Bz, z, qz, Az, nz, cz⟩, ⟨By, y, qy, Ay, ny, cy⟩, ⟨Bx, x, qx, Ax, nx, cx⟩] ∧ Keep (fun _ => False) wA wy)
                  case first =>
                    rename_i J K hJ hK
                    have HC := Lib.hid (fun (w' : World) (hx : Road w w' [⟨Bl, vl, ql, Al, nl, cl⟩, ⟨Bt, vt, qt, At, nt, ct⟩, ⟨Bz, z, qz, Az, nz, cz⟩, ⟨By, y, qy, Ay, ny, cy⟩, ⟨Bx, x, qx, Ax, nx, cx⟩]) (K : Keep (fun _ => False) wA w') => (show w'.cell? ⟨Bt, 0, none⟩ = some (.int .i64 4) ∧ w'.cell? ⟨Bt, 1, none⟩ = some (.int .i32 0) ∧ w'.cell? ⟨Bt, 2, none⟩ = some (.bool qt) ∧ w'.cell? ⟨Bt, 3, none⟩ = some (.slice At nt ct) ∧ w'.cell? ⟨Bt, 4, none⟩ = some (.string ⟨#[]⟩) ∧ w'.cell? ⟨Bt, 5, none⟩ = some (.slice none 0 0) ∧ w'.cell? ⟨(Bl + 1), 12, none⟩ = some (.int .i64 4) ∧ w'.cell? ⟨(Bl + 1), 13, none⟩ = some (.int .i32 0) ∧ w'.cell? ⟨(Bl + 1), 14, none⟩ = some (.bool qz) ∧ w'.cell? ⟨(Bl + 1), 15, none⟩ = some (.slice Az nz cz) ∧ w'.cell? ⟨(Bl + 1), 16, none⟩ = some (.string ⟨#[]⟩) ∧ w'.cell? ⟨(Bl + 1), 17, none⟩ = some (.slice none 0 0) from by
                      obtain ⟨a0, a1, a2, a3, a4, a5⟩ := hx.cells ⟨Bt, vt, qt, At, nt, ct⟩ (List.mem_cons_of_mem _ List.mem_cons_self)
                      have hr := K.heap HRW.out id
                      exact ⟨a0, a1, a2, a3, a4, a5, by rw [cell_of_row _ _ _ _ _ _ hr]; rfl, by rw [cell_of_row _ _ _ _ _ _ hr]; rfl, by rw [cell_of_row _ _ _ _ _ _ hr]; rfl, by rw [cell_of_row _ _ _ _ _ _ hr]; rfl, by rw [cell_of_row _ _ _ _ _ _ hr]; rfl, by rw [cell_of_row _ _ _ _ _ _ hr]; rfl⟩))
                    have KD := HKA.out.trans ((Keep.refl _ _).drew)
                    have HXD := HX.out.keep ((Keep.refl _ _).drew)
                    cases sb
                    case true =>
                      clear HC
                      refine wp_region_held_drew (S := fun _ => True) (by kernel_rfl) trivial (fun hHeld => ?_)
                      refine wpAnyH_take (i := 0) (oi := _) (v := ?_) rfl (by kernel_rfl) (by kernel_rfl) (by kernel_rfl) (fun _ _ _ h => h) (Or.inl ⟨by rfl, ?_⟩) (by assumption) ?_
                      rotate_left
                      · (intro w hSw; (try dsimp only at hSw); go_simp)
                        all_goals with_reducible rfl
                      try dsimp only [List.getElem_toArray, List.getElem_cons_succ, List.getElem_cons_zero]
                      try simp only [Act.put, List.setIfInBounds_toArray, List.set_cons_zero, List.set_cons_succ]
                      refine wpAnyH_take (i := 1) (oi := _) (v := ?_) rfl (by kernel_rfl) (by kernel_rfl) (by kernel_rfl) (fun _ _ _ h => h) (Or.inl ⟨by rfl, ?_⟩) (by assumption) ?_
                      rotate_left
                      · (intro w hSw; (try dsimp only at hSw); go_simp)
                        all_goals with_reducible rfl
                      try dsimp only [List.getElem_toArray, List.getElem_cons_succ, List.getElem_cons_zero]
                      try simp only [Act.put, List.setIfInBounds_toArray, List.set_cons_zero, List.set_cons_succ]
                      refine wpAnyH_take (i := 2) (oi := _) (v := undef) rfl (by kernel_rfl) (by kernel_rfl) (by kernel_rfl) (fun _ _ _ h => h) (Or.inr ⟨by rfl, rfl⟩) (by assumption) ?_
                      refine wpAnyH_take (i := 3) (oi := _) (v := undef) rfl (by kernel_rfl) (by kernel_rfl) (by kernel_rfl) (fun _ _ _ h => h) (Or.inr ⟨by rfl, rfl⟩) (by assumption) ?_
                      refine wpAnyH_take (i := 4) (oi := _) (v := undef) rfl (by kernel_rfl) (by kernel_rfl) (by kernel_rfl) (fun _ _ _ h => h) (Or.inr ⟨by rfl, rfl⟩) (by assumption) ?_
                      try dsimp only [List.getElem_toArray, List.getElem_cons_succ, List.getElem_cons_zero]
                      try simp only [Act.put, List.setIfInBounds_toArray, List.set_cons_zero, List.set_cons_succ]
                      refine wpAnyH_take (i := 5) (oi := _) (v := undef) rfl (by kernel_rfl) (by kernel_rfl) (by kernel_rfl) (fun _ _ _ h => h) (Or.inr ⟨by rfl, rfl⟩) (by assumption) ?_
                      refine wpAnyH_take (i := 6) (oi := _) (v := undef) rfl (by kernel_rfl) (by kernel_rfl) (by kernel_rfl) (fun _ _ _ h => h) (Or.inr ⟨by rfl, rfl⟩) (by assumption) ?_
                      refine wpAnyH_take (i := 7) (oi := _) (v := undef) rfl (by kernel_rfl) (by kernel_rfl) (by kernel_rfl) (fun _ _ _ h => h) (Or.inr ⟨by rfl, rfl⟩) (by assumption) ?_
                      try dsimp only [List.getElem_toArray, List.getElem_cons_succ, List.getElem_cons_zero]
                      try simp only [Act.put, List.setIfInBounds_toArray, List.set_cons_zero, List.set_cons_succ]
                      refine wpAnyH_take (i := 8) (oi := _) (v := ?_) rfl (by kernel_rfl) (by kernel_rfl) (by kernel_rfl) (fun _ _ _ h => h) (Or.inl ⟨by rfl, ?_⟩) (by assumption) ?_
                      rotate_left
                      · (intro w hSw; (try dsimp only at hSw); go_simp)
                        all_goals with_reducible rfl
                      try dsimp only [List.getElem_toArray, List.getElem_cons_succ, List.getElem_cons_zero]
                      try simp only [Act.put, List.setIfInBounds_toArray, List.set_cons_zero, List.set_cons_succ]
                      refine wpAnyH_take (i := 9) (oi := _) (v := ?_) rfl (by kernel_rfl) (by kernel_rfl) (by kernel_rfl) (fun _ _ _ h => h) (Or.inl ⟨by rfl, ?_⟩) (by assumption) ?_
                      rotate_left
                      · (intro w hSw; (try dsimp only at hSw); go_simp)
                        all_goals with_reducible rfl
                      try dsimp only [List.getElem_toArray, List.getElem_cons_succ, List.getElem_cons_zero]
                      try simp only [Act.put, List.setIfInBounds_toArray, List.set_cons_zero, List.set_cons_succ]
                      refine wpAnyH_done (by kernel_rfl) ?_ _
                      refine hK _ _ (Met.intro (hJ _ _ ?_))
                      repeat apply Exists.intro
                      refine ⟨?rel, rfl⟩
                      case rel => exact ⟨by rw [HSsb.out]; rfl, HXD, KD⟩
                    case false =>
                      go_region_held3 (fun w' => w'.cell? ⟨Bt, 0, none⟩ = some (.int .i64 4) ∧ w'.cell? ⟨Bt, 1, none⟩ = some (.int .i32 0) ∧ w'.cell? ⟨Bt, 2, none⟩ = some (.bool qt) ∧ w'.cell? ⟨Bt, 3, none⟩ = some (.slice At nt ct) ∧ w'.cell? ⟨Bt, 4, none⟩ = some (.string ⟨#[]⟩) ∧ w'.cell? ⟨Bt, 5, none⟩ = some (.slice none 0 0) ∧ w'.cell? ⟨(Bl + 1), 12, none⟩ = some (.int .i64 4) ∧ w'.cell? ⟨(Bl + 1), 13, none⟩ = some (.int .i32 0) ∧ w'.cell? ⟨(Bl + 1), 14, none⟩ = some (.bool qz) ∧ w'.cell? ⟨(Bl + 1), 15, none⟩ = some (.slice Az nz cz) ∧ w'.cell? ⟨(Bl + 1), 16, none⟩ = some (.string ⟨#[]⟩) ∧ w'.cell? ⟨(Bl + 1), 17, none⟩ = some (.slice none 0 0))
                        (first | exact HC.out _ HXD KD | exact HC.out _ (HXD.keep kk) (KD.trans kk))
                        (first | (go_at_call 10; refine (HXD.same ⟨Bt, vt, qt, At, nt, ct⟩ ⟨Bz, z, qz, Az, nz, cz⟩ (List.mem_cons_of_mem _ List.mem_cons_self) (List.mem_cons_of_mem _ (List.mem_cons_of_mem _ List.mem_cons_self)) sb3 HQsb.out).mono ?_; rintro e w6 ⟨rfl, kk⟩))
                      refine hK _ _ (Met.intro (hJ _ _ ?_))
                      repeat apply Exists.intro
                      refine ⟨?rel, rfl⟩
                      case rel => exact ⟨by rw [HSsb.out]; rfl, HXD.keep kk, KD.trans kk⟩
                  case rest =>
                    obtain ⟨rfl, hx, kA⟩ := hcut
                    clear HX HKA
                    have HX := Lib.hid hx
                    have HKA := Lib.hid kA
                    clear hx kA
                    go_upto_region 21 with fail
                    go_cut [17] from 151 to 159 (fun v wy => v = .bool lb2 ∧ Road w wy [⟨Bl, vl, ql, Al, nl, cl⟩, ⟨Bt, vt, qt, At, nt, ct⟩, ⟨Bz, z, qz, Az, nz, cz⟩, ⟨By, y, qy, Ay, ny, cy⟩, ⟨Bx, x, qx, Ax, nx, cx⟩] ∧ Keep (fun _ => False) wA wy)
                    case first =>
                      rename_i J K hJ hK
                      have HC := Lib.hid (fun (w' : World) (hx : Road w w' [⟨Bl, vl, ql, Al, nl, cl⟩, ⟨Bt, vt, qt, At, nt, ct⟩, ⟨Bz, z, qz, Az, nz, cz⟩, ⟨By, y, qy, Ay, ny, cy⟩, ⟨Bx, x, qx, Ax, nx, cx⟩]) (K : Keep (fun _ => False) wA w') => (show w'.cell? ⟨Bl, 0, none⟩ = some (.int .i64 4) ∧ w'.cell? ⟨Bl, 1, none⟩ = some (.int .i32 0) ∧ w'.cell? ⟨Bl, 2, none⟩ = some (.bool ql) ∧ w'.cell? ⟨Bl, 3, none⟩ = some (.slice Al nl cl) ∧ w'.cell? ⟨Bl, 4, none⟩ = some (.string ⟨#[]⟩) ∧ w'.cell? ⟨Bl, 5, none⟩ = some (.slice none 0 0) ∧ w'.cell? ⟨(Bl + 1), 12, none⟩ = some (.int .i64 4) ∧ w'.cell? ⟨(Bl + 1), 13, none⟩ = some (.int .i32 0) ∧ w'.cell? ⟨(Bl + 1), 14, none⟩ = some (.bool qz) ∧ w'.cell? ⟨(Bl + 1), 15, none⟩ = some (.slice Az nz cz) ∧ w'.cell? ⟨(Bl + 1), 16, none⟩ = some (.string ⟨#[]⟩) ∧ w'.cell? ⟨(Bl + 1), 17, none⟩ = some (.slice none 0 0) from by
                        obtain ⟨a0, a1, a2, a3, a4, a5⟩ := hx.cells ⟨Bl, vl, ql, Al, nl, cl⟩ List.mem_cons_self
                        have hr := K.heap HRW.out id
                        exact ⟨a0, a1, a2, a3, a4, a5, by rw [cell_of_row _ _ _ _ _ _ hr]; rfl, by rw [cell_of_row _ _ _ _ _ _ hr]; rfl, by rw [cell_of_row _ _ _ _ _ _ hr]; rfl, by rw [cell_of_row _ _ _ _ _ _ hr]; rfl, by rw [cell_of_row _ _ _ _ _ _ hr]; rfl, by rw [cell_of_row _ _ _ _ _ _ hr]; rfl⟩))
                      have KD := HKA.out.trans ((Keep.refl _ _).drew)
                      have HXD := HX.out.keep ((Keep.refl _ _).drew)
                      cases lb
                      case true =>
                        clear HC
                        refine wp_region_held_drew (S := fun _ => True) (by kernel_rfl) trivial (fun hHeld => ?_)
                        refine wpAnyH_take (i := 0) (oi := _) (v := ?_) rfl (by kernel_rfl) (by kernel_rfl) (by kernel_rfl) (fun _ _ _ h => h) (Or.inl ⟨by rfl, ?_⟩) (by assumption) ?_
                        rotate_left
                        · (intro w hSw; (try dsimp only at hSw); go_simp)
                          all_goals with_reducible rfl
                        try dsimp only [List.getElem_toArray, List.getElem_cons_succ, List.getElem_cons_zero]
                        try simp only [Act.put, List.setIfInBounds_toArray, List.set_cons_zero, List.set_cons_succ]
                        refine wpAnyH_take (i := 1) (oi := _) (v := ?_) rfl (by kernel_rfl) (by kernel_rfl) (by kernel_rfl) (fun _ _ _ h => h) (Or.inl ⟨by rfl, ?_⟩) (by assumption) ?_
                        rotate_left
                        · (intro w hSw; (try dsimp only at hSw); go_simp)
                          all_goals with_reducible rfl
                        try dsimp only [List.getElem_toArray, List.getElem_cons_succ, List.getElem_cons_zero]
                        try simp only [Act.put, List.setIfInBounds_toArray, List.set_cons_zero, List.set_cons_succ]
                        refine wpAnyH_take (i := 2) (oi := _) (v := undef) rfl (by kernel_rfl) (by kernel_rfl) (by kernel_rfl) (fun _ _ _ h => h) (Or.inr ⟨by rfl, rfl⟩) (by assumption) ?_
                        refine wpAnyH_take (i := 3) (oi := _) (v := undef) rfl (by kernel_rfl) (by kernel_rfl) (by kernel_rfl) (fun _ _ _ h => h) (Or.inr ⟨by rfl, rfl⟩) (by assumption) ?_
                        refine wpAnyH_take (i := 4) (oi := _) (v := undef) rfl (by kernel_rfl) (by kernel_rfl) (by kernel_rfl) (fun _ _ _ h => h) (Or.inr ⟨by rfl, rfl⟩) (by assumption) ?_
                        try dsimp only [List.getElem_toArray, List.getElem_cons_succ, List.getElem_cons_zero]
                        try simp only [Act.put, List.setIfInBounds_toArray, List.set_cons_zero, List.set_cons_succ]
                        refine wpAnyH_take (i := 5) (oi := _) (v := undef) rfl (by kernel_rfl) (by kernel_rfl) (by kernel_rfl) (fun _ _ _ h => h) (Or.inr ⟨by rfl, rfl⟩) (by assumption) ?_
                        refine wpAnyH_take (i := 6) (oi := _) (v := undef) rfl (by kernel_rfl) (by kernel_rfl) (by kernel_rfl) (fun _ _ _ h => h) (Or.inr ⟨by rfl, rfl⟩) (by assumption) ?_
                        refine wpAnyH_take (i := 7) (oi := _) (v := undef) rfl (by kernel_rfl) (by kernel_rfl) (by kernel_rfl) (fun _ _ _ h => h) (Or.inr ⟨by rfl, rfl⟩) (by assumption) ?_
                        try dsimp only [List.getElem_toArray, List.getElem_cons_succ, List.getElem_cons_zero]
                        try simp only [Act.put, List.setIfInBounds_toArray, List.set_cons_zero, List.set_cons_succ]
                        refine wpAnyH_take (i := 8) (oi := _) (v := ?_) rfl (by kernel_rfl) (by kernel_rfl) (by kernel_rfl) (fun _ _ _ h => h) (Or.inl ⟨by rfl, ?_⟩) (by assumption) ?_
                        rotate_left
                        · (intro w hSw; (try dsimp only at hSw); go_simp)
                          all_goals with_reducible rfl
                        try dsimp only [List.getElem_toArray, List.getElem_cons_succ, List.getElem_cons_zero]
                        try simp only [Act.put, List.setIfInBounds_toArray, List.set_cons_zero, List.set_cons_succ]
                        refine wpAnyH_take (i := 9) (oi := _) (v := ?_) rfl (by kernel_rfl) (by kernel_rfl) (by kernel_rfl) (fun _ _ _ h => h) (Or.inl ⟨by rfl, ?_⟩) (by assumption) ?_
                        rotate_left
                        · (intro w hSw; (try dsimp only at hSw); go_simp)
                          all_goals with_reducible rfl
                        try dsimp only [List.getElem_toArray, List.getElem_cons_succ, List.getElem_cons_zero]
                        try simp only [Act.put, List.setIfInBounds_toArray, List.set_cons_zero, List.set_cons_succ]
                        refine wpAnyH_done (by kernel_rfl) ?_ _
                        refine hK _ _ (Met.intro (hJ _ _ ?_))
                        repeat apply Exists.intro
                        refine ⟨?rel, rfl⟩
                        case rel => exact ⟨by rw [HSlb.out]; rfl, HXD, KD⟩
                      case false =>
                        go_region_held3 (fun w' => w'.cell? ⟨Bl, 0, none⟩ = some (.int .i64 4) ∧ w'.cell? ⟨Bl, 1, none⟩ = some (.int .i32 0) ∧ w'.cell? ⟨Bl, 2, none⟩ = some (.bool ql) ∧ w'.cell? ⟨Bl, 3, none⟩ = some (.slice Al nl cl) ∧ w'.cell? ⟨Bl, 4, none⟩ = some (.string ⟨#[]⟩) ∧ w'.cell? ⟨Bl, 5, none⟩ = some (.slice none 0 0) ∧ w'.cell? ⟨(Bl + 1), 12, none⟩ = some (.int .i64 4) ∧ w'.cell? ⟨(Bl + 1), 13, none⟩ = some (.int .i32 0) ∧ w'.cell? ⟨(Bl + 1), 14, none⟩ = some (.bool qz) ∧ w'.cell? ⟨(Bl + 1), 15, none⟩ = some (.slice Az nz cz) ∧ w'.cell? ⟨(Bl + 1), 16, none⟩ = some (.string ⟨#[]⟩) ∧ w'.cell? ⟨(Bl + 1), 17, none⟩ = some (.slice none 0 0))
                          (first | exact HC.out _ HXD KD | exact HC.out _ (HXD.keep kk) (KD.trans kk))
                          (first | (go_at_call 10; refine (HXD.same ⟨Bl, vl, ql, Al, nl, cl⟩ ⟨Bz, z, qz, Az, nz, cz⟩ List.mem_cons_self (List.mem_cons_of_mem _ (List.mem_cons_of_mem _ List.mem_cons_self)) lb3 HQlb.out).mono ?_; rintro e w6 ⟨rfl, kk⟩))
                        refine hK _ _ (Met.intro (hJ _ _ ?_))
                        repeat apply Exists.intro
                        refine ⟨?rel, rfl⟩
                        case rel => exact ⟨by rw [HSlb.out]; rfl, HXD.keep kk, KD.trans kk⟩
                    case rest =>
                      obtain ⟨rfl, hx, kA⟩ := hcut
                      clear HX HKA
                      have HX := Lib.hid hx
                      have HKA := Lib.hid kA
                      clear hx kA
                      go_upto_region 22 with fail
                      go_cut [177] from 160 to 177 (fun v wy => v = .bool false ∧ Road w wy [⟨Bl, vl, ql, Al, nl, cl⟩, ⟨Bt, vt, qt, At, nt, ct⟩, ⟨Bz, z, qz, Az, nz, cz⟩, ⟨By, y, qy, Ay, ny, cy⟩, ⟨Bx, x, qx, Ax, nx, cx⟩] ∧ Keep (fun _ => False) wA wy)
                      case first =>
                        rename_i J K hJ hK
                        have HC := Lib.hid (fun (w' : World) (hx : Road w w' [⟨Bl, vl, ql, Al, nl, cl⟩, ⟨Bt, vt, qt, At, nt, ct⟩, ⟨Bz, z, qz, Az, nz, cz⟩, ⟨By, y, qy, Ay, ny, cy⟩, ⟨Bx, x, qx, Ax, nx, cx⟩]) (K : Keep (fun _ => False) wA w') => (show w'.cell? ⟨Bt, 0, none⟩ = some (.int .i64 4) ∧ w'.cell? ⟨Bt, 1, none⟩ = some (.int .i32 0) ∧ w'.cell? ⟨Bt, 2, none⟩ = some (.bool qt) ∧ w'.cell? ⟨Bt, 3, none⟩ = some (.slice At nt ct) ∧ w'.cell? ⟨Bt, 4, none⟩ = some (.string ⟨#[]⟩) ∧ w'.cell? ⟨Bt, 5, none⟩ = some (.slice none 0 0) ∧ w'.cell? ⟨Bl, 0, none⟩ = some (.int .i64 4) ∧ w'.cell? ⟨Bl, 1, none⟩ = some (.int .i32 0) ∧ w'.cell? ⟨Bl, 2, none⟩ = some (.bool ql) ∧ w'.cell? ⟨Bl, 3, none⟩ = some (.slice Al nl cl) ∧ w'.cell? ⟨Bl, 4, none⟩ = some (.string ⟨#[]⟩) ∧ w'.cell? ⟨Bl, 5, none⟩ = some (.slice none 0 0) ∧ w'.cell? ⟨(Bl + 1), 12, none⟩ = some (.int .i64 4) ∧ w'.cell? ⟨(Bl + 1), 13, none⟩ = some (.int .i32 0) ∧ w'.cell? ⟨(Bl + 1), 14, none⟩ = some (.bool qz) ∧ w'.cell? ⟨(Bl + 1), 15, none⟩ = some (.slice Az nz cz) ∧ w'.cell? ⟨(Bl + 1), 16, none⟩ = some (.string ⟨#[]⟩) ∧ w'.cell? ⟨(Bl + 1), 17, none⟩ = some (.slice none 0 0) from by
                          obtain ⟨a0, a1, a2, a3, a4, a5⟩ := hx.cells ⟨Bt, vt, qt, At, nt, ct⟩ (List.mem_cons_of_mem _ List.mem_cons_self)
                          obtain ⟨b0, b1, b2, b3, b4, b5⟩ := hx.cells ⟨Bl, vl, ql, Al, nl, cl⟩ List.mem_cons_self
                          have hr := K.heap HRW.out id
                          exact ⟨a0, a1, a2, a3, a4, a5, b0, b1, b2, b3, b4, b5, by rw [cell_of_row _ _ _ _ _ _ hr]; rfl, by rw [cell_of_row _ _ _ _ _ _ hr]; rfl, by rw [cell_of_row _ _ _ _ _ _ hr]; rfl, by rw [cell_of_row _ _ _ _ _ _ hr]; rfl, by rw [cell_of_row _ _ _ _ _ _ hr]; rfl, by rw [cell_of_row _ _ _ _ _ _ hr]; rfl⟩))
                        have KD := HKA.out.trans ((Keep.refl _ _).drew)
                        have HXD := HX.out.keep ((Keep.refl _ _).drew)
                        have Y1 := Lib.hid (yes_cmp 10 (by omega) 2 (by decide) (by decide) [z, vt] rfl true (by rw [so_10]; exact (decide_eq_true HBT.out.2.2).symm))
                        have Y2 := Lib.hid (yes_cmp 10 (by omega) 2 (by decide) (by decide) [vl, z] rfl true (by rw [so_10]; exact (decide_eq_true HBL.out.2.2).symm))
                        go_region_held3 (fun w' => w'.cell? ⟨Bt, 0, none⟩ = some (.int .i64 4) ∧ w'.cell? ⟨Bt, 1, none⟩ = some (.int .i32 0) ∧ w'.cell? ⟨Bt, 2, none⟩ = some (.bool qt) ∧ w'.cell? ⟨Bt, 3, none⟩ = some (.slice At nt ct) ∧ w'.cell? ⟨Bt, 4, none⟩ = some (.string ⟨#[]⟩) ∧ w'.cell? ⟨Bt, 5, none⟩ = some (.slice none 0 0) ∧ w'.cell? ⟨Bl, 0, none⟩ = some (.int .i64 4) ∧ w'.cell? ⟨Bl, 1, none⟩ = some (.int .i32 0) ∧ w'.cell? ⟨Bl, 2, none⟩ = some (.bool ql) ∧ w'.cell? ⟨Bl, 3, none⟩ = some (.slice Al nl cl) ∧ w'.cell? ⟨Bl, 4, none⟩ = some (.string ⟨#[]⟩) ∧ w'.cell? ⟨Bl, 5, none⟩ = some (.slice none 0 0) ∧ w'.cell? ⟨(Bl + 1), 12, none⟩ = some (.int .i64 4) ∧ w'.cell? ⟨(Bl + 1), 13, none⟩ = some (.int .i32 0) ∧ w'.cell? ⟨(Bl + 1), 14, none⟩ = some (.bool qz) ∧ w'.cell? ⟨(Bl + 1), 15, none⟩ = some (.slice Az nz cz) ∧ w'.cell? ⟨(Bl + 1), 16, none⟩ = some (.string ⟨#[]⟩) ∧ w'.cell? ⟨(Bl + 1), 17, none⟩ = some (.slice none 0 0))
                          (first | exact HC.out _ HXD KD | exact HC.out _ (HXD.other _) (KD.alloc _) | exact HC.out _ HX6 K6 | exact HC.out _ (HX6.other _) (K6.alloc _) | exact HC.out _ HX7 K7)
                          (first
                            | (go_at_call 12; have hz := HX6; refine (Y2.out _ _ _ (HX6.args [⟨Bl, vl, ql, Al, nl, cl⟩, ⟨Bz, z, qz, Az, nz, cz⟩] _ (by rfl) (List.forall_mem_cons.2 ⟨List.mem_cons_self, (List.forall_mem_cons.2 ⟨(List.mem_cons_of_mem _ (List.mem_cons_of_mem _ List.mem_cons_self)), (fun _ h => absurd h List.not_mem_nil)⟩)⟩) _ (by simp))).mono ?_; rintro e w7 ⟨rfl, kk⟩; have HX7 := (HX6.other _).keep kk; have K7 := (K6.alloc _).trans kk; clear hz kk)
                            | (go_at_call 12; refine (Y1.out _ _ _ (HXD.args [⟨Bz, z, qz, Az, nz, cz⟩, ⟨Bt, vt, qt, At, nt, ct⟩] _ (by rfl) (List.forall_mem_cons.2 ⟨(List.mem_cons_of_mem _ (List.mem_cons_of_mem _ List.mem_cons_self)), (List.forall_mem_cons.2 ⟨(List.mem_cons_of_mem _ List.mem_cons_self), (fun _ h => absurd h List.not_mem_nil)⟩)⟩) _ (by simp))).mono ?_; rintro e w6 ⟨rfl, kk⟩; have HX6 := (HXD.other _).keep kk; have K6 := (KD.alloc _).trans kk; clear kk))
                        refine hK _ _ (Met.intro (hJ _ _ ?_))
                        repeat apply Exists.intro
                        refine ⟨?rel, rfl⟩
                        case rel => exact ⟨rfl, HX7, K7⟩
                      case rest =>
                        obtain ⟨rfl, hx, kA⟩ := hcut
                        clear HX HKA
                        have HX := Lib.hid hx
                        have HKA := Lib.hid kA
                        clear hx kA
                        go_wp2_with fail
                        go_roundw
                        case rel => exact ⟨3, by decide, by rw [← Hsb.out.2], by rw [← Hlb.out.2], by go_num, HX.out, HKA.out⟩
                        case measure => simp only [intOf]; omega
              · have l1 : decide ((i : Int) < 3) = false := decide_eq_false (by omega)
                obtain rfl : i = 3 := by omega
                have HS1 := Lib.hid (anyB_three (by rw [HB.out.1]; exact best_of 12 x y z) : anyB vt x y z 3 = true)
                have HS2 := Lib.hid (anyB_three (by rw [HB.out.2]; exact best_of 13 x y z) : anyB vl x y z 3 = true)
                rw [HS1.out, HS2.out]
                go_wp2_with fail
                refine (awake_any _).mono ?_
                rintro e w5 ⟨rfl, k5⟩
                have HK5 := Lib.hid (HX.out.K.trans k5)
                clear k5
                go_wp2_with fail
                go_ret
                exact ⟨rfl, HK5.out⟩
end Go.Proofs.YtkjocmenpccooaaGreatDoor
