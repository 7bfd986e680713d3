/-
  The law ArithRing: its walk.
-/
import Derived.Test.YtkjocmenpccooaaGreatDoorHqW
namespace Go.Proofs.YtkjocmenpccooaaGreatDoor
open Go.RowKit

def er3 (i : Nat) (x y z : Int) : Int := okI (if i = 0 then foldV (· + ·) 0 [x, y, z] else foldV (· * ·) 1 [x, y, z])
def v3 (i : Nat) (x y z : Int) : Int := (if i = 0 then foldV (· + ·) 0 [x, y, z] else foldV (· * ·) 1 [x, y, z]).getD 0
theorem er3_cases (i : Nat) (x y z : Int) : er3 i x y z = 0 ∨ er3 i x y z = 6 := okI_cases _
theorem v3_back {i : Nat} {x y z : Int} (h1 : er3 i x y z = 0) (h2 : er3 i z y x = 0) : v3 i x y z = v3 i z y x := by
  unfold er3 at h1 h2
  unfold v3
  by_cases hi : i = 0
  · rw [if_pos hi] at h1 h2 ⊢
    rw [if_pos hi]
    exact sum_back x y z h1 h2
  · rw [if_neg hi] at h1 h2 ⊢
    rw [if_neg hi]
    exact mul_back x y z h1 h2
theorem run3 (i : Nat) (hi : i < 2) (W : World) (A : Option Addr) (cp : Nat) (x y z : Int) (h : ArgsR W A [x, y, z]) : Calls Tryz.prog 9 #[.int .i64 (i : Int), .slice A 3 cp] W (RunEnd 4 (er3 i x y z) (v3 i x y z) W) := by
  match i, hi with
  | 0, _ => exact run_add W A 3 cp (.inr rfl) [x, y, z] rfl h
  | 1, _ => exact run_mul W A 3 cp (.inr rfl) [x, y, z] rfl h
/-- In how many ways do two stand, of the first j? -/
def waysB (x y : Int) : Nat → Int
  | 0 => 0
  | j + 1 => waysB x y j + (if orderB ((j : Int) + 7) [x, y] then 1 else 0)
theorem waysB_le (x y : Int) (j : Nat) : 0 ≤ waysB x y j ∧ waysB x y j ≤ j := by
  induction j with
  | zero => exact ⟨Int.le_refl _, Int.le_refl _⟩
  | succ j ih =>
    unfold waysB
    split <;> omega
theorem waysB_three (x y : Int) : waysB x y 3 = 1 := by
  have := ways_one x y
  unfold waysB waysB waysB waysB
  rw [show (((0 : Nat) : Int) + 7) = 7 from rfl, show (((1 : Nat) : Int) + 7) = 8 from rfl, show (((2 : Nat) : Int) + 7) = 9 from rfl]
  omega
set_option maxRecDepth 100000 in
set_option maxHeartbeats 20000000 in
theorem ring_any (w : World) (qx : Bool) (Ax : Option Addr) (nx cx : Nat) (lx : List Nat) (qy : Bool) (Ay : Option Addr) (ny cy : Nat) (ly : List Nat) (qz : Bool) (Az : Option Addr) (nz cz : Nat) (lz : List Nat)
    (h1 : nx ≤ 60 → LimbsAt w Ax nx cx lx) (h2 : ny ≤ 60 → LimbsAt w Ay ny cy ly) (h3 : nz ≤ 60 → LimbsAt w Az nz cz lz) :
    Calls Tryz.prog 3 #[numArg qx Ax nx cx, numArg qy Ay ny cy, numArg qz Az nz cz] w (BoolPost true w) := by
  have HL := Lib.hid (And.intro h1 (And.intro h2 h3))
  clear h1 h2 h3
  obtain ⟨wa, hwa⟩ : ∃ wa, wa = ((w.alloc (.cells #[.bool qx, .slice Ax nx cx] 24)).alloc (.cells #[.bool qy, .slice Ay ny cy] 24)).alloc (.cells #[.bool qz, .slice Az nz cz] 24) := ⟨_, rfl⟩
  have HR3 := Lib.hid (boxes_three w (.bool qx) (.slice Ax nx cx) (.bool qy) (.slice Ay ny cy) (.bool qz) (.slice Az nz cz))
  rw [← hwa] at HR3
  have HKA := Lib.hid (show Keep (fun _ => False) w wa from by rw [hwa]; exact (((Keep.refl _ _).alloc _).alloc _).alloc _)
  go_enter Tryz.func3, Tryz.ntmps3
  go_upto_region 1 with fail
  rw [← hwa]
  clear hwa
  have KD := Lib.hid (show Keep (fun _ => False) wa wa.drew from (Keep.refl _ _).drew)
  have HS := Lib.hid (fun (w' : World) (K : Keep (fun _ => False) wa w') => (show w'.cell? ⟨w.heap.size, 0, none⟩ = some (.bool qx) ∧ w'.cell? ⟨w.heap.size, 1, none⟩ = some (.slice Ax nx cx) ∧ w'.cell? ⟨w.heap.size + 1, 0, none⟩ = some (.bool qy) ∧ w'.cell? ⟨w.heap.size + 1, 1, none⟩ = some (.slice Ay ny cy) ∧ w'.cell? ⟨w.heap.size + 1 + 1, 0, none⟩ = some (.bool qz) ∧ w'.cell? ⟨w.heap.size + 1 + 1, 1, none⟩ = some (.slice Az nz cz) from by
    obtain ⟨a, b, c⟩ := HR3.out
    obtain ⟨a0, a1⟩ := pair_cells (K.heap a id)
    obtain ⟨b0, b1⟩ := pair_cells (K.heap b id)
    obtain ⟨c0, c1⟩ := pair_cells (K.heap c id)
    exact ⟨a0, a1, b0, b1, c0, c1⟩))
  go_cut [7, 8, 9] from 31 (fun v7 v8 v9 wy => ∃ (Bx By Bz : Nat), v7 = .pointer (some ⟨Bx, 0, none⟩) ∧ v8 = .pointer (some ⟨By, 0, none⟩) ∧ v9 = .pointer (some ⟨Bz, 0, none⟩) ∧ Raw3 w wy ⟨qx, lx, ⟨Ax, nx, cx⟩⟩ ⟨qy, ly, ⟨Ay, ny, cy⟩⟩ ⟨qz, lz, ⟨Az, nz, cz⟩⟩ Bx By Bz)
  case first =>
    rename_i J K hJ hK
    go_region_held3 (fun w' => w'.cell? ⟨w.heap.size, 0, none⟩ = some (.bool qx) ∧ w'.cell? ⟨w.heap.size, 1, none⟩ = some (.slice Ax nx cx) ∧ w'.cell? ⟨w.heap.size + 1, 0, none⟩ = some (.bool qy) ∧ w'.cell? ⟨w.heap.size + 1, 1, none⟩ = some (.slice Ay ny cy) ∧ w'.cell? ⟨w.heap.size + 1 + 1, 0, none⟩ = some (.bool qz) ∧ w'.cell? ⟨w.heap.size + 1 + 1, 1, none⟩ = some (.slice Az nz cz))
      (first | exact HS.out _ KD.out | exact HS.out _ (KD.out.alloc _) | exact HS.out _ ((KD.out.alloc _).alloc _) | exact HS.out _ (((KD.out.alloc _).alloc _).alloc _) | exact HS.out _ (six_keep (((KD.out.alloc _).alloc _).alloc _) (by first | exact Nat.le_refl _ | exact Nat.le_add_right _ _ | exact Nat.le_add_right _ 2) _ _ _ _ _ _) | exact HS.out _ (six_keep (six_keep (((KD.out.alloc _).alloc _).alloc _) (by first | exact Nat.le_refl _ | exact Nat.le_add_right _ _ | exact Nat.le_add_right _ 2) _ _ _ _ _ _) (by first | exact Nat.le_refl _ | exact Nat.le_add_right _ _ | exact Nat.le_add_right _ 2) _ _ _ _ _ _) | exact HS.out _ (six_keep (six_keep (six_keep (((KD.out.alloc _).alloc _).alloc _) (by first | exact Nat.le_refl _ | exact Nat.le_add_right _ _ | exact Nat.le_add_right _ 2) _ _ _ _ _ _) (by first | exact Nat.le_refl _ | exact Nat.le_add_right _ _ | exact Nat.le_add_right _ 2) _ _ _ _ _ _) (by first | exact Nat.le_refl _ | exact Nat.le_add_right _ _ | exact Nat.le_add_right _ 2) _ _ _ _ _ _))
      (fail)
    all_goals
      refine hK _ _ (Met.intro (hJ _ _ ?_))
      repeat apply Exists.intro
      refine ⟨?rel, rfl⟩
      case rel =>
        refine ⟨_, _, _, rfl, rfl, rfl, raw3_of HKA.out (alloc3 wa _ _ _).2 HL.out ?_ ?_ ?_⟩
        all_goals first | exact (alloc3 wa _ _ _).1.1 | exact (alloc3 wa _ _ _).1.2.1 | exact (alloc3 wa _ _ _).1.2.2
  case rest =>
    obtain ⟨Bx, By, Bz, rfl, rfl, rfl, hraw⟩ := hcut
    have HR := Lib.hid hraw
    obtain ⟨x0, x1, x2, x3, x4, x5⟩ := (six_cells hraw.2.1.1).1
    obtain ⟨y0, y1, y2, y3, y4, y5⟩ := (six_cells hraw.2.2.1.1).1
    obtain ⟨z0, z1, z2, z3, z4, z5⟩ := (six_cells hraw.2.2.2.1).1
    clear hraw HL HS KD HR3 HKA
    obtain ⟨t, ht⟩ : ∃ t, t = rightB [⟨qx, lx, ⟨Ax, nx, cx⟩⟩, ⟨qy, ly, ⟨Ay, ny, cy⟩⟩, ⟨qz, lz, ⟨Az, nz, cz⟩⟩] := ⟨_, rfl⟩
    have HT := Lib.hid ht
    clear ht
    go_wp2_with fail
    refine (right_any _ _ 3 _ [⟨qx, lx, ⟨Ax, nx, cx⟩⟩, ⟨qy, ly, ⟨Ay, ny, cy⟩⟩, ⟨qz, lz, ⟨Az, nz, cz⟩⟩] rfl (DatR.of [⟨qx, lx, ⟨Ax, nx, cx⟩⟩, ⟨qy, ly, ⟨Ay, ny, cy⟩⟩, ⟨qz, lz, ⟨Az, nz, cz⟩⟩] [] (row_new wc _ 27) (by rfl) (fun d hd => by
      have k := (Keep.refl (fun _ => False) wc).alloc
      simp only [List.mem_cons, List.not_mem_nil, or_false] at hd
      rcases hd with rfl | rfl | rfl
      · exact HR.out.2.1.2.keep0 (k _)
      · exact HR.out.2.2.1.2.keep0 (k _)
      · exact HR.out.2.2.2.2.keep0 (k _))) (by decide) t HT.out).mono ?_
    rintro e wr ⟨rfl, kr⟩
    have HKR := Lib.hid (((Keep.refl _ _).alloc _).trans kr)
    clear kr x0 x1 x2 x3 x4 x5 y0 y1 y2 y3 y4 y5 z0 z1 z2 z3 z4 z5
    cases t with
    | false =>
      go_wp2_with fail
      refine (awake_any _).mono ?_
      rintro e w5 ⟨rfl, k5⟩
      have HK5 := Lib.hid ((HR.out.1.trans HKR.out).trans k5)
      clear k5
      go_wp2_with fail
      go_ret
      exact ⟨rfl, HK5.out⟩
    | true =>
      have OK := rightB_ok HT.out.symm
      have X1 := (HR.out.2.1.keep HKR.out).good (OK _ List.mem_cons_self)
      have X2 := (HR.out.2.2.1.keep HKR.out).good (OK _ (List.mem_cons_of_mem _ List.mem_cons_self))
      have X3 := (HR.out.2.2.2.keep HKR.out).good (OK _ (List.mem_cons_of_mem _ (List.mem_cons_of_mem _ List.mem_cons_self)))
      obtain ⟨x, hx⟩ : ∃ x, x = ND.x ⟨qx, lx, ⟨Ax, nx, cx⟩⟩ := ⟨_, rfl⟩
      obtain ⟨y, hy⟩ : ∃ y, y = ND.x ⟨qy, ly, ⟨Ay, ny, cy⟩⟩ := ⟨_, rfl⟩
      obtain ⟨z, hz⟩ : ∃ z, z = ND.x ⟨qz, lz, ⟨Az, nz, cz⟩⟩ := ⟨_, rfl⟩
      rw [← hx] at X1
      rw [← hy] at X2
      rw [← hz] at X3
      have HX := Lib.hid (show Road w wr [⟨Bz, z, qz, Az, nz, cz⟩, ⟨By, y, qy, Ay, ny, cy⟩, ⟨Bx, x, qx, Ax, nx, cx⟩] from ⟨HR.out.1.trans HKR.out, List.forall_mem_cons.2 ⟨X3, List.forall_mem_cons.2 ⟨X2, List.forall_mem_cons.2 ⟨X1, fun _ h => absurd h List.not_mem_nil⟩⟩⟩⟩)
      have HF := Lib.hid (And.intro X1.is.f (And.intro X2.is.f X3.is.f))
      clear HR HKR HT OK X1 X2 X3 hx hy hz
      go_wp2_with fail
      go_loopw [10] (fun iv wr => ∃ i : Nat, i ≤ 2 ∧ iv = .int .i64 (i : Int) ∧ Road w wr [⟨Bz, z, qz, Az, nz, cz⟩, ⟨By, y, qy, Ay, ny, cy⟩, ⟨Bx, x, qx, Ax, nx, cx⟩]) (fun iv _ => 2 - (intOf iv).toNat)
      case atStart => exact ⟨0, by decide, rfl, HX.out⟩
      case round =>
        obtain ⟨i, hi, rfl, hx⟩ := hrel
        clear HX
        have HX := Lib.hid hx
        clear hx
        by_cases h4 : i < 2
        · have l1 : decide ((i : Int) < 2) = true := decide_eq_true (by omega)
          have l2 : decide (i < 2) = true := decide_eq_true h4
          obtain ⟨v, hv⟩ : ∃ v, v = v3 i x y z := ⟨_, rfl⟩
          obtain ⟨v', hv'⟩ : ∃ v, v = v3 i z y x := ⟨_, rfl⟩
          have HVV := Lib.hid (And.intro hv hv')
          clear hv hv'
          obtain ⟨x0, x1, x2, x3, x4, x5⟩ := HX.out.cells ⟨Bx, x, qx, Ax, nx, cx⟩ (List.mem_cons_of_mem _ (List.mem_cons_of_mem _ List.mem_cons_self))
          obtain ⟨y0, y1, y2, y3, y4, y5⟩ := HX.out.cells ⟨By, y, qy, Ay, ny, cy⟩ (List.mem_cons_of_mem _ List.mem_cons_self)
          obtain ⟨z0, z1, z2, z3, z4, z5⟩ := HX.out.cells ⟨Bz, z, qz, Az, nz, cz⟩ List.mem_cons_self
          go_wp2_with fail
          refine (run3 i h4 _ _ _ x y z (HX.out.args [⟨Bx, x, qx, Ax, nx, cx⟩, ⟨By, y, qy, Ay, ny, cy⟩, ⟨Bz, z, qz, Az, nz, cz⟩] _ (by rfl) (List.forall_mem_cons.2 ⟨(List.mem_cons_of_mem _ (List.mem_cons_of_mem _ List.mem_cons_self)), (List.forall_mem_cons.2 ⟨(List.mem_cons_of_mem _ List.mem_cons_self), (List.forall_mem_cons.2 ⟨List.mem_cons_self, (fun _ h => absurd h List.not_mem_nil)⟩)⟩)⟩) _ (by simp))).mono ?_
          rintro e w11 hre
          clear x0 x1 x2 x3 x4 x5 y0 y1 y2 y3 y4 y5 z0 z1 z2 z3 z4 z5
          rw [← HVV.out.1] at hre
          rcases er3_cases i x y z with he | he
          · rw [he] at hre
            obtain ⟨qp, Ap, np, cp, rfl, kk, hv⟩ := hre.good
            have HX1 := Lib.hid ((HX.out.keep (((Keep.refl _ _).alloc _).trans kk)).new hv)
            clear hv kk hre
            clear HX
            have HX := HX1
            clear HX1
            obtain ⟨z0, z1, z2, z3, z4, z5⟩ := HX.out.cells ⟨Bz, z, qz, Az, nz, cz⟩ (List.mem_cons_of_mem _ List.mem_cons_self)
            obtain ⟨y0, y1, y2, y3, y4, y5⟩ := HX.out.cells ⟨By, y, qy, Ay, ny, cy⟩ (List.mem_cons_of_mem _ (List.mem_cons_of_mem _ List.mem_cons_self))
            obtain ⟨x0, x1, x2, x3, x4, x5⟩ := HX.out.cells ⟨Bx, x, qx, Ax, nx, cx⟩ (List.mem_cons_of_mem _ (List.mem_cons_of_mem _ (List.mem_cons_of_mem _ List.mem_cons_self)))
            go_wp2_with fail
            refine (run3 i h4 _ _ _ z y x (HX.out.args [⟨Bz, z, qz, Az, nz, cz⟩, ⟨By, y, qy, Ay, ny, cy⟩, ⟨Bx, x, qx, Ax, nx, cx⟩] _ (by rfl) (List.forall_mem_cons.2 ⟨(List.mem_cons_of_mem _ List.mem_cons_self), (List.forall_mem_cons.2 ⟨(List.mem_cons_of_mem _ (List.mem_cons_of_mem _ List.mem_cons_self)), (List.forall_mem_cons.2 ⟨(List.mem_cons_of_mem _ (List.mem_cons_of_mem _ (List.mem_cons_of_mem _ List.mem_cons_self))), (fun _ h => absurd h List.not_mem_nil)⟩)⟩)⟩) _ (by simp))).mono ?_
            rintro e w12 hre
            clear z0 z1 z2 z3 z4 z5 y0 y1 y2 y3 y4 y5 x0 x1 x2 x3 x4 x5
            rw [← HVV.out.2] at hre
            rcases er3_cases i z y x with he2 | he2
            · rw [he2] at hre
              obtain rfl : v = v' := by rw [HVV.out.1, HVV.out.2]; exact v3_back he he2
              obtain ⟨qu, Au, nu, cu, rfl, kk, hv⟩ := hre.good
              have HX1 := Lib.hid ((HX.out.keep (((Keep.refl _ _).alloc _).trans kk)).new hv)
              clear hv kk hre
              clear HX
              have HX := HX1
              clear HX1
              generalize w11.heap.size = Bp at HX ⊢
              obtain ⟨p0, p1, p2, p3, p4, p5⟩ := HX.out.cells ⟨Bp, v, qp, Ap, np, cp⟩ (List.mem_cons_of_mem _ List.mem_cons_self)
              obtain ⟨u0, u1, u2, u3, u4, u5⟩ := HX.out.cells ⟨w12.heap.size, v, qu, Au, nu, cu⟩ List.mem_cons_self
              go_wp2_with fail
              refine (HX.out.same ⟨Bp, v, qp, Ap, np, cp⟩ ⟨w12.heap.size, v, qu, Au, nu, cu⟩ (List.mem_cons_of_mem _ List.mem_cons_self) List.mem_cons_self true (decide_eq_true rfl).symm).mono ?_
              rintro e w13 ⟨rfl, kk⟩
              have HX1 := Lib.hid (HX.out.keep kk)
              clear kk
              clear HX
              have HX := HX1
              clear HX1
              clear p0 p1 p2 p3 p4 p5 u0 u1 u2 u3 u4 u5
              generalize w12.heap.size = Bu at HX ⊢
              clear HVV
              go_wp2_with fail
              go_roundw
              case rel => exact ⟨i + 1, h4, by go_num, HX.out.sub (List.forall_mem_cons.2 ⟨(List.mem_cons_of_mem _ (List.mem_cons_of_mem _ List.mem_cons_self)), (List.forall_mem_cons.2 ⟨(List.mem_cons_of_mem _ (List.mem_cons_of_mem _ (List.mem_cons_of_mem _ List.mem_cons_self))), (List.forall_mem_cons.2 ⟨(List.mem_cons_of_mem _ (List.mem_cons_of_mem _ (List.mem_cons_of_mem _ (List.mem_cons_of_mem _ List.mem_cons_self)))), (fun _ h => absurd h List.not_mem_nil)⟩)⟩)⟩)⟩
              case measure => simp only [intOf]; omega
            · rw [he2] at hre
              obtain ⟨ko, qo, Ao, no, co, rfl, kk, hw⟩ := hre.any
              have HX1 := Lib.hid ((HX.out.keep (((Keep.refl _ _).alloc _).trans kk)).other (datC ko qo Ao no co ⟨#[]⟩))
              clear kk hw hre
              clear HX
              have HX := HX1
              clear HX1
              generalize w11.heap.size = Bp at HX ⊢
              go_wp2_with fail
              go_roundw
              case rel => exact ⟨i + 1, h4, by go_num, HX.out.sub (List.forall_mem_cons.2 ⟨(List.mem_cons_of_mem _ List.mem_cons_self), (List.forall_mem_cons.2 ⟨(List.mem_cons_of_mem _ (List.mem_cons_of_mem _ List.mem_cons_self)), (List.forall_mem_cons.2 ⟨(List.mem_cons_of_mem _ (List.mem_cons_of_mem _ (List.mem_cons_of_mem _ List.mem_cons_self))), (fun _ h => absurd h List.not_mem_nil)⟩)⟩)⟩)⟩
              case measure => simp only [intOf]; omega
          · rw [he] at hre
            obtain ⟨ko, qo, Ao, no, co, rfl, kk, hw⟩ := hre.any
            have HX1 := Lib.hid ((HX.out.keep (((Keep.refl _ _).alloc _).trans kk)).other (datC ko qo Ao no co ⟨#[]⟩))
            clear kk hw hre
            clear HX
            have HX := HX1
            clear HX1
            obtain ⟨z0, z1, z2, z3, z4, z5⟩ := HX.out.cells ⟨Bz, z, qz, Az, nz, cz⟩ List.mem_cons_self
            obtain ⟨y0, y1, y2, y3, y4, y5⟩ := HX.out.cells ⟨By, y, qy, Ay, ny, cy⟩ (List.mem_cons_of_mem _ List.mem_cons_self)
            obtain ⟨x0, x1, x2, x3, x4, x5⟩ := HX.out.cells ⟨Bx, x, qx, Ax, nx, cx⟩ (List.mem_cons_of_mem _ (List.mem_cons_of_mem _ List.mem_cons_self))
            go_wp2_with fail
            refine (run3 i h4 _ _ _ z y x (HX.out.args [⟨Bz, z, qz, Az, nz, cz⟩, ⟨By, y, qy, Ay, ny, cy⟩, ⟨Bx, x, qx, Ax, nx, cx⟩] _ (by rfl) (List.forall_mem_cons.2 ⟨List.mem_cons_self, (List.forall_mem_cons.2 ⟨(List.mem_cons_of_mem _ List.mem_cons_self), (List.forall_mem_cons.2 ⟨(List.mem_cons_of_mem _ (List.mem_cons_of_mem _ List.mem_cons_self)), (fun _ h => absurd h List.not_mem_nil)⟩)⟩)⟩) _ (by simp))).mono ?_
            rintro e w14 hre
            clear z0 z1 z2 z3 z4 z5 y0 y1 y2 y3 y4 y5 x0 x1 x2 x3 x4 x5
            generalize er3 i z y x = er2 at hre
            obtain ⟨ko, qo, Ao, no, co, rfl, kk, hw⟩ := hre.any
            have HX1 := Lib.hid ((HX.out.keep (((Keep.refl _ _).alloc _).trans kk)).other (datC ko qo Ao no co ⟨#[]⟩))
            clear kk hw hre
            clear HX
            have HX := HX1
            clear HX1
            go_wp2_with fail
            go_roundw
            case rel => exact ⟨i + 1, h4, by go_num, HX.out.sub (List.forall_mem_cons.2 ⟨List.mem_cons_self, (List.forall_mem_cons.2 ⟨(List.mem_cons_of_mem _ List.mem_cons_self), (List.forall_mem_cons.2 ⟨(List.mem_cons_of_mem _ (List.mem_cons_of_mem _ List.mem_cons_self)), (fun _ h => absurd h List.not_mem_nil)⟩)⟩)⟩)⟩
            case measure => simp only [intOf]; omega
        · have l1 : decide ((i : Int) < 2) = false := decide_eq_false (by omega)
          have l2 : decide (i < 2) = false := decide_eq_false h4
          obtain rfl : i = 2 := by omega
          obtain ⟨x0, x1, x2, x3, x4, x5⟩ := HX.out.cells ⟨Bx, x, qx, Ax, nx, cx⟩ (List.mem_cons_of_mem _ (List.mem_cons_of_mem _ List.mem_cons_self))
          obtain ⟨y0, y1, y2, y3, y4, y5⟩ := HX.out.cells ⟨By, y, qy, Ay, ny, cy⟩ (List.mem_cons_of_mem _ List.mem_cons_self)
          go_wp2_with fail
          refine (run_sum _ _ _ x y HF.out.1 (HX.out.args [⟨Bx, x, qx, Ax, nx, cx⟩, ⟨By, y, qy, Ay, ny, cy⟩] _ (by rfl) (List.forall_mem_cons.2 ⟨(List.mem_cons_of_mem _ (List.mem_cons_of_mem _ List.mem_cons_self)), (List.forall_mem_cons.2 ⟨(List.mem_cons_of_mem _ List.mem_cons_self), (fun _ h => absurd h List.not_mem_nil)⟩)⟩) _ (by simp))).mono ?_
          rintro e w15 hre
          clear x0 x1 x2 x3 x4 x5 y0 y1 y2 y3 y4 y5
          clear l1 l2
          by_cases hs : Fits (x + y)
          · rw [if_pos hs] at hre
            obtain ⟨qs, As, ns, cs, rfl, kk, hv⟩ := hre.good
            have HX1 := Lib.hid ((HX.out.keep (((Keep.refl _ _).alloc _).trans kk)).new hv)
            clear hv kk hre
            clear HX
            have HX := HX1
            clear HX1
            obtain ⟨s0, s1, s2, s3, s4, s5⟩ := HX.out.cells ⟨w15.heap.size, (x + y), qs, As, ns, cs⟩ List.mem_cons_self
            obtain ⟨y0, y1, y2, y3, y4, y5⟩ := HX.out.cells ⟨By, y, qy, Ay, ny, cy⟩ (List.mem_cons_of_mem _ (List.mem_cons_of_mem _ List.mem_cons_self))
            go_wp2_with fail
            refine (run_sub _ _ _ (x + y) y (HX.out.args [⟨w15.heap.size, (x + y), qs, As, ns, cs⟩, ⟨By, y, qy, Ay, ny, cy⟩] _ (by rfl) (List.forall_mem_cons.2 ⟨List.mem_cons_self, (List.forall_mem_cons.2 ⟨(List.mem_cons_of_mem _ (List.mem_cons_of_mem _ List.mem_cons_self)), (fun _ h => absurd h List.not_mem_nil)⟩)⟩) _ (by simp))).mono ?_
            rintro e w16 hre
            clear s0 s1 s2 s3 s4 s5 y0 y1 y2 y3 y4 y5
            rw [show x + y - y = x from by omega, if_pos HF.out.1] at hre
            obtain ⟨qk, Ak, nk, ck, rfl, kk, hv⟩ := hre.good
            have HX1 := Lib.hid ((HX.out.keep (((Keep.refl _ _).alloc _).trans kk)).new hv)
            clear hv kk hre
            clear HX
            have HX := HX1
            clear HX1
            generalize w15.heap.size = Bs at HX ⊢
            obtain ⟨k0, k1, k2, k3, k4, k5⟩ := HX.out.cells ⟨w16.heap.size, x, qk, Ak, nk, ck⟩ List.mem_cons_self
            obtain ⟨x0, x1, x2, x3, x4, x5⟩ := HX.out.cells ⟨Bx, x, qx, Ax, nx, cx⟩ (List.mem_cons_of_mem _ (List.mem_cons_of_mem _ (List.mem_cons_of_mem _ (List.mem_cons_of_mem _ List.mem_cons_self))))
            go_wp2_with fail
            refine (HX.out.same ⟨w16.heap.size, x, qk, Ak, nk, ck⟩ ⟨Bx, x, qx, Ax, nx, cx⟩ List.mem_cons_self (List.mem_cons_of_mem _ (List.mem_cons_of_mem _ (List.mem_cons_of_mem _ (List.mem_cons_of_mem _ List.mem_cons_self)))) true (decide_eq_true rfl).symm).mono ?_
            rintro e w17 ⟨rfl, kk⟩
            have HX1 := Lib.hid (HX.out.keep kk)
            clear kk
            clear HX
            have HX := HX1
            clear HX1
            clear k0 k1 k2 k3 k4 k5 x0 x1 x2 x3 x4 x5
            generalize w16.heap.size = Bk at HX ⊢
            clear hs
            by_cases hy0 : y = 0
            · subst hy0
              obtain ⟨x0, x1, x2, x3, x4, x5⟩ := HX.out.cells ⟨Bx, x, qx, Ax, nx, cx⟩ (List.mem_cons_of_mem _ (List.mem_cons_of_mem _ (List.mem_cons_of_mem _ (List.mem_cons_of_mem _ List.mem_cons_self))))
              obtain ⟨y0, y1, y2, y3, y4, y5⟩ := HX.out.cells ⟨By, 0, qy, Ay, ny, cy⟩ (List.mem_cons_of_mem _ (List.mem_cons_of_mem _ (List.mem_cons_of_mem _ List.mem_cons_self)))
              go_wp2_with fail
              refine (run_zero 4 (.inl rfl) _ _ _ x (HX.out.args [⟨Bx, x, qx, Ax, nx, cx⟩, ⟨By, 0, qy, Ay, ny, cy⟩] _ (by rfl) (List.forall_mem_cons.2 ⟨(List.mem_cons_of_mem _ (List.mem_cons_of_mem _ (List.mem_cons_of_mem _ (List.mem_cons_of_mem _ List.mem_cons_self)))), (List.forall_mem_cons.2 ⟨(List.mem_cons_of_mem _ (List.mem_cons_of_mem _ (List.mem_cons_of_mem _ List.mem_cons_self))), (fun _ h => absurd h List.not_mem_nil)⟩)⟩) _ (by simp))).mono ?_
              rintro e w18 hre
              clear x0 x1 x2 x3 x4 x5 y0 y1 y2 y3 y4 y5
              obtain ⟨ko, qo, Ao, no, co, rfl, kk, hw⟩ := hre.any
              have HX1 := Lib.hid ((HX.out.keep (((Keep.refl _ _).alloc _).trans kk)).other (datC ko qo Ao no co ⟨#[]⟩))
              clear kk hw hre
              clear HX
              have HX := HX1
              clear HX1
              obtain ⟨x0, x1, x2, x3, x4, x5⟩ := HX.out.cells ⟨Bx, x, qx, Ax, nx, cx⟩ (List.mem_cons_of_mem _ (List.mem_cons_of_mem _ (List.mem_cons_of_mem _ (List.mem_cons_of_mem _ List.mem_cons_self))))
              obtain ⟨y0, y1, y2, y3, y4, y5⟩ := HX.out.cells ⟨By, 0, qy, Ay, ny, cy⟩ (List.mem_cons_of_mem _ (List.mem_cons_of_mem _ (List.mem_cons_of_mem _ List.mem_cons_self)))
              go_wp2_with fail
              refine (run_zero 5 (.inr (.inl rfl)) _ _ _ x (HX.out.args [⟨Bx, x, qx, Ax, nx, cx⟩, ⟨By, 0, qy, Ay, ny, cy⟩] _ (by rfl) (List.forall_mem_cons.2 ⟨(List.mem_cons_of_mem _ (List.mem_cons_of_mem _ (List.mem_cons_of_mem _ (List.mem_cons_of_mem _ List.mem_cons_self)))), (List.forall_mem_cons.2 ⟨(List.mem_cons_of_mem _ (List.mem_cons_of_mem _ (List.mem_cons_of_mem _ List.mem_cons_self))), (fun _ h => absurd h List.not_mem_nil)⟩)⟩) _ (by simp))).mono ?_
              rintro e w19 hre
              clear x0 x1 x2 x3 x4 x5 y0 y1 y2 y3 y4 y5
              obtain ⟨ko, qo, Ao, no, co, rfl, kk, hw⟩ := hre.any
              have HX1 := Lib.hid ((HX.out.keep (((Keep.refl _ _).alloc _).trans kk)).other (datC ko qo Ao no co ⟨#[]⟩))
              clear kk hw hre
              clear HX
              have HX := HX1
              clear HX1
              go_wp2_with fail
              go_loopw [27, 28] (fun cv nv wr => ∃ j : Nat, j ≤ 3 ∧ cv = .int .i64 (waysB x 0 j) ∧ nv = .int .i64 ((j : Int) + 7) ∧ Road w wr [⟨Bz, z, qz, Az, nz, cz⟩, ⟨By, 0, qy, Ay, ny, cy⟩, ⟨Bx, x, qx, Ax, nx, cx⟩]) (fun _ nv _ => 10 - (intOf nv).toNat)
              case atStart => exact ⟨0, by decide, rfl, rfl, HX.out.sub (List.forall_mem_cons.2 ⟨(List.mem_cons_of_mem _ (List.mem_cons_of_mem _ List.mem_cons_self)), (List.forall_mem_cons.2 ⟨(List.mem_cons_of_mem _ (List.mem_cons_of_mem _ (List.mem_cons_of_mem _ List.mem_cons_self))), (List.forall_mem_cons.2 ⟨(List.mem_cons_of_mem _ (List.mem_cons_of_mem _ (List.mem_cons_of_mem _ (List.mem_cons_of_mem _ List.mem_cons_self)))), (fun _ h => absurd h List.not_mem_nil)⟩)⟩)⟩)⟩
              case round =>
                obtain ⟨j, hj, rfl, rfl, hx⟩ := hrel
                clear HX
                have HX := Lib.hid hx
                clear hx
                obtain ⟨m, hm⟩ : ∃ m, m = waysB x 0 j := ⟨_, rfl⟩
                have hm2 := waysB_le x 0 j
                rw [← hm] at hm2 ⊢
                have HM := Lib.hid hm
                clear hm
                obtain ⟨hm0, hm3⟩ := hm2
                by_cases h4 : j < 3
                · have l1 : decide ((j : Int) + 7 < 10) = true := decide_eq_true (by omega)
                  have l2 : decide ((j : Int) < 3) = true := decide_eq_true (by omega)
                  obtain ⟨x0, x1, x2, x3, x4, x5⟩ := HX.out.cells ⟨Bx, x, qx, Ax, nx, cx⟩ (List.mem_cons_of_mem _ (List.mem_cons_of_mem _ List.mem_cons_self))
                  obtain ⟨y0, y1, y2, y3, y4, y5⟩ := HX.out.cells ⟨By, 0, qy, Ay, ny, cy⟩ (List.mem_cons_of_mem _ List.mem_cons_self)
                  go_wp2_with fail
                  refine (run_cmp ((j : Int) + 7) (by omega) _ _ 2 _ (by decide) (by decide) [x, 0] rfl (HX.out.args [⟨Bx, x, qx, Ax, nx, cx⟩, ⟨By, 0, qy, Ay, ny, cy⟩] _ (by rfl) (List.forall_mem_cons.2 ⟨(List.mem_cons_of_mem _ (List.mem_cons_of_mem _ List.mem_cons_self)), (List.forall_mem_cons.2 ⟨(List.mem_cons_of_mem _ List.mem_cons_self), (fun _ h => absurd h List.not_mem_nil)⟩)⟩) _ (by simp))).mono ?_
                  rintro e w20 hre
                  clear x0 x1 x2 x3 x4 x5 y0 y1 y2 y3 y4 y5
                  obtain ⟨t, ht⟩ : ∃ t, t = orderB ((j : Int) + 7) [x, 0] := ⟨_, rfl⟩
                  rw [← ht] at hre
                  have HW := Lib.hid (show waysB x 0 (j + 1) = m + (if t then 1 else 0) from by rw [HM.out, ht]; rfl)
                  clear ht HM
                  cases t with
                  | true =>
                    rw [if_pos rfl] at hre
                    obtain ⟨ko, qo, Ao, no, co, rfl, kk, hw⟩ := hre.any
                    obtain ⟨rfl, _⟩ := hw rfl
                    have HX1 := Lib.hid ((HX.out.keep (((Keep.refl _ _).alloc _).trans kk)).other (datC 1 qo Ao no co ⟨#[]⟩))
                    clear kk hw hre
                    clear HX
                    have HX := HX1
                    clear HX1
                    obtain ⟨⟨o0, o1, o2, o3, o4, o5⟩, _⟩ := six_cells (heap_alloc_new w20 (datC 1 qo Ao no co ⟨#[]⟩))
                    go_wp2_with fail
                    go_roundw
                    case rel => exact ⟨j + 1, h4, by rw [HW.out] <;> (first | go_num | simp), by go_num, HX.out⟩
                    case measure => simp only [intOf]; omega
                  | false =>
                    rw [if_neg (by decide)] at hre
                    obtain ⟨ko, qo, Ao, no, co, rfl, kk, hw⟩ := hre.any
                    obtain ⟨rfl, _⟩ := hw rfl
                    have HX1 := Lib.hid ((HX.out.keep (((Keep.refl _ _).alloc _).trans kk)).other (datC 2 qo Ao no co ⟨#[]⟩))
                    clear kk hw hre
                    clear HX
                    have HX := HX1
                    clear HX1
                    obtain ⟨⟨o0, o1, o2, o3, o4, o5⟩, _⟩ := six_cells (heap_alloc_new w20 (datC 2 qo Ao no co ⟨#[]⟩))
                    go_wp2_with fail
                    go_roundw
                    case rel => exact ⟨j + 1, h4, by rw [HW.out] <;> (first | go_num | simp), by go_num, HX.out⟩
                    case measure => simp only [intOf]; omega
                · have l1 : decide ((j : Int) + 7 < 10) = false := decide_eq_false (by omega)
                  have l2 : decide ((j : Int) < 3) = false := decide_eq_false (by omega)
                  obtain rfl : j = 3 := by omega
                  obtain rfl : m = 1 := by rw [HM.out]; exact waysB_three _ _
                  clear HM hm0 hm3
                  go_wp2_with fail
                  refine (awake_any _).mono ?_
                  rintro e w5 ⟨rfl, k5⟩
                  have HK5 := Lib.hid (HX.out.K.trans k5)
                  clear k5
                  go_wp2_with fail
                  go_ret
                  exact ⟨rfl, HK5.out⟩
            · have HRF := Lib.hid (ring_facts x y HF.out.1 hy0)
              have HY0 := Lib.hid hy0
              clear hy0
              obtain ⟨vd, hvd⟩ : ∃ v, v = divV 4 x y := ⟨_, rfl⟩
              obtain ⟨vr, hvr⟩ : ∃ v, v = divV 5 x y := ⟨_, rfl⟩
              obtain ⟨vm, hvm⟩ : ∃ v, v = vd * y := ⟨_, rfl⟩
              have HV := Lib.hid (show Fits vd ∧ Fits vr ∧ Fits vm ∧ vm + vr = x from ⟨by rw [hvd]; exact HRF.out.q, by rw [hvr]; exact HRF.out.r, by rw [hvm, hvd]; exact HRF.out.p, by rw [hvm, hvd, hvr]; exact HRF.out.s⟩)
              have HVE := Lib.hid (And.intro hvd (And.intro hvr hvm))
              clear hvd hvr hvm HRF
              obtain ⟨x0, x1, x2, x3, x4, x5⟩ := HX.out.cells ⟨Bx, x, qx, Ax, nx, cx⟩ (List.mem_cons_of_mem _ (List.mem_cons_of_mem _ (List.mem_cons_of_mem _ (List.mem_cons_of_mem _ List.mem_cons_self))))
              obtain ⟨y0, y1, y2, y3, y4, y5⟩ := HX.out.cells ⟨By, y, qy, Ay, ny, cy⟩ (List.mem_cons_of_mem _ (List.mem_cons_of_mem _ (List.mem_cons_of_mem _ List.mem_cons_self)))
              go_wp2_with fail
              refine (run_div 4 (.inl rfl) _ _ _ x y HY0.out (HX.out.args [⟨Bx, x, qx, Ax, nx, cx⟩, ⟨By, y, qy, Ay, ny, cy⟩] _ (by rfl) (List.forall_mem_cons.2 ⟨(List.mem_cons_of_mem _ (List.mem_cons_of_mem _ (List.mem_cons_of_mem _ (List.mem_cons_of_mem _ List.mem_cons_self)))), (List.forall_mem_cons.2 ⟨(List.mem_cons_of_mem _ (List.mem_cons_of_mem _ (List.mem_cons_of_mem _ List.mem_cons_self))), (fun _ h => absurd h List.not_mem_nil)⟩)⟩) _ (by simp))).mono ?_
              rintro e w21 hre
              clear x0 x1 x2 x3 x4 x5 y0 y1 y2 y3 y4 y5
              rw [← HVE.out.1, if_pos HV.out.1] at hre
              obtain ⟨qd, Ad, nd, cd, rfl, kk, hv⟩ := hre.good
              have HX1 := Lib.hid ((HX.out.keep (((Keep.refl _ _).alloc _).trans kk)).new hv)
              clear hv kk hre
              clear HX
              have HX := HX1
              clear HX1
              obtain ⟨x0, x1, x2, x3, x4, x5⟩ := HX.out.cells ⟨Bx, x, qx, Ax, nx, cx⟩ (List.mem_cons_of_mem _ (List.mem_cons_of_mem _ (List.mem_cons_of_mem _ (List.mem_cons_of_mem _ (List.mem_cons_of_mem _ List.mem_cons_self)))))
              obtain ⟨y0, y1, y2, y3, y4, y5⟩ := HX.out.cells ⟨By, y, qy, Ay, ny, cy⟩ (List.mem_cons_of_mem _ (List.mem_cons_of_mem _ (List.mem_cons_of_mem _ (List.mem_cons_of_mem _ List.mem_cons_self))))
              go_wp2_with fail
              refine (run_div 5 (.inr (.inl rfl)) _ _ _ x y HY0.out (HX.out.args [⟨Bx, x, qx, Ax, nx, cx⟩, ⟨By, y, qy, Ay, ny, cy⟩] _ (by rfl) (List.forall_mem_cons.2 ⟨(List.mem_cons_of_mem _ (List.mem_cons_of_mem _ (List.mem_cons_of_mem _ (List.mem_cons_of_mem _ (List.mem_cons_of_mem _ List.mem_cons_self))))), (List.forall_mem_cons.2 ⟨(List.mem_cons_of_mem _ (List.mem_cons_of_mem _ (List.mem_cons_of_mem _ (List.mem_cons_of_mem _ List.mem_cons_self)))), (fun _ h => absurd h List.not_mem_nil)⟩)⟩) _ (by simp))).mono ?_
              rintro e w22 hre
              clear x0 x1 x2 x3 x4 x5 y0 y1 y2 y3 y4 y5
              rw [← HVE.out.2.1, if_pos HV.out.2.1] at hre
              obtain ⟨qr, Ar, nr, cr, rfl, kk, hv⟩ := hre.good
              have HX1 := Lib.hid ((HX.out.keep (((Keep.refl _ _).alloc _).trans kk)).new hv)
              clear hv kk hre
              clear HX
              have HX := HX1
              clear HX1
              generalize w21.heap.size = Bd at HX ⊢
              obtain ⟨d0, d1, d2, d3, d4, d5⟩ := HX.out.cells ⟨Bd, vd, qd, Ad, nd, cd⟩ (List.mem_cons_of_mem _ List.mem_cons_self)
              obtain ⟨y0, y1, y2, y3, y4, y5⟩ := HX.out.cells ⟨By, y, qy, Ay, ny, cy⟩ (List.mem_cons_of_mem _ (List.mem_cons_of_mem _ (List.mem_cons_of_mem _ (List.mem_cons_of_mem _ (List.mem_cons_of_mem _ List.mem_cons_self)))))
              go_wp2_with fail
              refine (run_prod _ _ _ vd y HV.out.1 (HX.out.args [⟨Bd, vd, qd, Ad, nd, cd⟩, ⟨By, y, qy, Ay, ny, cy⟩] _ (by rfl) (List.forall_mem_cons.2 ⟨(List.mem_cons_of_mem _ List.mem_cons_self), (List.forall_mem_cons.2 ⟨(List.mem_cons_of_mem _ (List.mem_cons_of_mem _ (List.mem_cons_of_mem _ (List.mem_cons_of_mem _ (List.mem_cons_of_mem _ List.mem_cons_self))))), (fun _ h => absurd h List.not_mem_nil)⟩)⟩) _ (by simp))).mono ?_
              rintro e w23 hre
              clear d0 d1 d2 d3 d4 d5 y0 y1 y2 y3 y4 y5
              rw [← HVE.out.2.2, if_pos HV.out.2.2.1] at hre
              obtain ⟨qm, Am, nm, cm, rfl, kk, hv⟩ := hre.good
              have HX1 := Lib.hid ((HX.out.keep (((Keep.refl _ _).alloc _).trans kk)).new hv)
              clear hv kk hre
              clear HX
              have HX := HX1
              clear HX1
              generalize w22.heap.size = Br at HX ⊢
              obtain ⟨m0, m1, m2, m3, m4, m5⟩ := HX.out.cells ⟨w23.heap.size, vm, qm, Am, nm, cm⟩ List.mem_cons_self
              obtain ⟨r0, r1, r2, r3, r4, r5⟩ := HX.out.cells ⟨Br, vr, qr, Ar, nr, cr⟩ (List.mem_cons_of_mem _ List.mem_cons_self)
              go_wp2_with fail
              refine (run_sum _ _ _ vm vr HV.out.2.2.1 (HX.out.args [⟨w23.heap.size, vm, qm, Am, nm, cm⟩, ⟨Br, vr, qr, Ar, nr, cr⟩] _ (by rfl) (List.forall_mem_cons.2 ⟨List.mem_cons_self, (List.forall_mem_cons.2 ⟨(List.mem_cons_of_mem _ List.mem_cons_self), (fun _ h => absurd h List.not_mem_nil)⟩)⟩) _ (by simp))).mono ?_
              rintro e w24 hre
              clear m0 m1 m2 m3 m4 m5 r0 r1 r2 r3 r4 r5
              rw [HV.out.2.2.2, if_pos HF.out.1] at hre
              obtain ⟨qb, Ab, nb, cb, rfl, kk, hv⟩ := hre.good
              have HX1 := Lib.hid ((HX.out.keep (((Keep.refl _ _).alloc _).trans kk)).new hv)
              clear hv kk hre
              clear HX
              have HX := HX1
              clear HX1
              generalize w23.heap.size = Bm at HX ⊢
              obtain ⟨b0, b1, b2, b3, b4, b5⟩ := HX.out.cells ⟨w24.heap.size, x, qb, Ab, nb, cb⟩ List.mem_cons_self
              obtain ⟨x0, x1, x2, x3, x4, x5⟩ := HX.out.cells ⟨Bx, x, qx, Ax, nx, cx⟩ (List.mem_cons_of_mem _ (List.mem_cons_of_mem _ (List.mem_cons_of_mem _ (List.mem_cons_of_mem _ (List.mem_cons_of_mem _ (List.mem_cons_of_mem _ (List.mem_cons_of_mem _ (List.mem_cons_of_mem _ List.mem_cons_self))))))))
              go_wp2_with fail
              refine (HX.out.same ⟨w24.heap.size, x, qb, Ab, nb, cb⟩ ⟨Bx, x, qx, Ax, nx, cx⟩ List.mem_cons_self (List.mem_cons_of_mem _ (List.mem_cons_of_mem _ (List.mem_cons_of_mem _ (List.mem_cons_of_mem _ (List.mem_cons_of_mem _ (List.mem_cons_of_mem _ (List.mem_cons_of_mem _ (List.mem_cons_of_mem _ List.mem_cons_self)))))))) true (decide_eq_true rfl).symm).mono ?_
              rintro e w25 ⟨rfl, kk⟩
              have HX1 := Lib.hid (HX.out.keep kk)
              clear kk
              clear HX
              have HX := HX1
              clear HX1
              clear b0 b1 b2 b3 b4 b5 x0 x1 x2 x3 x4 x5
              generalize w24.heap.size = Bb at HX ⊢
              clear HV HVE HY0
              go_wp2_with fail
              go_loopw [27, 28] (fun cv nv wr => ∃ j : Nat, j ≤ 3 ∧ cv = .int .i64 (waysB x y j) ∧ nv = .int .i64 ((j : Int) + 7) ∧ Road w wr [⟨Bz, z, qz, Az, nz, cz⟩, ⟨By, y, qy, Ay, ny, cy⟩, ⟨Bx, x, qx, Ax, nx, cx⟩]) (fun _ nv _ => 10 - (intOf nv).toNat)
              case atStart => exact ⟨0, by decide, rfl, rfl, HX.out.sub (List.forall_mem_cons.2 ⟨(List.mem_cons_of_mem _ (List.mem_cons_of_mem _ (List.mem_cons_of_mem _ (List.mem_cons_of_mem _ (List.mem_cons_of_mem _ (List.mem_cons_of_mem _ List.mem_cons_self)))))), (List.forall_mem_cons.2 ⟨(List.mem_cons_of_mem _ (List.mem_cons_of_mem _ (List.mem_cons_of_mem _ (List.mem_cons_of_mem _ (List.mem_cons_of_mem _ (List.mem_cons_of_mem _ (List.mem_cons_of_mem _ List.mem_cons_self))))))), (List.forall_mem_cons.2 ⟨(List.mem_cons_of_mem _ (List.mem_cons_of_mem _ (List.mem_cons_of_mem _ (List.mem_cons_of_mem _ (List.mem_cons_of_mem _ (List.mem_cons_of_mem _ (List.mem_cons_of_mem _ (List.mem_cons_of_mem _ List.mem_cons_self)))))))), (fun _ h => absurd h List.not_mem_nil)⟩)⟩)⟩)⟩
              case round =>
                obtain ⟨j, hj, rfl, rfl, hx⟩ := hrel
                clear HX
                have HX := Lib.hid hx
                clear hx
                obtain ⟨m, hm⟩ : ∃ m, m = waysB x y j := ⟨_, rfl⟩
                have hm2 := waysB_le x y j
                rw [← hm] at hm2 ⊢
                have HM := Lib.hid hm
                clear hm
                obtain ⟨hm0, hm3⟩ := hm2
                by_cases h4 : j < 3
                · have l1 : decide ((j : Int) + 7 < 10) = true := decide_eq_true (by omega)
                  have l2 : decide ((j : Int) < 3) = true := decide_eq_true (by omega)
                  obtain ⟨x0, x1, x2, x3, x4, x5⟩ := HX.out.cells ⟨Bx, x, qx, Ax, nx, cx⟩ (List.mem_cons_of_mem _ (List.mem_cons_of_mem _ List.mem_cons_self))
                  obtain ⟨y0, y1, y2, y3, y4, y5⟩ := HX.out.cells ⟨By, y, qy, Ay, ny, cy⟩ (List.mem_cons_of_mem _ List.mem_cons_self)
                  go_wp2_with fail
                  refine (run_cmp ((j : Int) + 7) (by omega) _ _ 2 _ (by decide) (by decide) [x, y] rfl (HX.out.args [⟨Bx, x, qx, Ax, nx, cx⟩, ⟨By, y, qy, Ay, ny, cy⟩] _ (by rfl) (List.forall_mem_cons.2 ⟨(List.mem_cons_of_mem _ (List.mem_cons_of_mem _ List.mem_cons_self)), (List.forall_mem_cons.2 ⟨(List.mem_cons_of_mem _ List.mem_cons_self), (fun _ h => absurd h List.not_mem_nil)⟩)⟩) _ (by simp))).mono ?_
                  rintro e w26 hre
                  clear x0 x1 x2 x3 x4 x5 y0 y1 y2 y3 y4 y5
                  obtain ⟨t, ht⟩ : ∃ t, t = orderB ((j : Int) + 7) [x, y] := ⟨_, rfl⟩
                  rw [← ht] at hre
                  have HW := Lib.hid (show waysB x y (j + 1) = m + (if t then 1 else 0) from by rw [HM.out, ht]; rfl)
                  clear ht HM
                  cases t with
                  | true =>
                    rw [if_pos rfl] at hre
                    obtain ⟨ko, qo, Ao, no, co, rfl, kk, hw⟩ := hre.any
                    obtain ⟨rfl, _⟩ := hw rfl
                    have HX1 := Lib.hid ((HX.out.keep (((Keep.refl _ _).alloc _).trans kk)).other (datC 1 qo Ao no co ⟨#[]⟩))
                    clear kk hw hre
                    clear HX
                    have HX := HX1
                    clear HX1
                    obtain ⟨⟨o0, o1, o2, o3, o4, o5⟩, _⟩ := six_cells (heap_alloc_new w26 (datC 1 qo Ao no co ⟨#[]⟩))
                    go_wp2_with fail
                    go_roundw
                    case rel => exact ⟨j + 1, h4, by rw [HW.out] <;> (first | go_num | simp), by go_num, HX.out⟩
                    case measure => simp only [intOf]; omega
                  | false =>
                    rw [if_neg (by decide)] at hre
                    obtain ⟨ko, qo, Ao, no, co, rfl, kk, hw⟩ := hre.any
                    obtain ⟨rfl, _⟩ := hw rfl
                    have HX1 := Lib.hid ((HX.out.keep (((Keep.refl _ _).alloc _).trans kk)).other (datC 2 qo Ao no co ⟨#[]⟩))
                    clear kk hw hre
                    clear HX
                    have HX := HX1
                    clear HX1
                    obtain ⟨⟨o0, o1, o2, o3, o4, o5⟩, _⟩ := six_cells (heap_alloc_new w26 (datC 2 qo Ao no co ⟨#[]⟩))
                    go_wp2_with fail
                    go_roundw
                    case rel => exact ⟨j + 1, h4, by rw [HW.out] <;> (first | go_num | simp), by go_num, HX.out⟩
                    case measure => simp only [intOf]; omega
                · have l1 : decide ((j : Int) + 7 < 10) = false := decide_eq_false (by omega)
                  have l2 : decide ((j : Int) < 3) = false := decide_eq_false (by omega)
                  obtain rfl : j = 3 := by omega
                  obtain rfl : m = 1 := by rw [HM.out]; exact waysB_three _ _
                  clear HM hm0 hm3
                  go_wp2_with fail
                  refine (awake_any _).mono ?_
                  rintro e w5 ⟨rfl, k5⟩
                  have HK5 := Lib.hid (HX.out.K.trans k5)
                  clear k5
                  go_wp2_with fail
                  go_ret
                  exact ⟨rfl, HK5.out⟩
          · rw [if_neg hs] at hre
            clear hs
            obtain ⟨ko, qo, Ao, no, co, rfl, kk, hw⟩ := hre.any
            have HX1 := Lib.hid ((HX.out.keep (((Keep.refl _ _).alloc _).trans kk)).other (datC ko qo Ao no co ⟨#[]⟩))
            clear kk hw hre
            clear HX
            have HX := HX1
            clear HX1
            by_cases hy0 : y = 0
            · subst hy0
              obtain ⟨x0, x1, x2, x3, x4, x5⟩ := HX.out.cells ⟨Bx, x, qx, Ax, nx, cx⟩ (List.mem_cons_of_mem _ (List.mem_cons_of_mem _ List.mem_cons_self))
              obtain ⟨y0, y1, y2, y3, y4, y5⟩ := HX.out.cells ⟨By, 0, qy, Ay, ny, cy⟩ (List.mem_cons_of_mem _ List.mem_cons_self)
              go_wp2_with fail
              refine (run_zero 4 (.inl rfl) _ _ _ x (HX.out.args [⟨Bx, x, qx, Ax, nx, cx⟩, ⟨By, 0, qy, Ay, ny, cy⟩] _ (by rfl) (List.forall_mem_cons.2 ⟨(List.mem_cons_of_mem _ (List.mem_cons_of_mem _ List.mem_cons_self)), (List.forall_mem_cons.2 ⟨(List.mem_cons_of_mem _ List.mem_cons_self), (fun _ h => absurd h List.not_mem_nil)⟩)⟩) _ (by simp))).mono ?_
              rintro e w27 hre
              clear x0 x1 x2 x3 x4 x5 y0 y1 y2 y3 y4 y5
              obtain ⟨ko, qo, Ao, no, co, rfl, kk, hw⟩ := hre.any
              have HX1 := Lib.hid ((HX.out.keep (((Keep.refl _ _).alloc _).trans kk)).other (datC ko qo Ao no co ⟨#[]⟩))
              clear kk hw hre
              clear HX
              have HX := HX1
              clear HX1
              obtain ⟨x0, x1, x2, x3, x4, x5⟩ := HX.out.cells ⟨Bx, x, qx, Ax, nx, cx⟩ (List.mem_cons_of_mem _ (List.mem_cons_of_mem _ List.mem_cons_self))
              obtain ⟨y0, y1, y2, y3, y4, y5⟩ := HX.out.cells ⟨By, 0, qy, Ay, ny, cy⟩ (List.mem_cons_of_mem _ List.mem_cons_self)
              go_wp2_with fail
              refine (run_zero 5 (.inr (.inl rfl)) _ _ _ x (HX.out.args [⟨Bx, x, qx, Ax, nx, cx⟩, ⟨By, 0, qy, Ay, ny, cy⟩] _ (by rfl) (List.forall_mem_cons.2 ⟨(List.mem_cons_of_mem _ (List.mem_cons_of_mem _ List.mem_cons_self)), (List.forall_mem_cons.2 ⟨(List.mem_cons_of_mem _ List.mem_cons_self), (fun _ h => absurd h List.not_mem_nil)⟩)⟩) _ (by simp))).mono ?_
              rintro e w28 hre
              clear x0 x1 x2 x3 x4 x5 y0 y1 y2 y3 y4 y5
              obtain ⟨ko, qo, Ao, no, co, rfl, kk, hw⟩ := hre.any
              have HX1 := Lib.hid ((HX.out.keep (((Keep.refl _ _).alloc _).trans kk)).other (datC ko qo Ao no co ⟨#[]⟩))
              clear kk hw hre
              clear HX
              have HX := HX1
              clear HX1
              go_wp2_with fail
              go_loopw [27, 28] (fun cv nv wr => ∃ j : Nat, j ≤ 3 ∧ cv = .int .i64 (waysB x 0 j) ∧ nv = .int .i64 ((j : Int) + 7) ∧ Road w wr [⟨Bz, z, qz, Az, nz, cz⟩, ⟨By, 0, qy, Ay, ny, cy⟩, ⟨Bx, x, qx, Ax, nx, cx⟩]) (fun _ nv _ => 10 - (intOf nv).toNat)
              case atStart => exact ⟨0, by decide, rfl, rfl, HX.out.sub (List.forall_mem_cons.2 ⟨List.mem_cons_self, (List.forall_mem_cons.2 ⟨(List.mem_cons_of_mem _ List.mem_cons_self), (List.forall_mem_cons.2 ⟨(List.mem_cons_of_mem _ (List.mem_cons_of_mem _ List.mem_cons_self)), (fun _ h => absurd h List.not_mem_nil)⟩)⟩)⟩)⟩
              case round =>
                obtain ⟨j, hj, rfl, rfl, hx⟩ := hrel
                clear HX
                have HX := Lib.hid hx
                clear hx
                obtain ⟨m, hm⟩ : ∃ m, m = waysB x 0 j := ⟨_, rfl⟩
                have hm2 := waysB_le x 0 j
                rw [← hm] at hm2 ⊢
                have HM := Lib.hid hm
                clear hm
                obtain ⟨hm0, hm3⟩ := hm2
                by_cases h4 : j < 3
                · have l1 : decide ((j : Int) + 7 < 10) = true := decide_eq_true (by omega)
                  have l2 : decide ((j : Int) < 3) = true := decide_eq_true (by omega)
                  obtain ⟨x0, x1, x2, x3, x4, x5⟩ := HX.out.cells ⟨Bx, x, qx, Ax, nx, cx⟩ (List.mem_cons_of_mem _ (List.mem_cons_of_mem _ List.mem_cons_self))
                  obtain ⟨y0, y1, y2, y3, y4, y5⟩ := HX.out.cells ⟨By, 0, qy, Ay, ny, cy⟩ (List.mem_cons_of_mem _ List.mem_cons_self)
                  go_wp2_with fail
                  refine (run_cmp ((j : Int) + 7) (by omega) _ _ 2 _ (by decide) (by decide) [x, 0] rfl (HX.out.args [⟨Bx, x, qx, Ax, nx, cx⟩, ⟨By, 0, qy, Ay, ny, cy⟩] _ (by rfl) (List.forall_mem_cons.2 ⟨(List.mem_cons_of_mem _ (List.mem_cons_of_mem _ List.mem_cons_self)), (List.forall_mem_cons.2 ⟨(List.mem_cons_of_mem _ List.mem_cons_self), (fun _ h => absurd h List.not_mem_nil)⟩)⟩) _ (by simp))).mono ?_
                  rintro e w29 hre
                  clear x0 x1 x2 x3 x4 x5 y0 y1 y2 y3 y4 y5
                  obtain ⟨t, ht⟩ : ∃ t, t = orderB ((j : Int) + 7) [x, 0] := ⟨_, rfl⟩
                  rw [← ht] at hre
                  have HW := Lib.hid (show waysB x 0 (j + 1) = m + (if t then 1 else 0) from by rw [HM.out, ht]; rfl)
                  clear ht HM
                  cases t with
                  | true =>
                    rw [if_pos rfl] at hre
                    obtain ⟨ko, qo, Ao, no, co, rfl, kk, hw⟩ := hre.any
                    obtain ⟨rfl, _⟩ := hw rfl
                    have HX1 := Lib.hid ((HX.out.keep (((Keep.refl _ _).alloc _).trans kk)).other (datC 1 qo Ao no co ⟨#[]⟩))
                    clear kk hw hre
                    clear HX
                    have HX := HX1
                    clear HX1
                    obtain ⟨⟨o0, o1, o2, o3, o4, o5⟩, _⟩ := six_cells (heap_alloc_new w29 (datC 1 qo Ao no co ⟨#[]⟩))
                    go_wp2_with fail
                    go_roundw
                    case rel => exact ⟨j + 1, h4, by rw [HW.out] <;> (first | go_num | simp), by go_num, HX.out⟩
                    case measure => simp only [intOf]; omega
                  | false =>
                    rw [if_neg (by decide)] at hre
                    obtain ⟨ko, qo, Ao, no, co, rfl, kk, hw⟩ := hre.any
                    obtain ⟨rfl, _⟩ := hw rfl
                    have HX1 := Lib.hid ((HX.out.keep (((Keep.refl _ _).alloc _).trans kk)).other (datC 2 qo Ao no co ⟨#[]⟩))
                    clear kk hw hre
                    clear HX
                    have HX := HX1
                    clear HX1
                    obtain ⟨⟨o0, o1, o2, o3, o4, o5⟩, _⟩ := six_cells (heap_alloc_new w29 (datC 2 qo Ao no co ⟨#[]⟩))
                    go_wp2_with fail
                    go_roundw
                    case rel => exact ⟨j + 1, h4, by rw [HW.out] <;> (first | go_num | simp), by go_num, HX.out⟩
                    case measure => simp only [intOf]; omega
                · have l1 : decide ((j : Int) + 7 < 10) = false := decide_eq_false (by omega)
                  have l2 : decide ((j : Int) < 3) = false := decide_eq_false (by omega)
                  obtain rfl : j = 3 := by omega
                  obtain rfl : m = 1 := by rw [HM.out]; exact waysB_three _ _
                  clear HM hm0 hm3
                  go_wp2_with fail
                  refine (awake_any _).mono ?_
                  rintro e w5 ⟨rfl, k5⟩
                  have HK5 := Lib.hid (HX.out.K.trans k5)
                  clear k5
                  go_wp2_with fail
                  go_ret
                  exact ⟨rfl, HK5.out⟩
            · have HRF := Lib.hid (ring_facts x y HF.out.1 hy0)
              have HY0 := Lib.hid hy0
              clear hy0
              obtain ⟨vd, hvd⟩ : ∃ v, v = divV 4 x y := ⟨_, rfl⟩
              obtain ⟨vr, hvr⟩ : ∃ v, v = divV 5 x y := ⟨_, rfl⟩
              obtain ⟨vm, hvm⟩ : ∃ v, v = vd * y := ⟨_, rfl⟩
              have HV := Lib.hid (show Fits vd ∧ Fits vr ∧ Fits vm ∧ vm + vr = x from ⟨by rw [hvd]; exact HRF.out.q, by rw [hvr]; exact HRF.out.r, by rw [hvm, hvd]; exact HRF.out.p, by rw [hvm, hvd, hvr]; exact HRF.out.s⟩)
              have HVE := Lib.hid (And.intro hvd (And.intro hvr hvm))
              clear hvd hvr hvm HRF
              obtain ⟨x0, x1, x2, x3, x4, x5⟩ := HX.out.cells ⟨Bx, x, qx, Ax, nx, cx⟩ (List.mem_cons_of_mem _ (List.mem_cons_of_mem _ List.mem_cons_self))
              obtain ⟨y0, y1, y2, y3, y4, y5⟩ := HX.out.cells ⟨By, y, qy, Ay, ny, cy⟩ (List.mem_cons_of_mem _ List.mem_cons_self)
              go_wp2_with fail
              refine (run_div 4 (.inl rfl) _ _ _ x y HY0.out (HX.out.args [⟨Bx, x, qx, Ax, nx, cx⟩, ⟨By, y, qy, Ay, ny, cy⟩] _ (by rfl) (List.forall_mem_cons.2 ⟨(List.mem_cons_of_mem _ (List.mem_cons_of_mem _ List.mem_cons_self)), (List.forall_mem_cons.2 ⟨(List.mem_cons_of_mem _ List.mem_cons_self), (fun _ h => absurd h List.not_mem_nil)⟩)⟩) _ (by simp))).mono ?_
              rintro e w30 hre
              clear x0 x1 x2 x3 x4 x5 y0 y1 y2 y3 y4 y5
              rw [← HVE.out.1, if_pos HV.out.1] at hre
              obtain ⟨qd, Ad, nd, cd, rfl, kk, hv⟩ := hre.good
              have HX1 := Lib.hid ((HX.out.keep (((Keep.refl _ _).alloc _).trans kk)).new hv)
              clear hv kk hre
              clear HX
              have HX := HX1
              clear HX1
              obtain ⟨x0, x1, x2, x3, x4, x5⟩ := HX.out.cells ⟨Bx, x, qx, Ax, nx, cx⟩ (List.mem_cons_of_mem _ (List.mem_cons_of_mem _ (List.mem_cons_of_mem _ List.mem_cons_self)))
              obtain ⟨y0, y1, y2, y3, y4, y5⟩ := HX.out.cells ⟨By, y, qy, Ay, ny, cy⟩ (List.mem_cons_of_mem _ (List.mem_cons_of_mem _ List.mem_cons_self))
              go_wp2_with fail
              refine (run_div 5 (.inr (.inl rfl)) _ _ _ x y HY0.out (HX.out.args [⟨Bx, x, qx, Ax, nx, cx⟩, ⟨By, y, qy, Ay, ny, cy⟩] _ (by rfl) (List.forall_mem_cons.2 ⟨(List.mem_cons_of_mem _ (List.mem_cons_of_mem _ (List.mem_cons_of_mem _ List.mem_cons_self))), (List.forall_mem_cons.2 ⟨(List.mem_cons_of_mem _ (List.mem_cons_of_mem _ List.mem_cons_self)), (fun _ h => absurd h List.not_mem_nil)⟩)⟩) _ (by simp))).mono ?_
              rintro e w31 hre
              clear x0 x1 x2 x3 x4 x5 y0 y1 y2 y3 y4 y5
              rw [← HVE.out.2.1, if_pos HV.out.2.1] at hre
              obtain ⟨qr, Ar, nr, cr, rfl, kk, hv⟩ := hre.good
              have HX1 := Lib.hid ((HX.out.keep (((Keep.refl _ _).alloc _).trans kk)).new hv)
              clear hv kk hre
              clear HX
              have HX := HX1
              clear HX1
              generalize w30.heap.size = Bd at HX ⊢
              obtain ⟨d0, d1, d2, d3, d4, d5⟩ := HX.out.cells ⟨Bd, vd, qd, Ad, nd, cd⟩ (List.mem_cons_of_mem _ List.mem_cons_self)
              obtain ⟨y0, y1, y2, y3, y4, y5⟩ := HX.out.cells ⟨By, y, qy, Ay, ny, cy⟩ (List.mem_cons_of_mem _ (List.mem_cons_of_mem _ (List.mem_cons_of_mem _ List.mem_cons_self)))
              go_wp2_with fail
              refine (run_prod _ _ _ vd y HV.out.1 (HX.out.args [⟨Bd, vd, qd, Ad, nd, cd⟩, ⟨By, y, qy, Ay, ny, cy⟩] _ (by rfl) (List.forall_mem_cons.2 ⟨(List.mem_cons_of_mem _ List.mem_cons_self), (List.forall_mem_cons.2 ⟨(List.mem_cons_of_mem _ (List.mem_cons_of_mem _ (List.mem_cons_of_mem _ List.mem_cons_self))), (fun _ h => absurd h List.not_mem_nil)⟩)⟩) _ (by simp))).mono ?_
              rintro e w32 hre
              clear d0 d1 d2 d3 d4 d5 y0 y1 y2 y3 y4 y5
              rw [← HVE.out.2.2, if_pos HV.out.2.2.1] at hre
              obtain ⟨qm, Am, nm, cm, rfl, kk, hv⟩ := hre.good
              have HX1 := Lib.hid ((HX.out.keep (((Keep.refl _ _).alloc _).trans kk)).new hv)
              clear hv kk hre
              clear HX
              have HX := HX1
              clear HX1
              generalize w31.heap.size = Br at HX ⊢
              obtain ⟨m0, m1, m2, m3, m4, m5⟩ := HX.out.cells ⟨w32.heap.size, vm, qm, Am, nm, cm⟩ List.mem_cons_self
              obtain ⟨r0, r1, r2, r3, r4, r5⟩ := HX.out.cells ⟨Br, vr, qr, Ar, nr, cr⟩ (List.mem_cons_of_mem _ List.mem_cons_self)
              go_wp2_with fail
              refine (run_sum _ _ _ vm vr HV.out.2.2.1 (HX.out.args [⟨w32.heap.size, vm, qm, Am, nm, cm⟩, ⟨Br, vr, qr, Ar, nr, cr⟩] _ (by rfl) (List.forall_mem_cons.2 ⟨List.mem_cons_self, (List.forall_mem_cons.2 ⟨(List.mem_cons_of_mem _ List.mem_cons_self), (fun _ h => absurd h List.not_mem_nil)⟩)⟩) _ (by simp))).mono ?_
              rintro e w33 hre
              clear m0 m1 m2 m3 m4 m5 r0 r1 r2 r3 r4 r5
              rw [HV.out.2.2.2, if_pos HF.out.1] at hre
              obtain ⟨qb, Ab, nb, cb, rfl, kk, hv⟩ := hre.good
              have HX1 := Lib.hid ((HX.out.keep (((Keep.refl _ _).alloc _).trans kk)).new hv)
              clear hv kk hre
              clear HX
              have HX := HX1
              clear HX1
              generalize w32.heap.size = Bm at HX ⊢
              obtain ⟨b0, b1, b2, b3, b4, b5⟩ := HX.out.cells ⟨w33.heap.size, x, qb, Ab, nb, cb⟩ List.mem_cons_self
              obtain ⟨x0, x1, x2, x3, x4, x5⟩ := HX.out.cells ⟨Bx, x, qx, Ax, nx, cx⟩ (List.mem_cons_of_mem _ (List.mem_cons_of_mem _ (List.mem_cons_of_mem _ (List.mem_cons_of_mem _ (List.mem_cons_of_mem _ (List.mem_cons_of_mem _ List.mem_cons_self))))))
              go_wp2_with fail
              refine (HX.out.same ⟨w33.heap.size, x, qb, Ab, nb, cb⟩ ⟨Bx, x, qx, Ax, nx, cx⟩ List.mem_cons_self (List.mem_cons_of_mem _ (List.mem_cons_of_mem _ (List.mem_cons_of_mem _ (List.mem_cons_of_mem _ (List.mem_cons_of_mem _ (List.mem_cons_of_mem _ List.mem_cons_self)))))) true (decide_eq_true rfl).symm).mono ?_
              rintro e w34 ⟨rfl, kk⟩
              have HX1 := Lib.hid (HX.out.keep kk)
              clear kk
              clear HX
              have HX := HX1
              clear HX1
              clear b0 b1 b2 b3 b4 b5 x0 x1 x2 x3 x4 x5
              generalize w33.heap.size = Bb at HX ⊢
              clear HV HVE HY0
              go_wp2_with fail
              go_loopw [27, 28] (fun cv nv wr => ∃ j : Nat, j ≤ 3 ∧ cv = .int .i64 (waysB x y j) ∧ nv = .int .i64 ((j : Int) + 7) ∧ Road w wr [⟨Bz, z, qz, Az, nz, cz⟩, ⟨By, y, qy, Ay, ny, cy⟩, ⟨Bx, x, qx, Ax, nx, cx⟩]) (fun _ nv _ => 10 - (intOf nv).toNat)
              case atStart => exact ⟨0, by decide, rfl, rfl, HX.out.sub (List.forall_mem_cons.2 ⟨(List.mem_cons_of_mem _ (List.mem_cons_of_mem _ (List.mem_cons_of_mem _ (List.mem_cons_of_mem _ List.mem_cons_self)))), (List.forall_mem_cons.2 ⟨(List.mem_cons_of_mem _ (List.mem_cons_of_mem _ (List.mem_cons_of_mem _ (List.mem_cons_of_mem _ (List.mem_cons_of_mem _ List.mem_cons_self))))), (List.forall_mem_cons.2 ⟨(List.mem_cons_of_mem _ (List.mem_cons_of_mem _ (List.mem_cons_of_mem _ (List.mem_cons_of_mem _ (List.mem_cons_of_mem _ (List.mem_cons_of_mem _ List.mem_cons_self)))))), (fun _ h => absurd h List.not_mem_nil)⟩)⟩)⟩)⟩
              case round =>
                obtain ⟨j, hj, rfl, rfl, hx⟩ := hrel
                clear HX
                have HX := Lib.hid hx
                clear hx
                obtain ⟨m, hm⟩ : ∃ m, m = waysB x y j := ⟨_, rfl⟩
                have hm2 := waysB_le x y j
                rw [← hm] at hm2 ⊢
                have HM := Lib.hid hm
                clear hm
                obtain ⟨hm0, hm3⟩ := hm2
                by_cases h4 : j < 3
                · have l1 : decide ((j : Int) + 7 < 10) = true := decide_eq_true (by omega)
                  have l2 : decide ((j : Int) < 3) = true := decide_eq_true (by omega)
                  obtain ⟨x0, x1, x2, x3, x4, x5⟩ := HX.out.cells ⟨Bx, x, qx, Ax, nx, cx⟩ (List.mem_cons_of_mem _ (List.mem_cons_of_mem _ List.mem_cons_self))
                  obtain ⟨y0, y1, y2, y3, y4, y5⟩ := HX.out.cells ⟨By, y, qy, Ay, ny, cy⟩ (List.mem_cons_of_mem _ List.mem_cons_self)
                  go_wp2_with fail
                  refine (run_cmp ((j : Int) + 7) (by omega) _ _ 2 _ (by decide) (by decide) [x, y] rfl (HX.out.args [⟨Bx, x, qx, Ax, nx, cx⟩, ⟨By, y, qy, Ay, ny, cy⟩] _ (by rfl) (List.forall_mem_cons.2 ⟨(List.mem_cons_of_mem _ (List.mem_cons_of_mem _ List.mem_cons_self)), (List.forall_mem_cons.2 ⟨(List.mem_cons_of_mem _ List.mem_cons_self), (fun _ h => absurd h List.not_mem_nil)⟩)⟩) _ (by simp))).mono ?_
                  rintro e w35 hre
                  clear x0 x1 x2 x3 x4 x5 y0 y1 y2 y3 y4 y5
                  obtain ⟨t, ht⟩ : ∃ t, t = orderB ((j : Int) + 7) [x, y] := ⟨_, rfl⟩
                  rw [← ht] at hre
                  have HW := Lib.hid (show waysB x y (j + 1) = m + (if t then 1 else 0) from by rw [HM.out, ht]; rfl)
                  clear ht HM
                  cases t with
                  | true =>
                    rw [if_pos rfl] at hre
                    obtain ⟨ko, qo, Ao, no, co, rfl, kk, hw⟩ := hre.any
                    obtain ⟨rfl, _⟩ := hw rfl
                    have HX1 := Lib.hid ((HX.out.keep (((Keep.refl _ _).alloc _).trans kk)).other (datC 1 qo Ao no co ⟨#[]⟩))
                    clear kk hw hre
                    clear HX
                    have HX := HX1
                    clear HX1
                    obtain ⟨⟨o0, o1, o2, o3, o4, o5⟩, _⟩ := six_cells (heap_alloc_new w35 (datC 1 qo Ao no co ⟨#[]⟩))
                    go_wp2_with fail
                    go_roundw
                    case rel => exact ⟨j + 1, h4, by rw [HW.out] <;> (first | go_num | simp), by go_num, HX.out⟩
                    case measure => simp only [intOf]; omega
                  | false =>
                    rw [if_neg (by decide)] at hre
                    obtain ⟨ko, qo, Ao, no, co, rfl, kk, hw⟩ := hre.any
                    obtain ⟨rfl, _⟩ := hw rfl
                    have HX1 := Lib.hid ((HX.out.keep (((Keep.refl _ _).alloc _).trans kk)).other (datC 2 qo Ao no co ⟨#[]⟩))
                    clear kk hw hre
                    clear HX
                    have HX := HX1
                    clear HX1
                    obtain ⟨⟨o0, o1, o2, o3, o4, o5⟩, _⟩ := six_cells (heap_alloc_new w35 (datC 2 qo Ao no co ⟨#[]⟩))
                    go_wp2_with fail
                    go_roundw
                    case rel => exact ⟨j + 1, h4, by rw [HW.out] <;> (first | go_num | simp), by go_num, HX.out⟩
                    case measure => simp only [intOf]; omega
                · have l1 : decide ((j : Int) + 7 < 10) = false := decide_eq_false (by omega)
                  have l2 : decide ((j : Int) < 3) = false := decide_eq_false (by omega)
                  obtain rfl : j = 3 := by omega
                  obtain rfl : m = 1 := by rw [HM.out]; exact waysB_three _ _
                  clear HM hm0 hm3
                  go_wp2_with fail
                  refine (awake_any _).mono ?_
                  rintro e w5 ⟨rfl, k5⟩
                  have HK5 := Lib.hid (HX.out.K.trans k5)
                  clear k5
                  go_wp2_with fail
                  go_ret
                  exact ⟨rfl, HK5.out⟩
end Go.Proofs.YtkjocmenpccooaaGreatDoor
