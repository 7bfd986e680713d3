/-
  morainelaw07.SegLeast: the walk.
-/
import Derived.Test.YtgnpeciedefeiaaActs
namespace Go.Proofs.Ytgnpeciedefeiaa
open Go.RowKit

set_option maxRecDepth 100000 in
set_option maxHeartbeats 4000000 in
theorem segLeast_yes (lim : Nat) (A : Option Addr) (len cap : Nat) (acts : Nat → ActV) (w : World) (h8 : 8 ≤ lim) (h1024 : lim ≤ 1024) (hA : ActsAt w A len acts) (hlen : len ≤ 300) :
    Calls Try.prog 3 #[.int .i64 lim, .slice A len cap] w fun e w' => e = .returned (.bool true) ∧ Keep (fun _ => False) w w' := by
  go_enter Try.func3, Try.ntmps3
  go_wp2_with fail
  refine (new_some lim _ _ rfl h8 h1024).mono ?_
  rintro e w1 ⟨p, g, rfl, hp, hg, m1, k1⟩
  go_wp2_with fail
  go_loopw [7] (fun i wr => ∃ (j : Nat) (M : MemV), j ≤ len ∧ i = .int .i64 j ∧ M.Ok ∧ M.count ≤ j ∧ MemAt wr p g M ∧ Keep (fun _ => False) w wr) (fun i _ => len - (intOf i).toNat)
  case atStart => exact ⟨0, MemV.new lim, Nat.zero_le _, rfl, MemV.Ok.new h8 h1024, Int.le_refl 0, m1, k1⟩
  case round =>
    obtain ⟨j, M, hj, rfl, ok, hc, m, k⟩ := hrel
    clear m1 k1
    by_cases hlt : j < len
    · obtain ⟨b, off, rfl, hb, xok, q0, q1, q2, q3, q4⟩ := hA.at_ k hlt
      have hb2 : ¬ wr.heap.size = b := by omega
      obtain ⟨x, hx⟩ : ∃ x, x = acts j := ⟨_, rfl⟩
      rw [← hx] at q0 q1 q2 q3 q4 xok
      clear hx
      have HA := Lib.hid hA
      clear hA
      go_wp2_with fail
      have X := XAt.new wr x
      have kx : Keep (fun _ => False) wr (wr.alloc (.cells #[.int .i64 x.op, .int .i64 x.a, .int .i64 x.b, .int .i64 x.c, .int .u64 x.w] 31)) := (Keep.refl _ _).alloc _
      have hbx : p ≠ wr.heap.size ∧ g ≠ wr.heap.size := ⟨by have := m.lt; omega, by have := m.segs.lt; omega⟩
      replace m := m.keep kx (by simp) (by simp)
      replace k := k.trans kx
      generalize wr.alloc (.cells #[.int .i64 x.op, .int .i64 x.a, .int .i64 x.b, .int .i64 x.c, .int .u64 x.w] 31) = w2 at X m k ⊢
      obtain ⟨bx, hbx'⟩ : ∃ bx, bx = wr.heap.size := ⟨_, rfl⟩
      rw [← hbx'] at X hbx ⊢
      clear hbx' q0 q1 q2 q3 q4 hb2 hb kx
      have nX : ¬ Mine p g bx := by rintro (h | h) <;> omega
      obtain ⟨x0, x1, x2, x3, x4⟩ := X.cells
      have f0 := ok.f0
      have f1 := ok.f1
      have l8 := ok.l8
      have l1024 := ok.l1024
      refine (free_any p g M _ m).mono ?_
      rintro e w3 ⟨rfl, rfl⟩
      by_cases o0 : x.op = 0
      · rw [o0] at x0
        clear o0
        by_cases bad : x.a < 0 ∨ 4 < x.a ∨ x.b < 0 ∨ 3 < x.b
        · have Bad := Lib.hid bad
          clear bad
          go_wp2_with fail
          refine (take_arg p g M _ _ _ Bad.out).mono ?_
          rintro e w4 ⟨rfl, rfl⟩
          go_wp2_with fail
          refine (free_any p g M _ m).mono ?_
          rintro e w5 ⟨rfl, rfl⟩
          go_wp2_with fail
          go_roundw
          case rel => exact ⟨j + 1, M, by omega, by go_num, ok, by omega, m, k⟩
          case measure => simp [intOf]; omega
        · by_cases fz : M.free = 0
          · have fz' : ¬ 0 < M.free := by omega
            have Fz := Lib.hid fz
            clear fz
            go_wp2_with fail
            refine (take_full p g M _ _ _ m l8 l1024 (by omega) (by omega) (by omega) (by omega) Fz.out).mono ?_
            rintro e w4 ⟨rfl, rfl⟩
            go_wp2_with fail
            refine (free_any p g M _ m).mono ?_
            rintro e w5 ⟨rfl, rfl⟩
            go_wp2_with fail
            go_roundw
            case rel => exact ⟨j + 1, M, by omega, by go_num, ok, by omega, m, k⟩
            case measure => simp [intOf]; omega
          · obtain ⟨q, hq, hz, hlow⟩ := frees_least M.sg M.lim (by have := ok.fr; omega)
            have hlow' : ∀ i, i < q → 0 < (M.sg i).taken := fun i hi => by have := ok.t0 i (by omega); have := hlow i hi; omega
            have Hz := Lib.hid hz
            have f2 : 0 < M.free := by omega
            have Hlow := Lib.hid hlow'
            have hfree : (M.took q x.a x.b).free = M.free - 1 := rfl
            have ok' := ok.took hq hz (gen := x.a) (kind := x.b) (by omega) (by omega) (by omega) (by omega)
            have hq' : q < (M.took q x.a x.b).lim := hq
            have hl' : (M.took q x.a x.b).lim ≤ 1024 := l1024
            have hc' : (M.took q x.a x.b).count = M.count + 1 := rfl
            have hsg : (M.took q x.a x.b).sg q = Sg.fresh x.a x.b (M.count + 1) := by simp [MemV.took, MemV.put]
            have hso : ∀ i, i < q → 0 < ((M.took q x.a x.b).sg i).taken := fun i hi => by
              simp only [MemV.took, MemV.put, if_neg (show ¬ i = q from by omega)]
              exact hlow' i hi
            have c0 := ok.c0
            have Hsg := Lib.hid hsg
            have Hso := Lib.hid hso
            have Hf := Lib.hid hfree
            have Hc := Lib.hid hc'
            clear hz hlow hlow' fz hsg hso hfree hc'
            go_wp2_with fail
            refine (take_yes p g M q _ _ _ m l8 l1024 (by omega) (by omega) (by omega) (by omega) (by omega) (by omega) c0 (by omega) hq Hlow.out Hz.out).mono ?_
            rintro e w4 ⟨rfl, m4, k4⟩
            replace X := X.keep k4 nX
            replace k := k.into k4 (mine_from hp hg)
            clear m x0 x1 x2 x3 x4
            generalize M.took q x.a x.b = M' at *
            go_wp2_with fail
            go_loopw [12] (fun n wr => ∃ i : Nat, i ≤ q ∧ n = .int .i64 i ∧ MemAt wr p g M' ∧ XAt wr bx x ∧ Keep (fun _ => False) w wr) (fun n _ => q - (intOf n).toNat)
            case atStart => exact ⟨0, Nat.zero_le _, rfl, m4, X, k⟩
            case round =>
              obtain ⟨i, hi, rfl, m, X, k⟩ := hrel
              clear m4
              by_cases hiq : i < q
              · have ht := Hso.out i hiq
                go_wp2_with fail
                refine (seg_yes2 p g M' i _ _ m hl' rfl (by omega) ht).mono ?_
                rintro e w5 ⟨rfl, k5⟩
                replace m := m.keep k5 (by simp) (by simp)
                replace X := X.keep k5 (by simp)
                replace k := k.trans k5
                go_wp2_with fail
                go_roundw
                case rel => exact ⟨i + 1, by omega, by go_num, m.keep ((Keep.refl (fun _ => False) _).alloc _) (by simp) (by simp), X.keep ((Keep.refl (fun _ => False) _).alloc _) (by simp), k.alloc _⟩
                case measure => simp [intOf]; omega
              · obtain rfl : i = q := by omega
                go_wp2_with fail
                refine (seg_fresh p g M' i _ _ _ _ _ m hl' rfl (by omega) Hsg.out (by omega)).mono ?_
                rintro e w5 ⟨rfl, k5⟩
                replace m := m.keep k5 (by simp) (by simp)
                replace X := X.keep k5 (by simp)
                replace k := k.trans k5
                obtain ⟨x0, x1, x2, x3, x4⟩ := X.cells
                have hX := X.lt
                have hX1 : ¬ w5.heap.size = bx := by omega
                have hX2 : ¬ bx = w5.heap.size := by omega
                have k6 : Keep (fun _ => False) w5 (w5.alloc (.cells #[.int .i64 x.a, .int .i64 x.b, .int .i64 0, .int .i64 5, .int .i64 5, .int .i64 5, .int .i64 5] 37)) := (Keep.refl _ _).alloc _
                have m6 := m.keep k6 (by simp) (by simp)
                go_wp2_with fail
                refine (free_any p g M' _ m6).mono ?_
                rintro e w7 ⟨rfl, rfl⟩
                rw [Hf.out]
                go_wp2_with fail
                go_roundw
                case rel => exact ⟨j + 1, M', by omega, by go_num, ok', by rw [Hc.out]; omega, m6, k.trans k6⟩
                case measure => simp [intOf]; omega
      · by_cases o1 : x.op = 1
        · rw [o1] at x0
          have h0 := ok.t0
          clear o1 o0
          by_cases hh : M.has x.a
          · obtain ⟨t0, t1, t2⟩ := hh
            obtain ⟨q, hq⟩ := Int.eq_ofNat_of_zero_le t0
            rw [hq] at t1 t2 x1
            rw [Int.toNat_natCast] at t2
            have hq' : q < M.lim := by omega
            have ok' := ok.gave hq' t2
            have hno : ¬ (M.gave q).has (q : Int) := by
              rintro ⟨_, _, h⟩
              rw [Int.toNat_natCast] at h
              simp [MemV.gave, MemV.put, Sg.none] at h
            have hl' : (M.gave q).lim ≤ 1024 := l1024
            have Hf := Lib.hid (show (M.gave q).free = M.free + 1 from rfl)
            have Hc := Lib.hid (show (M.gave q).count = M.count from rfl)
            have Hno := Lib.hid hno
            have Hq := Lib.hid hq
            have H0 := Lib.hid ok'.t0
            clear hno hq h0
            go_wp2_with fail
            refine (seg_yes2 p g M q _ _ m l1024 rfl hq' t2).mono ?_
            rintro e w4 ⟨rfl, k4⟩
            have k5 : Keep (fun _ => False) w4 (w4.alloc (.cells #[.int .i64 (M.sg q).gen, .int .i64 (M.sg q).kind, .int .i64 (M.sg q).n, .int .i64 (M.sg q).c0, .int .i64 (M.sg q).c1, .int .i64 (M.sg q).c2, .int .i64 (M.sg q).c3] 37)) := (Keep.refl _ _).alloc _
            replace k4 := k4.trans k5
            replace m := m.keep k4 (by simp) (by simp)
            replace X := X.keep k4 (by simp)
            replace k := k.trans k4
            clear x0 x1 x2 x3 x4
            obtain ⟨x0, x1, x2, x3, x4⟩ := X.cells
            rw [Hq.out] at x1
            go_wp2_with fail
            refine (give_yes p g M q _ _ m l1024 rfl hq' t2 f0 (by omega)).mono ?_
            rintro e w6 ⟨rfl, m6, k6⟩
            replace X := X.keep k6 nX
            replace k := k.into k6 (mine_from hp hg)
            clear x0 x1 x2 x3 x4 m k4 k5
            obtain ⟨x0, x1, x2, x3, x4⟩ := X.cells
            rw [Hq.out] at x1
            generalize M.gave q = M' at *
            go_wp2_with fail
            refine (seg_no2 p g M' _ _ m6 hl' H0.out Hno.out).mono ?_
            rintro e w7 ⟨rfl, k7⟩
            have k8 : Keep (fun _ => False) w7 (w7.alloc (.cells #[.int .i64 0, .int .i64 0, .int .i64 0, .int .i64 0, .int .i64 0, .int .i64 0, .int .i64 0] 37)) := (Keep.refl _ _).alloc _
            replace k7 := k7.trans k8
            replace m6 := m6.keep k7 (by simp) (by simp)
            replace k := k.trans k7
            clear x0 x1 x2 x3 x4 X
            go_wp2_with fail
            refine (free_any p g M' _ m6).mono ?_
            rintro e w9 ⟨rfl, rfl⟩
            rw [Hf.out]
            go_wp2_with fail
            go_roundw
            case rel => exact ⟨j + 1, M', by omega, by go_num, ok', by rw [Hc.out]; omega, m6, k⟩
            case measure => simp [intOf]; omega
          · have Hh := Lib.hid hh
            have H0 := Lib.hid h0
            clear hh h0
            go_wp2_with fail
            refine (seg_no2 p g M _ _ m l1024 H0.out Hh.out).mono ?_
            rintro e w4 ⟨rfl, k4⟩
            have k5 : Keep (fun _ => False) w4 (w4.alloc (.cells #[.int .i64 0, .int .i64 0, .int .i64 0, .int .i64 0, .int .i64 0, .int .i64 0, .int .i64 0] 37)) := (Keep.refl _ _).alloc _
            replace k4 := k4.trans k5
            replace m := m.keep k4 (by simp) (by simp)
            replace X := X.keep k4 (by simp)
            replace k := k.trans k4
            clear x0 x1 x2 x3 x4
            obtain ⟨x0, x1, x2, x3, x4⟩ := X.cells
            go_wp2_with fail
            refine (give_no p g M _ _ m l1024 H0.out Hh.out).mono ?_
            rintro e w6 ⟨rfl, rfl⟩
            go_wp2_with fail
            refine (seg_no2 p g M _ _ m l1024 H0.out Hh.out).mono ?_
            rintro e w7 ⟨rfl, k7⟩
            have k8 : Keep (fun _ => False) w7 (w7.alloc (.cells #[.int .i64 0, .int .i64 0, .int .i64 0, .int .i64 0, .int .i64 0, .int .i64 0, .int .i64 0] 37)) := (Keep.refl _ _).alloc _
            replace k7 := k7.trans k8
            replace m := m.keep k7 (by simp) (by simp)
            replace k := k.trans k7
            clear x0 x1 x2 x3 x4 X
            go_wp2_with fail
            go_roundw
            case rel => exact ⟨j + 1, M, by omega, by go_num, ok, by omega, m, k⟩
            case measure => simp [intOf]; omega
        · by_cases o2 : x.op = 2
          · rw [o2] at x0
            clear o0 o1 o2
            have h0 := ok.t0
            by_cases hh : M.has x.a
            · obtain ⟨t0, t1, t2⟩ := hh
              obtain ⟨q, hq⟩ := Int.eq_ofNat_of_zero_le t0
              rw [hq] at t1 t2 x1
              rw [Int.toNat_natCast] at t2
              have hq' : q < M.lim := by omega
              have g0 := (ok.sg q hq').n0
              have g1 := (ok.sg q hq').n64
              clear hq h0
              by_cases b1 : x.b < 1
              · go_wp2_with fail
                refine (bump_arg p g M q _ _ _ m l1024 rfl hq' t2 b1).mono ?_
                rintro e w4 ⟨rfl, rfl⟩
                go_wp2_with fail
                go_roundw
                case rel => exact ⟨j + 1, M, by omega, by go_num, ok, by omega, m, k⟩
                case measure => simp [intOf]; omega
              · by_cases b2 : x.b ≤ 64 - (M.sg q).n
                · have ok' := ok.bumped hq' t2 (n := x.b) (by omega) b2
                  have Hc := Lib.hid (show (M.bumped q x.b).count = M.count from rfl)
                  go_wp2_with fail
                  refine (bump_yes p g M q _ _ _ m l1024 rfl hq' t2 g0 (by omega) b2).mono ?_
                  rintro e w4 ⟨rfl, m4, k4⟩
                  go_wp2_with fail
                  go_roundw
                  case rel => exact ⟨j + 1, _, by omega, by go_num, ok', by rw [Hc.out]; omega, m4, k.into k4 (mine_from hp hg)⟩
                  case measure => simp [intOf]; omega
                · go_wp2_with fail
                  refine (bump_full p g M q _ _ _ m l1024 rfl hq' t2 g0 g1 (by omega) (by omega)).mono ?_
                  rintro e w4 ⟨rfl, rfl⟩
                  go_wp2_with fail
                  go_roundw
                  case rel => exact ⟨j + 1, M, by omega, by go_num, ok, by omega, m, k⟩
                  case measure => simp [intOf]; omega
            · have Hh := Lib.hid hh
              have H0 := Lib.hid h0
              clear hh h0
              go_wp2_with fail
              refine (bump_no p g M _ _ _ m l1024 H0.out Hh.out).mono ?_
              rintro e w4 ⟨rfl, rfl⟩
              go_wp2_with fail
              go_roundw
              case rel => exact ⟨j + 1, M, by omega, by go_num, ok, by omega, m, k⟩
              case measure => simp [intOf]; omega
          · have e0 : (x.op == 0) = false := by simp; omega
            have e1 : (x.op == 1) = false := by simp; omega
            have e2 : (x.op == 2) = false := by simp; omega
            clear o0 o1 o2
            go_wp2_with fail
            go_roundw
            case rel => exact ⟨j + 1, M, by omega, by go_num, ok, by omega, m, k⟩
            case measure => simp [intOf]; omega
    · go_wp2_with fail
      refine (awake7 _).mono ?_
      rintro e w2 ⟨rfl, k2⟩
      go_wp2_with fail
      go_ret
      exact ⟨rfl, k.trans k2⟩
end Go.Proofs.Ytgnpeciedefeiaa
