/-
  Cards behind calls: morainelaw09.played.
-/
import Derived.Test.YtgnpeciedefeiaaCdAwake
import Derived.Deep.RegionHeld3
namespace Go.Proofs.Ytgnpeciedefeiaa
open Go.RowKit

/-- Some word, and the world keeps. -/
def Word9Post (w : World) (e : Ending) (w' : World) : Prop := ∃ u : Nat, u ≤ 18446744073709551615 ∧ e = .returned (.int .u64 (u : Int)) ∧ Keep (fun _ => False) w w'
theorem or_lo (x y : Int) : 0 ≤ bits BinOp.or IntKind.u64 x y ∧ bits BinOp.or IntKind.u64 x y ≤ 18446744073709551615 := by
  show 0 ≤ IntKind.u64.wrap _ ∧ IntKind.u64.wrap _ ≤ 18446744073709551615
  rw [IntKind.wrap_u64]
  omega
theorem word9_of {w w' : World} {z : Int} (h0 : 0 ≤ z) (h1 : z ≤ 18446744073709551615) (k : Keep (fun _ => False) w w') : Word9Post w (.returned (.int .u64 z)) w' := by
  obtain ⟨u, rfl⟩ : ∃ u : Nat, z = u := ⟨z.toNat, by omega⟩
  exact ⟨u, by omega, rfl, k⟩

abbrev actArg (x : ActV) : Value := .agg #[.int .i64 x.op, .int .i64 x.a, .int .i64 x.b, .int .i64 x.c, .int .u64 x.w]
set_option maxHeartbeats 800000 in
theorem word9_any (x : ActV) (ok : x.Ok) (sum : Nat) (hs : sum ≤ 65536) (w : World) :
    Calls Try.prog 47 #[actArg x, .int .i64 (sum : Int)] w (Word9Post w) := by
  have w0 := ok.w0
  have w1 := ok.w1
  have hin : ∀ j, j < 5 → (w.alloc (.cells #[.int .i64 x.op, .int .i64 x.a, .int .i64 x.b, .int .i64 x.c, .int .u64 x.w] 92)).cell? ⟨w.heap.size, j, none⟩ = #[Value.int .i64 x.op, .int .i64 x.a, .int .i64 x.b, .int .i64 x.c, .int .u64 x.w][j]? := fun j _ => World.cell?_alloc_new _ _ _ _
  have K : Keep (fun _ => False) w (w.alloc (.cells #[.int .i64 x.op, .int .i64 x.a, .int .i64 x.b, .int .i64 x.c, .int .u64 x.w] 92)) := (Keep.refl _ _).alloc _
  by_cases hc : x.op = 1 ∨ x.op = 4 ∨ sum = 0
  · by_cases h1 : x.op = 1
    · have e1 : (x.op == 1) = true := by simpa using h1
      clear hc h1
      go_enter Try.func47, Try.ntmps47
      go_wp2
      go_ret
      exact word9_of w0 w1 K
    · have e1 : (x.op == 1) = false := by simpa using h1
      by_cases h4 : x.op = 4
      · have e4 : (x.op == 4) = true := by simpa using h4
        clear hc h1 h4
        go_enter Try.func47, Try.ntmps47
        go_wp2
        go_ret
        exact word9_of w0 w1 K
      · have e4 : (x.op == 4) = false := by simpa using h4
        obtain rfl : sum = 0 := by omega
        clear hc h1 h4
        go_enter Try.func47, Try.ntmps47
        go_wp2
        go_ret
        exact word9_of w0 w1 K
  · have e1 : (x.op == 1) = false := by simpa using fun h => hc (.inl h)
    have e4 : (x.op == 4) = false := by simpa using fun h => hc (.inr (.inl h))
    have hs1 : (0 : Int) < (sum : Int) := by omega
    have hs2 : (sum : Int) ≤ 65536 := by omega
    clear hc
    go_enter Try.func47, Try.ntmps47
    have f1 := hin 2 (by omega)
    have f2 := hin 3 (by omega)
    go_wp2
    go_quiet (fail)
    go_wp2
    go_ret
    exact word9_of (or_lo _ _).1 (or_lo _ _).2 (K.drewN _)
end Go.Proofs.Ytgnpeciedefeiaa

namespace Go.Proofs.Ytgnpeciedefeiaa
open Go.RowKit

/-- A block that holds a call upon cards. -/
def X9At (w : World) (b : Nat) (x : ActV) : Prop := w.heap[b]? = some (.cells #[.int .i64 x.op, .int .i64 x.a, .int .i64 x.b, .int .i64 x.c, .int .u64 x.w] 92 (0, 0))
theorem X9At.cells {w : World} {b : Nat} {x : ActV} (h : X9At w b x) : w.cell? ⟨b, 0, none⟩ = some (.int .i64 x.op) ∧ w.cell? ⟨b, 1, none⟩ = some (.int .i64 x.a) ∧ w.cell? ⟨b, 2, none⟩ = some (.int .i64 x.b) ∧ w.cell? ⟨b, 3, none⟩ = some (.int .i64 x.c) ∧ w.cell? ⟨b, 4, none⟩ = some (.int .u64 x.w) := by
  refine ⟨?_, ?_, ?_, ?_, ?_⟩ <;> (rw [cell_of_row w b _ _ _ _ h]; rfl)
theorem X9At.lt {w : World} {b : Nat} {x : ActV} (h : X9At w b x) : b < w.heap.size := heap_lt h
theorem X9At.keep {S : Nat → Prop} {w w' : World} {b : Nat} {x : ActV} (h : X9At w b x) (k : Keep S w w') (hs : ¬ S b) : X9At w' b x := k.heap h hs
theorem X9At.new (w : World) (x : ActV) : X9At (w.alloc (.cells #[.int .i64 x.op, .int .i64 x.a, .int .i64 x.b, .int .i64 x.c, .int .u64 x.w] 92)) w.heap.size x := heap_alloc_new w _

/-- What played leaves. -/
def PlayedPost (w : World) (e : Ending) (w' : World) : Prop :=
  Keep (fun _ => False) w w' ∧ (e = .returned (.pointer none) ∨ ∃ (c s p g : Nat) (S : SpV), e = .returned (.pointer (some ⟨c, 0, none⟩)) ∧ w.heap.size ≤ c ∧ w.heap.size ≤ s ∧ w.heap.size ≤ p ∧ w.heap.size ≤ g ∧ CdAt w' c s p g S ∧ S.Ok ∧ S.M.count ≤ 300)

theorem played_bad (limit : Int) (A : Option Addr) (len cap : Nat) (w : World) (h : limit < 8 ∨ 1024 < limit) :
    Calls Try.prog 39 #[.int .i64 limit, .slice A len cap] w (PlayedPost w) := by
  have H := Lib.hid h
  clear h
  go_enter Try.func39, Try.ntmps39
  go_wp2_with fail
  refine (new9_no limit _ H.out).mono ?_
  rintro e w1 ⟨rfl, rfl⟩
  go_wp2_with fail
  go_ret
  exact ⟨Keep.refl _ _, .inl rfl⟩

set_option maxRecDepth 100000 in
set_option maxHeartbeats 4000000 in
theorem played_yes (lim : Nat) (A : Option Addr) (len cap : Nat) (acts : Nat → ActV) (w : World) (h8 : 8 ≤ lim) (h1024 : lim ≤ 1024) (hA : ActsAt w A len acts) (hmax : len ≤ maxLen) :
    Calls Try.prog 39 #[.int .i64 lim, .slice A len cap] w (PlayedPost w) := by
  unfold maxLen at hmax
  have HA := Lib.hid hA
  clear hA
  by_cases h300 : 300 < len
  · go_enter Try.func39, Try.ntmps39
    go_wp2_with fail
    refine (new9_yes lim _ _ rfl h8 h1024).mono ?_
    rintro e w1 ⟨c, s, p, g, rfl, hc, hs, hp, hg, h1, k1⟩
    go_wp2_with fail
    go_ret
    exact ⟨k1, .inl rfl⟩
  · have hlen : len ≤ 300 := by omega
    clear hmax
    go_enter Try.func39, Try.ntmps39
    go_wp2_with fail
    refine (new9_yes lim _ _ rfl h8 h1024).mono ?_
    rintro e w1 ⟨c, s, p, g, rfl, hc, hs, hp, hg, h1, k1⟩
    have cnt0 : (SpV.new lim).M.count ≤ 0 := Int.le_refl 0
    go_wp2_with fail
    go_loopw [7, 8] (fun sv i wr => ∃ (j n : Nat) (S : SpV), j ≤ len ∧ i = .int .i64 j ∧ sv = .int .i64 n ∧ n ≤ 65536 ∧ S.Ok ∧ S.M.count ≤ j ∧ CdAt wr c s p g S ∧ Keep (fun _ => False) w wr) (fun _ i _ => len - (intOf i).toNat)
    case atStart => exact ⟨0, 0, _, Nat.zero_le _, rfl, rfl, by omega, SpV.Ok.new h8 h1024, cnt0, h1, k1⟩
    case round =>
      clear h1 k1 cnt0
      obtain ⟨j, n, S, hj, rfl, rfl, hn, ok, hcn, h, k⟩ := hrel
      have HC := Lib.hid hcn
      clear hcn
      by_cases hlt : j < len
      · obtain ⟨b, off, rfl, hb, xok, y0, y1, y2, y3, y4⟩ := HA.out.at_ k hlt
        obtain ⟨x, hxx⟩ : ∃ x, x = acts j := ⟨_, rfl⟩
        rw [← hxx] at xok y0 y1 y2 y3 y4
        clear hxx
        have X := X9At.new wr x
        have kx : Keep (fun _ => False) wr (wr.alloc (.cells #[.int .i64 x.op, .int .i64 x.a, .int .i64 x.b, .int .i64 x.c, .int .u64 x.w] 92)) := (Keep.refl _ _).alloc _
        have nX : ¬ MineS s p g wr.heap.size := by
          have := h.sp.lt
          have := h.sp.mem.lt
          have := h.sp.mem.segs.lt
          rintro (h | h | h) <;> omega
        replace h := h.keep0 kx
        replace k := k.trans kx
        have XOK := Lib.hid xok
        clear kx xok
        obtain ⟨x0, x1, x2, x3, x4⟩ := X.cells
        have c0 := h.ptr
        have s0 := h.sp.ptr
        by_cases o0 : x.op = 0
        · have e0 : (x.op == 0) = true := by simpa using o0
          clear o0
          go_wp2_with fail
          generalize wr.alloc (.cells #[.int .i64 x.op, .int .i64 x.a, .int .i64 x.b, .int .i64 x.c, .int .u64 x.w] 92) = wA at h X k x0 x1 x2 x3 x4 c0 s0 ⊢
          have kd : Keep (fun _ => False) wA wA.drew := (Keep.refl _ _).drew
          replace h := h.keep0 kd
          replace X := X.keep kd (by simp)
          replace k := k.drew
          clear kd x0 x4 s0
          have hcl : S.M.count ≤ 1000000 := by have := HC.out; omega
          go_region_held3 (fun w' => w'.cell? ⟨wr.heap.size, 1, none⟩ = some (.int .i64 x.a) ∧ w'.cell? ⟨wr.heap.size, 2, none⟩ = some (.int .i64 x.b) ∧ w'.cell? ⟨wr.heap.size, 3, none⟩ = some (.int .i64 x.c) ∧ w'.cell? ⟨c, 0, none⟩ = some (.pointer (some ⟨s, 0, none⟩)))
            (first | exact ⟨x1, x2, x3, c0⟩ | exact ⟨(X9At.cells (x := x) (by assumption)).2.1, (X9At.cells (x := x) (by assumption)).2.2.1, (X9At.cells (x := x) (by assumption)).2.2.2.1, CdAt.ptr (by assumption)⟩)
            ((go_at_call 35; refine (alloc_any (CdAt.sp (by assumption)) ok hcl _ _ _).mono ?_; rintro e w4 ⟨S4, a4, f4, rfl, h4, k4, ok4, hc4, _, _⟩; have X4 := X9At.keep (x := x) (by assumption) k4 nX; have h4' := CdAt.into (by assumption) k4 h4))
          all_goals
            replace k := k.into k4 (mineS_from hs hp hg)
            have c0 := h4'.ptr
            have s0 := h4'.sp.ptr
            have h4m := h4'.sp.mem
            go_wp2_with fail
            refine (taken_any p g S4.M ok4.mem none 0 0 [] _ h4m (IntsAt.nil _ _) (by omega)).mono ?_
            rintro e w5 ⟨A5, c5, L5, rfl, _, T5, _, k5⟩
            have hl5 : L5.length ≤ 1024 := by have := T5.len; have := sel_len S4.M [] S4.M.lim; have := ok4.mem.l1024; omega
            go_wp2_with fail
            exact ⟨⟨j + 1, 64 * L5.length, S4, by omega, by go_num, by go_num, by omega, ok4, (by have := HC.out; omega), h4'.keep0 k5, k.trans k5⟩, by simp [intOf]; omega⟩
        · have e0 : (x.op == 0) = false := by simpa using o0
          by_cases o1 : x.op = 1
          · have e1 : (x.op == 1) = true := by simpa using o1
            clear o0 o1
            go_wp2_with fail
            refine (word9_any x XOK.out n hn _).mono ?_
            rintro e w5 ⟨u, hu, rfl, k5⟩
            replace h := h.keep0 k5
            replace k := k.trans k5
            replace X := X.keep k5 (by simp)
            have HU := Lib.hid hu
            clear k5 hu x0 x1 x2 x3 x4 c0 s0
            obtain ⟨x0, x1, x2, x3, x4⟩ := X.cells
            go_wp2_with fail
            refine (gen_any h ok u HU.out).mono ?_
            rintro e w6 ⟨k6, hr6⟩
            replace h := h.keep0 k6
            replace k := k.trans k6
            replace X := X.keep k6 (by simp)
            clear k6 x0 x1 x2 x3 x4
            obtain ⟨x0, x1, x2, x3, x4⟩ := X.cells
            rcases hr6 with ⟨gg, rfl, _⟩ | ⟨rfl, _⟩
            · go_wp2_with fail
              refine (store_any h ok _ u (XOK.out.a1) HU.out).mono ?_
              rintro e w7 ⟨M7, f7, rfl, h7, k7, ok7, hc7, _, _⟩
              go_wp2_with fail
              exact ⟨⟨j + 1, n, _, by omega, by go_num, rfl, hn, ok7, (by rw [hc7]; have := HC.out; omega), h7, (k.into k7 (mineS_from hs hp hg))⟩, by simp [intOf]; omega⟩
            · obtain ⟨t, ht⟩ : ∃ t, t = u % 8 := ⟨_, rfl⟩
              have h7 := and7 u t HU.out ht.symm
              have t7 : t ≤ 7 := by omega
              clear ht
              by_cases ht1 : 1 ≤ t ∧ t ≤ 3
              · obtain ⟨ht1, ht3⟩ := ht1
                go_wp2_with fail
                exact ⟨⟨j + 1, n, S, by omega, by go_num, rfl, hn, ok, (by have := HC.out; omega), h, k⟩, by simp [intOf]; omega⟩
              · have t0 : t = 0 ∨ 4 ≤ t := by omega
                clear ht1
                rcases t0 with rfl | t4
                · go_wp2_with fail
                  refine (store_any h ok _ u (XOK.out.a1) HU.out).mono ?_
                  rintro e w7 ⟨M7, f7, rfl, h7, k7, ok7, hc7, _, _⟩
                  go_wp2_with fail
                  exact ⟨⟨j + 1, n, _, by omega, by go_num, rfl, hn, ok7, (by rw [hc7]; have := HC.out; omega), h7, (k.into k7 (mineS_from hs hp hg))⟩, by simp [intOf]; omega⟩
                · go_wp2_with fail
                  refine (store_any h ok _ u (XOK.out.a1) HU.out).mono ?_
                  rintro e w7 ⟨M7, f7, rfl, h7, k7, ok7, hc7, _, _⟩
                  go_wp2_with fail
                  exact ⟨⟨j + 1, n, _, by omega, by go_num, rfl, hn, ok7, (by rw [hc7]; have := HC.out; omega), h7, (k.into k7 (mineS_from hs hp hg))⟩, by simp [intOf]; omega⟩
          · have e1 : (x.op == 1) = false := by simpa using o1
            by_cases o2 : x.op = 2
            · have e2 : (x.op == 2) = true := by simpa using o2
              clear o0 o1 o2
              go_wp2_with fail
              refine (word9_any x XOK.out n hn _).mono ?_
              rintro e w5 ⟨u, hu, rfl, k5⟩
              replace h := h.keep0 k5
              replace k := k.trans k5
              replace X := X.keep k5 (by simp)
              have HU := Lib.hid hu
              clear k5 hu x0 x1 x2 x3 x4 c0 s0
              obtain ⟨x0, x1, x2, x3, x4⟩ := X.cells
              go_wp2_with fail
              refine (gen_any h ok u HU.out).mono ?_
              rintro e w6 ⟨k6, hr6⟩
              replace h := h.keep0 k6
              replace k := k.trans k6
              replace X := X.keep k6 (by simp)
              clear k6 x0 x1 x2 x3 x4
              obtain ⟨x0, x1, x2, x3, x4⟩ := X.cells
              rcases hr6 with ⟨gg, rfl, _⟩ | ⟨rfl, _⟩
              · go_wp2_with fail
                refine (store_any h ok _ u (XOK.out.a1) HU.out).mono ?_
                rintro e w7 ⟨M7, f7, rfl, h7, k7, ok7, hc7, _, _⟩
                go_wp2_with fail
                exact ⟨⟨j + 1, n, _, by omega, by go_num, rfl, hn, ok7, (by rw [hc7]; have := HC.out; omega), h7, (k.into k7 (mineS_from hs hp hg))⟩, by simp [intOf]; omega⟩
              · obtain ⟨t, ht⟩ : ∃ t, t = u % 8 := ⟨_, rfl⟩
                have h7 := and7 u t HU.out ht.symm
                have t7 : t ≤ 7 := by omega
                clear ht
                by_cases ht1 : 1 ≤ t ∧ t ≤ 3
                · obtain ⟨ht1, ht3⟩ := ht1
                  go_wp2_with fail
                  exact ⟨⟨j + 1, n, S, by omega, by go_num, rfl, hn, ok, (by have := HC.out; omega), h, k⟩, by simp [intOf]; omega⟩
                · have t0 : t = 0 ∨ 4 ≤ t := by omega
                  clear ht1
                  rcases t0 with rfl | t4
                  · go_wp2_with fail
                    refine (store_any h ok _ u (XOK.out.a1) HU.out).mono ?_
                    rintro e w7 ⟨M7, f7, rfl, h7, k7, ok7, hc7, _, _⟩
                    go_wp2_with fail
                    exact ⟨⟨j + 1, n, _, by omega, by go_num, rfl, hn, ok7, (by rw [hc7]; have := HC.out; omega), h7, (k.into k7 (mineS_from hs hp hg))⟩, by simp [intOf]; omega⟩
                  · go_wp2_with fail
                    refine (store_any h ok _ u (XOK.out.a1) HU.out).mono ?_
                    rintro e w7 ⟨M7, f7, rfl, h7, k7, ok7, hc7, _, _⟩
                    go_wp2_with fail
                    exact ⟨⟨j + 1, n, _, by omega, by go_num, rfl, hn, ok7, (by rw [hc7]; have := HC.out; omega), h7, (k.into k7 (mineS_from hs hp hg))⟩, by simp [intOf]; omega⟩
            · have e2 : (x.op == 2) = false := by simpa using o2
              by_cases o3 : x.op = 3
              · have e3 : (x.op == 3) = true := by simpa using o3
                clear o0 o1 o2 o3
                go_wp2_with fail
                refine (again_any h ok _ _).mono ?_
                rintro e w7 ⟨M7, f7, rfl, h7, k7, ok7, hc7, _, _⟩
                go_wp2_with fail
                exact ⟨⟨j + 1, n, _, by omega, by go_num, rfl, hn, ok7, (by rw [hc7]; have := HC.out; omega), h7, (k.into k7 (mineS_from hs hp hg))⟩, by simp [intOf]; omega⟩
              · have e3 : (x.op == 3) = false := by simpa using o3
                clear o0 o1 o2 o3
                go_wp2_with fail
                exact ⟨⟨j + 1, n, S, by omega, by go_num, rfl, hn, ok, (by have := HC.out; omega), h, k⟩, by simp [intOf]; omega⟩
      · obtain rfl : j = len := by omega
        go_wp2_with fail
        go_ret
        exact ⟨k, .inr ⟨c, s, p, g, S, rfl, hc, hs, hp, hg, h, ok, by have := HC.out; omega⟩⟩
end Go.Proofs.Ytgnpeciedefeiaa
