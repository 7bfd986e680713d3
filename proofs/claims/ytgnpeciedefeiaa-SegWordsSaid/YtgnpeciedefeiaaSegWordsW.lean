/-
  morainelaw07.SegWords: the walk.
-/
import Derived.Test.YtgnpeciedefeiaaWordsPlain
import Derived.Test.YtgnpeciedefeiaaSegCountsW
import Derived.Maps.RangeWalk
namespace Go.Proofs.Ytgnpeciedefeiaa
open Go.RowKit Go.Maps

theorem zero29 (w : World) : (zeroValue 29).run Try.prog w = .ok (.int .u64 0) w := by kernel_rfl

/-- The map lies there. -/
abbrev MapAt (w : World) (mb n : Nat) (D : DataW Unit) : Prop := w.ownsMap Try.prog 3 (plainElem Try.prog 29) mb n D

set_option maxRecDepth 100000 in
set_option maxHeartbeats 16000000 in
theorem segWords_yes (lim : Nat) (A : Option Addr) (len cap : Nat) (acts : Nat → ActV) (w : World) (h8 : 8 ≤ lim) (h1024 : lim ≤ 1024) (hA : ActsAt w A len acts) (hlen : len ≤ 300) :
    Calls Try.prog 4 #[.int .i64 lim, .slice A len cap] w fun e w' => e = .returned (.bool true) ∧ Keep (fun _ => False) w w' := by
  have hmm := @run_makeMap Try.prog
  go_enter Try.func4, Try.ntmps4
  go_wp2_with fail
  refine (new_some lim _ _ rfl h8 h1024).mono ?_
  rintro e w1 ⟨p, g, rfl, hp, hg, m1, k1⟩
  have hpm := m1.lt
  have hgm := m1.segs.lt
  go_wp2_with fail
  have kM : Keep (fun _ => False) w1 (w1.alloc (.map #[] 0)) := (Keep.refl _ _).alloc _
  have hM := World.ownsMap_made (H := Unit) w1 Try.prog 3 (plainElem Try.prog 29)
  replace m1 := m1.keep kM (by simp) (by simp)
  have hmb : w.heap.size ≤ w1.heap.size := k1.size
  replace k1 := k1.trans kM
  generalize w1.alloc (.map #[] 0) = w2 at hM m1 k1 ⊢
  generalize w1.heap.size = mb at hM hmb hpm hgm ⊢
  clear kM
  go_loopw [8] (fun i wr => ∃ (j : Nat) (M : MemV) (D : DataW Unit), j ≤ len ∧ i = .int .i64 j ∧ M.Ok ∧ M.count ≤ j ∧ MemAt wr p g M ∧ Keep (fun _ => False) w wr ∧ HoldsM M D ∧ MapAt wr mb (100 * j) D) (fun i _ => len - (intOf i).toNat)
  case atStart => exact ⟨0, MemV.new lim, _, Nat.zero_le _, rfl, MemV.Ok.new h8 h1024, Int.le_refl 0, m1, k1, HoldsM.new lim, hM⟩
  case round =>
    obtain ⟨j, M, D, hj, rfl, ok, hc, m, k, hD, own⟩ := hrel
    have HD := Lib.hid hD
    clear m1 k1 hM hD
    by_cases hlt : j < len
    · obtain ⟨b, off, rfl, hb, xok, q0, q1, q2, q3, q4⟩ := hA.at_ k hlt
      have hb2 : ¬ wr.heap.size = b := by omega
      obtain ⟨x, hx⟩ : ∃ x, x = acts j := ⟨_, rfl⟩
      rw [← hx] at q0 q1 q2 q3 q4 xok
      clear hx
      have HA := Lib.hid hA
      have hml := own.lt
      have hpl := m.lt
      have hgl := m.segs.lt
      clear hA
      have X := XAt.new wr x
      have kx : Keep (fun _ => False) wr (wr.alloc (.cells #[.int .i64 x.op, .int .i64 x.a, .int .i64 x.b, .int .i64 x.c, .int .u64 x.w] 31)) := (Keep.refl _ _).alloc _
      replace m := m.keep kx (by simp) (by simp)
      replace k := k.trans kx
      replace own := ownsMap_keep own kx (by simp)
      obtain ⟨x0, x1, x2, x3, x4⟩ := X.cells
      have nX : ¬ Mine p g wr.heap.size := by rintro (h | h) <;> omega
      have nM : ¬ Mine p g mb := by rintro (h | h) <;> omega
      have xa0 := xok.a0
      have xa1 := xok.a1
      have xb1 := xok.b1
      by_cases o0 : x.op = 0
      · have e0 : (x.op == 0) = true := by simpa using o0
        clear o0
        go_wp2_with fail
        refine (take_all p g M _ _ _ m ok (by omega)).mono ?_
        rintro e w4 ⟨M', a, f, rfl, m4, k4, ok4, hc4, hl4, hR⟩
        have HR := Lib.hid hR
        replace k := k.into k4 (mine_from hp hg)
        replace own := (ownsMap_keep own k4 nM).mono (n' := 100 * (j + 1)) (by omega)
        clear m X kx x0 x1 x2 x3 x4 q0 q1 q2 q3 q4 hR hl4
        go_wp2_with fail
        go_roundw
        case rel => exact ⟨j + 1, M', D, by omega, by go_num, ok4, by omega, m4, k, HD.out.take ok HR.out, own⟩
        case measure => simp [intOf]; omega
      · have e0 : (x.op == 0) = false := by simpa using o0
        by_cases o1 : x.op = 1
        · have e1 : (x.op == 1) = true := by simpa using o1
          clear o0 o1
          go_wp2_with fail
          refine (give_all p g M _ _ m ok).mono ?_
          rintro e w4 ⟨M', f, rfl, m4, k4, ok4, hc4, hl4, hR⟩
          replace k := k.into k4 (mine_from hp hg)
          replace own := ownsMap_keep own k4 nM
          replace X := X.keep k4 nX
          have C4 := Lib.hid hc4
          clear m kx x0 x1 x2 x3 x4 q0 q1 q2 q3 q4 hl4 hc4 k4
          rcases hR with ⟨_, rfl, rfl⟩ | ⟨s, hs, hsl, hst, rfl, hM'⟩
          · go_wp2_with fail
            go_roundw
            case rel => exact ⟨j + 1, M', D, by omega, by go_num, ok4, by omega, m4, k, HD.out, own.mono (by omega)⟩
            case measure => simp [intOf]; omega
          · have Hs := Lib.hid hs
            have HM' := Lib.hid hM'
            have l1024 := ok.l1024
            have G := Giving.start ok hsl HD.out
            generalize wr.heap.size = bx at X nX hb2 hml hpl hgl ⊢
            clear hs hM'
            go_wp2_with fail
            go_loopw [10] (fun i wr => ∃ (i' : Nat) (D' : DataW Unit), i' ≤ 64 ∧ i = .int .i64 i' ∧ MemAt wr p g M' ∧ Keep (fun _ => False) w wr ∧ XAt wr bx x ∧ Giving M s i' D' ∧ MapAt wr mb (100 * j) D') (fun i _ => 64 - (intOf i).toNat)
            case atStart => exact ⟨0, D, by omega, rfl, m4, k, X, G, own⟩
            case round =>
              obtain ⟨i, D', hi, rfl, m, k, X, G, own⟩ := hrel
              have HG := Lib.hid G
              clear m4 G
              by_cases hi64 : i < 64
              · obtain ⟨x0, x1, x2, x3, x4⟩ := X.cells
                rw [Hs.out] at x1
                go_wp2_with (at_delete; refine wpList_delete_own _ rfl (.tmp 81) (.tmp 86) 42 3 rfl 29 law3 Try.underlying42 _ mb _ _ rfl own _ _ rfl (keyOf_int_mk Try.underlying3 (WalkArith.wf_i64 (by omega))) ?_; intro w6 own6 hturn; have k6 := Keep.of_grown hturn.grown)
                have own6' := own6
                have m6 := m.keep k6 (by simp; omega) (by simp; omega)
                have X6 := X.keep k6 (by simp; omega)
                have K6 := k.into k6 (fun b hb => by simp at hb; omega)
                go_roundw
                case rel => exact ⟨i + 1, _, by omega, by go_num, m6, K6, X6, HG.out.step hsl hst hi64, own6'⟩
                case measure => simp [intOf]; omega
              · obtain rfl : i = 64 := by omega
                go_wp2_with fail
                go_roundw
                case rel => exact ⟨j + 1, M', D', by omega, by go_num, ok4, by rw [C4.out]; omega, m, k, by rw [HM'.out]; exact HG.out.done ok hsl, own.mono (by omega)⟩
                case measure => simp [intOf]; omega
        · have e1 : (x.op == 1) = false := by simpa using o1
          by_cases o2 : x.op = 2
          · have e2 : (x.op == 2) = true := by simpa using o2
            clear o0 o1 o2
            go_wp2_with fail
            refine (bump_all p g M _ _ _ m ok).mono ?_
            rintro e w4 ⟨M', a, f, rfl, m4, k4, ok4, hc4, hl4, hR⟩
            replace k := k.into k4 (mine_from hp hg)
            replace own := ownsMap_keep own k4 nM
            replace X := X.keep k4 nX
            have C4 := Lib.hid hc4
            clear m kx x0 x1 x2 x3 x4 q0 q1 q2 q3 q4 hl4 hc4 k4
            rcases hR with ⟨_, rfl, rfl, hM'⟩ | ⟨_, _, rfl, rfl, hM'⟩ | ⟨_, _, _, _, _, _, rfl, rfl, hM'⟩ | ⟨s, hs, hsl, hst, hn1, hn2, rfl, rfl, hM'⟩
            · have HM' := Lib.hid hM'
              clear hM'
              go_wp2_with fail
              go_roundw
              case rel => exact ⟨j + 1, M', D, by omega, by go_num, ok4, by rw [C4.out]; omega, m4, k, by rw [HM'.out]; exact HD.out, own.mono (by omega)⟩
              case measure => simp [intOf]; omega
            · have HM' := Lib.hid hM'
              clear hM'
              go_wp2_with fail
              go_roundw
              case rel => exact ⟨j + 1, M', D, by omega, by go_num, ok4, by rw [C4.out]; omega, m4, k, by rw [HM'.out]; exact HD.out, own.mono (by omega)⟩
              case measure => simp [intOf]; omega
            · have HM' := Lib.hid hM'
              clear hM'
              go_wp2_with fail
              go_roundw
              case rel => exact ⟨j + 1, M', D, by omega, by go_num, ok4, by rw [C4.out]; omega, m4, k, by rw [HM'.out]; exact HD.out, own.mono (by omega)⟩
              case measure => simp [intOf]; omega
            · have HM' := Lib.hid hM'
              have l1024 := ok.l1024
              have n0 := (ok.sg s hsl).n0
              have G := Bumping.start s HD.out
              generalize wr.heap.size = bx at X nX hb2 hml hpl hgl ⊢
              obtain ⟨n, hn⟩ := Int.eq_ofNat_of_zero_le (by omega : 0 ≤ x.b)
              have Hn := Lib.hid hn
              have hn3 : n ≤ 64 := by omega
              have hn4 : (n : Int) ≤ 64 - (M.sg s).n := by omega
              clear hM' hs hn
              go_wp2_with fail
              go_loopw [13] (fun i wr => ∃ (i' : Nat) (D' : DataW Unit), i' ≤ n ∧ i = .int .i64 i' ∧ MemAt wr p g M' ∧ Keep (fun _ => False) w wr ∧ XAt wr bx x ∧ Bumping M s i' D' ∧ MapAt wr mb (100 * j + i') D') (fun i _ => n - (intOf i).toNat)
              case atStart => exact ⟨0, D, by omega, rfl, m4, k, X, G, own⟩
              case round =>
                obtain ⟨i, D', hi, rfl, m, k, X, G, own⟩ := hrel
                have HG := Lib.hid G
                clear m4 G
                obtain ⟨x0, x1, x2, x3, x4⟩ := X.cells
                rw [Hn.out] at x2
                by_cases hin : i < n
                · have hkey := keyOf_int_mk (P := Try.prog) (k := 3) Try.underlying3 (WalkArith.wf_i64 (n := (s : Int) * 64 + (M.sg s).n + i) (by omega))
                  have Hkey := Lib.hid hkey
                  obtain ⟨v, ps, hrun, _⟩ := own.look_ok law3 Try.underlying42 (zero29 _) (plainElem_int Try.underlying29 (by decide)) Hkey.out
                  rw [HG.out.not ok hsl (by omega)] at hrun
                  clear hkey
                  go_wp2_with (at_mapUpdate; refine wpList_mapUpdate_own _ rfl (.tmp 115) (.tmp 118) (.const (.int .u64 0)) 42 rfl 3 29 law3 Try.underlying42 _ mb _ _ rfl own (by unfold maxLen; omega) _ _ _ rfl rfl Hkey.out _ [] (plainElem_int Try.underlying29 (by decide)) ?_; intro w6 own6 hgrow6; have k6 := Keep.of_grown hgrow6; have m6 := m.keep k6 (by simp; omega) (by simp; omega); have X6 := X.keep k6 (by simp; omega); have K6 := k.into k6 (fun b hb => by simp at hb; omega); clear k6 hgrow6)
                  go_roundw
                  case rel => exact ⟨i + 1, _, by omega, by go_num, m6, K6, X6, HG.out.step ok hsl (by omega), own6⟩
                  case measure => simp [intOf]; omega
                · obtain rfl : i = n := by omega
                  go_wp2_with fail
                  go_roundw
                  case rel => exact ⟨j + 1, M', D', by omega, by go_num, ok4, by rw [C4.out]; omega, m, k, by rw [HM'.out, Hn.out]; exact HG.out.done ok hsl hst hn4, own.mono (by omega)⟩
                  case measure => simp [intOf]; omega
          · have e2 : (x.op == 2) = false := by simpa using o2
            have w0 := xok.w0
            have w1 := xok.w1
            by_cases o3 : x.op = 3
            · have e3 : (x.op == 3) = true := by simpa using o3
              clear o0 o1 o2 o3
              have hkey := keyOf_int_mk (P := Try.prog) (k := 3) Try.underlying3 (WalkArith.wf_i64 (n := x.a) (by omega))
              have Hkey := Lib.hid hkey
              obtain ⟨v, ps, hrun, _⟩ := own.look_ok law3 Try.underlying42 (zero29 _) (plainElem_int Try.underlying29 (by decide)) Hkey.out
              clear hkey
              by_cases hu : M.used x.a
              · rw [HD.out.yes _ hu] at hrun
                go_wp2_with fail
                refine (write_all p g M _ _ _ m ok (by omega) (by omega) (by omega)).mono ?_
                rintro e w4 ⟨M', f, rfl, m4, k4, ok4, hc4, hl4, hR⟩
                replace k := k.into k4 (mine_from hp hg)
                replace own := ownsMap_keep own k4 nM
                replace X := X.keep k4 nX
                have C4 := Lib.hid hc4
                clear m kx x0 x1 x2 x3 x4 q0 q1 q2 q3 q4 hl4 hc4 k4
                rcases hR with ⟨hn, _⟩ | ⟨a, ha, hk, ht, hn, rfl, hM'⟩
                · exact absurd hu hn
                · have HM' := Lib.hid hM'
                  have Ha := Lib.hid ha
                  have HU := Lib.hid hu
                  clear hM' ha hu
                  obtain ⟨x0, x1, x2, x3, x4⟩ := X.cells
                  go_wp2_with (at_mapUpdate; refine wpList_mapUpdate_own _ rfl (.tmp 139) (.tmp 141) (.tmp 143) 42 rfl 3 29 law3 Try.underlying42 _ mb _ _ rfl own (by unfold maxLen; omega) _ _ _ rfl rfl Hkey.out _ [] (plainElem_int Try.underlying29 (WalkArith.wf_u64 (by omega))) ?_; intro w6 own6 hgrow6; have k6 := Keep.of_grown hgrow6; have m6 := m4.keep k6 (by simp; omega) (by simp; omega); have K6 := k.into k6 (fun b hb => by simp at hb; omega); clear k6 hgrow6)
                  go_roundw
                  case rel => exact ⟨j + 1, M', _, by omega, by go_num, ok4, by rw [C4.out]; omega, m6, K6, by rw [HM'.out, Ha.out]; exact HD.out.write x.w hk (Ha.out ▸ HU.out), own6.mono (by omega)⟩
                  case measure => simp [intOf]; omega
              · rw [HD.out.no _ hu] at hrun
                go_wp2_with fail
                refine (write_all p g M _ _ _ m ok (by omega) (by omega) (by omega)).mono ?_
                rintro e w4 ⟨M', f, rfl, m4, k4, ok4, hc4, hl4, hR⟩
                replace k := k.into k4 (mine_from hp hg)
                replace own := ownsMap_keep own k4 nM
                have C4 := Lib.hid hc4
                clear m kx X x0 x1 x2 x3 x4 q0 q1 q2 q3 q4 hl4 hc4 k4
                rcases hR with ⟨_, rfl, rfl⟩ | ⟨a, ha, hk, ht, hn, _⟩
                · go_wp2_with fail
                  go_roundw
                  case rel => exact ⟨j + 1, M', D, by omega, by go_num, ok4, by omega, m4, k, HD.out, own.mono (by omega)⟩
                  case measure => simp [intOf]; omega
                · exact absurd (MemV.used_iff.2 ⟨a, ha, hk, ht, hn⟩) hu
            · have e3 : (x.op == 3) = false := by simpa using o3
              clear o0 o1 o2 o3
              go_wp2_with fail
              go_roundw
              case rel => exact ⟨j + 1, M, D, by omega, by go_num, ok, by omega, m, k, HD.out, own.mono (by omega)⟩
              case measure => simp [intOf]; omega
    · obtain rfl : j = len := by omega
      clear hA
      have l1024 := ok.l1024
      have hml := own.lt
      have hpl := m.lt
      have hgl := m.segs.lt
      go_wp2_with (at_range; refine wpList_range_own _ rfl _ 42 rfl 3 29 law3 Try.underlying42 _ mb _ _ rfl own ?_; intro w3 hrg hg3 hs3)
      go_frame
      have k3 := Keep.of_grown hg3
      have m3 := m.keep k3 (by simp) (by simp)
      have K3 := k.into k3 (fun b hb => by simp at hb)
      have hrr : w.heap.size ≤ wr.heap.size := k.size
      generalize wr.heap.size = rr at hrg hrr hml hpl hgl ⊢
      clear m own k k3 hg3 hs3
      go_loopw [19] (fun _ wr => ∃ (left : Lit → Bool) (cnt : Nat), wr.ranges Try.prog 3 (plainElem Try.prog 29) mb rr (100 * j) D left cnt ∧ (∀ kl, left kl = true → Maps.has D kl = true) ∧ MemAt wr p g M ∧ Keep (fun _ => False) w wr) (fun _ wr => wr.rangeLeft mb rr)
      case atStart => exact ⟨_, _, hrg, fun _ h => h, m3, K3⟩
      case round =>
        obtain ⟨left, cnt, rg, hleft, m, k⟩ := hrel
        clear hrg m3 K3
        go_wp2_with (at_next; refine wpList_next_ranges_ii _ rfl _ rfl 3 29 .i64 .u64 law3 Try.underlying3 Try.underlying29 mb rr (100 * j) _ _ _ rfl rg ?_ ?_)
        · intro _ hl0
          have own := rg.owns
          clear rg hl0 hleft
          go_wp2_with fail
          refine (taken_any p g M ok none 0 0 [] _ m (IntsAt.nil _ _) (by omega)).mono ?_
          rintro e w5 ⟨A5, c5, L, rfl, hI, hT, m5, k5⟩
          have hLn : L.length ≤ 1024 := by have := hT.len; have := sel_len M [] M.lim; omega
          replace k := k.trans k5
          replace own := ownsMap_keep own k5 (by simp)
          have HT := Lib.hid hT
          clear hT m k5
          go_wp2_with fail
          go_loopw [23, 25] (fun n' i' wr => ∃ i : Nat, i ≤ L.length ∧ i' = .int .i64 i ∧ n' = .int .i64 (sumL M (L.take i)) ∧ MemAt wr p g M ∧ Keep (fun _ => False) w wr ∧ IntsAt wr A5 L.length (L.map (fun i : Nat => (i : Int))) ∧ MapAt wr mb (100 * j) D) (fun _ i' _ => L.length - (intOf i').toNat)
          case atStart => exact ⟨0, by omega, rfl, rfl, m5, k, hI, own⟩
          case round =>
            obtain ⟨i, hi, rfl, rfl, m, k, I, own⟩ := hrel
            clear m5 hI
            by_cases hil : i < L.length
            · obtain ⟨b, off, rfl, hb, hc⟩ := I.2 i hil
              rw [getD_cast] at hc
              obtain ⟨ht1, ht2⟩ := HT.out.at_ hil
              have hsucc := sumL_take M L i hil
              have hbd := sumL_bd M ok (L.take i) (fun q hq => (HT.out.mem (List.mem_of_mem_take hq)).1)
              have hln : (L.take i).length ≤ 1024 := by rw [List.length_take]; omega
              have hn0 := (ok.sg _ ht1).n0
              have hn64 := (ok.sg _ ht1).n64
              obtain ⟨t, ht⟩ : ∃ t, t = L.getD i 0 := ⟨_, rfl⟩
              rw [← ht] at hc ht1 ht2 hsucc hn0 hn64
              have Hsucc := Lib.hid hsucc
              clear ht hsucc
              go_wp2_with fail
              refine (seg_yes2 p g M t _ _ m l1024 rfl ht1 ht2).mono ?_
              rintro e w8 ⟨rfl, k8⟩
              go_wp2_with fail
              go_roundw
              case rel => first | exact ⟨i + 1, by omega, by go_num, by rw [Hsucc.out], m.keep (k8.alloc _) (by simp) (by simp), (k.trans k8).alloc _, I.keep0 (k8.alloc _), ownsMap_keep own (k8.alloc _) (by simp)⟩ | ((repeat apply Exists.intro); exact ⟨⟨i + 1, by omega, by go_num, by rw [Hsucc.out], m.keep (k8.alloc _) (by simp) (by simp), (k.trans k8).alloc _, I.keep0 (k8.alloc _), ownsMap_keep own (k8.alloc _) (by simp)⟩, rfl⟩)
              case measure => simp [intOf]; omega
            · obtain rfl : i = L.length := by omega
              have hsz := HD.out.size
              rw [List.take_length, sumL_all M ok HT.out, ← hsz]
              clear hsz
              go_wp2_with (at_len; refine wpList_len_own _ rfl _ 42 rfl 3 29 Try.underlying42 _ mb _ D rfl own ?_)
              refine (awake7 _).mono ?_
              rintro e w9 ⟨rfl, k9⟩
              go_wp2_with fail
              go_ret
              exact ⟨rfl, k.trans k9⟩
        · intro x c w1 cnt1 hwx hwc hlx hat hrg1 hlt hg1 hs1 hen
          have hu : M.used x := by
            by_cases hu : M.used x
            · exact hu
            · have h1 := hleft _ hlx
              have h2 := HD.out.no x hu
              rw [h2] at h1
              exact absurd h1 (by simp)
          have hcx : c = M.word x := by
            have h1 := HD.out.val x hu (.map [])
            have h2 := hat (.map [])
            rw [h1] at h2
            injection h2 with h2
            injection h2 with _ h2
            exact h2.symm
          have HCX := Lib.hid hcx
          have HU := Lib.hid hu
          clear hcx hu
          have k1 := Keep.of_grown hg1
          have m1 := m.keep k1 (by simp; omega) (by simp; omega)
          have K1 := k.into k1 (fun b hb => by simp at hb; omega)
          have hxw : x ≤ 9223372036854775807 := by simp [Lit.wf, IntKind.min, IntKind.max, IntKind.signed, IntKind.bits] at hwx; omega
          have hcnt := rg.left_eq
          clear rg k m k1 hg1 hat hwx hwc
          go_wp2_with fail
          refine (read_all p g M _ _ m1 ok (by omega)).mono ?_
          rintro e w4 ⟨u, f, rfl, rfl, hR⟩
          rcases hR with ⟨hn, _⟩ | ⟨a, ha, hk, ht, hn, hua, rfl⟩
          · exact absurd HU.out hn
          · obtain rfl : u = c := by
              rw [HCX.out, hua, ha]
              simp only [MemV.word, show (((a : Nat) : Int) / 64).toNat = a / 64 from by omega, show (((a : Nat) : Int) % 64).toNat = a % 64 from by omega]
            clear HCX hua ha hk ht hn
            go_wp2_with fail
            go_roundw
            case rel => exact ⟨_, _, hrg1, fun kl hkl => hleft kl (by simp only [Bool.and_eq_true] at hkl; exact hkl.1), m1, K1⟩
            case measure => rw [hrg1.left_eq, hcnt]; omega
end Go.Proofs.Ytgnpeciedefeiaa
