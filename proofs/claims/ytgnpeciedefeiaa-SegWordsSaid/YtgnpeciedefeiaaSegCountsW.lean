/-
  morainelaw07.SegCounts: the walk.
-/
import Derived.Test.YtgnpeciedefeiaaCountsPlain
import Derived.Carry
import Derived.Deep.Cut
namespace Go.Proofs.Ytgnpeciedefeiaa
open Go.RowKit Go.Maps

theorem law3 : Keyed Try.prog 3 := int_keyed Try.underlying3
theorem zero3 (w : World) : (zeroValue 3).run Try.prog w = .ok (.int .i64 0) w := by kernel_rfl

/-- How often each was seen, behind the first k. -/
def seenD (L : List Nat) (k : Nat) : DataW Unit := setOf (.lit (.int .i64 1)) ((L.take k).map fun i : Nat => Lit.int .i64 (i : Int))
theorem seenD_succ (L : List Nat) (k : Nat) (hk : k < L.length) : seenD L (k + 1) = (seenD L k).put (.int .i64 ((L.getD k 0 : Nat) : Int)) (.lit (.int .i64 1)) := by
  unfold seenD
  rw [List.take_succ_eq_append_getElem hk, List.map_append, List.map_cons, List.map_nil, setOf_snoc, List.getD_eq_getElem?_getD, List.getElem?_eq_getElem hk]
  rfl
theorem seenD_not (L : List Nat) (k : Nat) (hk : k < L.length) (h : ∀ i, i < k → L.getD i 0 ≠ L.getD k 0) (z : DataW Unit) : (seenD L k).atKey (.int .i64 ((L.getD k 0 : Nat) : Int)) z = z := by
  refine atKey_of_not_has ?_ z
  unfold seenD
  rw [has_setOf _ _ _ (fun x hx => by obtain ⟨i, _, rfl⟩ := List.mem_map.1 hx; trivial)]
  rw [Bool.eq_false_iff]
  intro ha
  obtain ⟨x, hx, hs⟩ := List.any_eq_true.1 ha
  obtain ⟨i, hi, rfl⟩ := List.mem_map.1 hx
  have e := WideAt.sameKey_eq hs
  injection e with _ e
  obtain ⟨j, hj, rfl⟩ := List.mem_iff_getElem.1 hi
  rw [List.length_take] at hj
  rw [List.getElem_take] at e
  have hjk : j < k := by omega
  have := h j hjk
  rw [List.getD_eq_getElem?_getD, List.getElem?_eq_getElem (by omega)] at this
  apply this
  simp only [Option.getD_some]
  omega
theorem isMap_seen (L : List Nat) (k : Nat) : IsMap (seenD L k) := by
  unfold seenD
  exact (tidy_setOf _ _ (fun x hx => by obtain ⟨i, _, rfl⟩ := List.mem_map.1 hx; trivial)).isMap
theorem seenD_put_at (L : List Nat) (k : Nat) (x : Int) (z : DataW Unit) : ((seenD L k).put (.int .i64 x) (.lit (.int .i64 1))).atKey (.int .i64 x) z = .lit (.int .i64 1) :=
  atKey_put_same (isMap_seen L k) (show WideAt.IsKeyLit (.int .i64 x) from True.intro) _ _

theorem IntsAt.one (w : World) (x : Int) : IntsAt (w.alloc (.cells #[.int .i64 x] 3)) (some ⟨w.heap.size, 0, none⟩) 1 [x] :=
  ⟨rfl, fun j hj => by
    obtain rfl : j = 0 := by omega
    exact ⟨w.heap.size, 0, rfl, by simp, by simp⟩⟩

/-- The last one of a list that lies there. -/
theorem IntsAt.last {w : World} {A : Option Addr} {n : Nat} {L : List Int} (h : IntsAt w A n L) (hn : 0 < n) : ∃ b off, A = some ⟨b, off, none⟩ ∧ w.cell? ⟨b, off + (n - 1), none⟩ = some (.int .i64 (L.getD (n - 1) 0)) := by
  obtain ⟨b, off, e, _, hc⟩ := h.2 (n - 1) (by omega)
  exact ⟨b, off, e, hc⟩
theorem getD_cast (L : List Nat) (j : Nat) : (L.map (fun i : Nat => (i : Int))).getD j 0 = ((L.getD j 0 : Nat) : Int) := by
  rw [List.getD_eq_getElem?_getD, List.getD_eq_getElem?_getD, List.getElem?_map]
  cases L[j]? <;> rfl

set_option maxRecDepth 100000 in
set_option maxHeartbeats 8000000 in
theorem segCounts_yes (lim : Nat) (A : Option Addr) (len cap : Nat) (acts : Nat → ActV) (w : World) (h8 : 8 ≤ lim) (h1024 : lim ≤ 1024) (hA : ActsAt w A len acts) (hlen : len ≤ 300) :
    Calls Try.prog 5 #[.int .i64 lim, .slice A len cap] w fun e w' => e = .returned (.bool true) ∧ Keep (fun _ => False) w w' := by
  have hmm := @run_makeMap Try.prog
  go_enter Try.func5, Try.ntmps5
  go_wp2_with fail
  refine (new_some lim _ _ rfl h8 h1024).mono ?_
  rintro e w1 ⟨p, g, rfl, hp, hg, m1, k1⟩
  go_wp2_with fail
  go_loopw [7] (fun i wr => ∃ (j : Nat) (M : MemV), j ≤ len ∧ i = .int .i64 j ∧ M.Ok ∧ M.count ≤ j ∧ M.lim = lim ∧ MemAt wr p g M ∧ Keep (fun _ => False) w wr) (fun i _ => len - (intOf i).toNat)
  case atStart => exact ⟨0, MemV.new lim, Nat.zero_le _, rfl, MemV.Ok.new h8 h1024, Int.le_refl 0, rfl, m1, k1⟩
  case round =>
    obtain ⟨j, M, hj, rfl, ok, hc, hlim, m, k⟩ := hrel
    have HL := Lib.hid hlim
    clear m1 k1 hlim
    by_cases hlt : j < len
    · obtain ⟨b, off, rfl, hb, xok, q0, q1, q2, q3, q4⟩ := hA.at_ k hlt
      have hb2 : ¬ wr.heap.size = b := by omega
      obtain ⟨x, hx⟩ : ∃ x, x = acts j := ⟨_, rfl⟩
      rw [← hx] at q0 q1 q2 q3 q4 xok
      clear hx
      have HA := Lib.hid hA
      clear hA
      have X := XAt.new wr x
      have kx : Keep (fun _ => False) wr (wr.alloc (.cells #[.int .i64 x.op, .int .i64 x.a, .int .i64 x.b, .int .i64 x.c, .int .u64 x.w] 31)) := (Keep.refl _ _).alloc _
      replace m := m.keep kx (by simp) (by simp)
      replace k := k.trans kx
      obtain ⟨x0, x1, x2, x3, x4⟩ := X.cells
      by_cases o0 : x.op = 0
      · have e0 : (x.op == 0) = true := by simpa using o0
        clear o0
        go_wp2_with fail
        refine (take_all p g M _ _ _ m ok (by omega)).mono ?_
        rintro e w4 ⟨M', a, f, rfl, m4, k4, ok4, hc4, hl4, hR⟩
        have HR := Lib.hid hR
        replace k := k.into k4 (mine_from hp hg)
        have H4 := Lib.hid hl4
        clear m X kx x0 x1 x2 x3 x4 q0 q1 q2 q3 q4 hR hl4
        go_wp2_with fail
        refine (taken_any p g M' ok4 none 0 0 [] _ m4 (IntsAt.nil _ _) (by omega)).mono ?_
        rintro e w5 ⟨A', c', L, rfl, hI, hT, m5, k5⟩
        have hLn : L.length ≤ 1024 := by have := hT.len; have := sel_len M' [] M'.lim; have := ok4.l1024; omega
        replace k := k.trans k5
        have hR' := HR.out
        have hT' := Lib.hid hT
        clear m4 k5 k4 hT
        rcases hR' with ⟨_, rfl, rfl, e1⟩ | ⟨_, hfz, rfl, rfl, e1⟩ | ⟨q, _, hf, hq, hz, hlow, rfl, rfl, e1⟩
        · have E1 := Lib.hid e1
          clear e1
          go_wp2_with fail
          go_roundw
          case rel => exact ⟨j + 1, M', by omega, by go_num, ok4, by omega, H4.out.trans HL.out, m5, k⟩
          case measure => simp [intOf]; omega
        · have E1 := Lib.hid e1
          have Efz := Lib.hid hfz
          clear e1 hfz
          go_wp2_with fail
          refine (free_any p g M' _ m5).mono ?_
          rintro e w6 ⟨rfl, rfl⟩
          have ez : M'.free = 0 := by rw [E1.out]; exact Efz.out
          rw [ez]
          clear ez
          go_wp2_with fail
          go_roundw
          case rel => exact ⟨j + 1, M', by omega, by go_num, ok4, by omega, H4.out.trans HL.out, m5, k⟩
          case measure => simp [intOf]; omega
        · have E1 := Lib.hid e1
          have hlast := hT'.out.last ok4 (q := q) (by rw [e1]; exact hq) (by rw [e1]; simp [MemV.took, MemV.put, Sg.fresh]) (by rw [e1]; simp [MemV.took, MemV.put, Sg.fresh]; have := ok.c0; omega)
          obtain ⟨hL0, hLq⟩ := hlast
          obtain ⟨b', off', rfl, hcell⟩ := hI.last hL0
          rw [getD_cast, hLq] at hcell
          have hL1 : ((L.length : Int) == 0) = false := by rw [beq_eq_false_iff_ne]; omega
          have hL2 : (0 : Int) ≤ (L.length : Int) - 1 := by omega
          have HI := Lib.hid hI
          clear e1 hLq hz hlow hI
          go_wp2_with fail
          go_roundw
          case rel => exact ⟨j + 1, M', by omega, by go_num, ok4, by omega, H4.out.trans HL.out, m5, k⟩
          case measure => simp [intOf]; omega
      · have e0 : (x.op == 0) = false := by simpa using o0
        by_cases o1 : x.op = 1
        · have e1 : (x.op == 1) = true := by simpa using o1
          clear o0 o1
          go_wp2_with fail
          refine (give_all p g M _ _ m ok).mono ?_
          rintro e w4 ⟨M', f, rfl, m4, k4, ok4, hc4, hl4, _⟩
          replace k := k.into k4 (mine_from hp hg)
          have H4 := Lib.hid hl4
          have C4 := Lib.hid hc4
          clear m X kx x0 x1 x2 x3 x4 q0 q1 q2 q3 q4 hl4 hc4
          go_wp2_with fail
          go_roundw
          case rel => exact ⟨j + 1, M', by omega, by go_num, ok4, by rw [C4.out]; omega, H4.out.trans HL.out, m4, k⟩
          case measure => simp [intOf]; omega
        · have e1 : (x.op == 1) = false := by simpa using o1
          by_cases o2 : x.op = 2
          · have e2 : (x.op == 2) = true := by simpa using o2
            clear o0 o1 o2
            go_wp2_with fail
            refine (bump_all p g M _ _ _ m ok).mono ?_
            rintro e w4 ⟨M', a, f, rfl, m4, k4, ok4, hc4, hl4, _⟩
            replace k := k.into k4 (mine_from hp hg)
            have H4 := Lib.hid hl4
            have C4 := Lib.hid hc4
            clear m X kx x0 x1 x2 x3 x4 q0 q1 q2 q3 q4 hl4 hc4
            go_wp2_with fail
            go_roundw
            case rel => exact ⟨j + 1, M', by omega, by go_num, ok4, by rw [C4.out]; omega, H4.out.trans HL.out, m4, k⟩
            case measure => simp [intOf]; omega
          · have e2 : (x.op == 2) = false := by simpa using o2
            clear o0 o1 o2
            go_wp2_with fail
            go_roundw
            case rel => exact ⟨j + 1, M, by omega, by go_num, ok, by omega, HL.out, m, k⟩
            case measure => simp [intOf]; omega
    · obtain rfl : j = len := by omega
      clear hA
      have hsub := HL.out
      subst hsub
      have l1024 := ok.l1024
      go_wp2_with fail
      refine (taken_any p g M ok none 0 0 [] _ m (IntsAt.nil _ _) (by omega)).mono ?_
      rintro e w2 ⟨A2, c2, L, rfl, hI, hT, m2, k2⟩
      have hLn : L.length ≤ 1024 := by have := hT.len; have := sel_len M [] M.lim; omega
      replace k := k.trans k2
      have HT := Lib.hid hT
      clear hT m k2
      go_wp2_with fail
      have kM : Keep (fun _ => False) w2 (w2.alloc (.map #[] 0)) := (Keep.refl _ _).alloc _
      have hM := World.ownsMap_made (H := Unit) w2 Try.prog 3 (plainElem Try.prog 3)
      have m3 := m2.keep kM (by simp) (by simp)
      have I3 := hI.keep0 kM
      have k3 := k.trans kM
      have hmb : w.heap.size ≤ w2.heap.size := k.size
      have hpm := m2.lt
      have hgm := m2.segs.lt
      have hAb : ∀ b off, A2 = some ⟨b, off, none⟩ → 0 < L.length → b < w2.heap.size := by
        intro b off e h0
        obtain ⟨b', off', e', hb', _⟩ := hI.2 0 h0
        rw [e] at e'
        injection e' with e'
        injection e' with e1 _ _
        omega
      generalize w2.alloc (.map #[] 0) = w3 at hM m3 I3 k3 ⊢
      generalize w2.heap.size = mb at hM hmb hpm hgm hAb ⊢
      have HAb := Lib.hid hAb
      clear hAb
      clear m2 hI k kM
      go_loopw [14] (fun i wr => ∃ k : Nat, k ≤ L.length ∧ i = .int .i64 k ∧ MemAt wr p g M ∧ IntsAt wr A2 L.length (L.map (fun i : Nat => (i : Int))) ∧ wr.ownsMap Try.prog 3 (plainElem Try.prog 3) mb k (seenD L k) ∧ Keep (fun _ => False) w wr) (fun i _ => L.length - (intOf i).toNat)
      case atStart => exact ⟨0, Nat.zero_le _, rfl, m3, I3, hM, k3⟩
      case round =>
        obtain ⟨i, hi, rfl, m, I, hown, k⟩ := hrel
        clear hM m3 I3 k3
        by_cases hil : i < L.length
        · obtain ⟨b, off, rfl, hb, hc⟩ := I.2 i hil
          rw [getD_cast] at hc
          have hmem : L.getD i 0 ∈ L := by
            rw [List.getD_eq_getElem?_getD, List.getElem?_eq_getElem hil]
            exact List.getElem_mem _
          obtain ⟨ht1, ht2⟩ := HT.out.mem hmem
          have hnot := seenD_not L i hil (fun j hj => HT.out.apart hil hj)
          have hsucc := seenD_succ L i hil
          have hput := seenD_put_at L i ((L.getD i 0 : Nat) : Int)
          obtain ⟨t, ht⟩ : ∃ t, t = L.getD i 0 := ⟨_, rfl⟩
          rw [← ht] at hc ht1 ht2 hnot hsucc hput
          have Ht := Lib.hid ht
          have Hnot := Lib.hid hnot
          have Hsucc := Lib.hid hsucc
          have Hput := Lib.hid hput
          clear ht hnot hsucc hput hmem
          have hwf : (Lit.int .i64 (t : Int)).wf = true := WalkArith.wf_i64 (by omega)
          have hkey := keyOf_int_mk (P := Try.prog) (k := 3) Try.underlying3 hwf
          have Hkey := Lib.hid hkey
          clear hkey hwf
          go_wp2_with fail
          refine (seg_yes2 p g M t _ _ m l1024 rfl ht1 ht2).mono ?_
          rintro e w4 ⟨rfl, k4⟩
          have k5 : Keep (fun _ => False) w4 (w4.alloc (.cells #[.int .i64 (M.sg t).gen, .int .i64 (M.sg t).kind, .int .i64 (M.sg t).n, .int .i64 (M.sg t).c0, .int .i64 (M.sg t).c1, .int .i64 (M.sg t).c2, .int .i64 (M.sg t).c3] 37)) := (Keep.refl _ _).alloc _
          replace k4 := k4.trans k5
          replace m := m.keep k4 (by simp) (by simp)
          replace I := I.keep0 k4
          replace hown := hown.kept k4.grownBy (by simp)
          replace k := k.trans k4
          clear k5 hc hb
          go_upto_region 24 with (fail)
          generalize w4.alloc (.cells #[.int .i64 (M.sg t).gen, .int .i64 (M.sg t).kind, .int .i64 (M.sg t).n, .int .i64 (M.sg t).c0, .int .i64 (M.sg t).c1, .int .i64 (M.sg t).c2, .int .i64 (M.sg t).c3] 37) = w5 at m I hown k ⊢
          clear k4
          obtain ⟨b', off', e', hb', hc'⟩ := I.2 i hil
          injection e' with e'
          injection e' with e1 e2 _
          subst e1 e2
          rw [getD_cast, ← Ht.out] at hc'
          obtain ⟨c, hrun, hat, _⟩ := hown.lookup_int law3 Try.underlying49 Try.underlying3 (zero3 _) Hkey.out
          rw [Hnot.out] at hat
          obtain rfl : c = 0 := by injection hat with hat; injection hat with _ hat; exact hat.symm
          have Hown := Lib.hid hown
          have HI := Lib.hid I
          clear hat hown I
          have hb6 : ¬ b = mb := by have := HAb.out b off rfl (by omega); omega
          go_wp2_with (at_mapUpdate; refine wpList_mapUpdate_own _ rfl (.tmp 127) (.tmp 131) (.tmp 133) 49 rfl 3 3 law3 Try.underlying49 _ mb i _ rfl Hown.out (by unfold maxLen; omega) _ _ _ rfl rfl Hkey.out _ [] (plainElem_int Try.underlying3 (WalkArith.wf_i64 (by omega))) ?_; intro w6 hown6 hgrow6; have k6 := Keep.of_grown hgrow6; have hc6 := (k6.cell (p := ⟨b, off + i, none⟩) hb' (by simpa using hb6)).trans hc'; obtain ⟨c6, hrun6, hat6, _⟩ := hown6.lookup_int law3 Try.underlying49 Try.underlying3 (zero3 _) Hkey.out; rw [Hput.out] at hat6; obtain rfl : c6 = 1 := (by injection hat6 with hat6; injection hat6 with _ hat6; exact hat6.symm); have Hown6 := Lib.hid hown6; clear hown6 hat6 hgrow6)
          have I6 := HI.out.keep k6 (fun b off e => by
            injection e with e
            injection e with e1 _ _
            subst e1
            simpa using hb6)
          have m6 := m.keep k6 (by simp; omega) (by simp; omega)
          have K6 := k.into k6 (fun b hb => by simp at hb; omega)
          go_roundw
          case rel => exact ⟨i + 1, by omega, by go_num, m6, I6, by rw [Hsucc.out]; exact Hown6.out, K6⟩
          case measure => simp [intOf]; omega
        · obtain rfl : i = L.length := by omega
          have Hown := Lib.hid hown
          clear hown
          go_wp2_with fail
          go_loopw [17, 18] (fun by' g' wr => ∃ q : Nat, q ≤ 5 ∧ g' = .int .i64 q ∧ by' = .int .i64 (byN M q M.lim) ∧ MemAt wr p g M ∧ Keep (fun _ => False) w wr) (fun _ g' _ => 5 - (intOf g').toNat)
          case atStart => exact ⟨0, by omega, rfl, rfl, m, k⟩
          case round =>
            obtain ⟨q, hq, rfl, rfl, m, k⟩ := hrel
            by_cases hq5 : q < 5
            · have hby : byN M (q + 1) M.lim = byN M q M.lim + (sel M [(q : Int)] M.lim).length := rfl
              have hb1 : byN M q M.lim ≤ 5120 := by have := byN_le M q hq M.lim l1024; omega
              have hb2 := sel_len M [(q : Int)] M.lim
              have Hby := Lib.hid hby
              clear hby
              go_wp2_with fail
              have kA : Keep (fun _ => False) wr (wr.alloc (.cells #[.int .i64 (q : Int)] 3)) := (Keep.refl _ _).alloc _
              refine (taken_any p g M ok _ 1 1 [(q : Int)] _ (m.keep kA (by simp) (by simp)) (IntsAt.one wr q) (by omega)).mono ?_
              rintro e w7 ⟨A7, c7, L7, rfl, _, hT7, m7, k7⟩
              have hl7 : L7.length ≤ 1024 := by have := hT7.len; omega
              have HT7 := Lib.hid hT7.len
              clear hT7
              go_wp2_with fail
              go_roundw
              case rel => exact ⟨q + 1, by omega, by go_num, by rw [Hby.out, ← HT7.out]; go_num, m7, (k.trans kA).trans k7⟩
              case measure => simp [intOf]; omega
            · obtain rfl : q = 5 := by omega
              have e5 : byN M 5 M.lim = L.length := by rw [byN_all M ok M.lim (Nat.le_refl _)]; exact HT.out.len.symm
              rw [e5]
              clear e5
              go_wp2_with fail
              go_loopw [19, 20] (fun tk q' wr => ∃ q : Nat, q ≤ M.lim ∧ q' = .int .i64 q ∧ tk = .int .i64 (sel M [] q).length ∧ MemAt wr p g M ∧ Keep (fun _ => False) w wr) (fun _ q' _ => M.lim - (intOf q').toNat)
              case atStart => exact ⟨0, by omega, rfl, rfl, m, k⟩
              case round =>
                obtain ⟨q, hq, rfl, rfl, m, k⟩ := hrel
                by_cases hql : q < M.lim
                · have hs := sel_nil_succ M [] q
                  have hb2 := sel_len M [] q
                  have Hs := Lib.hid hs
                  clear hs
                  by_cases ht : 0 < (M.sg q).taken
                  · have hsel : selB M [] q = true := selB_nil.2 ht
                    have Hsel := Lib.hid hsel
                    clear hsel
                    go_wp2_with fail
                    refine (seg_yes2 p g M q _ _ m l1024 rfl hql ht).mono ?_
                    rintro e w8 ⟨rfl, k8⟩
                    go_wp2_with fail
                    go_roundw
                    case rel => first | exact ⟨q + 1, by omega, by go_num, by rw [Hs.out, Hsel.out]; go_num, m.keep (k8.alloc _) (by simp) (by simp), (k.trans k8).alloc _⟩ | ((repeat apply Exists.intro); exact ⟨⟨q + 1, by omega, by go_num, by rw [Hs.out, Hsel.out]; go_num, m.keep (k8.alloc _) (by simp) (by simp), (k.trans k8).alloc _⟩, rfl⟩)
                    case measure => simp [intOf]; omega
                  · have hsel : ¬ selB M [] q = true := fun h => ht (selB_nil.1 h)
                    have hno : ¬ M.has (q : Int) := fun h => ht (by simpa using h.2.2)
                    have Hsel := Lib.hid hsel
                    have Hno := Lib.hid hno
                    have H0 := Lib.hid ok.t0
                    clear hsel hno ht
                    go_wp2_with fail
                    refine (seg_no2 p g M _ _ m l1024 H0.out Hno.out).mono ?_
                    rintro e w8 ⟨rfl, k8⟩
                    go_wp2_with fail
                    go_roundw
                    case rel => first | exact ⟨q + 1, by omega, by go_num, by rw [Hs.out, if_neg Hsel.out]; rfl, m.keep (k8.alloc _) (by simp) (by simp), (k.trans k8).alloc _⟩ | ((repeat apply Exists.intro); exact ⟨⟨q + 1, by omega, by go_num, by rw [Hs.out, if_neg Hsel.out]; rfl, m.keep (k8.alloc _) (by simp) (by simp), (k.trans k8).alloc _⟩, rfl⟩)
                    case measure => simp [intOf]; omega
                · obtain rfl : q = M.lim := by omega
                  have e5 : (sel M [] M.lim).length = L.length := HT.out.len.symm
                  rw [e5]
                  have hall := count_all M ok.t0 M.lim (Nat.le_refl _)
                  have hfr := ok.fr
                  have f0 := ok.f0
                  have f1 := ok.f1
                  have hfree : ((M.free + (L.length : Int)) == (M.lim : Int)) = true := by rw [beq_iff_eq]; omega
                  clear e5 hall hfr
                  go_wp2_with fail
                  refine (free_any p g M _ m).mono ?_
                  rintro e w8 ⟨rfl, rfl⟩
                  go_wp2_with fail
                  refine (limit_any p g M _ m).mono ?_
                  rintro e w8 ⟨rfl, rfl⟩
                  go_wp2_with fail
                  refine (awake7 _).mono ?_
                  rintro e w9 ⟨rfl, k9⟩
                  go_wp2_with fail
                  go_ret
                  exact ⟨rfl, k.trans k9⟩
end Go.Proofs.Ytgnpeciedefeiaa
