/-
  The document's parts: quotient and rest of magnitudes.
-/
import Derived.Test.YtdfekphahdmffaaDoorRfAdd
namespace Go.Proofs.YtdfekphahdmffaaDoor
open Go.RowKit

theorem made_zero5 (n : Nat) : (madeCells #[Value.int .u8 0] n).toList = (List.replicate n 0).map fun x : Nat => Value.int .u8 (x : Int) := by
  refine List.ext_getElem? fun i => ?_
  by_cases hi : i < n
  · simp [madeCells, hi, Nat.mod_one]
  · simp [madeCells, hi]
theorem make_own5 (w : World) (n : Nat) (hn : n ≤ 1000000) : OwnR 5 .u8 (w.alloc (.cells (madeCells #[Value.int .u8 0] n) 5)) w.heap.size (some ⟨w.heap.size, 0, none⟩) n n (List.replicate n 0) := by
  refine ⟨by simp, .inr ⟨w.heap.size, n, madeCells #[Value.int .u8 0] n, rfl, Nat.le_refl _, heap_alloc_new _ _, Nat.le_refl _, by unfold maxLen; omega, by simp [size_madeCells], ?_⟩⟩
  rw [made_zero5, List.take_of_length_le (by simp)]
theorem make_run5 (n : Nat) (hn : n ≤ 1000000) (W : World) : (Instr.makeSlice 32 (.int .i64 (n : Int)) (.int .i64 (n : Int))).run Tryd.prog W = .ok (.slice (some ⟨W.heap.size, 0, none⟩) n n) (W.alloc (.cells (madeCells #[Value.int .u8 0] n) 5)) := by
  obtain ⟨i0, hi, hz0, hz1, hz2⟩ := info_parts info5
  have := run_make (P := Tryd.prog) W 32 5 i0 _ Tryd.underlying32 hi hz0 .i64 .i64 (n : Int) (n : Int) (by omega) (by omega) (by rw [hz2]; omega) (by omega)
  rw [hz1] at this
  simpa [Value.cells] using this
/-- The quotient's bits down to the bit k; the rest so far. -/
structure PtSt (w : World) (a b B n k : Nat) (qs : List Nat) (R : Option Addr) (nr c : Nat) (wr : World) : Prop where
  q : OwnR 5 .u8 wr B (some ⟨B, 0, none⟩) n n qs
  s : QuoSt a b k qs
  r : OwnR 5 .u8 wr (B + 1) R nr c (bits2 (a / 2 ^ k % b))
  K : Keep (fun _ => False) w wr
  lt : B < wr.heap.size
/-- A bit more of the rest. -/
structure PtMid (w : World) (a b B n k D : Nat) (qs : List Nat) (R : Option Addr) (nr c : Nat) (wr : World) : Prop where
  q : OwnR 5 .u8 wr B (some ⟨B, 0, none⟩) n n qs
  s : QuoSt a b (k + 1) qs
  r : OwnR 5 .u8 wr (B + 1) R nr c (bits2 D)
  K : Keep (fun _ => False) w wr
  lt : B < wr.heap.size
  D : D = (bits2 a).getD k 0 + 2 * (a / 2 ^ (k + 1) % b)
theorem low_cons {x m : Nat} (hx : x ≤ 1) : Low 2 (x :: bits2 m) := by
  intro y hy
  rcases List.mem_cons.1 hy with rfl | hy
  · omega
  · exact digs_low two2 m y hy
theorem blen_cons {x m : Nat} (_hx : x ≤ 1) : blen (x :: bits2 m) = (bits2 (x + 2 * m)).length := by
  unfold blen
  rw [cons_bits]
theorem PtSt.app {w wr w6 : World} {a b B n k x D nr c n2 c2 : Nat} {qs : List Nat} {R R2 : Option Addr} (h : PtSt w a b B n (k + 1) qs R nr c wr) (hx : x = (bits2 a).getD k 0) (hD : D = x + 2 * (a / 2 ^ (k + 1) % b)) (K6 : Keep (fun _ => False) wr w6) (o : OwnR 5 .u8 w6 wr.heap.size R2 n2 c2 (x :: bits2 (a / 2 ^ (k + 1) % b))) (hx1 : x ≤ 1) : PtMid w a b B n k D qs R2 (blen (x :: bits2 (a / 2 ^ (k + 1) % b))) c2 w6 := by
  have hle := blen_le (low_cons (m := a / 2 ^ (k + 1) % b) hx1)
  rw [o.len] at hle
  have ho := o.take hle
  rw [btake (low_cons hx1), cons_bits, ← hD] at ho
  exact ⟨h.q.keep0 K6, h.s, ho.mono (by have := h.lt; omega), h.K.trans K6, Nat.lt_of_lt_of_le h.lt K6.size, by rw [hD, hx]⟩
theorem PtMid.dv {w wr : World} {a b B n k D nr c : Nat} {qs : List Nat} {R : Option Addr} (h : PtMid w a b B n k D qs R nr c wr) (hb : 0 < b) : (D < b → a / 2 ^ k / b = 2 * (a / 2 ^ (k + 1) / b) ∧ a / 2 ^ k % b = D) ∧ (¬ D < b → a / 2 ^ k / b = 2 * (a / 2 ^ (k + 1) / b) + 1 ∧ a / 2 ^ k % b = D - b) := by
  have h1 := low2_cast (digs_low two2 a) k
  have h2 := div_two (a / 2 ^ (k + 1)) b ((bits2 a).getD k 0) hb (by unfold bits2; omega)
  rw [← shift_step a k, ← h.D] at h2
  exact h2
theorem PtMid.small {w wr : World} {a b B n k D nr c : Nat} {qs : List Nat} {R : Option Addr} (h : PtMid w a b B n k D qs R nr c wr) (hb : 0 < b) (hlt : D < b) : PtSt w a b B n k qs R nr c wr := by
  obtain ⟨h1, h2⟩ := (h.dv hb).1 hlt
  exact ⟨h.q, h.s.zero h1, by rw [h2]; exact h.r, h.K, h.lt⟩
theorem PtMid.great {w wr w8 : World} {a b B n k D nr c n3 c3 : Nat} {qs : List Nat} {R R3 : Option Addr} (h : PtMid w a b B n k D qs R nr c wr) (hb : 0 < b) (hge : ¬ D < b) (hk : k < n) (hw : w.heap.size ≤ B) (k8 : Keep (fun _ => False) wr w8) (o : OwnR 5 .u8 w8 wr.heap.size R3 n3 c3 (bits2 (D - b))) :
    PtSt w a b B n k (qs.set k 1) R3 n3 c3 (w8.setCell ⟨B, k, none⟩ (.int .u8 1)) := by
  obtain ⟨h1, h2⟩ := (h.dv hb).2 hge
  have hq := h.q.keep0 k8
  have hset := hq.set hk 1
  have KS : Keep (fun b => b = B) w8 (w8.setCell ⟨B, k, none⟩ (.int .u8 1)) := setCell_keep (S := fun b => b = B) rfl _ _
  refine ⟨hset, h.s.one (by rw [h.q.len]; exact hk) h1, ?_, (h.K.trans k8).into KS (fun i hi => by rw [hi]; exact hw), Nat.lt_of_lt_of_le (Nat.lt_of_lt_of_le h.lt k8.size) KS.size⟩
  rw [h2]
  have o2 := (o.mono (base' := B + 1) (by have := h.lt; omega))
  exact o2.keep KS (fun b' off e hb' => by have := (o2.fresh b' off e).1; omega)
theorem PtMid.cell {w wr w8 : World} {a b B n k D nr c : Nat} {qs : List Nat} {R : Option Addr} (h : PtMid w a b B n k D qs R nr c wr) (hk : k < n) (k8 : Keep (fun _ => False) wr w8) : (∃ y : Nat, w8.cell? ⟨B, k, none⟩ = some (.int .u8 (y : Int))) ∧ w8.frozen? ⟨B, k, none⟩ = false := by
  have hq := h.q.keep0 k8
  obtain ⟨b', off, e', _, hc⟩ := hq.row.2 k hk
  injection e' with e'
  injection e' with e1 e2 _
  subst e1 e2
  rw [Nat.zero_add] at hc
  exact ⟨⟨_, hc⟩, hq.frozen _ 0 rfl k⟩

set_option maxRecDepth 100000 in
set_option maxHeartbeats 8000000 in
theorem parts_any (a b : Nat) (A : Option Addr) (n c : Nat) (A' : Option Addr) (n' c' : Nat) (w : World) (h : BitsAt w A n c (bits2 a)) (h' : BitsAt w A' n' c' (bits2 b)) (hb : 0 < b) (hm : n ≤ 1000000) (hm' : n' ≤ 1000000) :
    Calls Tryd.prog 59 #[.slice A n c, .slice A' n' c'] w fun e w' => ∃ (Q : Option Addr) (nq cq : Nat) (R : Option Addr) (nr cr : Nat), e = .returned (.tuple #[.slice Q nq cq, .slice R nr cr]) ∧ OwnR 5 .u8 w' w.heap.size Q nq cq (bits2 (a / b)) ∧ OwnR 5 .u8 w' w.heap.size R nr cr (bits2 (a % b)) ∧ Keep (fun _ => False) w w' := by
  have hmk := fun W : World => make_run5 n hm W
  have own := make_own5 w n hm
  have K : Keep (fun _ => False) w (w.alloc (.cells (madeCells #[Value.int .u8 0] n) 5)) := (Keep.refl _ _).alloc _
  have HL := Lib.hid h
  have HL' := Lib.hid h'
  have HBB := Lib.hid hb
  have HST := Lib.hid (QuoSt.start a b n (bits_lt h))
  have HA0 := Lib.hid (show a / 2 ^ n % b = 0 from by rw [Nat.div_eq_of_lt (bits_lt h), Nat.zero_mod])
  have HLT := Lib.hid (show w.heap.size < (w.alloc (.cells (madeCells #[Value.int .u8 0] n) 5)).heap.size from by simp)
  clear h h' hb
  go_enter Tryd.func59, Tryd.ntmps59
  go_wp2_with fail
  clear hmk
  generalize hB : w.heap.size = B at own HLT ⊢
  have HB := Lib.hid (Nat.le_of_eq hB)
  clear hB
  generalize w.alloc (.cells (madeCells #[Value.int .u8 0] n) 5) = w1 at own K HLT ⊢
  have HI := Lib.hid (show PtSt w a b B n n (List.replicate n 0) none 0 0 w1 from ⟨own, HST.out, by rw [HA0.out]; unfold bits2; rw [digs_zero]; exact OwnR.nil _ _ _ _, K, HLT.out⟩)
  clear own K
  go_loopw [7, 8] (fun rv iv wr => ∃ (k : Nat) (qs : List Nat) (R : Option Addr) (nr cr : Nat), k ≤ n ∧ iv = .int .i64 ((k : Int) - 1) ∧ rv = .slice R nr cr ∧ PtSt w a b B n k qs R nr cr wr) (fun _ iv _ => (intOf iv + 1).toNat)
  case atStart => exact ⟨n, _, none, 0, 0, Nat.le_refl _, rfl, rfl, HI.out⟩
  case round =>
    obtain ⟨k, qs, R, nr, cr, hk, rfl, rfl, st⟩ := hrel
    have HS := Lib.hid st
    have HKK := Lib.hid st.K
    clear st
    by_cases h0 : k = 0
    · subst h0
      have hq := HS.out.q
      have low := HS.out.s.low
      have hv := HS.out.s.done
      have hle := blen_le low
      rw [hq.len] at hle
      have ho := hq.take hle
      rw [btake low, hv] at ho
      have hr := HS.out.r
      rw [Nat.pow_zero, Nat.div_one] at hr
      have HO := Lib.hid (And.intro (ho.mono HB.out) (hr.mono (base' := w.heap.size) (by have := HB.out; omega)))
      have HBT := Lib.hid (hq.toBits low (by omega))
      have HK := Lib.hid HS.out.K
      clear hq ho hr hv hle low
      go_wp2_with fail
      refine (cut_any _ n n qs _ HBT.out).mono ?_
      rintro e w2 ⟨rfl, rfl⟩
      try dsimp only
      go_wp2_with fail
      exact bodyPost_ret (v := .tuple #[.slice (some ⟨B, 0, none⟩) (blen qs) n, .slice R nr cr]) (by simp [results, Tryd.results59, go_sem]) rfl ⟨_, _, _, _, _, _, rfl, HO.out.1, HO.out.2, HK.out⟩
    · obtain ⟨m, rfl⟩ : ∃ m, k = m + 1 := ⟨k - 1, by omega⟩
      obtain ⟨b1, o1, rfl, hb1, q1⟩ := (HL.out.row.keep0 HKK.out).2 m (by omega)
      have hx := low2_cast HL.out.low m
      obtain ⟨x, hxx⟩ : ∃ x, x = (bits2 a).getD m 0 := ⟨_, rfl⟩
      rw [← hxx] at q1 hx
      have HX := Lib.hid hxx
      have em : ((m + 1 : Nat) : Int) - 1 = (m : Int) := by omega
      rw [em]
      have i0 : (0 : Int) ≤ (m : Int) := by omega
      have i1 : (m : Int) < (n : Int) := by omega
      have hrl := HS.out.r.len
      have hnr : nr ≤ n' := by
        rw [← hrl, ← HL'.out.len]
        exact blen_mono (Nat.le_of_lt (Nat.mod_lt _ HBB.out))
      obtain ⟨r0, hr0⟩ : ∃ r, r = a / 2 ^ (m + 1) % b := ⟨_, rfl⟩
      obtain ⟨D, hD⟩ : ∃ D, D = x + 2 * r0 := ⟨_, rfl⟩
      have HR0 := Lib.hid (And.intro hr0 hD)
      have hx1 : x ≤ 1 := by omega
      have HX1 := Lib.hid hx1
      have KA : Keep (fun _ => False) wr (wr.alloc (.cells #[.int .u8 (x : Int)] 5)) := (Keep.refl _ _).alloc _
      have HKA := Lib.hid KA
      have HONE := Lib.hid (one_own wr (x : Int))
      have HRO := Lib.hid (HS.out.r.keep0 KA)
      have hbl : blen (x :: bits2 r0) ≤ 1 + nr := by
        have := blen_le (low_cons (m := r0) hx1)
        rw [hr0] at this ⊢
        simp only [List.length_cons] at this
        omega
      obtain ⟨bl, hbl2⟩ : ∃ L, L = blen (x :: bits2 r0) := ⟨_, rfl⟩
      rw [← hbl2] at hbl
      have HBL := Lib.hid hbl2
      clear hxx hx em h0 KA hrl hr0 hD hbl2 hx1
      rcases R with _ | ad
      · have hnr0 : nr = 0 := by
          rcases Nat.eq_zero_or_pos nr with e | e
          · exact e
          · obtain ⟨_, _, e2, _⟩ := HRO.out.row.2 0 e
            cases e2
        have hr00 : bits2 r0 = [] := by
          have := HRO.out.len
          rw [← HR0.out.1] at this
          exact List.eq_nil_of_length_eq_zero (by omega)
        subst hnr0
        have HO6 := Lib.hid (show OwnR 5 .u8 (wr.alloc (.cells #[.int .u8 (x : Int)] 5)) wr.heap.size (some ⟨wr.heap.size, 0, none⟩) 1 1 (x :: bits2 r0) from by rw [hr00]; exact HONE.out)
        have HK6 := HKA
        clear HONE HRO hr00
        have HM := Lib.hid (HS.out.app (D := D) (R2 := some ⟨wr.heap.size, 0, none⟩) (n2 := 1) (c2 := 1) HX.out (by rw [← HR0.out.1]; exact HR0.out.2) HK6.out (by rw [← HR0.out.1]; exact HO6.out) HX1.out)
        rw [← HR0.out.1, ← HBL.out] at HM
        have HCB := Lib.hid (HO6.out.toBits (low_cons HX1.out) (by omega))
        have HLS := Lib.hid (rless_any D b (some ⟨wr.heap.size, 0, none⟩) bl 1 A' n' c' (wr.alloc (.cells #[.int .u8 (x : Int)] 5)) (HM.out.r.toBits (digs_low two2 _) (by omega)) (HL'.out.keep0 (HKK.out.trans HK6.out)))
        go_wp2_with fail
        refine (cut_any _ _ _ _ _ HCB.out).mono ?_
        rintro e w7 ⟨rfl, rfl⟩
        rw [← HBL.out]
        try dsimp only
        go_wp2_with fail
        refine (HLS.out).mono ?_
        rintro e w7 ⟨rfl, k7⟩
        by_cases hlt : D < b
        · rw [decide_eq_true hlt]
          have HN := Lib.hid (HM.out.small HBB.out hlt)
          have HN2 := Lib.hid (show PtSt w a b B n m qs (some ⟨wr.heap.size, 0, none⟩) bl 1 w7 from ⟨HN.out.q.keep0 k7, HN.out.s, HN.out.r.keep0 k7, HN.out.K.trans k7, Nat.lt_of_lt_of_le HN.out.lt k7.size⟩)
          clear hlt HN HM HLS k7
          try dsimp only
          go_wp2_with fail
          go_roundw
          case rel => exact ⟨m, _, _, _, _, by omega, by go_num, rfl, HN2.out⟩
          case measure => simp [intOf]
        · rw [decide_eq_false hlt]
          have HMN := Lib.hid (rminus_any D b (some ⟨wr.heap.size, 0, none⟩) bl 1 A' n' c' w7 ((HM.out.r.keep0 k7).toBits (digs_low two2 _) (by omega)) (HL'.out.keep0 (HKK.out.trans (HK6.out.trans k7))) (by omega))
          have HGE := Lib.hid hlt
          have HK7 := Lib.hid k7
          clear hlt HLS k7
          try dsimp only
          go_wp2_with fail
          refine HMN.out.mono ?_
          rintro e w8 ⟨R3, n3, c3, rfl, o8, k8⟩
          obtain ⟨⟨y, hc8⟩, hf8⟩ := HM.out.cell (by omega) (HK7.out.trans k8)
          have HN := Lib.hid (HM.out.great HBB.out HGE.out (by omega) HB.out (HK7.out.trans k8) (o8.mono HK7.out.size))
          clear o8 k8 HMN
          try dsimp only
          go_wp2_with fail
          go_roundw
          case rel => exact ⟨m, _, _, _, _, by omega, by go_num, rfl, HN.out⟩
          case measure => simp [intOf]
      · obtain ⟨i5, h5, hz0, hz1, hz2⟩ := info_parts info5
        have HRR := Lib.hid HRO.out.row
        have HRL := Lib.hid HRO.out.len
        rw [← HR0.out.1] at HRR HRL
        clear HRO
        go_wp2_with (at_builtin; refine wpList_append_own _ rfl (.tmp 23) (.tmp 24) 32 rfl wr.heap.size 5 i5 (.int .u8 0) 1 1 Tryd.underlying32 h5 hz0 hz1 hz2 rfl (by decide) _ _ _ rfl HONE.out ad nr cr ((bits2 r0).map fun x : Nat => Value.int .u8 (x : Int)) rfl (by rw [List.length_map, HRL.out, Nat.mul_one]) HRR.out.news ?a1 ?a2 ?a3 ?a4 ?_)
        case a1 =>
          intro u hu
          obtain ⟨z, _, rfl⟩ := List.mem_map.1 hu
          rfl
        case a2 => unfold maxLen; omega
        case a3 => omega
        case a4 => simp
        intro v' w6 hown hgrow _
        have hown2 : w6.ownsRow wr.heap.size 5 1 v' (1 + nr) ((x :: bits2 r0).map fun x : Nat => Value.int .u8 (x : Int)) := hown
        obtain ⟨R2, c2, rfl, o6⟩ := own_slice hown2
        have HO6 := Lib.hid o6
        have HK6 := Lib.hid (HKA.out.into (Keep.of_grown hgrow) (fun i hi => Nat.le_of_eq (by simpa [Value.ownBlock] using hi.symm)))
        clear hown hown2 hgrow o6 HONE HRR HRL
        have HM := Lib.hid (HS.out.app (D := D) (R2 := R2) (n2 := 1 + nr) (c2 := c2) HX.out (by rw [← HR0.out.1]; exact HR0.out.2) HK6.out (by rw [← HR0.out.1]; exact HO6.out) HX1.out)
        rw [← HR0.out.1, ← HBL.out] at HM
        have HCB := Lib.hid (HO6.out.toBits (low_cons HX1.out) (by omega))
        have HLS := Lib.hid (rless_any D b R2 bl c2 A' n' c' w6 (HM.out.r.toBits (digs_low two2 _) (by omega)) (HL'.out.keep0 (HKK.out.trans HK6.out)))
        go_wp2_with fail
        refine (cut_any _ _ _ _ _ HCB.out).mono ?_
        rintro e w7 ⟨rfl, rfl⟩
        rw [← HBL.out]
        try dsimp only
        go_wp2_with fail
        refine (HLS.out).mono ?_
        rintro e w7 ⟨rfl, k7⟩
        by_cases hlt : D < b
        · rw [decide_eq_true hlt]
          have HN := Lib.hid (HM.out.small HBB.out hlt)
          have HN2 := Lib.hid (show PtSt w a b B n m qs R2 bl c2 w7 from ⟨HN.out.q.keep0 k7, HN.out.s, HN.out.r.keep0 k7, HN.out.K.trans k7, Nat.lt_of_lt_of_le HN.out.lt k7.size⟩)
          clear hlt HN HM HLS k7
          try dsimp only
          go_wp2_with fail
          go_roundw
          case rel => exact ⟨m, _, _, _, _, by omega, by go_num, rfl, HN2.out⟩
          case measure => simp [intOf]
        · rw [decide_eq_false hlt]
          have HMN := Lib.hid (rminus_any D b R2 bl c2 A' n' c' w7 ((HM.out.r.keep0 k7).toBits (digs_low two2 _) (by omega)) (HL'.out.keep0 (HKK.out.trans (HK6.out.trans k7))) (by omega))
          have HGE := Lib.hid hlt
          have HK7 := Lib.hid k7
          clear hlt HLS k7
          try dsimp only
          go_wp2_with fail
          refine HMN.out.mono ?_
          rintro e w8 ⟨R3, n3, c3, rfl, o8, k8⟩
          obtain ⟨⟨y, hc8⟩, hf8⟩ := HM.out.cell (by omega) (HK7.out.trans k8)
          have HN := Lib.hid (HM.out.great HBB.out HGE.out (by omega) HB.out (HK7.out.trans k8) (o8.mono HK7.out.size))
          clear o8 k8 HMN
          try dsimp only
          go_wp2_with fail
          go_roundw
          case rel => exact ⟨m, _, _, _, _, by omega, by go_num, rfl, HN.out⟩
          case measure => simp [intOf]
end Go.Proofs.YtdfekphahdmffaaDoor
