/-
  The document's Text.
-/
import Derived.Test.YtdfekphahdmffaaDoorRfParts
import Derived.Test.YtdfekphahdmffaaDoorRfSmall
import Derived.Test.YtdfekphahdmffaaDoorNuText
import Derived.Laws.IdiomStrings
namespace Go.Proofs.YtdfekphahdmffaaDoor
open Go.RowKit Go.Lib

/-- The digits so far, behind what is left. -/
def DSt (V m : Nat) (o : List UInt8) : Prop := (m = 0 ∧ decDigits V = o) ∨ (0 < m ∧ decDigits V = decDigits m ++ o)
theorem DSt.next {V m : Nat} {o : List UInt8} (h : DSt V m o) (hm : 0 < m) : DSt V (m / 10) (UInt8.ofNat (48 + m % 10) :: o) := by
  rcases h with ⟨h0, _⟩ | ⟨_, h⟩
  · omega
  · by_cases h10 : m < 10
    · refine .inl ⟨by omega, ?_⟩
      rw [h, dec_small h10, Nat.mod_eq_of_lt h10]
      rfl
    · refine .inr ⟨by omega, ?_⟩
      rw [h, dec_big h10, List.append_assoc]
      rfl
theorem DSt.le {V m : Nat} {o : List UInt8} (h : DSt V m o) : o.length ≤ (decDigits V).length := by
  rcases h with ⟨_, h⟩ | ⟨_, h⟩
  · rw [h]; exact Nat.le_refl _
  · rw [h, List.length_append]; omega
def sLen : Value → Nat
  | .slice _ n _ => n
  | _ => 0
theorem len_div10 {m : Nat} (h : 0 < m) : (bits2 (m / 10)).length < (bits2 m).length := by
  have h1 : (bits2 m).length = (bits2 (m / 2)).length + 1 := by unfold bits2; rw [digs_pos two2 h]; rfl
  have h2 := blen_mono (a := m / 10) (b := m / 2) (by omega)
  omega
theorem four_bits {v : Nat} (h : v < 10) : (bits2 v).getD 0 0 + 2 * (bits2 v).getD 1 0 + 4 * (bits2 v).getD 2 0 + 8 * (bits2 v).getD 3 0 = v := by
  rw [digs_getD, digs_getD, digs_getD, digs_getD]
  omega
theorem byte_nat {v : Nat} (h : v < 10) : (UInt8.ofNat (48 + v)).toNat = 48 + v := by
  simp only [UInt8.toNat_ofNat']
  omega
theorem cat_one (o : List UInt8) : (⟨#[45]⟩ : ByteArray) ++ ⟨o.toArray⟩ = ⟨(45 :: o).toArray⟩ := by
  apply ByteArray.ext
  simp [ByteArray.data_append]
structure RtSt (w : World) (V m : Nat) (o : List UInt8) (O : Option Addr) (no co : Nat) (B : Option Addr) (nb cb : Nat) (wr : World) : Prop where
  ow : OwnR 5 .u8 wr w.heap.size O no co (o.map UInt8.toNat)
  b : BitsAt wr B nb cb (bits2 m)
  t : DSt V m o
  K : Keep (fun _ => False) w wr
theorem RtSt.next {w wr w4 w6 : World} {V m : Nat} {o : List UInt8} {O O2 : Option Addr} {no co no2 co2 : Nat} {B Q : Option Addr} {nb cb nq cq : Nat} (h : RtSt w V m o O no co B nb cb wr) (hm : 0 < m) (k4 : Keep (fun _ => False) wr w4) (k6 : Keep (fun _ => False) w4 w6)
    (q : OwnR 5 .u8 w4 w4.heap.size Q nq cq (bits2 (m / 10)) ∨ BitsAt w4 Q nq cq (bits2 (m / 10))) (hq : nq ≤ 10000000) (oo : OwnR 5 .u8 w6 w4.heap.size O2 no2 co2 ((48 + m % 10) :: o.map UInt8.toNat)) : RtSt w V (m / 10) (UInt8.ofNat (48 + m % 10) :: o) O2 no2 co2 Q nq cq w6 := by
  refine ⟨?_, ?_, h.t.next hm, h.K.trans (k4.trans k6)⟩
  · rw [List.map_cons, byte_nat (Nat.mod_lt _ (by omega))]
    exact oo.mono (Nat.le_trans h.K.size k4.size)
  · rcases q with q | q
    · exact (q.toBits (digs_low two2 _) hq).keep0 k6
    · exact q.keep0 k6

set_option maxRecDepth 100000 in
set_option maxHeartbeats 8000000 in
theorem rtext_any (x : Int) (z : Bool) (A : Option Addr) (n c : Nat) (w : World) (hz : z = decide (x < 0)) (h : BitsAt w A n c (bits2 x.natAbs)) (hV : x.natAbs < BB ^ 60) (hm : n ≤ 10000) :
    Calls Tryd.prog 23 #[numArg z A n c] w (StrPost (itoa x) w) := by
  have K : Keep (fun _ => False) w (w.alloc (.cells #[.bool z, .slice A n c] 34)) := (Keep.refl _ _).alloc _
  have hb : (w.alloc (.cells #[.bool z, .slice A n c] 34)).heap[w.heap.size]? = some (.cells #[.bool z, .slice A n c] 34 (0, 0)) := heap_alloc_new w _
  have HL := Lib.hid (h.keep0 K)
  have HK := Lib.hid K
  have HDL := Lib.hid (dec_bound hV (by omega))
  by_cases h0 : n = 0
  · have hx : x = 0 := by
      have := h.len
      have h2 := digs_nil two2 (List.eq_nil_of_length_eq_zero (by rw [this]; exact h0) : bits2 x.natAbs = [])
      omega
    subst h0 hx
    clear hz h hb K hV
    go_enter Tryd.func23, Tryd.ntmps23
    go_wp2_with fail
    go_ret
    exact ⟨by rw [show itoa 0 = [48] from by unfold itoa; rw [if_neg (by omega)]; exact dec_small (by decide)]; rfl, HK.out⟩
  · have hn0 : 0 < n := by omega
    have hxp : 0 < x.natAbs := by
      rcases Nat.eq_zero_or_pos x.natAbs with e | e
      · have := h.len
        rw [e] at this
        unfold bits2 at this
        rw [digs_zero] at this
        simp at this
        omega
      · exact e
    have HZ := Lib.hid hz
    have HXP := Lib.hid hxp
    have HBX := Lib.hid hb
    obtain ⟨V, hVV⟩ : ∃ V, V = x.natAbs := ⟨_, rfl⟩
    rw [← hVV] at HL HDL
    have HVE := Lib.hid hVV
    have hne : ((n : Int) == 0) = false := by rw [beq_eq_false_iff_ne]; omega
    clear hz h hb K hV hxp hVV
    go_enter Tryd.func23, Tryd.ntmps23
    go_wp2_with fail
    have HI := Lib.hid (show RtSt w V V [] none 0 0 A n c (w.alloc (.cells #[.bool z, .slice A n c] 34)) from ⟨OwnR.nil _ _ _ _, HL.out, .inr ⟨by rw [HVE.out]; exact HXP.out, by simp⟩, HK.out⟩)
    have HBX2 := Lib.hid (fun (w' : World) (K' : Keep (fun _ => False) (w.alloc (.cells #[.bool z, .slice A n c] 34)) w') => (show w'.cell? ⟨w.heap.size, 0, none⟩ = some (.bool z) from by rw [cell_of_row w' _ _ _ _ _ (K'.heap HBX.out (by simp))]; rfl))
    clear hne
    generalize w.heap.size = B0 at HBX2 ⊢
    clear HBX
    generalize w.alloc (.cells #[.bool z, .slice A n c] 34) = w1 at HI HBX2 ⊢
    go_loopw [3, 4, 5, 6, 7] (fun ov bv _ _ _ wr => ∃ (m : Nat) (o : List UInt8) (O : Option Addr) (no co : Nat) (B : Option Addr) (nb cb : Nat), ov = .slice O no co ∧ bv = .slice B nb cb ∧ nb ≤ 10000 ∧ RtSt w V m o O no co B nb cb wr ∧ Keep (fun _ => False) w1 wr) (fun _ bv _ _ _ _ => sLen bv)
    case atStart => exact ⟨V, [], none, 0, 0, A, n, c, rfl, rfl, hm, HI.out, Keep.refl _ _⟩
    case round =>
      obtain ⟨m, o, O, no, co, B, nb, cb, rfl, rfl, hnb, st, kk⟩ := hrel
      have HS := Lib.hid st
      have HKK := Lib.hid kk
      have hol : no ≤ 288001 := by
        have h1 := st.t.le
        have h2 := st.ow.len
        rw [List.length_map] at h2
        have := HDL.out
        omega
      clear st kk
      by_cases hb0 : nb = 0
      · subst hb0
        have hm0 : m = 0 := digs_nil two2 (List.eq_nil_of_length_eq_zero (by rw [HS.out.b.len]) : bits2 m = [])
        have ht : decDigits V = o := by
          rcases HS.out.t with ⟨_, h⟩ | ⟨h, _⟩
          · exact h
          · omega
        have hnol : no = o.length := by have := HS.out.ow.len; rw [List.length_map] at this; exact this.symm
        have hop : 0 < no := by rw [hnol, ← ht]; exact dec_pos V
        obtain ⟨g, cg, eg, _, _⟩ := World.ownsRow.form HS.out.ow hop
        injection eg with eg _ ec
        subst eg ec
        have hcv := run_convert_bytes_back (P := Tryd.prog) wr 32 9 5 ⟨g, 0, none⟩ co o Tryd.underlying32 Tryd.underlying5 Tryd.underlying9 (fun j hj => HS.out.ow.row.news j (.int .u8 (o[j].toNat : Int)) (by simp [List.getElem?_eq_getElem hj]))
        rw [← hnol] at hcv
        have HT := Lib.hid ht
        have c0 := HBX2.out _ HKK.out
        have HK9 := Lib.hid HS.out.K
        have hol3 : ¬ (9223372036854775807 < 1 + o.length) := by omega
        clear ht hm0 hnol hop
        cases z with
        | false =>
          have HIT := Lib.hid (show itoa x = o from by
            unfold itoa
            have := HZ.out
            simp at this
            rw [if_neg (by omega), ← HT.out, HVE.out]
            congr 1
            omega)
          go_wp2_with fail
          go_ret
          exact ⟨by rw [HIT.out]; rfl, HK9.out⟩
        | true =>
          have HIT := Lib.hid (show itoa x = 45 :: o from by
            unfold itoa
            have := HZ.out
            simp at this
            rw [if_pos (by omega), ← HT.out, HVE.out])
          go_wp2_with fail
          go_ret
          exact ⟨by rw [HIT.out, ← cat_one]; rfl, HK9.out⟩
      · have hbp : (0 : Int) < (nb : Int) := by omega
        have hmp : 0 < m := by
          rcases Nat.eq_zero_or_pos m with e | e
          · have := HS.out.b.len
            rw [e] at this
            unfold bits2 at this
            rw [digs_zero] at this
            simp at this
            omega
          · exact e
        have HMP := Lib.hid hmp
        have hld := len_div10 hmp
        rw [HS.out.b.len] at hld
        have HLD := Lib.hid hld
        clear hmp hld hb0
        go_wp2_with fail
        refine (small_any 10 wr (by omega)).mono ?_
        rintro e w2 ⟨T, nt, ct, rfl, ot, k2⟩
        have hnt : nt ≤ 1000000 := by
          rw [← ot.len]
          exact Nat.le_trans ((digs_len_le two2 10 4).2 (by decide)) (by omega)
        have HPA := Lib.hid (parts_any m 10 B nb cb T nt ct w2 (HS.out.b.keep0 k2) (ot.toBits (digs_low two2 _) (by omega)) (by omega) (by omega) hnt)
        have HK2 := Lib.hid k2
        clear ot k2
        try dsimp only
        go_wp2_with fail
        refine HPA.out.mono ?_
        rintro e w4 ⟨Q, nq, cq, R, nr, cr, rfl, oq, orr, k4⟩
        have hnq : nq < nb := by rw [← oq.len]; exact HLD.out
        have HRB := Lib.hid (orr.toBits (digs_low two2 _) (by rw [← orr.len]; exact Nat.le_trans ((digs_len_le two2 _ 4).2 (by have := Nat.mod_lt m (show 0 < 10 by omega); omega)) (by omega)))
        have HQB := Lib.hid (oq.toBits (digs_low two2 _) (by omega))
        have HK4 := Lib.hid (HK2.out.trans k4)
        have hfb := four_bits (Nat.mod_lt m (show 0 < 10 by omega))
        have l0 := low2_cast (digs_low two2 (m % 10)) 0
        have l1 := low2_cast (digs_low two2 (m % 10)) 1
        have l2 := low2_cast (digs_low two2 (m % 10)) 2
        have l3 := low2_cast (digs_low two2 (m % 10)) 3
        have B0 := Lib.hid (show Calls Tryd.prog 61 #[.slice R nr cr, .int .i64 0] w4 _ from bit_any R nr cr (bits2 (m % 10)) 0 w4 HRB.out)
        have B1 := Lib.hid (show Calls Tryd.prog 61 #[.slice R nr cr, .int .i64 1] w4 _ from bit_any R nr cr (bits2 (m % 10)) 1 w4 HRB.out)
        have B2 := Lib.hid (show Calls Tryd.prog 61 #[.slice R nr cr, .int .i64 2] w4 _ from bit_any R nr cr (bits2 (m % 10)) 2 w4 HRB.out)
        have B3 := Lib.hid (show Calls Tryd.prog 61 #[.slice R nr cr, .int .i64 3] w4 _ from bit_any R nr cr (bits2 (m % 10)) 3 w4 HRB.out)
        obtain ⟨x0, hx0⟩ : ∃ y, y = (bits2 (m % 10)).getD 0 0 := ⟨_, rfl⟩
        obtain ⟨x1, hx1⟩ : ∃ y, y = (bits2 (m % 10)).getD 1 0 := ⟨_, rfl⟩
        obtain ⟨x2, hx2⟩ : ∃ y, y = (bits2 (m % 10)).getD 2 0 := ⟨_, rfl⟩
        obtain ⟨x3, hx3⟩ : ∃ y, y = (bits2 (m % 10)).getD 3 0 := ⟨_, rfl⟩
        unfold bits2 at hx0 hx1 hx2 hx3 hfb B0 B1 B2 B3
        rw [← hx0] at hfb l0 B0
        rw [← hx1] at hfb l1 B1
        rw [← hx2] at hfb l2 B2
        rw [← hx3] at hfb l3 B3
        obtain ⟨dg, hdg⟩ : ∃ d, d = 48 + m % 10 := ⟨_, rfl⟩
        have hdv : (48 : Int) + ((x0 : Int) + 2 * (x1 : Int) + 4 * (x2 : Int) + 8 * (x3 : Int)) = (dg : Int) := by omega
        have hdl : dg ≤ 57 := by omega
        have HDG := Lib.hid hdg
        have KA : Keep (fun _ => False) w4 (w4.alloc (.cells #[.int .u8 (dg : Int)] 5)) := (Keep.refl _ _).alloc _
        have HKA := Lib.hid KA
        have HONE := Lib.hid (one_own w4 (dg : Int))
        have HRO := Lib.hid (HS.out.ow.keep0 (HK4.out.trans KA))
        clear hx0 hx1 hx2 hx3 hfb hdg oq orr k4 HPA KA
        try dsimp only
        go_wp2_with fail
        refine B0.out.mono ?_
        rintro e w5 ⟨rfl, rfl⟩
        try dsimp only
        go_wp2_with fail
        refine B1.out.mono ?_
        rintro e w5 ⟨rfl, rfl⟩
        try dsimp only
        go_wp2_with fail
        refine B2.out.mono ?_
        rintro e w5 ⟨rfl, rfl⟩
        try dsimp only
        go_wp2_with fail
        refine B3.out.mono ?_
        rintro e w5 ⟨rfl, rfl⟩
        clear B0 B1 B2 B3
        rcases O with _ | ad
        · have hno : no = 0 := by
            rcases Nat.eq_zero_or_pos no with e | e
            · exact e
            · obtain ⟨_, _, e2, _⟩ := HRO.out.row.2 0 e
              cases e2
          have hoo : o = [] := by
            have := HRO.out.len
            rw [List.length_map] at this
            exact List.eq_nil_of_length_eq_zero (by omega)
          subst hno hoo
          have HN := Lib.hid (HS.out.next HMP.out HK4.out HKA.out (.inr HQB.out) (by omega) (show OwnR 5 .u8 _ w4.heap.size (some ⟨w4.heap.size, 0, none⟩) 1 1 ((48 + m % 10) :: []) from by rw [← HDG.out]; exact HONE.out))
          have HK9 := Lib.hid (HKK.out.trans (HK4.out.trans HKA.out))
          clear HONE HRO HQB HRB
          try dsimp only
          go_wp2_with fail
          go_roundw
          case rel => exact ⟨m / 10, _, _, _, _, _, _, _, rfl, rfl, by omega, HN.out, HK9.out⟩
          case measure => exact hnq
        · obtain ⟨i5, h5, hz0, hz1, hz2⟩ := info_parts info5
          have HRR := Lib.hid HRO.out.row
          have HRL := Lib.hid HRO.out.len
          obtain ⟨ol, hol2⟩ : ∃ l, l = o.map UInt8.toNat := ⟨_, rfl⟩
          rw [← hol2] at HRR HRL
          have HOL := Lib.hid hol2
          clear HRO hol2
          try dsimp only
          go_wp2_with (at_builtin; refine wpList_append_own _ rfl (.tmp 40) (.tmp 41) 32 rfl w4.heap.size 5 i5 (.int .u8 0) 1 1 Tryd.underlying32 h5 hz0 hz1 hz2 rfl (by decide) _ _ _ rfl HONE.out ad no co (ol.map fun x : Nat => Value.int .u8 (x : Int)) rfl (by rw [List.length_map, HRL.out, Nat.mul_one]) HRR.out.news ?a1 ?a2 ?a3 ?a4 ?_)
          case a1 =>
            intro u hu
            obtain ⟨y, _, rfl⟩ := List.mem_map.1 hu
            rfl
          case a2 => unfold maxLen; omega
          case a3 => omega
          case a4 => simp
          intro v' w6 hown hgrow _
          have hown2 : w6.ownsRow w4.heap.size 5 1 v' (1 + no) ((dg :: ol).map fun x : Nat => Value.int .u8 (x : Int)) := hown
          obtain ⟨R2, c2, rfl, o6⟩ := own_slice hown2
          have K6 := (HKA.out.into (Keep.of_grown hgrow) (fun i hi => Nat.le_of_eq (by simpa [Value.ownBlock] using hi.symm)))
          have HN := Lib.hid (HS.out.next HMP.out HK4.out K6 (.inr HQB.out) (by omega) (by rw [← HDG.out, ← HOL.out]; exact o6))
          have HK9 := Lib.hid (HKK.out.trans (HK4.out.trans K6))
          clear hown hown2 hgrow o6 HONE HRR HRL HQB HRB K6
          go_wp2_with fail
          go_roundw
          case rel => exact ⟨m / 10, _, _, _, _, _, _, _, rfl, rfl, by omega, HN.out, HK9.out⟩
          case measure => exact hnq
end Go.Proofs.YtdfekphahdmffaaDoor
