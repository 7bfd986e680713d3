/-
  The document's Mul.
-/
import Derived.Test.YtdfekphahdmffaaDoorRfPlus
namespace Go.Proofs.YtdfekphahdmffaaDoor
open Go.RowKit

/-- Two values' blocks, and the result's. -/
structure VBox3 (w w1 : World) (B : Nat) (u v x y : Value) : Prop where
  k : Keep (fun _ => False) w w1
  b1 : w1.heap[B]? = some (.cells #[u, v] 34 (0, 0))
  b2 : w1.heap[B + 1]? = some (.cells #[x, y] 34 (0, 0))
  b3 : w1.heap[B + 1 + 1]? = some (.cells #[.bool false, .slice none 0 0] 34 (0, 0))
  s : w.heap.size = B
theorem vbox3 (w : World) (u v x y : Value) : VBox3 w (((w.alloc (.cells #[u, v] 34)).alloc (.cells #[x, y] 34)).alloc (.cells #[.bool false, .slice none 0 0] 34)) w.heap.size u v x y := by
  have h3 := heap_alloc_new ((w.alloc (.cells #[u, v] 34)).alloc (.cells #[x, y] 34)) (.cells #[.bool false, .slice none 0 0] 34)
  rw [World.size_alloc, World.size_alloc] at h3
  have h2 := heap_alloc_new (w.alloc (.cells #[u, v] 34)) (.cells #[x, y] 34)
  rw [World.size_alloc] at h2
  refine ⟨(((Keep.refl _ _).alloc _).alloc _).alloc _, ?_, ?_, h3, rfl⟩
  · rw [Below.heap_alloc _ _ _ (by simp; omega), Below.heap_alloc _ _ _ (by simp)]; exact heap_alloc_new w _
  · rw [Below.heap_alloc _ _ _ (by simp)]; exact h2
theorem VBox3.cells {w w1 w' : World} {B : Nat} {u v x y : Value} (h : VBox3 w w1 B u v x y) (K : Keep (fun _ => False) w1 w') : w'.cell? ⟨B, 0, none⟩ = some u ∧ w'.cell? ⟨B, 1, none⟩ = some v ∧ w'.cell? ⟨B + 1, 0, none⟩ = some x ∧ w'.cell? ⟨B + 1, 1, none⟩ = some y := by
  have g1 := K.heap h.b1 (by simp)
  have g2 := K.heap h.b2 (by simp)
  exact ⟨by rw [cell_of_row w' _ _ _ _ _ g1]; rfl, by rw [cell_of_row w' _ _ _ _ _ g1]; rfl, by rw [cell_of_row w' _ _ _ _ _ g2]; rfl, by rw [cell_of_row w' _ _ _ _ _ g2]; rfl⟩
theorem BitsAt.nil_of {w : World} {n c : Nat} {l : List Nat} (h : BitsAt w none n c l) : n = 0 ∧ l = [] := by
  have hn : n = 0 := by
    rcases Nat.eq_zero_or_pos n with e | e
    · exact e
    · obtain ⟨b, off, e, _⟩ := h.row.2 0 e
      cases e
  exact ⟨hn, List.eq_nil_of_length_eq_zero (by rw [h.len, hn])⟩
theorem one_own (w : World) (x : Int) : (w.alloc (.cells #[.int .u8 x] 5)).ownsRow w.heap.size 5 1 (.slice (some ⟨w.heap.size, 0, none⟩) 1 1) 1 [.int .u8 x] :=
  ⟨rfl, .inr ⟨w.heap.size, 1, #[.int .u8 x], rfl, Nat.le_refl _, heap_alloc_new _ _, Nat.le_refl _, by unfold maxLen; omega, rfl, rfl⟩⟩
theorem val_zeros_app (i : Nat) (l : List Nat) : val 2 (List.replicate i 0 ++ l) = 2 ^ i * val 2 l := by
  rw [val_append, List.length_replicate, val_zeros 2 (by intro x hx; exact (List.mem_replicate.1 hx).2), Nat.zero_add]
theorem own1 (w : World) : OwnR 5 .u8 (w.alloc (.cells #[.int .u8 0] 5)) w.heap.size (some ⟨w.heap.size, 0, none⟩) 1 1 [0] := one_own w 0
/-- Before the bit i of a product. -/
structure MuSt (w1 : World) (l l' : List Nat) (i : Nat) (O : Option Addr) (no co : Nat) (R : Option Addr) (nr cr : Nat) (wr : World) : Prop where
  o : OwnR 5 .u8 wr w1.heap.size O no co (bits2 (bval (l.take i) * bval l'))
  r : OwnR 5 .u8 wr w1.heap.size R nr cr (List.replicate i 0 ++ l')
  K : Keep (fun _ => False) w1 wr
namespace MuSt
variable {w1 wr w2 w5 w6 : World} {l l' : List Nat} {i no co nr cr : Nat} {O R : Option Addr}
theorem nr_eq (h : MuSt w1 l l' i O no co R nr cr wr) : nr = i + l'.length := by have := h.r.len; simp at this; omega
theorem no_le (h : MuSt w1 l l' i O no co R nr cr wr) (low : Low 2 l) (low' : Low 2 l') : no ≤ i + l'.length := by
  have := h.o.len
  rw [← this]
  refine (digs_len_le two2 _ _).2 ?_
  rw [Nat.pow_add]
  exact Nat.mul_lt_mul'' (val_take_lt (by omega) low i) (val_lt low')
theorem rlow (low' : Low 2 l') : Low 2 (List.replicate i 0 ++ l') := Low.append (by intro x hx; rw [(List.mem_replicate.1 hx).2]; omega) low'
/-- The row is longer by a nought in front; out is what it was, or has the row added. -/
theorem next (h : MuSt w1 l l' i O no co R nr cr wr) {O2 : Option Addr} {no2 co2 : Nat} (k2 : Keep (fun _ => False) wr w2) (o2 : OwnR 5 .u8 w2 w1.heap.size O2 no2 co2 (bits2 (bval (l.take (i + 1)) * bval l')))
    {v' : Value} (hown : w6.ownsRow w2.heap.size 5 1 v' (1 + nr) ([.int .u8 0] ++ ((List.replicate i 0 ++ l').map fun x : Nat => Value.int .u8 (x : Int)))) (hgrow : (w2.alloc (.cells #[.int .u8 0] 5)).grownBy w6 (Value.slice (some ⟨w2.heap.size, 0, none⟩) 1 1).ownBlock) :
    ∃ R2 cr2, v' = .slice R2 (1 + nr) cr2 ∧ MuSt w1 l l' (i + 1) O2 no2 co2 R2 (1 + nr) cr2 w6 := by
  have hown2 : w6.ownsRow w2.heap.size 5 1 v' (1 + nr) ((List.replicate (i + 1) 0 ++ l').map fun x : Nat => Value.int .u8 (x : Int)) := hown
  obtain ⟨R2, cr2, rfl, r6⟩ := own_slice hown2
  have hob : ∀ k, (Value.slice (some ⟨w2.heap.size, 0, none⟩) 1 1).ownBlock = some k → k = w2.heap.size := by
    intro k hk; simpa [Value.ownBlock] using hk.symm
  have kA : Keep (fun _ => False) w2 (w2.alloc (.cells #[.int .u8 0] 5)) := (Keep.refl _ _).alloc _
  have kG := Keep.of_grown hgrow
  have kW : Keep (fun _ => False) w2 w6 := kA.into kG (fun b hb => Nat.le_of_eq (hob b hb.symm).symm)
  exact ⟨R2, cr2, rfl, o2.keep0 kW, r6.mono (Nat.le_trans h.K.size k2.size), h.K.trans (k2.trans kW)⟩
/-- The same where the row is nil. -/
theorem next0 (h : MuSt w1 l l' i O no co none nr cr wr) {O2 : Option Addr} {no2 co2 : Nat} (k2 : Keep (fun _ => False) wr w2) (o2 : OwnR 5 .u8 w2 w1.heap.size O2 no2 co2 (bits2 (bval (l.take (i + 1)) * bval l'))) (hr : nr = 0) :
    MuSt w1 l l' (i + 1) O2 no2 co2 (some ⟨w2.heap.size, 0, none⟩) 1 1 (w2.alloc (.cells #[.int .u8 0] 5)) := by
  have hn := h.nr_eq
  obtain rfl : i = 0 := by omega
  obtain rfl : l' = [] := List.eq_nil_of_length_eq_zero (by omega)
  have kA : Keep (fun _ => False) w2 (w2.alloc (.cells #[.int .u8 0] 5)) := (Keep.refl _ _).alloc _
  exact ⟨o2.keep0 kA, OwnR.mono (own1 w2) (Nat.le_trans h.K.size k2.size), h.K.trans (k2.trans kA)⟩
end MuSt
theorem bit_take (l l' : List Nat) (i : Nat) (b : Nat) (hb : l.getD i 0 = b) : bval (l.take (i + 1)) * bval l' = bval (l.take i) * bval l' + b * (2 ^ i * bval l') := by
  rw [show bval (l.take (i + 1)) = _ from val_take_succ 2 l i, hb, Nat.add_mul, Nat.mul_comm (2 ^ i) b, Nat.mul_assoc]
theorem sgn_mul (x y : Int) : sgn (!(decide (x < 0) == decide (y < 0))) (x.natAbs * y.natAbs) = x * y := by
  have h : (x * y).natAbs = x.natAbs * y.natAbs := Int.natAbs_mul x y
  rw [← h]
  unfold sgn
  rcases Int.lt_trichotomy x 0 with hx | hx | hx <;> rcases Int.lt_trichotomy y 0 with hy | hy | hy
  all_goals first
    | (subst hx; simp)
    | (subst hy; simp)
    | skip
  · have := Int.mul_pos_of_neg_of_neg hx hy
    rw [decide_eq_true hx, decide_eq_true hy]; simp; omega
  · have := Int.mul_neg_of_neg_of_pos hx hy
    rw [decide_eq_true hx, decide_eq_false (by omega)]; simp; omega
  · have := Int.mul_neg_of_pos_of_neg hx hy
    rw [decide_eq_false (by omega), decide_eq_true hy]; simp; omega
  · have := Int.mul_pos hx hy
    rw [decide_eq_false (by omega), decide_eq_false (by omega)]; simp; omega
set_option maxRecDepth 100000 in
set_option maxHeartbeats 4000000 in
theorem rmul_any (x y : Int) (A : Option Addr) (n c : Nat) (A' : Option Addr) (n' c' : Nat) (w : World) (h : BitsAt w A n c (bits2 x.natAbs)) (h' : BitsAt w A' n' c' (bits2 y.natAbs)) (hm : n ≤ 100000) (hm' : n' ≤ 100000) :
    Calls Tryd.prog 37 #[numArg (decide (x < 0)) A n c, numArg (decide (y < 0)) A' n' c'] w (BitPost (x * y) w) := by
  obtain ⟨p, hp⟩ : ∃ b, b = decide (x < 0) := ⟨_, rfl⟩
  obtain ⟨q, hq⟩ : ∃ b, b = decide (y < 0) := ⟨_, rfl⟩
  rw [← hp, ← hq]
  have BX := vbox3 w (.bool p) (.slice A n c) (.bool q) (.slice A' n' c')
  obtain ⟨l, hl⟩ : ∃ l, l = bits2 x.natAbs := ⟨_, rfl⟩
  obtain ⟨l', hl'⟩ : ∃ l, l = bits2 y.natAbs := ⟨_, rfl⟩
  rw [← hl] at h
  rw [← hl'] at h'
  have HL := Lib.hid (h.keep0 BX.k)
  have HL' := Lib.hid (h'.keep0 BX.k)
  have HE := Lib.hid (And.intro (And.intro hp hq) (And.intro hl hl'))
  clear hp hq hl hl' h h'
  rcases A' with _ | ad0
  · obtain ⟨e1, e2⟩ := HL'.out.nil_of
    subst e1
    have HE2 := Lib.hid e2
    clear e2
    go_enter Tryd.func37, Tryd.ntmps37
    go_wp2_with fail
    generalize w.heap.size = B0 at BX ⊢
    generalize ((w.alloc (.cells #[.bool p, .slice A n c] 34)).alloc (.cells #[.bool q, .slice none 0 c'] 34)).alloc (.cells #[.bool false, .slice none 0 0] 34) = w1 at BX HL HL' ⊢
    have HBX := Lib.hid BX
    clear BX
    go_loopw [5, 6, 7] (fun ov rv iv wr => ∃ (i : Nat) (O : Option Addr) (no co : Nat) (R : Option Addr) (nr cr : Nat), i ≤ n ∧ iv = .int .i64 (i : Int) ∧ ov = .slice O no co ∧ rv = .slice R nr cr ∧ MuSt w1 l l' i O no co R nr cr wr) (fun _ _ iv _ => n - (intOf iv).toNat)
    case atStart => exact ⟨0, none, 0, 0, none, 0, 0, Nat.zero_le _, rfl, rfl, rfl, by rw [List.take_zero, show bval ([] : List Nat) = 0 from rfl, Nat.zero_mul]; unfold bits2; rw [digs_zero]; exact OwnR.nil _ _ _ _, by rw [HE2.out]; exact OwnR.nil _ _ _ _, Keep.refl _ _⟩
    case round =>
      obtain ⟨i, O, no, co, R, nr, cr, hi, rfl, rfl, rfl, st⟩ := hrel
      obtain ⟨c0, c1, c2, c3⟩ := HBX.out.cells st.K
      have HS := Lib.hid st
      clear st
      by_cases hin : i < n
      · have i0 : (0 : Int) ≤ (i : Int) := by omega
        have i1 : (i : Int) < (n : Int) := by omega
        obtain ⟨b, off, rfl, _, hcb⟩ := (HL.out.keep0 HS.out.K).row.2 i hin
        rcases low2_cast HL.out.low i with hbit | hbit
        · rw [hbit] at hcb
          have HO2 := Lib.hid (show OwnR 5 .u8 wr w1.heap.size O no co (bits2 (bval (l.take (i + 1)) * bval l')) from by rw [bit_take l l' i 0 hbit, Nat.zero_mul, Nat.add_zero]; exact HS.out.o)
          have HK2 := Lib.hid (Keep.refl (fun _ => False) wr)
          have HR2 := Lib.hid HS.out.r
          clear hbit
          rcases R with _ | ad
          · skip
            have hnr0 : nr = 0 := by
              rcases Nat.eq_zero_or_pos nr with e | e
              · exact e
              · obtain ⟨_, _, e2, _⟩ := HR2.out.row.2 0 e
                cases e2
            have HN := Lib.hid (HS.out.next0 HK2.out HO2.out hnr0)
            subst hnr0
            try dsimp only
            go_wp2_with fail
            go_roundw
            case rel => exact ⟨i + 1, _, _, _, _, _, _, by omega, by go_num, rfl, rfl, HN.out⟩
            case measure => simp [intOf]; omega
          · skip
            obtain ⟨i5, h5, hz0, hz1, hz2⟩ := info_parts info5
            have HONE := Lib.hid (one_own wr 0)
            have KA : Keep (fun _ => False) wr (wr.alloc (.cells #[.int .u8 0] 5)) := (Keep.refl _ _).alloc _
            have HRR := Lib.hid ((HR2.out.keep0 KA).row)
            have HRL := Lib.hid HR2.out.len
            have HNR := Lib.hid (And.intro HS.out.nr_eq HL'.out.len)
            clear KA
            obtain ⟨rl, hrl⟩ : ∃ x, x = List.replicate i 0 ++ l' := ⟨_, rfl⟩
            rw [← hrl] at HRR HRL
            have HRE := Lib.hid hrl
            clear hrl
            try dsimp only
            go_wp2_with (at_builtin; refine wpList_append_own _ rfl (.tmp 28) (.tmp 29) 32 rfl wr.heap.size 5 i5 (.int .u8 0) 1 1 Tryd.underlying32 h5 hz0 hz1 hz2 rfl (by decide) _ _ _ rfl HONE.out ad nr cr (rl.map fun x : Nat => Value.int .u8 (x : Int)) rfl (by rw [List.length_map, HRL.out, Nat.mul_one]) HRR.out.news ?a1 ?a2 ?a3 ?a4 ?_)
            case a1 =>
              intro u hu
              obtain ⟨z, _, rfl⟩ := List.mem_map.1 hu
              rfl
            case a2 => have := HNR.out; unfold maxLen; omega
            case a3 => have := HNR.out; omega
            case a4 => simp
            intro v' w6 hown hgrow _
            obtain ⟨R2, cr2, rfl, N⟩ := HS.out.next HK2.out HO2.out (by rw [← HRE.out]; exact hown) hgrow
            have HN := Lib.hid N
            clear N hown hgrow
            go_wp2_with fail
            go_roundw
            case rel => exact ⟨i + 1, _, _, _, _, _, _, by omega, by go_num, rfl, rfl, HN.out⟩
            case measure => simp [intOf]; omega
        · rw [hbit] at hcb
          have hno := HS.out.no_le HL.out.low HL'.out.low
          have hnr1 := HS.out.nr_eq
          have hll := HL'.out.len
          have HPL := Lib.hid (rplus_any O no co _ R nr cr _ wr (HS.out.o.toBits (digs_low two2 _) (by omega)) (HS.out.r.toBits (MuSt.rlow HL'.out.low) (by omega)) (by omega) (by omega))
          have HBIT := Lib.hid hbit
          clear hbit hno hnr1 hll
          go_wp2_with fail
          refine HPL.out.mono ?_
          rintro e w2 ⟨O2, no2, co2, rfl, o2, k2⟩
          have HO2 := Lib.hid (show OwnR 5 .u8 w2 w1.heap.size O2 no2 co2 (bits2 (bval (l.take (i + 1)) * bval l')) from by
            rw [bit_take l l' i 1 HBIT.out, Nat.one_mul]
            rw [show bval (bits2 (bval (l.take i) * bval l')) = bval (l.take i) * bval l' from val_digs two2 _, show bval (List.replicate i 0 ++ l') = 2 ^ i * bval l' from val_zeros_app i l'] at o2
            exact o2.mono HS.out.K.size)
          have HK2 := Lib.hid k2
          have HR2 := Lib.hid (HS.out.r.keep0 k2)
          clear o2 k2 HPL
          rcases R with _ | ad
          · skip
            have hnr0 : nr = 0 := by
              rcases Nat.eq_zero_or_pos nr with e | e
              · exact e
              · obtain ⟨_, _, e2, _⟩ := HR2.out.row.2 0 e
                cases e2
            have HN := Lib.hid (HS.out.next0 HK2.out HO2.out hnr0)
            subst hnr0
            try dsimp only
            go_wp2_with fail
            go_roundw
            case rel => exact ⟨i + 1, _, _, _, _, _, _, by omega, by go_num, rfl, rfl, HN.out⟩
            case measure => simp [intOf]; omega
          · skip
            obtain ⟨i5, h5, hz0, hz1, hz2⟩ := info_parts info5
            have HONE := Lib.hid (one_own w2 0)
            have KA : Keep (fun _ => False) w2 (w2.alloc (.cells #[.int .u8 0] 5)) := (Keep.refl _ _).alloc _
            have HRR := Lib.hid ((HR2.out.keep0 KA).row)
            have HRL := Lib.hid HR2.out.len
            have HNR := Lib.hid (And.intro HS.out.nr_eq HL'.out.len)
            clear KA
            obtain ⟨rl, hrl⟩ : ∃ x, x = List.replicate i 0 ++ l' := ⟨_, rfl⟩
            rw [← hrl] at HRR HRL
            have HRE := Lib.hid hrl
            clear hrl
            try dsimp only
            go_wp2_with (at_builtin; refine wpList_append_own _ rfl (.tmp 28) (.tmp 29) 32 rfl w2.heap.size 5 i5 (.int .u8 0) 1 1 Tryd.underlying32 h5 hz0 hz1 hz2 rfl (by decide) _ _ _ rfl HONE.out ad nr cr (rl.map fun x : Nat => Value.int .u8 (x : Int)) rfl (by rw [List.length_map, HRL.out, Nat.mul_one]) HRR.out.news ?a1 ?a2 ?a3 ?a4 ?_)
            case a1 =>
              intro u hu
              obtain ⟨z, _, rfl⟩ := List.mem_map.1 hu
              rfl
            case a2 => have := HNR.out; unfold maxLen; omega
            case a3 => have := HNR.out; omega
            case a4 => simp
            intro v' w6 hown hgrow _
            obtain ⟨R2, cr2, rfl, N⟩ := HS.out.next HK2.out HO2.out (by rw [← HRE.out]; exact hown) hgrow
            have HN := Lib.hid N
            clear N hown hgrow
            go_wp2_with fail
            go_roundw
            case rel => exact ⟨i + 1, _, _, _, _, _, _, by omega, by go_num, rfl, rfl, HN.out⟩
            case measure => simp [intOf]; omega
      · have hd : decide ((i : Int) < (n : Int)) = false := decide_eq_false (by omega)
        obtain rfl : i = n := by omega
        have hO := HS.out.o
        rw [List.take_of_length_le (by rw [HL.out.len]; omega)] at hO
        have hno := hO.len
        have hvv : bval (bits2 (bval l * bval l')) = x.natAbs * y.natAbs := by
          rw [show bval (bits2 (bval l * bval l')) = bval l * bval l' from val_digs two2 _, HE.out.2.1, HE.out.2.2, show bval (bits2 x.natAbs) = x.natAbs from val_digs two2 _, show bval (bits2 y.natAbs) = y.natAbs from val_digs two2 _]
        have hsg : sgn (!(p == q)) (bval (bits2 (bval l * bval l'))) = x * y := by rw [hvv, HE.out.1.1, HE.out.1.2]; exact sgn_mul x y
        have hnb := HS.out.no_le HL.out.low HL'.out.low
        have hll := HL'.out.len
        have HVA := Lib.hid (value_any w1.heap.size (!(p == q)) O no co _ wr hO (digs_low two2 _) (by omega))
        rw [hsg, hvv] at HVA
        have hx2 := HS.out.K.heap HBX.out.b3 (by simp)
        have HX2 := Lib.hid hx2
        have HLT := Lib.hid (heap_lt HBX.out.b3)
        obtain ⟨LL, hLL⟩ : ∃ L, L = bits2 (bval l * bval l') := ⟨_, rfl⟩
        rw [← hLL] at HVA
        clear hO hno hvv hsg hnb hll hx2 hLL
        go_wp2_with fail
        refine HVA.out.mono ?_
        rintro e w9 ⟨k9, rfl, o9⟩
        have hb9 := k9.heap HX2.out (by simp)
        have d0 : w9.cell? ⟨B0 + 1 + 1, 0, none⟩ = some (.bool false) := by rw [cell_of_row w9 _ _ _ _ _ hb9]; rfl
        have d1 : w9.cell? ⟨B0 + 1 + 1, 1, none⟩ = some (.slice none 0 0) := by rw [cell_of_row w9 _ _ _ _ _ hb9]; rfl
        have g0 : w9.frozen? ⟨B0 + 1 + 1, 0, none⟩ = false := by simp [World.frozen?, hb9]
        have g1 : w9.frozen? ⟨B0 + 1 + 1, 1, none⟩ = false := by simp [World.frozen?, hb9]
        obtain ⟨z, hz⟩ : ∃ z, z = decide (x * y < 0) := ⟨_, rfl⟩
        rw [← hz]
        have HZ := Lib.hid hz
        have HE2x := Lib.hid (two_cells hb9 (.bool z) (.slice O (blen LL) co))
        have HKK := Lib.hid (two_keep (HBX.out.k.trans (HS.out.K.trans k9)) (show w.heap.size ≤ B0 + 1 + 1 from by have := HBX.out.s; omega) (.bool z) (.slice O (blen LL) co))
        have HOO := Lib.hid ((two_own o9 HLT.out (.bool z) (.slice O (blen LL) co)).mono HBX.out.k.size)
        clear hz k9 o9 hb9
        try dsimp only
        go_wp2_with fail
        obtain ⟨e0, e1⟩ := HE2x.out
        refine bodyPost_ret (v := numArg z O (blen LL) co) (by simp [results, Tryd.results37, go_sem, e0, e1]) rfl ⟨HKK.out, O, blen LL, co, by rw [← HZ.out], ?_⟩
        rw [Int.natAbs_mul]
        exact HOO.out
  · obtain ⟨i5, h5, hz0, hz1, hz2⟩ := info_parts info5
    have HNIL := Lib.hid (World.ownsRow_nil (((w.alloc (.cells #[.bool p, .slice A n c] 34)).alloc (.cells #[.bool q, .slice (some ad0) n' c'] 34)).alloc (.cells #[.bool false, .slice none 0 0] 34)) (((w.alloc (.cells #[.bool p, .slice A n c] 34)).alloc (.cells #[.bool q, .slice (some ad0) n' c'] 34)).alloc (.cells #[.bool false, .slice none 0 0] 34)).heap.size 5 1)
    have HRR := Lib.hid HL'.out.row
    have HLL := Lib.hid HL'.out.len
    obtain ⟨c0, c1, c2, c3⟩ := BX.cells (Keep.refl _ _)
    have HBX := Lib.hid BX
    clear BX
    go_enter Tryd.func37, Tryd.ntmps37
    go_wp2_with (at_builtin; refine wpList_append_own _ rfl (.tmp 8) (.tmp 10) 32 rfl (((w.alloc (.cells #[.bool p, .slice A n c] 34)).alloc (.cells #[.bool q, .slice (some ad0) n' c'] 34)).alloc (.cells #[.bool false, .slice none 0 0] 34)).heap.size 5 i5 (.int .u8 0) 1 1 Tryd.underlying32 h5 hz0 hz1 hz2 rfl (by decide) _ _ _ rfl HNIL.out ad0 n' c' (l'.map fun x : Nat => Value.int .u8 (x : Int)) rfl (by rw [List.length_map, HLL.out, Nat.mul_one]) HRR.out.news ?a1 ?a2 ?a3 ?a4 ?_)
    case a1 =>
      intro u hu
      obtain ⟨z, _, rfl⟩ := List.mem_map.1 hu
      rfl
    case a2 => unfold maxLen; omega
    case a3 => omega
    case a4 => exact Nat.le_refl _
    intro v' w6 hown hgrow _
    have hown2 : w6.ownsRow (w.heap.size + 1 + 1 + 1) 5 1 v' n' (l'.map fun x : Nat => Value.int .u8 (x : Int)) := hown
    obtain ⟨R0, cr0, rfl, r6'⟩ := own_slice hown2
    have r6 := r6'.mono (base' := (((w.alloc (.cells #[.bool p, .slice A n c] 34)).alloc (.cells #[.bool q, .slice (some ad0) n' c'] 34)).alloc (.cells #[.bool false, .slice none 0 0] 34)).heap.size) (by simp only [World.size_alloc]; omega)
    clear r6' hown2 hown
    have k6 := (Keep.of_grown hgrow).mono (S' := fun _ => False) (fun k _ hk => by cases hk)
    clear hgrow HNIL HRR c0 c1 c2 c3
    generalize w.heap.size = B0 at HBX ⊢
    generalize (((w.alloc (.cells #[.bool p, .slice A n c] 34)).alloc (.cells #[.bool q, .slice (some ad0) n' c'] 34)).alloc (.cells #[.bool false, .slice none 0 0] 34)) = w1 at HBX HL HL' r6 k6
    have HK0 := Lib.hid k6
    have HR0 := Lib.hid (show OwnR 5 .u8 w6 w1.heap.size R0 n' cr0 (List.replicate 0 0 ++ l') from r6)
    clear r6 k6
    try dsimp only
    go_wp2_with fail
    go_loopw [5, 6, 7] (fun ov rv iv wr => ∃ (i : Nat) (O : Option Addr) (no co : Nat) (R : Option Addr) (nr cr : Nat), i ≤ n ∧ iv = .int .i64 (i : Int) ∧ ov = .slice O no co ∧ rv = .slice R nr cr ∧ MuSt w1 l l' i O no co R nr cr wr) (fun _ _ iv _ => n - (intOf iv).toNat)
    case atStart => exact ⟨0, none, 0, 0, R0, n', cr0, Nat.zero_le _, rfl, rfl, rfl, by rw [List.take_zero, show bval ([] : List Nat) = 0 from rfl, Nat.zero_mul]; unfold bits2; rw [digs_zero]; exact OwnR.nil _ _ _ _, HR0.out, HK0.out⟩
    case round =>
      obtain ⟨i, O, no, co, R, nr, cr, hi, rfl, rfl, rfl, st⟩ := hrel
      obtain ⟨c0, c1, c2, c3⟩ := HBX.out.cells st.K
      have HS := Lib.hid st
      clear st
      by_cases hin : i < n
      · have i0 : (0 : Int) ≤ (i : Int) := by omega
        have i1 : (i : Int) < (n : Int) := by omega
        obtain ⟨b, off, rfl, _, hcb⟩ := (HL.out.keep0 HS.out.K).row.2 i hin
        rcases low2_cast HL.out.low i with hbit | hbit
        · rw [hbit] at hcb
          have HO2 := Lib.hid (show OwnR 5 .u8 wr w1.heap.size O no co (bits2 (bval (l.take (i + 1)) * bval l')) from by rw [bit_take l l' i 0 hbit, Nat.zero_mul, Nat.add_zero]; exact HS.out.o)
          have HK2 := Lib.hid (Keep.refl (fun _ => False) wr)
          have HR2 := Lib.hid HS.out.r
          clear hbit
          rcases R with _ | ad
          · skip
            have hnr0 : nr = 0 := by
              rcases Nat.eq_zero_or_pos nr with e | e
              · exact e
              · obtain ⟨_, _, e2, _⟩ := HR2.out.row.2 0 e
                cases e2
            have HN := Lib.hid (HS.out.next0 HK2.out HO2.out hnr0)
            subst hnr0
            try dsimp only
            go_wp2_with fail
            go_roundw
            case rel => exact ⟨i + 1, _, _, _, _, _, _, by omega, by go_num, rfl, rfl, HN.out⟩
            case measure => simp [intOf]; omega
          · skip
            obtain ⟨i5, h5, hz0, hz1, hz2⟩ := info_parts info5
            have HONE := Lib.hid (one_own wr 0)
            have KA : Keep (fun _ => False) wr (wr.alloc (.cells #[.int .u8 0] 5)) := (Keep.refl _ _).alloc _
            have HRR := Lib.hid ((HR2.out.keep0 KA).row)
            have HRL := Lib.hid HR2.out.len
            have HNR := Lib.hid (And.intro HS.out.nr_eq HL'.out.len)
            clear KA
            obtain ⟨rl, hrl⟩ : ∃ x, x = List.replicate i 0 ++ l' := ⟨_, rfl⟩
            rw [← hrl] at HRR HRL
            have HRE := Lib.hid hrl
            clear hrl
            try dsimp only
            go_wp2_with (at_builtin; refine wpList_append_own _ rfl (.tmp 28) (.tmp 29) 32 rfl wr.heap.size 5 i5 (.int .u8 0) 1 1 Tryd.underlying32 h5 hz0 hz1 hz2 rfl (by decide) _ _ _ rfl HONE.out ad nr cr (rl.map fun x : Nat => Value.int .u8 (x : Int)) rfl (by rw [List.length_map, HRL.out, Nat.mul_one]) HRR.out.news ?a1 ?a2 ?a3 ?a4 ?_)
            case a1 =>
              intro u hu
              obtain ⟨z, _, rfl⟩ := List.mem_map.1 hu
              rfl
            case a2 => have := HNR.out; unfold maxLen; omega
            case a3 => have := HNR.out; omega
            case a4 => simp
            intro v' w6 hown hgrow _
            obtain ⟨R2, cr2, rfl, N⟩ := HS.out.next HK2.out HO2.out (by rw [← HRE.out]; exact hown) hgrow
            have HN := Lib.hid N
            clear N hown hgrow
            go_wp2_with fail
            go_roundw
            case rel => exact ⟨i + 1, _, _, _, _, _, _, by omega, by go_num, rfl, rfl, HN.out⟩
            case measure => simp [intOf]; omega
        · rw [hbit] at hcb
          have hno := HS.out.no_le HL.out.low HL'.out.low
          have hnr1 := HS.out.nr_eq
          have hll := HL'.out.len
          have HPL := Lib.hid (rplus_any O no co _ R nr cr _ wr (HS.out.o.toBits (digs_low two2 _) (by omega)) (HS.out.r.toBits (MuSt.rlow HL'.out.low) (by omega)) (by omega) (by omega))
          have HBIT := Lib.hid hbit
          clear hbit hno hnr1 hll
          go_wp2_with fail
          refine HPL.out.mono ?_
          rintro e w2 ⟨O2, no2, co2, rfl, o2, k2⟩
          have HO2 := Lib.hid (show OwnR 5 .u8 w2 w1.heap.size O2 no2 co2 (bits2 (bval (l.take (i + 1)) * bval l')) from by
            rw [bit_take l l' i 1 HBIT.out, Nat.one_mul]
            rw [show bval (bits2 (bval (l.take i) * bval l')) = bval (l.take i) * bval l' from val_digs two2 _, show bval (List.replicate i 0 ++ l') = 2 ^ i * bval l' from val_zeros_app i l'] at o2
            exact o2.mono HS.out.K.size)
          have HK2 := Lib.hid k2
          have HR2 := Lib.hid (HS.out.r.keep0 k2)
          clear o2 k2 HPL
          rcases R with _ | ad
          · skip
            have hnr0 : nr = 0 := by
              rcases Nat.eq_zero_or_pos nr with e | e
              · exact e
              · obtain ⟨_, _, e2, _⟩ := HR2.out.row.2 0 e
                cases e2
            have HN := Lib.hid (HS.out.next0 HK2.out HO2.out hnr0)
            subst hnr0
            try dsimp only
            go_wp2_with fail
            go_roundw
            case rel => exact ⟨i + 1, _, _, _, _, _, _, by omega, by go_num, rfl, rfl, HN.out⟩
            case measure => simp [intOf]; omega
          · skip
            obtain ⟨i5, h5, hz0, hz1, hz2⟩ := info_parts info5
            have HONE := Lib.hid (one_own w2 0)
            have KA : Keep (fun _ => False) w2 (w2.alloc (.cells #[.int .u8 0] 5)) := (Keep.refl _ _).alloc _
            have HRR := Lib.hid ((HR2.out.keep0 KA).row)
            have HRL := Lib.hid HR2.out.len
            have HNR := Lib.hid (And.intro HS.out.nr_eq HL'.out.len)
            clear KA
            obtain ⟨rl, hrl⟩ : ∃ x, x = List.replicate i 0 ++ l' := ⟨_, rfl⟩
            rw [← hrl] at HRR HRL
            have HRE := Lib.hid hrl
            clear hrl
            try dsimp only
            go_wp2_with (at_builtin; refine wpList_append_own _ rfl (.tmp 28) (.tmp 29) 32 rfl w2.heap.size 5 i5 (.int .u8 0) 1 1 Tryd.underlying32 h5 hz0 hz1 hz2 rfl (by decide) _ _ _ rfl HONE.out ad nr cr (rl.map fun x : Nat => Value.int .u8 (x : Int)) rfl (by rw [List.length_map, HRL.out, Nat.mul_one]) HRR.out.news ?a1 ?a2 ?a3 ?a4 ?_)
            case a1 =>
              intro u hu
              obtain ⟨z, _, rfl⟩ := List.mem_map.1 hu
              rfl
            case a2 => have := HNR.out; unfold maxLen; omega
            case a3 => have := HNR.out; omega
            case a4 => simp
            intro v' w6 hown hgrow _
            obtain ⟨R2, cr2, rfl, N⟩ := HS.out.next HK2.out HO2.out (by rw [← HRE.out]; exact hown) hgrow
            have HN := Lib.hid N
            clear N hown hgrow
            go_wp2_with fail
            go_roundw
            case rel => exact ⟨i + 1, _, _, _, _, _, _, by omega, by go_num, rfl, rfl, HN.out⟩
            case measure => simp [intOf]; omega
      · have hd : decide ((i : Int) < (n : Int)) = false := decide_eq_false (by omega)
        obtain rfl : i = n := by omega
        have hO := HS.out.o
        rw [List.take_of_length_le (by rw [HL.out.len]; omega)] at hO
        have hno := hO.len
        have hvv : bval (bits2 (bval l * bval l')) = x.natAbs * y.natAbs := by
          rw [show bval (bits2 (bval l * bval l')) = bval l * bval l' from val_digs two2 _, HE.out.2.1, HE.out.2.2, show bval (bits2 x.natAbs) = x.natAbs from val_digs two2 _, show bval (bits2 y.natAbs) = y.natAbs from val_digs two2 _]
        have hsg : sgn (!(p == q)) (bval (bits2 (bval l * bval l'))) = x * y := by rw [hvv, HE.out.1.1, HE.out.1.2]; exact sgn_mul x y
        have hnb := HS.out.no_le HL.out.low HL'.out.low
        have hll := HL'.out.len
        have HVA := Lib.hid (value_any w1.heap.size (!(p == q)) O no co _ wr hO (digs_low two2 _) (by omega))
        rw [hsg, hvv] at HVA
        have hx2 := HS.out.K.heap HBX.out.b3 (by simp)
        have HX2 := Lib.hid hx2
        have HLT := Lib.hid (heap_lt HBX.out.b3)
        obtain ⟨LL, hLL⟩ : ∃ L, L = bits2 (bval l * bval l') := ⟨_, rfl⟩
        rw [← hLL] at HVA
        clear hO hno hvv hsg hnb hll hx2 hLL
        go_wp2_with fail
        refine HVA.out.mono ?_
        rintro e w9 ⟨k9, rfl, o9⟩
        have hb9 := k9.heap HX2.out (by simp)
        have d0 : w9.cell? ⟨B0 + 1 + 1, 0, none⟩ = some (.bool false) := by rw [cell_of_row w9 _ _ _ _ _ hb9]; rfl
        have d1 : w9.cell? ⟨B0 + 1 + 1, 1, none⟩ = some (.slice none 0 0) := by rw [cell_of_row w9 _ _ _ _ _ hb9]; rfl
        have g0 : w9.frozen? ⟨B0 + 1 + 1, 0, none⟩ = false := by simp [World.frozen?, hb9]
        have g1 : w9.frozen? ⟨B0 + 1 + 1, 1, none⟩ = false := by simp [World.frozen?, hb9]
        obtain ⟨z, hz⟩ : ∃ z, z = decide (x * y < 0) := ⟨_, rfl⟩
        rw [← hz]
        have HZ := Lib.hid hz
        have HE2x := Lib.hid (two_cells hb9 (.bool z) (.slice O (blen LL) co))
        have HKK := Lib.hid (two_keep (HBX.out.k.trans (HS.out.K.trans k9)) (show w.heap.size ≤ B0 + 1 + 1 from by have := HBX.out.s; omega) (.bool z) (.slice O (blen LL) co))
        have HOO := Lib.hid ((two_own o9 HLT.out (.bool z) (.slice O (blen LL) co)).mono HBX.out.k.size)
        clear hz k9 o9 hb9
        try dsimp only
        go_wp2_with fail
        obtain ⟨e0, e1⟩ := HE2x.out
        refine bodyPost_ret (v := numArg z O (blen LL) co) (by simp [results, Tryd.results37, go_sem, e0, e1]) rfl ⟨HKK.out, O, blen LL, co, by rw [← HZ.out], ?_⟩
        rw [Int.natAbs_mul]
        exact HOO.out
end Go.Proofs.YtdfekphahdmffaaDoor
