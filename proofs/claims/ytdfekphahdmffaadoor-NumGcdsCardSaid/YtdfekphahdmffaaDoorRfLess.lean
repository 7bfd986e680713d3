/-
  The document's less and minus.
-/
import Derived.Test.YtdfekphahdmffaaDoorBitsL
namespace Go.Proofs.YtdfekphahdmffaaDoor
open Go.RowKit

set_option maxRecDepth 100000 in
set_option maxHeartbeats 2000000 in
theorem rless_any (a b : Nat) (A : Option Addr) (n c : Nat) (A' : Option Addr) (n' c' : Nat) (w : World) (h : BitsAt w A n c (bits2 a)) (h' : BitsAt w A' n' c' (bits2 b)) :
    Calls Tryd.prog 77 #[.slice A n c, .slice A' n' c'] w (BoolPost (decide (a < b)) w) := by
  have m1 := h.max
  have m2 := h'.max
  have HT := Lib.hid h
  have HT' := Lib.hid h'
  have EL := Lib.hid h.len
  have EL' := Lib.hid h'.len
  clear h h'
  by_cases hne : n = n'
  · have hb : ((n : Int) != (n' : Int)) = false := by simp [hne]
    have HNE := Lib.hid hne
    clear hne
    go_enter Tryd.func77, Tryd.ntmps77
    go_wp2_with fail
    clear hb
    go_loopw [5] (fun iv wr => ∃ k : Nat, k ≤ n ∧ iv = .int .i64 ((k : Int) - 1) ∧ (∀ j, k ≤ j → j < n → (bits2 a).getD j 0 = (bits2 b).getD j 0) ∧ Keep (fun _ => False) w wr) (fun iv _ => (intOf iv + 1).toNat)
    case atStart => exact ⟨n, Nat.le_refl _, rfl, fun j h1 h2 => by omega, Keep.refl _ _⟩
    case round =>
      obtain ⟨k, hk, rfl, he, K⟩ := hrel
      have HE := Lib.hid he
      clear he
      by_cases h0 : k = 0
      · subst h0
        have hv : a = b := bits_ext (by rw [EL.out, EL'.out]; exact HNE.out) (fun j hj => HE.out j (Nat.zero_le _) (by rw [← EL.out]; exact hj))
        have P : BoolPost (decide (a < b)) w (.returned (.bool false)) wr := ⟨by rw [hv, decide_eq_false (Nat.lt_irrefl _)], K⟩
        have HP := Lib.hid P
        clear P hv
        go_wp2_with fail
        go_ret
        exact HP.out
      · obtain ⟨m, rfl⟩ : ∃ m, k = m + 1 := ⟨k - 1, by omega⟩
        obtain ⟨b1, o1, rfl, hb1, q1⟩ := (HT.out.row.keep0 K).2 m (by omega)
        obtain ⟨b2, o2, rfl, hb2, q2⟩ := (HT'.out.row.keep0 K).2 m (by have := HNE.out; omega)
        obtain ⟨x, hx⟩ : ∃ x, x = (bits2 a).getD m 0 := ⟨_, rfl⟩
        obtain ⟨y, hy⟩ : ∃ y, y = (bits2 b).getD m 0 := ⟨_, rfl⟩
        rw [← hx] at q1
        rw [← hy] at q2
        have HX := Lib.hid hx
        have HY := Lib.hid hy
        have em : ((m + 1 : Nat) : Int) - 1 = (m : Int) := by omega
        rw [em]
        have i0 : (0 : Int) ≤ (m : Int) := by omega
        have i1 : (m : Int) < (n : Int) := by omega
        have i2 : (m : Int) < (n' : Int) := by have := HNE.out; omega
        by_cases hxy : x = y
        · subst hxy
          clear hx hy em h0
          go_wp2_with fail
          go_quiet (fail)
          go_wp2_with fail
          go_roundw
          case rel => exact ⟨m, by omega, by go_num, fun j h1 h2 => by
            by_cases e : j = m
            · rw [e, ← HX.out, ← HY.out]
            · exact HE.out j (by omega) h2, K.drewN _⟩
          case measure => simp [intOf]
        · have hb : ((x : Int) != (y : Int)) = true := by
            rw [bne_iff_ne]; omega
          have P : ∀ w', Keep (fun _ => False) w w' → BoolPost (decide (a < b)) w (.returned (.bool (decide (x < y)))) w' := fun w' K' => ⟨by
            rw [bits_digit (k := m) (by rw [EL.out, EL'.out]; exact HNE.out) (by rw [EL.out]; omega) (fun j h1 h2 => HE.out j h1 (by rw [← EL.out]; exact h2)) (by rw [← HX.out, ← HY.out]; exact hxy), ← HX.out, ← HY.out], K'⟩
          have HP := Lib.hid P
          clear P hx hy em h0 hxy
          go_wp2_with fail
          go_quiet (fail)
          go_wp2_with fail
          have K9 := K.drewN nq
          have q3 : (wr.drewN nq).cell? ⟨b1, o1 + m, none⟩ = some (.int .u8 (x : Int)) := q1
          have q4 : (wr.drewN nq).cell? ⟨b2, o2 + m, none⟩ = some (.int .u8 (y : Int)) := q2
          generalize wr.drewN nq = w9 at K9 q3 q4 ⊢
          go_quiet (fail)
          go_wp2_with fail
          go_ret
          exact HP.out _ (K9.drewN _)
  · have hb : ((n : Int) != (n' : Int)) = true := by rw [bne_iff_ne]; omega
    have hc : decide (n < n') = decide (a < b) := by
      rcases Nat.lt_or_ge n n' with h1 | h1
      · rw [decide_eq_true h1, decide_eq_true (blen_lt (by rw [EL.out, EL'.out]; exact h1))]
      · have := blen_lt (a := b) (b := a) (by rw [EL.out, EL'.out]; omega)
        rw [decide_eq_false (by omega), decide_eq_false (by omega)]
    have P : BoolPost (decide (a < b)) w (.returned (.bool (decide (n < n')))) w := ⟨by rw [hc], Keep.refl _ _⟩
    have HP := Lib.hid P
    clear hne hc P
    go_enter Tryd.func77, Tryd.ntmps77
    go_wp2_with fail
    go_ret
    exact HP.out

set_option maxRecDepth 100000 in
set_option maxHeartbeats 4000000 in
theorem rminus_any (a b : Nat) (A : Option Addr) (n c : Nat) (A' : Option Addr) (n' c' : Nat) (w : World) (h : BitsAt w A n c (bits2 a)) (h' : BitsAt w A' n' c' (bits2 b)) (hle : b ≤ a) :
    Calls Tryd.prog 78 #[.slice A n c, .slice A' n' c'] w (MagPost (a - b) w) := by
  have HL := Lib.hid h
  have HL' := Lib.hid h'
  have hmx := h.max
  have HV := Lib.hid (show bval (rowL 2 (minF (bits2 a) (bits2 b)) n) = a - b from by
    have := min_val (digs_low two2 a) (digs_low two2 b) (blen_mono hle) (by rw [show bval (digs 2 a) = a from val_digs two2 a, show bval (digs 2 b) = b from val_digs two2 b]; exact hle)
    rw [show bval (digs 2 a) = a from val_digs two2 a, show bval (digs 2 b) = b from val_digs two2 b] at this
    rw [← this, ← h.len])
  clear h h'
  obtain ⟨F, hF⟩ : ∃ F, F = minF (bits2 a) (bits2 b) := ⟨_, rfl⟩
  rw [← hF] at HV
  have HFE := Lib.hid hF
  have HC1 := Lib.hid (show ∀ i, rowC 2 F i ≤ 1 from fun i => by rw [hF]; exact (min_inv (digs_low two2 a) (digs_low two2 b) i).2)
  clear hF
  go_enter Tryd.func78, Tryd.ntmps78
  go_wp2_with fail
  go_loopw [5, 6, 7, 8] (fun v cv iv _ wr => ∃ i : Nat, i ≤ n ∧ iv = .int .i64 (i : Int) ∧ cv = .int .i64 ((rowC 2 F i : Nat) : Int) ∧ MkSt w F i v wr) (fun _ _ iv _ _ => n - (intOf iv).toNat)
  case atStart => exact ⟨0, Nat.zero_le _, rfl, rfl, World.ownsRow_nil _ _ _ _, Keep.refl _ _⟩
  case round =>
    obtain ⟨i, hi, rfl, rfl, st⟩ := hrel
    obtain ⟨P, cP, rfl⟩ := bits_form st.o
    have HS := Lib.hid st
    clear st
    have hcr := HC1.out i
    obtain ⟨cr, hcr2⟩ : ∃ x, x = rowC 2 F i := ⟨_, rfl⟩
    rw [← hcr2] at hcr ⊢
    have HCR := Lib.hid hcr2
    clear hcr2
    by_cases hin : i < n
    · have i0 : (0 : Int) ≤ (i : Int) := by omega
      have i1 : (i : Int) < (n : Int) := by omega
      have hx := low2_cast HL.out.low i
      have hy := low2_cast HL'.out.low i
      have HB := Lib.hid (fun (wi : World) (K' : Keep (fun _ => False) w wi) => bit_any A n c (bits2 a) i wi (HL.out.keep0 K'))
      have HB' := Lib.hid (fun (wi : World) (K' : Keep (fun _ => False) w wi) => bit_any A' n' c' (bits2 b) i wi (HL'.out.keep0 K'))
      obtain ⟨x, hxx⟩ : ∃ x, x = (bits2 a).getD i 0 := ⟨_, rfl⟩
      obtain ⟨y, hyy⟩ : ∃ y, y = (bits2 b).getD i 0 := ⟨_, rfl⟩
      rw [← hxx] at hx HB
      rw [← hyy] at hy HB'
      obtain ⟨f, hf⟩ : ∃ f, f = F i cr := ⟨_, rfl⟩
      have hd := min_digit (p := x) (q := y) (c := cr) (f := f) (by omega) (by omega) hcr (by rw [hf, HFE.out]; unfold minF; rw [← hxx, ← hyy])
      have HF := Lib.hid (show f = F i (rowC 2 F i) from by rw [hf, ← HCR.out])
      clear hxx hyy hf
      have hs := HS.out.K
      obtain ⟨bt, hbt⟩ : ∃ bt, bt = f % 2 := ⟨_, rfl⟩
      rw [← hbt] at hd
      have hbt2 : bt ≤ 1 := by omega
      have HBT := Lib.hid (show bt = F i (rowC 2 F i) % 2 from by rw [← HF.out]; exact hbt)
      have HNX := Lib.hid (show rowC 2 F (i + 1) = f / 2 from by rw [HF.out]; rfl)
      obtain ⟨i5, h5, hz0, hz1, hz2⟩ := info_parts info5
      have KW : Keep (fun _ => False) wr (wr.alloc (.cells #[.int .u8 (bt : Int)] 5)) := (Keep.refl _ _).alloc _
      have HOWN := Lib.hid (row_kept HS.out.o KW (fun _ _ => id))
      have HNEW := Lib.hid (new_bit wr (bt : Int))
      have HBS := Lib.hid (Nat.le_trans HS.out.K.size KW.size)
      have HKW := Lib.hid KW
      clear KW hbt
      rcases hd with ⟨hd1, hd2, hd3⟩ | ⟨hd1, hd2, hd3⟩
      · have HD3 := Lib.hid hd3
        clear hd3
        go_wp2_with fail
        refine (HB.out _ hs).mono ?_
        rintro e w2 ⟨rfl, rfl⟩
        try dsimp only
        go_wp2_with fail
        refine (HB'.out _ hs).mono ?_
        rintro e w2 ⟨rfl, rfl⟩
        try dsimp only
        go_wp2_with (at_builtin; refine wpList_append_own _ rfl (.tmp 28) (.tmp 31) 32 rfl w.heap.size 5 i5 (.int .u8 0) 1 1 Tryd.underlying32 h5 hz0 hz1 hz2 rfl (by decide) _ _ _ rfl HOWN.out ⟨wr.heap.size, 0, none⟩ 1 1 [.int .u8 (bt : Int)] rfl rfl HNEW.out ?a1 ?a2 ?a3 HBS.out ?_)
        case a1 => intro u hu; simp at hu; subst hu; rfl
        case a2 => unfold maxLen; omega
        case a3 => omega
        intro v' w6 hown hgrow _
        have N := HS.out.more (b := bt) HBT.out HKW.out hown hgrow
        obtain ⟨P2, cP2, rfl⟩ := bits_form N.o
        have HN := Lib.hid N
        clear N hown hgrow
        go_wp2_with fail
        go_roundw
        case rel => exact ⟨i + 1, by omega, by go_num, by rw [HNX.out, HD3.out]; rfl, HN.out⟩
        case measure => simp [intOf]; omega
      · have HD3 := Lib.hid hd3
        clear hd3
        go_wp2_with fail
        refine (HB.out _ hs).mono ?_
        rintro e w2 ⟨rfl, rfl⟩
        try dsimp only
        go_wp2_with fail
        refine (HB'.out _ hs).mono ?_
        rintro e w2 ⟨rfl, rfl⟩
        try dsimp only
        go_wp2_with (at_builtin; refine wpList_append_own _ rfl (.tmp 28) (.tmp 31) 32 rfl w.heap.size 5 i5 (.int .u8 0) 1 1 Tryd.underlying32 h5 hz0 hz1 hz2 rfl (by decide) _ _ _ rfl HOWN.out ⟨wr.heap.size, 0, none⟩ 1 1 [.int .u8 (bt : Int)] rfl rfl HNEW.out ?a1 ?a2 ?a3 HBS.out ?_)
        case a1 => intro u hu; simp at hu; subst hu; rfl
        case a2 => unfold maxLen; omega
        case a3 => omega
        intro v' w6 hown hgrow _
        have N := HS.out.more (b := bt) HBT.out HKW.out hown hgrow
        obtain ⟨P2, cP2, rfl⟩ := bits_form N.o
        have HN := Lib.hid N
        clear N hown hgrow
        go_wp2_with fail
        go_roundw
        case rel => exact ⟨i + 1, by omega, by go_num, by rw [HNX.out, HD3.out]; rfl, HN.out⟩
        case measure => simp [intOf]; omega
    · have hd : decide ((i : Int) < (n : Int)) = false := decide_eq_false (by omega)
      obtain rfl : i = n := by omega
      have ho : OwnR 5 .u8 wr w.heap.size P i cP (rowL 2 F i) := HS.out.o
      have low : Low 2 (rowL 2 F i) := rowL_low (by omega) F i
      have hB := ho.toBits low (by omega)
      have hle2 := blen_le low
      rw [ho.len] at hle2
      have ho2 := ho.take hle2
      rw [btake low, HV.out] at ho2
      have HO := Lib.hid ho2
      have HB := Lib.hid hB
      have HK := Lib.hid HS.out.K
      clear hB ho ho2
      go_wp2_with fail
      refine (cut_any P i cP _ _ HB.out).mono ?_
      rintro e w1 ⟨rfl, rfl⟩
      go_wp2_with fail
      go_ret
      exact ⟨P, _, cP, rfl, HO.out, HK.out⟩
end Go.Proofs.YtdfekphahdmffaaDoor
