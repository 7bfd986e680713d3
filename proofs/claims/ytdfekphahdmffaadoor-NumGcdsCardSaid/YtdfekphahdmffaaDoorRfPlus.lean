/-
  The document's plus.
-/
import Derived.Test.YtdfekphahdmffaaDoorRfIs
namespace Go.Proofs.YtdfekphahdmffaaDoor
open Go.RowKit

/-- A magnitude in memory of the call's own. -/
def MagPost (v : Nat) (w : World) (e : Ending) (w' : World) : Prop :=
  ∃ (A : Option Addr) (n c : Nat), e = .returned (.slice A n c) ∧ OwnR 5 .u8 w' w.heap.size A n c (bits2 v) ∧ Keep (fun _ => False) w w'
/-- Before the bit i of a row that is made. -/
structure MkSt (w : World) (F : Nat → Nat → Nat) (i : Nat) (v : Value) (wr : World) : Prop where
  o : wr.ownsRow w.heap.size 5 1 v i ((rowL 2 F i).map fun x : Nat => Value.int .u8 (x : Int))
  K : Keep (fun _ => False) w wr
theorem MkSt.more {w wr w5 w6 : World} {F : Nat → Nat → Nat} {i : Nat} {v v' : Value} (h : MkSt w F i v wr) {b : Nat} (hb : b = F i (rowC 2 F i) % 2) (K5 : Keep (fun _ => False) wr w5)
    (hown : w6.ownsRow w.heap.size 5 1 v' (i + 1) (((rowL 2 F i).map fun x : Nat => Value.int .u8 (x : Int)) ++ [.int .u8 (b : Int)])) (hgrow : w5.grownBy w6 v.ownBlock) : MkSt w F (i + 1) v' w6 := by
  refine ⟨?_, ?_⟩
  · rw [rowL_succ, List.map_append, ← hb]; exact hown
  · refine (h.K.trans K5).into (Keep.of_grown hgrow) (fun i' hi => ?_)
    rcases h.o.2 with ⟨hn, _⟩ | ⟨g, cap, cur, hv, hg, _⟩
    · rw [hn] at hi; cases hi
    · rw [hv] at hi
      have : i' = g := by simpa [Value.ownBlock] using hi
      omega
set_option maxRecDepth 100000 in
set_option maxHeartbeats 4000000 in
theorem rplus_any (A : Option Addr) (n c : Nat) (l : List Nat) (A' : Option Addr) (n' c' : Nat) (l' : List Nat) (w : World) (h : BitsAt w A n c l) (h' : BitsAt w A' n' c' l') (hm : n ≤ 1000000) (hm' : n' ≤ 1000000) :
    Calls Tryd.prog 68 #[.slice A n c, .slice A' n' c'] w (MagPost (bval l + bval l') w) := by
  have HL := Lib.hid h
  have HL' := Lib.hid h'
  clear h h'
  obtain ⟨m, hmm⟩ : ∃ m, m = max n n' + 1 := ⟨_, rfl⟩
  have HM := Lib.hid hmm
  have hmb : m ≤ 1000001 := by omega
  clear hmm
  go_enter Tryd.func68, Tryd.ntmps68
  go_wp2_with fail
  go_loopw [5, 6, 7] (fun v cv iv wr => ∃ i : Nat, i ≤ m ∧ iv = .int .i64 (i : Int) ∧ cv = .int .i64 ((rowC 2 (plusF l l') i : Nat) : Int) ∧ MkSt w (plusF l l') i v wr) (fun _ _ iv _ => m - (intOf iv).toNat)
  case atStart => exact ⟨0, Nat.zero_le _, rfl, rfl, World.ownsRow_nil _ _ _ _, Keep.refl _ _⟩
  case round =>
    obtain ⟨i, hi, rfl, rfl, st⟩ := hrel
    obtain ⟨P, cP, rfl⟩ := bits_form st.o
    have HS := Lib.hid st
    clear st
    have hcr := (plus_inv two2 HL.out.low HL'.out.low i).2
    obtain ⟨cr, hcr2⟩ : ∃ x, x = rowC 2 (plusF l l') i := ⟨_, rfl⟩
    rw [← hcr2] at hcr ⊢
    have HCR := Lib.hid hcr2
    clear hcr2
    by_cases him : i < m
    · have hx := low2_cast HL.out.low i
      have hy := low2_cast HL'.out.low i
      have HB := Lib.hid (fun (wi : World) (K' : Keep (fun _ => False) w wi) => bit_any A n c l i wi (HL.out.keep0 K'))
      have HB' := Lib.hid (fun (wi : World) (K' : Keep (fun _ => False) w wi) => bit_any A' n' c' l' i wi (HL'.out.keep0 K'))
      obtain ⟨x, hxx⟩ : ∃ x, x = l.getD i 0 := ⟨_, rfl⟩
      obtain ⟨y, hyy⟩ : ∃ y, y = l'.getD i 0 := ⟨_, rfl⟩
      rw [← hxx] at hx HB
      rw [← hyy] at hy HB'
      obtain ⟨b, hbb⟩ : ∃ b, b = (x + y + cr) % 2 := ⟨_, rfl⟩
      have hF : plusF l l' i cr = x + y + cr := by unfold plusF; rw [← hxx, ← hyy]
      have HF := Lib.hid (And.intro hF hbb)
      clear hxx hyy hF
      have hs := HS.out.K
      have hval : ((x : Int) + (y : Int) + (cr : Int)) % 2 = (b : Int) := by rw [hbb]; omega
      obtain ⟨i5, h5, hz0, hz1, hz2⟩ := info_parts info5
      have KW : Keep (fun _ => False) wr (wr.alloc (.cells #[.int .u8 (b : Int)] 5)) := (Keep.refl _ _).alloc _
      have HOWN := Lib.hid (row_kept HS.out.o KW (fun _ _ => id))
      have HNEW := Lib.hid (new_bit wr (b : Int))
      have HBS := Lib.hid (Nat.le_trans HS.out.K.size KW.size)
      have HKW := Lib.hid KW
      have hmx := HM.out
      clear KW hbb
      rcases (by omega : i ≤ n ∨ (¬ i ≤ n ∧ i ≤ n')) with hin | ⟨hin, hin'⟩
      · clear hmx
        have t1 : (i : Int) ≤ (n : Int) := by omega
        go_wp2_with fail
        refine (HB.out _ hs).mono ?_
        rintro e w2 ⟨rfl, rfl⟩
        try dsimp only
        go_wp2_with fail
        refine (HB'.out _ hs).mono ?_
        rintro e w2 ⟨rfl, rfl⟩
        try dsimp only
        go_wp2_with (at_builtin; rw [hval]; refine wpList_append_own _ rfl (.tmp 30) (.tmp 34) 32 rfl w.heap.size 5 i5 (.int .u8 0) 1 1 Tryd.underlying32 h5 hz0 hz1 hz2 rfl (by decide) _ _ _ rfl HOWN.out ⟨wr.heap.size, 0, none⟩ 1 1 [.int .u8 (b : Int)] rfl rfl HNEW.out ?a1 ?a2 ?a3 HBS.out ?_)
        case a1 => intro u hu; simp at hu; subst hu; rfl
        case a2 => unfold maxLen; omega
        case a3 => omega
        intro v' w6 hown hgrow _
        have N := HS.out.more (b := b) (by rw [← HCR.out, HF.out.1, HF.out.2]) HKW.out hown hgrow
        obtain ⟨P2, cP2, rfl⟩ := bits_form N.o
        have HN := Lib.hid N
        clear N hown hgrow
        go_wp2_with fail
        go_roundw
        case rel => exact ⟨i + 1, by omega, by go_num, by
          show _ = Value.int .i64 ((plusF l l' i (rowC 2 (plusF l l') i) / 2 : Nat) : Int)
          rw [← HCR.out, HF.out.1]
          congr 1
          try omega, HN.out⟩
        case measure => simp [intOf]; omega
      · clear hmx
        have t1 : decide ((i : Int) ≤ (n : Int)) = false := decide_eq_false (by omega)
        have t2 : (i : Int) ≤ (n' : Int) := by omega
        go_wp2_with fail
        refine (HB.out _ hs).mono ?_
        rintro e w2 ⟨rfl, rfl⟩
        try dsimp only
        go_wp2_with fail
        refine (HB'.out _ hs).mono ?_
        rintro e w2 ⟨rfl, rfl⟩
        try dsimp only
        go_wp2_with (at_builtin; rw [hval]; refine wpList_append_own _ rfl (.tmp 30) (.tmp 34) 32 rfl w.heap.size 5 i5 (.int .u8 0) 1 1 Tryd.underlying32 h5 hz0 hz1 hz2 rfl (by decide) _ _ _ rfl HOWN.out ⟨wr.heap.size, 0, none⟩ 1 1 [.int .u8 (b : Int)] rfl rfl HNEW.out ?a1 ?a2 ?a3 HBS.out ?_)
        case a1 => intro u hu; simp at hu; subst hu; rfl
        case a2 => unfold maxLen; omega
        case a3 => omega
        intro v' w6 hown hgrow _
        have N := HS.out.more (b := b) (by rw [← HCR.out, HF.out.1, HF.out.2]) HKW.out hown hgrow
        obtain ⟨P2, cP2, rfl⟩ := bits_form N.o
        have HN := Lib.hid N
        clear N hown hgrow
        go_wp2_with fail
        go_roundw
        case rel => exact ⟨i + 1, by omega, by go_num, by
          show _ = Value.int .i64 ((plusF l l' i (rowC 2 (plusF l l') i) / 2 : Nat) : Int)
          rw [← HCR.out, HF.out.1]
          congr 1
          try omega, HN.out⟩
        case measure => simp [intOf]; omega
    · have hmx := HM.out
      have t1 : decide ((i : Int) ≤ (n : Int)) = false := decide_eq_false (by omega)
      have t2 : decide ((i : Int) ≤ (n' : Int)) = false := decide_eq_false (by omega)
      have hni : ¬ i ≤ n := by omega
      have hni' : ¬ i ≤ n' := by omega
      have low : Low 2 (rowL 2 (plusF l l') i) := rowL_low (by omega) _ _
      have hv : bval (rowL 2 (plusF l l') i) = bval l + bval l' := plus_val two2 HL.out.low HL'.out.low (by rw [HL.out.len]; omega) (by rw [HL'.out.len]; omega)
      have hO : OwnR 5 .u8 wr w.heap.size P i cP (rowL 2 (plusF l l') i) := HS.out.o
      have HCUT := Lib.hid (cut_any P i cP _ wr (hO.toBits low (by omega)))
      have hle := blen_le low
      rw [rowL_len] at hle
      have hT := hO.take hle
      rw [btake low, hv] at hT
      have HT := Lib.hid hT
      clear hT hO hle low hv hmx
      go_wp2_with fail
      refine HCUT.out.mono ?_
      rintro e w9 ⟨rfl, rfl⟩
      try dsimp only
      go_wp2_with fail
      go_ret
      exact ⟨_, _, _, rfl, HT.out, HS.out.K⟩
end Go.Proofs.YtdfekphahdmffaaDoor
