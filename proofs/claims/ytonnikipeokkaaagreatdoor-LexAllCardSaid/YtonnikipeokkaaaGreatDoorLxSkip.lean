/-
  lex: wrong, comment, skip.
-/
import Derived.Test.YtonnikipeokkaaaGreatDoorLxBase
namespace Go.Proofs.YtonnikipeokkaaaGreatDoor
open Go.RowKit Go.Lib

/-- An error of lex, at a place. -/
def ErrAt (w : World) (v : Value) (p c : Int) : Prop := ∃ (A B : Nat) (what : ByteArray), v = .iface 207 (.pointer (some ⟨B, 0, none⟩)) ∧ w.heap[B]? = some (.cells #[.string what, .iface 63 (.pointer (some ⟨A, 0, none⟩))] 209 (0, 0)) ∧ w.heap[A]? = some (.cells #[.int .i64 p, .int .i64 c] 67 (0, 0))
theorem ErrAt.keep {w w' : World} {v : Value} {p c : Int} (h : ErrAt w v p c) (k : Keep (fun _ => False) w w') : ErrAt w' v p c := by
  obtain ⟨A, B, what, h1, h2, h3⟩ := h
  exact ⟨A, B, what, h1, k.heap h2 (by simp), k.heap h3 (by simp)⟩
def ErrPost (p c : Int) (w : World) (e : Ending) (w' : World) : Prop := ∃ v, e = .returned v ∧ ErrAt w' v p c ∧ Keep (fun _ => False) w w'
set_option maxHeartbeats 400000 in
theorem wrong_any (what : ByteArray) (p c : Int) (w : World) : Calls Tryz.prog 119 #[.string what, .int .i64 p, .int .i64 c] w (ErrPost p c w) := by
  go_enter Tryz.func119, Tryz.ntmps119
  go_wp2_with fail
  go_ret
  refine ⟨_, rfl, ⟨w.heap.size, w.heap.size + 1, what, rfl, ?_, ?_⟩, ((Keep.refl _ _).alloc _).alloc _⟩
  · have := heap_alloc_new (w.alloc (.cells #[.int .i64 p, .int .i64 c] 67)) (.cells #[.string what, .iface 63 (.pointer (some ⟨w.heap.size, 0, none⟩))] 209)
    rwa [World.size_alloc] at this
  · rw [Below.heap_alloc _ _ _ (by simp)]; exact heap_alloc_new w _
theorem two_bytes (s : ByteArray) (i : Nat) (h : i + 1 < s.size) : (s.extract i (i + 2)).toList = [s.data.toList.getD i 0, s.data.toList.getD (i + 1) 0] := by
  have hz : s.data.toList.length = s.size := (Lib.size_eq s).symm
  rw [Lib.toList_data, Lib.extract_data, drop_cons (by omega), drop_cons (by omega), show i + 2 - i = 2 by omega]
  rfl
theorem beq_two (a b c d : UInt8) : ([a, b] == [c, d]) = (a == c && b == d) := by
  rw [Bool.eq_iff_iff]; simp
def ComPost (r : Option Nat) (a : Nat) (w : World) (e : Ending) (w' : World) : Prop :=
  match r with
  | some k => e = .returned (.tuple #[.int .i64 ((a + 2 + k : Nat) : Int), .nilIface]) ∧ w = w'
  | none => ∃ v, e = .returned (.tuple #[.int .i64 0, v]) ∧ ErrAt w' v a 11 ∧ Keep (fun _ => False) w w'
def ComRel (l : List UInt8) (a d i : Nat) : Prop := (d = 0 ∧ i = a) ∨ ∃ j, i = a + 2 + j ∧ 1 ≤ d ∧ d ≤ j + 1 ∧ comB 1 (l.drop (a + 2)) = (comB d (l.drop i)).map (· + j)
set_option maxRecDepth 100000 in
set_option maxHeartbeats 2000000 in
theorem comment_any (s : ByteArray) (a : Nat) (w : World) (ha : a + 1 < s.size) (hs : s.size ≤ 1000000) (h1 : s.data.toList.getD a 0 = 35) (h2 : s.data.toList.getD (a + 1) 0 = 124) :
    Calls Tryz.prog 87 #[.string s, .int .i64 (a : Int)] w (ComPost (comB 1 (s.data.toList.drop (a + 2))) a w) := by
  have hz : s.data.toList.length = s.size := (Lib.size_eq s).symm
  have H2B := Lib.hid (fun i h => two_bytes s i h)
  have H1 := Lib.hid h1
  have H2 := Lib.hid h2
  clear h1 h2
  obtain ⟨l, hl⟩ : ∃ l, l = s.data.toList := ⟨_, rfl⟩
  rw [← hl] at hz H1 H2 H2B ⊢
  have HZ := Lib.hid hz
  clear hl hz
  go_enter Tryz.func87, Tryz.ntmps87
  go_wp2_with fail
  go_loop [6, 7] (fun dv iv => ∃ d i : Nat, a ≤ i ∧ i ≤ s.size ∧ d ≤ s.size ∧ dv = .int .i64 (d : Int) ∧ iv = .int .i64 (i : Int) ∧ ComRel l a d i) (fun _ iv => s.size - (intOf iv).toNat)
  case atStart => exact ⟨0, a, Nat.le_refl _, by omega, by omega, rfl, rfl, .inl ⟨rfl, rfl⟩⟩
  case round =>
    obtain ⟨d, i, hai, hi, hd, rfl, rfl, hr⟩ := hrel
    rcases hr with ⟨rfl, rfl⟩ | ⟨j, hij, hd1, hdj, hR⟩
    · have h0 : decide ((i : Int) + 1 < (s.size : Int)) = true := decide_eq_true (by omega)
      have e1 : ((s.extract i (i + 2)).toList == [35, 124]) = true := by rw [H2B.out i ha, H1.out, H2.out]; rfl
      go_wp2_with fail
      go_round
      case rel =>
        refine ⟨1, i + 2, by omega, by omega, by omega, by rfl, by go_num, .inr ⟨0, by omega, by omega, by omega, ?_⟩⟩
        show _ = (comB 1 (l.drop (i + 2))).map (· + 0)
        cases comB 1 (l.drop (i + 2)) <;> rfl
      case measure => simp [intOf]; omega
    · have HR := Lib.hid hR
      have HIJ := Lib.hid hij
      clear hR hij
      by_cases hlt : i + 1 < s.size
      · have h0 : decide ((i : Int) + 1 < (s.size : Int)) = true := decide_eq_true (by omega)
        have hb := H2B.out i hlt
        have hdrop : l.drop i = l.getD i 0 :: l.getD (i + 1) 0 :: l.drop (i + 2) := by rw [drop_cons (by rw [HZ.out]; omega), drop_cons (l := l) (i := i + 1) (by rw [HZ.out]; omega)]
        have e1 : ((s.extract i (i + 2)).toList == [35, 124]) = (l.getD i 0 == 35 && l.getD (i + 1) 0 == 124) := by rw [hb, beq_two]
        have e2 : ((s.extract i (i + 2)).toList == [124, 35]) = (l.getD i 0 == 124 && l.getD (i + 1) 0 == 35) := by rw [hb, beq_two]
        have HD := Lib.hid hdrop
        clear hdrop hb
        by_cases c1 : l.getD i 0 = 35 ∧ l.getD (i + 1) 0 = 124
        · rw [c1.1, c1.2] at e1
          replace e1 : ((s.extract i (i + 2)).toList == [35, 124]) = true := e1
          have HC := Lib.hid c1
          clear c1 e2
          go_wp2_with fail
          go_round
          case rel =>
            refine ⟨d + 1, i + 2, by omega, by omega, by have := HIJ.out; omega, by go_num, by go_num, .inr ⟨j + 2, by have := HIJ.out; omega, by omega, by omega, ?_⟩⟩
            rw [HR.out, HD.out, comB, if_pos HC.out]
            cases comB (d + 1) (l.drop (i + 2)) <;> simp <;> omega
          case measure => simp [intOf]; omega
        · replace e1 : ((s.extract i (i + 2)).toList == [35, 124]) = false := by
            rw [e1]; simpa using c1
          have HC := Lib.hid c1
          clear c1
          by_cases c2 : l.getD i 0 = 124 ∧ l.getD (i + 1) 0 = 35
          · rw [c2.1, c2.2] at e2
            replace e2 : ((s.extract i (i + 2)).toList == [124, 35]) = true := e2
            have HC2 := Lib.hid c2
            clear c2
            by_cases hd2 : d = 1
            · subst hd2
              have hz0 : (((1 : Nat) : Int) - 1 == 0) = true := rfl
              go_wp2_with fail
              refine bodyPost_ret (v := .tuple #[.int .i64 ((i + 2 : Nat) : Int), .nilIface]) (by simp [results, Tryz.results87, go_sem]; omega) rfl ?_
              unfold ComPost
              rw [HR.out, HD.out, comB, if_neg HC.out, if_pos HC2.out, if_pos (Nat.le_refl 1)]
              have := HIJ.out
              exact ⟨by simp; omega, rfl⟩
            · have hz0 : ((d : Int) - 1 == 0) = false := by simp; omega
              have hz1 : (1 : Int) ≤ (d : Int) := by omega
              go_wp2_with fail
              go_round
              case rel =>
                refine ⟨d - 1, i + 2, by omega, by omega, by omega, by go_num, by go_num, .inr ⟨j + 2, by have := HIJ.out; omega, by omega, by omega, ?_⟩⟩
                rw [HR.out, HD.out, comB, if_neg HC.out, if_pos HC2.out, if_neg (by omega)]
                cases comB (d - 1) (l.drop (i + 2)) <;> simp <;> omega
              case measure => simp [intOf]; omega
          · replace e2 : ((s.extract i (i + 2)).toList == [124, 35]) = false := by
              rw [e2]; simpa using c2
            have HC2 := Lib.hid c2
            clear c2
            go_wp2_with fail
            go_round
            case rel =>
              refine ⟨d, i + 1, by omega, by omega, by omega, rfl, by go_num, .inr ⟨j + 1, by have := HIJ.out; omega, by omega, by omega, ?_⟩⟩
              rw [HR.out, HD.out, comB, if_neg HC.out, if_neg HC2.out, drop_cons (l := l) (i := i + 1) (by rw [HZ.out]; omega)]
              cases comB d (l.getD (i + 1) 0 :: l.drop (i + 1 + 1)) <;> simp <;> omega
            case measure => simp [intOf]; omega
      · have h0 : decide ((i : Int) + 1 < (s.size : Int)) = false := decide_eq_false (by omega)
        have h00 : decide (i + 1 < s.size) = false := decide_eq_false hlt
        go_wp2_with fail
        refine (wrong_any _ _ _ _).mono ?_
        rintro e w1 ⟨v, rfl, he, hk⟩
        have HE := Lib.hid he
        have HK := Lib.hid hk
        clear he hk
        try dsimp only
        go_wp2_with fail
        refine bodyPost_ret (v := .tuple #[.int .i64 0, v]) (by simp [results, Tryz.results87, go_sem]) rfl ?_
        unfold ComPost
        have : comB d (l.drop i) = none := by
          have hlen : (l.drop i).length < 2 := by rw [List.length_drop, HZ.out]; omega
          generalize l.drop i = x at hlen
          cases x with
          | nil => rfl
          | cons x t =>
            cases t with
            | nil => rfl
            | cons y t => simp only [List.length_cons] at hlen; omega
        rw [HR.out, this]
        exact ⟨v, rfl, HE.out, HK.out⟩
def SkipPost (r : Except Nat Nat) (w : World) (e : Ending) (w' : World) : Prop :=
  match r with
  | .ok j => e = .returned (.tuple #[.int .i64 (j : Int), .nilIface]) ∧ w = w'
  | .error p => ∃ v, e = .returned (.tuple #[.int .i64 0, v]) ∧ ErrAt w' v p 11 ∧ Keep (fun _ => False) w w'
theorem prefix_drop2 (s : ByteArray) (k : Nat) (x y : UInt8) (hk : k < s.size) : Lib.hasPrefix (s.extract k s.size).data.toList [x, y] = decide (k + 1 < s.size ∧ s.data.toList.getD k 0 = x ∧ s.data.toList.getD (k + 1) 0 = y) := by
  have hz : s.data.toList.length = s.size := (Lib.size_eq s).symm
  rw [Lib.extract_data, List.take_of_length_le (by rw [List.length_drop]; omega), drop_cons (by omega)]
  rw [Bool.eq_iff_iff, decide_eq_true_iff]
  unfold Lib.hasPrefix
  by_cases h : k + 1 < s.size
  · rw [drop_cons (l := s.data.toList) (i := k + 1) (by omega)]
    simp only [List.isPrefixOf, Bool.and_true, Bool.and_eq_true, beq_iff_eq]
    constructor
    · rintro ⟨a, b⟩; exact ⟨h, a.symm, b.symm⟩
    · rintro ⟨_, a, b⟩; exact ⟨a.symm, b.symm⟩
  · rw [List.drop_of_length_le (by omega)]
    simp [List.isPrefixOf, h]
set_option maxRecDepth 100000 in
set_option maxHeartbeats 4000000 in
theorem skip_any (s : ByteArray) (a : Nat) (w : World) (ha : a ≤ s.size) (hs : s.size ≤ 1000000) :
    Calls Tryz.prog 55 #[.string s, .int .i64 (a : Int)] w (SkipPost (skipAt s.data.toList a) w) := by
  have hz : s.data.toList.length = s.size := (Lib.size_eq s).symm
  have HAT := Lib.hid (fun (k : Nat) (hk : k < s.size) => at_run s k (by rw [hz]; exact hk) _ rfl)
  have HP := Lib.hid (fun k hk => prefix_drop2 s k 35 124 hk)
  have HCM := Lib.hid (fun k w ha h1 h2 => comment_any s k w ha hs h1 h2)
  obtain ⟨l, hl⟩ : ∃ l, l = s.data.toList := ⟨_, rfl⟩
  rw [← hl] at hz HAT HP HCM ⊢
  have HZ := Lib.hid hz
  clear hl hz
  go_enter Tryz.func55, Tryz.ntmps55
  go_wp2_with fail
  go_loop [1] (fun av => ∃ k : Nat, k ≤ s.size ∧ av = .int .i64 (k : Int) ∧ skipAt l k = skipAt l a) (fun av => s.size - (intOf av).toNat)
  case atStart => exact ⟨a, ha, rfl, rfl⟩
  case round =>
    obtain ⟨k, hk, rfl, hsk⟩ := hrel
    have HS := Lib.hid hsk
    clear hsk
    by_cases hlt : k < s.size
    · have hx := HAT.out k hlt
      have h0 : decide ((k : Int) < (s.size : Int)) = true := decide_eq_true (by omega)
      obtain ⟨c, hc⟩ : ∃ c, c = l.getD k 0 := ⟨_, rfl⟩
      rw [← hc] at hx
      have HC := Lib.hid hc
      clear hc
      go_wp2_with fail
      refine (blank_any c _).mono ?_
      rintro e w1 ⟨rfl, rfl⟩
      cases hb : blankB c with
      | true =>
        have HB := Lib.hid hb
        clear hb
        try dsimp only
        go_wp2_with fail
        go_round
        case rel => exact ⟨k + 1, by omega, by go_num, (skipAt_blank (by rw [HZ.out]; exact hlt) (by rw [← HC.out]; exact HB.out)).symm.trans HS.out⟩
        case measure => simp [intOf]; omega
      | false =>
        have HB := Lib.hid hb
        clear hb
        have e59 : ((c.toNat : Int) == 59) = (c == 59) := byte_eq c 59
        cases hm : c == 59 with
        | true =>
          rw [hm] at e59
          have HM := Lib.hid hm
          clear hm
          try dsimp only
          go_wp2_with fail
          clear hx
          go_loop [1] (fun av => ∃ m : Nat, k ≤ m ∧ m ≤ s.size ∧ av = .int .i64 (m : Int) ∧ scan (fun b => b != 10) l m = scan (fun b => b != 10) l k) (fun av => s.size - (intOf av).toNat)
          case atStart => exact ⟨k, Nat.le_refl _, hk, rfl, rfl⟩
          case round =>
            obtain ⟨m, hkm, hm, rfl, hsc⟩ := hrel
            have HSC := Lib.hid hsc
            have HFIN := Lib.hid (fun (he : scan (fun b => b != 10) l k = m) => show k < m ∧ skipAt l m = skipAt l a from by
              have c59 : l.getD k 0 = 59 := by have := HM.out; rw [HC.out] at this; simpa using this
              refine ⟨?_, ?_⟩
              · rw [← he, ← scan_next (by rw [HZ.out]; exact hlt) (by rw [c59]; decide)]
                exact le_scan _ _ _
              · rw [← he, ← skipAt_line (by rw [HZ.out]; exact hlt) c59]; exact HS.out)
            clear hsc
            by_cases hltm : m < s.size
            · have hx := HAT.out m hltm
              have h1 : decide ((m : Int) < (s.size : Int)) = true := decide_eq_true (by omega)
              obtain ⟨c2, hc2⟩ : ∃ c, c = l.getD m 0 := ⟨_, rfl⟩
              rw [← hc2] at hx
              have HC2 := Lib.hid hc2
              clear hc2
              have e10 : ((c2.toNat : Int) != 10) = (c2 != 10) := by unfold bne; rw [show ((c2.toNat : Int) == 10) = (c2 == 10) from byte_eq c2 10]
              cases hn : c2 != 10 with
              | true =>
                rw [hn] at e10
                have HN := Lib.hid hn
                clear hn
                go_wp2_with fail
                go_round
                case rel => exact ⟨m + 1, by omega, by omega, by go_num, (scan_next (by rw [HZ.out]; exact hltm) (by rw [← HC2.out]; exact HN.out)).trans HSC.out⟩
                case measure => simp [intOf]; omega
              | false =>
                rw [hn] at e10
                have HN := Lib.hid hn
                clear hn
                have hfin := HFIN.out (HSC.out.symm.trans (scan_stop (by rw [HZ.out]; exact hltm) (by rw [← HC2.out]; exact HN.out)))
                have HF := Lib.hid hfin
                have hlt2 := hfin.1
                clear hfin
                go_wp2_with fail
                go_round
                case rel => exact ⟨m, hm, rfl, HF.out.2⟩
                case measure => simp [intOf]; omega
            · have h1 : decide ((m : Int) < (s.size : Int)) = false := decide_eq_false (by omega)
              have h2 : decide (m < s.size) = false := decide_eq_false (by omega)
              have hfin := HFIN.out (HSC.out.symm.trans (scan_end (by rw [HZ.out]; omega)))
              have HF := Lib.hid hfin
              have hlt2 := hfin.1
              clear hfin
              go_wp2_with fail
              go_round
              case rel => exact ⟨m, hm, rfl, HF.out.2⟩
              case measure => simp [intOf]; omega
        | false =>
          rw [hm] at e59
          have HM := Lib.hid hm
          clear hm
          try dsimp only
          go_wp2_with fail
          refine (Tryz.strings_HasPrefix _ _ _).mono ?_
          rintro e w1 ⟨rfl, rfl⟩
          rw [show Lib.hasPrefix (s.extract k s.size).data.toList (⟨#[35, 124]⟩ : ByteArray).data.toList = _ from HP.out k hlt]
          by_cases hp : k + 1 < s.size ∧ l.getD k 0 = 35 ∧ l.getD (k + 1) 0 = 124
          · rw [decide_eq_true hp]
            have HPP := Lib.hid hp
            have hk1 := hp.1
            clear hp
            try dsimp only
            go_wp2_with fail
            refine (HCM.out k _ hk1 HPP.out.2.1 HPP.out.2.2).mono ?_
            intro e w1 hpost
            cases hcb : comB 1 (l.drop (k + 2)) with
            | none =>
              rw [hcb] at hpost
              obtain ⟨v, rfl, ⟨A, B, what, rfl, hb1, hb2⟩, hkp⟩ := hpost
              have HE := Lib.hid (show ErrAt w1 (.iface 207 (.pointer (some ⟨B, 0, none⟩))) k 11 from ⟨A, B, what, rfl, hb1, hb2⟩)
              have HK := Lib.hid hkp
              have HCB := Lib.hid hcb
              clear hb1 hb2 hkp hcb
              try dsimp only
              go_wp2_with fail
              refine bodyPost_ret (v := .tuple #[.int .i64 0, .iface 207 (.pointer (some ⟨B, 0, none⟩))]) (by simp [results, Tryz.results55, go_sem]) rfl ?_
              rw [← HS.out, skipAt_open (by rw [HZ.out]; exact hk1) HPP.out.2.1 HPP.out.2.2 HCB.out]
              exact ⟨_, rfl, HE.out, HK.out⟩
            | some k2 =>
              rw [hcb] at hpost
              obtain ⟨rfl, rfl⟩ := hpost
              have hle := comB_le _ _ _ hcb
              rw [List.length_drop, HZ.out] at hle
              have HCB := Lib.hid hcb
              clear hcb
              try dsimp only
              go_wp2_with fail
              go_round
              case rel => exact ⟨k + 2 + k2, by omega, by go_num, (skipAt_com (by rw [HZ.out]; exact hk1) HPP.out.2.1 HPP.out.2.2 HCB.out).symm.trans HS.out⟩
              case measure => simp [intOf]; omega
          · rw [decide_eq_false hp]
            have HPP := Lib.hid hp
            clear hp
            try dsimp only
            go_wp2_with fail
            refine bodyPost_ret (v := .tuple #[.int .i64 (k : Int), .nilIface]) (by simp [results, Tryz.results55, go_sem]) rfl ?_
            rw [← HS.out, skipAt_stop (by rw [HZ.out]; exact hlt) (by rw [← HC.out]; exact HB.out) (by rw [← HC.out]; have := HM.out; simpa using this) (by rw [HZ.out]; exact HPP.out)]
            exact ⟨rfl, rfl⟩
    · have h0 : decide ((k : Int) < (s.size : Int)) = false := decide_eq_false (by omega)
      have h1 : decide (k < s.size) = false := decide_eq_false (by omega)
      go_wp2_with fail
      obtain rfl : k = s.size := by omega
      refine bodyPost_ret (v := .tuple #[.int .i64 (s.size : Int), .nilIface]) (by simp [results, Tryz.results55, go_sem]) rfl ?_
      rw [← HS.out, ← HZ.out, skipAt_end]
      exact ⟨rfl, rfl⟩
end Go.Proofs.YtonnikipeokkaaaGreatDoor
