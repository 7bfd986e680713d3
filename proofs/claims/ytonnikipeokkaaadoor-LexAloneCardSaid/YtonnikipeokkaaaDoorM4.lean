/-
  Numbers, by program: texts of another seat, turned to this one.
-/
import Derived.Test.YtonnikipeokkaaaDoorM5
import Derived.LoopN
import Derived.Maps.AppendAt
namespace Go.Proofs.YtonnikipeokkaaaDoor
open Go.RowKit Go.Lib
set_option maxRecDepth 100000 in
set_option maxHeartbeats 1000000 in
theorem rblank_any (b : UInt8) (w : World) : Calls Tryd.prog 13 #[.int .u8 (b.toNat : Int)] w fun e w' => e = .returned (.bool (blankB b)) ∧ w = w' := by
  by_cases h9 : b = 9
  · subst h9
    go_enter Tryd.func13, Tryd.ntmps13
    go_wp2_with fail
    go_ret
    exact ⟨rfl, rfl⟩
  by_cases h10 : b = 10
  · subst h10
    go_enter Tryd.func13, Tryd.ntmps13
    go_wp2_with fail
    go_ret
    exact ⟨rfl, rfl⟩
  by_cases h12 : b = 12
  · subst h12
    go_enter Tryd.func13, Tryd.ntmps13
    go_wp2_with fail
    go_ret
    exact ⟨rfl, rfl⟩
  by_cases h13 : b = 13
  · subst h13
    go_enter Tryd.func13, Tryd.ntmps13
    go_wp2_with fail
    go_ret
    exact ⟨rfl, rfl⟩
  by_cases h32 : b = 32
  · subst h32
    go_enter Tryd.func13, Tryd.ntmps13
    go_wp2_with fail
    go_ret
    exact ⟨rfl, rfl⟩
  have hb : blankB b = false := by unfold blankB; simp [h9, h10, h12, h13, h32]
  rw [hb]
  have e9 : ((b.toNat : Int) == 9) = false := by rw [show ((b.toNat : Int) == 9) = (b == 9) from byte_eq b 9]; simpa using h9
  have e10 : ((b.toNat : Int) == 10) = false := by rw [show ((b.toNat : Int) == 10) = (b == 10) from byte_eq b 10]; simpa using h10
  have e12 : ((b.toNat : Int) == 12) = false := by rw [show ((b.toNat : Int) == 12) = (b == 12) from byte_eq b 12]; simpa using h12
  have e13 : ((b.toNat : Int) == 13) = false := by rw [show ((b.toNat : Int) == 13) = (b == 13) from byte_eq b 13]; simpa using h13
  have e32 : ((b.toNat : Int) == 32) = false := by rw [show ((b.toNat : Int) == 32) = (b == 32) from byte_eq b 32]; simpa using h32
  obtain ⟨d, hd⟩ : ∃ d, d = (b.toNat : Int) := ⟨_, rfl⟩
  rw [← hd] at e9 e10 e12 e13 e32 ⊢
  clear h9 h10 h12 h13 h32 hb hd
  go_enter Tryd.func13, Tryd.ntmps13
  go_wp2_with fail
  go_ret
  exact ⟨rfl, rfl⟩
set_option maxRecDepth 100000 in
set_option maxHeartbeats 2000000 in
theorem two_any (s : ByteArray) (a : Nat) (x y : UInt8) (w : World) (hs : s.size ≤ 1000000) (ha : a ≤ s.size) : Calls Tryd.prog 14 #[.string s, .int .i64 (a : Int), .int .u8 (x.toNat : Int), .int .u8 (y.toNat : Int)] w fun e w' => e = .returned (.bool (decide (a + 1 < s.size ∧ s.data.toList.getD a 0 = x ∧ s.data.toList.getD (a + 1) 0 = y))) ∧ w = w' := by
  have hz : s.data.toList.length = s.size := (Lib.size_eq s).symm
  by_cases h : a + 1 < s.size
  · have h1 : decide ((a : Int) + 1 < (s.size : Int)) = true := decide_eq_true (by omega)
    have hx1 := at_run s a (by omega) _ rfl
    have hx2 := at_run s (a + 1) (by omega) _ rfl
    obtain ⟨c, hc⟩ : ∃ c, c = s.data.toList.getD a 0 := ⟨_, rfl⟩
    obtain ⟨d, hd⟩ : ∃ d, d = s.data.toList.getD (a + 1) 0 := ⟨_, rfl⟩
    rw [← hc] at hx1 ⊢
    rw [← hd] at hx2 ⊢
    have hx3 : ∀ W : World, (Instr.index 9 (.string s) (.int .i64 ((a : Int) + 1))).run Tryd.prog W = .ok (.int .u8 (d.toNat : Int)) W := hx2
    have e1 : ((c.toNat : Int) == (x.toNat : Int)) = (c == x) := byte_eq c x
    have e2 : ((d.toNat : Int) == (y.toNat : Int)) = (d == y) := byte_eq d y
    have hr : decide (a + 1 < s.size ∧ c = x ∧ d = y) = (c == x && d == y) := by
      rw [Bool.eq_iff_iff]; simp [h]
    rw [hr]
    clear hr hx2 hc hd hz
    cases h3 : c == x with
    | true =>
      rw [h3] at e1
      have HH := Lib.hid h3
      clear h3
      rw [Bool.true_and]
      cases h4 : d == y with
      | true =>
        rw [h4] at e2
        have HH2 := Lib.hid h4
        clear h4
        go_enter Tryd.func14, Tryd.ntmps14
        go_wp2_with fail
        go_ret
        exact ⟨rfl, rfl⟩
      | false =>
        rw [h4] at e2
        have HH2 := Lib.hid h4
        clear h4
        go_enter Tryd.func14, Tryd.ntmps14
        go_wp2_with fail
        go_ret
        exact ⟨rfl, rfl⟩
    | false =>
      rw [h3] at e1
      have HH := Lib.hid h3
      clear h3 e2
      rw [Bool.false_and]
      go_enter Tryd.func14, Tryd.ntmps14
      go_wp2_with fail
      go_ret
      exact ⟨rfl, rfl⟩
  · rw [decide_eq_false (fun g => h g.1)]
    have h1 : decide ((a : Int) + 1 < (s.size : Int)) = false := decide_eq_false (by omega)
    have h2 : decide (a + 1 < s.size) = false := decide_eq_false h
    clear h hz
    go_enter Tryd.func14, Tryd.ntmps14
    go_wp2_with fail
    go_ret
    exact ⟨rfl, rfl⟩
/-- Skip's answer as a number. -/
def skipI : Except Nat Nat → Int
  | .ok j => (j : Int)
  | .error p => -1 - (p : Int)
def RcRel (l : List UInt8) (a d i : Nat) : Prop := ∃ j, i = a + 2 + j ∧ d ≤ j + 1 ∧ ((1 ≤ d ∧ comB 1 (l.drop (a + 2)) = (comB d (l.drop i)).map (· + j)) ∨ (d = 0 ∧ comB 1 (l.drop (a + 2)) = some j))
set_option maxRecDepth 100000 in
set_option maxHeartbeats 8000000 in
theorem rskip_any (s : ByteArray) (a : Nat) (w : World) (ha : a ≤ s.size) (hs : s.size ≤ 100000) :
    Calls Tryd.prog 7 #[.string s, .int .i64 (a : Int)] w fun e w' => e = .returned (.int .i64 (skipI (skipAt s.data.toList a))) ∧ w = w' := by
  have hz : s.data.toList.length = s.size := (Lib.size_eq s).symm
  have HAT := Lib.hid (fun (k : Nat) (hk : k < s.size) => at_run s k (by rw [hz]; exact hk) _ rfl)
  have HTW := Lib.hid (fun (k : Nat) (hk : k ≤ s.size) (x y : UInt8) (w : World) => two_any s k x y w (by omega) hk)
  obtain ⟨l, hl⟩ : ∃ l, l = s.data.toList := ⟨_, rfl⟩
  rw [← hl] at hz HAT HTW ⊢
  have HZ := Lib.hid hz
  clear hl hz
  go_enter Tryd.func7, Tryd.ntmps7
  go_wp2_with fail
  go_loop [1] (fun av => ∃ k : Nat, k ≤ s.size ∧ av = .int .i64 (k : Int) ∧ skipAt l k = skipAt l a) (fun av => s.size - (Lib.intOf av).toNat)
  case atStart => exact ⟨a, ha, rfl, rfl⟩
  case round =>
    obtain ⟨k, hk, rfl, hsk⟩ := hrel
    have HS := Lib.hid hsk
    clear hsk
    by_cases hlt : k < s.size
    · have hx := HAT.out k hlt
      have h0 : decide ((k : Int) < (s.size : Int)) = true := decide_eq_true (by omega)
      obtain ⟨c, hc⟩ : ∃ c, c = l.getD k 0 := ⟨_, rfl⟩
      rw [← hc] at hx
      have HC := Lib.hid hc
      clear hc
      go_wp2_with fail
      refine (rblank_any c _).mono ?_
      rintro e w1 ⟨rfl, rfl⟩
      cases hb : blankB c with
      | true =>
        have HB := Lib.hid hb
        clear hb
        try dsimp only
        go_wp2_with fail
        go_round
        case rel => exact ⟨k + 1, by omega, by go_num, (skipAt_blank (by rw [HZ.out]; exact hlt) (by rw [← HC.out]; exact HB.out)).symm.trans HS.out⟩
        case measure => simp [Lib.intOf]; omega
      | false =>
        have HB := Lib.hid hb
        clear hb
        have e59 : ((c.toNat : Int) == 59) = (c == 59) := byte_eq c 59
        cases hm : c == 59 with
        | true =>
          rw [hm] at e59
          have HM := Lib.hid hm
          clear hm
          try dsimp only
          go_wp2_with fail
          clear hx
          go_loop [1] (fun av => ∃ m : Nat, k ≤ m ∧ m ≤ s.size ∧ av = .int .i64 (m : Int) ∧ scan (fun b => b != 10) l m = scan (fun b => b != 10) l k) (fun av => s.size - (Lib.intOf av).toNat)
          case atStart => exact ⟨k, Nat.le_refl _, hk, rfl, rfl⟩
          case round =>
            obtain ⟨m, hkm, hm, rfl, hsc⟩ := hrel
            have HSC := Lib.hid hsc
            have HFIN := Lib.hid (fun (he : scan (fun b => b != 10) l k = m) => show k < m ∧ skipAt l m = skipAt l a from by
              have c59 : l.getD k 0 = 59 := by have := HM.out; rw [HC.out] at this; simpa using this
              refine ⟨?_, ?_⟩
              · rw [← he, ← scan_next (by rw [HZ.out]; exact hlt) (by rw [c59]; decide)]
                exact le_scan _ _ _
              · rw [← he, ← skipAt_line (by rw [HZ.out]; exact hlt) c59]; exact HS.out)
            clear hsc
            by_cases hltm : m < s.size
            · have hx := HAT.out m hltm
              have h1 : decide ((m : Int) < (s.size : Int)) = true := decide_eq_true (by omega)
              obtain ⟨c2, hc2⟩ : ∃ c, c = l.getD m 0 := ⟨_, rfl⟩
              rw [← hc2] at hx
              have HC2 := Lib.hid hc2
              clear hc2
              have e10 : ((c2.toNat : Int) != 10) = (c2 != 10) := by unfold bne; rw [show ((c2.toNat : Int) == 10) = (c2 == 10) from byte_eq c2 10]
              cases hn : c2 != 10 with
              | true =>
                rw [hn] at e10
                have HN := Lib.hid hn
                clear hn
                go_wp2_with fail
                go_round
                case rel => exact ⟨m + 1, by omega, by omega, by go_num, (scan_next (by rw [HZ.out]; exact hltm) (by rw [← HC2.out]; exact HN.out)).trans HSC.out⟩
                case measure => simp [Lib.intOf]; omega
              | false =>
                rw [hn] at e10
                have HN := Lib.hid hn
                clear hn
                have hfin := HFIN.out (HSC.out.symm.trans (scan_stop (by rw [HZ.out]; exact hltm) (by rw [← HC2.out]; exact HN.out)))
                have HF := Lib.hid hfin
                have hlt2 := hfin.1
                clear hfin
                go_wp2_with fail
                go_round
                case rel => exact ⟨m, hm, rfl, HF.out.2⟩
                case measure => simp [Lib.intOf]; omega
            · have h1 : decide ((m : Int) < (s.size : Int)) = false := decide_eq_false (by omega)
              have h2 : decide (m < s.size) = false := decide_eq_false (by omega)
              have hfin := HFIN.out (HSC.out.symm.trans (scan_end (by rw [HZ.out]; omega)))
              have HF := Lib.hid hfin
              have hlt2 := hfin.1
              clear hfin
              go_wp2_with fail
              go_round
              case rel => exact ⟨m, hm, rfl, HF.out.2⟩
              case measure => simp [Lib.intOf]; omega
        | false =>
          rw [hm] at e59
          have HM := Lib.hid hm
          clear hm
          try dsimp only
          go_wp2_with fail
          refine (HTW.out k hk 35 124 _).mono ?_
          rintro e w1 ⟨rfl, rfl⟩
          by_cases hp : k + 1 < s.size ∧ l.getD k 0 = 35 ∧ l.getD (k + 1) 0 = 124
          · rw [decide_eq_true hp]
            have HPP := Lib.hid hp
            have hk1 := hp.1
            clear hp hx e59
            try dsimp only
            go_wp2_with fail
            go_loop [1, 6] (fun iv dv => ∃ d i : Nat, k < i ∧ i ≤ s.size ∧ d ≤ s.size ∧ iv = .int .i64 (i : Int) ∧ dv = .int .i64 (d : Int) ∧ RcRel l k d i) (fun iv _ => s.size - (Lib.intOf iv).toNat)
            case atStart =>
              refine ⟨1, k + 2, by omega, by omega, by omega, by go_num, by rfl, 0, rfl, by omega, .inl ⟨by omega, ?_⟩⟩
              cases comB 1 (l.drop (k + 2)) <;> rfl
            case round =>
              obtain ⟨d, i, hki, hi, hd, rfl, rfl, j, hij, hdj, hr⟩ := hrel
              rcases hr with ⟨hd1, hR⟩ | ⟨rfl, hR⟩
              · have HR := Lib.hid hR
                have HIJ := Lib.hid hij
                have dp : decide ((0 : Int) < (d : Int)) = true := decide_eq_true (by omega)
                have dp2 : decide (0 < d) = true := decide_eq_true (by omega)
                clear hR hij
                by_cases hlt2 : i + 1 < s.size
                · have h1 : decide ((s.size : Int) ≤ (i : Int) + 1) = false := decide_eq_false (by omega)
                  have h2 : decide (s.size ≤ i + 1) = false := decide_eq_false (by omega)
                  have hdrop : l.drop i = l.getD i 0 :: l.getD (i + 1) 0 :: l.drop (i + 2) := by rw [drop_cons (by rw [HZ.out]; omega), drop_cons (l := l) (i := i + 1) (by rw [HZ.out]; omega)]
                  have HD := Lib.hid hdrop
                  clear hdrop
                  go_wp2_with fail
                  refine (HTW.out i hi 35 124 _).mono ?_
                  rintro e w1 ⟨rfl, rfl⟩
                  by_cases c1 : l.getD i 0 = 35 ∧ l.getD (i + 1) 0 = 124
                  · rw [decide_eq_true (show i + 1 < s.size ∧ l.getD i 0 = 35 ∧ l.getD (i + 1) 0 = 124 from ⟨hlt2, c1⟩)]
                    have HC1 := Lib.hid c1
                    clear c1
                    try dsimp only
                    go_wp2_with fail
                    go_round
                    case rel =>
                      refine ⟨d + 1, i + 2, by omega, by omega, by have := HIJ.out; omega, by go_num, by go_num, j + 2, by have := HIJ.out; omega, by omega, .inl ⟨by omega, ?_⟩⟩
                      rw [HR.out, HD.out, comB, if_pos HC1.out]
                      cases comB (d + 1) (l.drop (i + 2)) <;> simp <;> omega
                    case measure => simp [Lib.intOf]; omega
                  rw [decide_eq_false (fun g : i + 1 < s.size ∧ l.getD i 0 = 35 ∧ l.getD (i + 1) 0 = 124 => c1 g.2)]
                  have HC1 := Lib.hid c1
                  clear c1
                  try dsimp only
                  go_wp2_with fail
                  refine (HTW.out i hi 124 35 _).mono ?_
                  rintro e w1 ⟨rfl, rfl⟩
                  by_cases c2 : l.getD i 0 = 124 ∧ l.getD (i + 1) 0 = 35
                  · rw [decide_eq_true (show i + 1 < s.size ∧ l.getD i 0 = 124 ∧ l.getD (i + 1) 0 = 35 from ⟨hlt2, c2⟩)]
                    have HC2 := Lib.hid c2
                    clear c2
                    have hd1i : (1 : Int) ≤ (d : Int) := by omega
                    try dsimp only
                    go_wp2_with fail
                    go_round
                    case rel =>
                      by_cases hd2 : d = 1
                      · subst hd2
                        refine ⟨0, i + 2, by omega, by omega, by omega, by go_num, by rfl, j + 2, by have := HIJ.out; omega, by omega, .inr ⟨rfl, ?_⟩⟩
                        rw [HR.out, HD.out, comB, if_neg HC1.out, if_pos HC2.out, if_pos (Nat.le_refl 1)]
                        simp; omega
                      · refine ⟨d - 1, i + 2, by omega, by omega, by omega, by go_num, by go_num, j + 2, by have := HIJ.out; omega, by omega, .inl ⟨by omega, ?_⟩⟩
                        rw [HR.out, HD.out, comB, if_neg HC1.out, if_pos HC2.out, if_neg (by omega)]
                        cases comB (d - 1) (l.drop (i + 2)) <;> simp <;> omega
                    case measure => simp [Lib.intOf]; omega
                  rw [decide_eq_false (fun g : i + 1 < s.size ∧ l.getD i 0 = 124 ∧ l.getD (i + 1) 0 = 35 => c2 g.2)]
                  have HC2 := Lib.hid c2
                  clear c2
                  try dsimp only
                  go_wp2_with fail
                  go_round
                  case rel =>
                    refine ⟨d, i + 1, by omega, by omega, by omega, by go_num, rfl, j + 1, by have := HIJ.out; omega, by omega, .inl ⟨hd1, ?_⟩⟩
                    rw [HR.out, HD.out, comB, if_neg HC1.out, if_neg HC2.out, drop_cons (l := l) (i := i + 1) (by rw [HZ.out]; omega)]
                    cases comB d (l.getD (i + 1) 0 :: l.drop (i + 1 + 1)) <;> simp <;> omega
                  case measure => simp [Lib.intOf]; omega
                · have h1 : decide ((s.size : Int) ≤ (i : Int) + 1) = true := decide_eq_true (by omega)
                  have hn : comB d (l.drop i) = none := by
                    have hlen : (l.drop i).length < 2 := by rw [List.length_drop, HZ.out]; omega
                    generalize l.drop i = x at hlen
                    cases x with
                    | nil => rfl
                    | cons x t =>
                      cases t with
                      | nil => rfl
                      | cons y t => simp only [List.length_cons] at hlen; omega
                  have HN := Lib.hid hn
                  have kb : (k : Int) ≤ 100000 := by omega
                  clear hn
                  go_wp2_with fail
                  go_ret
                  refine ⟨?_, rfl⟩
                  have hc : comB 1 (l.drop (k + 2)) = none := by rw [HR.out, HN.out]; rfl
                  rw [← HS.out, skipAt_open (by rw [HZ.out]; exact hk1) HPP.out.2.1 HPP.out.2.2 hc]
                  rfl
              · have HR := Lib.hid hR
                have HIJ := Lib.hid hij
                have dp : decide ((0 : Int) < ((0 : Nat) : Int)) = false := rfl
                clear hR hij
                go_wp2_with fail
                go_round
                case rel => exact ⟨i, hi, rfl, by rw [HIJ.out]; exact (skipAt_com (by rw [HZ.out]; exact hk1) HPP.out.2.1 HPP.out.2.2 HR.out).symm.trans HS.out⟩
                case measure => simp [Lib.intOf]; omega
          · rw [decide_eq_false hp]
            have HPP := Lib.hid hp
            clear hp
            try dsimp only
            go_wp2_with fail
            go_ret
            refine ⟨?_, rfl⟩
            rw [← HS.out, skipAt_stop (by rw [HZ.out]; exact hlt) (by rw [← HC.out]; exact HB.out) (by rw [← HC.out]; have := HM.out; simpa using this) (by rw [HZ.out]; exact HPP.out)]
            rfl
    · have h0 : decide ((k : Int) < (s.size : Int)) = false := decide_eq_false (by omega)
      have h1 : decide (k < s.size) = false := decide_eq_false (by omega)
      go_wp2_with fail
      obtain rfl : k = s.size := by omega
      go_ret
      refine ⟨?_, rfl⟩
      rw [← HS.out, ← HZ.out, skipAt_end]
      rfl
open Go.RowKit Go.Lib
theorem runesGo_nil : ∀ n, runesGo n [] = some []
  | 0 => rfl
  | _ + 1 => by simp [runesGo]
theorem runesGo_fuel : ∀ (n m : Nat) (l : List UInt8), l.length ≤ n → l.length ≤ m → runesGo n l = runesGo m l
  | 0, m, l, hn, _ => by
    have : l = [] := List.eq_nil_of_length_eq_zero (by omega)
    subst this
    rw [runesGo_nil, runesGo_nil]
  | n + 1, 0, l, _, hm => by
    have : l = [] := List.eq_nil_of_length_eq_zero (by omega)
    subst this
    rw [runesGo_nil, runesGo_nil]
  | n + 1, m + 1, l, hn, hm => by
    unfold runesGo
    by_cases hne : l = []
    · simp [hne]
    · have hw := decodeL_wd hne
      rw [if_neg hne, if_neg hne, runesGo_fuel n m (l.drop (decodeL l).2) (by rw [List.length_drop]; omega) (by rw [List.length_drop]; omega)]
theorem runesL_step (l : List UInt8) (hne : l ≠ []) : runesL l = if (decodeL l).1 = 65533 ∧ (decodeL l).2 = 1 then none else (runesL (l.drop (decodeL l).2)).map ((decodeL l).1 :: ·) := by
  have hl : 0 < l.length := List.length_pos_iff.2 hne
  have hw := decodeL_wd hne
  obtain ⟨n, hn⟩ : ∃ n, l.length = n + 1 := ⟨l.length - 1, by omega⟩
  unfold runesL
  rw [hn, runesGo, if_neg hne, runesGo_fuel n (l.drop (decodeL l).2).length _ (by rw [List.length_drop]; omega) (Nat.le_refl _)]
/-- What is known at a round of Runes. -/
structure RuSt (w : World) (l : List UInt8) (i : Nat) (r : List Nat) (A : Option Addr) (n c : Nat) (wr : World) : Prop where
  own : OwnR 21 .i32 wr w.heap.size A n c r
  K : Keep (fun _ => False) w wr
  eq : runesL l = (runesL (l.drop i)).map (r ++ ·)
  le : n ≤ i
theorem RuSt.bad {w wr : World} {l : List UInt8} {i : Nat} {r : List Nat} {A : Option Addr} {n c : Nat} (h : RuSt w l i r A n c wr) (hi : i < l.length) (hb : decodeL (l.drop i) = (65533, 1)) : runesL l = none := by
  rw [h.eq, runesL_step _ (by rw [drop_cons hi]; simp), hb, if_pos ⟨rfl, rfl⟩]
  rfl
/-- One char more. -/
theorem RuSt.more {w wr w2 w3 : World} {l : List UInt8} {i : Nat} {r : List Nat} {A : Option Addr} {n c : Nat} (h : RuSt w l i r A n c wr) (hi : i < l.length) {cp wd : Nat} (hd : decodeL (l.drop i) = (cp, wd)) (hg : ¬ (cp = 65533 ∧ wd = 1)) (k : Keep (fun _ => False) wr w2) {v' : Value}
    (hown : w3.ownsRow w.heap.size 21 1 v' (n + 1) (r.map (fun x : Nat => Value.int .i32 (x : Int)) ++ [.int .i32 (cp : Int)])) (hgrow : w2.grownBy w3 (Value.slice A n c).ownBlock) :
    ∃ A' c', v' = .slice A' (n + 1) c' ∧ RuSt w l (i + wd) (r ++ [cp]) A' (n + 1) c' w3 := by
  have hne : l.drop i ≠ [] := by rw [drop_cons hi]; simp
  have hw := decodeL_wd hne
  rw [hd] at hw
  obtain ⟨A', c', rfl, ho⟩ := own_slice (l := r ++ [cp]) (q := .i32) (e := 21) (v := v') (n := n + 1) (w := w3) (base := w.heap.size) (by rw [List.map_append]; exact hown)
  refine ⟨A', c', rfl, ho, (h.K.trans k).grown hgrow ?_, ?_, by have := h.le; have := hw.1; simp only at this; omega⟩
  · intro b hb
    right
    cases A with
    | none => simp [Value.ownBlock] at hb
    | some ad =>
      rcases h.own.2 with ⟨e, _⟩ | ⟨g, cap, cur, e, hg2, _⟩
      · cases e
      · injection e with e1 _ _
        injection e1 with e1
        subst e1
        simp [Value.ownBlock] at hb
        subst hb
        exact hg2
  · rw [h.eq, runesL_step _ hne, hd]
    simp only
    rw [if_neg hg, List.drop_drop]
    cases runesL (l.drop (i + wd)) <;> simp
open Go.RowKit Go.Lib
section
variable {t : List UInt8} {c z M : Nat} (hne : t ≠ []) (hd : decodeL t = (c, z)) (hg : ¬ (c = 65533 ∧ z = 1)) (hM : M = ((t.drop z).takeWhile (fun b => !delimB b)).length)
include hne hd hg hM
end
open Go.RowKit Go.Lib
theorem dat_cells {w : World} {B : Nat} {x0 x1 x2 x3 x4 x5 : Value} (h : w.heap[B]? = some (.cells #[x0, x1, x2, x3, x4, x5] 31 (0, 0))) :
    w.cell? ⟨B, 0, none⟩ = some x0 ∧ w.cell? ⟨B, 1, none⟩ = some x1 ∧ w.cell? ⟨B, 2, none⟩ = some x2 ∧ w.cell? ⟨B, 3, none⟩ = some x3 ∧ w.cell? ⟨B, 4, none⟩ = some x4 ∧ w.cell? ⟨B, 5, none⟩ = some x5 := by
  refine ⟨?_, ?_, ?_, ?_, ?_, ?_⟩
  all_goals (rw [cell_of_row w _ _ _ _ _ h]; rfl)
set_option maxRecDepth 100000 in
set_option maxHeartbeats 2000000 in
theorem rsame_dat (k c : Int) (neg : Bool) (A A' : Option Addr) (n cp n' cp' : Nat) (t : ByteArray) (l : List Nat) (w : World) (h : LimbsAt w A n cp l) (h' : LimbsAt w A' n' cp' l) :
    Calls Tryd.prog 12 #[datV k c neg A n cp t, datV k c neg A' n' cp' t] w (BoolPost true w) := by
  have hb1 : ((w.alloc (.cells #[.int .i64 k, .int .i32 c, .bool neg, .slice A n cp, .string t, .slice none 0 0] 31)).alloc (.cells #[.int .i64 k, .int .i32 c, .bool neg, .slice A' n' cp', .string t, .slice none 0 0] 31)).heap[w.heap.size]? = some (.cells #[.int .i64 k, .int .i32 c, .bool neg, .slice A n cp, .string t, .slice none 0 0] 31 (0, 0)) := by
    rw [Below.heap_alloc _ _ _ (by simp)]; exact heap_alloc_new w _
  have hb2 : ((w.alloc (.cells #[.int .i64 k, .int .i32 c, .bool neg, .slice A n cp, .string t, .slice none 0 0] 31)).alloc (.cells #[.int .i64 k, .int .i32 c, .bool neg, .slice A' n' cp', .string t, .slice none 0 0] 31)).heap[w.heap.size + 1]? = some (.cells #[.int .i64 k, .int .i32 c, .bool neg, .slice A' n' cp', .string t, .slice none 0 0] 31 (0, 0)) := by
    have := heap_alloc_new (w.alloc (.cells #[.int .i64 k, .int .i32 c, .bool neg, .slice A n cp, .string t, .slice none 0 0] 31)) (.cells #[.int .i64 k, .int .i32 c, .bool neg, .slice A' n' cp', .string t, .slice none 0 0] 31)
    rwa [World.size_alloc] at this
  have K : Keep (fun _ => False) w ((w.alloc (.cells #[.int .i64 k, .int .i32 c, .bool neg, .slice A n cp, .string t, .slice none 0 0] 31)).alloc (.cells #[.int .i64 k, .int .i32 c, .bool neg, .slice A' n' cp', .string t, .slice none 0 0] 31)) := ((Keep.refl _ _).alloc _).alloc _
  have HB1 := Lib.hid hb1
  have HB2 := Lib.hid hb2
  have HK := Lib.hid K
  have HS := Lib.hid (fun (w1 : World) (k1 : Keep (fun _ => False) w w1) => same_any neg A n cp l neg A' n' cp' l w1 (h.keep0 k1) (h'.keep0 k1))
  have HSB := Lib.hid (show sameB neg l neg l = true from decide_eq_true ⟨rfl, rfl⟩)
  obtain ⟨a0, a1, a2, a3, a4, a5⟩ := dat_cells hb1
  obtain ⟨b0, b1, b2, b3, b4, b5⟩ := dat_cells hb2
  have ek : (k != k) = false := by simp
  have ec : (c != c) = false := by simp
  have et : (t.toList != t.toList) = false := by simp
  have et2 : (t.toList == t.toList) = true := by simp
  clear hb1 hb2 K h h'
  go_enter Tryd.func12, Tryd.ntmps12
  go_wp2_with fail
  generalize ((w.alloc (.cells #[.int .i64 k, .int .i32 c, .bool neg, .slice A n cp, .string t, .slice none 0 0] 31)).alloc (.cells #[.int .i64 k, .int .i32 c, .bool neg, .slice A' n' cp', .string t, .slice none 0 0] 31)) = w1 at *
  refine (HS.out _ HK.out).mono ?_
  rintro e w2 ⟨rfl, k2⟩
  rw [HSB.out]
  have hb1 := k2.heap HB1.out (by simp)
  have hb2 := k2.heap HB2.out (by simp)
  have HK2 := Lib.hid (HK.out.trans k2)
  clear a0 a1 a2 a3 a4 a5 b0 b1 b2 b3 b4 b5 k2
  obtain ⟨a0, a1, a2, a3, a4, a5⟩ := dat_cells hb1
  obtain ⟨b0, b1, b2, b3, b4, b5⟩ := dat_cells hb2
  clear hb1 hb2
  go_wp2_with fail
  refine wp_loop_rounds 1 ?_
  rw [rounds_succ]
  go_wp2_with fail
  go_ret
  exact ⟨rfl, HK2.out⟩
set_option maxRecDepth 100000 in
set_option maxHeartbeats 2000000 in
theorem rsame_tok (kind at_ end_ : Int) (sq : Bool) (k c : Int) (neg : Bool) (A A' : Option Addr) (n cp n' cp' : Nat) (t : ByteArray) (l : List Nat) (w : World) (h : LimbsAt w A n cp l) (h' : LimbsAt w A' n' cp' l) :
    Calls Tryd.prog 9 #[tokV kind at_ end_ sq k c neg A n cp t, tokV kind at_ end_ sq k c neg A' n' cp' t] w (BoolPost true w) := by
  have hb1 : ((w.alloc (.cells #[.int .i64 kind, .int .i64 at_, .int .i64 end_, .bool sq, .int .i64 k, .int .i32 c, .bool neg, .slice A n cp, .string t, .slice none 0 0] 33)).alloc (.cells #[.int .i64 kind, .int .i64 at_, .int .i64 end_, .bool sq, .int .i64 k, .int .i32 c, .bool neg, .slice A' n' cp', .string t, .slice none 0 0] 33)).heap[w.heap.size]? = some (.cells #[.int .i64 kind, .int .i64 at_, .int .i64 end_, .bool sq, .int .i64 k, .int .i32 c, .bool neg, .slice A n cp, .string t, .slice none 0 0] 33 (0, 0)) := by
    rw [Below.heap_alloc _ _ _ (by simp)]; exact heap_alloc_new w _
  have hb2 : ((w.alloc (.cells #[.int .i64 kind, .int .i64 at_, .int .i64 end_, .bool sq, .int .i64 k, .int .i32 c, .bool neg, .slice A n cp, .string t, .slice none 0 0] 33)).alloc (.cells #[.int .i64 kind, .int .i64 at_, .int .i64 end_, .bool sq, .int .i64 k, .int .i32 c, .bool neg, .slice A' n' cp', .string t, .slice none 0 0] 33)).heap[w.heap.size + 1]? = some (.cells #[.int .i64 kind, .int .i64 at_, .int .i64 end_, .bool sq, .int .i64 k, .int .i32 c, .bool neg, .slice A' n' cp', .string t, .slice none 0 0] 33 (0, 0)) := by
    have := heap_alloc_new (w.alloc (.cells #[.int .i64 kind, .int .i64 at_, .int .i64 end_, .bool sq, .int .i64 k, .int .i32 c, .bool neg, .slice A n cp, .string t, .slice none 0 0] 33)) (.cells #[.int .i64 kind, .int .i64 at_, .int .i64 end_, .bool sq, .int .i64 k, .int .i32 c, .bool neg, .slice A' n' cp', .string t, .slice none 0 0] 33)
    rwa [World.size_alloc] at this
  have K : Keep (fun _ => False) w ((w.alloc (.cells #[.int .i64 kind, .int .i64 at_, .int .i64 end_, .bool sq, .int .i64 k, .int .i32 c, .bool neg, .slice A n cp, .string t, .slice none 0 0] 33)).alloc (.cells #[.int .i64 kind, .int .i64 at_, .int .i64 end_, .bool sq, .int .i64 k, .int .i32 c, .bool neg, .slice A' n' cp', .string t, .slice none 0 0] 33)) := ((Keep.refl _ _).alloc _).alloc _
  have HK := Lib.hid K
  have HS := Lib.hid (fun (w1 : World) (k1 : Keep (fun _ => False) w w1) => rsame_dat k c neg A A' n cp n' cp' t l w1 (h.keep0 k1) (h'.keep0 k1))
  obtain ⟨⟨a0, a1, a2, a3, a4, a5, a6, a7, a8, a9⟩, _⟩ := tok_cells hb1
  obtain ⟨⟨b0, b1, b2, b3, b4, b5, b6, b7, b8, b9⟩, _⟩ := tok_cells hb2
  have e1 : (kind == kind) = true := by simp
  have e2 : (at_ == at_) = true := by simp
  have e3 : (end_ == end_) = true := by simp
  have e4 : (sq == sq) = true := by simp
  clear hb1 hb2 K h h'
  go_enter Tryd.func9, Tryd.ntmps9
  go_wp2_with fail
  generalize ((w.alloc (.cells #[.int .i64 kind, .int .i64 at_, .int .i64 end_, .bool sq, .int .i64 k, .int .i32 c, .bool neg, .slice A n cp, .string t, .slice none 0 0] 33)).alloc (.cells #[.int .i64 kind, .int .i64 at_, .int .i64 end_, .bool sq, .int .i64 k, .int .i32 c, .bool neg, .slice A' n' cp', .string t, .slice none 0 0] 33)) = w1 at *
  refine (HS.out _ HK.out).mono ?_
  rintro e w2 ⟨rfl, k2⟩
  have HK2 := Lib.hid (HK.out.trans k2)
  clear a0 a1 a2 a3 a4 a5 a6 a7 a8 a9 b0 b1 b2 b3 b4 b5 b6 b7 b8 b9 k2
  go_wp2_with fail
  go_ret
  exact ⟨rfl, HK2.out⟩
open Go.RowKit Go.Lib
theorem info29 : (Tryd.prog.info? 33).map (fun i => (i.zero, i.size, i.bytes)) = some (some (.agg #[.int .i64 0, .int .i64 0, .int .i64 0, .bool false, .int .i64 0, .int .i32 0, .bool false, .slice none 0 0, .string ⟨#[]⟩, .slice none 0 0]), 10, 120) := by kernel_rfl
/-- A token's cells. -/
structure TV where
  kind : Int
  at_ : Int
  en : Int
  sq : Bool
  k : Int
  c : Int
  neg : Bool
  A : Option Addr
  n : Nat
  cp : Nat
  x : ByteArray
def TV.cells (v : TV) : List Value := [.int .i64 v.kind, .int .i64 v.at_, .int .i64 v.en, .bool v.sq, .int .i64 v.k, .int .i32 v.c, .bool v.neg, .slice v.A v.n v.cp, .string v.x, .slice none 0 0]
/-- The cells of a token that was read at a place. -/
def TvIs (w : World) (p : Nat × Tk) (v : TV) : Prop := v.kind = (p.2.kind : Int) ∧ v.at_ = (p.1 : Int) ∧ v.en = ((p.1 + p.2.len : Nat) : Int) ∧ v.sq = p.2.sq ∧ LeafAt w p.2.d v.k v.c v.neg v.A v.n v.cp v.x
def TvAll (w : World) : List (Nat × Tk) → List TV → Prop
  | [], [] => True
  | p :: ps, v :: vs => TvIs w p v ∧ TvAll w ps vs
  | _, _ => False
theorem LeafAt.grown {w w' : World} {d : Leaf} {k c : Int} {neg : Bool} {A : Option Addr} {n cp : Nat} {t : ByteArray} {S : Nat → Prop} (h : LeafAt w d k c neg A n cp t) (K : Keep S w w') (hs : ∀ b, S b → ∀ X, w.heap[b]? ≠ some (.cells X 69 (0, 0))) : LeafAt w' d k c neg A n cp t := by
  cases d
  case int x => exact ⟨h.1, h.2.1, h.2.2.1, h.2.2.2.1.keep K hs, h.2.2.2.2⟩
  all_goals exact h
theorem TvAll.keep {w w' : World} {S : Nat → Prop} (K : Keep S w w') (hs : ∀ b, S b → ∀ X, w.heap[b]? ≠ some (.cells X 69 (0, 0))) : ∀ {ps : List (Nat × Tk)} {vs : List TV}, TvAll w ps vs → TvAll w' ps vs
  | [], [], _ => trivial
  | _p :: _ps, _v :: _vs, h => ⟨⟨h.1.1, h.1.2.1, h.1.2.2.1, h.1.2.2.2.1, h.1.2.2.2.2.grown K hs⟩, TvAll.keep K hs h.2⟩
  | [], _ :: _, h => h.elim
  | _ :: _, [], h => h.elim
theorem TvAll.keep0 {w w' : World} (K : Keep (fun _ => False) w w') {ps : List (Nat × Tk)} {vs : List TV} (h : TvAll w ps vs) : TvAll w' ps vs := h.keep K (fun _ h => h.elim)
theorem TvAll.snoc {w : World} {p : Nat × Tk} {v : TV} (hp : TvIs w p v) : ∀ {ps : List (Nat × Tk)} {vs : List TV}, TvAll w ps vs → TvAll w (ps ++ [p]) (vs ++ [v])
  | [], [], _ => ⟨hp, trivial⟩
  | _ :: _, _ :: _, h => ⟨h.1, TvAll.snoc hp h.2⟩
  | [], _ :: _, h => h.elim
  | _ :: _, [], h => h.elim
theorem TvAll.len {w : World} : ∀ {ps : List (Nat × Tk)} {vs : List TV}, TvAll w ps vs → vs.length = ps.length
  | [], [], _ => rfl
  | _ :: _, _ :: _, h => by rw [List.length_cons, List.length_cons, TvAll.len h.2]
  | [], _ :: _, h => h.elim
  | _ :: _, [], h => h.elim
/-- An owned row of tokens lies in no block of limbs. -/
theorem tkrow_off {w : World} {base n c : Nat} {A : Option Addr} {xs : List Value} (h : w.ownsRow base 33 10 (.slice A n c) n xs) : ∀ b, (Value.slice A n c).ownBlock = some b → base ≤ b ∧ b < w.heap.size ∧ ∀ X, w.heap[b]? ≠ some (.cells X 69 (0, 0)) := by
  intro b hb
  rcases h.2 with ⟨hv, h0⟩ | ⟨g, cap, cur, hv, hg, hh, h1, h2⟩
  · injection hv with e1 _ _
    subst e1
    cases hb
  · injection hv with e1 _ _
    subst e1
    injection hb with hb
    subst hb
    refine ⟨hg, heap_lt hh, fun X hX => ?_⟩
    rw [hh] at hX
    injection hX with hX
    injection hX with _ hX
    cases hX
theorem tkrow_slice {w : World} {base k : Nat} {v : Value} {xs : List Value} (h : w.ownsRow base 33 10 v (k + 1) xs) : ∃ A c, v = .slice A (k + 1) c := by
  rcases h.2 with ⟨hv, h0⟩ | ⟨g, cap, cur, hv, _⟩
  · omega
  · exact ⟨_, _, hv⟩
theorem tkrow_keep {w w' : World} {base n c : Nat} {A : Option Addr} {xs : List Value} (h : w.ownsRow base 33 10 (.slice A n c) n xs) (K : Keep (fun _ => False) w w') : w'.ownsRow base 33 10 (.slice A n c) n xs := by
  refine ⟨h.1, ?_⟩
  rcases h.2 with ⟨hv, h0⟩ | ⟨g, cap, cur, hv, hg, hh, h1, h2⟩
  · exact .inl ⟨hv, h0⟩
  · exact .inr ⟨g, cap, cur, hv, hg, K.heap hh id, h1, h2⟩
theorem Toks.inv {l : List UInt8} {i p c : Nat} {ts : List (Nat × Tk)} (h : Toks l i ts p c) :
    (nextV l i = .error (p, c) ∧ ts = []) ∨ (∃ j t, nextV l i = .ok (j, t) ∧ t.kind = 0 ∧ ts = [] ∧ p = 0 ∧ c = 0) ∨
    ∃ j t us, nextV l i = .ok (j, t) ∧ t.kind ≠ 0 ∧ ts = (j, t) :: us ∧ Toks l (j + t.len) us p c := by
  cases h with
  | bad h => exact .inl ⟨h, rfl⟩
  | fin h hk => exact .inr (.inl ⟨_, _, h, hk, rfl, rfl, rfl⟩)
  | cons h hk n => exact .inr (.inr ⟨_, _, _, h, hk, rfl, n⟩)
theorem nextV_code {l : List UInt8} {i : Int} {p c : Nat} (h : nextV l i = .error (p, c)) : c ≠ 0 := by
  unfold nextV at h
  split at h
  · injection h with h; injection h with h1 h2; omega
  split at h
  · injection h with h; injection h with h1 h2; omega
  · have := (lexAt_err (by omega) h).2
    omega
theorem nextV_len {l : List UInt8} {i j : Nat} {t : Tk} (h : nextV l i = .ok (j, t)) : l.length ≤ 4096 ∧ i ≤ l.length := by
  unfold nextV at h
  split at h
  · cases h
  split at h
  · cases h
  · omega
theorem nextV_on {l : List UInt8} {i j : Nat} {t : Tk} (h : nextV l i = .ok (j, t)) (hk : t.kind ≠ 0) : i < j + t.len ∧ j + t.len ≤ l.length := by
  obtain ⟨h1, h2⟩ := nextV_len h
  rw [nextV_eq h1 h2] at h
  obtain ⟨a, b, _, d⟩ := lexAt_ok h2 h
  rcases d with ⟨_, d⟩ | ⟨_, _, d, _⟩
  · rw [d] at hk; exact absurd rfl hk
  · omega
/-- Every text has its tokens. -/
theorem Toks.ex (l : List UInt8) : ∀ (n i : Nat), l.length ≤ i + n → i ≤ l.length → ∃ ts p c, Toks l i ts p c := by
  intro n
  induction n with
  | zero =>
    intro i h1 h2
    cases hn : nextV l i with
    | error r => obtain ⟨p, c⟩ := r; exact ⟨[], p, c, .bad hn⟩
    | ok r =>
      obtain ⟨j, t⟩ := r
      by_cases hk : t.kind = 0
      · exact ⟨[], 0, 0, .fin hn hk⟩
      · have := nextV_on hn hk; omega
  | succ n ih =>
    intro i h1 h2
    cases hn : nextV l i with
    | error r => obtain ⟨p, c⟩ := r; exact ⟨[], p, c, .bad hn⟩
    | ok r =>
      obtain ⟨j, t⟩ := r
      by_cases hk : t.kind = 0
      · exact ⟨[], 0, 0, .fin hn hk⟩
      · obtain ⟨g1, g2⟩ := nextV_on hn hk
        obtain ⟨ts, p, c, h⟩ := ih (j + t.len) (by omega) g2
        exact ⟨_, p, c, .cons hn hk h⟩
/-- What All answers. -/
def AllPost (ts : List (Nat × Tk)) (p c : Nat) (w : World) (e : Ending) (w' : World) : Prop :=
  ∃ (vs : List TV) (A : Option Addr) (cap : Nat), e = .returned (.tuple #[.slice A ts.length cap, .int .i64 (p : Int), .int .i64 (c : Int)]) ∧ TvAll w' ts vs ∧ w'.ownsRow w.heap.size 33 10 (.slice A ts.length cap) ts.length (vs.flatMap TV.cells) ∧ Keep (fun _ => False) w w'
/-- At a round. -/
structure AllSt (w : World) (l : List UInt8) (ts : List (Nat × Tk)) (p c i n : Nat) (done rest : List (Nat × Tk)) (vs : List TV) (A : Option Addr) (cap : Nat) (wr : World) : Prop where
  cnt : n = done.length
  eqs : ts = done ++ rest
  toks : Toks l i rest p c
  own : wr.ownsRow w.heap.size 33 10 (.slice A n cap) n (vs.flatMap TV.cells)
  all : TvAll wr done vs
  K : Keep (fun _ => False) w wr
  le : n ≤ i
theorem AllSt.fin {w : World} {l : List UInt8} {ts : List (Nat × Tk)} {p c i n : Nat} {done : List (Nat × Tk)} {vs : List TV} {A : Option Addr} {cap : Nat} {wr w2 : World} (h : AllSt w l ts p c i n done [] vs A cap wr) (K : Keep (fun _ => False) wr w2) : AllPost ts p c w (.returned (.tuple #[.slice A n cap, .int .i64 (p : Int), .int .i64 (c : Int)])) w2 := by
  have e : ts = done := by rw [h.eqs, List.append_nil]
  subst e
  have hn := h.cnt
  subst hn
  exact ⟨vs, A, cap, rfl, h.all.keep0 K, tkrow_keep h.own K, h.K.trans K⟩
theorem AllSt.more {w : World} {l : List UInt8} {ts : List (Nat × Tk)} {p c i n : Nat} {done us : List (Nat × Tk)} {vs : List TV} {A : Option Addr} {cap : Nat} {wr w2 w3 : World} {j : Nat} {t : Tk} (h : AllSt w l ts p c i n done ((j, t) :: us) vs A cap wr) (hn : nextV l i = .ok (j, t)) (hk : t.kind ≠ 0) (hT : Toks l (j + t.len) us p c) (K : Keep (fun _ => False) wr w2) {v : TV} (hv : TvIs w2 (j, t) v) {v' : Value}
    (hown : w3.ownsRow w.heap.size 33 10 v' (n + 1) (vs.flatMap TV.cells ++ v.cells)) (hgrow : w2.grownBy w3 (Value.slice A n cap).ownBlock) :
    ∃ A' c', v' = .slice A' (n + 1) c' ∧ AllSt w l ts p c (j + t.len) (n + 1) (done ++ [(j, t)]) us (vs ++ [v]) A' c' w3 := by
  have hrow := tkrow_off (tkrow_keep h.own K)
  obtain ⟨A', c', rfl⟩ := tkrow_slice hown
  have KG : Keep (fun b => (Value.slice A n cap).ownBlock = some b) w2 w3 := (Keep.refl _ _).grown hgrow (fun k hk => .inl hk)
  have := nextV_on hn hk
  refine ⟨A', c', rfl, by rw [List.length_append, h.cnt]; rfl, by rw [h.eqs]; simp, hT, ?_, ?_, (h.K.trans K).grown hgrow (fun k hk => .inr (hrow k hk).1), by have := h.le; omega⟩
  · rw [List.flatMap_append]
    simpa using hown
  · exact TvAll.snoc ⟨hv.1, hv.2.1, hv.2.2.1, hv.2.2.2.1, hv.2.2.2.2.grown KG (fun b hb => (hrow b hb).2.2)⟩ ((h.all.keep0 K).keep KG (fun b hb => (hrow b hb).2.2))
theorem new_cells {w : World} {B : Nat} {x0 x1 x2 x3 x4 x5 x6 x7 x8 x9 : Value} (h : w.heap[B]? = some (.cells #[x0, x1, x2, x3, x4, x5, x6, x7, x8, x9] 33 (0, 0))) : ∀ j u, [x0, x1, x2, x3, x4, x5, x6, x7, x8, x9][j]? = some u → w.cell? ((⟨B, 0, none⟩ : Addr).add j) = some u := by
  intro j u hu
  rw [Addr.add_lit, Nat.zero_add, cell_of_row w _ _ _ _ _ h, ← hu]
  simp
set_option maxRecDepth 100000 in
set_option maxHeartbeats 4000000 in
theorem all_any (s : ByteArray) (ts : List (Nat × Tk)) (p c : Nat) (w : World) (hT : Tabs w) (h : Toks s.data.toList 0 ts p c) :
    Calls Tryd.prog 6 #[.string s] w (AllPost ts p c w) := by
  have hz : s.data.toList.length = s.size := (Lib.size_eq s).symm
  have HT := Lib.hid hT
  have HNX := Lib.hid (fun (i : Nat) (w : World) hT => lexNext_any s (i : Int) w hT)
  obtain ⟨l, hl⟩ : ∃ l, l = s.data.toList := ⟨_, rfl⟩
  rw [← hl] at hz HNX h
  have HZ := Lib.hid hz
  have HH := Lib.hid h
  clear hl hz h hT
  obtain ⟨i29, h29, hz0, hz1, hz2⟩ := info_parts info29
  go_enter Tryd.func6, Tryd.ntmps6
  go_wp2_with fail
  go_loopw [2, 5] (fun ov av wr => ∃ (i n : Nat) (done rest : List (Nat × Tk)) (vs : List TV) (A : Option Addr) (cap : Nat), ov = .slice A n cap ∧ av = .int .i64 (i : Int) ∧ AllSt w l ts p c i n done rest vs A cap wr) (fun _ av _ => s.size - (Lib.intOf av).toNat)
  case atStart => exact ⟨0, 0, [], ts, [], none, 0, rfl, rfl, rfl, rfl, HH.out, ⟨rfl, .inl ⟨rfl, rfl⟩⟩, trivial, Keep.refl _ _, Nat.le_refl _⟩
  case round =>
    obtain ⟨i, n, done, rest, vs, A, cap, rfl, rfl, hst⟩ := hrel
    have HS := Lib.hid hst
    have HTR := Lib.hid (HT.out.keep hst.K)
    clear hst
    go_wp2_with fail
    refine (HNX.out i _ HTR.out).mono ?_
    intro e w2 hres
    obtain ⟨hn, hr⟩ | ⟨j, t, hn, hk, hr, hp, hc⟩ | ⟨j, t, us, hn, hk, hr, hto⟩ := HS.out.toks.inv
    · rw [hn] at hres
      obtain ⟨rfl, k2⟩ := hres
      have hc := nextV_code hn
      have k3 := k2.alloc (.cells #[.int .i64 0, .int .i64 0, .int .i64 0, .bool false, .int .i64 0, .int .i32 0, .bool false, .slice none 0 0, .string ⟨#[]⟩, .slice none 0 0] 33)
      subst hr
      have HF := Lib.hid (HS.out.fin k3)
      obtain ⟨cc, hcc⟩ : ∃ z : Int, z = (c : Int) := ⟨_, rfl⟩
      rw [← hcc] at HF ⊢
      have hne : (cc != 0) = true := by rw [hcc]; simp; omega
      clear hn hc k2 k3 hcc
      go_wp2_with fail
      exact bodyPost_ret (v := .tuple #[.slice A n cap, .int .i64 (p : Int), .int .i64 cc]) (by simp [results, Tryd.results6, go_sem]) rfl HF.out
    · rw [hn] at hres
      obtain ⟨k, c2, neg, A2, n2, cp2, x, he, hlf, k2⟩ := hres
      obtain ⟨te, hte⟩ : ∃ z : Int, z = ((j + t.len : Nat) : Int) := ⟨_, rfl⟩
      obtain ⟨ts', hts⟩ : ∃ z : Bool, z = t.sq := ⟨_, rfl⟩
      rw [hk, ← hte, ← hts] at he
      have he : e = .returned (.tuple #[tokV 0 (j : Int) te ts' k c2 neg A2 n2 cp2 x, .int .i64 0, .int .i64 0]) := he
      subst he
      have k3 := k2.alloc (.cells #[.int .i64 0, .int .i64 (j : Int), .int .i64 te, .bool ts', .int .i64 k, .int .i32 c2, .bool neg, .slice A2 n2 cp2, .string x, .slice none 0 0] 33)
      subst hr hp hc
      have HF := Lib.hid (HS.out.fin k3)
      clear hn hk k2 k3 hlf hte hts
      go_wp2_with fail
      exact bodyPost_ret (v := .tuple #[.slice A n cap, .int .i64 0, .int .i64 0]) (by simp [results, Tryd.results6, go_sem]) rfl HF.out
    · rw [hn] at hres
      obtain ⟨k, c2, neg, A2, n2, cp2, x, he, hlf, k2⟩ := hres
      obtain ⟨tk, htk⟩ : ∃ z : Int, z = (t.kind : Int) := ⟨_, rfl⟩
      obtain ⟨te, hte⟩ : ∃ z : Int, z = ((j + t.len : Nat) : Int) := ⟨_, rfl⟩
      obtain ⟨ts', hts⟩ : ∃ z : Bool, z = t.sq := ⟨_, rfl⟩
      rw [← htk, ← hte, ← hts] at he
      subst he
      have hk0 : (tk == 0) = false := by rw [htk]; simp; omega
      subst hr
      have C1 : Array Value := #[.int .i64 tk, .int .i64 (j : Int), .int .i64 te, .bool ts', .int .i64 k, .int .i32 c2, .bool neg, .slice A2 n2 cp2, .string x, .slice none 0 0]
      have k3 := (k2.alloc (.cells #[.int .i64 tk, .int .i64 (j : Int), .int .i64 te, .bool ts', .int .i64 k, .int .i32 c2, .bool neg, .slice A2 n2 cp2, .string x, .slice none 0 0] 33)).alloc (.cells #[.int .i64 tk, .int .i64 (j : Int), .int .i64 te, .bool ts', .int .i64 k, .int .i32 c2, .bool neg, .slice A2 n2 cp2, .string x, .slice none 0 0] 33)
      have HIS := Lib.hid (show TvIs ((w2.alloc (.cells #[.int .i64 tk, .int .i64 (j : Int), .int .i64 te, .bool ts', .int .i64 k, .int .i32 c2, .bool neg, .slice A2 n2 cp2, .string x, .slice none 0 0] 33)).alloc (.cells #[.int .i64 tk, .int .i64 (j : Int), .int .i64 te, .bool ts', .int .i64 k, .int .i32 c2, .bool neg, .slice A2 n2 cp2, .string x, .slice none 0 0] 33)) (j, t) ⟨tk, j, te, ts', k, c2, neg, A2, n2, cp2, x⟩ from ⟨htk, rfl, hte, hts, hlf.keep (((Keep.refl _ _).alloc _).alloc _)⟩)
      have HK3 := Lib.hid k3
      have HOWN := Lib.hid (tkrow_keep HS.out.own k3)
      have hlt := HS.out.own
      have HN := Lib.hid hn
      have HKD := Lib.hid hk
      have HTO := Lib.hid hto
      have HTE := Lib.hid hte
      have hon := nextV_on hn hk
      have hln := (nextV_len hn).1
      have hile := HS.out.le
      have hb1 : ((w2.alloc (.cells #[.int .i64 tk, .int .i64 (j : Int), .int .i64 te, .bool ts', .int .i64 k, .int .i32 c2, .bool neg, .slice A2 n2 cp2, .string x, .slice none 0 0] 33)).alloc (.cells #[.int .i64 tk, .int .i64 (j : Int), .int .i64 te, .bool ts', .int .i64 k, .int .i32 c2, .bool neg, .slice A2 n2 cp2, .string x, .slice none 0 0] 33)).heap[w2.heap.size]? = some (.cells #[.int .i64 tk, .int .i64 (j : Int), .int .i64 te, .bool ts', .int .i64 k, .int .i32 c2, .bool neg, .slice A2 n2 cp2, .string x, .slice none 0 0] 33 (0, 0)) := by
        rw [Below.heap_alloc _ _ _ (by simp)]; exact heap_alloc_new w2 _
      have hb2 : ((w2.alloc (.cells #[.int .i64 tk, .int .i64 (j : Int), .int .i64 te, .bool ts', .int .i64 k, .int .i32 c2, .bool neg, .slice A2 n2 cp2, .string x, .slice none 0 0] 33)).alloc (.cells #[.int .i64 tk, .int .i64 (j : Int), .int .i64 te, .bool ts', .int .i64 k, .int .i32 c2, .bool neg, .slice A2 n2 cp2, .string x, .slice none 0 0] 33)).heap[w2.heap.size + 1]? = some (.cells #[.int .i64 tk, .int .i64 (j : Int), .int .i64 te, .bool ts', .int .i64 k, .int .i32 c2, .bool neg, .slice A2 n2 cp2, .string x, .slice none 0 0] 33 (0, 0)) := by
        have := heap_alloc_new (w2.alloc (.cells #[.int .i64 tk, .int .i64 (j : Int), .int .i64 te, .bool ts', .int .i64 k, .int .i32 c2, .bool neg, .slice A2 n2 cp2, .string x, .slice none 0 0] 33)) (.cells #[.int .i64 tk, .int .i64 (j : Int), .int .i64 te, .bool ts', .int .i64 k, .int .i32 c2, .bool neg, .slice A2 n2 cp2, .string x, .slice none 0 0] 33)
        rwa [World.size_alloc] at this
      have HB1 := Lib.hid hb1
      have HNEW := Lib.hid (new_cells hb2)
      have HROW := Lib.hid (tkrow_off HS.out.own)
      have HLT := Lib.hid (show wr.heap.size ≤ w2.heap.size from k2.size)
      have HBASE := Lib.hid (show w.heap.size ≤ ((w2.alloc (.cells #[.int .i64 tk, .int .i64 (j : Int), .int .i64 te, .bool ts', .int .i64 k, .int .i32 c2, .bool neg, .slice A2 n2 cp2, .string x, .slice none 0 0] 33)).alloc (.cells #[.int .i64 tk, .int .i64 (j : Int), .int .i64 te, .bool ts', .int .i64 k, .int .i32 c2, .bool neg, .slice A2 n2 cp2, .string x, .slice none 0 0] 33)).heap.size from (HS.out.K.trans k3).size)
      have hn4 : n ≤ 4096 := by omega
      clear hn hk hto k2 k3 hlf hte hts htk hb1 hb2 C1
      go_wp2_with (at_builtin; refine wpList_append_own_at _ rfl (.tmp 26) (.tmp 28) 22 rfl w.heap.size 33 i29 (.agg #[.int .i64 0, .int .i64 0, .int .i64 0, .bool false, .int .i64 0, .int .i32 0, .bool false, .slice none 0 0, .string ⟨#[]⟩, .slice none 0 0]) 10 120 Tryd.underlying22 h29 hz0 hz1 hz2 rfl (by decide) _ _ _ rfl HOWN.out ⟨w2.heap.size + 1, 0, none⟩ 1 1 [.int .i64 tk, .int .i64 (j : Int), .int .i64 te, .bool ts', .int .i64 k, .int .i32 c2, .bool neg, .slice A2 n2 cp2, .string x, .slice none 0 0] rfl rfl HNEW.out ?a1 ?a2 ?a3 HBASE.out ?_)
      case a1 => intro u hu; simp only [List.mem_cons, List.not_mem_nil, or_false] at hu; rcases hu with rfl | rfl | rfl | rfl | rfl | rfl | rfl | rfl | rfl | rfl <;> rfl
      case a2 => unfold maxLen; omega
      case a3 => omega
      intro v' w6 hown hgrow _ _
      have hcell : w6.cell? ⟨w2.heap.size, 2, none⟩ = some (.int .i64 te) := by
        have KG : Keep (fun b => (Value.slice A n cap).ownBlock = some b) _ w6 := (Keep.refl _ _).grown hgrow (fun k hk => .inl hk)
        have := KG.heap HB1.out (fun hb => by have := (HROW.out _ hb).2.1; have := HLT.out; omega)
        rw [cell_of_row w6 _ _ _ _ _ this]; rfl
      obtain ⟨A3, c3, rfl, HM⟩ := HS.out.more HN.out HKD.out HTO.out HK3.out HIS.out hown hgrow
      have HMM := Lib.hid HM
      clear hown hgrow HM
      go_wp2_with fail
      go_roundw
      case rel => exact ⟨j + t.len, n + 1, _, _, _, A3, c3, rfl, by rw [HTE.out], HMM.out⟩
      case measure => rw [HTE.out]; have := HZ.out; simp only [Lib.intOf]; omega
open Go.RowKit Go.Lib
theorem wake_0 : nextV [40, 97, 32, 46, 32, 55, 41, 32, 59, 120] ((0 : Nat) : Int) = .ok (0, ⟨1, 1, false, .no⟩) := by kernel_rfl
theorem wake_1 : nextV [40, 97, 32, 46, 32, 55, 41, 32, 59, 120] ((1 : Nat) : Int) = .ok (1, ⟨9, 1, false, .sym [97]⟩) := by kernel_rfl
theorem wake_2 : nextV [40, 97, 32, 46, 32, 55, 41, 32, 59, 120] ((2 : Nat) : Int) = .ok (3, ⟨8, 1, false, .no⟩) := by kernel_rfl
theorem wake_3 : nextV [40, 97, 32, 46, 32, 55, 41, 32, 59, 120] ((4 : Nat) : Int) = .ok (5, ⟨9, 1, false, .int 7⟩) := by kernel_rfl
theorem wake_4 : nextV [40, 97, 32, 46, 32, 55, 41, 32, 59, 120] ((6 : Nat) : Int) = .ok (6, ⟨2, 1, false, .no⟩) := by kernel_rfl
theorem wake_5 : nextV [40, 97, 32, 46, 32, 55, 41, 32, 59, 120] ((7 : Nat) : Int) = .ok (10, ⟨0, 0, false, .no⟩) := by kernel_rfl
theorem wake_toks : Toks [40, 97, 32, 46, 32, 55, 41, 32, 59, 120] 0 [(0, ⟨1, 1, false, .no⟩), (1, ⟨9, 1, false, .sym [97]⟩), (3, ⟨8, 1, false, .no⟩), (5, ⟨9, 1, false, .int 7⟩), (6, ⟨2, 1, false, .no⟩)] 0 0 :=
  .cons wake_0 (by decide) (.cons wake_1 (by decide) (.cons wake_2 (by decide) (.cons wake_3 (by decide) (.cons wake_4 (by decide) (.fin wake_5 rfl)))))
theorem own_cap {w : World} {base n c : Nat} {A : Option Addr} {xs : List Value} (h : w.ownsRow base 33 10 (.slice A n c) n xs) : n ≤ c := by
  rcases h.2 with ⟨hv, h0⟩ | ⟨g, cap, cur, hv, hg, hh, h1, _⟩
  · omega
  · injection hv with _ _ e3
    omega
set_option maxRecDepth 100000 in
set_option maxHeartbeats 2000000 in
theorem awake_any (w : World) (hT : Tabs w) : Calls Tryd.prog 10 #[] w fun e w' => e = .returned (.bool true) ∧ Keep (fun _ => False) w w' := by
  have HAL := Lib.hid (all_any ⟨#[40, 97, 32, 46, 32, 55, 41, 32, 59, 120]⟩ _ 0 0 w hT wake_toks)
  clear hT
  go_enter Tryd.func10, Tryd.ntmps10
  go_wp2_with fail
  refine (HAL.out).mono ?_
  rintro e w1 ⟨vs, A, cap, rfl, hall, hown, K⟩
  have HK := Lib.hid K
  obtain ⟨v0, v1, v2, v3, v4, rfl, i0, i1, i2, i3, i4⟩ : ∃ v0 v1 v2 v3 v4, vs = [v0, v1, v2, v3, v4] ∧ TvIs w1 (0, ⟨1, 1, false, .no⟩) v0 ∧ TvIs w1 (1, ⟨9, 1, false, .sym [97]⟩) v1 ∧ TvIs w1 (3, ⟨8, 1, false, .no⟩) v2 ∧ TvIs w1 (5, ⟨9, 1, false, .int 7⟩) v3 ∧ TvIs w1 (6, ⟨2, 1, false, .no⟩) v4 := by
    match vs, hall with
    | [v0, v1, v2, v3, v4], h => exact ⟨v0, v1, v2, v3, v4, rfl, h.1, h.2.1, h.2.2.1, h.2.2.2.1, h.2.2.2.2.1⟩
  rcases hown.2 with ⟨hv, h0⟩ | ⟨g, cap2, cur, hv, _⟩
  · cases h0
  injection hv with e1 _ e3
  subst e1
  have hcap : 5 ≤ cap := own_cap hown
  have HC := fun (j : Nat) (hj : j < 50) => World.ownsRow.cellAt hown j (show j < 5 * 10 from hj)
  have c0 : w1.cell? ⟨g, 0, none⟩ = some (.int .i64 1) := by have := HC 0 (by omega); rw [this]; simp [TV.cells, i0.1]
  have c1 : w1.cell? ⟨g, 18, none⟩ = some (.string ⟨#[97]⟩) := by have := HC 18 (by omega); rw [this]; simp [TV.cells, i1.2.2.2.2.2.2.2.2.2.2]
  have c2 : w1.cell? ⟨g, 20, none⟩ = some (.int .i64 8) := by have := HC 20 (by omega); rw [this]; simp [TV.cells, i2.1]
  have c3 : w1.cell? ⟨g, 31, none⟩ = some (.int .i64 5) := by have := HC 31 (by omega); rw [this]; simp [TV.cells, i3.2.1]
  have c4 : w1.cell? ⟨g, 42, none⟩ = some (.int .i64 7) := by have := HC 42 (by omega); rw [this]; simp [TV.cells, i4.2.2.1]
  clear HC hown hall K i0 i1 i2 i3 i4
  dsimp only [List.length_cons, List.length_nil]
  go_wp2_with fail
  go_ret
  exact ⟨rfl, HK.out⟩
open Go.RowKit Go.Lib
/-- The cells of a datum: all but its number's place. -/
def leafK : Leaf → Int
  | .no => 0
  | .tru => 1
  | .fls => 2
  | .chr _ => 3
  | .int _ => 4
  | .str _ => 5
  | .sym _ => 6
def leafC : Leaf → Int
  | .chr v => (v : Int)
  | _ => 0
def leafN : Leaf → Bool
  | .int x => decide (x < 0)
  | _ => false
def leafX : Leaf → ByteArray
  | .str l => ⟨l.toArray⟩
  | .sym l => ⟨l.toArray⟩
  | _ => ⟨#[]⟩
def leafL : Leaf → List Nat
  | .int x => limbs x.natAbs
  | _ => []
theorem LeafAt.form {w : World} {d : Leaf} {k c : Int} {neg : Bool} {A : Option Addr} {n cp : Nat} {t : ByteArray} (h : LeafAt w d k c neg A n cp t) : k = leafK d ∧ c = leafC d ∧ neg = leafN d ∧ t = leafX d ∧ LimbsAt w A n cp (leafL d) := by
  cases d
  case int x =>
    obtain ⟨rfl, rfl, rfl, h1, _, rfl⟩ := h
    exact ⟨rfl, rfl, rfl, rfl, h1.lim⟩
  all_goals
    obtain ⟨rfl, rfl, rfl, rfl, rfl, rfl, rfl⟩ := h
    exact ⟨rfl, rfl, rfl, rfl, none_limbs w⟩
/-- An answer's cells. -/
structure NF where
  kind : Int
  at1 : Int
  en : Int
  sq : Bool
  k : Int
  c : Int
  neg : Bool
  x : ByteArray
  l : List Nat
  p : Int
  q : Int
def tkNF (j : Nat) (t : Tk) : NF := ⟨t.kind, j, ((j + t.len : Nat) : Int), t.sq, leafK t.d, leafC t.d, leafN t.d, leafX t.d, leafL t.d, 0, 0⟩
def nxNF : Except (Nat × Nat) (Nat × Tk) → NF
  | .ok (j, t) => tkNF j t
  | .error (p, c) => ⟨0, 0, 0, false, 0, 0, false, ⟨#[]⟩, [], p, c⟩
def FormPost (f : NF) (w : World) (e : Ending) (w' : World) : Prop :=
  ∃ (A : Option Addr) (n cp : Nat), e = .returned (.tuple #[tokV f.kind f.at1 f.en f.sq f.k f.c f.neg A n cp f.x, .int .i64 f.p, .int .i64 f.q]) ∧ LimbsAt w' A n cp f.l ∧ Keep (fun _ => False) w w'
theorem NextPost.form {r : Except (Nat × Nat) (Nat × Tk)} {w w' : World} {e : Ending} (h : NextPost r w e w') : FormPost (nxNF r) w e w' := by
  cases r with
  | error r =>
    obtain ⟨p, c⟩ := r
    obtain ⟨rfl, K⟩ := h
    exact ⟨none, 0, 0, rfl, none_limbs w', K⟩
  | ok r =>
    obtain ⟨j, t⟩ := r
    obtain ⟨k, c, neg, A, n, cp, x, rfl, hl, K⟩ := h
    obtain ⟨rfl, rfl, rfl, rfl, h5⟩ := hl.form
    exact ⟨A, n, cp, rfl, h5, K⟩
open Go.RowKit Go.Lib
theorem skipAt_err {l : List UInt8} {a p : Nat} (ha : a ≤ l.length) (h : skipAt l a = .error p) : p < l.length := by
  unfold skipAt at h
  cases hs : skipL 0 (l.drop a) with
  | ok m => rw [hs] at h; cases h
  | error m =>
    rw [hs] at h
    have := skip_err _ _ _ (Nat.zero_le _) hs
    rw [List.length_drop] at this
    injection h with h
    omega
end Go.Proofs.YtonnikipeokkaaaDoor
