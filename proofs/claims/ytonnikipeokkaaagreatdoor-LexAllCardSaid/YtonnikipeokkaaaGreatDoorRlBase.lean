/-
  The document's lex: Blank, ends, two, Skip, Char, value, hex.
-/
import Derived.Test.YtonnikipeokkaaaGreatDoorLxDig
namespace Go.Proofs.YtonnikipeokkaaaGreatDoor
open Go.RowKit Go.Lib

set_option maxHeartbeats 1000000 in
theorem rblank_any (b : UInt8) (w : World) : Calls Tryz.prog 61 #[.int .u8 (b.toNat : Int)] w fun e w' => e = .returned (.bool (blankB b)) ∧ w = w' := by
  by_cases h9 : b = 9
  · subst h9
    go_enter Tryz.func61, Tryz.ntmps61
    go_wp2_with fail
    go_ret
    exact ⟨rfl, rfl⟩
  by_cases h10 : b = 10
  · subst h10
    go_enter Tryz.func61, Tryz.ntmps61
    go_wp2_with fail
    go_ret
    exact ⟨rfl, rfl⟩
  by_cases h12 : b = 12
  · subst h12
    go_enter Tryz.func61, Tryz.ntmps61
    go_wp2_with fail
    go_ret
    exact ⟨rfl, rfl⟩
  by_cases h13 : b = 13
  · subst h13
    go_enter Tryz.func61, Tryz.ntmps61
    go_wp2_with fail
    go_ret
    exact ⟨rfl, rfl⟩
  by_cases h32 : b = 32
  · subst h32
    go_enter Tryz.func61, Tryz.ntmps61
    go_wp2_with fail
    go_ret
    exact ⟨rfl, rfl⟩
  have hb : blankB b = false := by unfold blankB; simp [h9, h10, h12, h13, h32]
  rw [hb]
  have e9 : ((b.toNat : Int) == 9) = false := by rw [show ((b.toNat : Int) == 9) = (b == 9) from byte_eq b 9]; simpa using h9
  have e10 : ((b.toNat : Int) == 10) = false := by rw [show ((b.toNat : Int) == 10) = (b == 10) from byte_eq b 10]; simpa using h10
  have e12 : ((b.toNat : Int) == 12) = false := by rw [show ((b.toNat : Int) == 12) = (b == 12) from byte_eq b 12]; simpa using h12
  have e13 : ((b.toNat : Int) == 13) = false := by rw [show ((b.toNat : Int) == 13) = (b == 13) from byte_eq b 13]; simpa using h13
  have e32 : ((b.toNat : Int) == 32) = false := by rw [show ((b.toNat : Int) == 32) = (b == 32) from byte_eq b 32]; simpa using h32
  obtain ⟨d, hd⟩ : ∃ d, d = (b.toNat : Int) := ⟨_, rfl⟩
  rw [← hd] at e9 e10 e12 e13 e32 ⊢
  clear h9 h10 h12 h13 h32 hb hd
  go_enter Tryz.func61, Tryz.ntmps61
  go_wp2_with fail
  go_ret
  exact ⟨rfl, rfl⟩
set_option maxRecDepth 100000 in
set_option maxHeartbeats 8000000 in
theorem ends_any (s : ByteArray) (a : Nat) (w : World) : Calls Tryz.prog 64 #[.string s, .int .i64 (a : Int)] w fun e w' => e = .returned (.bool (decide (s.size ≤ a) || delimB (s.data.toList.getD a 0))) ∧ w = w' := by
  have hz : s.data.toList.length = s.size := (Lib.size_eq s).symm
  by_cases h : s.size ≤ a
  · rw [decide_eq_true h]
    have h1 : decide ((s.size : Int) ≤ (a : Int)) = true := decide_eq_true (by omega)
    clear hz
    go_enter Tryz.func64, Tryz.ntmps64
    go_wp2_with fail
    go_ret
    exact ⟨rfl, rfl⟩
  rw [decide_eq_false h, Bool.false_or]
  have h1 : decide ((s.size : Int) ≤ (a : Int)) = false := decide_eq_false (by omega)
  have h2 : decide (s.size ≤ a) = false := decide_eq_false h
  have hx := at_run s a (by omega) _ rfl
  obtain ⟨c, hc⟩ : ∃ c, c = s.data.toList.getD a 0 := ⟨_, rfl⟩
  rw [← hc] at hx ⊢
  clear hc hz h
  cases hb : blankB c with
  | true =>
    have HB := Lib.hid hb
    have hd : delimB c = true := by unfold delimB; rw [hb]; rfl
    rw [hd]
    clear hb hd
    go_enter Tryz.func64, Tryz.ntmps64
    go_wp2_with fail
    refine (rblank_any c _).mono ?_
    rintro e w1 ⟨rfl, rfl⟩
    rw [HB.out]
    try dsimp only
    go_wp2_with fail
    go_ret
    exact ⟨rfl, rfl⟩
  | false =>
    have HB := Lib.hid hb
    have hd : delimB c = [40, 41, 91, 93, 34, 59, 39, 96, 44].contains c := by unfold delimB; rw [hb]; rfl
    rw [hd]
    clear hb hd
    by_cases h40 : c = 40
    · subst h40
      go_enter Tryz.func64, Tryz.ntmps64
      go_wp2_with fail
      refine (rblank_any 40 _).mono ?_
      rintro e w1 ⟨rfl, rfl⟩
      rw [HB.out]
      try dsimp only
      go_wp2_with fail
      go_ret
      exact ⟨rfl, rfl⟩
    by_cases h41 : c = 41
    · subst h41
      clear h40
      go_enter Tryz.func64, Tryz.ntmps64
      go_wp2_with fail
      refine (rblank_any 41 _).mono ?_
      rintro e w1 ⟨rfl, rfl⟩
      rw [HB.out]
      try dsimp only
      go_wp2_with fail
      go_ret
      exact ⟨rfl, rfl⟩
    by_cases h91 : c = 91
    · subst h91
      clear h40 h41
      go_enter Tryz.func64, Tryz.ntmps64
      go_wp2_with fail
      refine (rblank_any 91 _).mono ?_
      rintro e w1 ⟨rfl, rfl⟩
      rw [HB.out]
      try dsimp only
      go_wp2_with fail
      go_ret
      exact ⟨rfl, rfl⟩
    by_cases h93 : c = 93
    · subst h93
      clear h40 h41 h91
      go_enter Tryz.func64, Tryz.ntmps64
      go_wp2_with fail
      refine (rblank_any 93 _).mono ?_
      rintro e w1 ⟨rfl, rfl⟩
      rw [HB.out]
      try dsimp only
      go_wp2_with fail
      go_ret
      exact ⟨rfl, rfl⟩
    by_cases h34 : c = 34
    · subst h34
      clear h40 h41 h91 h93
      go_enter Tryz.func64, Tryz.ntmps64
      go_wp2_with fail
      refine (rblank_any 34 _).mono ?_
      rintro e w1 ⟨rfl, rfl⟩
      rw [HB.out]
      try dsimp only
      go_wp2_with fail
      go_ret
      exact ⟨rfl, rfl⟩
    by_cases h59 : c = 59
    · subst h59
      clear h40 h41 h91 h93 h34
      go_enter Tryz.func64, Tryz.ntmps64
      go_wp2_with fail
      refine (rblank_any 59 _).mono ?_
      rintro e w1 ⟨rfl, rfl⟩
      rw [HB.out]
      try dsimp only
      go_wp2_with fail
      go_ret
      exact ⟨rfl, rfl⟩
    by_cases h39 : c = 39
    · subst h39
      clear h40 h41 h91 h93 h34 h59
      go_enter Tryz.func64, Tryz.ntmps64
      go_wp2_with fail
      refine (rblank_any 39 _).mono ?_
      rintro e w1 ⟨rfl, rfl⟩
      rw [HB.out]
      try dsimp only
      go_wp2_with fail
      go_ret
      exact ⟨rfl, rfl⟩
    by_cases h96 : c = 96
    · subst h96
      clear h40 h41 h91 h93 h34 h59 h39
      go_enter Tryz.func64, Tryz.ntmps64
      go_wp2_with fail
      refine (rblank_any 96 _).mono ?_
      rintro e w1 ⟨rfl, rfl⟩
      rw [HB.out]
      try dsimp only
      go_wp2_with fail
      go_ret
      exact ⟨rfl, rfl⟩
    by_cases h44 : c = 44
    · subst h44
      clear h40 h41 h91 h93 h34 h59 h39 h96
      go_enter Tryz.func64, Tryz.ntmps64
      go_wp2_with fail
      refine (rblank_any 44 _).mono ?_
      rintro e w1 ⟨rfl, rfl⟩
      rw [HB.out]
      try dsimp only
      go_wp2_with fail
      go_ret
      exact ⟨rfl, rfl⟩
    have hd : [40, 41, 91, 93, 34, 59, 39, 96, 44].contains c = false := by simp [h40, h41, h91, h93, h34, h59, h39, h96, h44]
    rw [hd]
    have e40 : ((c.toNat : Int) == 40) = false := by rw [show ((c.toNat : Int) == 40) = (c == 40) from byte_eq c 40]; simpa using h40
    have e41 : ((c.toNat : Int) == 41) = false := by rw [show ((c.toNat : Int) == 41) = (c == 41) from byte_eq c 41]; simpa using h41
    have e91 : ((c.toNat : Int) == 91) = false := by rw [show ((c.toNat : Int) == 91) = (c == 91) from byte_eq c 91]; simpa using h91
    have e93 : ((c.toNat : Int) == 93) = false := by rw [show ((c.toNat : Int) == 93) = (c == 93) from byte_eq c 93]; simpa using h93
    have e34 : ((c.toNat : Int) == 34) = false := by rw [show ((c.toNat : Int) == 34) = (c == 34) from byte_eq c 34]; simpa using h34
    have e59 : ((c.toNat : Int) == 59) = false := by rw [show ((c.toNat : Int) == 59) = (c == 59) from byte_eq c 59]; simpa using h59
    have e39 : ((c.toNat : Int) == 39) = false := by rw [show ((c.toNat : Int) == 39) = (c == 39) from byte_eq c 39]; simpa using h39
    have e96 : ((c.toNat : Int) == 96) = false := by rw [show ((c.toNat : Int) == 96) = (c == 96) from byte_eq c 96]; simpa using h96
    have e44 : ((c.toNat : Int) == 44) = false := by rw [show ((c.toNat : Int) == 44) = (c == 44) from byte_eq c 44]; simpa using h44
    have HBL := Lib.hid (fun w => rblank_any c w)
    rw [HB.out] at HBL
    obtain ⟨d, hdd⟩ : ∃ d, d = (c.toNat : Int) := ⟨_, rfl⟩
    rw [← hdd] at hx HBL e40 e41 e91 e93 e34 e59 e39 e96 e44
    clear hd hdd h40 h41 h91 h93 h34 h59 h39 h96 h44
    go_enter Tryz.func64, Tryz.ntmps64
    go_wp2_with fail
    refine (HBL.out _).mono ?_
    rintro e w1 ⟨rfl, rfl⟩
    try dsimp only
    go_wp2_with fail
    go_ret
    exact ⟨rfl, rfl⟩
set_option maxRecDepth 100000 in
set_option maxHeartbeats 2000000 in
theorem two_any (s : ByteArray) (a : Nat) (x y : UInt8) (w : World) (hs : s.size ≤ 1000000) (ha : a ≤ s.size) : Calls Tryz.prog 37 #[.string s, .int .i64 (a : Int), .int .u8 (x.toNat : Int), .int .u8 (y.toNat : Int)] w fun e w' => e = .returned (.bool (decide (a + 1 < s.size ∧ s.data.toList.getD a 0 = x ∧ s.data.toList.getD (a + 1) 0 = y))) ∧ w = w' := by
  have hz : s.data.toList.length = s.size := (Lib.size_eq s).symm
  by_cases h : a + 1 < s.size
  · have h1 : decide ((a : Int) + 1 < (s.size : Int)) = true := decide_eq_true (by omega)
    have hx1 := at_run s a (by omega) _ rfl
    have hx2 := at_run s (a + 1) (by omega) _ rfl
    obtain ⟨c, hc⟩ : ∃ c, c = s.data.toList.getD a 0 := ⟨_, rfl⟩
    obtain ⟨d, hd⟩ : ∃ d, d = s.data.toList.getD (a + 1) 0 := ⟨_, rfl⟩
    rw [← hc] at hx1 ⊢
    rw [← hd] at hx2 ⊢
    have hx3 : ∀ W : World, (Instr.index 9 (.string s) (.int .i64 ((a : Int) + 1))).run Tryz.prog W = .ok (.int .u8 (d.toNat : Int)) W := hx2
    have e1 : ((c.toNat : Int) == (x.toNat : Int)) = (c == x) := byte_eq c x
    have e2 : ((d.toNat : Int) == (y.toNat : Int)) = (d == y) := byte_eq d y
    have hr : decide (a + 1 < s.size ∧ c = x ∧ d = y) = (c == x && d == y) := by
      rw [Bool.eq_iff_iff]; simp [h]
    rw [hr]
    clear hr hx2 hc hd hz
    cases h3 : c == x with
    | true =>
      rw [h3] at e1
      have HH := Lib.hid h3
      clear h3
      rw [Bool.true_and]
      cases h4 : d == y with
      | true =>
        rw [h4] at e2
        have HH2 := Lib.hid h4
        clear h4
        go_enter Tryz.func37, Tryz.ntmps37
        go_wp2_with fail
        go_ret
        exact ⟨rfl, rfl⟩
      | false =>
        rw [h4] at e2
        have HH2 := Lib.hid h4
        clear h4
        go_enter Tryz.func37, Tryz.ntmps37
        go_wp2_with fail
        go_ret
        exact ⟨rfl, rfl⟩
    | false =>
      rw [h3] at e1
      have HH := Lib.hid h3
      clear h3 e2
      rw [Bool.false_and]
      go_enter Tryz.func37, Tryz.ntmps37
      go_wp2_with fail
      go_ret
      exact ⟨rfl, rfl⟩
  · rw [decide_eq_false (fun g => h g.1)]
    have h1 : decide ((a : Int) + 1 < (s.size : Int)) = false := decide_eq_false (by omega)
    have h2 : decide (a + 1 < s.size) = false := decide_eq_false h
    clear h hz
    go_enter Tryz.func37, Tryz.ntmps37
    go_wp2_with fail
    go_ret
    exact ⟨rfl, rfl⟩
/-- Skip's answer as a number. -/
def skipI : Except Nat Nat → Int
  | .ok j => (j : Int)
  | .error p => -1 - (p : Int)
def RcRel (l : List UInt8) (a d i : Nat) : Prop := ∃ j, i = a + 2 + j ∧ d ≤ j + 1 ∧ ((1 ≤ d ∧ comB 1 (l.drop (a + 2)) = (comB d (l.drop i)).map (· + j)) ∨ (d = 0 ∧ comB 1 (l.drop (a + 2)) = some j))
set_option maxRecDepth 100000 in
set_option maxHeartbeats 8000000 in
theorem rskip_any (s : ByteArray) (a : Nat) (w : World) (ha : a ≤ s.size) (hs : s.size ≤ 100000) :
    Calls Tryz.prog 36 #[.string s, .int .i64 (a : Int)] w fun e w' => e = .returned (.int .i64 (skipI (skipAt s.data.toList a))) ∧ w = w' := by
  have hz : s.data.toList.length = s.size := (Lib.size_eq s).symm
  have HAT := Lib.hid (fun (k : Nat) (hk : k < s.size) => at_run s k (by rw [hz]; exact hk) _ rfl)
  have HTW := Lib.hid (fun (k : Nat) (hk : k ≤ s.size) (x y : UInt8) (w : World) => two_any s k x y w (by omega) hk)
  obtain ⟨l, hl⟩ : ∃ l, l = s.data.toList := ⟨_, rfl⟩
  rw [← hl] at hz HAT HTW ⊢
  have HZ := Lib.hid hz
  clear hl hz
  go_enter Tryz.func36, Tryz.ntmps36
  go_wp2_with fail
  go_loop [1] (fun av => ∃ k : Nat, k ≤ s.size ∧ av = .int .i64 (k : Int) ∧ skipAt l k = skipAt l a) (fun av => s.size - (intOf av).toNat)
  case atStart => exact ⟨a, ha, rfl, rfl⟩
  case round =>
    obtain ⟨k, hk, rfl, hsk⟩ := hrel
    have HS := Lib.hid hsk
    clear hsk
    by_cases hlt : k < s.size
    · have hx := HAT.out k hlt
      have h0 : decide ((k : Int) < (s.size : Int)) = true := decide_eq_true (by omega)
      obtain ⟨c, hc⟩ : ∃ c, c = l.getD k 0 := ⟨_, rfl⟩
      rw [← hc] at hx
      have HC := Lib.hid hc
      clear hc
      go_wp2_with fail
      refine (rblank_any c _).mono ?_
      rintro e w1 ⟨rfl, rfl⟩
      cases hb : blankB c with
      | true =>
        have HB := Lib.hid hb
        clear hb
        try dsimp only
        go_wp2_with fail
        go_round
        case rel => exact ⟨k + 1, by omega, by go_num, (skipAt_blank (by rw [HZ.out]; exact hlt) (by rw [← HC.out]; exact HB.out)).symm.trans HS.out⟩
        case measure => simp [intOf]; omega
      | false =>
        have HB := Lib.hid hb
        clear hb
        have e59 : ((c.toNat : Int) == 59) = (c == 59) := byte_eq c 59
        cases hm : c == 59 with
        | true =>
          rw [hm] at e59
          have HM := Lib.hid hm
          clear hm
          try dsimp only
          go_wp2_with fail
          clear hx
          go_loop [1] (fun av => ∃ m : Nat, k ≤ m ∧ m ≤ s.size ∧ av = .int .i64 (m : Int) ∧ scan (fun b => b != 10) l m = scan (fun b => b != 10) l k) (fun av => s.size - (intOf av).toNat)
          case atStart => exact ⟨k, Nat.le_refl _, hk, rfl, rfl⟩
          case round =>
            obtain ⟨m, hkm, hm, rfl, hsc⟩ := hrel
            have HSC := Lib.hid hsc
            have HFIN := Lib.hid (fun (he : scan (fun b => b != 10) l k = m) => show k < m ∧ skipAt l m = skipAt l a from by
              have c59 : l.getD k 0 = 59 := by have := HM.out; rw [HC.out] at this; simpa using this
              refine ⟨?_, ?_⟩
              · rw [← he, ← scan_next (by rw [HZ.out]; exact hlt) (by rw [c59]; decide)]
                exact le_scan _ _ _
              · rw [← he, ← skipAt_line (by rw [HZ.out]; exact hlt) c59]; exact HS.out)
            clear hsc
            by_cases hltm : m < s.size
            · have hx := HAT.out m hltm
              have h1 : decide ((m : Int) < (s.size : Int)) = true := decide_eq_true (by omega)
              obtain ⟨c2, hc2⟩ : ∃ c, c = l.getD m 0 := ⟨_, rfl⟩
              rw [← hc2] at hx
              have HC2 := Lib.hid hc2
              clear hc2
              have e10 : ((c2.toNat : Int) != 10) = (c2 != 10) := by unfold bne; rw [show ((c2.toNat : Int) == 10) = (c2 == 10) from byte_eq c2 10]
              cases hn : c2 != 10 with
              | true =>
                rw [hn] at e10
                have HN := Lib.hid hn
                clear hn
                go_wp2_with fail
                go_round
                case rel => exact ⟨m + 1, by omega, by omega, by go_num, (scan_next (by rw [HZ.out]; exact hltm) (by rw [← HC2.out]; exact HN.out)).trans HSC.out⟩
                case measure => simp [intOf]; omega
              | false =>
                rw [hn] at e10
                have HN := Lib.hid hn
                clear hn
                have hfin := HFIN.out (HSC.out.symm.trans (scan_stop (by rw [HZ.out]; exact hltm) (by rw [← HC2.out]; exact HN.out)))
                have HF := Lib.hid hfin
                have hlt2 := hfin.1
                clear hfin
                go_wp2_with fail
                go_round
                case rel => exact ⟨m, hm, rfl, HF.out.2⟩
                case measure => simp [intOf]; omega
            · have h1 : decide ((m : Int) < (s.size : Int)) = false := decide_eq_false (by omega)
              have h2 : decide (m < s.size) = false := decide_eq_false (by omega)
              have hfin := HFIN.out (HSC.out.symm.trans (scan_end (by rw [HZ.out]; omega)))
              have HF := Lib.hid hfin
              have hlt2 := hfin.1
              clear hfin
              go_wp2_with fail
              go_round
              case rel => exact ⟨m, hm, rfl, HF.out.2⟩
              case measure => simp [intOf]; omega
        | false =>
          rw [hm] at e59
          have HM := Lib.hid hm
          clear hm
          try dsimp only
          go_wp2_with fail
          refine (HTW.out k hk 35 124 _).mono ?_
          rintro e w1 ⟨rfl, rfl⟩
          by_cases hp : k + 1 < s.size ∧ l.getD k 0 = 35 ∧ l.getD (k + 1) 0 = 124
          · rw [decide_eq_true hp]
            have HPP := Lib.hid hp
            have hk1 := hp.1
            clear hp hx e59
            try dsimp only
            go_wp2_with fail
            go_loop [1, 6] (fun iv dv => ∃ d i : Nat, k < i ∧ i ≤ s.size ∧ d ≤ s.size ∧ iv = .int .i64 (i : Int) ∧ dv = .int .i64 (d : Int) ∧ RcRel l k d i) (fun iv _ => s.size - (intOf iv).toNat)
            case atStart =>
              refine ⟨1, k + 2, by omega, by omega, by omega, by go_num, by rfl, 0, rfl, by omega, .inl ⟨by omega, ?_⟩⟩
              cases comB 1 (l.drop (k + 2)) <;> rfl
            case round =>
              obtain ⟨d, i, hki, hi, hd, rfl, rfl, j, hij, hdj, hr⟩ := hrel
              rcases hr with ⟨hd1, hR⟩ | ⟨rfl, hR⟩
              · have HR := Lib.hid hR
                have HIJ := Lib.hid hij
                have dp : decide ((0 : Int) < (d : Int)) = true := decide_eq_true (by omega)
                have dp2 : decide (0 < d) = true := decide_eq_true (by omega)
                clear hR hij
                by_cases hlt2 : i + 1 < s.size
                · have h1 : decide ((s.size : Int) ≤ (i : Int) + 1) = false := decide_eq_false (by omega)
                  have h2 : decide (s.size ≤ i + 1) = false := decide_eq_false (by omega)
                  have hdrop : l.drop i = l.getD i 0 :: l.getD (i + 1) 0 :: l.drop (i + 2) := by rw [drop_cons (by rw [HZ.out]; omega), drop_cons (l := l) (i := i + 1) (by rw [HZ.out]; omega)]
                  have HD := Lib.hid hdrop
                  clear hdrop
                  go_wp2_with fail
                  refine (HTW.out i hi 35 124 _).mono ?_
                  rintro e w1 ⟨rfl, rfl⟩
                  by_cases c1 : l.getD i 0 = 35 ∧ l.getD (i + 1) 0 = 124
                  · rw [decide_eq_true (show i + 1 < s.size ∧ l.getD i 0 = 35 ∧ l.getD (i + 1) 0 = 124 from ⟨hlt2, c1⟩)]
                    have HC1 := Lib.hid c1
                    clear c1
                    try dsimp only
                    go_wp2_with fail
                    go_round
                    case rel =>
                      refine ⟨d + 1, i + 2, by omega, by omega, by have := HIJ.out; omega, by go_num, by go_num, j + 2, by have := HIJ.out; omega, by omega, .inl ⟨by omega, ?_⟩⟩
                      rw [HR.out, HD.out, comB, if_pos HC1.out]
                      cases comB (d + 1) (l.drop (i + 2)) <;> simp <;> omega
                    case measure => simp [intOf]; omega
                  rw [decide_eq_false (fun g : i + 1 < s.size ∧ l.getD i 0 = 35 ∧ l.getD (i + 1) 0 = 124 => c1 g.2)]
                  have HC1 := Lib.hid c1
                  clear c1
                  try dsimp only
                  go_wp2_with fail
                  refine (HTW.out i hi 124 35 _).mono ?_
                  rintro e w1 ⟨rfl, rfl⟩
                  by_cases c2 : l.getD i 0 = 124 ∧ l.getD (i + 1) 0 = 35
                  · rw [decide_eq_true (show i + 1 < s.size ∧ l.getD i 0 = 124 ∧ l.getD (i + 1) 0 = 35 from ⟨hlt2, c2⟩)]
                    have HC2 := Lib.hid c2
                    clear c2
                    have hd1i : (1 : Int) ≤ (d : Int) := by omega
                    try dsimp only
                    go_wp2_with fail
                    go_round
                    case rel =>
                      by_cases hd2 : d = 1
                      · subst hd2
                        refine ⟨0, i + 2, by omega, by omega, by omega, by go_num, by rfl, j + 2, by have := HIJ.out; omega, by omega, .inr ⟨rfl, ?_⟩⟩
                        rw [HR.out, HD.out, comB, if_neg HC1.out, if_pos HC2.out, if_pos (Nat.le_refl 1)]
                        simp; omega
                      · refine ⟨d - 1, i + 2, by omega, by omega, by omega, by go_num, by go_num, j + 2, by have := HIJ.out; omega, by omega, .inl ⟨by omega, ?_⟩⟩
                        rw [HR.out, HD.out, comB, if_neg HC1.out, if_pos HC2.out, if_neg (by omega)]
                        cases comB (d - 1) (l.drop (i + 2)) <;> simp <;> omega
                    case measure => simp [intOf]; omega
                  rw [decide_eq_false (fun g : i + 1 < s.size ∧ l.getD i 0 = 124 ∧ l.getD (i + 1) 0 = 35 => c2 g.2)]
                  have HC2 := Lib.hid c2
                  clear c2
                  try dsimp only
                  go_wp2_with fail
                  go_round
                  case rel =>
                    refine ⟨d, i + 1, by omega, by omega, by omega, by go_num, rfl, j + 1, by have := HIJ.out; omega, by omega, .inl ⟨hd1, ?_⟩⟩
                    rw [HR.out, HD.out, comB, if_neg HC1.out, if_neg HC2.out, drop_cons (l := l) (i := i + 1) (by rw [HZ.out]; omega)]
                    cases comB d (l.getD (i + 1) 0 :: l.drop (i + 1 + 1)) <;> simp <;> omega
                  case measure => simp [intOf]; omega
                · have h1 : decide ((s.size : Int) ≤ (i : Int) + 1) = true := decide_eq_true (by omega)
                  have hn : comB d (l.drop i) = none := by
                    have hlen : (l.drop i).length < 2 := by rw [List.length_drop, HZ.out]; omega
                    generalize l.drop i = x at hlen
                    cases x with
                    | nil => rfl
                    | cons x t =>
                      cases t with
                      | nil => rfl
                      | cons y t => simp only [List.length_cons] at hlen; omega
                  have HN := Lib.hid hn
                  have kb : (k : Int) ≤ 100000 := by omega
                  clear hn
                  go_wp2_with fail
                  go_ret
                  refine ⟨?_, rfl⟩
                  have hc : comB 1 (l.drop (k + 2)) = none := by rw [HR.out, HN.out]; rfl
                  rw [← HS.out, skipAt_open (by rw [HZ.out]; exact hk1) HPP.out.2.1 HPP.out.2.2 hc]
                  rfl
              · have HR := Lib.hid hR
                have HIJ := Lib.hid hij
                have dp : decide ((0 : Int) < ((0 : Nat) : Int)) = false := rfl
                clear hR hij
                go_wp2_with fail
                go_round
                case rel => exact ⟨i, hi, rfl, by rw [HIJ.out]; exact (skipAt_com (by rw [HZ.out]; exact hk1) HPP.out.2.1 HPP.out.2.2 HR.out).symm.trans HS.out⟩
                case measure => simp [intOf]; omega
          · rw [decide_eq_false hp]
            have HPP := Lib.hid hp
            clear hp
            try dsimp only
            go_wp2_with fail
            go_ret
            refine ⟨?_, rfl⟩
            rw [← HS.out, skipAt_stop (by rw [HZ.out]; exact hlt) (by rw [← HC.out]; exact HB.out) (by rw [← HC.out]; have := HM.out; simpa using this) (by rw [HZ.out]; exact HPP.out)]
            rfl
    · have h0 : decide ((k : Int) < (s.size : Int)) = false := decide_eq_false (by omega)
      have h1 : decide (k < s.size) = false := decide_eq_false (by omega)
      go_wp2_with fail
      obtain rfl : k = s.size := by omega
      go_ret
      refine ⟨?_, rfl⟩
      rw [← HS.out, ← HZ.out, skipAt_end]
      rfl
end Go.Proofs.YtonnikipeokkaaaGreatDoor
