/-
  lex: blank, delimiter, run.
-/
import Derived.Test.YtonnikipeokkaaaGreatDoorLexSet
import Derived.Test.YtonnikipeokkaaaGreatDoorShelf
namespace Go.Proofs.YtonnikipeokkaaaGreatDoor
open Go.RowKit Go.Lib

theorem byte_eq (b c : UInt8) : ((b.toNat : Int) == (c.toNat : Int)) = (b == c) := by
  rw [Bool.eq_iff_iff]
  simp only [beq_iff_eq, Int.natCast_inj]
  exact UInt8.toNat_inj
set_option maxHeartbeats 400000 in
theorem blank_yes (b : UInt8) (w : World) (h : blankB b = true) : Calls Tryz.prog 85 #[.int .u8 (b.toNat : Int)] w fun e w' => e = .returned (.bool true) ∧ w = w' := by
  have hb : b = 9 ∨ b = 10 ∨ b = 12 ∨ b = 13 ∨ b = 32 := by simpa [blankB, or_assoc] using h
  rcases hb with rfl | rfl | rfl | rfl | rfl
  all_goals
    clear h
    go_enter Tryz.func85, Tryz.ntmps85
    go_wp2_with fail
    go_ret
    exact ⟨rfl, rfl⟩
set_option maxHeartbeats 400000 in
theorem blank_no (b : UInt8) (w : World) (h : blankB b = false) : Calls Tryz.prog 85 #[.int .u8 (b.toNat : Int)] w fun e w' => e = .returned (.bool false) ∧ w = w' := by
  have hb : b ≠ 9 ∧ b ≠ 10 ∧ b ≠ 12 ∧ b ≠ 13 ∧ b ≠ 32 := by simpa [blankB, and_assoc] using h
  obtain ⟨n, hn⟩ : ∃ n, n = b.toNat := ⟨_, rfl⟩
  have nn : ∀ c : UInt8, b ≠ c → n ≠ c.toNat := fun c hc e => hc (UInt8.toNat_inj.1 (hn.symm.trans e))
  have n9 := nn 9 hb.1
  have n10 := nn 10 hb.2.1
  have n12 := nn 12 hb.2.2.1
  have n13 := nn 13 hb.2.2.2.1
  have n32 := nn 32 hb.2.2.2.2
  rw [← hn]
  clear hb h nn hn
  have e32 : ((n : Int) == 32) = false := by simp; intro h; exact n32 (by simpa using congrArg Int.toNat h)
  by_cases c1 : 9 ≤ n
  · by_cases c2 : n ≤ 13
    · have : n = 11 := by
        have g9 : n ≠ 9 := n9
        have g10 : n ≠ 10 := n10
        have g12 : n ≠ 12 := n12
        have g13 : n ≠ 13 := n13
        omega
      subst this
      clear n9 n10 n12 n13 n32 c1 c2
      go_enter Tryz.func85, Tryz.ntmps85
      go_wp2_with fail
      go_ret
      exact ⟨rfl, rfl⟩
    · have d1 : decide ((9 : Int) ≤ (n : Int)) = true := by simp; omega
      have d2 : decide ((n : Int) ≤ 13) = false := by simp; omega
      clear n9 n10 n12 n13 n32 c1 c2
      go_enter Tryz.func85, Tryz.ntmps85
      go_wp2_with fail
      go_ret
      exact ⟨rfl, rfl⟩
  · have d1 : decide ((9 : Int) ≤ (n : Int)) = false := by simp; omega
    clear n9 n10 n12 n13 n32 c1
    go_enter Tryz.func85, Tryz.ntmps85
    go_wp2_with fail
    go_ret
    exact ⟨rfl, rfl⟩
theorem blank_any (b : UInt8) (w : World) : Calls Tryz.prog 85 #[.int .u8 (b.toNat : Int)] w fun e w' => e = .returned (.bool (blankB b)) ∧ w = w' := by
  cases h : blankB b with
  | true => exact blank_yes b w h
  | false => exact blank_no b w h
theorem idx_has (c : UInt8) : ∀ l : List UInt8, decide (0 ≤ Lib.indexByte l c) = l.contains c
  | [] => rfl
  | b :: l => by
    have ih := idx_has c l
    have hg := Lib.indexByte_ge l c
    unfold Lib.indexByte
    rw [List.contains_cons]
    by_cases h : b = c
    · simp [h]
    · have h1 : (b == c) = false := by simpa using h
      have h2 : (c == b) = false := by simpa using fun e => h e.symm
      rw [h1, h2, Bool.false_or, ← ih]
      simp only [Bool.false_eq_true, if_false]
      by_cases h3 : Lib.indexByte l c = -1
      · rw [h3]; rfl
      · rw [if_neg (by simpa using h3), decide_eq_true (by omega : 0 ≤ Lib.indexByte l c + 1), decide_eq_true (by omega : 0 ≤ Lib.indexByte l c)]
theorem byte_cast (b : UInt8) : ((b.toNat : Int)).toNat.toUInt8 = b := by simp
set_option maxHeartbeats 400000 in
theorem delim_any (b : UInt8) (w : World) : Calls Tryz.prog 153 #[.int .u8 (b.toNat : Int)] w fun e w' => e = .returned (.bool (delimB b)) ∧ w = w' := by
  cases h : blankB b with
  | true =>
    have hd : delimB b = true := by unfold delimB; rw [h]; rfl
    rw [hd]
    have HB := Lib.hid h
    clear h hd
    go_enter Tryz.func153, Tryz.ntmps153
    go_wp2_with fail
    refine (blank_any b _).mono ?_
    rintro e w1 ⟨rfl, rfl⟩
    rw [HB.out]
    try dsimp only
    go_wp2_with fail
    go_ret
    exact ⟨rfl, rfl⟩
  | false =>
    have hd : delimB b = [40, 41, 91, 93, 34, 59, 39, 96, 44].contains b := by unfold delimB; rw [h]; rfl
    have hx := idx_has b [40, 41, 91, 93, 34, 59, 39, 96, 44]
    rw [hd, ← hx]
    have HB := Lib.hid h
    clear h hd hx
    go_enter Tryz.func153, Tryz.ntmps153
    go_wp2_with fail
    refine (blank_any b _).mono ?_
    rintro e w1 ⟨rfl, rfl⟩
    rw [HB.out]
    try dsimp only
    go_wp2_with fail
    refine (Tryz.strings_IndexByte _ _ _).mono ?_
    rintro e w1 ⟨rfl, rfl⟩
    rw [byte_cast]
    try dsimp only
    obtain ⟨i, hi⟩ : ∃ i, i = Lib.indexByte [40, 41, 91, 93, 34, 59, 39, 96, 44] b := ⟨_, rfl⟩
    rw [← hi]
    have HI := Lib.hid hi
    clear hi
    by_cases hc : 0 ≤ i
    · go_wp2_with fail
      go_ret
      exact ⟨by rw [← HI.out, decide_eq_true hc]; rfl, rfl⟩
    · have hc2 : decide (0 ≤ i) = false := decide_eq_false hc
      go_wp2_with fail
      go_ret
      exact ⟨by rw [← HI.out, hc2]; rfl, rfl⟩
/-- A byte of a text, read. -/
theorem at_run (s : ByteArray) (i : Nat) (hi : i < s.data.toList.length) (c : UInt8) (hc : c = s.data.toList.getD i 0) (W : World) : (Instr.index 9 (.string s) (.int .i64 (i : Int))).run Tryz.prog W = .ok (.int .u8 (c.toNat : Int)) W := by
  have hs : i < s.size := by rw [Lib.size_eq]; exact hi
  have e := run_index_string (P := Tryz.prog) W 9 s .i64 (i : Int) Tryz.underlying9
  rw [dif_pos ⟨by omega, by omega⟩] at e
  rw [e, hc]
  have h3 : s.data.toList.getD i 0 = s[i]'hs := by
    rw [List.getD_eq_getElem?_getD, List.getElem?_eq_getElem hi]
    rfl
  rw [h3]
  rfl
/-- What a byte that stops a scan is: with 'more', that byte, too. -/
def passB (more : UInt8) (b : UInt8) : Bool := !delimB b && (more == 0 || b != more)
theorem passB_0 : passB 0 = fun b => !delimB b := by funext b; simp [passB]
theorem passB_124 : passB 124 = wordB := by funext b; simp [passB, wordB]
set_option maxRecDepth 100000 in
set_option maxHeartbeats 1000000 in
theorem run_any (s : ByteArray) (a : Nat) (more : UInt8) (w : World) (ha : a ≤ s.size) (hs : s.size ≤ 1000000) :
    Calls Tryz.prog 125 #[.string s, .int .i64 (a : Int), .int .u8 (more.toNat : Int)] w fun e w' => e = .returned (.int .i64 (scan (passB more) s.data.toList a : Nat)) ∧ w = w' := by
  have hz : s.data.toList.length = s.size := (Lib.size_eq s).symm
  have HAT := Lib.hid (fun (k : Nat) (hk : k < s.size) => at_run s k (by rw [hz]; exact hk) _ rfl)
  obtain ⟨l, hl⟩ : ∃ l, l = s.data.toList := ⟨_, rfl⟩
  rw [← hl] at hz HAT ⊢
  have HZ := Lib.hid hz
  clear hl hz
  go_enter Tryz.func125, Tryz.ntmps125
  go_wp2_with fail
  go_loop [1] (fun av => ∃ k : Nat, a ≤ k ∧ k ≤ s.size ∧ av = .int .i64 (k : Int) ∧ scan (passB more) l k = scan (passB more) l a) (fun av => s.size - (intOf av).toNat)
  case atStart => exact ⟨a, Nat.le_refl _, ha, rfl, rfl⟩
  case round =>
    obtain ⟨k, hak, hk, rfl, hsc⟩ := hrel
    have HS := Lib.hid hsc
    clear hsc
    by_cases hlt : k < s.size
    · have hx := HAT.out k hlt
      have h0 : decide ((k : Int) < (s.size : Int)) = true := decide_eq_true (by omega)
      obtain ⟨c, hc⟩ : ∃ c, c = l.getD k 0 := ⟨_, rfl⟩
      rw [← hc] at hx
      have HC := Lib.hid hc
      clear hc
      go_wp2_with fail
      refine (delim_any c _).mono ?_
      rintro e w1 ⟨rfl, rfl⟩
      cases hd : delimB c with
      | true =>
        have HD := Lib.hid hd
        clear hd
        try dsimp only
        go_wp2_with fail
        go_ret
        refine ⟨?_, rfl⟩
        rw [← HS.out, scan_stop (by rw [HZ.out]; exact hlt) (by rw [← HC.out]; unfold passB; rw [HD.out]; rfl)]
        rfl
      | false =>
        have HD := Lib.hid hd
        clear hd
        have em : ((more.toNat : Int) == 0) = (more == 0) := byte_eq more 0
        cases hm : more == 0 with
        | true =>
          rw [hm] at em
          have HM := Lib.hid hm
          clear hm
          try dsimp only
          go_wp2_with fail
          go_round
          case rel => exact ⟨k + 1, by omega, by omega, by go_num, by rw [← HS.out, scan_next (by rw [HZ.out]; exact hlt) (by rw [← HC.out]; unfold passB; rw [HD.out, HM.out]; rfl)]⟩
          case measure => simp [intOf]; omega
        | false =>
          rw [hm] at em
          have HM := Lib.hid hm
          clear hm
          have en : ((c.toNat : Int) != (more.toNat : Int)) = (c != more) := by unfold bne; rw [byte_eq]
          cases hn : c != more with
          | true =>
            rw [hn] at en
            have HN := Lib.hid hn
            clear hn
            try dsimp only
            go_wp2_with fail
            go_round
            case rel => exact ⟨k + 1, by omega, by omega, by go_num, by rw [← HS.out, scan_next (by rw [HZ.out]; exact hlt) (by rw [← HC.out]; unfold passB; rw [HD.out, HM.out, HN.out]; rfl)]⟩
            case measure => simp [intOf]; omega
          | false =>
            rw [hn] at en
            have HN := Lib.hid hn
            clear hn
            try dsimp only
            go_wp2_with fail
            go_ret
            refine ⟨?_, rfl⟩
            rw [← HS.out, scan_stop (by rw [HZ.out]; exact hlt) (by rw [← HC.out]; unfold passB; rw [HD.out, HM.out, HN.out]; rfl)]
            rfl
    · have h0 : decide ((k : Int) < (s.size : Int)) = false := decide_eq_false (by omega)
      have h1 : decide (k < s.size) = false := decide_eq_false (by omega)
      go_wp2_with fail
      go_ret
      refine ⟨?_, rfl⟩
      rw [← HS.out, scan_end (by rw [HZ.out]; omega)]
      rfl
end Go.Proofs.YtonnikipeokkaaaGreatDoor
