/-
  The law of lex: tokens rise.
-/
import Derived.Test.YtonnikipeokkaaaDoorDlBase
namespace Go.Proofs.YtonnikipeokkaaaDoor
open Go.RowKit Go.Lib

set_option maxRecDepth 100000 in
set_option maxHeartbeats 4000000 in
theorem lawRise_any (s : ByteArray) (w : World) (hT : Tabs w) : Calls Tryd.prog 3 #[.string s] w (BoolPost true w) := by
  obtain ⟨ts, p, c, hts⟩ := Toks.ex s.data.toList s.data.toList.length 0 (by omega) (Nat.zero_le _)
  have HAL := Lib.hid (all_any s ts p c w hT hts)
  have HNX := Lib.hid (fun (i : Nat) (w : World) hT => (lexNext_any s (i : Int) w hT).mono (fun _ _ h => NextPost.form h))
  have HS := Lib.hid (fun (kind at1 en : Int) (sq : Bool) (k c : Int) (neg : Bool) (x : ByteArray) (l : List Nat) (A A' : Option Addr) (n cp n' cp' : Nat) (w : World) (h : LimbsAt w A n cp l) (h' : LimbsAt w A' n' cp' l) => rsame_tok kind at1 en sq k c neg A A' n cp n' cp' x l w h h')
  have HSK := Lib.hid (fun (a : Nat) (w : World) (ha : a ≤ s.size) (hs : s.size ≤ 100000) => rskip_any s a w ha hs)
  have HAW := Lib.hid (fun (w : World) hT => awake_any w hT)
  have HT := Lib.hid hT
  have HZ := Lib.hid (show s.data.toList.length = s.size from (Lib.size_eq s).symm)
  obtain ⟨l, hl⟩ : ∃ l, l = s.data.toList := ⟨_, rfl⟩
  rw [← hl] at hts HNX HZ HSK
  have HTS := Lib.hid hts
  clear hl hts hT
  go_enter Tryd.func3, Tryd.ntmps3
  go_wp2_with fail
  refine (HAL.out).mono ?_
  rintro e w1 ⟨vs, A, cap, rfl, hall, hown, K1⟩
  have HALL := Lib.hid hall
  have HOWN := Lib.hid hown
  have HK1 := Lib.hid K1
  have hcapn := own_cap hown
  obtain ⟨n, hn⟩ : ∃ n, n = ts.length := ⟨_, rfl⟩
  obtain ⟨pp, hpp⟩ : ∃ z : Int, z = (p : Int) := ⟨_, rfl⟩
  obtain ⟨cc, hcc⟩ : ∃ z : Int, z = (c : Int) := ⟨_, rfl⟩
  rw [← hn] at HOWN hcapn
  rw [← hn, ← hpp, ← hcc]
  have HN := Lib.hid hn
  have HCC := Lib.hid hcc
  clear hall hown K1 hn hpp hcc
  go_wp2_with fail
  go_loopw [6, 7] (fun pv iv wr => ∃ (pos i : Nat) (done rest : List (Nat × Tk)), pv = .int .i64 (pos : Int) ∧ iv = .int .i64 (i : Int) ∧ LaSt l ts p c i pos done rest w1 wr) (fun _ iv _ => n - (Lib.intOf iv).toNat)
  case atStart => exact ⟨0, 0, [], ts, rfl, rfl, rfl, rfl, HTS.out, Keep.refl _ _, Nat.le_refl _, Nat.zero_le _⟩
  case round =>
    obtain ⟨pos, i, done, rest, rfl, rfl, hst⟩ := hrel
    have HST := Lib.hid hst
    have HK2 := Lib.hid (HK1.out.trans hst.K)
    cases rest with
    | nil =>
      have i0 : decide (i < n) = false := by
        have h1 := HN.out
        rw [hst.eqs, List.append_nil] at h1
        exact decide_eq_false (by rw [hst.cnt, h1]; omega)
      have i1 : decide ((i : Int) < (n : Int)) = false := decide_eq_false (by simpa using i0)
      clear hst
      by_cases hc : c = 0
      · have c0 : (cc != 0) = false := by rw [HCC.out, hc]; rfl
        obtain ⟨j, t, hn, hk⟩ : ∃ j t, nextV l (pos : Int) = .ok (j, t) ∧ t.kind = 0 := by
          obtain ⟨h, _⟩ | ⟨j, t, h, hk, _⟩ | ⟨j, t, us, h, hk, h2, _⟩ := HST.out.toks.inv
          · exact absurd hc (nextV_code h)
          · exact ⟨j, t, h, hk⟩
          · cases h2
        obtain ⟨hl1, hl2⟩ := nextV_len hn
        have hs := fin_skip hl1 hl2 hn hk
        have HSK1 := Lib.hid (fun (w : World) => HSK.out pos w (by rw [← HZ.out]; exact hl2) (by rw [← HZ.out]; omega))
        rw [hs, HZ.out] at HSK1
        have s0 : ((s.size : Int) == (s.size : Int)) = true := by simp
        clear hn hk hl1 hl2 hs hc
        go_wp2_with fail
        refine (HSK1.out _).mono ?_
        rintro e w8 ⟨rfl, rfl⟩
        try dsimp only [skipI]
        go_wp2_with fail
        refine (HAW.out _ (HT.out.keep HK2.out)).mono ?_
        rintro e w9 ⟨rfl, k9⟩
        have HK9 := Lib.hid (HK2.out.trans k9)
        clear k9
        try dsimp only
        go_wp2_with fail
        go_ret
        exact ⟨rfl, HK9.out⟩
      · have c0 : (cc != 0) = true := by rw [HCC.out]; simp; omega
        clear hc
        go_wp2_with fail
        refine (HAW.out _ (HT.out.keep HK2.out)).mono ?_
        rintro e w9 ⟨rfl, k9⟩
        have HK9 := Lib.hid (HK2.out.trans k9)
        clear k9
        try dsimp only
        go_wp2_with fail
        go_ret
        exact ⟨rfl, HK9.out⟩
    | cons r us =>
      obtain ⟨j, t⟩ := r
      obtain ⟨hn, hk, hto⟩ : nextV l (pos : Int) = .ok (j, t) ∧ t.kind ≠ 0 ∧ Toks l (j + t.len) us p c := by
        obtain ⟨_, h⟩ | ⟨_, _, _, _, h, _⟩ | ⟨j', t', us', h, hk, h2, h3⟩ := HST.out.toks.inv
        · cases h
        · cases h
        · injection h2 with h2 h4
          injection h2 with h2 h5
          subst h2; subst h4; subst h5
          exact ⟨h, hk, h3⟩
      obtain ⟨hl1, hl2⟩ := nextV_len hn
      obtain ⟨g1, g2, g3, g4, g5⟩ := Toks.rise hl1 hl2 hn hk
      have hvi : ts[i]? = some (j, t) := by
        rw [hst.eqs, hst.cnt]; simp
      have hilt : i < n := by
        have := (List.getElem?_eq_some_iff.1 hvi).1
        rw [HN.out]; exact this
      have hi4 : i ≤ 4096 := by have := hst.le; omega
      obtain ⟨g, rfl⟩ := row_some HOWN.out (by omega)
      obtain ⟨A1, n1, cp1, htc⟩ := TokC.row HOWN.out HALL.out hvi
      have HNX1 := Lib.hid (fun (w : World) hT => HNX.out j w hT)
      rw [g5] at HNX1
      have HSK1 := Lib.hid (fun (w : World) => HSK.out pos w (by rw [← HZ.out]; exact hl2) (by rw [← HZ.out]; omega))
      rw [g4] at HSK1
      have htc := htc.keep hst.K
      obtain ⟨f, hf⟩ : ∃ f, f = tkNF j t := ⟨_, rfl⟩
      have ea : f.at1 = (j : Int) := by rw [hf]; rfl
      have ee : f.en = ((j + t.len : Nat) : Int) := by rw [hf]; rfl
      have ep : f.p = 0 ∧ f.q = 0 := by rw [hf]; exact ⟨rfl, rfl⟩
      have HSK2 := Lib.hid (fun (w : World) => (show Calls Tryd.prog 7 #[.string s, .int .i64 (pos : Int)] w (fun e w' => e = .returned (.int .i64 f.at1) ∧ w' = w) from (HSK1.out w).mono fun _ _ h => ⟨by rw [h.1, ea]; rfl, h.2.symm⟩))
      have HNX2 := Lib.hid (fun (w : World) (hT : Tabs w) => (show Calls Tryd.prog 8 #[.string s, .int .i64 f.at1] w (FormPost f w) from by rw [ea, hf]; exact HNX1.out w hT))
      rw [← hf] at htc
      have HNEXT := Lib.hid (fun (w' : World) (K : Keep (fun _ => False) wr w') => (show LaSt l ts p c (i + 1) (j + t.len) (done ++ [(j, t)]) us w1 w' from ⟨by rw [hst.cnt]; simp, by rw [hst.eqs]; simp, hto, hst.K.trans K, by have := hst.le; omega, g3⟩))
      have HEE := Lib.hid ee
      have q1 : decide (f.at1 < (pos : Int)) = false := decide_eq_false (by rw [ea]; omega)
      have q2 : decide (f.en ≤ f.at1) = false := decide_eq_false (by rw [ea, ee]; omega)
      have q3 : decide ((s.size : Int) < f.en) = false := decide_eq_false (by rw [ee, ← HZ.out]; omega)
      have q4 : (f.at1 != f.at1) = false := by simp
      have hi0 : (0 : Int) ≤ (i : Int) := Int.natCast_nonneg _
      have hi1 : (i : Int) < (n : Int) := by omega
      clear hst hn hk hto hl1 hl2 g1 g2 g3 g4 g5 hvi hf ea ee HNX1 HSK1
      obtain ⟨kind, at1, en, sq, k, c2, neg, x, lf, p2, q5⟩ := f
      obtain ⟨rfl, rfl⟩ := ep
      have HLIM := Lib.hid htc.lim
      obtain ⟨r0, r1, r2, r3, r4, r5, r6, r7, r8, r9⟩ := htc.cells
      dsimp only at r0 r1 r2 r3 r4 r5 r6 r7 r8 r9 q1 q2 q3 q4
      have HB := Lib.hid (TokC.box wr ⟨kind, at1, en, sq, k, c2, neg, x, lf, 0, 0⟩ HLIM.out)
      clear htc
      go_wp2_with fail
      have HK3 := Lib.hid (show Keep (fun _ => False) wr (wr.alloc (.cells #[.int .i64 kind, .int .i64 at1, .int .i64 en, .bool sq, .int .i64 k, .int .i32 c2, .bool neg, .slice A1 n1 cp1, .string x, .slice none 0 0] 33)) from (Keep.refl _ _).alloc _)
      obtain ⟨d0, d1, d2, d3, d4, d5, d6, d7, d8, d9⟩ := HB.out.cells
      simp only [Nat.zero_add] at d0 d1 d2 d3 d4 d5 d6 d7 d8 d9
      clear r0 r1 r2 r3 r4 r5 r6 r7 r8 r9
      generalize wr.alloc (.cells #[.int .i64 kind, .int .i64 at1, .int .i64 en, .bool sq, .int .i64 k, .int .i32 c2, .bool neg, .slice A1 n1 cp1, .string x, .slice none 0 0] 33) = w2 at *
      generalize wr.heap.size = B8 at *
      go_quiet ((go_at_call 7; exact Calls.quiet_of_same (HSK2.out _)))
      have HK4 := Lib.hid (HK3.out.drewN nq)
      have HB4 := Lib.hid (HB.out.keep ((Keep.refl _ _).drewN nq))
      clear d0 d1 d2 d3 d4 d5 d6 d7 d8 d9 HB HK3
      generalize w2.drewN nq = w3 at *
      obtain ⟨d0, d1, d2, d3, d4, d5, d6, d7, d8, d9⟩ := HB4.out.cells
      simp only [Nat.zero_add] at d0 d1 d2 d3 d4 d5 d6 d7 d8 d9
      go_wp2_with fail
      refine (HNX2.out _ ((HT.out.keep HK2.out).keep HK4.out)).mono ?_
      rintro e w4 ⟨A2, n2, cp2, rfl, hl2, k4⟩
      have HK5 := Lib.hid (HK4.out.trans (k4.alloc (.cells #[.int .i64 kind, .int .i64 at1, .int .i64 en, .bool sq, .int .i64 k, .int .i32 c2, .bool neg, .slice A2 n2 cp2, .string x, .slice none 0 0] 33)))
      have HB5 := Lib.hid (HB4.out.keep (k4.alloc (.cells #[.int .i64 kind, .int .i64 at1, .int .i64 en, .bool sq, .int .i64 k, .int .i32 c2, .bool neg, .slice A2 n2 cp2, .string x, .slice none 0 0] 33)))
      have HB9 := Lib.hid (TokC.box w4 ⟨kind, at1, en, sq, k, c2, neg, x, lf, 0, 0⟩ hl2)
      clear d0 d1 d2 d3 d4 d5 d6 d7 d8 d9 hl2 k4
      obtain ⟨d0, d1, d2, d3, d4, d5, d6, d7, d8, d9⟩ := HB5.out.cells
      obtain ⟨r0, r1, r2, r3, r4, r5, r6, r7, r8, r9⟩ := HB9.out.cells
      simp only [Nat.zero_add] at d0 d1 d2 d3 d4 d5 d6 d7 d8 d9 r0 r1 r2 r3 r4 r5 r6 r7 r8 r9
      try dsimp only
      go_wp2_with fail
      refine (HS.out kind at1 en sq k c2 neg x lf A1 A2 n1 cp1 n2 cp2 _ HB5.out.lim HB9.out.lim).mono ?_
      rintro e w6 ⟨rfl, k6⟩
      have HN := Lib.hid (HNEXT.out w6 (HK5.out.trans k6))
      have HB6 := HB5.out.keep k6
      clear d0 d1 d2 d3 d4 d5 d6 d7 d8 d9 r0 r1 r2 r3 r4 r5 r6 r7 r8 r9 k6
      obtain ⟨d0, d1, d2, d3, d4, d5, d6, d7, d8, d9⟩ := HB6.cells
      simp only [Nat.zero_add] at d0 d1 d2 d3 d4 d5 d6 d7 d8 d9
      clear HB6
      try dsimp only
      go_wp2_with fail
      go_roundw
      case rel => exact ⟨j + t.len, i + 1, _, _, by rw [← HEE.out], by go_num, HN.out⟩
      case measure => simp only [Lib.intOf]; omega
end Go.Proofs.YtonnikipeokkaaaDoor
