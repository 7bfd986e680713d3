/-
  arith.end: the greatest, the least.
-/
import Derived.Test.YtkjocmenpccooaaGreatDoorHpAb
namespace Go.Proofs.YtkjocmenpccooaaGreatDoor
open Go.RowKit

def betB (k x b : Int) : Bool := decide (cmpI x b > 0) && decide (k = 12) || decide (cmpI x b < 0) && decide (k = 13)
def bestV (k : Int) : Int → List Int → Int
  | b, [] => b
  | b, x :: xs => bestV k (if betB k x b then x else b) xs
def EndPost (v : Int) (w : World) (e : Ending) (w' : World) : Prop :=
  Keep (fun _ => False) w w' ∧ ∃ q A n c, e = .returned (numArg q A n c) ∧ q = decide (v < 0) ∧ LimbsAt w' A n c (limbs v.natAbs) ∧ Fits v
structure EnSt (w : World) (B4 B5 : Nat) (k : Int) (xs : List Int) (r : Int) (i : Nat) (wr : World) : Prop where
  K : Keep (fun _ => False) w wr
  b4 : wr.heap[B4]? = some (.cells #[.bool false, .slice none 0 0] 24 (0, 0))
  st : ∃ v A n c, wr.heap[B5]? = some (.cells #[.bool (decide (v < 0)), .slice A n c] 24 (0, 0)) ∧ LimbsAt wr A n c (limbs v.natAbs) ∧ Fits v ∧ bestV k v (xs.drop i) = r
set_option maxRecDepth 100000 in
set_option maxHeartbeats 8000000 in
theorem end_any (k : Int) (hk : k = 12 ∨ k = 13) (w : World) (R : Option Addr) (m rc : Nat) (x0 : Int) (xs : List Int) (hxs : xs.length = m) (hR : NumsR w R (x0 :: xs)) (hm : m ≤ 1000) (hm1 : 1 ≤ m) (hrc : m + 1 ≤ rc) :
    Calls Tryz.prog 79 #[.int .i64 k, .slice R (m + 1) rc] w (EndPost (bestV k x0 xs) w) := by
  have hR0 := hR
  obtain ⟨b, off, A, n, c, rfl, hbl, h0, h1, hl, hf⟩ := hR.one
  have HRT := Lib.hid hR0.tail
  obtain ⟨q, hq⟩ : ∃ q, q = decide (x0 < 0) := ⟨_, rfl⟩
  rw [← hq] at h0
  have K1 : Keep (fun _ => False) w (w.alloc (.cells #[.bool false, .slice none 0 0] 24)) := (Keep.refl _ _).alloc _
  have K2 : Keep (fun _ => False) w ((w.alloc (.cells #[.bool false, .slice none 0 0] 24)).alloc (.cells #[.bool q, .slice A n c] 24)) := K1.alloc _
  have HB4 := Lib.hid (bx_old (heap_alloc_new w (.cells #[.bool false, .slice none 0 0] 24)) (.cells #[.bool q, .slice A n c] 24))
  have HB5 := Lib.hid (show ((w.alloc (.cells #[.bool false, .slice none 0 0] 24)).alloc (.cells #[.bool q, .slice A n c] 24)).heap[w.heap.size + 1]? = some (.cells #[.bool q, .slice A n c] 24 (0, 0)) from by
    have := heap_alloc_new (w.alloc (.cells #[.bool false, .slice none 0 0] 24)) (.cells #[.bool q, .slice A n c] 24)
    rwa [World.size_alloc] at this)
  have HK2 := Lib.hid K2
  have HL := Lib.hid (hl.keep0 K2)
  have HFT := Lib.hid hf
  have HQ := Lib.hid hq
  have HXS := Lib.hid hxs
  have hm' := hm
  replace h0 := (K1.cell (p := ⟨b, off, none⟩) hbl id).trans h0
  replace h1 := (K1.cell (p := ⟨b, off + 1, none⟩) hbl id).trans h1
  have ec : ((m + 1 : Nat) : Int) = (m : Int) + 1 := by omega
  have hne : ¬ rc = 1 := by omega
  have hrc1 : 1 ≤ rc := by omega
  clear hl hf hq hR hR0 hbl K1 K2 hxs hm
  go_enter Tryz.func79, Tryz.ntmps79
  go_wp2_with fail
  generalize (w.alloc (.cells #[.bool false, .slice none 0 0] 24)).alloc (.cells #[.bool q, .slice A n c] 24) = w2 at *
  have HB45 := Lib.hid (show w.heap.size ≠ w.heap.size + 1 from by omega)
  go_loopw [15] (fun iv wr => ∃ i : Nat, i ≤ m ∧ iv = .int .i64 (i : Int) ∧ EnSt w w.heap.size (w.heap.size + 1) k xs (bestV k x0 xs) i wr) (fun iv _ => m - (intOf iv).toNat)
  case atStart => exact ⟨0, Nat.zero_le _, rfl, HK2.out, HB4.out, x0, A, n, c, by rw [← HQ.out]; exact HB5.out, HL.out, HFT.out, by rw [List.drop_zero]⟩
  case round =>
    obtain ⟨i, hi, rfl, hst⟩ := hrel
    have HS := Lib.hid hst
    clear hst h0 h1
    obtain ⟨v, A6, n6, c6, hb5, hl6, hf6, hfo⟩ := HS.out.st
    obtain ⟨q6, hq6⟩ : ∃ q6, q6 = decide (v < 0) := ⟨_, rfl⟩
    rw [← hq6] at hb5
    have HQ6 := Lib.hid hq6
    have HF6 := Lib.hid hf6
    have HFO := Lib.hid hfo
    have HL0 := Lib.hid hl6
    have HB50 := Lib.hid hb5
    by_cases h4 : i < m
    · have l1 : decide ((i : Int) < (m : Int)) = true := decide_eq_true (by omega)
      have l2 : decide (i < m) = true := decide_eq_true h4
      have hil : i < xs.length := by rw [HXS.out]; exact h4
      obtain ⟨b', off', A5, n5, c5, hRe, hb, h1, h2, hl5, hf5⟩ := (HRT.out.keep0 HS.out.K) i hil
      obtain ⟨x, hx⟩ : ∃ x, x = xs[i] := ⟨_, rfl⟩
      rw [← hx] at h1 hl5 hf5
      injection hRe with hRe
      injection hRe with e1 e2
      subst e1 e2
      obtain ⟨q5, hq5⟩ : ∃ q5, q5 = decide (x < 0) := ⟨_, rfl⟩
      rw [← hq5] at h1
      have HX := Lib.hid (show xs.drop i = x :: xs.drop (i + 1) from by rw [hx]; exact List.drop_eq_getElem_cons hil)
      have HQ5 := Lib.hid hq5
      have HF5 := Lib.hid hf5
      have KW := Lib.hid (((Keep.refl (fun _ => False) wr)).alloc (.cells #[.bool q5, .slice A5 n5 c5] 24))
      have HL5 := Lib.hid (hl5.keep0 KW.out)
      have HB7 := Lib.hid (heap_alloc_new wr (.cells #[.bool q5, .slice A5 n5 c5] 24))
      have HS5 := Lib.hid HS.out.K.size
      have HL6 := Lib.hid (hl6.keep0 KW.out)
      have HB5' := Lib.hid (bx_old hb5 (.cells #[.bool q5, .slice A5 n5 c5] 24))
      have HB4' := Lib.hid (bx_old HS.out.b4 (.cells #[.bool q5, .slice A5 n5 c5] 24))
      have HCL := Lib.hid (cmp_any (decide (x < 0)) A5 n5 c5 _ (decide (v < 0)) A6 n6 c6 _ (wr.alloc (.cells #[.bool q5, .slice A5 n5 c5] 24)) HL5.out HL6.out)
      rw [sval_limbs, sval_limbs, ← HQ5.out, ← HQ6.out] at HCL
      obtain ⟨g0, g1, _, _⟩ := two_at HB5'.out
      obtain ⟨g2, g3, _, _⟩ := two_at HB7.out
      clear hq6 hf6 hl6 hfo hb5 hx hq5 hf5 hl5
      go_wp2_with fail
      refine HCL.out.mono ?_
      rintro e w6 ⟨rfl, k6⟩
      have HB56 := Lib.hid (k6.heap HB5'.out id)
      have HB46 := Lib.hid (k6.heap HB4'.out id)
      have HB76 := Lib.hid (k6.heap HB7.out id)
      have K6 := Lib.hid k6
      have HL56 := Lib.hid (HL5.out.keep0 k6)
      have HL66 := Lib.hid (HL6.out.keep0 k6)
      obtain ⟨g4, g5, g6, g7⟩ := two_at HB56.out
      obtain ⟨g8, g9, _, _⟩ := two_at HB76.out
      clear k6 g0 g1 g2 g3
      obtain ⟨cc, hcc⟩ : ∃ cc, cc = cmpI x v := ⟨_, rfl⟩
      rw [← hcc]
      have HCI := Lib.hid hcc
      clear hcc
      obtain ⟨t1, ht1⟩ : ∃ t, t = decide (0 < cc) := ⟨_, rfl⟩
      obtain ⟨t2, ht2⟩ : ∃ t, t = decide (cc < 0) := ⟨_, rfl⟩
      have l3 := ht1.symm
      have l4 := ht2.symm
      have HT1 := Lib.hid ht1
      have HT2 := Lib.hid ht2
      clear ht1 ht2
      rcases hk with rfl | rfl
      all_goals
        cases t1 <;> cases t2
        all_goals
          go_wp2_with fail
          go_roundw
          case rel =>
            first
            | exact ⟨i + 1, h4, by go_num, (HS.out.K.alloc _).trans K6.out, HB46.out, v, A6, n6, c6, by rw [← HQ6.out]; exact HB56.out, HL66.out, HF6.out, by
                rw [← HFO.out, HX.out, bestV, if_neg]
                unfold betB
                rw [← HCI.out, show decide (cc > 0) = _ from HT1.out.symm, ← HT2.out]
                decide⟩
            | exact ⟨i + 1, h4, by go_num, two_keep ((HS.out.K.alloc _).trans K6.out) (Nat.le_succ _) _ _, (two_off HB45.out _ _).trans HB46.out, x, A5, n5, c5, by rw [← HQ5.out]; exact two_row HB56.out _ _, HL56.out.off24 HB56.out _ _, HF5.out, by
                rw [← HFO.out, HX.out, bestV, if_pos]
                unfold betB
                rw [← HCI.out, show decide (cc > 0) = _ from HT1.out.symm, ← HT2.out]
                decide⟩
          case measure => simp only [intOf]; omega
    · have hie : i = m := by omega
      subst hie
      have l1 : decide ((i : Int) < (i : Int)) = false := decide_eq_false (by omega)
      have HFV := Lib.hid (show bestV k x0 xs = v from by rw [← hfo, List.drop_eq_nil_of_le (by rw [HXS.out]; exact Nat.le_refl _)]; rfl)
      obtain ⟨g0, g1, _, _⟩ := two_at hb5
      obtain ⟨g2, g3, g4, g5⟩ := two_at HS.out.b4
      clear hq6 hf6 hl6 hfo hb5
      go_wp2_with fail
      obtain ⟨e0, e1⟩ := two_cells HS.out.b4 (.bool q6) (.slice A6 n6 c6)
      have HE := Lib.hid (And.intro e0 e1)
      refine bodyPost_ret (v := numArg q6 A6 n6 c6) ?_ rfl ⟨two_keep HS.out.K (Nat.le_refl _) _ _, q6, A6, n6, c6, rfl, by rw [HFV.out, HQ6.out], by rw [HFV.out]; exact HL0.out.off24 HS.out.b4 _ _, by rw [HFV.out]; exact HF6.out⟩
      obtain ⟨e0, e1⟩ := HE.out
      simp [results, Tryz.results79, go_sem, e0, e1]
end Go.Proofs.YtkjocmenpccooaaGreatDoor
