/-
  arith.fold.
-/
import Derived.Test.YtkjocmenpccooaaGreatDoorHpT
namespace Go.Proofs.YtkjocmenpccooaaGreatDoor
open Go.RowKit

/-- From the left; nothing where a number would be too big. -/
def foldV (op : Int → Int → Int) : Int → List Int → Option Int
  | a, [] => some a
  | a, x :: xs => if Fits (op a x) then foldV op (op a x) xs else none
/-- A number, or an error. -/
def NumOr (r : Option Int) (w : World) (e : Ending) (w' : World) : Prop :=
  Keep (fun _ => False) w w' ∧ match r with
  | some v => ∃ A n c, e = .returned (.tuple #[numArg (decide (v < 0)) A n c, .int .i64 0]) ∧ LimbsAt w' A n c (limbs v.natAbs) ∧ Fits v
  | none => ∃ q A n c, e = .returned (.tuple #[numArg q A n c, .int .i64 6])
/-- What a function of two numbers does. -/
def OpC (f : Nat) (op : Int → Int → Int) : Prop := ∀ (w : World) (a b : Int) (A : Option Addr) (n c : Nat) (A' : Option Addr) (n' c' : Nat), LimbsAt w A n c (limbs a.natAbs) → LimbsAt w A' n' c' (limbs b.natAbs) → Fits a → Fits b →
  Calls Tryz.prog f #[numArg (decide (a < 0)) A n c, numArg (decide (b < 0)) A' n' c'] w (ResPost (op a b) w)
theorem two_at {w : World} {B : Nat} {x y : Value} {t : TypeId} (h : w.heap[B]? = some (.cells #[x, y] t (0, 0))) : w.cell? ⟨B, 0, none⟩ = some x ∧ w.cell? ⟨B, 1, none⟩ = some y ∧ w.frozen? ⟨B, 0, none⟩ = false ∧ w.frozen? ⟨B, 1, none⟩ = false :=
  ⟨by rw [cell_of_row _ _ _ _ _ _ h]; rfl, by rw [cell_of_row _ _ _ _ _ _ h]; rfl, by simp [World.frozen?, h], by simp [World.frozen?, h]⟩
theorem two_row {w : World} {B : Nat} {p q : Value} {t : TypeId} (hb : w.heap[B]? = some (.cells #[p, q] t (0, 0))) (a b : Value) : ((w.setCell ⟨B, 0, none⟩ a).setCell ⟨B, 1, none⟩ b).heap[B]? = some (.cells #[a, b] t (0, 0)) := by
  simp [World.setCell, Array.getElem?_modify, hb]
theorem two_off {w : World} {B b : Nat} (hne : b ≠ B) (x y : Value) : ((w.setCell ⟨B, 0, none⟩ x).setCell ⟨B, 1, none⟩ y).heap[b]? = w.heap[b]? := by
  simp [World.setCell, Array.getElem?_modify, Ne.symm hne]
theorem LimbsAt.off24 {w : World} {B : Nat} {p : Bool} {A A' : Option Addr} {n c n' c' : Nat} {l : List Nat} (h : LimbsAt w A n c l) (hb : w.heap[B]? = some (.cells #[.bool p, .slice A' n' c'] 24 (0, 0))) (x y : Value) : LimbsAt ((w.setCell ⟨B, 0, none⟩ x).setCell ⟨B, 1, none⟩ y) A n c l := by
  refine ⟨h.row.keep (((Keep.refl (fun k => k = B) w).setCell (p := ⟨B, 0, none⟩) (.inl rfl) x).setCell (p := ⟨B, 1, none⟩) (.inl rfl) y) (fun hn b off e hbb => ?_), h.low, h.cap, h.max⟩
  obtain ⟨b', off', e', _, hc⟩ := h.row.2 0 hn
  rw [e] at e'
  injection e' with e'
  injection e' with e1 e2
  subst e1 e2
  have hbb' : b = B := hbb
  subst hbb'
  rw [cell_of_row _ _ _ _ _ _ hb] at hc
  match off, hc with
  | 0, hc => simp at hc
  | 1, hc => simp at hc
  | k + 2, hc => simp at hc
/-- At a round of fold: the number's box is B8. -/
structure FoSt (w : World) (B6 B8 : Nat) (op : Int → Int → Int) (xs : List Int) (r : Option Int) (i : Nat) (er : Int) (wr : World) : Prop where
  K : Keep (fun _ => False) w wr
  b6 : wr.heap[B6]? = some (.cells #[.bool false, .slice none 0 0] 24 (0, 0))
  st : (er = 0 ∧ ∃ v A n c, wr.heap[B8]? = some (.cells #[.bool (decide (v < 0)), .slice A n c] 24 (0, 0)) ∧ LimbsAt wr A n c (limbs v.natAbs) ∧ Fits v ∧ foldV op v (xs.drop i) = r) ∨ (er = 6 ∧ r = none ∧ ∃ q A n c, wr.heap[B8]? = some (.cells #[.bool q, .slice A n c] 24 (0, 0)))
set_option maxRecDepth 100000 in
set_option maxHeartbeats 8000000 in
theorem fold_any (f : Nat) (hff : f = 71 ∨ f = 72 ∨ f = 74) (op : Int → Int → Int) (HC : OpC f op) (w : World) (x0 : Int) (A : Option Addr) (n c : Nat) (L : LimbsAt w A n c (limbs x0.natAbs)) (hft : Fits x0) (R : Option Addr) (m rc : Nat) (xs : List Int) (hxs : xs.length = m) (hR : NumsR w R xs) (hm : m ≤ 1000) :
    Calls Tryz.prog 70 #[numArg (decide (x0 < 0)) A n c, .func (.func f) #[] #[], .slice R m rc] w (NumOr (foldV op x0 xs) w) := by
  obtain ⟨q, hq⟩ : ∃ q, q = decide (x0 < 0) := ⟨_, rfl⟩
  rw [← hq]
  have K2 : Keep (fun _ => False) w ((w.alloc (.cells #[.bool q, .slice A n c] 24)).alloc (.cells #[.bool false, .slice none 0 0] 24)) := ((Keep.refl _ _).alloc _).alloc _
  have HN := Lib.hid (norm_any q A n c _ _ (L.keep0 K2))
  rw [show sval q (limbs x0.natAbs) = x0 from by rw [hq]; exact sval_limbs x0] at HN
  have hb0 : ((w.alloc (.cells #[.bool q, .slice A n c] 24)).alloc (.cells #[.bool false, .slice none 0 0] 24)).heap[w.heap.size]? = some (.cells #[.bool q, .slice A n c] 24 (0, 0)) := bx_old (heap_alloc_new w _) _
  have hb6 : ((w.alloc (.cells #[.bool q, .slice A n c] 24)).alloc (.cells #[.bool false, .slice none 0 0] 24)).heap[w.heap.size + 1]? = some (.cells #[.bool false, .slice none 0 0] 24 (0, 0)) := by
    have := heap_alloc_new (w.alloc (.cells #[.bool q, .slice A n c] 24)) (.cells #[.bool false, .slice none 0 0] 24)
    rwa [World.size_alloc] at this
  have HB6 := Lib.hid hb6
  have HK2 := Lib.hid K2
  have HQ := Lib.hid hq
  have HFT := Lib.hid hft
  have HR := Lib.hid hR
  have HXS := Lib.hid hxs
  have HCC := Lib.hid HC
  have HFF := Lib.hid hff
  have hm' := hm
  clear hff HC L hft hR hm hq K2 hb0 hb6 hxs
  go_enter Tryz.func70, Tryz.ntmps70
  go_wp2_with fail
  generalize (w.alloc (.cells #[.bool q, .slice A n c] 24)).alloc (.cells #[.bool false, .slice none 0 0] 24) = w2 at *
  refine HN.out.mono ?_
  rintro e w3 ⟨k3, ⟨hno, _⟩ | ⟨A3, n3, c3, _, rfl, own⟩⟩
  · exact absurd HFT.out hno
  rw [← HQ.out]
  have HL3 := Lib.hid ((own.num HFT.out).keep0 ((Keep.refl _ _).alloc (.cells #[.bool q, .slice A3 n3 c3] 24)))
  have HK3 := Lib.hid ((HK2.out.trans k3).alloc (.cells #[.bool q, .slice A3 n3 c3] 24))
  have HB63 := Lib.hid (bx_old (k3.heap HB6.out id) (.cells #[.bool q, .slice A3 n3 c3] 24))
  have HB8 := Lib.hid (heap_alloc_new w3 (.cells #[.bool q, .slice A3 n3 c3] 24))
  have HBS := Lib.hid (show w.heap.size ≤ w3.heap.size from (HK2.out.trans k3).size)
  have HNE := Lib.hid (show w.heap.size + 1 < w3.heap.size from heap_lt (k3.heap HB6.out id))
  clear k3 own
  go_wp2_with fail
  generalize w3.alloc (.cells #[.bool q, .slice A3 n3 c3] 24) = w4 at *
  generalize w3.heap.size = B8 at *
  go_loopw [9, 19] (fun ev iv wr => ∃ (i : Nat) (er : Int), i ≤ m ∧ ev = .int .i64 er ∧ iv = .int .i64 (i : Int) ∧ FoSt w (w.heap.size + 1) B8 op xs (foldV op x0 xs) i er wr) (fun _ iv _ => m - (intOf iv).toNat)
  case atStart => exact ⟨0, 0, Nat.zero_le _, rfl, rfl, HK3.out, HB63.out, .inl ⟨rfl, x0, A3, n3, c3, by rw [← HQ.out]; exact HB8.out, HL3.out, HFT.out, by rw [List.drop_zero]⟩⟩
  case round =>
    obtain ⟨i, er, hi, rfl, rfl, hst⟩ := hrel
    have HS := Lib.hid hst
    clear hst
    by_cases h4 : i < m
    · have l1 : decide ((i : Int) < (m : Int)) = true := decide_eq_true (by omega)
      have l2 : decide (i < m) = true := decide_eq_true h4
      have hil : i < xs.length := by rw [HXS.out]; exact h4
      obtain ⟨b, off, A5, n5, c5, hRe, hb, h1, h2, hl5, hf5⟩ := (HR.out.keep0 HS.out.K) i hil
      obtain ⟨x, hx⟩ : ∃ x, x = xs[i] := ⟨_, rfl⟩
      rw [← hx] at h1 hl5 hf5
      obtain ⟨q5, hq5⟩ : ∃ q5, q5 = decide (x < 0) := ⟨_, rfl⟩
      rw [← hq5] at h1
      subst hRe
      have HX := Lib.hid (show xs.drop i = x :: xs.drop (i + 1) from by rw [hx]; exact List.drop_eq_getElem_cons hil)
      have HQ5 := Lib.hid hq5
      have HF5 := Lib.hid hf5
      have KW := Lib.hid (((Keep.refl (fun _ => False) wr)).alloc (.cells #[.bool q5, .slice A5 n5 c5] 24))
      have HL5 := Lib.hid (hl5.keep0 KW.out)
      have HB5 := Lib.hid (heap_alloc_new wr (.cells #[.bool q5, .slice A5 n5 c5] 24))
      have HS5 := Lib.hid HS.out.K.size
      clear hx hq5 hf5 hl5 hil
      rcases HS.out.st with ⟨rfl, v, A6, n6, c6, hb8, hl6, hf6, hfo⟩ | ⟨rfl, hr, q6, A6, n6, c6, hb8⟩
      · obtain ⟨q6, hq6⟩ : ∃ q6, q6 = decide (v < 0) := ⟨_, rfl⟩
        rw [← hq6] at hb8
        have HQ6 := Lib.hid hq6
        have HF6 := Lib.hid hf6
        have HFO := Lib.hid hfo
        have HL6 := Lib.hid (hl6.keep0 KW.out)
        have HB8' := Lib.hid (bx_old hb8 (.cells #[.bool q5, .slice A5 n5 c5] 24))
        have HB6' := Lib.hid (bx_old HS.out.b6 (.cells #[.bool q5, .slice A5 n5 c5] 24))
        have HCL := Lib.hid (HCC.out (wr.alloc (.cells #[.bool q5, .slice A5 n5 c5] 24)) v x A6 n6 c6 A5 n5 c5 HL6.out HL5.out HF6.out HF5.out)
        rw [← HQ6.out, ← HQ5.out] at HCL
        obtain ⟨g0, g1, _, _⟩ := two_at HB8'.out
        obtain ⟨g2, g3, _, _⟩ := two_at HB5.out
        clear hq6 hf6 hl6 hfo hb8
        rcases HFF.out with rfl | rfl | rfl
        all_goals
          go_wp2_with fail
          refine HCL.out.mono ?_
          rintro e w6 ⟨k6, h6⟩
          have HB86 := Lib.hid (k6.heap HB8'.out id)
          have HB66 := Lib.hid (k6.heap HB6'.out id)
          have K6 := Lib.hid k6
          obtain ⟨g4, g5, g6, g7⟩ := two_at HB86.out
          clear k6 g0 g1 g2 g3
          rcases h6 with ⟨hno, rfl⟩ | ⟨A7, n7, c7, hfx, rfl, own7⟩
          · have HNO := Lib.hid hno
            clear hno
            go_wp2_with fail
            go_roundw
            case rel =>
              exact ⟨i + 1, 6, h4, rfl, by go_num, two_keep ((HS.out.K.alloc _).trans K6.out) HBS.out _ _, (two_off (Nat.ne_of_lt HNE.out) _ _).trans HB66.out, .inr ⟨rfl, by rw [← HFO.out, HX.out]; exact if_neg HNO.out, _, _, _, _, two_row HB86.out _ _⟩⟩
            case measure => simp only [intOf]; omega
          · obtain ⟨q7, hq7⟩ : ∃ q7, q7 = decide (op v x < 0) := ⟨_, rfl⟩
            rw [← hq7]
            have HQ7 := Lib.hid hq7
            have HFX := Lib.hid hfx
            have HL7 := Lib.hid (own7.num hfx)
            clear hq7 hfx own7
            go_wp2_with fail
            go_roundw
            case rel =>
              exact ⟨i + 1, 0, h4, rfl, by go_num, two_keep ((HS.out.K.alloc _).trans K6.out) HBS.out _ _, (two_off (Nat.ne_of_lt HNE.out) _ _).trans HB66.out, .inl ⟨rfl, op v x, A7, n7, c7, by rw [← HQ7.out]; exact two_row HB86.out _ _, HL7.out.off24 HB86.out _ _, HFX.out, by rw [← HFO.out, HX.out]; exact (if_pos HFX.out).symm⟩⟩
            case measure => simp only [intOf]; omega
      · obtain ⟨g0, g1, _, _⟩ := two_at (bx_old hb8 (.cells #[.bool q5, .slice A5 n5 c5] 24))
        obtain ⟨g2, g3, g4, g5⟩ := two_at (bx_old HS.out.b6 (.cells #[.bool q5, .slice A5 n5 c5] 24))
        go_wp2_with fail
        obtain ⟨e0, e1⟩ := two_cells (bx_old HS.out.b6 (.cells #[.bool q5, .slice A5 n5 c5] 24)) (.bool q6) (.slice A6 n6 c6)
        have HE := Lib.hid (And.intro e0 e1)
        refine bodyPost_ret (v := .tuple #[numArg q6 A6 n6 c6, .int .i64 6]) ?_ rfl ⟨two_keep (HS.out.K.alloc _) (Nat.le_succ _) _ _, by rw [hr]; exact ⟨q6, A6, n6, c6, rfl⟩⟩
        obtain ⟨e0, e1⟩ := HE.out
        simp [results, Tryz.results70, go_sem, e0, e1]
    · have hie : i = m := by omega
      subst hie
      have l1 : decide ((i : Int) < (i : Int)) = false := decide_eq_false (by omega)
      rcases HS.out.st with ⟨rfl, v, A6, n6, c6, hb8, hl6, hf6, hfo⟩ | ⟨rfl, hr, q6, A6, n6, c6, hb8⟩
      · obtain ⟨q6, hq6⟩ : ∃ q6, q6 = decide (v < 0) := ⟨_, rfl⟩
        rw [← hq6] at hb8
        have HQ6 := Lib.hid hq6
        have HF6 := Lib.hid hf6
        have HFO := Lib.hid (show foldV op x0 xs = some v from by rw [← hfo, List.drop_eq_nil_of_le (by rw [HXS.out]; exact Nat.le_refl _)]; rfl)
        have HL6 := Lib.hid hl6
        have HB8' := Lib.hid hb8
        obtain ⟨g0, g1, _, _⟩ := two_at hb8
        obtain ⟨g2, g3, g4, g5⟩ := two_at HS.out.b6
        clear hq6 hf6 hl6 hfo hb8
        go_wp2_with fail
        obtain ⟨e0, e1⟩ := two_cells HS.out.b6 (.bool q6) (.slice A6 n6 c6)
        have HE := Lib.hid (And.intro e0 e1)
        refine bodyPost_ret (v := .tuple #[numArg q6 A6 n6 c6, .int .i64 0]) ?_ rfl ⟨two_keep HS.out.K (Nat.le_succ _) _ _, ?_⟩
        · obtain ⟨e0, e1⟩ := HE.out
          simp [results, Tryz.results70, go_sem, e0, e1]
        · rw [HFO.out]
          exact ⟨A6, n6, c6, by rw [HQ6.out], HL6.out.off24 HS.out.b6 _ _, HF6.out⟩
      · obtain ⟨g0, g1, _, _⟩ := two_at hb8
        obtain ⟨g2, g3, g4, g5⟩ := two_at HS.out.b6
        go_wp2_with fail
        obtain ⟨e0, e1⟩ := two_cells HS.out.b6 (.bool q6) (.slice A6 n6 c6)
        have HE := Lib.hid (And.intro e0 e1)
        refine bodyPost_ret (v := .tuple #[numArg q6 A6 n6 c6, .int .i64 6]) ?_ rfl ⟨two_keep HS.out.K (Nat.le_succ _) _ _, by rw [hr]; exact ⟨q6, A6, n6, c6, rfl⟩⟩
        obtain ⟨e0, e1⟩ := HE.out
        simp [results, Tryz.results70, go_sem, e0, e1]
end Go.Proofs.YtkjocmenpccooaaGreatDoor
