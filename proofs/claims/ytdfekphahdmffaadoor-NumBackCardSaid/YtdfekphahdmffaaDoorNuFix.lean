/-
  num: Fix.
-/
import Derived.Test.YtdfekphahdmffaaDoorNuOf
import Derived.Laws.Bits64b
namespace Go.Proofs.YtdfekphahdmffaaDoor
open Go.RowKit Go.Lib

/-- 61 bits. -/
def Small (x : Int) : Prop := -1152921504606846976 ≤ x ∧ x < 1152921504606846976
instance (x : Int) : Decidable (Small x) := by unfold Small; infer_instance
def FixPost (x : Int) (w : World) (e : Ending) (w' : World) : Prop := e = .returned (.tuple #[.int .i64 (if Small x then x else 0), .bool (decide (Small x))]) ∧ Keep (fun _ => False) w w'

theorem or_up {x y : Nat} (hx : x ≤ 4294967295) (hy : y ≤ 4294967295) : bits BinOp.or IntKind.u64 (y : Int) ((x : Int) * 4294967296) = ((y + BB * x : Nat) : Int) := by
  have e1 : ((x : Int) * 4294967296) = ((2 ^ 32 * x : Nat) : Int) := by omega
  have h2 : y < 2 ^ 32 := by omega
  rw [e1, bits_or_u64_nat _ _ (by omega) (by omega), Nat.or_comm, ← Nat.two_pow_add_eq_or_of_lt h2]
  unfold BB
  omega
set_option maxRecDepth 100000 in
set_option maxHeartbeats 4000000 in
theorem fix_any (neg : Bool) (A : Option Addr) (n c : Nat) (l : List Nat) (w : World) (h : LimbsAt w A n c l) :
    Calls Tryd.prog 40 #[numArg neg A n c] w (FixPost (sval neg l) w) := by
  have K : Keep (fun _ => False) w (w.alloc (.cells #[.bool neg, .slice A n c] 25)) := (Keep.refl _ _).alloc _
  have hb : (w.alloc (.cells #[.bool neg, .slice A n c] 25)).heap[w.heap.size]? = some (.cells #[.bool neg, .slice A n c] 25 (0, 0)) := heap_alloc_new w _
  have h1 := h.keep0 K
  have H1 := Lib.hid h1
  have HK := Lib.hid K
  have HB := Lib.hid hb
  have T1 := Lib.hid h1.trim
  have tm := h1.trim.max
  clear h h1 K hb
  obtain ⟨t, ht⟩ : ∃ t, t = tlen l := ⟨_, rfl⟩
  have HT := Lib.hid ht
  go_enter Tryd.func40, Tryd.ntmps40
  go_wp2_with fail
  refine (trim_any A n c l _ H1.out).mono ?_
  rintro e w1 ⟨rfl, rfl⟩
  rw [← ht]
  rw [← ht] at tm
  clear ht
  obtain ⟨d, hd⟩ : ∃ d, d = limbs (lval l) := ⟨_, rfl⟩
  have TD : LimbsAt (w.alloc (.cells #[.bool neg, .slice A n c] 25)) A t c d := by rw [HT.out, hd]; exact T1.out
  have HTD := Lib.hid TD
  have HD := Lib.hid hd
  have cB0 : (w.alloc (.cells #[.bool neg, .slice A n c] 25)).cell? ⟨w.heap.size, 0, none⟩ = some (.bool neg) := by rw [cell_of_row _ _ _ _ _ _ HB.out]; rfl
  clear hd TD H1 T1
  by_cases ht2 : t ≤ 2
  · have ht2i : (t : Int) ≤ 2 := by omega
    try dsimp only
    go_wp2_with fail
    generalize w.heap.size = Bx at HB cB0 ⊢
    generalize w.alloc (.cells #[.bool neg, .slice A n c] 25) = w1 at HK HB HTD cB0 ⊢
    go_loop [5, 13] (fun xv iv => ∃ k : Nat, k ≤ t ∧ iv = .int .i64 (k : Int) ∧ xv = .int .u64 ((lval (d.take k) : Nat) : Int)) (fun _ iv => t - (RowKit.intOf iv).toNat)
    case atStart => exact ⟨0, Nat.zero_le _, rfl, rfl⟩
    case round =>
      obtain ⟨k, hk, rfl, rfl⟩ := hrel
      by_cases hkm : k < t
      · have i0 : (0 : Int) ≤ (k : Int) := by omega
        have i1 : (k : Int) < (t : Int) := by omega
        obtain ⟨b, off, rfl, hb, hc⟩ := HTD.out.row.2 k hkm
        have hx := low_cast HTD.out.low k
        rcases (by omega : k = 0 ∨ k = 1) with rfl | rfl
        · obtain ⟨x, hxx⟩ : ∃ x, x = d.getD 0 0 := ⟨_, rfl⟩
          rw [← hxx] at hc hx
          have hv : lval (d.take 0) = 0 := rfl
          rw [hv]
          have HXX := Lib.hid hxx
          rw [Nat.add_zero] at hc
          clear hxx hv
          go_wp2_with fail
          go_round
          case rel => exact ⟨1, by omega, by go_num, by
            have e1 : lval (d.take 1) = x := by rw [HXX.out]; show val BB (d.take (0 + 1)) = _; rw [val_take_succ]; simp [val]
            rw [e1, show (0 : Int) = ((0 : Nat) : Int) from rfl, bits_or_u64_nat 0 x (by omega) (by omega), Nat.zero_or]⟩
          case measure => simp [RowKit.intOf]; omega
        · obtain ⟨x, hxx⟩ : ∃ x, x = d.getD 1 0 := ⟨_, rfl⟩
          rw [← hxx] at hc hx
          obtain ⟨y, hy⟩ : ∃ y, y = lval (d.take 1) := ⟨_, rfl⟩
          rw [← hy]
          have HXX := Lib.hid hxx
          have HY := Lib.hid hy
          clear hxx hy
          go_wp2_with fail
          go_round
          case rel => exact ⟨2, by omega, by go_num, by
            have e1 : lval (d.take 2) = y + BB * x := by rw [HXX.out, HY.out]; show val BB (d.take (1 + 1)) = _; rw [val_take_succ, Nat.pow_one]
            have e2 : y ≤ 4294967295 := by
              rw [HY.out]
              have := val_take_lt (B := BB) (by unfold BB; omega) HTD.out.low 1
              unfold BB at this
              show val 4294967296 (d.take 1) ≤ _
              omega
            rw [e1, or_up (by omega) e2]⟩
          case measure => simp [RowKit.intOf]; omega
      · have hdn : decide ((k : Int) < (t : Int)) = false := decide_eq_false (by omega)
        obtain rfl : k = t := by omega
        have hv : lval (d.take k) = lval l := by rw [List.take_of_length_le (by rw [HTD.out.len]; omega), HD.out, lval_limbs]
        rw [hv]
        obtain ⟨v, hvv⟩ : ∃ v, v = lval l := ⟨_, rfl⟩
        rw [← hvv]
        have hs : sval neg l = if neg = true then -(v : Int) else (v : Int) := by rw [hvv]; rfl
        have HS := Lib.hid hs
        have hd2 : decide ((2 : Int) < (k : Int)) = false := decide_eq_false (by omega)
        clear hvv hs hv
        rcases (by omega : (1152921504606846976 : Int) < (v : Int) ∨ (v : Int) = 1152921504606846976 ∨ (v : Int) < 1152921504606846976) with h1 | h1 | h1
        · have HF := Lib.hid (show FixPost (sval neg l) w (.returned (.tuple #[.int .i64 0, .bool false])) w1 from by
            have : ¬ Small (sval neg l) := by rw [HS.out]; unfold Small; cases neg <;> simp <;> omega
            exact ⟨by rw [if_neg this, decide_eq_false this], HK.out⟩)
          clear HS
          go_wp2_with fail
          refine bodyPost_ret (v := _) ?_ rfl HF.out
          simp [results, Tryd.results40, go_sem]
        · cases neg with
          | true =>
            have HF := Lib.hid (show FixPost (sval true l) w (.returned (.tuple #[.int .i64 (-1152921504606846976), .bool true])) w1 from by
              have e : sval true l = -1152921504606846976 := by rw [HS.out, if_pos rfl, h1]
              exact ⟨by rw [e]; rfl, HK.out⟩)
            clear HS
            rw [h1]
            go_wp2_with fail
            refine bodyPost_ret (v := _) ?_ rfl HF.out
            simp [results, Tryd.results40, go_sem]
          | false =>
            have HF := Lib.hid (show FixPost (sval false l) w (.returned (.tuple #[.int .i64 0, .bool false])) w1 from by
              have e : sval false l = 1152921504606846976 := by rw [HS.out, if_neg (by simp), h1]
              exact ⟨by rw [e]; rfl, HK.out⟩)
            clear HS
            rw [h1]
            go_wp2_with fail
            refine bodyPost_ret (v := _) ?_ rfl HF.out
            simp [results, Tryd.results40, go_sem]
        · have hn1 : decide ((1152921504606846976 : Int) < (v : Int)) = false := decide_eq_false (by omega)
          have hn2 : ((v : Int) == 1152921504606846976) = false := by rw [beq_eq_false_iff_ne]; omega
          cases neg with
          | true =>
            have HF := Lib.hid (show FixPost (sval true l) w (.returned (.tuple #[.int .i64 (-(v : Int)), .bool true])) w1 from by
              have e : sval true l = -(v : Int) := by rw [HS.out, if_pos rfl]
              have hsm : Small (-(v : Int)) := by unfold Small; omega
              exact ⟨by rw [e, if_pos hsm, decide_eq_true hsm], HK.out⟩)
            clear HS
            go_wp2_with fail
            refine bodyPost_ret (v := _) ?_ rfl HF.out
            simp [results, Tryd.results40, go_sem]
          | false =>
            have HF := Lib.hid (show FixPost (sval false l) w (.returned (.tuple #[.int .i64 (v : Int), .bool true])) w1 from by
              have e : sval false l = (v : Int) := by rw [HS.out, if_neg (by simp)]
              have hsm : Small (v : Int) := by unfold Small; omega
              exact ⟨by rw [e, if_pos hsm, decide_eq_true hsm], HK.out⟩)
            clear HS
            go_wp2_with fail
            refine bodyPost_ret (v := _) ?_ rfl HF.out
            simp [results, Tryd.results40, go_sem]
  · have ht2i : ¬ (t : Int) ≤ 2 := by omega
    have ht2j : (2 : Int) < (t : Int) := by omega
    try dsimp only
    go_wp2_with fail
    generalize w.heap.size = Bx at HB cB0 ⊢
    generalize w.alloc (.cells #[.bool neg, .slice A n c] 25) = w1 at HK HB HTD cB0 ⊢
    go_loop [5, 13] (fun xv iv => ∃ (k : Nat) (z : Int), k ≤ 2 ∧ iv = .int .i64 (k : Int) ∧ xv = .int .u64 z) (fun _ iv => 2 - (RowKit.intOf iv).toNat)
    case atStart => exact ⟨0, 0, Nat.zero_le _, rfl, rfl⟩
    case round =>
      obtain ⟨k, z, hk, rfl, rfl⟩ := hrel
      by_cases hkm : k < 2
      · have i0 : (0 : Int) ≤ (k : Int) := by omega
        have i1 : (k : Int) < 2 := by omega
        have i2 : (k : Int) < (t : Int) := by omega
        obtain ⟨b, off, rfl, hb, hc⟩ := HTD.out.row.2 k (by omega)
        have hx := low_cast HTD.out.low k
        obtain ⟨x, hxx⟩ : ∃ x, x = d.getD k 0 := ⟨_, rfl⟩
        rw [← hxx] at hc hx
        clear hxx
        go_wp2_with fail
        go_round
        case rel => exact ⟨k + 1, _, by omega, by go_num, rfl⟩
        case measure => simp [RowKit.intOf]; omega
      · obtain rfl : k = 2 := by omega
        have HF := Lib.hid (show FixPost (sval neg l) w (.returned (.tuple #[.int .i64 0, .bool false])) w1 from by
          have hbig : ¬ lval l < BB ^ 2 := fun h => by
            have : (limbs (lval l)).length ≤ 2 := (digs_len_le BB2 (lval l) 2).2 h
            have e := HT.out
            unfold tlen at e
            omega
          have hb2 : 18446744073709551616 ≤ lval l := by rw [show BB ^ 2 = 18446744073709551616 from rfl] at hbig; omega
          have : ¬ Small (sval neg l) := by unfold Small sval; cases neg <;> simp <;> omega
          exact ⟨by rw [if_neg this, decide_eq_false this], HK.out⟩)
        go_wp2_with fail
        refine bodyPost_ret (v := _) ?_ rfl HF.out
        simp [results, Tryd.results40, go_sem]
end Go.Proofs.YtdfekphahdmffaaDoor
