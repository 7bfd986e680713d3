/-
  The document's numbers: bits; cut, value.
-/
import Derived.Test.YtdfekphahdmffaaDoorNuSame
namespace Go.Proofs.YtdfekphahdmffaaDoor
open Go.RowKit

theorem two2 : 2 ≤ 2 := Nat.le_refl 2
/-- The bits of a number. -/
abbrev bits2 (n : Nat) : List Nat := digs 2 n
/-- The value of bits. -/
abbrev bval (l : List Nat) : Nat := val 2 l
/-- How many bits are left when noughts at the end are cut off. -/
def blen (l : List Nat) : Nat := (bits2 (bval l)).length
theorem blen_of {l : List Nat} (low : Low 2 l) {k : Nat} (hk : k ≤ l.length) (hz : ∀ j, k ≤ j → j < l.length → l.getD j 0 = 0) (h : k = 0 ∨ l.getD (k - 1) 0 ≠ 0) : blen l = k ∧ l.take k = bits2 (bval l) := by
  have := take_digs two2 low hk hz h
  refine ⟨?_, this⟩
  have e := congrArg List.length this
  rw [List.length_take] at e
  show (digs 2 (val 2 l)).length = k
  omega
theorem blen_le {l : List Nat} (low : Low 2 l) : blen l ≤ l.length := by
  unfold blen bits2
  rw [digs_len_le two2]
  exact val_lt low
/-- A slice of bits that lies there. -/
structure BitsAt (w : World) (A : Option Addr) (n c : Nat) (l : List Nat) : Prop where
  row : RowAt .u8 w A n l
  low : Low 2 l
  cap : n ≤ c
  max : n ≤ 10000000
namespace BitsAt
variable {w w' : World} {A : Option Addr} {n c : Nat} {l : List Nat}
theorem len (h : BitsAt w A n c l) : l.length = n := h.row.1
theorem keep0 (h : BitsAt w A n c l) (k : Keep (fun _ => False) w w') : BitsAt w' A n c l := ⟨h.row.keep0 k, h.low, h.cap, h.max⟩
end BitsAt
theorem OwnR.toBits {w : World} {base n c : Nat} {A : Option Addr} {l : List Nat} (h : OwnR 5 .u8 w base A n c l) (low : Low 2 l) (hm : n ≤ 10000000) : BitsAt w A n c l := ⟨h.row, low, h.cap, hm⟩
theorem low2_cast {l : List Nat} (h : Low 2 l) (j : Nat) : l.getD j 0 = 0 ∨ l.getD j 0 = 1 := by
  have := h.getD (by omega) j
  omega

set_option maxHeartbeats 800000 in
theorem cut_any (A : Option Addr) (n c : Nat) (l : List Nat) (w : World) (hA : BitsAt w A n c l) :
    Calls Tryd.prog 85 #[.slice A n c] w fun e w' => e = .returned (.slice A (blen l) c) ∧ w = w' := by
  obtain ⟨h, low, hcap, hn⟩ := hA
  have hlen := h.1
  have LOW := Lib.hid low
  have HLEN := Lib.hid hlen
  clear low hlen
  go_enter Tryd.func85, Tryd.ntmps85
  go_wp2_with fail
  go_loop [3] (fun i => ∃ k : Nat, k ≤ n ∧ i = .int .i64 k ∧ ∀ j, k ≤ j → j < n → l.getD j 0 = 0) (fun i => (intOf i).toNat)
  case atStart => exact ⟨n, Nat.le_refl _, rfl, fun j h1 h2 => by omega⟩
  case round =>
    obtain ⟨k, hk, rfl, hz⟩ := hrel
    have HZ := Lib.hid hz
    clear hz
    by_cases h0 : k = 0
    · subst h0
      have ht := (blen_of LOW.out (k := 0) (Nat.zero_le _) (fun j h1 h2 => HZ.out j h1 (by rw [← HLEN.out]; exact h2)) (.inl rfl)).1
      have HT := Lib.hid ht
      clear ht
      go_wp2_with fail
      go_ret
      exact ⟨by rw [HT.out]; rfl, rfl⟩
    · obtain ⟨m, rfl⟩ : ∃ m, k = m + 1 := ⟨k - 1, by omega⟩
      obtain ⟨b, off, rfl, hb, hc⟩ := h.2 m (by omega)
      by_cases hx : l.getD m 0 = 0
      · rw [hx] at hc
        have HX := Lib.hid hx
        clear hx h0
        go_wp2_with fail
        go_round
        case rel => exact ⟨m, by omega, by go_num, fun j h1 h2 => by
          by_cases e : j = m
          · rw [e]; exact HX.out
          · exact HZ.out j (by omega) h2⟩
        case measure => simp [intOf]
      · have ht := (blen_of LOW.out (k := m + 1) (by rw [HLEN.out]; exact hk) (fun j h1 h2 => HZ.out j h1 (by rw [← HLEN.out]; exact h2)) (.inr (by simpa using hx))).1
        have HT := Lib.hid ht
        obtain ⟨x, hxx⟩ : ∃ x, x = l.getD m 0 := ⟨_, rfl⟩
        rw [← hxx] at hc hx
        have hb0 : (((x : Nat) : Int) == 0) = false := by simpa using hx
        clear ht h0 hxx hx
        have hc1 : (m : Int) + 1 ≤ (c : Int) := by omega
        go_wp2_with fail
        go_ret
        exact ⟨by rw [HT.out]; rfl, rfl⟩

/-- A value in memory of the call's own. -/
def BitPost (x : Int) (w : World) (e : Ending) (w' : World) : Prop :=
  Keep (fun _ => False) w w' ∧ ∃ (A : Option Addr) (n c : Nat), e = .returned (numArg (decide (x < 0)) A n c) ∧ OwnR 5 .u8 w' w.heap.size A n c (bits2 x.natAbs)
theorem btake {l : List Nat} (low : Low 2 l) : l.take (blen l) = bits2 (bval l) := by
  obtain ⟨k, hk, hz, h⟩ : ∃ k, k ≤ l.length ∧ (∀ j, k ≤ j → j < l.length → l.getD j 0 = 0) ∧ (k = 0 ∨ l.getD (k - 1) 0 ≠ 0) := by
    have : ∀ m, m ≤ l.length → (∀ j, m ≤ j → j < l.length → l.getD j 0 = 0) → ∃ k, k ≤ l.length ∧ (∀ j, k ≤ j → j < l.length → l.getD j 0 = 0) ∧ (k = 0 ∨ l.getD (k - 1) 0 ≠ 0) := by
      intro m
      induction m with
      | zero => intro hm hz; exact ⟨0, hm, hz, .inl rfl⟩
      | succ m ih =>
        intro hm hz
        by_cases e : l.getD m 0 = 0
        · refine ih (by omega) fun j hj hl => ?_
          by_cases e2 : j = m
          · rw [e2]; exact e
          · exact hz j (by omega) hl
        · exact ⟨m + 1, hm, hz, .inr (by simpa using e)⟩
    exact this l.length (Nat.le_refl _) (fun j hj hl => by omega)
  obtain ⟨h1, h2⟩ := blen_of low hk hz h
  rw [h1, h2]
/-- A sign and a magnitude. -/
def sgn (neg : Bool) (m : Nat) : Int := if neg then -(m : Int) else (m : Int)
theorem sgn_abs (neg : Bool) (m : Nat) : (sgn neg m).natAbs = m := by unfold sgn; cases neg <;> simp
theorem sgn_neg (neg : Bool) (m : Nat) : (neg && decide (0 < m)) = decide (sgn neg m < 0) := by
  unfold sgn
  cases neg
  · simp
  · rw [Bool.true_and, if_pos rfl]; exact decide_eq_decide.2 (by omega)
theorem blen_pos (l : List Nat) : 0 < blen l ↔ 0 < bval l := by
  unfold blen
  constructor
  · intro h
    rcases Nat.eq_zero_or_pos (bval l) with e | e
    · rw [e] at h
      unfold bits2 at h
      rw [digs_zero] at h
      simp at h
    · exact e
  · intro h
    rcases Nat.eq_zero_or_pos (bits2 (bval l)).length with e | e
    · have := digs_nil two2 (List.eq_nil_of_length_eq_zero e)
      omega
    · exact e
set_option maxRecDepth 100000 in
set_option maxHeartbeats 2000000 in
theorem value_any (base : Nat) (neg : Bool) (A : Option Addr) (n c : Nat) (l : List Nat) (w : World) (hA : OwnR 5 .u8 w base A n c l) (low : Low 2 l) (hm : n ≤ 10000000) :
    Calls Tryd.prog 62 #[.bool neg, .slice A n c] w fun e w' => Keep (fun _ => False) w w' ∧ e = .returned (numArg (decide (sgn neg (bval l) < 0)) A (blen l) c) ∧ OwnR 5 .u8 w' base A (blen l) c (bits2 (bval l)) := by
  have K : Keep (fun _ => False) w (w.alloc (.cells #[.bool false, .slice none 0 0] 34)) := (Keep.refl _ _).alloc _
  have hb : (w.alloc (.cells #[.bool false, .slice none 0 0] 34)).heap[w.heap.size]? = some (.cells #[.bool false, .slice none 0 0] 34 (0, 0)) := heap_alloc_new w _
  have own1 := hA.keep0 K
  have HB := Lib.hid (own1.toBits low hm)
  have hpos := blen_pos l
  have hsg := sgn_neg neg (bval l)
  have hle := blen_le low
  rw [hA.len] at hle
  have hO := hA.take hle
  rw [btake low] at hO
  have HO := Lib.hid hO
  have HSG := Lib.hid hsg
  have hcap := Nat.le_trans hle hA.cap
  clear hA own1 low hb hsg hO
  have hc2 : (blen l : Int) ≤ (c : Int) := by omega
  have HPOS := Lib.hid hpos
  clear hpos
  cases neg with
  | false =>
    go_enter Tryd.func62, Tryd.ntmps62
    go_wp2_with fail
    refine (cut_any A n c l _ HB.out).mono ?_
    rintro e w1 ⟨rfl, rfl⟩
    go_wp2_with fail
    refine bodyPost_ret (v := numArg false A (blen l) c) (by simp [results, Tryd.results62, go_sem]) rfl ⟨(Keep.refl _ _).alloc _, by rw [← HSG.out]; rfl, HO.out.keep0 ((Keep.refl _ _).alloc _)⟩
  | true =>
    by_cases h0 : 0 < blen l
    · have h0i : (0 : Int) < (blen l : Int) := by omega
      have hd := Lib.hid (show decide (sgn true (bval l) < 0) = true from by rw [← HSG.out, Bool.true_and]; exact decide_eq_true (HPOS.out.1 h0))
      go_enter Tryd.func62, Tryd.ntmps62
      go_wp2_with fail
      refine (cut_any A n c l _ HB.out).mono ?_
      rintro e w1 ⟨rfl, rfl⟩
      go_wp2_with fail
      refine bodyPost_ret (v := numArg true A (blen l) c) (by simp [results, Tryd.results62, go_sem]) rfl ⟨(Keep.refl _ _).alloc _, by rw [hd.out], HO.out.keep0 ((Keep.refl _ _).alloc _)⟩
    · have h0i : decide ((0 : Int) < (blen l : Int)) = false := decide_eq_false (by omega)
      have hd := Lib.hid (show decide (sgn true (bval l) < 0) = false from by rw [← HSG.out, Bool.true_and]; exact decide_eq_false (fun h => h0 (HPOS.out.2 h)))
      go_enter Tryd.func62, Tryd.ntmps62
      go_wp2_with fail
      refine (cut_any A n c l _ HB.out).mono ?_
      rintro e w1 ⟨rfl, rfl⟩
      go_wp2_with fail
      refine bodyPost_ret (v := numArg false A (blen l) c) (by simp [results, Tryd.results62, go_sem]) rfl ⟨(Keep.refl _ _).alloc _, by rw [hd.out], HO.out.keep0 ((Keep.refl _ _).alloc _)⟩
end Go.Proofs.YtdfekphahdmffaaDoor
