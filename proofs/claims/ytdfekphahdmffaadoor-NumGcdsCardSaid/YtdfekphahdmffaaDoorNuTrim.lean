/-
  num: trim, limb, below, Sign.
-/
import Derived.Test.YtdfekphahdmffaaDoorNuBase
namespace Go.Proofs.YtdfekphahdmffaaDoor
open Go.RowKit

/-- How many limbs are left when noughts at the end are cut off. -/
def tlen (l : List Nat) : Nat := (limbs (lval l)).length
theorem tlen_of {l : List Nat} (low : Low BB l) {k : Nat} (hk : k ≤ l.length) (hz : ∀ j, k ≤ j → j < l.length → l.getD j 0 = 0) (h : k = 0 ∨ l.getD (k - 1) 0 ≠ 0) : tlen l = k ∧ l.take k = limbs (lval l) := by
  have := take_digs BB2 low hk hz h
  refine ⟨?_, this⟩
  have e := congrArg List.length this
  rw [List.length_take] at e
  show (digs BB (val BB l)).length = k
  omega
theorem tlen_le {l : List Nat} (low : Low BB l) : tlen l ≤ l.length := by
  unfold tlen limbs
  rw [digs_len_le BB2]
  exact val_lt low
theorem take_tlen {l : List Nat} (low : Low BB l) : l.take (tlen l) = limbs (lval l) := by
  obtain ⟨k, hk, hz, h⟩ : ∃ k, k ≤ l.length ∧ (∀ j, k ≤ j → j < l.length → l.getD j 0 = 0) ∧ (k = 0 ∨ l.getD (k - 1) 0 ≠ 0) := by
    have : ∀ m, m ≤ l.length → (∀ j, m ≤ j → j < l.length → l.getD j 0 = 0) → ∃ k, k ≤ l.length ∧ (∀ j, k ≤ j → j < l.length → l.getD j 0 = 0) ∧ (k = 0 ∨ l.getD (k - 1) 0 ≠ 0) := by
      intro m
      induction m with
      | zero => intro hm hz; exact ⟨0, hm, hz, .inl rfl⟩
      | succ m ih =>
        intro hm hz
        by_cases e : l.getD m 0 = 0
        · refine ih (by omega) fun j hj hl => ?_
          by_cases e2 : j = m
          · rw [e2]; exact e
          · exact hz j (by omega) hl
        · exact ⟨m + 1, hm, hz, .inr (by simpa using e)⟩
    exact this l.length (Nat.le_refl _) (fun j hj hl => by omega)
  obtain ⟨h1, h2⟩ := tlen_of low hk hz h
  rw [h1, h2]

/-- A slice of limbs that lies there. -/
structure LimbsAt (w : World) (A : Option Addr) (n c : Nat) (l : List Nat) : Prop where
  row : RowAt .u32 w A n l
  low : Low BB l
  cap : n ≤ c
  max : n ≤ 100000
namespace LimbsAt
variable {w w' : World} {A : Option Addr} {n c : Nat} {l : List Nat}
theorem len (h : LimbsAt w A n c l) : l.length = n := h.row.1
theorem keep {S : Nat → Prop} (h : LimbsAt w A n c l) (k : Keep S w w') (hs : 0 < n → ∀ b off, A = some ⟨b, off, none⟩ → ¬ S b) : LimbsAt w' A n c l := ⟨h.row.keep k hs, h.low, h.cap, h.max⟩
theorem keep0 (h : LimbsAt w A n c l) (k : Keep (fun _ => False) w w') : LimbsAt w' A n c l := ⟨h.row.keep0 k, h.low, h.cap, h.max⟩
theorem trim (h : LimbsAt w A n c l) : LimbsAt w A (tlen l) c (limbs (lval l)) := by
  have h1 := tlen_le h.low
  rw [h.len] at h1
  refine ⟨?_, digs_low BB2 _, Nat.le_trans h1 h.cap, Nat.le_trans h1 h.max⟩
  rw [← take_tlen h.low]
  exact h.row.take h1
theorem lt (h : LimbsAt w A n c l) (hn : 0 < n) : ∃ b off, A = some ⟨b, off, none⟩ ∧ b < w.heap.size := by
  obtain ⟨b, off, e, hb, _⟩ := h.row.2 0 hn
  exact ⟨b, off, e, hb⟩
end LimbsAt
theorem tlen_limbs (n : Nat) : tlen (limbs n) = (limbs n).length := by
  unfold tlen lval limbs
  rw [val_digs BB2]
theorem OwnR.cap {e : TypeId} {q : IntKind} {w : World} {base n c : Nat} {A : Option Addr} {l : List Nat} (h : OwnR e q w base A n c l) : n ≤ c := by
  rcases h.2 with ⟨hv, h0⟩ | ⟨g, cap, cur, hv, hg, hh, h1, _⟩
  · omega
  · injection hv with _ _ e3
    omega
theorem OwnR.toLimbs {w : World} {base n c : Nat} {A : Option Addr} {l : List Nat} (h : OwnR 63 .u32 w base A n c l) (low : Low BB l) (hm : n ≤ 100000) : LimbsAt w A n c l := ⟨h.row, low, h.cap, hm⟩

set_option maxHeartbeats 800000 in
theorem trim_any (A : Option Addr) (n c : Nat) (l : List Nat) (w : World) (hA : LimbsAt w A n c l) :
    Calls Tryd.prog 54 #[.slice A n c] w fun e w' => e = .returned (.slice A (tlen l) c) ∧ w = w' := by
  obtain ⟨h, low, hcap, hn⟩ := hA
  have hlen := h.1
  have LOW := Lib.hid low
  have HLEN := Lib.hid hlen
  clear low hlen
  go_enter Tryd.func54, Tryd.ntmps54
  go_wp2_with fail
  go_loop [3] (fun i => ∃ k : Nat, k ≤ n ∧ i = .int .i64 k ∧ ∀ j, k ≤ j → j < n → l.getD j 0 = 0) (fun i => (intOf i).toNat)
  case atStart => exact ⟨n, Nat.le_refl _, rfl, fun j h1 h2 => by omega⟩
  case round =>
    obtain ⟨k, hk, rfl, hz⟩ := hrel
    have HZ := Lib.hid hz
    clear hz
    by_cases h0 : k = 0
    · subst h0
      have ht := (tlen_of LOW.out (k := 0) (Nat.zero_le _) (fun j h1 h2 => HZ.out j h1 (by rw [← HLEN.out]; exact h2)) (.inl rfl)).1
      have HT := Lib.hid ht
      clear ht
      go_wp2_with fail
      go_ret
      exact ⟨by rw [HT.out]; rfl, rfl⟩
    · obtain ⟨m, rfl⟩ : ∃ m, k = m + 1 := ⟨k - 1, by omega⟩
      obtain ⟨b, off, rfl, hb, hc⟩ := h.2 m (by omega)
      by_cases hx : l.getD m 0 = 0
      · rw [hx] at hc
        have HX := Lib.hid hx
        clear hx h0
        go_wp2_with fail
        go_round
        case rel => exact ⟨m, by omega, by go_num, fun j h1 h2 => by
          by_cases e : j = m
          · rw [e]; exact HX.out
          · exact HZ.out j (by omega) h2⟩
        case measure => simp [intOf]
      · have ht := (tlen_of LOW.out (k := m + 1) (by rw [HLEN.out]; exact hk) (fun j h1 h2 => HZ.out j h1 (by rw [← HLEN.out]; exact h2)) (.inr (by simpa using hx))).1
        have HT := Lib.hid ht
        obtain ⟨x, hxx⟩ : ∃ x, x = l.getD m 0 := ⟨_, rfl⟩
        rw [← hxx] at hc hx
        have hb0 : (((x : Nat) : Int) == 0) = false := by simpa using hx
        clear ht h0 hxx hx
        have hc1 : (m : Int) + 1 ≤ (c : Int) := by omega
        go_wp2_with fail
        go_ret
        exact ⟨by rw [HT.out]; rfl, rfl⟩
end Go.Proofs.YtdfekphahdmffaaDoor
