/-
  The document's space (package moraineref08): what it is that a world holds it; New, Fresh, Give.
-/
import Derived.Test.YtgnpeciedefeiaaSpWords
import Derived.Test.YtgnpeciedefeiaaDoes
namespace Go.Proofs.Ytgnpeciedefeiaa
open Go.RowKit

/-- The document's space lies at block r, its memory at q; cv: what is told of the current segments. -/
structure R8Raw (w : World) (base r q : Nat) (M : MemV) (L : List Nat) (cv : Nat → Nat → Int) : Prop where
  br : base ≤ r
  head : ∃ c, w.heap[r]? = some (.cells c 129 (0, 0))
  ptr : w.cell? ⟨r, 0, none⟩ = some (.pointer (some ⟨q, 0, none⟩))
  cur : ∀ i k, i < 5 → k < 4 → w.cell? ⟨r, 1 + i * 4 + k, none⟩ = some (.int .i64 (cv i k))
  ref : RefAt w base q M L
/-- .. as the space S has it. -/
abbrev R8At (w : World) (base r q : Nat) (S : SpV) (L : List Nat) : Prop := R8Raw w base r q S.M L (fun i k => S.cur i k - 1)
/-- The blocks that a call upon it may write. -/
def RefS8 (r : Nat) (w : World) (base b : Nat) : Prop := b = r ∨ RefS w base b

namespace R8Raw
variable {w w' : World} {base r q : Nat} {M : MemV} {L : List Nat} {cv : Nat → Nat → Int}
theorem lt (h : R8Raw w base r q M L cv) : r < w.heap.size := World.block_lt_of_cell? w _ h.ptr
theorem notRef (h : R8Raw w base r q M L cv) : ¬ RefS w base r := by
  rintro ⟨_, c', t, z, e, ht⟩
  obtain ⟨c, hc⟩ := h.head
  rw [hc] at e
  injection e with e
  injection e with _ e _
  subst e
  revert ht; decide
theorem frozen (h : R8Raw w base r q M L cv) (i : Nat) : w.frozen? ⟨r, i, none⟩ = false := by
  obtain ⟨c, hc⟩ := h.head
  simp [World.frozen?, hc]
theorem keep {T : Nat → Prop} (h : R8Raw w base r q M L cv) (k : Keep T w w') (hr : ¬ T r) (hs : ∀ b, RefS w base b → ¬ T b) : R8Raw w' base r q M L cv :=
  ⟨h.br, by obtain ⟨c, hc⟩ := h.head; exact ⟨c, by rw [k.block r h.lt hr]; exact hc⟩, (k.cell (p := ⟨r, 0, none⟩) h.lt hr).trans h.ptr, fun i j hi hj => (k.cell (p := ⟨r, 1 + i * 4 + j, none⟩) h.lt hr).trans (h.cur i j hi hj), h.ref.keep k hs⟩
theorem keep0 (h : R8Raw w base r q M L cv) (k : Keep (fun _ => False) w w') : R8Raw w' base r q M L cv := h.keep k id (fun _ _ => id)
theorem keepM {M' : MemV} {L' : List Nat} (h : R8Raw w base r q M L cv) (k : Keep (RefS w base) w w') (R : RefAt w' base q M' L') : R8Raw w' base r q M' L' cv :=
  ⟨h.br, by obtain ⟨c, hc⟩ := h.head; exact ⟨c, by rw [k.block r h.lt h.notRef]; exact hc⟩, (k.cell (p := ⟨r, 0, none⟩) h.lt h.notRef).trans h.ptr, fun i j hi hj => (k.cell (p := ⟨r, 1 + i * 4 + j, none⟩) h.lt h.notRef).trans (h.cur i j hi hj), R⟩
theorem setCur (h : R8Raw w base r q M L cv) {i k : Nat} (hi : i < 5) (hk : k < 4) (v : Int) : R8Raw (w.setCell ⟨r, 1 + i * 4 + k, none⟩ (.int .i64 v)) base r q M L (fun a b => if a = i ∧ b = k then v else cv a b) := by
  refine ⟨h.br, ?_, ?_, ?_, ?_⟩
  · obtain ⟨c, hc⟩ := h.head
    exact ⟨c.setIfInBounds (1 + i * 4 + k) (.int .i64 v), by simp [World.setCell, Array.getElem?_modify, hc]⟩
  · rw [World.cell?_setCell_other _ _ _ _ (by intro e; injection e with _ e _; omega)]
    exact h.ptr
  · intro a b ha hb
    by_cases e : a = i ∧ b = k
    · obtain ⟨rfl, rfl⟩ := e
      rw [World.cell?_setCell_same _ _ _ (h.cur a b hi hk)]
      simp
    · rw [World.cell?_setCell_other _ _ _ _ (by intro e'; injection e' with _ e' _; omega), h.cur a b ha hb]
      simp [e]
  · exact h.ref.keep ((Keep.refl (fun b => b = r) w).setCell (.inl rfl) _) (by rintro b hb rfl; exact h.notRef hb)
theorem congr {cv' : Nat → Nat → Int} (h : R8Raw w base r q M L cv) (e : ∀ i k, i < 5 → k < 4 → cv' i k = cv i k) : R8Raw w base r q M L cv' :=
  ⟨h.br, h.head, h.ptr, fun i k hi hk => by rw [e i k hi hk]; exact h.cur i k hi hk, h.ref⟩
theorem setRow (h : R8Raw w base r q M L cv) {i : Nat} (hi : i < 5) (v : Int) :
    R8Raw ((((w.setCell ⟨r, 1 + i * 4 + 0, none⟩ (.int .i64 v)).setCell ⟨r, 1 + i * 4 + 1, none⟩ (.int .i64 v)).setCell ⟨r, 1 + i * 4 + 2, none⟩ (.int .i64 v)).setCell ⟨r, 1 + i * 4 + 3, none⟩ (.int .i64 v)) base r q M L (fun a b => if a = i then v else cv a b) := by
  refine ((((h.setCur hi (k := 0) (by omega) v).setCur hi (k := 1) (by omega) v).setCur hi (k := 2) (by omega) v).setCur hi (k := 3) (by omega) v).congr ?_
  intro a b ha hb
  by_cases e : a = i
  · subst e
    match b, hb with
    | 0, _ | 1, _ | 2, _ | 3, _ => simp
  · simp [e]
end R8Raw

/-- Is the generation asked for, by the first j? -/
def freshTo (gs : List Int) (j a : Nat) : Bool := decide (gs.length = 0) || hasB (gs.take j) (a : Int)
theorem freshTo_all (gs : List Int) (a : Nat) : freshTo gs gs.length a = freshB gs a := by simp [freshTo, freshB]
theorem freshTo_zero (gs : List Int) (a : Nat) : freshTo gs 0 a = decide (gs.length = 0) := by simp [freshTo, hasB]
theorem freshTo_succ (gs : List Int) (j a : Nat) (hj : j < gs.length) : freshTo gs (j + 1) a = (freshTo gs j a || (gs.getD j 0 == (a : Int))) := by
  unfold freshTo
  rw [hasB_snoc gs _ j hj, Bool.or_assoc]

def RFreshPost (base r q : Nat) (M : MemV) (L : List Nat) (cv : Nat → Nat → Int) (gs : List Int) (w : World) (e : Ending) (w' : World) : Prop :=
  e = .returned (.tuple #[]) ∧ R8Raw w' base r q M L (fun a b => if freshB gs a = true then -1 else cv a b) ∧ Keep (fun b => b = r) w w'

set_option maxRecDepth 100000 in
set_option maxHeartbeats 4000000 in
theorem rfresh_any {w : World} {base r q : Nat} {M : MemV} {L : List Nat} {cv : Nat → Nat → Int} (h : R8Raw w base r q M L cv) (A : Option Addr) (n c : Nat) (gs : List Int) (hg : IntsAt w A n gs) (hn : n ≤ 1000000) (hA : 0 < n → ∀ b off, A = some ⟨b, off, none⟩ → b ≠ r) :
    Calls Try.prog 70 #[.pointer (some ⟨r, 0, none⟩), .slice A n c] w (RFreshPost base r q M L cv gs w) := by
  have Hlen := Lib.hid hg.1
  go_enter Try.func70, Try.ntmps70
  go_wp2_with fail
  go_loopw [4, 5, 6] (fun i _ _ wr => ∃ k : Nat, k ≤ 5 ∧ i = .int .i64 k ∧ R8Raw wr base r q M L (fun a b => if a < k ∧ freshB gs a = true then -1 else cv a b) ∧ Keep (fun b => b = r) w wr) (fun i _ _ _ => 5 - (intOf i).toNat)
  case atStart => exact ⟨0, by omega, rfl, h.congr (by simp), Keep.refl _ _⟩
  case round =>
    clear h
    obtain ⟨k, hk, rfl, h1, K1⟩ := hrel
    by_cases hlt : k < 5
    · have hz : ((n : Int) == 0) = freshTo gs 0 k := by
        rw [freshTo_zero, Hlen.out, Bool.eq_iff_iff]
        simp
      go_wp2_with fail
      clear hz
      go_loop [5, 6] (fun v i => ∃ j : Nat, j ≤ n ∧ i = .int .i64 j ∧ v = .bool (freshTo gs j k)) (fun _ i => n - (intOf i).toNat)
      case atStart => exact ⟨0, Nat.zero_le _, rfl, rfl⟩
      case round =>
        obtain ⟨j, hj, rfl, rfl⟩ := hrel
        by_cases hjn : j < n
        · obtain ⟨b, off, rfl, hb, hcell⟩ := hg.2 j hjn
          have hbr : ¬ b = r := hA (by omega) b off rfl
          have c2 := (K1.cell (p := ⟨b, off + j, none⟩) hb hbr).trans hcell
          have hsucc := Lib.hid (freshTo_succ gs j k (by rw [Hlen.out]; exact hjn))
          obtain ⟨x, hx⟩ : ∃ x, x = gs.getD j 0 := ⟨_, rfl⟩
          rw [← hx] at c2 hsucc
          have hf : freshTo gs j k = true ∨ freshTo gs j k = false := by cases freshTo gs j k <;> simp
          clear hx hcell
          rcases hf with hf | hf
          · have Hf := Lib.hid hf
            rw [hf]
            clear hf
            go_wp2_with fail
            go_round
            case rel => exact ⟨j + 1, by omega, by go_num, by rw [hsucc.out, Hf.out]; rfl⟩
            case measure => simp [intOf]; omega
          · have Hf := Lib.hid hf
            rw [hf]
            clear hf
            go_wp2_with fail
            go_round
            case rel => exact ⟨j + 1, by omega, by go_num, by rw [hsucc.out, Hf.out]; rfl⟩
            case measure => simp [intOf]; omega
        · obtain rfl : j = n := by omega
          have hall : freshTo gs j k = freshB gs k := by rw [← Hlen.out]; exact freshTo_all gs k
          rw [hall]
          clear hall
          have hf : freshB gs k = true ∨ freshB gs k = false := by cases freshB gs k <;> simp
          rcases hf with hf | hf
          · have Hf := Lib.hid hf
            rw [hf]
            clear hf
            have r0 := h1.cur k 0 hlt (by omega)
            have r1 := h1.cur k 1 hlt (by omega)
            have r2 := h1.cur k 2 hlt (by omega)
            have r3 := h1.cur k 3 hlt (by omega)
            have f0 := h1.frozen (1 + k * 4 + 0)
            have f1 := h1.frozen (1 + k * 4 + 1)
            have f2 := h1.frozen (1 + k * 4 + 2)
            have f3 := h1.frozen (1 + k * 4 + 3)
            simp only [Nat.add_zero, Nat.lt_irrefl, false_and, if_false] at r0 r1 r2 r3 f0
            have h3 := Lib.hid (h1.setRow hlt (-1))
            go_wp2_with fail
            go_roundw
            case rel => exact ⟨k + 1, by omega, by go_num, h3.out.congr (fun a b ha hb => by
              by_cases e : a = k
              · subst e; simp [Hf.out]
              · have : (a < k + 1) = (a < k) := by simp; omega
                simp [e, this]), (((K1.setCell (.inl rfl) _).setCell (.inl rfl) _).setCell (.inl rfl) _).setCell (.inl rfl) _⟩
            case measure => simp [intOf]; omega
          · have Hf := Lib.hid hf
            rw [hf]
            clear hf
            go_wp2_with fail
            go_roundw
            case rel => exact ⟨k + 1, by omega, by go_num, h1.congr (fun a b ha hb => by
              by_cases e : a = k
              · subst e; simp [Hf.out]
              · have : (a < k + 1) = (a < k) := by simp; omega
                simp [this]), K1⟩
            case measure => simp [intOf]; omega
    · obtain rfl : k = 5 := by omega
      go_wp2_with fail
      exact bodyPost_ret (v := .tuple #[]) (by simp [results, go_sem]) rfl ⟨rfl, h1.congr (fun a b ha hb => by simp [ha]), K1⟩
end Go.Proofs.Ytgnpeciedefeiaa
