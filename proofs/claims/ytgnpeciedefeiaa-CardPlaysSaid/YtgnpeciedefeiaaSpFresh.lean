/-
  A space: what Fresh does.
-/
import Derived.Test.YtgnpeciedefeiaaSpGive
import Derived.Test.YtgnpeciedefeiaaSortAid
namespace Go.Proofs.Ytgnpeciedefeiaa
open Go.RowKit

/-- Is the generation asked for? -/
def freshB (gs : List Int) (a : Nat) : Bool := decide (gs.length = 0) || hasB gs (a : Int)
/-- The space behind Fresh, as far as the generations below i, and of i the first j asked for. -/
structure FreshTo (S : SpV) (gs : List Int) (i j : Nat) (S' : SpV) : Prop where
  mem : S'.M = S.M
  cur : ∀ a b, a < 5 → b < 4 → S'.cur a b = if (a < i ∧ freshB gs a = true) ∨ (a = i ∧ hasB (gs.take j) (a : Int) = true) then 0 else S.cur a b
def Fresh8Post (s p g : Nat) (S : SpV) (gs : List Int) (w : World) (e : Ending) (w' : World) : Prop :=
  ∃ S' : SpV, e = .returned (.tuple #[]) ∧ SpAt w' s p g S' ∧ Keep (fun b => b = s) w w' ∧ S'.M = S.M ∧ ∀ a b, a < 5 → b < 4 → S'.cur a b = if freshB gs a = true then 0 else S.cur a b

/-- A whole row is 0. -/
def SpV.row0 (S : SpV) (i : Nat) : SpV := (((S.set i 0 0).set i 1 0).set i 2 0).set i 3 0
theorem row0_cur (S : SpV) (i a b : Nat) (hb : b < 4) : (S.row0 i).cur a b = if a = i then 0 else S.cur a b := by
  by_cases e : a = i
  · subst e
    match b, hb with
    | 0, _ | 1, _ | 2, _ | 3, _ => simp [SpV.row0, SpV.set]
  · simp [SpV.row0, SpV.set, e]
theorem SpAt.setRow {w : World} {s p g : Nat} {S : SpV} (h : SpAt w s p g S) {i : Nat} (hi : i < 5) :
    SpAt ((((w.setCell ⟨s, 1 + i * 4 + 0, none⟩ (.int .i64 0)).setCell ⟨s, 1 + i * 4 + 1, none⟩ (.int .i64 0)).setCell ⟨s, 1 + i * 4 + 2, none⟩ (.int .i64 0)).setCell ⟨s, 1 + i * 4 + 3, none⟩ (.int .i64 0)) s p g (S.row0 i) :=
  (((h.setCur hi (by omega) 0).setCur hi (by omega) 0).setCur hi (by omega) 0).setCur hi (by omega) 0

theorem IntsAt.keepP {S : Nat → Prop} {w w' : World} {A : Option Addr} {n : Nat} {L : List Int} (h : IntsAt w A n L) (k : Keep S w w') (hs : 0 < n → ∀ b off, A = some ⟨b, off, none⟩ → ¬ S b) : IntsAt w' A n L :=
  ⟨h.1, fun j hj => by
    obtain ⟨b, off, e, hb, hc⟩ := h.2 j hj
    exact ⟨b, off, e, Nat.lt_of_lt_of_le hb k.size, (k.cell (p := ⟨b, off + j, none⟩) hb (hs (by omega) b off e)).trans hc⟩⟩

theorem hasB_snoc (gs : List Int) (x : Int) (j : Nat) (hj : j < gs.length) : hasB (gs.take (j + 1)) x = (hasB (gs.take j) x || (gs.getD j 0 == x)) := by
  rw [Bool.eq_iff_iff, Bool.or_eq_true, hasB_iff, hasB_iff, beq_iff_eq, List.take_succ_eq_append_getElem hj, List.mem_append, List.mem_singleton, List.getD_eq_getElem?_getD, List.getElem?_eq_getElem hj]
  exact ⟨fun h => h.imp id Eq.symm, fun h => h.imp id Eq.symm⟩

theorem FreshTo.start (S : SpV) (gs : List Int) : FreshTo S gs 0 0 S := ⟨rfl, fun a b _ _ => by
  have h : hasB (gs.take 0) (a : Int) = false := by simp [hasB]
  rw [if_neg]
  rintro (h1 | h1)
  · omega
  · rw [h] at h1; cases h1.2⟩
theorem FreshTo.skip {S S' : SpV} {gs : List Int} {i j : Nat} (h : FreshTo S gs i j S') (hj : j < gs.length) (hne : (gs.getD j 0 == (i : Int)) = false) : FreshTo S gs i (j + 1) S' := ⟨h.mem, fun a b ha hb => by
  rw [h.cur a b ha hb]
  by_cases e : a = i
  · subst e
    rw [hasB_snoc gs _ j hj, hne, Bool.or_false]
  · simp [e]⟩
theorem FreshTo.hit {S S' : SpV} {gs : List Int} {i j : Nat} (h : FreshTo S gs i j S') (hj : j < gs.length) (he : (gs.getD j 0 == (i : Int)) = true) : FreshTo S gs i (j + 1) (S'.row0 i) := ⟨h.mem, fun a b ha hb => by
  rw [row0_cur _ _ _ _ hb, h.cur a b ha hb]
  by_cases e : a = i
  · subst e
    rw [hasB_snoc gs _ j hj, he, Bool.or_true]
    simp
  · simp [e]⟩
theorem FreshTo.next {S S' : SpV} {gs : List Int} {i : Nat} (h : FreshTo S gs i gs.length S') (hz : gs.length ≠ 0) : FreshTo S gs (i + 1) 0 S' := ⟨h.mem, fun a b ha hb => by
  rw [h.cur a b ha hb, List.take_length]
  have h0 : hasB (gs.take 0) (a : Int) = false := by simp [hasB]
  rw [h0]
  have hf : freshB gs a = hasB gs (a : Int) := by simp [freshB, hz]
  rw [hf]
  by_cases e : a = i
  · subst e; simp
  · have : (a < i + 1) = (a < i) := by simp; omega
    simp [e, this]⟩
theorem FreshTo.next0 {S S' : SpV} {gs : List Int} {i j : Nat} (h : FreshTo S gs i j S') (hz : gs.length = 0) : FreshTo S gs (i + 1) 0 (S'.row0 i) := ⟨h.mem, fun a b ha hb => by
  obtain rfl : gs = [] := List.eq_nil_of_length_eq_zero hz
  rw [row0_cur _ _ _ _ hb, h.cur a b ha hb]
  have h0 : hasB (([] : List Int).take 0) (a : Int) = false := by simp [hasB]
  have h1 : hasB (([] : List Int).take j) (a : Int) = false := by simp [hasB]
  rw [h0, h1]
  by_cases e : a = i
  · subst e; simp [freshB]
  · have : (a < i + 1) = (a < i) := by simp; omega
    simp [e, this]⟩

set_option maxRecDepth 100000 in
set_option maxHeartbeats 4000000 in
theorem fresh8_any {w : World} {s p g : Nat} {S : SpV} (h : SpAt w s p g S) (A : Option Addr) (n c : Nat) (gs : List Int) (hg : IntsAt w A n gs) (hn : n ≤ 1000000) (hA : 0 < n → ∀ b off, A = some ⟨b, off, none⟩ → b ≠ s) :
    Calls Try.prog 37 #[.pointer (some ⟨s, 0, none⟩), .slice A n c] w (Fresh8Post s p g S gs w) := by
  have hlen := hg.1
  have Hlen := Lib.hid hlen
  clear hlen
  go_enter Try.func37, Try.ntmps37
  go_wp2_with fail
  go_loopw [4, 6, 9, 14] (fun _ _ i _ wr => ∃ (k : Nat) (S' : SpV), k ≤ 5 ∧ i = .int .i64 k ∧ FreshTo S gs k 0 S' ∧ SpAt wr s p g S' ∧ Keep (fun b => b = s) w wr) (fun _ _ i _ _ => 5 - (intOf i).toNat)
  case atStart => exact ⟨0, S, by omega, rfl, FreshTo.start S gs, h, Keep.refl _ _⟩
  case round =>
    obtain ⟨k, S1, hk, rfl, F1, h1, K1⟩ := hrel
    by_cases hlt : k < 5
    · go_wp2_with fail
      go_loopw [6, 14] (fun _ i wx => ∃ (j : Nat) (S2 : SpV), j ≤ n ∧ i = .int .i64 j ∧ FreshTo S gs k j S2 ∧ SpAt wx s p g S2 ∧ Keep (fun b => b = s) w wx) (fun _ i _ => n - (intOf i).toNat)
      case atStart => exact ⟨0, S1, Nat.zero_le _, rfl, F1, h1, K1⟩
      case round =>
        clear F1 h1 K1
        obtain ⟨j, S2, hj, rfl, F2, h2, K2⟩ := hrel
        by_cases hjn : j < n
        · obtain ⟨b, off, rfl, hb, hcell⟩ := hg.2 j hjn
          have hbs : ¬ b = s := hA (by omega) b off rfl
          have c2 := (K2.cell (p := ⟨b, off + j, none⟩) hb hbs).trans hcell
          obtain ⟨x, hx⟩ : ∃ x, x = gs.getD j 0 := ⟨_, rfl⟩
          rw [← hx] at c2
          have hjl : j < gs.length := by rw [Hlen.out]; exact hjn
          by_cases he : x = k
          · have hb1 : (x == (k : Int)) = true := by simpa using he
            have F3 := Lib.hid (F2.hit hjl (by rw [← hx]; exact hb1))
            have r0 := h2.cur k 0 hlt (by omega)
            have r1 := h2.cur k 1 hlt (by omega)
            have r2 := h2.cur k 2 hlt (by omega)
            have r3 := h2.cur k 3 hlt (by omega)
            have f0 := h2.frozen (1 + k * 4 + 0)
            have f1 := h2.frozen (1 + k * 4 + 1)
            have f2 := h2.frozen (1 + k * 4 + 2)
            have f3 := h2.frozen (1 + k * 4 + 3)
            simp only [Nat.add_zero] at r0 f0
            have h3 := Lib.hid (h2.setRow hlt)
            clear hx he F2 hcell hjl hj
            go_wp2_with fail
            go_roundw
            case rel => exact ⟨j + 1, S2.row0 k, by omega, by go_num, F3.out, h3.out, (((K2.setCell (.inl rfl) _).setCell (.inl rfl) _).setCell (.inl rfl) _).setCell (.inl rfl) _⟩
            case measure => simp [intOf]; omega
          · have hb1 : (x == (k : Int)) = false := by simpa using he
            have F3 := Lib.hid (F2.skip hjl (by rw [← hx]; exact hb1))
            clear hx he F2 hcell hjl hj
            go_wp2_with fail
            go_roundw
            case rel => exact ⟨j + 1, S2, by omega, by go_num, F3.out, h2, K2⟩
            case measure => simp [intOf]; omega
        · obtain rfl : j = n := by omega
          by_cases hz : j = 0
          · have hz1 : ((j : Int) == 0) = true := by simpa using hz
            have F3 := Lib.hid (F2.next0 (by rw [Hlen.out]; exact hz))
            have r0 := h2.cur k 0 hlt (by omega)
            have r1 := h2.cur k 1 hlt (by omega)
            have r2 := h2.cur k 2 hlt (by omega)
            have r3 := h2.cur k 3 hlt (by omega)
            have f0 := h2.frozen (1 + k * 4 + 0)
            have f1 := h2.frozen (1 + k * 4 + 1)
            have f2 := h2.frozen (1 + k * 4 + 2)
            have f3 := h2.frozen (1 + k * 4 + 3)
            simp only [Nat.add_zero] at r0 f0
            have h3 := Lib.hid (h2.setRow hlt)
            clear F2 hz
            go_wp2_with fail
            go_roundw
            case rel => exact ⟨k + 1, S2.row0 k, by omega, by go_num, F3.out, h3.out, (((K2.setCell (.inl rfl) _).setCell (.inl rfl) _).setCell (.inl rfl) _).setCell (.inl rfl) _⟩
            case measure => simp [intOf]; omega
          · have hz1 : ((j : Int) == 0) = false := by simpa using hz
            have F3 := Lib.hid (FreshTo.next (by rw [Hlen.out]; exact F2) (by rw [Hlen.out]; exact hz))
            clear F2 hz
            go_wp2_with fail
            go_roundw
            case rel => exact ⟨k + 1, S2, by omega, by go_num, F3.out, h2, K2⟩
            case measure => simp [intOf]; omega
    · obtain rfl : k = 5 := by omega
      have F := Lib.hid F1
      clear F1
      go_wp2_with fail
      exact bodyPost_ret (v := .tuple #[]) (by simp [results, go_sem]) rfl ⟨S1, rfl, h1, K1, F.out.mem, fun a b ha hb => by
        have h0 : hasB (gs.take 0) (a : Int) = false := by simp [hasB]
        rw [F.out.cur a b ha hb, h0]
        simp [ha]⟩
end Go.Proofs.Ytgnpeciedefeiaa
