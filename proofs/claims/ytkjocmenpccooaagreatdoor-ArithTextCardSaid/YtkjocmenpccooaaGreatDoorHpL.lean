/-
  Things on the heap, plain: words that stand in a segment, and what Alloc and Write do to them.
-/
import Derived.Test.YtkjocmenpccooaaGreatDoorA3
namespace Go.Proofs.YtkjocmenpccooaaGreatDoor
open Go.RowKit

/-- The words ws stand at the address a, in a segment of that kind. -/
structure At (M : MemV) (k : Int) (a : Nat) (ws : List Nat) : Prop where
  lim : a / 64 < M.lim
  tk : 0 < (M.sg (a / 64)).taken
  kd : (M.sg (a / 64)).kind = k
  room : ((a % 64 + ws.length : Nat) : Int) ≤ (M.sg (a / 64)).n
  wd : ∀ i (h : i < ws.length), (M.sg (a / 64)).words (a % 64 + i) = ((ws[i] : Nat) : Int)
/-- What stood, stands. -/
def Ext (M M' : MemV) : Prop := M'.lim = M.lim ∧ ∀ k a ws, At M k a ws → At M' k a ws
theorem Ext.refl (M : MemV) : Ext M M := ⟨rfl, fun _ _ _ h => h⟩
/-- An area of n words, of which the first ones are written. -/
structure Area (M0 M : MemV) (k : Int) (a n : Nat) (ws : List Nat) : Prop where
  lim : M.lim = M0.lim
  q : a / 64 < M.lim
  tk : 0 < (M.sg (a / 64)).taken
  kd : (M.sg (a / 64)).kind = k
  room : ((a % 64 + n : Nat) : Int) ≤ (M.sg (a / 64)).n
  le : ws.length ≤ n
  wd : ∀ i (h : i < ws.length), (M.sg (a / 64)).words (a % 64 + i) = ((ws[i] : Nat) : Int)
  old : ∀ k b vs, At M0 k b vs → At M k b vs ∧ (b / 64 = a / 64 → b % 64 + vs.length ≤ a % 64)
theorem Area.done {M0 M : MemV} {k : Int} {a n : Nat} {ws : List Nat} (h : Area M0 M k a n ws) (hn : ws.length = n) : At M k a ws ∧ Ext M0 M :=
  ⟨⟨h.q, h.tk, h.kd, by rw [hn]; exact h.room, h.wd⟩, h.lim, fun k b vs x => (h.old k b vs x).1⟩
theorem put_same (M : MemV) (k : Nat) (s : Sg) : (M.put k s).sg k = s := by simp [MemV.put]
theorem put_else (M : MemV) (k : Nat) (s : Sg) {i : Nat} (h : i ≠ k) : (M.put k s).sg i = M.sg i := by simp [MemV.put, h]
/-- The next word is written. -/
theorem Area.write {M0 M : MemV} {k : Int} {a n : Nat} {ws : List Nat} (h : Area M0 M k a n ws) (hn : ws.length < n) (u : Nat) : Area M0 (M.put (a / 64) ((M.sg (a / 64)).write (a % 64 + ws.length) (u : Int))) k a n (ws ++ [u]) := by
  have e := put_same M (a / 64) ((M.sg (a / 64)).write (a % 64 + ws.length) (u : Int))
  refine ⟨h.lim, h.q, ?_, ?_, ?_, ?_, ?_, fun k b vs x => ?_⟩
  · rw [e]; exact h.tk
  · rw [e]; exact h.kd
  · rw [e]; exact h.room
  · rw [List.length_append]; exact hn
  · intro i hi
    rw [e]
    simp only [Sg.write]
    by_cases hw : i = ws.length
    · subst hw
      rw [if_pos rfl, List.getElem_append_right (Nat.le_refl _)]
      simp
    · have hi2 : i < ws.length := by rw [List.length_append] at hi; simp at hi; omega
      rw [if_neg (by omega), List.getElem_append_left hi2]
      exact h.wd i hi2
  · obtain ⟨x1, x2⟩ := h.old k b vs x
    refine ⟨?_, x2⟩
    by_cases hb : b / 64 = a / 64
    · have hl := x2 hb
      refine ⟨x1.lim, ?_, ?_, ?_, fun i hi => ?_⟩
      · rw [hb, e]; have := x1.tk; rwa [hb] at this
      · rw [hb, e]; have := x1.kd; rwa [hb] at this
      · rw [hb, e]; have := x1.room; rwa [hb] at this
      · rw [hb, e]
        simp only [Sg.write]
        rw [if_neg (by omega)]
        have := x1.wd i hi
        rwa [hb] at this
    · have e2 := put_else M (a / 64) ((M.sg (a / 64)).write (a % 64 + ws.length) (u : Int)) hb
      exact ⟨x1.lim, by rw [e2]; exact x1.tk, by rw [e2]; exact x1.kd, by rw [e2]; exact x1.room, fun i hi => by rw [e2]; exact x1.wd i hi⟩
/-- What Alloc gives where there is room. -/
theorem alloc_area {S S' : SpV} {k a f : Int} {n : Nat} (ok : S.Ok) (h : AllocR S 0 k (n : Int) a f S') (may : May8 0 k n) (hf : 0 < S.M.free) :
    ∃ b : Nat, a = (b : Int) ∧ f = 0 ∧ b / 64 < S.M.lim ∧ Area S.M S'.M k b n [] ∧ S.M.free - 1 ≤ S'.M.free := by
  have lo := may.lo
  have hk0 : (k.toNat : Int) = k := Int.toNat_of_nonneg lo.2.2.1
  rcases h with ⟨hn, _⟩ | ⟨_, q, hc, hfit, ha, hf2, rfl⟩ | ⟨_, _, hz, _⟩ | ⟨_, _, q, _, hq, hz, _, ha, hf2, rfl⟩
  · exact absurd may hn
  · have hcur := ok.cur 0 k.toNat (by decide) (by omega)
    rw [show (0 : Int).toNat = 0 from rfl] at hc
    obtain ⟨q', hc', hq, ht, hg, hkd⟩ : ∃ q' : Nat, S.cur 0 k.toNat = q' + 1 ∧ q' < S.M.lim ∧ 0 < (S.M.sg q').taken ∧ (S.M.sg q').gen = (0 : Nat) ∧ (S.M.sg q').kind = k.toNat := by
      rcases hcur with h0 | h1
      · omega
      · exact h1
    obtain rfl : q' = q := by omega
    have sok := ok.mem.sg q' hq
    have n0 := sok.n0
    obtain ⟨m, hm⟩ := Int.eq_ofNat_of_zero_le n0
    have hm64 : m < 64 := by omega
    have hd : (q' * 64 + m) / 64 = q' := by omega
    have hr : (q' * 64 + m) % 64 = m := by omega
    refine ⟨q' * 64 + m, by rw [ha, hm]; push_cast; rfl, hf2, by rw [hd]; exact hq, ⟨rfl, by rw [hd]; exact hq, ?_, ?_, ?_, Nat.zero_le _, fun i hi => absurd hi (Nat.not_lt_zero _), fun k2 b vs x => ?_⟩, by show S.M.free - 1 ≤ S.M.free; omega⟩
    · rw [hd]; show 0 < ((S.M.put q' _).sg q').taken; rw [put_same]; exact ht
    · rw [hd]; show ((S.M.put q' _).sg q').kind = k; rw [put_same]; show (S.M.sg q').kind = k; rw [hkd]; exact hk0
    · rw [hd, hr]; show ((m + n : Nat) : Int) ≤ ((S.M.put q' _).sg q').n; rw [put_same]; show _ ≤ (S.M.sg q').n + n; rw [hm]; push_cast; omega
    · rw [hd, hr]
      by_cases hb : b / 64 = q'
      · have hr2 := x.room
        rw [hb, hm] at hr2
        refine ⟨⟨x.lim, ?_, ?_, ?_, fun i hi => ?_⟩, fun _ => by omega⟩
        · rw [hb]; show 0 < ((S.M.put q' _).sg q').taken; rw [put_same]; exact ht
        · rw [hb]; show ((S.M.put q' _).sg q').kind = k2; rw [put_same]; have := x.kd; rwa [hb] at this
        · rw [hb]; show _ ≤ ((S.M.put q' _).sg q').n; rw [put_same]; show _ ≤ (S.M.sg q').n + n; rw [hm]; omega
        · rw [hb]; show ((S.M.put q' _).sg q').words _ = _; rw [put_same]; have := x.wd i hi; rwa [hb] at this
      · have e2 : (S.M.bumped q' n).sg (b / 64) = S.M.sg (b / 64) := put_else _ _ _ hb
        exact ⟨⟨x.lim, by show 0 < ((S.M.bumped q' n).sg (b / 64)).taken; rw [e2]; exact x.tk, by show ((S.M.bumped q' n).sg (b / 64)).kind = k2; rw [e2]; exact x.kd, by show _ ≤ ((S.M.bumped q' n).sg (b / 64)).n; rw [e2]; exact x.room, fun i hi => by show ((S.M.bumped q' n).sg (b / 64)).words _ = _; rw [e2]; exact x.wd i hi⟩, fun e => absurd e hb⟩
  · omega
  · have hd : q * 64 / 64 = q := by omega
    have hr : q * 64 % 64 = 0 := by omega
    have c0 := ok.mem.c0
    have e1 : (((S.M.took q 0 k).bumped q n).sg q) = { Sg.fresh 0 k (S.M.count + 1) with n := 0 + n } := by
      show ((S.M.took q 0 k).put q _).sg q = _
      rw [put_same, took_sg]
      rfl
    have e2 : ∀ i, i ≠ q → ((S.M.took q 0 k).bumped q n).sg i = S.M.sg i := fun i hi => (put_else _ _ _ hi).trans (put_else _ _ _ hi)
    refine ⟨q * 64, by rw [ha]; push_cast; rfl, hf2, by rw [hd]; exact hq, ⟨rfl, by rw [hd]; exact hq, ?_, ?_, ?_, Nat.zero_le _, fun i hi => absurd hi (Nat.not_lt_zero _), fun k2 b vs x => ?_⟩, by show S.M.free - 1 ≤ S.M.free - 1; omega⟩
    · rw [hd]; show 0 < (((S.M.took q 0 k).bumped q n).sg q).taken; rw [e1]; show 0 < S.M.count + 1; omega
    · rw [hd]; show (((S.M.took q 0 k).bumped q n).sg q).kind = k; rw [e1]; rfl
    · rw [hd, hr]; show _ ≤ (((S.M.took q 0 k).bumped q n).sg q).n; rw [e1]; show ((0 + n : Nat) : Int) ≤ 0 + (n : Int); push_cast; omega
    · rw [hd]
      have hb : b / 64 ≠ q := fun e => by have := x.tk; rw [e, hz] at this; omega
      have e3 := e2 _ hb
      exact ⟨⟨x.lim, by show 0 < (((S.M.took q 0 k).bumped q n).sg (b / 64)).taken; rw [e3]; exact x.tk, by show (((S.M.took q 0 k).bumped q n).sg (b / 64)).kind = k2; rw [e3]; exact x.kd, by show _ ≤ (((S.M.took q 0 k).bumped q n).sg (b / 64)).n; rw [e3]; exact x.room, fun i hi => by show (((S.M.took q 0 k).bumped q n).sg (b / 64)).words _ = _; rw [e3]; exact x.wd i hi⟩, fun e => absurd e hb⟩
end Go.Proofs.YtkjocmenpccooaaGreatDoor
