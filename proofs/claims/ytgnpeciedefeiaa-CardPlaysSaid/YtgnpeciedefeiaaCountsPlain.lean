/-
  What SegCounts and SegWords lean on: plain Lean, no program in sight.
-/
import Derived.Test.YtgnpeciedefeiaaAll
import Derived.Maps.OwnOps
import Derived.Maps.OwnSet
namespace Go.Proofs.Ytgnpeciedefeiaa
open Go.RowKit

theorem TakenL.len {M : MemV} {gs : List Int} {L : List Nat} (h : TakenL M gs L) : L.length = (sel M gs M.lim).length := h.perm.length_eq
theorem TakenL.mem {M : MemV} {gs : List Int} {L : List Nat} (h : TakenL M gs L) {i : Nat} (hi : i ∈ L) : i < M.lim ∧ 0 < (M.sg i).taken := by
  have := h.perm.mem_iff.1 hi
  refine ⟨sel_lt this, ?_⟩
  unfold sel at this
  have := (List.mem_filter.1 this).2
  unfold selB at this
  simp at this
  exact this.1
theorem TakenL.has {M : MemV} {L : List Nat} (h : TakenL M [] L) {i : Nat} (hi : i < M.lim) (ht : 0 < (M.sg i).taken) : i ∈ L := by
  refine h.perm.mem_iff.2 ?_
  unfold sel
  exact List.mem_filter.2 ⟨List.mem_range.2 hi, by simp [selB, ht]⟩
theorem TakenL.apart {M : MemV} {gs : List Int} {L : List Nat} (h : TakenL M gs L) {i j : Nat} (hj : j < L.length) (hij : i < j) : L.getD i 0 ≠ L.getD j 0 := by
  have := List.pairwise_iff_getElem.1 h.rise i j (by omega) hj hij
  rw [List.getD_eq_getElem?_getD, List.getD_eq_getElem?_getD, List.getElem?_eq_getElem (by omega), List.getElem?_eq_getElem hj]
  intro e
  simp only [Option.getD_some] at e
  rw [e] at this
  omega

/-- What was taken last is the last one. -/
theorem TakenL.last {M : MemV} {L : List Nat} {q : Nat} (h : TakenL M [] L) (ok : M.Ok) (hq : q < M.lim) (ht : (M.sg q).taken = M.count) (hp : 0 < (M.sg q).taken) : 0 < L.length ∧ L.getD (L.length - 1) 0 = q := by
  have hm := h.has hq hp
  have hl : 0 < L.length := List.length_pos_of_mem hm
  refine ⟨hl, ?_⟩
  obtain ⟨j, hj, e⟩ := List.mem_iff_getElem.1 hm
  by_cases hlast : j = L.length - 1
  · rw [← hlast, List.getD_eq_getElem?_getD, List.getElem?_eq_getElem hj]
    exact e
  · have hr := List.pairwise_iff_getElem.1 h.rise j (L.length - 1) hj (by omega) (by omega)
    have hm2 := h.mem (List.getElem_mem (l := L) (n := L.length - 1) (by omega))
    have := ok.t1 _ hm2.1
    rw [e, ht] at hr
    omega

theorem sel_nil_succ (M : MemV) (gs : List Int) (k : Nat) : (sel M gs (k + 1)).length = (sel M gs k).length + if selB M gs k = true then 1 else 0 := by
  rw [sel_succ, List.length_append]
  by_cases h : selB M gs k = true
  · rw [if_pos h, if_pos h]; rfl
  · rw [if_neg h, if_neg h]; rfl

/-- As many are taken and free as there are. -/
theorem count_all (M : MemV) (h : ∀ k, k < M.lim → 0 ≤ (M.sg k).taken) : ∀ k, k ≤ M.lim → frees M.sg k + (sel M [] k).length = k
  | 0, _ => rfl
  | k + 1, hk => by
    have ih := count_all M h k (by omega)
    have h0 := h k (by omega)
    rw [sel_nil_succ]
    simp only [frees]
    by_cases e : (M.sg k).taken = 0
    · have : ¬ selB M [] k = true := by simp [selB, e]
      rw [if_pos e, if_neg this]
      omega
    · have : selB M [] k = true := by simp [selB]; omega
      rw [if_neg e, if_pos this]
      omega

/-- How many of the generations below g are told of the first k. -/
def byN (M : MemV) : Nat → Nat → Nat
  | 0, _ => 0
  | g + 1, k => byN M g k + (sel M [(g : Int)] k).length
theorem byN_succ (M : MemV) (k : Nat) : ∀ g : Nat, byN M g (k + 1) = byN M g k + if 0 < (M.sg k).taken ∧ 0 ≤ (M.sg k).gen ∧ (M.sg k).gen < g then 1 else 0
  | 0 => by
    simp only [byN]
    rw [if_neg (by omega)]
  | g + 1 => by
    simp only [byN]
    rw [byN_succ M k g, sel_nil_succ]
    have hs : (selB M [(g : Int)] k = true) ↔ 0 < (M.sg k).taken ∧ (M.sg k).gen = g := by
      simp [selB, hasB]
    by_cases h : selB M [(g : Int)] k = true
    · have h' := hs.1 h
      rw [if_pos h, if_neg (by omega), if_pos (by omega)]
      omega
    · have h' : ¬ (0 < (M.sg k).taken ∧ (M.sg k).gen = g) := fun x => h (hs.2 x)
      rw [if_neg h]
      by_cases a : 0 < (M.sg k).taken ∧ 0 ≤ (M.sg k).gen ∧ (M.sg k).gen < g
      · rw [if_pos a, if_pos (by omega)]; omega
      · rw [if_neg a, if_neg (by omega)]; omega
theorem byN_le (M : MemV) : ∀ q : Nat, q ≤ 5 → ∀ k, k ≤ 1024 → byN M q k ≤ 1024 * q
  | 0, _, _, _ => by simp [byN]
  | q + 1, hq, k, hk => by
    have := byN_le M q (by omega) k hk
    have := sel_len M [(q : Int)] k
    simp only [byN]
    omega
/-- By generations it is the same. -/
theorem byN_all (M : MemV) (ok : M.Ok) : ∀ k, k ≤ M.lim → byN M 5 k = (sel M [] k).length
  | 0, _ => rfl
  | k + 1, hk => by
    have ih := byN_all M ok k (by omega)
    have o := ok.sg k (by omega)
    have g0 := o.g0
    have g4 := o.g4
    rw [byN_succ, sel_nil_succ, ih]
    by_cases h : 0 < (M.sg k).taken
    · rw [if_pos (by omega), if_pos (by simp [selB, h])]
    · rw [if_neg (by omega), if_neg (by simp [selB, h])]

theorem selB_nil {M : MemV} {k : Nat} : selB M [] k = true ↔ 0 < (M.sg k).taken := by simp [selB]

/-- The kept world, as the laws on maps ask it. -/
theorem Keep.grownBy {w w' : World} (k : Keep (fun _ => False) w w') : w.grownBy w' none := ⟨k.os, k.tape, k.output, k.size, fun i hi _ => k.block i hi (by simp)⟩
theorem Keep.of_grown {w w' : World} {row : Option Nat} (h : w.grownBy w' row) : Keep (fun b => some b = row) w w' := ⟨h.os, h.tape, h.output, h.size, fun i hi hn => h.block i hi hn⟩
end Go.Proofs.Ytgnpeciedefeiaa
