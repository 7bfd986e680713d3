/-
  Small laws for a sort of numbers of segments by the order in which they were taken: plain Lean, no program in sight.
-/
import Derived.Test.YtgnpeciedefeiaaCmp
import Derived.Shelf.SlSortCmp.Whole1
import Derived.Shelf.SlSortCmp.NoneTotal
namespace Go.Proofs.Ytgnpeciedefeiaa
open Go.RowKit

/-- A slice of ints that lies there. -/
def IntsAt (w : World) (A : Option Addr) (n : Nat) (L : List Int) : Prop :=
  L.length = n ∧ ∀ j, j < n → ∃ b off, A = some ⟨b, off, none⟩ ∧ b < w.heap.size ∧ w.cell? ⟨b, off + j, none⟩ = some (.int .i64 (L.getD j 0))
theorem IntsAt.keep {S : Nat → Prop} {w w' : World} {A : Option Addr} {n : Nat} {L : List Int} (h : IntsAt w A n L) (k : Keep S w w') (hs : ∀ b off, A = some ⟨b, off, none⟩ → ¬ S b) : IntsAt w' A n L :=
  ⟨h.1, fun j hj => by
    obtain ⟨b, off, e, hb, hc⟩ := h.2 j hj
    exact ⟨b, off, e, Nat.lt_of_lt_of_le hb k.size, (k.cell (p := ⟨b, off + j, none⟩) hb (hs b off e)).trans hc⟩⟩
theorem IntsAt.keep0 {w w' : World} {A : Option Addr} {n : Nat} {L : List Int} (h : IntsAt w A n L) (k : Keep (fun _ => False) w w') : IntsAt w' A n L := h.keep k (fun _ _ _ => id)
theorem IntsAt.nil (w : World) (A : Option Addr) : IntsAt w A 0 [] := ⟨rfl, fun j hj => absurd hj (Nat.not_lt_zero j)⟩

theorem Keep.grown {S : Nat → Prop} {w a b : World} {row : Option Nat} (h : Keep S w a) (hg : a.grownBy b row) (hr : ∀ k, row = some k → S k ∨ w.heap.size ≤ k) : Keep S w b :=
  ⟨hg.os.trans h.os, hg.tape.trans h.tape, hg.output.trans h.output, Nat.le_trans h.size hg.size, fun i hi hs => (hg.block i (Nat.lt_of_lt_of_le hi h.size) (fun e => by
    rcases hr i e.symm with h' | h'
    · exact hs h'
    · omega)).trans (h.block i hi hs)⟩

/-- Is it among them? -/
def hasB (gs : List Int) (x : Int) : Bool := gs.contains x
theorem hasB_iff {gs : List Int} {x : Int} : hasB gs x = true ↔ x ∈ gs := by unfold hasB; exact List.contains_iff_mem
/-- What Index answers. -/
def IdxPost (gs : List Int) (x : Int) (w : World) (e : Ending) (w' : World) : Prop := (∃ i : Int, e = .returned (.int .i64 i) ∧ (0 ≤ i ↔ hasB gs x = true)) ∧ w = w'
/-- Is it told? -/
def selB (M : MemV) (gs : List Int) (i : Nat) : Bool := decide (0 < (M.sg i).taken) && (decide (gs.length = 0) || hasB gs (M.sg i).gen)
/-- Those below k that are told, rising. -/
def sel (M : MemV) (gs : List Int) (k : Nat) : List Nat := (List.range k).filter (selB M gs)
theorem sel_succ (M : MemV) (gs : List Int) (k : Nat) : sel M gs (k + 1) = sel M gs k ++ if selB M gs k = true then [k] else [] := by
  unfold sel
  rw [List.range_succ, List.filter_append]
  by_cases h : selB M gs k = true
  · rw [if_pos h]; simp [h]
  · rw [if_neg h]; simp [h]
theorem sel_lt {M : MemV} {gs : List Int} {k i : Nat} (h : i ∈ sel M gs k) : i < k := by
  unfold sel at h
  exact List.mem_range.1 (List.mem_filter.1 h).1
theorem sel_len (M : MemV) (gs : List Int) (k : Nat) : (sel M gs k).length ≤ k := by
  unfold sel
  exact Nat.le_trans (List.length_filter_le _ _) (by simp)

/-- The answer of Taken. -/
structure TakenL (M : MemV) (gs : List Int) (L : List Nat) : Prop where
  perm : L.Perm (sel M gs M.lim)
  rise : L.Pairwise (fun i j => (M.sg i).taken < (M.sg j).taken)

section
open Go.Sort Go.Lib
/-- The cells of a row of numbers of segments. -/
abbrev encF {n : Nat} (x : {i : Nat // i < n}) : Value := .int .i64 (x.1 : Int)
theorem cmpI_neg (x y : Int) : cmpI x y < 0 ↔ x < y := by
  unfold cmpI
  by_cases h : x < y
  · simp [h]
  · by_cases h' : y < x <;> simp [h, h']
/-- By the order in which they were taken. -/
def cfT (M : MemV) (n : Nat) (x y : {i : Nat // i < n}) : Int := cmpI (M.sg x.1).taken (M.sg y.1).taken
theorem ltT (M : MemV) (n : Nat) (x y : {i : Nat // i < n}) : ltOf (cfT M n) x y = decide ((M.sg x.1).taken < (M.sg y.1).taken) := by
  unfold ltOf cfT
  exact decide_eq_decide.2 (cmpI_neg _ _)
theorem swoT (M : MemV) (n : Nat) : SWO (ltOf (cfT M n)) where
  irrefl x := by rw [ltT]; simp
  trans x y z h1 h2 := by rw [ltT] at *; simp at *; omega
  ntrans x y z h1 h2 := by rw [ltT] at *; simp at *; omega

theorem keep_sort {α : Type} [Inhabited α] (enc : α → Value) (w : World) (blk off m : Nat) (dk : Array α) (os : Array Obj) : Keep (fun b => b = blk) w (sortWorld enc w blk off m dk os) := by
  refine ⟨rfl, rfl, rfl, ?_, ?_⟩
  · show w.heap.size ≤ ((w.heap.modify blk _) ++ os).size
    simp
  · intro k hk hne
    show ((w.heap.modify blk _) ++ os)[k]? = w.heap[k]?
    rw [Array.getElem?_append_left (by simpa using hk), Array.getElem?_modify, if_neg (fun e => hne e.symm)]

/-- The row as numbers that are known to be below n. -/
def rowF (n : Nat) (l : List Nat) (h : ∀ i ∈ l, i < n) : Array {i : Nat // i < n} := (l.pmap (fun i hi => ⟨i, hi⟩) h).toArray
theorem rowF_size (n : Nat) (l : List Nat) (h : ∀ i ∈ l, i < n) : (rowF n l h).size = l.length := by simp [rowF]
theorem rowF_list (n : Nat) (l : List Nat) (h : ∀ i ∈ l, i < n) : (rowF n l h).toList.map (·.1) = l := by
  simp [rowF, List.map_pmap]
theorem rowF_get (n : Nat) [Inhabited {i : Nat // i < n}] (l : List Nat) (h : ∀ i ∈ l, i < n) (j : Nat) (hj : j < l.length) : ((rowF n l h)[j]!).1 = l.getD j 0 := by
  rw [getElem!_pos _ j (by rw [rowF_size]; exact hj)]
  simp [rowF, List.getD, List.getElem?_eq_getElem hj]

/-- What the sort leaves is the answer. -/
theorem takenL_of (M : MemV) (ok : M.Ok) (gs : List Int) [Inhabited {i : Nat // i < M.lim}] (d d' : Array {i : Nat // i < M.lim}) (hd : d.toList.map (·.1) = sel M gs M.lim) (hp : PermIn 0 d.size d d') (hs : SortedIn (ltOf (cfT M M.lim)) 0 d.size d') :
    TakenL M gs (d'.toList.map (·.1)) := by
  obtain ⟨hsz, _, hperm⟩ := hp
  have e1 : (d'.extract 0 d.size).toList = d'.toList := by rw [← hsz]; simp
  have e2 : (d.extract 0 d.size).toList = d.toList := by simp
  rw [e1, e2] at hperm
  have hP : (d'.toList.map (·.1)).Perm (sel M gs M.lim) := by rw [← hd]; exact hperm.map _
  refine ⟨hP, ?_⟩
  have hnd : (d'.toList.map (·.1)).Nodup := hP.nodup_iff.2 (by unfold sel; exact List.Pairwise.filter _ List.nodup_range)
  rw [List.pairwise_iff_getElem]
  intro i j hi hj hij
  have hi' : i < d'.size := by simpa using hi
  have hj' : j < d'.size := by simpa using hj
  have h := hs i j (Nat.zero_le _) hij (by omega)
  rw [ltT, getElem!_pos _ j hj', getElem!_pos _ i hi'] at h
  have h' : ¬ (M.sg d'[j].1).taken < (M.sg d'[i].1).taken := by simpa using h
  have hne : d'[i].1 ≠ d'[j].1 := by
    intro e
    exact (List.pairwise_iff_getElem.1 hnd i j hi hj hij) (by simpa using e)
  have mi : d'[i].1 ∈ sel M gs M.lim := hP.mem_iff.1 (List.mem_map.2 ⟨d'[i], by simp, rfl⟩)
  have hpi : 0 < (M.sg d'[i].1).taken := by
    unfold sel at mi
    have := (List.mem_filter.1 mi).2
    unfold selB at this
    simp at this
    exact this.1
  have hlt : (M.sg d'[i].1).taken < (M.sg d'[j].1).taken := by
    rcases Int.lt_or_eq_of_le (Int.not_lt.1 h') with h2 | h2
    · exact h2
    · exact absurd (ok.un _ _ d'[i].2 d'[j].2 hpi h2) hne
  simpa using hlt
end
end Go.Proofs.Ytgnpeciedefeiaa
