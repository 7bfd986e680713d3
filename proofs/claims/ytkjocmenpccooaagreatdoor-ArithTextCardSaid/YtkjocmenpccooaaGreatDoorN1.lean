/-
  Numbers, by program: texts of another seat, turned to this one.
-/
import Derived.Test.YtkjocmenpccooaaGreatDoorProg
import Derived.WalkKit
import Derived.Deep.MidRow
import Derived.Below
import Derived.Deep.QuietTactic
import Derived.BigQuiet
import Derived.Lib.Hide
import Derived.Laws.AppendOwn
import Derived.Laws.MakeOwn
import Derived.Deep.AppendLies
import Derived.WalkSpells
import Derived.WalkLawsBesides
import Derived.ArgAppend
import Derived.Deep.RegionHeld3
import Derived.Deep.DeepCutAuto
import Derived.Laws.BitsLemmas
import Derived.RegionTactic
import Derived.BigRegion
import Derived.Laws.Bits64b
namespace Go.Proofs.YtkjocmenpccooaaGreatDoor
/-- What a row of digits comes to. -/
def val (B : Nat) : List Nat → Nat
  | [] => 0
  | x :: l => x + B * val B l
/-- The digits of a number, without noughts at the end. -/
def digs (B n : Nat) : List Nat := if _h : n = 0 ∨ B < 2 then [] else n % B :: digs B (n / B)
termination_by n
decreasing_by exact Nat.div_lt_self (by omega) (by omega)
/-- All are digits. -/
def Low (B : Nat) (l : List Nat) : Prop := ∀ x ∈ l, x < B
/-- No nought at the end. -/
def Tight (l : List Nat) : Prop := l.getLast? ≠ some 0
theorem digs_zero (B : Nat) : digs B 0 = [] := by rw [digs]; simp
theorem digs_pos {B n : Nat} (hB : 2 ≤ B) (h : 0 < n) : digs B n = n % B :: digs B (n / B) := by
  rw [digs, dif_neg (by omega)]
theorem val_digs {B : Nat} (hB : 2 ≤ B) (n : Nat) : val B (digs B n) = n := by
  induction n using Nat.strongRecOn with
  | _ n ih =>
    rcases Nat.eq_zero_or_pos n with rfl | h
    · rw [digs_zero]; rfl
    · rw [digs_pos hB h, val, ih _ (Nat.div_lt_self h (by omega))]
      exact Nat.mod_add_div n B
theorem digs_low {B : Nat} (hB : 2 ≤ B) (n : Nat) : Low B (digs B n) := by
  induction n using Nat.strongRecOn with
  | _ n ih =>
    rcases Nat.eq_zero_or_pos n with rfl | h
    · rw [digs_zero]; intro x hx; cases hx
    · rw [digs_pos hB h]
      intro x hx
      rcases List.mem_cons.1 hx with rfl | hx
      · exact Nat.mod_lt _ (by omega)
      · exact ih _ (Nat.div_lt_self h (by omega)) x hx
theorem tight_cons {x : Nat} {l : List Nat} (h : Tight l) (hx : l = [] → x ≠ 0) : Tight (x :: l) := by
  unfold Tight at *
  cases l with
  | nil => simpa using hx rfl
  | cons y l => simpa [List.getLast?_cons_cons] using h
theorem tight_tail {x : Nat} {l : List Nat} (h : Tight (x :: l)) : Tight l := by
  unfold Tight at *
  cases l with
  | nil => simp
  | cons y l => simpa [List.getLast?_cons_cons] using h
theorem digs_nil {B n : Nat} (hB : 2 ≤ B) (h : digs B n = []) : n = 0 := by
  have := val_digs hB n
  rw [h] at this
  exact this.symm
theorem digs_tight {B : Nat} (hB : 2 ≤ B) (n : Nat) : Tight (digs B n) := by
  induction n using Nat.strongRecOn with
  | _ n ih =>
    rcases Nat.eq_zero_or_pos n with rfl | h
    · rw [digs_zero]; simp [Tight]
    · rw [digs_pos hB h]
      refine tight_cons (ih _ (Nat.div_lt_self h (by omega))) fun e => ?_
      have h0 := digs_nil hB e
      have := Nat.mod_add_div n B
      rw [h0] at this
      simp at this
      omega
theorem Low.tail {B x : Nat} {l : List Nat} (h : Low B (x :: l)) : Low B l := fun y hy => h y (List.mem_cons_of_mem _ hy)
theorem Low.head {B x : Nat} {l : List Nat} (h : Low B (x :: l)) : x < B := h x List.mem_cons_self
theorem Low.nil (B : Nat) : Low B [] := fun _ h => absurd h (by simp)
theorem Low.append {B : Nat} {l m : List Nat} (h : Low B l) (k : Low B m) : Low B (l ++ m) := fun x hx => (List.mem_append.1 hx).elim (h x) (k x)
theorem Low.take {B : Nat} {l : List Nat} (h : Low B l) (n : Nat) : Low B (l.take n) := fun x hx => h x (List.mem_of_mem_take hx)
theorem Low.getD {B : Nat} (hB : 0 < B) {l : List Nat} (h : Low B l) (i : Nat) : l.getD i 0 < B := by
  rw [List.getD_eq_getElem?_getD]
  cases e : l[i]? with
  | none => simpa using hB
  | some x => exact h x (List.mem_of_getElem? e)
theorem val_pos {B : Nat} : ∀ {l : List Nat}, Tight l → l ≠ [] → 0 < B → 0 < val B l
  | [], _, h, _ => absurd rfl h
  | x :: l, t, _, hB => by
    rw [val]
    cases l with
    | nil =>
      have : x ≠ 0 := by simpa [Tight] using t
      omega
    | cons y l =>
      have := val_pos (tight_tail t) (by simp) hB
      have := Nat.mul_pos hB this
      omega
theorem digs_val {B : Nat} (hB : 2 ≤ B) : ∀ {l : List Nat}, Low B l → Tight l → digs B (val B l) = l
  | [], _, _ => by rw [val, digs_zero]
  | x :: l, hl, ht => by
    have ih := digs_val hB hl.tail (tight_tail ht)
    have h0 : 0 < val B (x :: l) := val_pos ht (by simp) (by omega)
    have hx := hl.head
    have e1 : (x + B * val B l) % B = x := by rw [Nat.add_mul_mod_self_left, Nat.mod_eq_of_lt hx]
    have e2 : (x + B * val B l) / B = val B l := by rw [Nat.add_mul_div_left _ _ (by omega), Nat.div_eq_of_lt hx, Nat.zero_add]
    rw [digs_pos hB h0, val, e1, e2, ih]
theorem val_append (B : Nat) : ∀ (l m : List Nat), val B (l ++ m) = val B l + B ^ l.length * val B m
  | [], m => by simp [val]
  | x :: l, m => by
    rw [List.cons_append, val, val_append B l m, val, List.length_cons, Nat.pow_succ, Nat.mul_add]
    rw [Nat.mul_comm (B ^ l.length) B, Nat.mul_assoc]
    omega
theorem val_lt {B : Nat} : ∀ {l : List Nat}, Low B l → val B l < B ^ l.length
  | [], _ => by simp [val]
  | x :: l, h => by
    have ih := val_lt h.tail
    have hx := h.head
    rw [val, List.length_cons, Nat.pow_succ, Nat.mul_comm (B ^ l.length) B]
    have : B * (val B l + 1) ≤ B * B ^ l.length := Nat.mul_le_mul_left _ ih
    rw [Nat.mul_add] at this
    omega
theorem pow_le_val {B : Nat} (_hB : 0 < B) {l : List Nat} (ht : Tight l) (h : l ≠ []) : B ^ (l.length - 1) ≤ val B l := by
  have e := (List.dropLast_concat_getLast h).symm
  have e2 : val B l = val B l.dropLast + B ^ (l.length - 1) * l.getLast h := by
    conv => lhs; rw [e]
    rw [val_append, List.length_dropLast]
    simp [val]
  have hz : l.getLast h ≠ 0 := by
    intro e3
    exact ht (by rw [List.getLast?_eq_some_getLast h, e3])
  have : B ^ (l.length - 1) * 1 ≤ B ^ (l.length - 1) * l.getLast h := Nat.mul_le_mul_left _ (by omega)
  omega
theorem digs_len_le {B : Nat} (hB : 2 ≤ B) (n k : Nat) : (digs B n).length ≤ k ↔ n < B ^ k := by
  constructor
  · intro h
    have := val_lt (digs_low hB n)
    rw [val_digs hB] at this
    exact Nat.lt_of_lt_of_le this (Nat.pow_le_pow_right (by omega) h)
  · intro h
    rcases Nat.lt_or_ge k (digs B n).length with h2 | h2
    · have hne : digs B n ≠ [] := by intro e; rw [e] at h2; simp at h2
      have h3 := pow_le_val (by omega : 0 < B) (digs_tight hB n) hne
      rw [val_digs hB] at h3
      have h4 : B ^ k ≤ B ^ ((digs B n).length - 1) := Nat.pow_le_pow_right (by omega) (by omega)
      omega
    · exact h2
theorem val_take_succ (B : Nat) (l : List Nat) (i : Nat) : val B (l.take (i + 1)) = val B (l.take i) + B ^ i * l.getD i 0 := by
  rcases Nat.lt_or_ge i l.length with h | h
  · rw [List.take_succ_eq_append_getElem h, val_append, List.length_take, Nat.min_eq_left (by omega)]
    simp [val, List.getD_eq_getElem?_getD, List.getElem?_eq_getElem h]
  · rw [List.take_of_length_le (by omega), List.take_of_length_le h]
    simp [List.getD_eq_getElem?_getD, List.getElem?_eq_none h]
theorem val_zeros (B : Nat) : ∀ {l : List Nat}, (∀ x ∈ l, x = 0) → val B l = 0
  | [], _ => rfl
  | x :: l, h => by rw [val, h x List.mem_cons_self, val_zeros B (fun y hy => h y (List.mem_cons_of_mem _ hy))]; simp
theorem val_take_drop (B : Nat) (l : List Nat) (n : Nat) : val B l = val B (l.take n) + B ^ (l.take n).length * val B (l.drop n) := by
  conv => lhs; rw [← List.take_append_drop n l]
  rw [val_append]
/-- What is behind is nought, and what is ahead has none at its end: that is the digits of the number. -/
theorem take_digs {B : Nat} (hB : 2 ≤ B) {l : List Nat} (hl : Low B l) {n : Nat} (hn : n ≤ l.length) (hz : ∀ j, n ≤ j → j < l.length → l.getD j 0 = 0) (h : n = 0 ∨ l.getD (n - 1) 0 ≠ 0) :
    l.take n = digs B (val B l) := by
  have h0 : val B (l.drop n) = 0 := by
    refine val_zeros B fun x hx => ?_
    obtain ⟨i, hi, e⟩ := List.mem_iff_getElem.1 hx
    rw [List.length_drop] at hi
    have := hz (n + i) (by omega) (by omega)
    rw [List.getD_eq_getElem?_getD, List.getElem?_eq_getElem (by omega)] at this
    rw [List.getElem_drop] at e
    simp at this
    omega
  have e := val_take_drop B l n
  rw [h0, Nat.mul_zero, Nat.add_zero] at e
  rw [e]
  refine (digs_val hB (hl.take n) ?_).symm
  unfold Tight
  rcases h with rfl | h
  · simp
  · rw [List.getLast?_eq_getElem?, List.length_take, Nat.min_eq_left hn]
    rw [List.getElem?_take]
    rw [List.getD_eq_getElem?_getD] at h
    split
    · intro e2; rw [e2] at h; simp at h
    · simp
theorem digs_inj {B : Nat} (hB : 2 ≤ B) {m n : Nat} (h : digs B m = digs B n) : m = n := by
  have := congrArg (val B) h
  rwa [val_digs hB, val_digs hB] at this
theorem val_take_all (B : Nat) (l : List Nat) (n : Nat) (h : l.length ≤ n) : val B (l.take n) = val B l := by rw [List.take_of_length_le h]
theorem val_take_lt {B : Nat} (_hB : 0 < B) {l : List Nat} (hl : Low B l) (i : Nat) : val B (l.take i) < B ^ i := by
  have h := val_lt (hl.take i)
  exact Nat.lt_of_lt_of_le h (Nat.pow_le_pow_right (by omega) (by rw [List.length_take]; omega))
/-- A row that is made digit by digit, with what is carried on. -/
def rowC (B : Nat) (f : Nat → Nat → Nat) : Nat → Nat
  | 0 => 0
  | i + 1 => f i (rowC B f i) / B
def rowL (B : Nat) (f : Nat → Nat → Nat) (n : Nat) : List Nat := (List.range n).map fun i => f i (rowC B f i) % B
theorem rowL_len (B : Nat) (f : Nat → Nat → Nat) (n : Nat) : (rowL B f n).length = n := by simp [rowL]
theorem rowL_succ (B : Nat) (f : Nat → Nat → Nat) (n : Nat) : rowL B f (n + 1) = rowL B f n ++ [f n (rowC B f n) % B] := by
  unfold rowL; rw [List.range_succ, List.map_append]; rfl
theorem rowL_low {B : Nat} (hB : 0 < B) (f : Nat → Nat → Nat) (n : Nat) : Low B (rowL B f n) := by
  intro x hx
  obtain ⟨i, _, rfl⟩ := List.mem_map.1 hx
  exact Nat.mod_lt _ hB
theorem val_rowL_succ (B : Nat) (f : Nat → Nat → Nat) (n : Nat) : val B (rowL B f (n + 1)) + B ^ (n + 1) * rowC B f (n + 1) = val B (rowL B f n) + B ^ n * f n (rowC B f n) := by
  rw [rowL_succ, val_append, rowL_len, rowC, Nat.pow_succ, Nat.mul_assoc]
  have h := Nat.mod_add_div (f n (rowC B f n)) B
  have : B ^ n * (f n (rowC B f n)) = B ^ n * (f n (rowC B f n) % B) + B ^ n * (B * (f n (rowC B f n) / B)) := by rw [← Nat.mul_add, h]
  rw [this]
  simp only [val, Nat.mul_zero, Nat.add_zero]
  omega
/-- Two rows added. -/
def plusF (a b : List Nat) (i c : Nat) : Nat := a.getD i 0 + b.getD i 0 + c
theorem plus_inv {B : Nat} (hB : 2 ≤ B) {a b : List Nat} (ha : Low B a) (hb : Low B b) : ∀ i, val B (rowL B (plusF a b) i) + B ^ i * rowC B (plusF a b) i = val B (a.take i) + val B (b.take i) ∧ rowC B (plusF a b) i ≤ 1
  | 0 => by simp [rowL, rowC, val]
  | i + 1 => by
    obtain ⟨h1, h2⟩ := plus_inv hB ha hb i
    have x := ha.getD (by omega) i
    have y := hb.getD (by omega) i
    refine ⟨?_, ?_⟩
    · rw [val_rowL_succ, val_take_succ, val_take_succ]
      simp only [plusF, Nat.mul_add]
      omega
    · rw [rowC]
      simp only [plusF]
      have : a.getD i 0 + b.getD i 0 + rowC B (plusF a b) i < 2 * B := by omega
      have := (Nat.div_lt_iff_lt_mul (by omega : 0 < B)).2 this
      omega
theorem plus_val {B : Nat} (hB : 2 ≤ B) {a b : List Nat} (ha : Low B a) (hb : Low B b) {n : Nat} (h1 : a.length < n) (h2 : b.length < n) : val B (rowL B (plusF a b) n) = val B a + val B b := by
  obtain ⟨m, rfl⟩ : ∃ m, n = m + 1 := ⟨n - 1, by omega⟩
  obtain ⟨h, hc⟩ := plus_inv hB ha hb (m + 1)
  rw [val_take_all _ _ _ (by omega), val_take_all _ _ _ (by omega)] at h
  have e1 := val_take_lt (B := B) (by omega) ha m
  have e2 := val_take_lt (B := B) (by omega) hb m
  rw [val_take_all _ _ _ (by omega)] at e1 e2
  have e3 : B ^ (m + 1) = B ^ m * B := Nat.pow_succ ..
  have e4 : B ^ m * 2 ≤ B ^ m * B := Nat.mul_le_mul_left _ hB
  have hz : rowC B (plusF a b) (m + 1) = 0 := by
    rcases Nat.lt_or_ge 0 (rowC B (plusF a b) (m + 1)) with h0 | h0
    · have : rowC B (plusF a b) (m + 1) = 1 := by omega
      rw [this] at h
      omega
    · omega
  rw [hz] at h
  omega
open Go.RowKit
/-- Outside of the blocks in S nothing that was there has turned. -/
structure Keep (S : Nat → Prop) (w w' : World) : Prop where
  os : w'.os = w.os
  tape : w'.tape = w.tape
  output : w'.output = w.output
  size : w.heap.size ≤ w'.heap.size
  block : ∀ k, k < w.heap.size → ¬ S k → w'.heap[k]? = w.heap[k]?
namespace Keep
variable {S S' : Nat → Prop} {w w' w'' : World}
theorem refl (S : Nat → Prop) (w : World) : Keep S w w := ⟨rfl, rfl, rfl, Nat.le_refl _, fun _ _ _ => rfl⟩
theorem trans (h : Keep S w w') (k : Keep S w' w'') : Keep S w w'' :=
  ⟨k.os.trans h.os, k.tape.trans h.tape, k.output.trans h.output, Nat.le_trans h.size k.size, fun i hi hs => (k.block i (Nat.lt_of_lt_of_le hi h.size) hs).trans (h.block i hi hs)⟩
theorem mono (h : Keep S w w') (hs : ∀ k, k < w.heap.size → S k → S' k) : Keep S' w w' := ⟨h.os, h.tape, h.output, h.size, fun k hk hn => h.block k hk (fun e => hn (hs k hk e))⟩
theorem alloc (h : Keep S w w') (o : Obj) : Keep S w (w'.alloc o) :=
  ⟨h.os, h.tape, h.output, Nat.le_trans h.size (by simp), fun i hi hs => (Below.heap_alloc w' o i (Nat.lt_of_lt_of_le hi h.size)).trans (h.block i hi hs)⟩
theorem setCell (h : Keep S w w') {p : Addr} (hp : S p.block ∨ w.heap.size ≤ p.block) (u : Value) : Keep S w (w'.setCell p u) :=
  ⟨h.os, h.tape, h.output, by simpa [World.setCell] using h.size, fun i hi hs => (Below.heap_setCell w' p u i (by
    rintro rfl
    rcases hp with hp | hp
    · exact hs hp
    · omega)).trans (h.block i hi hs)⟩
theorem drew (h : Keep S w w') : Keep S w w'.drew := ⟨h.os, h.tape, h.output, h.size, h.block⟩
theorem drewN (h : Keep S w w') (n : Nat) : Keep S w (w'.drewN n) := ⟨h.os, h.tape, h.output, h.size, h.block⟩
theorem cell (h : Keep S w w') {p : Addr} (hl : p.block < w.heap.size) (hs : ¬ S p.block) : w'.cell? p = w.cell? p := World.cell?_of_block (w := w) (h.block p.block hl hs)
end Keep
theorem Keep.heap {S : Nat → Prop} {w w' : World} (k : Keep S w w') {b : Nat} {o : Obj} (hb : w.heap[b]? = some o) (hs : ¬ S b) : w'.heap[b]? = some o := by
  have hl : b < w.heap.size := by
    rcases Nat.lt_or_ge b w.heap.size with hlt | hge
    · exact hlt
    · rw [Array.getElem?_eq_none hge] at hb; cases hb
  rw [k.block b hl hs]; exact hb
theorem heap_lt {w : World} {b : Nat} {o : Obj} (h : w.heap[b]? = some o) : b < w.heap.size := by
  rcases Nat.lt_or_ge b w.heap.size with hlt | hge
  · exact hlt
  · rw [Array.getElem?_eq_none hge] at h; cases h
theorem Keep.into {S : Nat → Prop} {w a b : World} (h : Keep (fun _ => False) w a) (k : Keep S a b) (hs : ∀ i, S i → w.heap.size ≤ i) : Keep (fun _ => False) w b :=
  ⟨k.os.trans h.os, k.tape.trans h.tape, k.output.trans h.output, Nat.le_trans h.size k.size, fun i hi _ => (k.block i (Nat.lt_of_lt_of_le hi h.size) (fun e => by have := hs i e; omega)).trans (h.block i hi (by simp))⟩
theorem Keep.below0 {w w' : World} (h : Keep (fun _ => False) w w') : Below w.heap.size w w' := ⟨h.os, h.tape, h.output, h.size, fun k hk => h.block k hk (by simp)⟩
theorem Keep.grown {S : Nat → Prop} {w a b : World} {row : Option Nat} (h : Keep S w a) (hg : a.grownBy b row) (hr : ∀ k, row = some k → S k ∨ w.heap.size ≤ k) : Keep S w b :=
  ⟨hg.os.trans h.os, hg.tape.trans h.tape, hg.output.trans h.output, Nat.le_trans h.size hg.size, fun i hi hs => (hg.block i (Nat.lt_of_lt_of_le hi h.size) (fun e => by
    rcases hr i e.symm with h' | h'
    · exact hs h'
    · omega)).trans (h.block i hi hs)⟩
theorem Keep.join {S S' : Nat → Prop} {w a b : World} (h : Keep S w a) (k : Keep S' a b) (hs : ∀ i, i < w.heap.size → S' i → S i) : Keep S w b :=
  ⟨k.os.trans h.os, k.tape.trans h.tape, k.output.trans h.output, Nat.le_trans h.size k.size, fun i hi hn => (k.block i (Nat.lt_of_lt_of_le hi h.size) (fun e => hn (hs i hi e))).trans (h.block i hi hn)⟩
theorem Keep.of_below {w w' : World} (h : Below w.heap.size w w') : Keep (fun _ => False) w w' := ⟨h.os, h.tape, h.output, h.size, fun k hk _ => h.block k hk⟩
theorem Keep.of_grown {w w' : World} {row : Option Nat} (h : w.grownBy w' row) : Keep (fun b => some b = row) w w' := ⟨h.os, h.tape, h.output, h.size, fun i hi hn => h.block i hi hn⟩
/-- A row of numbers of the kind q lies there. -/
def RowAt (q : IntKind) (w : World) (A : Option Addr) (n : Nat) (l : List Nat) : Prop :=
  l.length = n ∧ ∀ j, j < n → ∃ b off, A = some ⟨b, off, none⟩ ∧ b < w.heap.size ∧ w.cell? ⟨b, off + j, none⟩ = some (.int q ((l.getD j 0 : Nat) : Int))
namespace RowAt
variable {q : IntKind} {w w' : World} {A : Option Addr} {n : Nat} {l : List Nat}
theorem keep {S : Nat → Prop} (h : RowAt q w A n l) (k : Keep S w w') (hs : 0 < n → ∀ b off, A = some ⟨b, off, none⟩ → ¬ S b) : RowAt q w' A n l :=
  ⟨h.1, fun j hj => by
    obtain ⟨b, off, e, hb, hc⟩ := h.2 j hj
    exact ⟨b, off, e, Nat.lt_of_lt_of_le hb k.size, (k.cell (p := ⟨b, off + j, none⟩) hb (hs (by omega) b off e)).trans hc⟩⟩
theorem keep0 (h : RowAt q w A n l) (k : Keep (fun _ => False) w w') : RowAt q w' A n l := h.keep k (fun _ _ _ _ => id)
theorem nil (q : IntKind) (w : World) (A : Option Addr) : RowAt q w A 0 [] := ⟨rfl, fun j hj => absurd hj (Nat.not_lt_zero j)⟩
theorem take (h : RowAt q w A n l) {m : Nat} (hm : m ≤ n) : RowAt q w A m (l.take m) := by
  refine ⟨by rw [List.length_take, h.1]; omega, fun j hj => ?_⟩
  obtain ⟨b, off, e, hb, hc⟩ := h.2 j (by omega)
  refine ⟨b, off, e, hb, ?_⟩
  rw [hc, List.getD_eq_getElem?_getD, List.getD_eq_getElem?_getD, List.getElem?_take, if_pos hj]
end RowAt
/-- A row that the call has made itself: at the head of a block from base on, of the element type e. -/
def OwnR (e : TypeId) (q : IntKind) (w : World) (base : Nat) (A : Option Addr) (n c : Nat) (l : List Nat) : Prop := w.ownsRow base e 1 (.slice A n c) n (l.map fun x : Nat => Value.int q (x : Int))
namespace OwnR
variable {e : TypeId} {q : IntKind} {w w' : World} {base n c : Nat} {A : Option Addr} {l : List Nat}
theorem len (h : OwnR e q w base A n c l) : l.length = n := by have := h.1; simpa using this
theorem fresh (h : OwnR e q w base A n c l) : ∀ b off, A = some ⟨b, off, none⟩ → base ≤ b ∧ b < w.heap.size := by
  intro b off e1
  subst e1
  exact World.ownsRow.lt h b rfl
theorem row (h : OwnR e q w base A n c l) : RowAt q w A n l := by
  have hl := h.len
  refine ⟨hl, fun j hj => ?_⟩
  obtain ⟨g, c', hv, _, hlt⟩ := World.ownsRow.form h (by omega)
  injection hv with h1 _ h3
  subst h1 h3
  refine ⟨g, 0, rfl, hlt, ?_⟩
  rw [Nat.zero_add, World.ownsRow.cellAt h j (by omega)]
  simp [List.getElem?_map, List.getD_eq_getElem?_getD, List.getElem?_eq_getElem (show j < l.length by omega)]
theorem keep {S : Nat → Prop} (h : OwnR e q w base A n c l) (K : Keep S w w') (hs : ∀ b off, A = some ⟨b, off, none⟩ → ¬ S b) : OwnR e q w' base A n c l := by
  refine ⟨h.1, ?_⟩
  rcases h.2 with hn | ⟨g, cap, cur, hv, hg, hh, rest⟩
  · exact .inl hn
  · refine .inr ⟨g, cap, cur, hv, hg, ?_, rest⟩
    injection hv with h1 _ _
    rw [K.block g (heap_lt hh) (hs g 0 h1)]
    exact hh
theorem keep0 (h : OwnR e q w base A n c l) (K : Keep (fun _ => False) w w') : OwnR e q w' base A n c l := h.keep K (fun _ _ _ => id)
theorem mono (h : OwnR e q w base A n c l) {base' : Nat} (hb : base' ≤ base) : OwnR e q w base' A n c l :=
  ⟨h.1, h.2.imp id fun ⟨g, cap, cur, h1, h2, h3⟩ => ⟨g, cap, cur, h1, Nat.le_trans hb h2, h3⟩⟩
theorem take (h : OwnR e q w base A n c l) {m : Nat} (hm : m ≤ n) : OwnR e q w base A m c (l.take m) := by
  have hl := h.len
  refine ⟨by simp [hl]; omega, ?_⟩
  rcases h.2 with ⟨hv, h0⟩ | ⟨g, cap, cur, hv, hg, hh, h1, h2, h3, h4⟩
  · subst h0
    obtain rfl : m = 0 := by omega
    exact .inl ⟨hv, rfl⟩
  · injection hv with e1 _ e3
    subst e1 e3
    refine .inr ⟨g, c, cur, rfl, hg, hh, by omega, h2, h3, ?_⟩
    rw [List.map_take, ← h4, List.take_take]
    simp only [Nat.mul_one]
    rw [Nat.min_eq_left hm]
theorem nil (e : TypeId) (q : IntKind) (w : World) (base : Nat) : OwnR e q w base none 0 0 [] := World.ownsRow_nil _ _ _ _
theorem frozen (h : OwnR e q w base A n c l) : ∀ b off, A = some ⟨b, off, none⟩ → ∀ j, w.frozen? ⟨b, j, none⟩ = false := by
  intro b off e1 j
  subst e1
  rcases h.2 with ⟨hv, _⟩ | ⟨g, cap, cur, hv, hg, hh, _⟩
  · cases hv
  · injection hv with e1 _ _
    injection e1 with e1
    injection e1 with e1 _ _
    subst e1
    simp [World.frozen?, hh]
/-- A store. -/
theorem set {b : Nat} (h : OwnR e q w base (some ⟨b, 0, none⟩) n c l) {j : Nat} (_hj : j < n) (x : Nat) : OwnR e q (w.setCell ⟨b, j, none⟩ (.int q (x : Int))) base (some ⟨b, 0, none⟩) n c (l.set j x) := by
  refine ⟨by rw [List.length_map, List.length_set]; have := h.1; simpa using this, ?_⟩
  rcases h.2 with ⟨hn, _⟩ | ⟨g', cap', cur, hv, hg, hh, h1, h2, h3, h4⟩
  · cases hn
  · simp only [Value.slice.injEq, Option.some.injEq, Addr.mk.injEq, and_true, true_and] at hv
    obtain ⟨rfl, rfl⟩ := hv
    refine .inr ⟨b, c, cur.setIfInBounds j (.int q (x : Int)), rfl, hg, by simp [World.setCell, Array.getElem?_modify, hh], h1, h2, by simpa using h3, ?_⟩
    rw [Array.toList_setIfInBounds, List.take_set, h4, List.map_set]
end OwnR
theorem setCell_keep {S : Nat → Prop} {w : World} {b : Nat} (hb : S b) (j : Nat) (u : Value) : Keep S w (w.setCell ⟨b, j, none⟩ u) := (Keep.refl S w).setCell (p := ⟨b, j, none⟩) (.inl hb) u
/-- The bound of a limb. -/
def BB : Nat := 4294967296
theorem BB2 : 2 ≤ BB := by unfold BB; omega
theorem low_cast {l : List Nat} (h : Low BB l) (j : Nat) : ((l.getD j 0 : Nat) : Int) ≤ 4294967295 := by
  have := h.getD (by unfold BB; omega) j
  unfold BB at this
  omega
/-- The limbs of a number. -/
abbrev limbs (n : Nat) : List Nat := digs BB n
/-- The value of limbs. -/
abbrev lval (l : List Nat) : Nat := val BB l
open Go.RowKit
/-- How many limbs are left when noughts at the end are cut off. -/
def tlen (l : List Nat) : Nat := (limbs (lval l)).length
theorem tlen_of {l : List Nat} (low : Low BB l) {k : Nat} (hk : k ≤ l.length) (hz : ∀ j, k ≤ j → j < l.length → l.getD j 0 = 0) (h : k = 0 ∨ l.getD (k - 1) 0 ≠ 0) : tlen l = k ∧ l.take k = limbs (lval l) := by
  have := take_digs BB2 low hk hz h
  refine ⟨?_, this⟩
  have e := congrArg List.length this
  rw [List.length_take] at e
  show (digs BB (val BB l)).length = k
  omega
theorem tlen_le {l : List Nat} (low : Low BB l) : tlen l ≤ l.length := by
  unfold tlen limbs
  rw [digs_len_le BB2]
  exact val_lt low
theorem take_tlen {l : List Nat} (low : Low BB l) : l.take (tlen l) = limbs (lval l) := by
  obtain ⟨k, hk, hz, h⟩ : ∃ k, k ≤ l.length ∧ (∀ j, k ≤ j → j < l.length → l.getD j 0 = 0) ∧ (k = 0 ∨ l.getD (k - 1) 0 ≠ 0) := by
    have : ∀ m, m ≤ l.length → (∀ j, m ≤ j → j < l.length → l.getD j 0 = 0) → ∃ k, k ≤ l.length ∧ (∀ j, k ≤ j → j < l.length → l.getD j 0 = 0) ∧ (k = 0 ∨ l.getD (k - 1) 0 ≠ 0) := by
      intro m
      induction m with
      | zero => intro hm hz; exact ⟨0, hm, hz, .inl rfl⟩
      | succ m ih =>
        intro hm hz
        by_cases e : l.getD m 0 = 0
        · refine ih (by omega) fun j hj hl => ?_
          by_cases e2 : j = m
          · rw [e2]; exact e
          · exact hz j (by omega) hl
        · exact ⟨m + 1, hm, hz, .inr (by simpa using e)⟩
    exact this l.length (Nat.le_refl _) (fun j hj hl => by omega)
  obtain ⟨h1, h2⟩ := tlen_of low hk hz h
  rw [h1, h2]
/-- A slice of limbs that lies there. -/
structure LimbsAt (w : World) (A : Option Addr) (n c : Nat) (l : List Nat) : Prop where
  row : RowAt .u32 w A n l
  low : Low BB l
  cap : n ≤ c
  max : n ≤ 100000
namespace LimbsAt
variable {w w' : World} {A : Option Addr} {n c : Nat} {l : List Nat}
theorem len (h : LimbsAt w A n c l) : l.length = n := h.row.1
theorem keep {S : Nat → Prop} (h : LimbsAt w A n c l) (k : Keep S w w') (hs : 0 < n → ∀ b off, A = some ⟨b, off, none⟩ → ¬ S b) : LimbsAt w' A n c l := ⟨h.row.keep k hs, h.low, h.cap, h.max⟩
theorem keep0 (h : LimbsAt w A n c l) (k : Keep (fun _ => False) w w') : LimbsAt w' A n c l := ⟨h.row.keep0 k, h.low, h.cap, h.max⟩
theorem trim (h : LimbsAt w A n c l) : LimbsAt w A (tlen l) c (limbs (lval l)) := by
  have h1 := tlen_le h.low
  rw [h.len] at h1
  refine ⟨?_, digs_low BB2 _, Nat.le_trans h1 h.cap, Nat.le_trans h1 h.max⟩
  rw [← take_tlen h.low]
  exact h.row.take h1
theorem lt (h : LimbsAt w A n c l) (hn : 0 < n) : ∃ b off, A = some ⟨b, off, none⟩ ∧ b < w.heap.size := by
  obtain ⟨b, off, e, hb, _⟩ := h.row.2 0 hn
  exact ⟨b, off, e, hb⟩
end LimbsAt
theorem OwnR.cap {e : TypeId} {q : IntKind} {w : World} {base n c : Nat} {A : Option Addr} {l : List Nat} (h : OwnR e q w base A n c l) : n ≤ c := by
  rcases h.2 with ⟨hv, h0⟩ | ⟨g, cap, cur, hv, hg, hh, h1, _⟩
  · omega
  · injection hv with _ _ e3
    omega
theorem OwnR.toLimbs {w : World} {base n c : Nat} {A : Option Addr} {l : List Nat} (h : OwnR 39 .u32 w base A n c l) (low : Low BB l) (hm : n ≤ 100000) : LimbsAt w A n c l := ⟨h.row, low, h.cap, hm⟩
set_option maxRecDepth 100000 in
set_option maxHeartbeats 800000 in
theorem trim_any (A : Option Addr) (n c : Nat) (l : List Nat) (w : World) (hA : LimbsAt w A n c l) :
    Calls Tryz.prog 69 #[.slice A n c] w fun e w' => e = .returned (.slice A (tlen l) c) ∧ w = w' := by
  obtain ⟨h, low, hcap, hn⟩ := hA
  have hlen := h.1
  have LOW := Lib.hid low
  have HLEN := Lib.hid hlen
  clear low hlen
  go_enter Tryz.func69, Tryz.ntmps69
  go_wp2_with fail
  go_loop [3] (fun i => ∃ k : Nat, k ≤ n ∧ i = .int .i64 k ∧ ∀ j, k ≤ j → j < n → l.getD j 0 = 0) (fun i => (intOf i).toNat)
  case atStart => exact ⟨n, Nat.le_refl _, rfl, fun j h1 h2 => by omega⟩
  case round =>
    obtain ⟨k, hk, rfl, hz⟩ := hrel
    have HZ := Lib.hid hz
    clear hz
    by_cases h0 : k = 0
    · subst h0
      have ht := (tlen_of LOW.out (k := 0) (Nat.zero_le _) (fun j h1 h2 => HZ.out j h1 (by rw [← HLEN.out]; exact h2)) (.inl rfl)).1
      have HT := Lib.hid ht
      clear ht
      go_wp2_with fail
      go_ret
      exact ⟨by rw [HT.out]; rfl, rfl⟩
    · obtain ⟨m, rfl⟩ : ∃ m, k = m + 1 := ⟨k - 1, by omega⟩
      obtain ⟨b, off, rfl, hb, hc⟩ := h.2 m (by omega)
      by_cases hx : l.getD m 0 = 0
      · rw [hx] at hc
        have HX := Lib.hid hx
        clear hx h0
        go_wp2_with fail
        go_round
        case rel => exact ⟨m, by omega, by go_num, fun j h1 h2 => by
          by_cases e : j = m
          · rw [e]; exact HX.out
          · exact HZ.out j (by omega) h2⟩
        case measure => simp [intOf]
      · have ht := (tlen_of LOW.out (k := m + 1) (by rw [HLEN.out]; exact hk) (fun j h1 h2 => HZ.out j h1 (by rw [← HLEN.out]; exact h2)) (.inr (by simpa using hx))).1
        have HT := Lib.hid ht
        obtain ⟨x, hxx⟩ : ∃ x, x = l.getD m 0 := ⟨_, rfl⟩
        rw [← hxx] at hc hx
        have hb0 : (((x : Nat) : Int) == 0) = false := by simpa using hx
        clear ht h0 hxx hx
        have hc1 : (m : Int) + 1 ≤ (c : Int) := by omega
        go_wp2_with fail
        go_ret
        exact ⟨by rw [HT.out]; rfl, rfl⟩
open Go.RowKit
set_option maxRecDepth 100000 in
set_option maxHeartbeats 400000 in
theorem limb_any (A : Option Addr) (n c : Nat) (l : List Nat) (i : Nat) (w : World) (h : LimbsAt w A n c l) (_hi : i ≤ 1000000) :
    Calls Tryz.prog 115 #[.slice A n c, .int .i64 (i : Int)] w fun e w' => e = .returned (.int .u64 ((l.getD i 0 : Nat) : Int)) ∧ w = w' := by
  by_cases hlt : i < n
  · obtain ⟨b, off, rfl, hb, hc⟩ := h.row.2 i hlt
    have hx := low_cast h.low i
    have hm := h.max
    obtain ⟨x, hxx⟩ : ∃ x, x = l.getD i 0 := ⟨_, rfl⟩
    rw [← hxx] at hc hx ⊢
    have hx0 : (0 : Int) ≤ (x : Int) := by omega
    clear hxx h
    go_enter Tryz.func115, Tryz.ntmps115
    go_wp2
    go_ret
    exact ⟨rfl, rfl⟩
  · have e : l.getD i 0 = 0 := by
      rw [List.getD_eq_getElem?_getD, List.getElem?_eq_none (by rw [h.len]; omega)]; rfl
    have E := Lib.hid e
    have hm := h.max
    clear e h
    go_enter Tryz.func115, Tryz.ntmps115
    go_wp2
    go_ret
    exact ⟨by rw [E.out]; rfl, rfl⟩
/-- A number, as an argument. -/
abbrev numArg (neg : Bool) (A : Option Addr) (n c : Nat) : Value := .agg #[.bool neg, .slice A n c]
/-- Is it below 0? -/
def belowB (neg : Bool) (l : List Nat) : Bool := neg && decide (0 < lval l)
/-- What it comes to. -/
def sval (neg : Bool) (l : List Nat) : Int := if neg then -(lval l : Int) else (lval l : Int)
theorem tlen_pos (l : List Nat) : 0 < tlen l ↔ 0 < lval l := by
  unfold tlen
  constructor
  · intro h
    rcases Nat.eq_zero_or_pos (lval l) with e | e
    · rw [e] at h
      unfold limbs at h
      rw [digs_zero] at h
      simp at h
    · exact e
  · intro h
    rcases Nat.eq_zero_or_pos (limbs (lval l)).length with e | e
    · have := digs_nil BB2 (List.eq_nil_of_length_eq_zero e)
      omega
    · exact e
theorem belowB_iff (neg : Bool) (l : List Nat) : belowB neg l = decide (sval neg l < 0) := by
  unfold belowB sval
  cases neg
  · simp
  · rw [Bool.true_and, if_pos rfl]
    exact decide_eq_decide.2 (by omega)
def BoolPost (b : Bool) (w : World) (e : Ending) (w' : World) : Prop := e = .returned (.bool b) ∧ Keep (fun _ => False) w w'
def IntPost (x : Int) (w : World) (e : Ending) (w' : World) : Prop := e = .returned (.int .i64 x) ∧ Keep (fun _ => False) w w'
set_option maxRecDepth 100000 in
set_option maxHeartbeats 800000 in
theorem below_any (neg : Bool) (A : Option Addr) (n c : Nat) (l : List Nat) (w : World) (h : LimbsAt w A n c l) :
    Calls Tryz.prog 68 #[numArg neg A n c] w (BoolPost (belowB neg l) w) := by
  have K : Keep (fun _ => False) w (w.alloc (.cells #[.bool neg, .slice A n c] 24)) := (Keep.refl _ _).alloc _
  have h1 := h.keep0 K
  have htp := tlen_pos l
  cases neg with
  | false =>
    go_enter Tryz.func68, Tryz.ntmps68
    go_wp2_with fail
    go_ret
    exact ⟨rfl, K⟩
  | true =>
    have hb : belowB true l = decide (0 < tlen l) := by
      unfold belowB
      rw [Bool.true_and]
      exact decide_eq_decide.2 (by omega)
    rw [hb]
    clear htp hb
    go_enter Tryz.func68, Tryz.ntmps68
    go_wp2_with fail
    refine (trim_any A n c l _ h1).mono ?_
    rintro e w1 ⟨rfl, rfl⟩
    go_wp2_with fail
    go_ret
    exact ⟨rfl, K⟩
/-- -1, 0 or 1. -/
def signI (x : Int) : Int := if x < 0 then -1 else if 0 < x then 1 else 0
set_option maxRecDepth 100000 in
set_option maxHeartbeats 800000 in
theorem sign_any (neg : Bool) (A : Option Addr) (n c : Nat) (l : List Nat) (w : World) (h : LimbsAt w A n c l) :
    Calls Tryz.prog 38 #[numArg neg A n c] w (IntPost (signI (sval neg l)) w) := by
  have K : Keep (fun _ => False) w (w.alloc (.cells #[.bool neg, .slice A n c] 24)) := (Keep.refl _ _).alloc _
  have h1 := h.keep0 K
  have hin : ∀ j, j < 2 → (w.alloc (.cells #[.bool neg, .slice A n c] 24)).cell? ⟨w.heap.size, j, none⟩ = #[Value.bool neg, .slice A n c][j]? := fun j _ => World.cell?_alloc_new _ _ _ _
  have hbi := belowB_iff neg l
  have hB : belowB neg l = true ∨ belowB neg l = false := by cases belowB neg l <;> simp
  rcases hB with hB | hB
  · have hs : signI (sval neg l) = -1 := by
      rw [hbi, decide_eq_true_eq] at hB
      unfold signI; rw [if_pos hB]
    rw [hs]
    have HB := Lib.hid hB
    clear hbi hB hs hin
    go_enter Tryz.func38, Tryz.ntmps38
    go_wp2_with fail
    refine (below_any neg A n c l _ h1).mono ?_
    rw [HB.out]
    rintro e w1 ⟨rfl, k1⟩
    go_wp2_with fail
    go_ret
    exact ⟨rfl, K.trans k1⟩
  · have HB := Lib.hid hB
    have hx : ¬ sval neg l < 0 := by rw [hbi] at hB; simpa using hB
    have hs : signI (sval neg l) = if 0 < tlen l then 1 else 0 := by
      unfold signI
      rw [if_neg hx]
      have := tlen_pos l
      unfold sval at hx ⊢
      by_cases h0 : 0 < lval l
      · rw [if_pos (this.2 h0), if_pos]
        cases neg <;> simp at hx ⊢ <;> omega
      · rw [if_neg (fun e => h0 (this.1 e)), if_neg]
        cases neg <;> simp <;> omega
    rw [hs]
    have hin0 := hin 1 (by omega)
    clear hbi hB hx hs hin
    by_cases ht : 0 < tlen l
    · rw [if_pos ht]
      have ht' : (0 : Int) < (tlen l : Int) := by omega
      go_enter Tryz.func38, Tryz.ntmps38
      go_wp2_with fail
      refine (below_any neg A n c l _ h1).mono ?_
      rw [HB.out]
      rintro e w1 ⟨rfl, k1⟩
      have hc1 := (k1.cell (p := ⟨w.heap.size, 1, none⟩) (by simp) (by simp)).trans hin0
      have h2 := h1.keep0 k1
      go_wp2_with fail
      refine (trim_any A n c l _ h2).mono ?_
      rintro e w2 ⟨rfl, rfl⟩
      go_wp2_with fail
      go_ret
      exact ⟨rfl, K.trans k1⟩
    · rw [if_neg ht]
      have ht' : decide ((0 : Int) < (tlen l : Int)) = false := decide_eq_false (by omega)
      have ht2 : tlen l = 0 := by omega
      clear ht
      go_enter Tryz.func38, Tryz.ntmps38
      go_wp2_with fail
      refine (below_any neg A n c l _ h1).mono ?_
      rw [HB.out]
      rintro e w1 ⟨rfl, k1⟩
      have hc1 := (k1.cell (p := ⟨w.heap.size, 1, none⟩) (by simp) (by simp)).trans hin0
      have h2 := h1.keep0 k1
      go_wp2_with fail
      refine (trim_any A n c l _ h2).mono ?_
      rintro e w2 ⟨rfl, rfl⟩
      go_wp2_with fail
      go_ret
      exact ⟨rfl, K.trans k1⟩
/-- How two numbers stand. -/
def cmpN (a b : Nat) : Int := if a < b then -1 else if b < a then 1 else 0
set_option maxRecDepth 100000 in
set_option maxHeartbeats 400000 in
theorem isNaN_int (x : Int) (w : World) : Calls Tryz.prog 157 #[.int .i64 x] w fun e w' => e = .returned (.bool false) ∧ w = w' := by
  go_enter Tryz.func157, Tryz.ntmps157
  go_wp2
  go_ret
  exact ⟨by simp, rfl⟩
set_option maxRecDepth 100000 in
set_option maxHeartbeats 400000 in
theorem isNaN_u32 (x : Int) (w : World) : Calls Tryz.prog 181 #[.int .u32 x] w fun e w' => e = .returned (.bool false) ∧ w = w' := by
  go_enter Tryz.func181, Tryz.ntmps181
  go_wp2
  go_ret
  exact ⟨by simp, rfl⟩
/-- cmp.Compare. -/
def cmpI (a b : Int) : Int := if a < b then -1 else if b < a then 1 else 0
set_option maxRecDepth 100000 in
set_option maxHeartbeats 400000 in
theorem compare_int (x y : Int) (w : World) : Calls Tryz.prog 116 #[.int .i64 x, .int .i64 y] w fun e w' => e = .returned (.int .i64 (cmpI x y)) ∧ w = w' := by
  unfold cmpI
  by_cases h1 : x < y
  · rw [if_pos h1]
    go_enter Tryz.func116, Tryz.ntmps116
    go_wp2_with (go_at_call 157; refine (isNaN_int _ _).mono ?_; rintro e w' ⟨rfl, rfl⟩)
    go_ret
    exact ⟨rfl, rfl⟩
  · rw [if_neg h1]
    have h1' : decide (x < y) = false := by simpa using h1
    by_cases h2 : y < x
    · rw [if_pos h2]
      go_enter Tryz.func116, Tryz.ntmps116
      go_wp2_with (go_at_call 157; refine (isNaN_int _ _).mono ?_; rintro e w' ⟨rfl, rfl⟩)
      go_ret
      exact ⟨rfl, rfl⟩
    · rw [if_neg h2]
      have h2' : decide (y < x) = false := by simpa using h2
      clear h1 h2
      go_enter Tryz.func116, Tryz.ntmps116
      go_wp2_with (go_at_call 157; refine (isNaN_int _ _).mono ?_; rintro e w' ⟨rfl, rfl⟩)
      go_ret
      exact ⟨rfl, rfl⟩
set_option maxRecDepth 100000 in
set_option maxHeartbeats 400000 in
theorem compare_u32 (x y : Int) (w : World) : Calls Tryz.prog 158 #[.int .u32 x, .int .u32 y] w fun e w' => e = .returned (.int .i64 (cmpI x y)) ∧ w = w' := by
  unfold cmpI
  by_cases h1 : x < y
  · rw [if_pos h1]
    go_enter Tryz.func158, Tryz.ntmps158
    go_wp2_with (go_at_call 181; refine (isNaN_u32 _ _).mono ?_; rintro e w' ⟨rfl, rfl⟩)
    go_ret
    exact ⟨rfl, rfl⟩
  · rw [if_neg h1]
    have h1' : decide (x < y) = false := by simpa using h1
    by_cases h2 : y < x
    · rw [if_pos h2]
      go_enter Tryz.func158, Tryz.ntmps158
      go_wp2_with (go_at_call 181; refine (isNaN_u32 _ _).mono ?_; rintro e w' ⟨rfl, rfl⟩)
      go_ret
      exact ⟨rfl, rfl⟩
    · rw [if_neg h2]
      have h2' : decide (y < x) = false := by simpa using h2
      clear h1 h2
      go_enter Tryz.func158, Tryz.ntmps158
      go_wp2_with (go_at_call 181; refine (isNaN_u32 _ _).mono ?_; rintro e w' ⟨rfl, rfl⟩)
      go_ret
      exact ⟨rfl, rfl⟩
open Go.RowKit
theorem len_lt {a b : Nat} (h : (limbs a).length < (limbs b).length) : a < b := by
  have h1 := (digs_len_le BB2 a (limbs a).length).1 (Nat.le_refl _)
  have h2 := (not_congr (digs_len_le BB2 b (limbs a).length)).1 (by unfold limbs at *; omega)
  omega
theorem val_drop_eq {_B : Nat} {l m : List Nat} {k : Nat} (hl : l.length = m.length) (he : ∀ j, k ≤ j → j < l.length → l.getD j 0 = m.getD j 0) : l.drop k = m.drop k := by
  refine List.ext_getElem? fun i => ?_
  rw [List.getElem?_drop, List.getElem?_drop]
  by_cases h : k + i < l.length
  · have := he (k + i) (by omega) h
    rw [List.getD_eq_getElem?_getD, List.getD_eq_getElem?_getD, List.getElem?_eq_getElem h, List.getElem?_eq_getElem (by omega)] at this
    rw [List.getElem?_eq_getElem h, List.getElem?_eq_getElem (by omega)]
    simpa using this
  · rw [List.getElem?_eq_none (by omega), List.getElem?_eq_none (by omega)]
theorem val_digit_lt {B : Nat} (hB : 0 < B) {l m : List Nat} (hl : l.length = m.length) (low : Low B l) {k : Nat} (hk : k < l.length) (he : ∀ j, k + 1 ≤ j → j < l.length → l.getD j 0 = m.getD j 0) (h : l.getD k 0 < m.getD k 0) : val B l < val B m := by
  have e1 := val_take_drop B l (k + 1)
  have e2 := val_take_drop B m (k + 1)
  rw [val_take_succ, List.length_take, Nat.min_eq_left (by omega)] at e1 e2
  have e3 := val_drop_eq (_B := B) hl he
  have e4 := val_take_lt hB low k
  have e5 : B ^ k * (l.getD k 0 + 1) ≤ B ^ k * m.getD k 0 := Nat.mul_le_mul_left _ h
  rw [Nat.mul_add, Nat.mul_one] at e5
  rw [e1, e2, e3]
  omega
theorem cmpN_self (a : Nat) : cmpN a a = 0 := by unfold cmpN; simp
theorem cmpN_lt {a b : Nat} (h : a < b) : cmpN a b = -1 := by unfold cmpN; rw [if_pos h]
theorem cmpN_gt {a b : Nat} (h : b < a) : cmpN a b = 1 := by unfold cmpN; rw [if_neg (by omega), if_pos h]
theorem cmpN_digit {a b k : Nat} (hl : (limbs a).length = (limbs b).length) (hk : k < (limbs a).length) (he : ∀ j, k + 1 ≤ j → j < (limbs a).length → (limbs a).getD j 0 = (limbs b).getD j 0) (h : (limbs a).getD k 0 ≠ (limbs b).getD k 0) : cmpN a b = cmpI ((limbs a).getD k 0 : Nat) ((limbs b).getD k 0 : Nat) := by
  have hB : 0 < BB := by have := BB2; omega
  rcases Nat.lt_or_ge ((limbs a).getD k 0) ((limbs b).getD k 0) with h1 | h1
  · have := val_digit_lt hB hl (digs_low BB2 a) hk he h1
    unfold limbs at this
    rw [val_digs BB2, val_digs BB2] at this
    rw [cmpN_lt this]
    unfold cmpI
    rw [if_pos (by omega)]
  · have h2 : (limbs b).getD k 0 < (limbs a).getD k 0 := by omega
    have := val_digit_lt hB hl.symm (digs_low BB2 b) (by omega) (fun j hj hl2 => (he j hj (by omega)).symm) h2
    unfold limbs at this
    rw [val_digs BB2, val_digs BB2] at this
    rw [cmpN_gt this]
    unfold cmpI
    rw [if_neg (by omega), if_pos (by omega)]
theorem limbs_ext {a b : Nat} (hl : (limbs a).length = (limbs b).length) (he : ∀ j, j < (limbs a).length → (limbs a).getD j 0 = (limbs b).getD j 0) : a = b := by
  have := val_drop_eq (_B := BB) (k := 0) hl (fun j _ h => he j h)
  simp only [List.drop_zero] at this
  exact digs_inj BB2 this
set_option maxRecDepth 100000 in
set_option maxHeartbeats 2000000 in
theorem order_any (A : Option Addr) (n c : Nat) (l : List Nat) (A' : Option Addr) (n' c' : Nat) (l' : List Nat) (w : World) (h : LimbsAt w A n c l) (h' : LimbsAt w A' n' c' l') :
    Calls Tryz.prog 117 #[.slice A n c, .slice A' n' c'] w (IntPost (cmpN (lval l) (lval l')) w) := by
  have t := h.trim
  have t' := h'.trim
  have m1 := t.max
  have m2 := t'.max
  have HT := Lib.hid t
  have HT' := Lib.hid t'
  have el : tlen l = (limbs (lval l)).length := rfl
  have el' : tlen l' = (limbs (lval l')).length := rfl
  have EL := Lib.hid el
  have EL' := Lib.hid el'
  clear t t' el el'
  go_enter Tryz.func117, Tryz.ntmps117
  go_wp2_with fail
  refine (trim_any A n c l _ h).mono ?_
  rintro e w1 ⟨rfl, rfl⟩
  go_wp2_with fail
  refine (trim_any A' n' c' l' _ h').mono ?_
  rintro e w2 ⟨rfl, rfl⟩
  by_cases hne : tlen l = tlen l'
  · have hb : ((tlen l : Int) != (tlen l' : Int)) = false := by simp [hne]
    have HNE := Lib.hid hne
    clear hne
    go_wp2_with fail
    clear hb
    go_loopw [5] (fun iv wr => ∃ k : Nat, k ≤ tlen l ∧ iv = .int .i64 ((k : Int) - 1) ∧ (∀ j, k ≤ j → j < tlen l → (limbs (lval l)).getD j 0 = (limbs (lval l')).getD j 0) ∧ Keep (fun _ => False) w wr) (fun iv _ => (intOf iv + 1).toNat)
    case atStart => exact ⟨tlen l, Nat.le_refl _, rfl, fun j h1 h2 => by omega, Keep.refl _ _⟩
    case round =>
      obtain ⟨k, hk, rfl, he, K⟩ := hrel
      have HE := Lib.hid he
      clear he
      by_cases h0 : k = 0
      · subst h0
        have hv : lval l = lval l' := limbs_ext (by rw [← EL.out, ← EL'.out]; exact HNE.out) (fun j hj => HE.out j (Nat.zero_le _) hj)
        have P : IntPost (cmpN (lval l) (lval l')) w (.returned (.int .i64 0)) wr := ⟨by rw [hv, cmpN_self], K⟩
        have HP := Lib.hid P
        clear P hv
        go_wp2_with fail
        go_ret
        exact HP.out
      · obtain ⟨m, rfl⟩ : ∃ m, k = m + 1 := ⟨k - 1, by omega⟩
        obtain ⟨b1, o1, rfl, hb1, q1⟩ := (HT.out.row.keep0 K).2 m (by omega)
        obtain ⟨b2, o2, rfl, hb2, q2⟩ := (HT'.out.row.keep0 K).2 m (by have := HNE.out; omega)
        obtain ⟨x, hx⟩ : ∃ x, x = (limbs (lval l)).getD m 0 := ⟨_, rfl⟩
        obtain ⟨y, hy⟩ : ∃ y, y = (limbs (lval l')).getD m 0 := ⟨_, rfl⟩
        rw [← hx] at q1
        rw [← hy] at q2
        have HX := Lib.hid hx
        have HY := Lib.hid hy
        have em : ((m + 1 : Nat) : Int) - 1 = (m : Int) := by omega
        rw [em]
        have i0 : (0 : Int) ≤ (m : Int) := by omega
        have i1 : (m : Int) < (tlen l : Int) := by omega
        have i2 : (m : Int) < (tlen l' : Int) := by have := HNE.out; omega
        by_cases hxy : x = y
        · subst hxy
          clear hx hy em h0
          go_wp2_with fail
          go_quiet (fail)
          go_wp2_with fail
          go_roundw
          case rel => exact ⟨m, by omega, by go_num, fun j h1 h2 => by
            by_cases e : j = m
            · rw [e, ← HX.out, ← HY.out]
            · exact HE.out j (by omega) h2, K.drewN _⟩
          case measure => simp [intOf]
        · have hb : ((x : Int) != (y : Int)) = true := by
            rw [bne_iff_ne]; omega
          have P : ∀ w', Keep (fun _ => False) w w' → IntPost (cmpN (lval l) (lval l')) w (.returned (.int .i64 (cmpI x y))) w' := fun w' K' => ⟨by
            rw [cmpN_digit (k := m) (by rw [← EL.out, ← EL'.out]; exact HNE.out) (by rw [← EL.out]; omega) (fun j h1 h2 => HE.out j h1 h2) (by rw [← HX.out, ← HY.out]; exact hxy), ← HX.out, ← HY.out], K'⟩
          have HP := Lib.hid P
          clear P hx hy em h0 hxy
          go_wp2_with fail
          go_quiet (fail)
          go_wp2_with fail
          have K9 := K.drewN nq
          have q3 : (wr.drewN nq).cell? ⟨b1, o1 + m, none⟩ = some (.int .u32 (x : Int)) := q1
          have q4 : (wr.drewN nq).cell? ⟨b2, o2 + m, none⟩ = some (.int .u32 (y : Int)) := q2
          generalize wr.drewN nq = w9 at K9 q3 q4 ⊢
          go_quiet ((go_at_call 158; exact Calls.quiet_of_same ((compare_u32 _ _ _).mono fun _ _ ⟨he, hw⟩ => ⟨he, hw.symm⟩)))
          go_wp2_with fail
          go_ret
          exact HP.out _ (K9.drewN _)
  · have hb : ((tlen l : Int) != (tlen l' : Int)) = true := by rw [bne_iff_ne]; omega
    have hc : cmpI (tlen l) (tlen l') = cmpN (lval l) (lval l') := by
      rcases Nat.lt_or_ge (tlen l) (tlen l') with h1 | h1
      · rw [cmpN_lt (len_lt (by rw [← EL.out, ← EL'.out]; exact h1))]
        unfold cmpI; rw [if_pos (by omega)]
      · rw [cmpN_gt (len_lt (by rw [← EL.out, ← EL'.out]; omega))]
        unfold cmpI; rw [if_neg (by omega), if_pos (by omega)]
    have HC := Lib.hid hc
    clear hne hc
    go_wp2_with fail
    refine (compare_int _ _ _).mono ?_
    rintro e w3 ⟨rfl, rfl⟩
    go_wp2_with fail
    go_ret
    exact ⟨by rw [← HC.out]; rfl, Keep.refl _ _⟩
open Go.RowKit
theorem info63 : (Tryz.prog.info? 39).map (fun i => (i.zero, i.size, i.bytes)) = some (some (.int .u32 0), 1, 4) := by kernel_rfl
/-- What a call hands back that has made limbs. -/
def OwnPost (l : List Nat) (w : World) (e : Ending) (w' : World) : Prop :=
  ∃ (A : Option Addr) (n c : Nat), e = .returned (.slice A n c) ∧ OwnR 39 .u32 w' w.heap.size A n c l ∧ Keep (fun _ => False) w w'
theorem RowAt.news {q : IntKind} {w : World} {ad : Addr} {n : Nat} {l : List Nat} (h : RowAt q w (some ad) n l) : ∀ j u, (l.map fun x : Nat => Value.int q (x : Int))[j]? = some u → w.cell? (ad.add j) = some u := by
  intro j u hu
  have hj : j < n := by
    rcases Nat.lt_or_ge j n with h' | h'
    · exact h'
    · rw [List.getElem?_eq_none (by rw [List.length_map, h.1]; exact h')] at hu; cases hu
  obtain ⟨b, off, e, hb, hc⟩ := h.2 j hj
  injection e with e
  subst e
  rw [Addr.add_mid, hc]
  rw [List.getElem?_map, List.getElem?_eq_getElem (by rw [h.1]; exact hj)] at hu
  rw [List.getD_eq_getElem?_getD, List.getElem?_eq_getElem (by rw [h.1]; exact hj)]
  simpa using hu
theorem own_slice {e : TypeId} {q : IntKind} {w : World} {base n : Nat} {v : Value} {l : List Nat} (h : w.ownsRow base e 1 v n (l.map fun x : Nat => Value.int q (x : Int))) : ∃ A c, v = .slice A n c ∧ OwnR e q w base A n c l := by
  rcases h.2 with ⟨rfl, rfl⟩ | ⟨g, cap, cur, rfl, _⟩
  · exact ⟨none, 0, rfl, h⟩
  · exact ⟨_, _, rfl, h⟩
theorem empty_own (w : World) (e : TypeId) : (w.alloc (.cells #[] e)).ownsRow w.heap.size e 1 (.slice (some ⟨w.heap.size, 0, none⟩) 0 0) 0 [] := by
  refine ⟨rfl, .inr ⟨w.heap.size, 0, #[], rfl, Nat.le_refl _, heap_alloc_new _ _, Nat.le_refl _, by unfold maxLen; omega, rfl, rfl⟩⟩
set_option maxRecDepth 100000 in
set_option maxHeartbeats 800000 in
theorem clone_any (A : Option Addr) (n c : Nat) (l : List Nat) (w : World) (h : LimbsAt w A n c l) :
    Calls Tryz.prog 106 #[.slice A n c] w (OwnPost l w) := by
  obtain ⟨i0, hi, hz0, hz1, hz2⟩ := info_parts info63
  rcases A with _ | ad
  · have hn : n = 0 := by
      rcases Nat.eq_zero_or_pos n with e | e
      · exact e
      · obtain ⟨b, off, e, _⟩ := h.lt e
        cases e
    subst hn
    obtain rfl : l = [] := List.eq_nil_of_length_eq_zero h.len
    have hnil : (binOp BinOp.eql 22 (Value.slice none 0 c) (Value.slice none 0 0)).run Tryz.prog w = .ok (.bool true) w := by kernel_rfl
    clear hi hz0 hz1 hz2
    go_enter Tryz.func106, Tryz.ntmps106
    go_wp2_with fail
    go_ret
    exact ⟨none, 0, 0, rfl, OwnR.nil _ _ _ _, Keep.refl _ _⟩
  · have hnil : (binOp BinOp.eql 22 (Value.slice (some ad) n c) (Value.slice none 0 0)).run Tryz.prog w = .ok (.bool false) w := by kernel_rfl
    have K : Keep (fun _ => False) w (w.alloc (.cells #[] 39)) := (Keep.refl _ _).alloc _
    have hm := h.max
    have hlen := h.len
    have HN := Lib.hid (h.keep0 K).row
    have HLEN := Lib.hid hlen
    clear hlen h
    go_enter Tryz.func106, Tryz.ntmps106
    go_wp2_with (at_builtin; refine wpList_append_own _ rfl (.tmp 5) (.tmp 6) 22 rfl w.heap.size 39 i0 (.int .u32 0) 1 4 Tryz.underlying22 hi hz0 hz1 hz2 rfl (by decide) _ _ _ rfl (empty_own w 39) ad n c (l.map fun x : Nat => Value.int .u32 (x : Int)) rfl (by rw [List.length_map, HLEN.out, Nat.mul_one]) HN.out.news ?a1 ?a2 ?a3 ?a4 ?_)
    case a1 =>
      intro u hu
      obtain ⟨y, _, rfl⟩ := List.mem_map.1 hu
      rfl
    case a2 => unfold maxLen; omega
    case a3 => omega
    case a4 => simp
    intro v' w' hown hgrow _
    have K2 : Keep (fun _ => False) w w' := K.grown hgrow (fun k hk => .inr (by simp [Value.ownBlock] at hk; omega))
    have hown2 : w'.ownsRow w.heap.size 39 1 v' n (l.map fun x : Nat => Value.int .u32 (x : Int)) := by simpa using hown
    obtain ⟨A', c', rfl, own⟩ := own_slice hown2
    clear hown hgrow hown2
    go_wp2_with fail
    go_ret
    exact ⟨A', n, c', rfl, own, K2⟩
/-- Does it fit into 48 limbs? -/
def Fits (x : Int) : Prop := (limbs x.natAbs).length ≤ 48
instance (x : Int) : Decidable (Fits x) := by unfold Fits; infer_instance
/-- What a function hands back that makes a number. -/
def ResPost (x : Int) (w : World) (e : Ending) (w' : World) : Prop :=
  Keep (fun _ => False) w w' ∧ ((¬ Fits x ∧ e = .returned (.tuple #[numArg false none 0 0, .int .i64 6])) ∨
    ∃ (A : Option Addr) (n c : Nat), Fits x ∧ e = .returned (.tuple #[numArg (decide (x < 0)) A n c, .int .i64 0]) ∧ OwnR 39 .u32 w' w.heap.size A n c (limbs x.natAbs))
theorem sval_abs (neg : Bool) (l : List Nat) : (sval neg l).natAbs = lval l := by unfold sval; cases neg <;> simp
theorem sval_limbs (x : Int) : sval (decide (x < 0)) (limbs x.natAbs) = x := by
  unfold sval lval limbs
  rw [val_digs BB2]
  by_cases h : x < 0
  · rw [decide_eq_true h, if_pos rfl]; omega
  · rw [decide_eq_false h]; simp; omega
/-- Both cells of a result are written. -/
theorem two_cells {w : World} {B : Nat} {p q : Value} {t : TypeId} (hb : w.heap[B]? = some (.cells #[p, q] t (0, 0))) (a b : Value) :
    ((w.setCell ⟨B, 0, none⟩ a).setCell ⟨B, 1, none⟩ b).cell? ⟨B, 0, none⟩ = some a ∧ ((w.setCell ⟨B, 0, none⟩ a).setCell ⟨B, 1, none⟩ b).cell? ⟨B, 1, none⟩ = some b := by
  have h : ((w.setCell ⟨B, 0, none⟩ a).setCell ⟨B, 1, none⟩ b).heap[B]? = some (.cells #[a, b] t (0, 0)) := by
    simp [World.setCell, Array.getElem?_modify, hb]
  exact ⟨by rw [cell_of_row _ _ _ _ _ _ h]; rfl, by rw [cell_of_row _ _ _ _ _ _ h]; rfl⟩
theorem two_keep {S : Nat → Prop} {w w2 : World} {B : Nat} (h : Keep S w w2) (hB : w.heap.size ≤ B) (a b : Value) : Keep S w ((w2.setCell ⟨B, 0, none⟩ a).setCell ⟨B, 1, none⟩ b) :=
  (h.setCell (p := ⟨B, 0, none⟩) (.inr hB) a).setCell (p := ⟨B, 1, none⟩) (.inr hB) b
theorem two_own {e : TypeId} {q : IntKind} {w2 : World} {base n c B : Nat} {A : Option Addr} {l : List Nat} (h : OwnR e q w2 base A n c l) (hB : B < base) (a b : Value) : OwnR e q ((w2.setCell ⟨B, 0, none⟩ a).setCell ⟨B, 1, none⟩ b) base A n c l := by
  refine h.keep (S := fun k => k = B) (((Keep.refl (fun k => k = B) w2).setCell (p := ⟨B, 0, none⟩) (.inl rfl) a).setCell (p := ⟨B, 1, none⟩) (.inl rfl) b) (fun k off e1 => ?_)
  have := (h.fresh k off e1).1
  show ¬ k = B
  omega
set_option maxRecDepth 100000 in
set_option maxHeartbeats 2000000 in
theorem made_any (neg : Bool) (A : Option Addr) (n c : Nat) (l : List Nat) (w : World) (h : LimbsAt w A n c l) :
    Calls Tryz.prog 97 #[.bool neg, .slice A n c] w (ResPost (sval neg l) w) := by
  have K : Keep (fun _ => False) w (w.alloc (.cells #[.bool false, .slice none 0 0] 24)) := (Keep.refl _ _).alloc _
  have h1 := h.keep0 K
  have H1 := Lib.hid h1
  have t1 := Lib.hid h1.trim
  have tm := h1.trim.max
  have hfit : Fits (sval neg l) ↔ tlen l ≤ 48 := by unfold Fits tlen; rw [sval_abs]
  have hneg : belowB neg l = (neg && decide (0 < tlen l)) := by
    unfold belowB
    congr 1
    exact decide_eq_decide.2 (tlen_pos l).symm
  have hbi := belowB_iff neg l
  rw [hneg] at hbi
  have HB := Lib.hid hbi
  have HF := Lib.hid hfit
  clear h h1 hfit hneg hbi
  by_cases hbig : 48 < tlen l
  · go_enter Tryz.func97, Tryz.ntmps97
    go_wp2_with fail
    refine (trim_any A n c l _ H1.out).mono ?_
    rintro e w1 ⟨rfl, rfl⟩
    go_wp2_with fail
    exact bodyPost_ret (v := .tuple #[numArg false none 0 0, .int .i64 6]) (by simp [results, Tryz.results97, go_sem]) rfl ⟨(Keep.refl _ _).alloc _, .inl ⟨fun f => by have := HF.out.1 f; omega, rfl⟩⟩
  · have hbig' : decide ((48 : Int) < (tlen l : Int)) = false := decide_eq_false (by omega)
    have hF := Lib.hid (HF.out.2 (by omega))
    clear hbig
    cases neg with
    | false =>
      go_enter Tryz.func97, Tryz.ntmps97
      go_wp2_with fail
      refine (trim_any A n c l _ H1.out).mono ?_
      rintro e w1 ⟨rfl, rfl⟩
      go_wp2_with fail
      refine (clone_any A _ c _ _ t1.out).mono ?_
      rintro e w2 ⟨A2, n2, c2, rfl, own, k2⟩
      have hb := k2.heap (heap_alloc_new w (.cells #[.bool false, .slice none 0 0] 24)) (by simp)
      have r0 : w2.cell? ⟨w.heap.size, 0, none⟩ = some (.bool false) := by rw [cell_of_row w2 _ _ _ _ _ hb]; rfl
      have r1 : w2.cell? ⟨w.heap.size, 1, none⟩ = some (.slice none 0 0) := by rw [cell_of_row w2 _ _ _ _ _ hb]; rfl
      have f0 : w2.frozen? ⟨w.heap.size, 0, none⟩ = false := by simp [World.frozen?, hb]
      have f1 : w2.frozen? ⟨w.heap.size, 1, none⟩ = false := by simp [World.frozen?, hb]
      have OWN := Lib.hid own
      have HBX := Lib.hid hb
      have KK := Lib.hid (K.trans k2)
      clear own hb k2 K
      go_wp2_with fail
      obtain ⟨e0, e1⟩ := two_cells HBX.out (.bool false) (.slice A2 n2 c2)
      refine bodyPost_ret (v := .tuple #[numArg (decide (sval false l < 0)) A2 n2 c2, .int .i64 0]) ?_ rfl ⟨two_keep KK.out (Nat.le_refl _) _ _, .inr ⟨A2, n2, c2, hF.out, rfl, ?_⟩⟩
      · have hbb := HB.out
        rw [← hbb]
        simp [results, Tryz.results97, go_sem, e0, e1]
      · rw [sval_abs]
        exact two_own (OWN.out.mono (base' := w.heap.size + 1) (by simp)) (Nat.lt_succ_self _) _ _ |>.mono (Nat.le_succ _)
    | true =>
      by_cases h0 : 0 < tlen l
      · have h0' : (0 : Int) < (tlen l : Int) := by omega
        have hp : decide (0 < tlen l) = true := by simpa using h0
        clear h0
        go_enter Tryz.func97, Tryz.ntmps97
        go_wp2_with fail
        refine (trim_any A n c l _ H1.out).mono ?_
        rintro e w1 ⟨rfl, rfl⟩
        go_wp2_with fail
        refine (clone_any A _ c _ _ t1.out).mono ?_
        rintro e w2 ⟨A2, n2, c2, rfl, own, k2⟩
        have hb := k2.heap (heap_alloc_new w (.cells #[.bool false, .slice none 0 0] 24)) (by simp)
        have r0 : w2.cell? ⟨w.heap.size, 0, none⟩ = some (.bool false) := by rw [cell_of_row w2 _ _ _ _ _ hb]; rfl
        have r1 : w2.cell? ⟨w.heap.size, 1, none⟩ = some (.slice none 0 0) := by rw [cell_of_row w2 _ _ _ _ _ hb]; rfl
        have f0 : w2.frozen? ⟨w.heap.size, 0, none⟩ = false := by simp [World.frozen?, hb]
        have f1 : w2.frozen? ⟨w.heap.size, 1, none⟩ = false := by simp [World.frozen?, hb]
        have OWN := Lib.hid own
        have HBX := Lib.hid hb
        have KK := Lib.hid (K.trans k2)
        clear own hb k2 K
        go_wp2_with fail
        obtain ⟨e0, e1⟩ := two_cells HBX.out (.bool true) (.slice A2 n2 c2)
        refine bodyPost_ret (v := .tuple #[numArg (decide (sval true l < 0)) A2 n2 c2, .int .i64 0]) ?_ rfl ⟨two_keep KK.out (Nat.le_refl _) _ _, .inr ⟨A2, n2, c2, hF.out, rfl, ?_⟩⟩
        · have hbb := HB.out
          rw [← hbb]
          simp [results, Tryz.results97, go_sem, e0, e1, hp]
        · rw [sval_abs]
          exact two_own (OWN.out.mono (base' := w.heap.size + 1) (by simp)) (Nat.lt_succ_self _) _ _ |>.mono (Nat.le_succ _)
      · have h0' : decide ((0 : Int) < (tlen l : Int)) = false := decide_eq_false (by omega)
        have hp : decide (0 < tlen l) = false := by simpa using h0
        clear h0
        go_enter Tryz.func97, Tryz.ntmps97
        go_wp2_with fail
        refine (trim_any A n c l _ H1.out).mono ?_
        rintro e w1 ⟨rfl, rfl⟩
        go_wp2_with fail
        refine (clone_any A _ c _ _ t1.out).mono ?_
        rintro e w2 ⟨A2, n2, c2, rfl, own, k2⟩
        have hb := k2.heap (heap_alloc_new w (.cells #[.bool false, .slice none 0 0] 24)) (by simp)
        have r0 : w2.cell? ⟨w.heap.size, 0, none⟩ = some (.bool false) := by rw [cell_of_row w2 _ _ _ _ _ hb]; rfl
        have r1 : w2.cell? ⟨w.heap.size, 1, none⟩ = some (.slice none 0 0) := by rw [cell_of_row w2 _ _ _ _ _ hb]; rfl
        have f0 : w2.frozen? ⟨w.heap.size, 0, none⟩ = false := by simp [World.frozen?, hb]
        have f1 : w2.frozen? ⟨w.heap.size, 1, none⟩ = false := by simp [World.frozen?, hb]
        have OWN := Lib.hid own
        have HBX := Lib.hid hb
        have KK := Lib.hid (K.trans k2)
        clear own hb k2 K
        go_wp2_with fail
        obtain ⟨e0, e1⟩ := two_cells HBX.out (.bool false) (.slice A2 n2 c2)
        refine bodyPost_ret (v := .tuple #[numArg (decide (sval true l < 0)) A2 n2 c2, .int .i64 0]) ?_ rfl ⟨two_keep KK.out (Nat.le_refl _) _ _, .inr ⟨A2, n2, c2, hF.out, rfl, ?_⟩⟩
        · have hbb := HB.out
          rw [← hbb]
          simp [results, Tryz.results97, go_sem, e0, e1, hp]
        · rw [sval_abs]
          exact two_own (OWN.out.mono (base' := w.heap.size + 1) (by simp)) (Nat.lt_succ_self _) _ _ |>.mono (Nat.le_succ _)
theorem Fits_iff (x : Int) : Fits x ↔ x.natAbs < BB ^ 48 := digs_len_le BB2 _ _
/-- A number that was made, as an argument. -/
theorem OwnR.num {w : World} {base n c : Nat} {A : Option Addr} {x : Int} (h : OwnR 39 .u32 w base A n c (limbs x.natAbs)) (hf : Fits x) : LimbsAt w A n c (limbs x.natAbs) := by
  have hl := h.len
  unfold Fits at hf
  exact h.toLimbs (digs_low BB2 _) (by omega)
/-- The same, written into the result's block. -/
theorem res_two {x : Int} {w w1 w2 : World} {B : Nat} (k : Keep (fun _ => False) w w1) (hB : w.heap.size ≤ B) (hB1 : B < w1.heap.size) {p q : Value} (hb : w1.heap[B]? = some (.cells #[p, q] 24 (0, 0))) {e : Ending} (h : ResPost x w1 e w2) :
    ∃ (neg : Bool) (A : Option Addr) (n c : Nat) (f : Int), e = .returned (.tuple #[numArg neg A n c, .int .i64 f]) ∧
      w2.cell? ⟨B, 0, none⟩ = some p ∧ w2.cell? ⟨B, 1, none⟩ = some q ∧ w2.frozen? ⟨B, 0, none⟩ = false ∧ w2.frozen? ⟨B, 1, none⟩ = false ∧
      ((w2.setCell ⟨B, 0, none⟩ (.bool neg)).setCell ⟨B, 1, none⟩ (.slice A n c)).cell? ⟨B, 0, none⟩ = some (.bool neg) ∧
      ((w2.setCell ⟨B, 0, none⟩ (.bool neg)).setCell ⟨B, 1, none⟩ (.slice A n c)).cell? ⟨B, 1, none⟩ = some (.slice A n c) ∧
      ResPost x w (.returned (.tuple #[numArg neg A n c, .int .i64 f])) ((w2.setCell ⟨B, 0, none⟩ (.bool neg)).setCell ⟨B, 1, none⟩ (.slice A n c)) := by
  obtain ⟨k2, h⟩ := h
  have hb2 := k2.heap hb (by simp)
  have c0 : w2.cell? ⟨B, 0, none⟩ = some p := by rw [cell_of_row w2 _ _ _ _ _ hb2]; rfl
  have c1 : w2.cell? ⟨B, 1, none⟩ = some q := by rw [cell_of_row w2 _ _ _ _ _ hb2]; rfl
  have f0 : w2.frozen? ⟨B, 0, none⟩ = false := by simp [World.frozen?, hb2]
  have f1 : w2.frozen? ⟨B, 1, none⟩ = false := by simp [World.frozen?, hb2]
  rcases h with ⟨hn, rfl⟩ | ⟨A, n, c, hf, rfl, own⟩
  · obtain ⟨e0, e1⟩ := two_cells hb2 (.bool false) (.slice none 0 0)
    exact ⟨false, none, 0, 0, 6, rfl, c0, c1, f0, f1, e0, e1, two_keep (k.trans k2) hB _ _, .inl ⟨hn, rfl⟩⟩
  · obtain ⟨e0, e1⟩ := two_cells hb2 (.bool (decide (x < 0))) (.slice A n c)
    exact ⟨_, A, n, c, 0, rfl, c0, c1, f0, f1, e0, e1, two_keep (k.trans k2) hB _ _, .inr ⟨A, n, c, hf, rfl, (two_own own hB1 _ _).mono k.size⟩⟩
set_option maxRecDepth 100000 in
set_option maxHeartbeats 1000000 in
theorem norm_any (neg : Bool) (A : Option Addr) (n c : Nat) (l : List Nat) (w : World) (h : LimbsAt w A n c l) :
    Calls Tryz.prog 50 #[numArg neg A n c] w (ResPost (sval neg l) w) := by
  have K : Keep (fun _ => False) w ((w.alloc (.cells #[.bool neg, .slice A n c] 24)).alloc (.cells #[.bool false, .slice none 0 0] 24)) := ((Keep.refl _ _).alloc _).alloc _
  have h1 := h.keep0 K
  have hb : ((w.alloc (.cells #[.bool neg, .slice A n c] 24)).alloc (.cells #[.bool false, .slice none 0 0] 24)).heap[w.heap.size + 1]? = some (.cells #[.bool false, .slice none 0 0] 24 (0, 0)) := by
    have := heap_alloc_new (w.alloc (.cells #[.bool neg, .slice A n c] 24)) (.cells #[.bool false, .slice none 0 0] 24)
    rwa [World.size_alloc] at this
  have hz : w.heap.size + 1 < ((w.alloc (.cells #[.bool neg, .slice A n c] 24)).alloc (.cells #[.bool false, .slice none 0 0] 24)).heap.size := by simp
  have HR := Lib.hid (fun (e : Ending) (w2 : World) => res_two (x := sval neg l) (e := e) (w2 := w2) K (Nat.le_succ _) hz hb)
  clear hb hz h K
  go_enter Tryz.func50, Tryz.ntmps50
  go_wp2_with fail
  refine (made_any neg A n c l _ h1).mono ?_
  intro e w2 hres
  obtain ⟨ng, A2, n2, c2, f, rfl, c0, c1, f0, f1, e0, e1, P⟩ := HR.out _ _ hres
  have HP := Lib.hid P
  have HE := Lib.hid (And.intro e0 e1)
  clear hres P h1 e0 e1
  go_wp2_with fail
  refine bodyPost_ret (v := .tuple #[numArg ng A2 n2 c2, .int .i64 f]) ?_ rfl HP.out
  obtain ⟨e0, e1⟩ := HE.out
  simp [results, Tryz.results50, go_sem, e0, e1]
open Go.RowKit
open Go.RowKit
/-- Are two numbers the same, limb by limb? -/
def sameB (neg : Bool) (l : List Nat) (neg' : Bool) (l' : List Nat) : Bool := decide (neg = neg' ∧ l = l')
theorem list_ext {l l' : List Nat} (hl : l.length = l'.length) (h : ∀ j, j < l.length → l.getD j 0 = l'.getD j 0) : l = l' := by
  refine List.ext_getElem hl fun j h1 h2 => ?_
  have := h j h1
  rw [List.getD_eq_getElem?_getD, List.getD_eq_getElem?_getD, List.getElem?_eq_getElem h1, List.getElem?_eq_getElem h2] at this
  exact this
set_option maxRecDepth 100000 in
set_option maxHeartbeats 2000000 in
theorem same_any (neg : Bool) (A : Option Addr) (n c : Nat) (l : List Nat) (neg' : Bool) (A' : Option Addr) (n' c' : Nat) (l' : List Nat) (w : World) (h : LimbsAt w A n c l) (h' : LimbsAt w A' n' c' l') :
    Calls Tryz.prog 20 #[numArg neg A n c, numArg neg' A' n' c'] w (BoolPost (sameB neg l neg' l') w) := by
  have K : Keep (fun _ => False) w ((w.alloc (.cells #[.bool neg, .slice A n c] 24)).alloc (.cells #[.bool neg', .slice A' n' c'] 24)) := ((Keep.refl _ _).alloc _).alloc _
  have hb1 : ((w.alloc (.cells #[.bool neg, .slice A n c] 24)).alloc (.cells #[.bool neg', .slice A' n' c'] 24)).heap[w.heap.size]? = some (.cells #[.bool neg, .slice A n c] 24 (0, 0)) := by
    rw [Below.heap_alloc _ _ _ (by simp)]; exact heap_alloc_new w _
  have hb2 : ((w.alloc (.cells #[.bool neg, .slice A n c] 24)).alloc (.cells #[.bool neg', .slice A' n' c'] 24)).heap[w.heap.size + 1]? = some (.cells #[.bool neg', .slice A' n' c'] 24 (0, 0)) := by
    have := heap_alloc_new (w.alloc (.cells #[.bool neg, .slice A n c] 24)) (.cells #[.bool neg', .slice A' n' c'] 24)
    rwa [World.size_alloc] at this
  have HH := Lib.hid (h.keep0 K)
  have HH' := Lib.hid (h'.keep0 K)
  have hlen := Lib.hid h.len
  have hlen' := Lib.hid h'.len
  have hm := h.max
  have hm' := h'.max
  clear h h'
  by_cases hneg : neg = neg'
  · subst hneg
    by_cases hn : n = n'
    · subst hn
      go_enter Tryz.func20, Tryz.ntmps20
      go_wp2_with fail
      generalize w.heap.size = Ba at hb1 hb2 ⊢
      generalize (w.alloc (.cells #[.bool neg, .slice A n c] 24)).alloc (.cells #[.bool neg, .slice A' n c'] 24) = w1 at K hb1 hb2 HH HH' ⊢
      have HC := Lib.hid (fun (w' : World) (K' : Keep (fun _ => False) w1 w') => (show w'.cell? ⟨Ba, 0, none⟩ = some (.bool neg) ∧ w'.cell? ⟨Ba, 1, none⟩ = some (.slice A n c) ∧ w'.cell? ⟨Ba + 1, 0, none⟩ = some (.bool neg) ∧ w'.cell? ⟨Ba + 1, 1, none⟩ = some (.slice A' n c') from by
        have g1 := K'.heap hb1 (by simp)
        have g2 := K'.heap hb2 (by simp)
        refine ⟨?_, ?_, ?_, ?_⟩
        · rw [cell_of_row w' _ _ _ _ _ g1]; rfl
        · rw [cell_of_row w' _ _ _ _ _ g1]; rfl
        · rw [cell_of_row w' _ _ _ _ _ g2]; rfl
        · rw [cell_of_row w' _ _ _ _ _ g2]; rfl))
      have HK := Lib.hid K
      clear hb1 hb2 K
      obtain ⟨c0, c1, c2, c3⟩ := HC.out _ (Keep.refl _ _)
      go_loopw [5] (fun iv wr => ∃ k : Nat, k ≤ n ∧ iv = .int .i64 (k : Int) ∧ (∀ j, j < k → l.getD j 0 = l'.getD j 0) ∧ Keep (fun _ => False) w1 wr) (fun iv _ => (n - (intOf iv).toNat))
      case atStart => exact ⟨0, Nat.zero_le _, rfl, fun j h1 => by omega, Keep.refl _ _⟩
      case round =>
        obtain ⟨k, hk, rfl, he, KW⟩ := hrel
        have HE := Lib.hid he
        clear he c0 c1 c2 c3
        obtain ⟨c0, c1, c2, c3⟩ := HC.out _ KW
        by_cases hkn : k < n
        · obtain ⟨b1, o1, rfl, hb1, q1⟩ := (HH.out.row.keep0 KW).2 k hkn
          obtain ⟨b2, o2, rfl, hb2, q2⟩ := (HH'.out.row.keep0 KW).2 k hkn
          obtain ⟨x, hx⟩ : ∃ x, x = l.getD k 0 := ⟨_, rfl⟩
          obtain ⟨y, hy⟩ : ∃ y, y = l'.getD k 0 := ⟨_, rfl⟩
          rw [← hx] at q1
          rw [← hy] at q2
          have HX := Lib.hid hx
          have HY := Lib.hid hy
          have i0 : (0 : Int) ≤ (k : Int) := by omega
          have i1 : (k : Int) < (n : Int) := by omega
          by_cases hxy : x = y
          · subst hxy
            clear hx hy
            go_wp2_with fail
            go_quiet (fail)
            go_wp2_with fail
            go_roundw
            case rel => exact ⟨k + 1, by omega, by go_num, fun j h1 => by
              by_cases e : j = k
              · rw [e, ← HX.out, ← HY.out]
              · exact HE.out j (by omega), KW.drewN _⟩
            case measure => simp [intOf]; omega
          · have hb : ((x : Int) != (y : Int)) = true := by
              rw [bne_iff_ne]; omega
            have hf : sameB neg l neg l' = false := decide_eq_false (fun e => hxy (by rw [hx, hy, e.2]))
            have HF := Lib.hid hf
            clear hx hy hxy hf
            go_wp2_with fail
            go_quiet (fail)
            go_wp2_with fail
            go_ret
            exact ⟨by rw [HF.out]; rfl, (HK.out.trans KW).drewN _⟩
        · have hl : l = l' := list_ext (by rw [hlen.out, hlen'.out]) (fun j hj => HE.out j (by rw [hlen.out] at hj; omega))
          have hd : decide ((k : Int) < (n : Int)) = false := decide_eq_false (by omega)
          have HL := Lib.hid (show sameB neg l neg l' = true from decide_eq_true ⟨rfl, hl⟩)
          clear hl
          go_wp2_with fail
          go_ret
          exact ⟨by rw [HL.out]; rfl, HK.out.trans KW⟩
    · have hq : ((n : Int) != (n' : Int)) = true := by rw [bne_iff_ne]; omega
      have HF := Lib.hid (show sameB neg l neg l' = false from decide_eq_false (fun e => hn (by rw [← hlen.out, ← hlen'.out, e.2])))
      have HK := Lib.hid K
      clear hn hb1 hb2 K
      go_enter Tryz.func20, Tryz.ntmps20
      go_wp2_with fail
      go_ret
      exact ⟨by rw [HF.out]; rfl, HK.out⟩
  · have HF := Lib.hid (show sameB neg l neg' l' = false from decide_eq_false (fun e => hneg e.1))
    have HK := Lib.hid K
    have hbn : (neg != neg') = true := by simpa using hneg
    have hbn2 : (!neg == neg') = true := by cases neg <;> cases neg' <;> simp at hneg ⊢
    clear hneg hb1 hb2 K
    go_enter Tryz.func20, Tryz.ntmps20
    go_wp2_with fail
    go_ret
    exact ⟨by rw [HF.out]; rfl, HK.out⟩
open Go.RowKit
/-- The row when k limbs of n are made. -/
def rowPart (F : Nat → Nat → Nat) (n k : Nat) : List Nat := (List.range n).map fun i => if i < k then F i (rowC BB F i) % BB else 0
theorem rowPart_all (F : Nat → Nat → Nat) (n : Nat) : rowPart F n n = rowL BB F n := by
  unfold rowPart rowL
  refine List.map_congr_left fun i hi => ?_
  rw [if_pos (List.mem_range.1 hi)]
theorem rowPart_set (F : Nat → Nat → Nat) (n k : Nat) (hk : k < n) : (rowPart F n k).set k (F k (rowC BB F k) % BB) = rowPart F n (k + 1) := by
  refine List.ext_getElem? fun i => ?_
  rw [List.getElem?_set]
  unfold rowPart
  by_cases hi : i < n
  · by_cases e : k = i
    · subst e
      simp [hi]
    · rw [if_neg e, List.getElem?_map, List.getElem?_map, List.getElem?_range hi]
      simp only [Option.map_some]
      by_cases h : i < k
      · rw [if_pos h, if_pos (by omega)]
      · rw [if_neg h, if_neg (by omega)]
  · rw [List.getElem?_eq_none (by simp; omega), if_neg (by omega), List.getElem?_eq_none (by simp; omega)]
theorem made_zero (n : Nat) : (madeCells #[Value.int .u32 0] n).toList = (List.replicate n 0).map fun x : Nat => Value.int .u32 (x : Int) := by
  refine List.ext_getElem? fun i => ?_
  by_cases hi : i < n
  · simp [madeCells, hi, Nat.mod_one]
  · simp [madeCells, hi]
theorem rowPart_zero (F : Nat → Nat → Nat) (n : Nat) : rowPart F n 0 = List.replicate n 0 := by
  unfold rowPart
  simp only [Nat.not_lt_zero, if_false]
  rw [List.map_const', List.length_range]
/-- What make gives. -/
theorem make_own (w : World) (n : Nat) (hn : n ≤ 100000) : OwnR 39 .u32 (w.alloc (.cells (madeCells #[Value.int .u32 0] n) 39)) w.heap.size (some ⟨w.heap.size, 0, none⟩) n n (List.replicate n 0) := by
  refine ⟨by simp, .inr ⟨w.heap.size, n, madeCells #[Value.int .u32 0] n, rfl, Nat.le_refl _, heap_alloc_new _ _, Nat.le_refl _, by unfold maxLen; omega, by simp [size_madeCells], ?_⟩⟩
  rw [made_zero, List.take_of_length_le (by simp)]
theorem make_run (n : Nat) (hn : n ≤ 100000) (W : World) : (Instr.makeSlice 22 (.int .i64 (n : Int)) (.int .i64 (n : Int))).run Tryz.prog W = .ok (.slice (some ⟨W.heap.size, 0, none⟩) n n) (W.alloc (.cells (madeCells #[Value.int .u32 0] n) 39)) := by
  obtain ⟨i0, hi, hz0, hz1, hz2⟩ := info_parts info63
  have := run_make (P := Tryz.prog) W 22 39 i0 _ Tryz.underlying22 hi hz0 .i64 .i64 (n : Int) (n : Int) (by omega) (by omega) (by rw [hz2]; omega) (by omega)
  rw [hz1] at this
  simpa [Value.cells] using this
set_option maxRecDepth 100000 in
set_option maxHeartbeats 2000000 in
theorem row96 (n b1 b2 : Nat) (F : Nat → Nat → Nat) (w : World) (hn : n ≤ 100000) (hF : ∀ i, i < n → F i (rowC BB F i) ≤ 18446744073709551615)
    (hcall : ∀ i w', i < n → Keep (fun _ => False) w w' → Calls Tryz.prog 159 #[.int .i64 (i : Int), .int .u64 (rowC BB F i : Nat), .pointer (some ⟨b1, 0, none⟩), .pointer (some ⟨b2, 0, none⟩)] w' fun e w'' => e = .returned (.int .u64 (F i (rowC BB F i) : Nat)) ∧ Keep (fun _ => False) w' w'') :
    Calls Tryz.prog 113 #[.int .i64 (n : Int), .func (.func 159) #[] #[.pointer (some ⟨b1, 0, none⟩), .pointer (some ⟨b2, 0, none⟩)]] w (OwnPost (rowL BB F n) w) := by
  have hmk := fun W : World => make_run n hn W
  have HF := Lib.hid hF
  have HC := Lib.hid hcall
  have own := make_own w n hn
  have K : Keep (fun _ => False) w (w.alloc (.cells (madeCells #[Value.int .u32 0] n) 39)) := (Keep.refl _ _).alloc _
  rw [← rowPart_zero F n] at own
  clear hF hcall
  go_enter Tryz.func113, Tryz.ntmps113
  go_wp2_with fail
  clear hmk
  generalize hB : w.heap.size = B at own ⊢
  generalize w.alloc (.cells (madeCells #[Value.int .u32 0] n) 39) = w1 at own K ⊢
  have HB := Lib.hid hB
  clear hB
  go_loopw [6, 7, 8, 12] (fun cv _ _ iv wr => ∃ k : Nat, k ≤ n ∧ iv = .int .i64 k ∧ cv = .int .u64 (rowC BB F k : Nat) ∧ OwnR 39 .u32 wr B (some ⟨B, 0, none⟩) n n (rowPart F n k) ∧ Keep (fun _ => False) w wr) (fun _ _ _ iv _ => n - (intOf iv).toNat)
  case atStart => exact ⟨0, Nat.zero_le _, rfl, rfl, own, K⟩
  case round =>
    clear own K
    obtain ⟨k, hk, rfl, rfl, own, K⟩ := hrel
    by_cases hlt : k < n
    · have hf := HF.out k hlt
      have OWN := Lib.hid own
      clear own
      go_wp2_with fail
      refine (HC.out k _ hlt K).mono ?_
      rintro e w2 ⟨rfl, k2⟩
      have own2 := OWN.out.keep0 k2
      have K2 := K.trans k2
      obtain ⟨b, off, e1, hb, hc⟩ := own2.row.2 k hlt
      injection e1 with e1
      injection e1 with e1a e1b _
      subst e1a e1b
      rw [Nat.zero_add] at hc
      have hfz := own2.frozen _ _ rfl k
      generalize (rowPart F n k).getD k 0 = y at hc
      have OWN2 := Lib.hid own2
      have hsuc : F k (rowC BB F k) / BB = rowC BB F (k + 1) := rfl
      have hset := rowPart_set F n k hlt
      have HSUC := Lib.hid hsuc
      have HSET := Lib.hid hset
      obtain ⟨x, hx⟩ : ∃ x, x = F k (rowC BB F k) := ⟨_, rfl⟩
      rw [← hx] at hf HSUC HSET ⊢
      clear hx hsuc hset own2 hb K OWN k2
      have hd : (x : Int) / 4294967296 = ((rowC BB F (k + 1) : Nat) : Int) := by rw [← HSUC.out]; unfold BB; omega
      have hm : (x : Int) % 4294967296 = ((x % BB : Nat) : Int) := by unfold BB; omega
      have HD := Lib.hid hd
      have HM := Lib.hid hm
      clear hd hm
      go_wp2_with fail
      go_roundw
      case rel => exact ⟨k + 1, by omega, by go_num, by rw [HD.out], by rw [HM.out, ← HSET.out]; exact OWN2.out.set hlt _, K2.setCell (p := ⟨B, k, none⟩) (.inr (by rw [HB.out]; exact Nat.le_refl _)) _⟩
      case measure => simp [intOf]; omega
    · obtain rfl : k = n := by omega
      have OWN := Lib.hid own
      clear own
      go_wp2_with fail
      go_ret
      have o := OWN.out
      rw [rowPart_all] at o
      exact ⟨some ⟨B, 0, none⟩, k, k, rfl, o.mono (by rw [HB.out]; exact Nat.le_refl _), K⟩
set_option maxRecDepth 100000 in
set_option maxHeartbeats 2000000 in
theorem row95 (n b1 b2 : Nat) (F : Nat → Nat → Nat) (w : World) (hn : n ≤ 100000) (hF : ∀ i, i < n → F i (rowC BB F i) ≤ 18446744073709551615)
    (hcall : ∀ i w', i < n → Keep (fun _ => False) w w' → Calls Tryz.prog 160 #[.int .i64 (i : Int), .int .u64 (rowC BB F i : Nat), .pointer (some ⟨b1, 0, none⟩), .pointer (some ⟨b2, 0, none⟩)] w' fun e w'' => e = .returned (.int .u64 (F i (rowC BB F i) : Nat)) ∧ Keep (fun _ => False) w' w'') :
    Calls Tryz.prog 113 #[.int .i64 (n : Int), .func (.func 160) #[] #[.pointer (some ⟨b1, 0, none⟩), .pointer (some ⟨b2, 0, none⟩)]] w (OwnPost (rowL BB F n) w) := by
  have hmk := fun W : World => make_run n hn W
  have HF := Lib.hid hF
  have HC := Lib.hid hcall
  have own := make_own w n hn
  have K : Keep (fun _ => False) w (w.alloc (.cells (madeCells #[Value.int .u32 0] n) 39)) := (Keep.refl _ _).alloc _
  rw [← rowPart_zero F n] at own
  clear hF hcall
  go_enter Tryz.func113, Tryz.ntmps113
  go_wp2_with fail
  clear hmk
  generalize hB : w.heap.size = B at own ⊢
  generalize w.alloc (.cells (madeCells #[Value.int .u32 0] n) 39) = w1 at own K ⊢
  have HB := Lib.hid hB
  clear hB
  go_loopw [6, 7, 8, 12] (fun cv _ _ iv wr => ∃ k : Nat, k ≤ n ∧ iv = .int .i64 k ∧ cv = .int .u64 (rowC BB F k : Nat) ∧ OwnR 39 .u32 wr B (some ⟨B, 0, none⟩) n n (rowPart F n k) ∧ Keep (fun _ => False) w wr) (fun _ _ _ iv _ => n - (intOf iv).toNat)
  case atStart => exact ⟨0, Nat.zero_le _, rfl, rfl, own, K⟩
  case round =>
    clear own K
    obtain ⟨k, hk, rfl, rfl, own, K⟩ := hrel
    by_cases hlt : k < n
    · have hf := HF.out k hlt
      have OWN := Lib.hid own
      clear own
      go_wp2_with fail
      refine (HC.out k _ hlt K).mono ?_
      rintro e w2 ⟨rfl, k2⟩
      have own2 := OWN.out.keep0 k2
      have K2 := K.trans k2
      obtain ⟨b, off, e1, hb, hc⟩ := own2.row.2 k hlt
      injection e1 with e1
      injection e1 with e1a e1b _
      subst e1a e1b
      rw [Nat.zero_add] at hc
      have hfz := own2.frozen _ _ rfl k
      generalize (rowPart F n k).getD k 0 = y at hc
      have OWN2 := Lib.hid own2
      have hsuc : F k (rowC BB F k) / BB = rowC BB F (k + 1) := rfl
      have hset := rowPart_set F n k hlt
      have HSUC := Lib.hid hsuc
      have HSET := Lib.hid hset
      obtain ⟨x, hx⟩ : ∃ x, x = F k (rowC BB F k) := ⟨_, rfl⟩
      rw [← hx] at hf HSUC HSET ⊢
      clear hx hsuc hset own2 hb K OWN k2
      have hd : (x : Int) / 4294967296 = ((rowC BB F (k + 1) : Nat) : Int) := by rw [← HSUC.out]; unfold BB; omega
      have hm : (x : Int) % 4294967296 = ((x % BB : Nat) : Int) := by unfold BB; omega
      have HD := Lib.hid hd
      have HM := Lib.hid hm
      clear hd hm
      go_wp2_with fail
      go_roundw
      case rel => exact ⟨k + 1, by omega, by go_num, by rw [HD.out], by rw [HM.out, ← HSET.out]; exact OWN2.out.set hlt _, K2.setCell (p := ⟨B, k, none⟩) (.inr (by rw [HB.out]; exact Nat.le_refl _)) _⟩
      case measure => simp [intOf]; omega
    · obtain rfl : k = n := by omega
      have OWN := Lib.hid own
      clear own
      go_wp2_with fail
      go_ret
      have o := OWN.out
      rw [rowPart_all] at o
      exact ⟨some ⟨B, 0, none⟩, k, k, rfl, o.mono (by rw [HB.out]; exact Nat.le_refl _), K⟩
set_option maxRecDepth 100000 in
set_option maxHeartbeats 2000000 in
theorem row94 (n b1 b2 : Nat) (F : Nat → Nat → Nat) (w : World) (hn : n ≤ 100000) (hF : ∀ i, i < n → F i (rowC BB F i) ≤ 18446744073709551615)
    (hcall : ∀ i w', i < n → Keep (fun _ => False) w w' → Calls Tryz.prog 161 #[.int .i64 (i : Int), .int .u64 (rowC BB F i : Nat), .pointer (some ⟨b1, 0, none⟩), .pointer (some ⟨b2, 0, none⟩)] w' fun e w'' => e = .returned (.int .u64 (F i (rowC BB F i) : Nat)) ∧ Keep (fun _ => False) w' w'') :
    Calls Tryz.prog 113 #[.int .i64 (n : Int), .func (.func 161) #[] #[.pointer (some ⟨b1, 0, none⟩), .pointer (some ⟨b2, 0, none⟩)]] w (OwnPost (rowL BB F n) w) := by
  have hmk := fun W : World => make_run n hn W
  have HF := Lib.hid hF
  have HC := Lib.hid hcall
  have own := make_own w n hn
  have K : Keep (fun _ => False) w (w.alloc (.cells (madeCells #[Value.int .u32 0] n) 39)) := (Keep.refl _ _).alloc _
  rw [← rowPart_zero F n] at own
  clear hF hcall
  go_enter Tryz.func113, Tryz.ntmps113
  go_wp2_with fail
  clear hmk
  generalize hB : w.heap.size = B at own ⊢
  generalize w.alloc (.cells (madeCells #[Value.int .u32 0] n) 39) = w1 at own K ⊢
  have HB := Lib.hid hB
  clear hB
  go_loopw [6, 7, 8, 12] (fun cv _ _ iv wr => ∃ k : Nat, k ≤ n ∧ iv = .int .i64 k ∧ cv = .int .u64 (rowC BB F k : Nat) ∧ OwnR 39 .u32 wr B (some ⟨B, 0, none⟩) n n (rowPart F n k) ∧ Keep (fun _ => False) w wr) (fun _ _ _ iv _ => n - (intOf iv).toNat)
  case atStart => exact ⟨0, Nat.zero_le _, rfl, rfl, own, K⟩
  case round =>
    clear own K
    obtain ⟨k, hk, rfl, rfl, own, K⟩ := hrel
    by_cases hlt : k < n
    · have hf := HF.out k hlt
      have OWN := Lib.hid own
      clear own
      go_wp2_with fail
      refine (HC.out k _ hlt K).mono ?_
      rintro e w2 ⟨rfl, k2⟩
      have own2 := OWN.out.keep0 k2
      have K2 := K.trans k2
      obtain ⟨b, off, e1, hb, hc⟩ := own2.row.2 k hlt
      injection e1 with e1
      injection e1 with e1a e1b _
      subst e1a e1b
      rw [Nat.zero_add] at hc
      have hfz := own2.frozen _ _ rfl k
      generalize (rowPart F n k).getD k 0 = y at hc
      have OWN2 := Lib.hid own2
      have hsuc : F k (rowC BB F k) / BB = rowC BB F (k + 1) := rfl
      have hset := rowPart_set F n k hlt
      have HSUC := Lib.hid hsuc
      have HSET := Lib.hid hset
      obtain ⟨x, hx⟩ : ∃ x, x = F k (rowC BB F k) := ⟨_, rfl⟩
      rw [← hx] at hf HSUC HSET ⊢
      clear hx hsuc hset own2 hb K OWN k2
      have hd : (x : Int) / 4294967296 = ((rowC BB F (k + 1) : Nat) : Int) := by rw [← HSUC.out]; unfold BB; omega
      have hm : (x : Int) % 4294967296 = ((x % BB : Nat) : Int) := by unfold BB; omega
      have HD := Lib.hid hd
      have HM := Lib.hid hm
      clear hd hm
      go_wp2_with fail
      go_roundw
      case rel => exact ⟨k + 1, by omega, by go_num, by rw [HD.out], by rw [HM.out, ← HSET.out]; exact OWN2.out.set hlt _, K2.setCell (p := ⟨B, k, none⟩) (.inr (by rw [HB.out]; exact Nat.le_refl _)) _⟩
      case measure => simp [intOf]; omega
    · obtain rfl : k = n := by omega
      have OWN := Lib.hid own
      clear own
      go_wp2_with fail
      go_ret
      have o := OWN.out
      rw [rowPart_all] at o
      exact ⟨some ⟨B, 0, none⟩, k, k, rfl, o.mono (by rw [HB.out]; exact Nat.le_refl _), K⟩
set_option maxRecDepth 100000 in
set_option maxHeartbeats 2000000 in
theorem row66 (n b1 b2 : Nat) (F : Nat → Nat → Nat) (w : World) (hn : n ≤ 100000) (hF : ∀ i, i < n → F i (rowC BB F i) ≤ 18446744073709551615)
    (hcall : ∀ i w', i < n → Keep (fun _ => False) w w' → Calls Tryz.prog 114 #[.int .i64 (i : Int), .int .u64 (rowC BB F i : Nat), .pointer (some ⟨b1, 0, none⟩), .pointer (some ⟨b2, 0, none⟩)] w' fun e w'' => e = .returned (.int .u64 (F i (rowC BB F i) : Nat)) ∧ Keep (fun _ => False) w' w'') :
    Calls Tryz.prog 113 #[.int .i64 (n : Int), .func (.func 114) #[] #[.pointer (some ⟨b1, 0, none⟩), .pointer (some ⟨b2, 0, none⟩)]] w (OwnPost (rowL BB F n) w) := by
  have hmk := fun W : World => make_run n hn W
  have HF := Lib.hid hF
  have HC := Lib.hid hcall
  have own := make_own w n hn
  have K : Keep (fun _ => False) w (w.alloc (.cells (madeCells #[Value.int .u32 0] n) 39)) := (Keep.refl _ _).alloc _
  rw [← rowPart_zero F n] at own
  clear hF hcall
  go_enter Tryz.func113, Tryz.ntmps113
  go_wp2_with fail
  clear hmk
  generalize hB : w.heap.size = B at own ⊢
  generalize w.alloc (.cells (madeCells #[Value.int .u32 0] n) 39) = w1 at own K ⊢
  have HB := Lib.hid hB
  clear hB
  go_loopw [6, 7, 8, 12] (fun cv _ _ iv wr => ∃ k : Nat, k ≤ n ∧ iv = .int .i64 k ∧ cv = .int .u64 (rowC BB F k : Nat) ∧ OwnR 39 .u32 wr B (some ⟨B, 0, none⟩) n n (rowPart F n k) ∧ Keep (fun _ => False) w wr) (fun _ _ _ iv _ => n - (intOf iv).toNat)
  case atStart => exact ⟨0, Nat.zero_le _, rfl, rfl, own, K⟩
  case round =>
    clear own K
    obtain ⟨k, hk, rfl, rfl, own, K⟩ := hrel
    by_cases hlt : k < n
    · have hf := HF.out k hlt
      have OWN := Lib.hid own
      clear own
      go_wp2_with fail
      refine (HC.out k _ hlt K).mono ?_
      rintro e w2 ⟨rfl, k2⟩
      have own2 := OWN.out.keep0 k2
      have K2 := K.trans k2
      obtain ⟨b, off, e1, hb, hc⟩ := own2.row.2 k hlt
      injection e1 with e1
      injection e1 with e1a e1b _
      subst e1a e1b
      rw [Nat.zero_add] at hc
      have hfz := own2.frozen _ _ rfl k
      generalize (rowPart F n k).getD k 0 = y at hc
      have OWN2 := Lib.hid own2
      have hsuc : F k (rowC BB F k) / BB = rowC BB F (k + 1) := rfl
      have hset := rowPart_set F n k hlt
      have HSUC := Lib.hid hsuc
      have HSET := Lib.hid hset
      obtain ⟨x, hx⟩ : ∃ x, x = F k (rowC BB F k) := ⟨_, rfl⟩
      rw [← hx] at hf HSUC HSET ⊢
      clear hx hsuc hset own2 hb K OWN k2
      have hd : (x : Int) / 4294967296 = ((rowC BB F (k + 1) : Nat) : Int) := by rw [← HSUC.out]; unfold BB; omega
      have hm : (x : Int) % 4294967296 = ((x % BB : Nat) : Int) := by unfold BB; omega
      have HD := Lib.hid hd
      have HM := Lib.hid hm
      clear hd hm
      go_wp2_with fail
      go_roundw
      case rel => exact ⟨k + 1, by omega, by go_num, by rw [HD.out], by rw [HM.out, ← HSET.out]; exact OWN2.out.set hlt _, K2.setCell (p := ⟨B, k, none⟩) (.inr (by rw [HB.out]; exact Nat.le_refl _)) _⟩
      case measure => simp [intOf]; omega
    · obtain rfl : k = n := by omega
      have OWN := Lib.hid own
      clear own
      go_wp2_with fail
      go_ret
      have o := OWN.out
      rw [rowPart_all] at o
      exact ⟨some ⟨B, 0, none⟩, k, k, rfl, o.mono (by rw [HB.out]; exact Nat.le_refl _), K⟩
/-- One digit less another one, and what was borrowed. -/
def lessF (a b : List Nat) (i c : Nat) : Nat := (a.getD i 0 + (BB * BB - b.getD i 0 - c % 2)) % (BB * BB)
theorem BB_sq : BB * BB = 18446744073709551616 := by unfold BB; rfl
theorem less_step {x y bw : Nat} (hx : x < BB) (hy : y < BB) (hb : bw ≤ 1) :
    (y + bw ≤ x ∧ (x + (BB * BB - y - bw)) % (BB * BB) = x - y - bw) ∨ (x < y + bw ∧ (x + (BB * BB - y - bw)) % (BB * BB) = BB * BB - (y + bw - x)) := by
  rw [BB_sq]
  unfold BB at hx hy
  omega
theorem less_inv {a b : List Nat} (ha : Low BB a) (hb : Low BB b) : ∀ i, val BB (rowL BB (lessF a b) i) + val BB (b.take i) = val BB (a.take i) + BB ^ i * (rowC BB (lessF a b) i % 2) ∧ (rowC BB (lessF a b) i = 0 ∨ rowC BB (lessF a b) i = BB - 1)
  | 0 => by simp [rowL, rowC, val]
  | i + 1 => by
    obtain ⟨h1, h2⟩ := less_inv ha hb i
    have x := ha.getD (by have := BB2; omega) i
    have y := hb.getD (by have := BB2; omega) i
    have hbw : rowC BB (lessF a b) i % 2 ≤ 1 := by omega
    have hs := less_step x y hbw
    have hrow : val BB (rowL BB (lessF a b) (i + 1)) = val BB (rowL BB (lessF a b) i) + BB ^ i * (lessF a b i (rowC BB (lessF a b) i) % BB) := by
      rw [rowL_succ, val_append, rowL_len]
      simp [val]
    have hc : rowC BB (lessF a b) (i + 1) = lessF a b i (rowC BB (lessF a b) i) / BB := rfl
    have hF : lessF a b i (rowC BB (lessF a b) i) = (a.getD i 0 + (BB * BB - b.getD i 0 - rowC BB (lessF a b) i % 2)) % (BB * BB) := rfl
    rw [← hF] at hs
    generalize lessF a b i (rowC BB (lessF a b) i) = f at hrow hc hF hs
    generalize rowC BB (lessF a b) i % 2 = bw at h1 hbw hs
    rw [hc, hrow, val_take_succ, val_take_succ, Nat.pow_succ]
    rcases hs with ⟨hle, rfl⟩ | ⟨hlt, rfl⟩
    · have e1 : (a.getD i 0 - b.getD i 0 - bw) % BB = a.getD i 0 - b.getD i 0 - bw := Nat.mod_eq_of_lt (by omega)
      have e2 : (a.getD i 0 - b.getD i 0 - bw) / BB = 0 := Nat.div_eq_of_lt (by omega)
      rw [e1, e2]
      refine ⟨?_, .inl rfl⟩
      have e3 : BB ^ i * a.getD i 0 = BB ^ i * (a.getD i 0 - b.getD i 0 - bw) + BB ^ i * b.getD i 0 + BB ^ i * bw := by
        rw [← Nat.mul_add, ← Nat.mul_add]
        congr 1
        omega
      simp only [Nat.zero_mod, Nat.mul_zero]
      omega
    · obtain ⟨d, hd⟩ : ∃ d, d = b.getD i 0 + bw - a.getD i 0 := ⟨_, rfl⟩
      rw [← hd]
      have hd1 : 1 ≤ d := by omega
      have hdB : d ≤ BB := by omega
      have e2 : (BB * BB - d) / BB = BB - 1 := by
        have := BB2
        rw [BB_sq]
        unfold BB at hdB ⊢
        omega
      have e1 : (BB * BB - d) % BB = BB - d := by
        by_cases h : d = BB
        · rw [h, ← Nat.mul_sub_one, Nat.mul_mod_right, Nat.sub_self]
        · rw [BB_sq]
          unfold BB at hdB h ⊢
          omega
      have e4 : (BB - 1) % 2 = 1 := by unfold BB; rfl
      rw [e1, e2, e4]
      refine ⟨?_, .inr rfl⟩
      have e3 : BB ^ i * (BB - d) + BB ^ i * b.getD i 0 + BB ^ i * bw = BB ^ i * a.getD i 0 + BB ^ i * BB := by
        rw [← Nat.mul_add, ← Nat.mul_add, ← Nat.mul_add]
        congr 1
        omega
      rw [Nat.mul_one]
      omega
theorem less_bound (a b : List Nat) (i c : Nat) : lessF a b i c ≤ 18446744073709551615 := by
  have : lessF a b i c < BB * BB := Nat.mod_lt _ (by unfold BB; omega)
  rw [BB_sq] at this
  omega
theorem val_take_of_le {b : List Nat} (n : Nat) (h : val BB b < BB ^ n) : val BB (b.take n) = val BB b := by
  rcases Nat.le_total b.length n with hl | hl
  · rw [List.take_of_length_le hl]
  · have e := val_take_drop BB b n
    rw [List.length_take, Nat.min_eq_left hl] at e
    rcases Nat.eq_zero_or_pos (val BB (b.drop n)) with h0 | h0
    · rw [h0] at e; omega
    · have : BB ^ n * 1 ≤ BB ^ n * val BB (b.drop n) := Nat.mul_le_mul_left _ h0
      omega
theorem less_val {a b : List Nat} (ha : Low BB a) (hb : Low BB b) (h : val BB b ≤ val BB a) : val BB (rowL BB (lessF a b) a.length) = val BB a - val BB b := by
  obtain ⟨h1, h2⟩ := less_inv ha hb a.length
  have hlt := val_lt ha
  have e := val_take_of_le (b := b) a.length (by omega)
  rw [e, List.take_length] at h1
  have hr := val_lt (rowL_low (B := BB) (by have := BB2; omega) (lessF a b) a.length)
  rw [rowL_len] at hr
  have : rowC BB (lessF a b) a.length % 2 = 0 := by
    rcases Nat.eq_zero_or_pos (rowC BB (lessF a b) a.length % 2) with h0 | h0
    · exact h0
    · have : BB ^ a.length * 1 ≤ BB ^ a.length * (rowC BB (lessF a b) a.length % 2) := Nat.mul_le_mul_left _ h0
      omega
  rw [this] at h1
  omega
open Go.RowKit
theorem wrap_u64_in {x : Int} (h0 : 0 ≤ x) (h1 : x ≤ 18446744073709551615) : IntKind.u64.wrap x = x := by
  rw [IntKind.wrap_u64]
  omega
theorem limb_quiet (A : Option Addr) (n c : Nat) (l : List Nat) (i x : Nat) (w : World) (h : LimbsAt w A n c l) (hi : i ≤ 1000000) (hx : x = l.getD i 0) (k : Nat) :
    Calls Tryz.prog 115 #[.slice A n c, .int .i64 (i : Int)] (w.drewN k) fun e w'' => e = .returned (.int .u64 (x : Int)) ∧ w'' = w.drewN k := by
  subst hx
  exact (limb_any A n c l i _ (h.keep0 ((Keep.refl _ _).drewN k)) hi).mono fun _ _ ⟨he, hw⟩ => ⟨he, hw.symm⟩
def U64Post (x : Nat) (w : World) (e : Ending) (w' : World) : Prop := e = .returned (.int .u64 (x : Int)) ∧ Keep (fun _ => False) w w'
set_option maxRecDepth 100000 in
set_option maxHeartbeats 800000 in
theorem clo96 (A : Option Addr) (n c : Nat) (l : List Nat) (A' : Option Addr) (n' c' : Nat) (l' : List Nat) (b1 b2 i cr : Nat) (w : World) (h : LimbsAt w A n c l) (h' : LimbsAt w A' n' c' l') (hi : i ≤ 1000000) (hc : cr ≤ 1)
    (c1 : w.cell? ⟨b1, 0, none⟩ = some (.slice A n c)) (c2 : w.cell? ⟨b2, 0, none⟩ = some (.slice A' n' c')) :
    Calls Tryz.prog 159 #[.int .i64 (i : Int), .int .u64 (cr : Int), .pointer (some ⟨b1, 0, none⟩), .pointer (some ⟨b2, 0, none⟩)] w (U64Post (plusF l l' i cr) w) := by
  have hx := low_cast h.low i
  have hy := low_cast h'.low i
  have E : ((plusF l l' i cr : Nat) : Int) = ((l.getD i 0 : Nat) : Int) + ((l'.getD i 0 : Nat) : Int) + (cr : Int) := by unfold plusF; omega
  have HE := Lib.hid E
  obtain ⟨x, hxx⟩ : ∃ x, x = l.getD i 0 := ⟨_, rfl⟩
  obtain ⟨y, hyy⟩ : ∃ y, y = l'.getD i 0 := ⟨_, rfl⟩
  have HL := Lib.hid (fun k => limb_quiet A n c l i x w h hi hxx k)
  have HL' := Lib.hid (fun k => limb_quiet A' n' c' l' i y w h' hi hyy k)
  rw [← hxx] at hx HE
  rw [← hyy] at hy HE
  have hw1 : IntKind.u64.wrap ((x : Int) + (y : Int)) = (x : Int) + (y : Int) := wrap_u64_in (by omega) (by omega)
  have hw2 : IntKind.u64.wrap ((x : Int) + (y : Int) + (cr : Int)) = (x : Int) + (y : Int) + (cr : Int) := wrap_u64_in (by omega) (by omega)
  clear hxx hyy E h h'
  go_enter Tryz.func159, Tryz.ntmps159
  go_wp2_with fail
  go_quiet ((go_at_call 115; first | with_reducible exact Calls.quiet_of_same (HL.out _) | with_reducible exact Calls.quiet_of_same (HL'.out _)))
  go_wp2_with fail
  go_ret
  exact ⟨by rw [HE.out]; rfl, (Keep.refl _ _).drewN _⟩
theorem and1 (c z : Nat) (hc : c ≤ 18446744073709551615) (hz : z = c % 2) : bits BinOp.and IntKind.u64 (c : Int) 1 = (z : Int) := by
  have h := bits_mask .u64 64 (by decide) (fun n h0 h1 => by rw [IntKind.wrap_u64]; omega) 1 (by decide) (c : Int) (by omega) (by omega)
  rw [hz]
  simpa using h
theorem less_wrap {x y z : Nat} (_hx : x ≤ 4294967295) (hy : y ≤ 4294967295) (hz : z ≤ 1) : IntKind.u64.wrap (IntKind.u64.wrap ((x : Int) - (y : Int)) - (z : Int)) = (((x + (BB * BB - y - z)) % (BB * BB) : Nat) : Int) := by
  rw [IntKind.wrap_u64, IntKind.wrap_u64, BB_sq]
  omega
set_option maxRecDepth 100000 in
set_option maxHeartbeats 800000 in
theorem clo95 (A : Option Addr) (n c : Nat) (l : List Nat) (A' : Option Addr) (n' c' : Nat) (l' : List Nat) (b1 b2 i cr : Nat) (w : World) (h : LimbsAt w A n c l) (h' : LimbsAt w A' n' c' l') (hi : i ≤ 1000000) (hc : cr ≤ 18446744073709551615)
    (c1 : w.cell? ⟨b1, 0, none⟩ = some (.slice A n c)) (c2 : w.cell? ⟨b2, 0, none⟩ = some (.slice A' n' c')) :
    Calls Tryz.prog 160 #[.int .i64 (i : Int), .int .u64 (cr : Int), .pointer (some ⟨b1, 0, none⟩), .pointer (some ⟨b2, 0, none⟩)] w (U64Post (lessF l l' i cr) w) := by
  have hx := low_cast h.low i
  have hy := low_cast h'.low i
  obtain ⟨x, hxx⟩ : ∃ x, x = l.getD i 0 := ⟨_, rfl⟩
  obtain ⟨y, hyy⟩ : ∃ y, y = l'.getD i 0 := ⟨_, rfl⟩
  obtain ⟨z, hz⟩ : ∃ z, z = cr % 2 := ⟨_, rfl⟩
  obtain ⟨f, hf⟩ : ∃ f, f = lessF l l' i cr := ⟨_, rfl⟩
  have HL := Lib.hid (fun k => limb_quiet A n c l i x w h hi hxx k)
  have HL' := Lib.hid (fun k => limb_quiet A' n' c' l' i y w h' hi hyy k)
  rw [← hxx] at hx
  rw [← hyy] at hy
  have hb := and1 cr z hc hz
  have hw : IntKind.u64.wrap (IntKind.u64.wrap ((x : Int) - (y : Int)) - (z : Int)) = (f : Int) := by
    rw [less_wrap (by omega) (by omega) (by omega), hf, hxx, hyy, hz]
    rfl
  rw [← hf]
  clear hxx hyy h h' hz hf hc
  go_enter Tryz.func160, Tryz.ntmps160
  go_wp2_with fail
  go_quiet ((go_at_call 115; first | with_reducible exact Calls.quiet_of_same (HL.out _) | with_reducible exact Calls.quiet_of_same (HL'.out _)))
  go_wp2_with fail
  go_ret
  exact ⟨by first | rfl | (rw [hw]; rfl), (Keep.refl _ _).drewN _⟩
theorem plus_le {l l' : List Nat} (h : Low BB l) (h' : Low BB l') (i : Nat) : plusF l l' i (rowC BB (plusF l l') i) ≤ 18446744073709551615 ∧ rowC BB (plusF l l') i ≤ 1 := by
  have h1 := (plus_inv BB2 h h' i).2
  have x := low_cast h i
  have y := low_cast h' i
  refine ⟨?_, h1⟩
  unfold plusF
  unfold plusF at h1
  omega
set_option maxRecDepth 100000 in
set_option maxHeartbeats 2000000 in
theorem plus_any (A : Option Addr) (n c : Nat) (l : List Nat) (A' : Option Addr) (n' c' : Nat) (l' : List Nat) (w : World) (h : LimbsAt w A n c l) (h' : LimbsAt w A' n' c' l') (hm : n ≤ 10000) (hm' : n' ≤ 10000) :
    Calls Tryz.prog 118 #[.slice A n c, .slice A' n' c'] w (OwnPost (rowL BB (plusF l l') (max n n' + 1)) w) := by
  have K : Keep (fun _ => False) w ((w.alloc (.cells #[.slice A n c] 22)).alloc (.cells #[.slice A' n' c'] 22)) := ((Keep.refl _ _).alloc _).alloc _
  have hb1 : ((w.alloc (.cells #[.slice A n c] 22)).alloc (.cells #[.slice A' n' c'] 22)).heap[w.heap.size]? = some (.cells #[.slice A n c] 22 (0, 0)) := by
    rw [Below.heap_alloc _ _ _ (by simp)]; exact heap_alloc_new w _
  have hb2 : ((w.alloc (.cells #[.slice A n c] 22)).alloc (.cells #[.slice A' n' c'] 22)).heap[w.heap.size + 1]? = some (.cells #[.slice A' n' c'] 22 (0, 0)) := by
    have := heap_alloc_new (w.alloc (.cells #[.slice A n c] 22)) (.cells #[.slice A' n' c'] 22)
    rwa [World.size_alloc] at this
  have h1 := h.keep0 K
  have h1' := h'.keep0 K
  have HCL := Lib.hid (fun (i : Nat) (w' : World) (hi : i < max n n' + 1) (K' : Keep (fun _ => False) ((w.alloc (.cells #[.slice A n c] 22)).alloc (.cells #[.slice A' n' c'] 22)) w') =>
    clo96 A n c l A' n' c' l' w.heap.size (w.heap.size + 1) i (rowC BB (plusF l l') i) w' (h1.keep0 K') (h1'.keep0 K') (by omega) (plus_le h.low h'.low i).2
      (by rw [cell_of_row w' _ _ _ _ _ (K'.heap hb1 (by simp))]; rfl) (by rw [cell_of_row w' _ _ _ _ _ (K'.heap hb2 (by simp))]; rfl))
  have HF := Lib.hid (fun (i : Nat) (_ : i < max n n' + 1) => (plus_le h.low h'.low i).1)
  clear hb1 hb2 h h' h1 h1'
  have fin : ∀ M, max n n' + 1 = M → M ≤ 100000 → Calls Tryz.prog 113 #[.int .i64 (M : Int), .func (.func 159) #[] #[.pointer (some ⟨w.heap.size, 0, none⟩), .pointer (some ⟨w.heap.size + 1, 0, none⟩)]] ((w.alloc (.cells #[.slice A n c] 22)).alloc (.cells #[.slice A' n' c'] 22)) (OwnPost (rowL BB (plusF l l') (max n n' + 1)) ((w.alloc (.cells #[.slice A n c] 22)).alloc (.cells #[.slice A' n' c'] 22))) := by
    rintro M rfl hM
    exact row96 _ _ _ _ _ hM HF.out (fun i w' hi K' => HCL.out i w' hi K')
  have FIN := Lib.hid fin
  have e1 : (n : Int) + 1 = ((n + 1 : Nat) : Int) := by omega
  have e2 : (n' : Int) + 1 = ((n' + 1 : Nat) : Int) := by omega
  have E1 := Lib.hid e1
  have E2 := Lib.hid e2
  clear fin e1 e2 HCL HF
  have fin2 : ∀ (e : Ending) (w' : World), OwnPost (rowL BB (plusF l l') (max n n' + 1)) ((w.alloc (.cells #[.slice A n c] 22)).alloc (.cells #[.slice A' n' c'] 22)) e w' → ∃ (A2 : Option Addr) (n2 c2 : Nat), e = .returned (.slice A2 n2 c2) ∧ OwnPost (rowL BB (plusF l l') (max n n' + 1)) w (.returned (.slice A2 n2 c2)) w' := by
    rintro e w' ⟨A2, n2, c2, rfl, own, k⟩
    exact ⟨A2, n2, c2, rfl, A2, n2, c2, rfl, own.mono K.size, K.trans k⟩
  have FIN2 := Lib.hid fin2
  clear fin2 K
  by_cases hlt : n < n'
  · go_enter Tryz.func118, Tryz.ntmps118
    go_wp2_with fail
    rw [E2.out]
    refine (FIN.out _ (by omega) (by omega)).mono ?_
    intro e w2 hp
    obtain ⟨A2, n2, c2, rfl, P⟩ := FIN2.out _ _ hp
    have HP := Lib.hid P
    clear P hp
    go_wp2_with fail
    go_ret
    exact HP.out
  · go_enter Tryz.func118, Tryz.ntmps118
    go_wp2_with fail
    rw [E1.out]
    refine (FIN.out _ (by omega) (by omega)).mono ?_
    intro e w2 hp
    obtain ⟨A2, n2, c2, rfl, P⟩ := FIN2.out _ _ hp
    have HP := Lib.hid P
    clear P hp
    go_wp2_with fail
    go_ret
    exact HP.out
theorem rowC_w64 (F : Nat → Nat → Nat) (hF : ∀ i c, F i c ≤ 18446744073709551615) : ∀ i, rowC BB F i ≤ 18446744073709551615
  | 0 => by unfold rowC; omega
  | i + 1 => by
    have := hF i (rowC BB F i)
    show F i (rowC BB F i) / BB ≤ _
    exact Nat.le_trans (Nat.div_le_self _ _) this
set_option maxRecDepth 100000 in
set_option maxHeartbeats 2000000 in
theorem less_any (A : Option Addr) (n c : Nat) (l : List Nat) (A' : Option Addr) (n' c' : Nat) (l' : List Nat) (w : World) (h : LimbsAt w A n c l) (h' : LimbsAt w A' n' c' l') (hm : n ≤ 10000) :
    Calls Tryz.prog 119 #[.slice A n c, .slice A' n' c'] w (OwnPost (rowL BB (lessF l l') n) w) := by
  have K : Keep (fun _ => False) w ((w.alloc (.cells #[.slice A n c] 22)).alloc (.cells #[.slice A' n' c'] 22)) := ((Keep.refl _ _).alloc _).alloc _
  have hb1 : ((w.alloc (.cells #[.slice A n c] 22)).alloc (.cells #[.slice A' n' c'] 22)).heap[w.heap.size]? = some (.cells #[.slice A n c] 22 (0, 0)) := by
    rw [Below.heap_alloc _ _ _ (by simp)]; exact heap_alloc_new w _
  have hb2 : ((w.alloc (.cells #[.slice A n c] 22)).alloc (.cells #[.slice A' n' c'] 22)).heap[w.heap.size + 1]? = some (.cells #[.slice A' n' c'] 22 (0, 0)) := by
    have := heap_alloc_new (w.alloc (.cells #[.slice A n c] 22)) (.cells #[.slice A' n' c'] 22)
    rwa [World.size_alloc] at this
  have h1 := h.keep0 K
  have h1' := h'.keep0 K
  have HCL := Lib.hid (fun (i : Nat) (w' : World) (hi : i < n) (K' : Keep (fun _ => False) ((w.alloc (.cells #[.slice A n c] 22)).alloc (.cells #[.slice A' n' c'] 22)) w') =>
    clo95 A n c l A' n' c' l' w.heap.size (w.heap.size + 1) i (rowC BB (lessF l l') i) w' (h1.keep0 K') (h1'.keep0 K') (by omega) (rowC_w64 _ (less_bound l l') i)
      (by rw [cell_of_row w' _ _ _ _ _ (K'.heap hb1 (by simp))]; rfl) (by rw [cell_of_row w' _ _ _ _ _ (K'.heap hb2 (by simp))]; rfl))
  have hm2 : n ≤ 100000 := by omega
  clear hb1 hb2 h h' h1 h1'
  go_enter Tryz.func119, Tryz.ntmps119
  go_wp2_with fail
  refine (row95 _ _ _ _ _ hm2 (fun i _ => less_bound l l' i _) (fun i w' hi K' => HCL.out i w' hi K')).mono ?_
  rintro e w2 ⟨A2, n2, c2, rfl, own, k2⟩
  have P : OwnPost (rowL BB (lessF l l') n) w (.returned (.slice A2 n2 c2)) w2 := ⟨A2, n2, c2, rfl, own.mono K.size, K.trans k2⟩
  have HP := Lib.hid P
  clear P own
  go_wp2_with fail
  go_ret
  exact HP.out
theorem val_set (B : Nat) : ∀ (l : List Nat) (i y : Nat), i < l.length → val B (l.set i y) + B ^ i * l.getD i 0 = val B l + B ^ i * y
  | [], i, y, h => by simp at h
  | x :: l, 0, y, _ => by simp [val]; omega
  | x :: l, i + 1, y, h => by
    have ih := val_set B l i y (by simpa using h)
    rw [List.set_cons_succ, val, val, List.getD_cons_succ, Nat.pow_succ, Nat.mul_comm (B ^ i) B, Nat.mul_assoc, Nat.mul_assoc]
    have : B * (val B (l.set i y) + B ^ i * l.getD i 0) = B * (val B l + B ^ i * y) := by rw [ih]
    rw [Nat.mul_add, Nat.mul_add] at this
    omega
theorem Low.set {B : Nat} {l : List Nat} (h : Low B l) (i : Nat) {y : Nat} (hy : y < B) : Low B (l.set i y) := by
  intro x hx
  rcases List.mem_or_eq_of_mem_set hx with h1 | h1
  · exact h x h1
  · rw [h1]; exact hy
open Go.RowKit
open Go.RowKit
/-- Two numbers came in, and there is room for the result. -/
structure Box3 (w w1 : World) (B : Nat) (u v : Value) (x y : Value) : Prop where
  k : Keep (fun _ => False) w w1
  b1 : w1.heap[B]? = some (.cells #[u, v] 24 (0, 0))
  b2 : w1.heap[B + 1]? = some (.cells #[x, y] 24 (0, 0))
  b3 : w1.heap[B + 1 + 1]? = some (.cells #[.bool false, .slice none 0 0] 24 (0, 0))
  lo : w.heap.size ≤ B
  hi : B + 1 + 1 < w1.heap.size
theorem box3 (w : World) (u v x y : Value) : Box3 w (((w.alloc (.cells #[u, v] 24)).alloc (.cells #[x, y] 24)).alloc (.cells #[.bool false, .slice none 0 0] 24)) w.heap.size u v x y := by
  refine ⟨(((Keep.refl _ _).alloc _).alloc _).alloc _, ?_, ?_, ?_, Nat.le_refl _, by simp⟩
  · rw [Below.heap_alloc _ _ _ (by simp; omega), Below.heap_alloc _ _ _ (by simp)]; exact heap_alloc_new w _
  · rw [Below.heap_alloc _ _ _ (by simp)]
    have := heap_alloc_new (w.alloc (.cells #[u, v] 24)) (.cells #[x, y] 24)
    rwa [World.size_alloc] at this
  · have := heap_alloc_new ((w.alloc (.cells #[u, v] 24)).alloc (.cells #[x, y] 24)) (.cells #[.bool false, .slice none 0 0] 24)
    rwa [World.size_alloc, World.size_alloc] at this
theorem Box3.cells {w w1 w' : World} {B : Nat} {u v x y : Value} (h : Box3 w w1 B u v x y) (K : Keep (fun _ => False) w1 w') : w'.cell? ⟨B, 0, none⟩ = some u ∧ w'.cell? ⟨B, 1, none⟩ = some v ∧ w'.cell? ⟨B + 1, 0, none⟩ = some x ∧ w'.cell? ⟨B + 1, 1, none⟩ = some y := by
  have g1 := K.heap h.b1 (by simp)
  have g2 := K.heap h.b2 (by simp)
  refine ⟨?_, ?_, ?_, ?_⟩
  · rw [cell_of_row w' _ _ _ _ _ g1]; rfl
  · rw [cell_of_row w' _ _ _ _ _ g1]; rfl
  · rw [cell_of_row w' _ _ _ _ _ g2]; rfl
  · rw [cell_of_row w' _ _ _ _ _ g2]; rfl
theorem Box3.cellsS {w w1 w' : World} {B : Nat} {u v x y : Value} (h : Box3 w w1 B u v x y) (K : Keep (fun _ => False) w1 w') (a b : Value) :
    ((w'.setCell ⟨B + 1 + 1, 0, none⟩ a).setCell ⟨B + 1 + 1, 1, none⟩ b).cell? ⟨B, 0, none⟩ = some u ∧ ((w'.setCell ⟨B + 1 + 1, 0, none⟩ a).setCell ⟨B + 1 + 1, 1, none⟩ b).cell? ⟨B, 1, none⟩ = some v ∧ ((w'.setCell ⟨B + 1 + 1, 0, none⟩ a).setCell ⟨B + 1 + 1, 1, none⟩ b).cell? ⟨B + 1, 0, none⟩ = some x ∧ ((w'.setCell ⟨B + 1 + 1, 0, none⟩ a).setCell ⟨B + 1 + 1, 1, none⟩ b).cell? ⟨B + 1, 1, none⟩ = some y := by
  have K2 : Keep (fun k => k = B + 1 + 1) w1 ((w'.setCell ⟨B + 1 + 1, 0, none⟩ a).setCell ⟨B + 1 + 1, 1, none⟩ b) :=
    ((K.mono (S' := fun k => k = B + 1 + 1) (fun _ _ h => h.elim)).setCell (p := ⟨B + 1 + 1, 0, none⟩) (.inl rfl) a).setCell (p := ⟨B + 1 + 1, 1, none⟩) (.inl rfl) b
  have g1 := K2.heap h.b1 (by omega)
  have g2 := K2.heap h.b2 (by omega)
  refine ⟨?_, ?_, ?_, ?_⟩
  · rw [cell_of_row _ _ _ _ _ _ g1]; rfl
  · rw [cell_of_row _ _ _ _ _ _ g1]; rfl
  · rw [cell_of_row _ _ _ _ _ _ g2]; rfl
  · rw [cell_of_row _ _ _ _ _ _ g2]; rfl
theorem Box3.res {w w1 w' w2 : World} {B : Nat} {u v x y : Value} (h : Box3 w w1 B u v x y) (K : Keep (fun _ => False) w1 w') {z : Int} {e : Ending} (hr : ResPost z w' e w2) :
    ∃ (neg : Bool) (A : Option Addr) (n c : Nat) (f : Int), e = .returned (.tuple #[numArg neg A n c, .int .i64 f]) ∧
      w2.cell? ⟨B + 1 + 1, 0, none⟩ = some (.bool false) ∧ w2.cell? ⟨B + 1 + 1, 1, none⟩ = some (.slice none 0 0) ∧ w2.frozen? ⟨B + 1 + 1, 0, none⟩ = false ∧ w2.frozen? ⟨B + 1 + 1, 1, none⟩ = false ∧
      ((w2.setCell ⟨B + 1 + 1, 0, none⟩ (.bool neg)).setCell ⟨B + 1 + 1, 1, none⟩ (.slice A n c)).cell? ⟨B + 1 + 1, 0, none⟩ = some (.bool neg) ∧
      ((w2.setCell ⟨B + 1 + 1, 0, none⟩ (.bool neg)).setCell ⟨B + 1 + 1, 1, none⟩ (.slice A n c)).cell? ⟨B + 1 + 1, 1, none⟩ = some (.slice A n c) ∧
      ResPost z w (.returned (.tuple #[numArg neg A n c, .int .i64 f])) ((w2.setCell ⟨B + 1 + 1, 0, none⟩ (.bool neg)).setCell ⟨B + 1 + 1, 1, none⟩ (.slice A n c)) :=
  res_two (h.k.trans K) (Nat.le_trans h.lo (Nat.le_add_right _ _)) (Nat.lt_of_lt_of_le h.hi K.size) (K.heap h.b3 (by simp)) hr
open Go.RowKit
theorem sval_below (neg : Bool) (l : List Nat) : sval (belowB neg l) l = sval neg l := by
  unfold sval belowB
  by_cases h : 0 < lval l
  · simp [h]
  · have : lval l = 0 := by omega
    simp [this]
theorem add_eq {neg neg' : Bool} {l l' m : List Nat} (hb : belowB neg l = belowB neg' l') (hm : lval m = lval l + lval l') : sval (belowB neg l) m = sval neg l + sval neg' l' := by
  rw [← sval_below neg l, ← sval_below neg' l', ← hb]
  generalize belowB neg l = p
  unfold sval
  rw [hm]
  cases p <;> simp <;> omega
theorem add_lt {neg neg' : Bool} {l l' m : List Nat} (hb : belowB neg l ≠ belowB neg' l') (hlt : lval l < lval l') (hm : lval m = lval l' - lval l) : sval (belowB neg' l') m = sval neg l + sval neg' l' := by
  rw [← sval_below neg l, ← sval_below neg' l']
  revert hb
  generalize belowB neg l = p
  generalize belowB neg' l' = q
  unfold sval
  rw [hm]
  cases p <;> cases q <;> simp <;> omega
theorem add_ge {neg neg' : Bool} {l l' m : List Nat} (hb : belowB neg l ≠ belowB neg' l') (hge : lval l' ≤ lval l) (hm : lval m = lval l - lval l') : sval (belowB neg l) m = sval neg l + sval neg' l' := by
  rw [← sval_below neg l, ← sval_below neg' l']
  revert hb
  generalize belowB neg l = p
  generalize belowB neg' l' = q
  unfold sval
  rw [hm]
  cases p <;> cases q <;> simp <;> omega
theorem lval_limbs (v : Nat) : lval (limbs v) = v := val_digs BB2 v
theorem plus_lval (u v k : Nat) (hk : k = max (limbs u).length (limbs v).length + 1) : lval (rowL BB (plusF (limbs u) (limbs v)) k) = u + v := by
  have := plus_val BB2 (digs_low BB2 u) (digs_low BB2 v) (n := k) (by unfold limbs at hk; omega) (by unfold limbs at hk; omega)
  rw [val_digs BB2, val_digs BB2] at this
  exact this
theorem less_lval (u v : Nat) (h : v ≤ u) : lval (rowL BB (lessF (limbs u) (limbs v)) (limbs u).length) = u - v := by
  have := less_val (digs_low BB2 u) (digs_low BB2 v) (by rw [val_digs BB2, val_digs BB2]; exact h)
  rw [val_digs BB2, val_digs BB2] at this
  exact this
set_option maxRecDepth 100000 in
set_option maxHeartbeats 8000000 in
theorem add_any (neg : Bool) (A : Option Addr) (n c : Nat) (l : List Nat) (neg' : Bool) (A' : Option Addr) (n' c' : Nat) (l' : List Nat) (w : World) (h : LimbsAt w A n c l) (h' : LimbsAt w A' n' c' l') (hm : n ≤ 9000) (hm' : n' ≤ 9000) :
    Calls Tryz.prog 71 #[numArg neg A n c, numArg neg' A' n' c'] w (ResPost (sval neg l + sval neg' l') w) := by
  have BX := box3 w (.bool neg) (.slice A n c) (.bool neg') (.slice A' n' c')
  have h1 := h.keep0 BX.k
  have h1' := h'.keep0 BX.k
  go_enter Tryz.func71, Tryz.ntmps71
  go_wp2_with fail
  generalize w.heap.size = Ba at BX ⊢
  generalize ((w.alloc (.cells #[.bool neg, .slice A n c] 24)).alloc (.cells #[.bool neg', .slice A' n' c'] 24)).alloc (.cells #[.bool false, .slice none 0 0] 24) = w1 at BX h1 h1' ⊢
  have HBX := Lib.hid BX
  have HB := Lib.hid (fun (w' : World) (K' : Keep (fun _ => False) w1 w') => below_any neg A n c l w' (h1.keep0 K'))
  have HB' := Lib.hid (fun (w' : World) (K' : Keep (fun _ => False) w1 w') => below_any neg' A' n' c' l' w' (h1'.keep0 K'))
  have HT := Lib.hid (fun (w' : World) (K' : Keep (fun _ => False) w1 w') => trim_any A n c l w' (h1.keep0 K'))
  have HT' := Lib.hid (fun (w' : World) (K' : Keep (fun _ => False) w1 w') => trim_any A' n' c' l' w' (h1'.keep0 K'))
  have HO := Lib.hid (fun (w' : World) (K' : Keep (fun _ => False) w1 w') => order_any A n c l A' n' c' l' w' (h1.keep0 K') (h1'.keep0 K'))
  have tl := tlen_le h1.low
  have tl' := tlen_le h1'.low
  rw [h1.len] at tl
  rw [h1'.len] at tl'
  have HX := Lib.hid (fun (w' : World) (K' : Keep (fun _ => False) w1 w') => plus_any A (tlen l) c _ A' (tlen l') c' _ w' (h1.keep0 K').trim (h1'.keep0 K').trim (by omega) (by omega))
  have HY := Lib.hid (fun (w' : World) (K' : Keep (fun _ => False) w1 w') => less_any A (tlen l) c _ A' (tlen l') c' _ w' (h1.keep0 K').trim (h1'.keep0 K').trim (by omega))
  have HY' := Lib.hid (fun (w' : World) (K' : Keep (fun _ => False) w1 w') => less_any A' (tlen l') c' _ A (tlen l) c _ w' (h1'.keep0 K').trim (h1.keep0 K').trim (by omega))
  obtain ⟨c0, c1, c2, c3⟩ := BX.cells (Keep.refl _ _)
  have Kd : Keep (fun _ => False) w1 w1.drew := (Keep.refl _ _).drew
  obtain ⟨p, hp⟩ : ∃ p, p = belowB neg l := ⟨_, rfl⟩
  obtain ⟨q, hq⟩ : ∃ q, q = belowB neg' l' := ⟨_, rfl⟩
  rw [← hp] at HB
  rw [← hq] at HB'
  have HPP := Lib.hid hp
  have HQQ := Lib.hid hq
  have tm : tlen l ≤ 9000 := by omega
  have tm' : tlen l' ≤ 9000 := by omega
  clear hp hq BX h h' h1 h1' tl tl'
  go_region_held3 (fun w' => w'.cell? ⟨Ba, 0, none⟩ = some (.bool neg) ∧ w'.cell? ⟨Ba, 1, none⟩ = some (.slice A n c) ∧ w'.cell? ⟨Ba + 1, 0, none⟩ = some (.bool neg') ∧ w'.cell? ⟨Ba + 1, 1, none⟩ = some (.slice A' n' c'))
    (first | exact HBX.out.cells Kd | (refine HBX.out.cells ?_; assumption) | (refine HBX.out.cellsS ?_ _ _; assumption))
    (first
      | (go_at_call 68; first
        | ((with_reducible refine (HB.out _ (by assumption)).mono ?_); rintro e w3 ⟨rfl, k3⟩; have K3 := Keep.trans (by assumption) k3)
        | ((with_reducible refine (HB'.out _ (by assumption)).mono ?_); rintro e w4 ⟨rfl, k4⟩; have K4 := Keep.trans (by assumption) k4)))
  have K9 := K4
  clear k3 k4 K3 K4 c0 c1 c2 c3 Kd
  obtain ⟨c0, c1, c2, c3⟩ := HBX.out.cells K9
  have Kd : Keep (fun _ => False) w1 w4.drew := K9.drew
  by_cases hb : p = q
  · have hbq : (p == q) = true := by simpa using hb
    have HV := Lib.hid (add_eq (neg := neg) (neg' := neg') (l := l) (l' := l') (m := rowL BB (plusF (limbs (lval l)) (limbs (lval l'))) (max (tlen l) (tlen l') + 1)) (by rw [← HPP.out, ← HQQ.out]; exact hb) (plus_lval _ _ _ rfl))
    rw [← HPP.out] at HV
    rw [hbq]
    clear hbq hb
    go_wp2_with fail
    go_region_held3 (fun w' => w'.cell? ⟨Ba, 0, none⟩ = some (.bool neg) ∧ w'.cell? ⟨Ba, 1, none⟩ = some (.slice A n c) ∧ w'.cell? ⟨Ba + 1, 0, none⟩ = some (.bool neg') ∧ w'.cell? ⟨Ba + 1, 1, none⟩ = some (.slice A' n' c'))
      (first | exact HBX.out.cells Kd | (refine HBX.out.cells ?_; assumption) | (refine HBX.out.cellsS ?_ _ _; assumption))
      (first
        | (go_at_call 68; first
          | ((with_reducible refine (HB.out _ (by assumption)).mono ?_); rintro e w3 ⟨rfl, k3⟩; have K3 := Keep.trans (by assumption) k3)
          | ((with_reducible refine (HB'.out _ (by assumption)).mono ?_); rintro e w4 ⟨rfl, k4⟩; have K4 := Keep.trans (by assumption) k4))
        | (go_at_call 69; first
          | ((with_reducible refine (HT.out _ (by assumption)).mono ?_); rintro e w5 ⟨rfl, rfl⟩)
          | ((with_reducible refine (HT'.out _ (by assumption)).mono ?_); rintro e w6 ⟨rfl, rfl⟩))
        | (go_at_call 118; (with_reducible refine (HX.out _ (by assumption)).mono ?_); rintro e w7 ⟨A7, n7, c7, rfl, own7, k7⟩; have hn7 := own7.len; rw [rowL_len] at hn7; have K7 := Keep.trans (by assumption) k7)
        | (go_at_call 97; refine (made_any _ _ _ _ _ _ (own7.toLimbs (rowL_low (by have := BB2; omega) _ _) (by omega))).mono ?_; intro e w8 hres; have K8 := Keep.trans (by assumption) hres.1; obtain ⟨ng, A8, n8, c8, f8, rfl, r0, r1, f0, f1, e0, e1, P⟩ := HBX.out.res (by assumption) hres))
    all_goals
      have hsv := HV.out
      rw [hsv] at P
      have HP := Lib.hid P
      have HE := Lib.hid (And.intro e0 e1)
      clear P hres hsv e0 e1
      go_wp2_with fail
      refine bodyPost_ret (v := .tuple #[numArg ng A8 n8 c8, .int .i64 f8]) ?_ rfl HP.out
      obtain ⟨e0, e1⟩ := HE.out
      simp [results, Tryz.results71, go_sem, e0, e1]
  · have hbq : (p == q) = false := by simpa using hb
    have hne : belowB neg l ≠ belowB neg' l' := by rw [← HPP.out, ← HQQ.out]; exact hb
    by_cases hlt : lval l < lval l'
    · have HV := Lib.hid (add_lt (m := rowL BB (lessF (limbs (lval l')) (limbs (lval l))) (tlen l')) hne hlt (less_lval _ _ (Nat.le_of_lt hlt)))
      rw [← HQQ.out] at HV
      rw [cmpN_lt hlt] at HO
      rw [hbq]
      clear hb hne hlt hbq
      go_wp2_with fail
      refine (HO.out _ K9).mono ?_
      rintro e w10 ⟨rfl, k10⟩
      have K10 := K9.trans k10
      clear c0 c1 c2 c3 Kd K9 k10
      obtain ⟨c0, c1, c2, c3⟩ := HBX.out.cells K10
      have Kd : Keep (fun _ => False) w1 w10.drew := K10.drew
      go_wp2_with fail
      go_region_held3 (fun w' => w'.cell? ⟨Ba, 0, none⟩ = some (.bool neg) ∧ w'.cell? ⟨Ba, 1, none⟩ = some (.slice A n c) ∧ w'.cell? ⟨Ba + 1, 0, none⟩ = some (.bool neg') ∧ w'.cell? ⟨Ba + 1, 1, none⟩ = some (.slice A' n' c'))
        (first | exact HBX.out.cells Kd | (refine HBX.out.cells ?_; assumption) | (refine HBX.out.cellsS ?_ _ _; assumption))
        (first
          | (go_at_call 68; first
            | ((with_reducible refine (HB.out _ (by assumption)).mono ?_); rintro e w3 ⟨rfl, k3⟩; have K3 := Keep.trans (by assumption) k3)
            | ((with_reducible refine (HB'.out _ (by assumption)).mono ?_); rintro e w4 ⟨rfl, k4⟩; have K4 := Keep.trans (by assumption) k4))
          | (go_at_call 69; first
            | ((with_reducible refine (HT.out _ (by assumption)).mono ?_); rintro e w5 ⟨rfl, rfl⟩)
            | ((with_reducible refine (HT'.out _ (by assumption)).mono ?_); rintro e w6 ⟨rfl, rfl⟩))
          | (go_at_call 119; (with_reducible refine (HY'.out _ (by assumption)).mono ?_); rintro e w7 ⟨A7, n7, c7, rfl, own7, k7⟩; have hn7 := own7.len; rw [rowL_len] at hn7; have K7 := Keep.trans (by assumption) k7)
          | (go_at_call 97; refine (made_any _ _ _ _ _ _ (own7.toLimbs (rowL_low (by have := BB2; omega) _ _) (by omega))).mono ?_; intro e w8 hres; have K8 := Keep.trans (by assumption) hres.1; obtain ⟨ng, A8, n8, c8, f8, rfl, r0, r1, f0, f1, e0, e1, P⟩ := HBX.out.res (by assumption) hres))
      all_goals
        have hsv := HV.out
        rw [hsv] at P
        have HP := Lib.hid P
        have HE := Lib.hid (And.intro e0 e1)
        clear P hres hsv e0 e1
        go_wp2_with fail
        refine bodyPost_ret (v := .tuple #[numArg ng A8 n8 c8, .int .i64 f8]) ?_ rfl HP.out
        obtain ⟨e0, e1⟩ := HE.out
        simp [results, Tryz.results71, go_sem, e0, e1]
    · have HV := Lib.hid (add_ge (m := rowL BB (lessF (limbs (lval l)) (limbs (lval l'))) (tlen l)) hne (by omega) (less_lval _ _ (by omega)))
      rw [← HPP.out] at HV
      have hc0 : decide (cmpN (lval l) (lval l') < 0) = false := by
        unfold cmpN
        rw [if_neg hlt]
        split <;> rfl
      rw [hbq]
      clear hb hne hlt hbq
      generalize cmpN (lval l) (lval l') = cc at hc0 HO
      go_wp2_with fail
      refine (HO.out _ K9).mono ?_
      rintro e w10 ⟨rfl, k10⟩
      have K10 := K9.trans k10
      clear c0 c1 c2 c3 Kd K9 k10
      obtain ⟨c0, c1, c2, c3⟩ := HBX.out.cells K10
      have Kd : Keep (fun _ => False) w1 w10.drew := K10.drew
      go_wp2_with fail
      go_region_held3 (fun w' => w'.cell? ⟨Ba, 0, none⟩ = some (.bool neg) ∧ w'.cell? ⟨Ba, 1, none⟩ = some (.slice A n c) ∧ w'.cell? ⟨Ba + 1, 0, none⟩ = some (.bool neg') ∧ w'.cell? ⟨Ba + 1, 1, none⟩ = some (.slice A' n' c'))
        (first | exact HBX.out.cells Kd | (refine HBX.out.cells ?_; assumption) | (refine HBX.out.cellsS ?_ _ _; assumption))
        (first
          | (go_at_call 68; first
            | ((with_reducible refine (HB.out _ (by assumption)).mono ?_); rintro e w3 ⟨rfl, k3⟩; have K3 := Keep.trans (by assumption) k3)
            | ((with_reducible refine (HB'.out _ (by assumption)).mono ?_); rintro e w4 ⟨rfl, k4⟩; have K4 := Keep.trans (by assumption) k4))
          | (go_at_call 69; first
            | ((with_reducible refine (HT.out _ (by assumption)).mono ?_); rintro e w5 ⟨rfl, rfl⟩)
            | ((with_reducible refine (HT'.out _ (by assumption)).mono ?_); rintro e w6 ⟨rfl, rfl⟩))
          | (go_at_call 119; (with_reducible refine (HY.out _ (by assumption)).mono ?_); rintro e w7 ⟨A7, n7, c7, rfl, own7, k7⟩; have hn7 := own7.len; rw [rowL_len] at hn7; have K7 := Keep.trans (by assumption) k7)
          | (go_at_call 97; refine (made_any _ _ _ _ _ _ (own7.toLimbs (rowL_low (by have := BB2; omega) _ _) (by omega))).mono ?_; intro e w8 hres; have K8 := Keep.trans (by assumption) hres.1; obtain ⟨ng, A8, n8, c8, f8, rfl, r0, r1, f0, f1, e0, e1, P⟩ := HBX.out.res (by assumption) hres))
      all_goals
        have hsv := HV.out
        rw [hsv] at P
        have HP := Lib.hid P
        have HE := Lib.hid (And.intro e0 e1)
        clear P hres hsv e0 e1
        go_wp2_with fail
        refine bodyPost_ret (v := .tuple #[numArg ng A8 n8 c8, .int .i64 f8]) ?_ rfl HP.out
        obtain ⟨e0, e1⟩ := HE.out
        simp [results, Tryz.results71, go_sem, e0, e1]
/-- A row doubled, with a bit. -/
def dblF (r : List Nat) (bit k c : Nat) : Nat := 2 * r.getD k 0 + if k = 0 then bit else c
theorem dbl_inv {B : Nat} (hB : 2 ≤ B) {r : List Nat} (hr : Low B r) {bit : Nat} (hb : bit ≤ 1) : ∀ k, val B (rowL B (dblF r bit) (k + 1)) + B ^ (k + 1) * rowC B (dblF r bit) (k + 1) = 2 * val B (r.take (k + 1)) + bit ∧ rowC B (dblF r bit) (k + 1) ≤ 1
  | 0 => by
    have x := hr.getD (by omega) 0
    refine ⟨?_, ?_⟩
    · rw [val_rowL_succ, val_take_succ]
      simp [rowL, val, dblF]
    · show dblF r bit 0 0 / B ≤ 1
      unfold dblF
      rw [if_pos rfl]
      have := (Nat.div_lt_iff_lt_mul (by omega : 0 < B)).2 (show 2 * r.getD 0 0 + bit < 2 * B by omega)
      omega
  | k + 1 => by
    obtain ⟨h1, h2⟩ := dbl_inv hB hr hb k
    have x := hr.getD (by omega) (k + 1)
    have e : dblF r bit (k + 1) (rowC B (dblF r bit) (k + 1)) = 2 * r.getD (k + 1) 0 + rowC B (dblF r bit) (k + 1) := by
      unfold dblF
      rw [if_neg (by omega)]
    refine ⟨?_, ?_⟩
    · rw [val_rowL_succ, val_take_succ, e, Nat.mul_add, Nat.mul_add, Nat.mul_left_comm]
      omega
    · show dblF r bit (k + 1) (rowC B (dblF r bit) (k + 1)) / B ≤ 1
      rw [e]
      have := (Nat.div_lt_iff_lt_mul (by omega : 0 < B)).2 (show 2 * r.getD (k + 1) 0 + rowC B (dblF r bit) (k + 1) < 2 * B by omega)
      omega
theorem dbl_val {B : Nat} (hB : 2 ≤ B) {r : List Nat} (hr : Low B r) {bit : Nat} (hb : bit ≤ 1) (hn : 0 < r.length) (h : 2 * val B r + bit < B ^ r.length) : val B (rowL B (dblF r bit) r.length) = 2 * val B r + bit := by
  obtain ⟨k, hk⟩ : ∃ k, r.length = k + 1 := ⟨r.length - 1, by omega⟩
  obtain ⟨h1, _⟩ := dbl_inv hB hr hb k
  rw [← hk, List.take_length] at h1
  rcases Nat.eq_zero_or_pos (rowC B (dblF r bit) r.length) with h0 | h0
  · rw [h0] at h1; omega
  · have : B ^ r.length * 1 ≤ B ^ r.length * rowC B (dblF r bit) r.length := Nat.mul_le_mul_left _ h0
    omega
theorem dbl_bound {B : Nat} (hB : 2 ≤ B) {r : List Nat} (hr : Low B r) {bit : Nat} (hb : bit ≤ 1) (k : Nat) : dblF r bit k (rowC B (dblF r bit) k) < 2 * B ∧ rowC B (dblF r bit) k ≤ 1 := by
  have x := hr.getD (by omega) k
  have hc : rowC B (dblF r bit) k ≤ 1 := by
    cases k with
    | zero => show 0 ≤ 1; omega
    | succ k => exact (dbl_inv hB hr hb k).2
  refine ⟨?_, hc⟩
  unfold dblF
  unfold dblF at hc
  split <;> omega
theorem digit_split {B : Nat} (l : List Nat) (j : Nat) (hj : j < l.length) : val B l = val B (l.take j) + B ^ j * (l.getD j 0 + B * val B (l.drop (j + 1))) := by
  have e := val_take_drop B l j
  rw [List.length_take, Nat.min_eq_left (by omega)] at e
  rw [e]
  congr 2
  rw [List.drop_eq_getElem_cons hj, val, List.getD_eq_getElem?_getD, List.getElem?_eq_getElem hj]
  rfl
section
variable {B : Nat} (hB : B = 2 ^ 32)
include hB
theorem pow_two (j : Nat) : B ^ j = 2 ^ (32 * j) := by rw [hB, ← Nat.pow_mul]
theorem pow_two_add (j s : Nat) : B ^ j * 2 ^ s = 2 ^ (32 * j + s) := by rw [pow_two hB, ← Nat.pow_add]
/-- One bit of a number. -/
theorem bit_of {l : List Nat} (low : Low B l) {k : Nat} (hk : k / 32 < l.length) : l.getD (k / 32) 0 / 2 ^ (k % 32) % 2 = val B l / 2 ^ k % 2 := by
  have e := digit_split (B := B) l (k / 32) hk
  have hlt := val_take_lt (B := B) (by rw [hB]; exact Nat.two_pow_pos 32) low (k / 32)
  have hk2 : k = 32 * (k / 32) + k % 32 := by omega
  generalize k / 32 = j at *
  have hs : k % 32 < 32 := Nat.mod_lt _ (by omega)
  generalize k % 32 = s at *
  subst hk2
  generalize l.getD j 0 = x at *
  generalize val B (l.drop (j + 1)) = y at *
  have e1 : val B l / B ^ j = x + B * y := by
    rw [e, Nat.add_mul_div_left _ _ (by omega), Nat.div_eq_of_lt hlt, Nat.zero_add]
  rw [← pow_two_add hB, ← Nat.div_div_eq_div_mul, e1, hB]
  obtain ⟨t, ht⟩ : ∃ t, 32 = s + (t + 1) := ⟨31 - s, by omega⟩
  rw [ht, Nat.pow_add, Nat.mul_assoc, Nat.add_mul_div_left _ _ (Nat.two_pow_pos s), Nat.pow_succ, Nat.mul_assoc, Nat.mul_left_comm, Nat.add_mul_mod_self_left]
/-- A bit that is to be set is not set yet. -/
theorem free_bit {l : List Nat} (low : Low B l) {k : Nat} (hk : k / 32 < l.length) (h : 2 ^ (k + 1) ∣ val B l) : 2 ^ (k % 32 + 1) ∣ l.getD (k / 32) 0 := by
  have e := digit_split (B := B) l (k / 32) hk
  have hlt := val_take_lt (B := B) (by rw [hB]; exact Nat.two_pow_pos 32) low (k / 32)
  have hk2 : k = 32 * (k / 32) + k % 32 := by omega
  generalize k / 32 = j at *
  have hs : k % 32 < 32 := Nat.mod_lt _ (by omega)
  generalize k % 32 = s at *
  subst hk2
  generalize l.getD j 0 = x at *
  generalize val B (l.drop (j + 1)) = y at *
  rw [Nat.add_assoc, ← pow_two_add hB] at h
  obtain ⟨z, hz⟩ := h
  rw [e] at hz
  have h0 : val B (l.take j) = 0 := by
    have : val B (l.take j) % B ^ j = 0 := by
      have h1 : (val B (l.take j) + B ^ j * (x + B * y)) % B ^ j = 0 := by
        rw [hz, Nat.mul_assoc]
        exact Nat.mul_mod_right _ _
      rwa [Nat.add_mul_mod_self_left] at h1
    rwa [Nat.mod_eq_of_lt hlt] at this
  rw [h0, Nat.zero_add, Nat.mul_assoc] at hz
  have hx := Nat.eq_of_mul_eq_mul_left (show 0 < B ^ j by omega) hz
  obtain ⟨t, ht⟩ : ∃ t, 32 = (s + 1) + t := ⟨31 - s, by omega⟩
  have hBt : B = 2 ^ (s + 1) * 2 ^ t := by rw [hB, ← Nat.pow_add, ← ht]
  refine (Nat.dvd_add_left ⟨2 ^ t * y, ?_⟩).1 (⟨z, hx⟩ : 2 ^ (s + 1) ∣ x + B * y)
  rw [hBt, Nat.mul_assoc]
theorem set_bit {l : List Nat} (low : Low B l) {k : Nat} (hk : k / 32 < l.length) (h : 2 ^ (k + 1) ∣ val B l) :
    val B (l.set (k / 32) (l.getD (k / 32) 0 + 2 ^ (k % 32))) = val B l + 2 ^ k ∧ l.getD (k / 32) 0 + 2 ^ (k % 32) < B := by
  have hf := free_bit hB low hk h
  have x := low.getD (by rw [hB]; exact Nat.two_pow_pos 32) (k / 32)
  refine ⟨?_, ?_⟩
  · have e := val_set B l (k / 32) (l.getD (k / 32) 0 + 2 ^ (k % 32)) hk
    rw [Nat.mul_add, pow_two_add hB, show 32 * (k / 32) + k % 32 = k from by omega] at e
    omega
  · obtain ⟨z, hz⟩ := hf
    obtain ⟨t, ht⟩ : ∃ t, 32 = (k % 32 + 1) + t := ⟨31 - k % 32, by omega⟩
    have hBt : B = 2 ^ (k % 32 + 1) * 2 ^ t := by rw [hB, ← Nat.pow_add, ← ht]
    rw [hz] at x ⊢
    rw [hBt] at x ⊢
    have hzt := Nat.lt_of_mul_lt_mul_left x
    have : 2 ^ (k % 32 + 1) * (z + 1) ≤ 2 ^ (k % 32 + 1) * 2 ^ t := Nat.mul_le_mul_left _ hzt
    rw [Nat.mul_add, Nat.mul_one] at this
    have h2 : 2 ^ (k % 32) < 2 ^ (k % 32 + 1) := by rw [Nat.pow_succ]; have := Nat.two_pow_pos (k % 32); omega
    omega
end
/-- What holds when k bits are left: q is the quotient so far, r the rest. -/
structure PartIn (B A D la lb k : Nat) (q r : List Nat) : Prop where
  ql : q.length = la
  qlow : Low B q
  qv : val B q = A / 2 ^ k / D * 2 ^ k
  rl : r.length = lb + 1
  rlow : Low B r
  rv : val B r = A / 2 ^ k % D
theorem part_step (A D k : Nat) (hD : 0 < D) : A / 2 ^ k = 2 * (A / 2 ^ (k + 1)) + A / 2 ^ k % 2 ∧
    (2 * (A / 2 ^ (k + 1) % D) + A / 2 ^ k % 2 < D → A / 2 ^ k / D = 2 * (A / 2 ^ (k + 1) / D) ∧ A / 2 ^ k % D = 2 * (A / 2 ^ (k + 1) % D) + A / 2 ^ k % 2) ∧
    (D ≤ 2 * (A / 2 ^ (k + 1) % D) + A / 2 ^ k % 2 → A / 2 ^ k / D = 2 * (A / 2 ^ (k + 1) / D) + 1 ∧ A / 2 ^ k % D = 2 * (A / 2 ^ (k + 1) % D) + A / 2 ^ k % 2 - D) := by
  have e : A / 2 ^ (k + 1) = A / 2 ^ k / 2 := by rw [Nat.pow_succ, Nat.div_div_eq_div_mul]
  rw [e]
  generalize A / 2 ^ k = Y
  have e1 : Y = 2 * (Y / 2) + Y % 2 := by omega
  have hb : Y % 2 ≤ 1 := by omega
  refine ⟨e1, ?_, ?_⟩
  · intro h
    generalize Y % 2 = b at *
    generalize Y / 2 = X at *
    subst e1
    have hX := Nat.div_add_mod X D
    generalize X / D = u at *
    generalize X % D = v at *
    subst hX
    have e2 : 2 * (D * u + v) + b = (2 * v + b) + D * (2 * u) := by rw [Nat.mul_add, Nat.mul_left_comm]; omega
    rw [e2, Nat.add_mul_div_left _ _ hD, Nat.add_mul_mod_self_left, Nat.div_eq_of_lt h, Nat.mod_eq_of_lt h]
    exact ⟨by omega, rfl⟩
  · intro h
    have hv := Nat.mod_lt (Y / 2) hD
    generalize Y % 2 = b at *
    generalize Y / 2 = X at *
    subst e1
    have hX := Nat.div_add_mod X D
    generalize X / D = u at *
    generalize X % D = v at *
    subst hX
    have e2 : 2 * (D * u + v) + b = (2 * v + b - D) + D * (2 * u + 1) := by rw [Nat.mul_add, Nat.mul_left_comm, Nat.mul_add, Nat.mul_one]; omega
    have h3 : 2 * v + b - D < D := by omega
    rw [e2, Nat.add_mul_div_left _ _ hD, Nat.add_mul_mod_self_left, Nat.div_eq_of_lt h3, Nat.mod_eq_of_lt h3]
    exact ⟨by omega, rfl⟩
theorem PartIn.start {B A D la lb : Nat} (hB : B = 2 ^ 32) (hA : A < B ^ la) {q r : List Nat} (ql : q.length = la) (qz : ∀ x ∈ q, x = 0) (rl : r.length = lb + 1) (rz : ∀ x ∈ r, x = 0) : PartIn B A D la lb (32 * la) q r := by
  have h2 : 0 < B := by rw [hB]; exact Nat.two_pow_pos 32
  have e : A / 2 ^ (32 * la) = 0 := by rw [← pow_two hB]; exact Nat.div_eq_of_lt hA
  refine ⟨ql, fun x hx => by rw [qz x hx]; exact h2, ?_, rl, fun x hx => by rw [rz x hx]; exact h2, ?_⟩
  · rw [val_zeros B qz, e]; simp
  · rw [val_zeros B rz, e]; simp
theorem PartIn.small {B A D la lb k : Nat} {q r r' : List Nat} (hD : 0 < D) (h : PartIn B A D la lb (k + 1) q r) (rl : r'.length = lb + 1) (low : Low B r') (hv : val B r' = 2 * val B r + A / 2 ^ k % 2) (hlt : val B r' < D) : PartIn B A D la lb k q r' := by
  obtain ⟨_, h1, _⟩ := part_step A D k hD
  rw [hv, h.rv] at hlt
  obtain ⟨e1, e2⟩ := h1 hlt
  refine ⟨h.ql, h.qlow, ?_, rl, low, ?_⟩
  · rw [h.qv, e1, Nat.pow_succ]
    rw [Nat.mul_comm 2, Nat.mul_assoc, Nat.mul_comm 2]
  · rw [hv, h.rv, e2]
theorem PartIn.great {B A D la lb k : Nat} (hB : B = 2 ^ 32) {q r r' : List Nat} (hD : 0 < D) (h : PartIn B A D la lb (k + 1) q r) (hk : k / 32 < la) (rl : r'.length = lb + 1) (low : Low B r') (hv : val B r' = 2 * val B r + A / 2 ^ k % 2 - D) (hge : D ≤ 2 * val B r + A / 2 ^ k % 2) :
    PartIn B A D la lb k (q.set (k / 32) (q.getD (k / 32) 0 + 2 ^ (k % 32))) r' ∧ q.getD (k / 32) 0 + 2 ^ (k % 32) < B ∧ 2 ^ (k % 32 + 1) ∣ q.getD (k / 32) 0 := by
  obtain ⟨_, _, h2⟩ := part_step A D k hD
  rw [h.rv] at hge
  obtain ⟨e1, e2⟩ := h2 hge
  have hd : 2 ^ (k + 1) ∣ val B q := ⟨A / 2 ^ (k + 1) / D, by rw [h.qv, Nat.mul_comm]⟩
  have hkq : k / 32 < q.length := by rw [h.ql]; exact hk
  obtain ⟨s1, s2⟩ := set_bit hB h.qlow hkq hd
  refine ⟨⟨by rw [List.length_set]; exact h.ql, h.qlow.set _ s2, ?_, rl, low, ?_⟩, s2, free_bit hB h.qlow hkq hd⟩
  · rw [s1, h.qv, e1, Nat.pow_succ, Nat.add_mul, Nat.one_mul]
    rw [Nat.mul_comm 2, Nat.mul_assoc, Nat.mul_comm 2]
  · rw [hv, h.rv, e2]
open Go.RowKit
theorem or_low (x y : Nat) (hx : x ≤ 8589934590) (h2 : x % 2 = 0) (hy : y ≤ 1) : bits BinOp.or IntKind.u64 (x : Int) (y : Int) = (x : Int) + (y : Int) :=
  bits_join .u64 64 (by decide) (fun n h0 h1 => by rw [IntKind.wrap_u64]; omega) 1 (x : Int) (y : Int) (by omega) (by simp; omega) (by omega) (by omega) (by simp; omega) (by omega)
set_option maxRecDepth 100000 in
set_option maxHeartbeats 800000 in
theorem clo94 (A : Option Addr) (n c : Nat) (r : List Nat) (bit b1 b2 i cr : Nat) (w : World) (h : LimbsAt w A n c r) (hi : i < n) (hb : bit ≤ 1) (hc : cr ≤ 1)
    (c1 : w.cell? ⟨b1, 0, none⟩ = some (.int .u32 (bit : Int))) (c2 : w.cell? ⟨b2, 0, none⟩ = some (.slice A n c)) :
    Calls Tryz.prog 161 #[.int .i64 (i : Int), .int .u64 (cr : Int), .pointer (some ⟨b1, 0, none⟩), .pointer (some ⟨b2, 0, none⟩)] w (U64Post (dblF r bit i cr) w) := by
  have hx := low_cast h.low i
  have hn := h.max
  obtain ⟨b, off, rfl, _, hcx⟩ := h.row.2 i hi
  obtain ⟨x, hxx⟩ : ∃ x, x = r.getD i 0 := ⟨_, rfl⟩
  rw [← hxx] at hx hcx
  have E : dblF r bit i cr = 2 * x + if i = 0 then bit else cr := by rw [hxx]; rfl
  by_cases h0 : i = 0
  · subst h0
    rw [E, if_pos rfl]
    rw [Nat.add_zero] at hcx
    clear E hxx h
    go_enter Tryz.func161, Tryz.ntmps161
    have E2 : bits BinOp.or IntKind.u64 ((x : Int) * 2) (bit : Int) = ((2 * x + bit : Nat) : Int) := by
      have := or_low (2 * x) bit (by omega) (by omega) hb
      rw [show ((2 * x : Nat) : Int) = (x : Int) * 2 from by omega] at this
      rw [this]; omega
    have HE := Lib.hid E2
    clear E2
    go_wp2_with fail
    go_ret
    exact ⟨by rw [← HE.out]; rfl, Keep.refl _ _⟩
  · rw [E, if_neg h0]
    have hb0 : ((i : Int) == 0) = false := by simp; omega
    clear E hxx h h0
    go_enter Tryz.func161, Tryz.ntmps161
    have E2 : bits BinOp.or IntKind.u64 ((x : Int) * 2) (cr : Int) = ((2 * x + cr : Nat) : Int) := by
      have := or_low (2 * x) cr (by omega) (by omega) hc
      rw [show ((2 * x : Nat) : Int) = (x : Int) * 2 from by omega] at this
      rw [this]; omega
    have HE := Lib.hid E2
    clear E2
    go_wp2_with fail
    go_ret
    exact ⟨by rw [← HE.out]; rfl, Keep.refl _ _⟩
/-- A quotient and a rest, each in memory of its own. -/
def PartPost (a d : Nat) (w : World) (e : Ending) (w' : World) : Prop :=
  ∃ (A : Option Addr) (n c : Nat) (q : List Nat) (A' : Option Addr) (n' c' : Nat) (r : List Nat), e = .returned (.tuple #[.slice A n c, .slice A' n' c']) ∧
    OwnR 39 .u32 w' w.heap.size A n c q ∧ Low BB q ∧ lval q = a / d ∧ n ≤ 10000 ∧
    OwnR 39 .u32 w' w.heap.size A' n' c' r ∧ Low BB r ∧ lval r = a % d ∧ (n' ≤ 10000 ∧ n' ≤ (limbs d).length + 1) ∧ Keep (fun _ => False) w w'
theorem BB_two : BB = 2 ^ 32 := by unfold BB; rfl
theorem or_bit {y s : Nat} (hy : y + 2 ^ s < BB) (hd : 2 ^ (s + 1) ∣ y) : bits BinOp.or IntKind.u32 (y : Int) (2 ^ s % 4294967296) = ((y + 2 ^ s : Nat) : Int) := by
  unfold BB at hy
  have hp : 2 ^ s < 2 ^ (s + 1) := by rw [Nat.pow_succ]; have := Nat.two_pow_pos s; omega
  have e : ((2 : Int) ^ s % 4294967296) = ((2 ^ s : Nat) : Int) := by
    have : ((2 : Int) ^ s) = ((2 ^ s : Nat) : Int) := by simp
    rw [this]
    generalize 2 ^ s = z at *
    omega
  rw [e]
  have hm : y % 2 ^ (s + 1) = 0 := Nat.mod_eq_zero_of_dvd hd
  have h := bits_join .u32 32 (by decide) (fun n h0 h1 => by rw [IntKind.wrap_u32]; omega) (s + 1) (y : Int) ((2 ^ s : Nat) : Int) (by omega) (by
      have : ((2 : Int) ^ (s + 1)) = ((2 ^ (s + 1) : Nat) : Int) := by simp
      rw [this]; exact_mod_cast hm) (by omega) (Int.natCast_nonneg _) (by
      have : ((2 : Int) ^ (s + 1)) = ((2 ^ (s + 1) : Nat) : Int) := by simp
      rw [this]
      exact Int.ofNat_lt.2 hp) (by
      generalize 2 ^ s = z at *
      omega)
  rw [h, Int.natCast_add]
theorem cmpN_ge {a b : Nat} (h : b ≤ a) : 0 ≤ cmpN a b ∧ cmpN a b ≤ 1 := by
  unfold cmpN
  rw [if_neg (by omega)]
  split <;> omega
theorem bit_and {x s bit : Nat} (hx : x ≤ 4294967295) (h : bit = x / 2 ^ s % 2) : bits BinOp.and IntKind.u32 ((x : Int) / 2 ^ s) 1 = (bit : Int) := by
  have e : (x : Int) / 2 ^ s = ((x / 2 ^ s : Nat) : Int) := by simp
  have hle : x / 2 ^ s ≤ x := Nat.div_le_self _ _
  rw [e]
  generalize x / 2 ^ s = y at *
  have h := bits_mask .u32 32 (by decide) (fun n h0 h1 => by rw [IntKind.wrap_u32]; omega) 1 (by decide) (y : Int) (by omega) (by omega)
  rw [show (bit : Int) = ((y % 2 : Nat) : Int) from by omega]
  simpa using h
/-- The quotient's and the rest's memory while they are made. -/
structure Mid (w : World) (Bc Bq la : Nat) (A : Option Addr) (n c : Nat) (q r : List Nat) (wr : World) : Prop where
  hb : wr.heap[Bc]? = some (.cells #[.slice A n c] 22 (0, 0))
  q : OwnR 39 .u32 wr w.heap.size (some ⟨Bq, 0, none⟩) la la q
  r : OwnR 39 .u32 wr w.heap.size A n c r
  ne : ∀ b off, A = some ⟨b, off, none⟩ → b ≠ Bq ∧ b ≠ Bc
  K : Keep (fun _ => False) w wr
  hc : w.heap.size ≤ Bc
  hq : Bq ≠ Bc
theorem set_head {w : World} {b : Nat} {v u : Value} {t : TypeId} (h : w.heap[b]? = some (.cells #[v] t (0, 0))) : (w.setCell ⟨b, 0, none⟩ u).heap[b]? = some (.cells #[u] t (0, 0)) := by
  simp [World.setCell, Array.getElem?_modify, h]
namespace Mid
variable {w wr : World} {Bc Bq la n c n2 c2 : Nat} {A A2 : Option Addr} {q r r2 : List Nat}
theorem put (h : Mid w Bc Bq la A n c q r wr) {w3 : World} (k : Keep (fun _ => False) wr w3) (o : OwnR 39 .u32 w3 wr.heap.size A2 n2 c2 r2) : Mid w Bc Bq la A2 n2 c2 q r2 (w3.setCell ⟨Bc, 0, none⟩ (.slice A2 n2 c2)) := by
  have hBq := (h.q.fresh Bq 0 rfl).2
  have hBc := heap_lt h.hb
  have kc : Keep (fun b => b = Bc) w3 (w3.setCell ⟨Bc, 0, none⟩ (.slice A2 n2 c2)) := setCell_keep (S := fun b => b = Bc) rfl 0 _
  refine ⟨set_head (k.heap h.hb (by simp)), ?_, ?_, ?_, ?_, h.hc, h.hq⟩
  · exact (h.q.keep0 k).keep kc (fun b off e => by injection e with e; injection e with e _ _; rw [← e]; exact h.hq)
  · exact (o.mono h.K.size).keep kc (fun b off e => by have := (o.fresh b off e).1; show b ≠ Bc; omega)
  · intro b off e
    have := (o.fresh b off e).1
    omega
  · exact (h.K.trans k).into kc (by rintro i rfl; exact h.hc)
theorem bitQ (h : Mid w Bc Bq la A n c q r wr) {j : Nat} (hj : j < la) (x : Nat) : Mid w Bc Bq la A n c (q.set j x) r (wr.setCell ⟨Bq, j, none⟩ (.int .u32 (x : Int))) := by
  have kc : Keep (fun b => b = Bq) wr (wr.setCell ⟨Bq, j, none⟩ (.int .u32 (x : Int))) := setCell_keep (S := fun b => b = Bq) rfl j _
  refine ⟨kc.heap h.hb (fun e => h.hq e.symm), h.q.set hj x, h.r.keep kc (fun b off e => (h.ne b off e).1), h.ne, h.K.into kc ?_, h.hc, h.hq⟩
  intro i e
  rw [e]
  exact (h.q.fresh Bq 0 rfl).1
theorem drew (h : Mid w Bc Bq la A n c q r wr) : Mid w Bc Bq la A n c q r wr.drew := ⟨h.hb, h.q, h.r, h.ne, h.K.drew, h.hc, h.hq⟩
theorem step (h : Mid w Bc Bq la A n c q r wr) {w3 : World} (k : Keep (fun _ => False) wr w3) : Mid w Bc Bq la A n c q r w3 := ⟨k.heap h.hb (by simp), h.q.keep0 k, h.r.keep0 k, h.ne, h.K.trans k, h.hc, h.hq⟩
theorem cellC (h : Mid w Bc Bq la A n c q r wr) : wr.cell? ⟨Bc, 0, none⟩ = some (.slice A n c) := by rw [cell_of_row wr _ _ _ _ _ h.hb]; rfl
theorem frozenC (h : Mid w Bc Bq la A n c q r wr) : wr.frozen? ⟨Bc, 0, none⟩ = false := by simp [World.frozen?, h.hb]
theorem cellQ (h : Mid w Bc Bq la A n c q r wr) {j : Nat} (hj : j < la) : wr.cell? ⟨Bq, j, none⟩ = some (.int .u32 ((q.getD j 0 : Nat) : Int)) := by
  obtain ⟨b, off, e, _, hcx⟩ := h.q.row.2 j hj
  injection e with e
  injection e with e1 e2 _
  subst e1 e2
  rwa [Nat.zero_add] at hcx
end Mid
theorem dbl_row (Bc b1 : Nat) (A : Option Addr) (n c : Nat) (r : List Nat) (bit : Nat) (w : World) (h : LimbsAt w A n c r) (hb : w.heap[Bc]? = some (.cells #[.slice A n c] 22 (0, 0))) (hb1 : w.heap[b1]? = some (.cells #[.int .u32 (bit : Int)] 39 (0, 0))) (hbit : bit ≤ 1) :
    Calls Tryz.prog 113 #[.int .i64 (n : Int), .func (.func 161) #[] #[.pointer (some ⟨b1, 0, none⟩), .pointer (some ⟨Bc, 0, none⟩)]] w (OwnPost (rowL BB (dblF r bit) n) w) := by
  refine row94 n b1 Bc (dblF r bit) w h.max (fun i _ => ?_) (fun i w' hi K' => ?_)
  · have := (dbl_bound BB2 h.low hbit i).1
    unfold BB at this
    unfold BB
    omega
  · exact clo94 A n c r bit b1 Bc i _ w' (h.keep0 K') hi hbit (dbl_bound BB2 h.low hbit i).2 (by rw [cell_of_row w' _ _ _ _ _ (K'.heap hb1 (by simp))]; rfl) (by rw [cell_of_row w' _ _ _ _ _ (K'.heap hb (by simp))]; rfl)
/-- The state when k bits are left. -/
def PSt (w : World) (Bc Bq la lb a d k : Nat) (wr : World) : Prop :=
  ∃ (A : Option Addr) (c : Nat) (q r : List Nat), Mid w Bc Bq la A (lb + 1) c q r wr ∧ PartIn BB a d la lb k q r
theorem pst_init {w : World} {Bc Bq Br la lb a d : Nat} {wx : World} (hA : a < BB ^ la) (hb : wx.heap[Bc]? = some (.cells #[.slice (some ⟨Br, 0, none⟩) (lb + 1) (lb + 1)] 22 (0, 0)))
    (q : OwnR 39 .u32 wx w.heap.size (some ⟨Bq, 0, none⟩) la la (List.replicate la 0)) (r : OwnR 39 .u32 wx w.heap.size (some ⟨Br, 0, none⟩) (lb + 1) (lb + 1) (List.replicate (lb + 1) 0)) (hne : Br ≠ Bq) (hne2 : Br ≠ Bc) (hq : Bq ≠ Bc) (hc : w.heap.size ≤ Bc) (K : Keep (fun _ => False) w wx) : PSt w Bc Bq la lb a d (32 * la) wx :=
  ⟨_, _, _, _, ⟨hb, q, r, fun b off e => by injection e with e; injection e with e _ _; rw [← e]; exact ⟨hne, hne2⟩, K, hc, hq⟩, PartIn.start BB_two hA (by simp) (fun x hx => (List.mem_replicate.1 hx).2) (by simp) (fun x hx => (List.mem_replicate.1 hx).2)⟩
theorem two_made {w1 : World} {Bc N1 N2 : Nat} {v u : Value} (hb : w1.heap[Bc]? = some (.cells #[v] 22 (0, 0))) (h1 : N1 ≤ 100000) (h2 : N2 ≤ 100000) :
    OwnR 39 .u32 (((w1.setCell ⟨Bc, 0, none⟩ u).alloc (.cells (madeCells #[Value.int .u32 0] N1) 39)).alloc (.cells (madeCells #[Value.int .u32 0] N2) 39)).drew w1.heap.size (some ⟨w1.heap.size, 0, none⟩) N1 N1 (List.replicate N1 0) ∧
    OwnR 39 .u32 (((w1.setCell ⟨Bc, 0, none⟩ u).alloc (.cells (madeCells #[Value.int .u32 0] N1) 39)).alloc (.cells (madeCells #[Value.int .u32 0] N2) 39)).drew w1.heap.size (some ⟨w1.heap.size + 1, 0, none⟩) N2 N2 (List.replicate N2 0) ∧
    (((w1.setCell ⟨Bc, 0, none⟩ u).alloc (.cells (madeCells #[Value.int .u32 0] N1) 39)).alloc (.cells (madeCells #[Value.int .u32 0] N2) 39)).drew.heap[Bc]? = some (.cells #[u] 22 (0, 0)) ∧
    Keep (fun b => b = Bc) w1 (((w1.setCell ⟨Bc, 0, none⟩ u).alloc (.cells (madeCells #[Value.int .u32 0] N1) 39)).alloc (.cells (madeCells #[Value.int .u32 0] N2) 39)).drew := by
  have hs : (w1.setCell ⟨Bc, 0, none⟩ u).heap.size = w1.heap.size := by simp [World.setCell]
  have m1 := make_own (w1.setCell ⟨Bc, 0, none⟩ u) N1 h1
  rw [hs] at m1
  have m2 := make_own ((w1.setCell ⟨Bc, 0, none⟩ u).alloc (.cells (madeCells #[Value.int .u32 0] N1) 39)) N2 h2
  rw [World.size_alloc, hs] at m2
  have hB := heap_lt hb
  refine ⟨m1.keep0 (((Keep.refl _ _).alloc _).drew), (m2.mono (Nat.le_succ _)).keep0 ((Keep.refl _ _).drew), ?_, ?_⟩
  · show (((w1.setCell ⟨Bc, 0, none⟩ u).alloc _).alloc _).heap[Bc]? = _
    rw [Below.heap_alloc _ _ _ (by rw [World.size_alloc, hs]; omega), Below.heap_alloc _ _ _ (by rw [hs]; omega)]
    exact set_head hb
  · exact ((((Keep.refl (fun b => b = Bc) w1).setCell (p := ⟨Bc, 0, none⟩) (.inl rfl) u).alloc _).alloc _).drew
theorem part_done {w : World} {Bc Bq la lb a d : Nat} {A : Option Addr} {c : Nat} {q r : List Nat} {wr : World} (M : Mid w Bc Bq la A (lb + 1) c q r wr) (P : PartIn BB a d la lb 0 q r) (ha : la ≤ 10000) (hb : lb + 1 ≤ 10000) (hl : lb = (limbs d).length) :
    PartPost a d w (.returned (.tuple #[.slice (some ⟨Bq, 0, none⟩) la la, .slice A (lb + 1) c])) (wr.setCell ⟨Bc, 0, none⟩ (.slice A (lb + 1) c)).drew := by
  have kc : Keep (fun b => b = Bc) wr (wr.setCell ⟨Bc, 0, none⟩ (.slice A (lb + 1) c)).drew := (setCell_keep (S := fun b => b = Bc) rfl 0 _).drew
  have e1 : lval q = a / d := by have := P.qv; simpa using this
  have e2 : lval r = a % d := by have := P.rv; simpa using this
  exact ⟨_, _, _, q, _, _, _, r, rfl, M.q.keep kc (fun b off e => by injection e with e; injection e with e _ _; rw [← e]; exact M.hq), P.qlow, e1, ha,
    M.r.keep kc (fun b off e => (M.ne b off e).2), P.rlow, e2, ⟨hb, by omega⟩, M.K.into kc (by rintro i rfl; exact M.hc)⟩
set_option maxRecDepth 100000 in
set_option maxHeartbeats 8000000 in
theorem parted_any (A : Option Addr) (n c : Nat) (l : List Nat) (A' : Option Addr) (n' c' : Nat) (l' : List Nat) (w : World) (h : LimbsAt w A n c l) (h' : LimbsAt w A' n' c' l') (hm : n ≤ 9000) (hm' : n' ≤ 9000) (hD : 0 < lval l') :
    Calls Tryz.prog 121 #[.slice A n c, .slice A' n' c'] w (PartPost (lval l) (lval l') w) := by
  have K : Keep (fun _ => False) w (w.alloc (.cells #[.slice none 0 0] 22)) := (Keep.refl _ _).alloc _
  have hb : (w.alloc (.cells #[.slice none 0 0] 22)).heap[w.heap.size]? = some (.cells #[.slice none 0 0] 22 (0, 0)) := heap_alloc_new w _
  have h1 := h.keep0 K
  have h1' := h'.keep0 K
  have tl := tlen_le h1.low
  have tl' := tlen_le h1'.low
  rw [h1.len] at tl
  rw [h1'.len] at tl'
  go_enter Tryz.func121, Tryz.ntmps121
  go_wp2_with fail
  refine (trim_any A n c l _ h1).mono ?_
  rintro e w1 ⟨rfl, rfl⟩
  go_wp2_with fail
  refine (trim_any A' n' c' l' _ h1').mono ?_
  rintro e w1 ⟨rfl, rfl⟩
  have ha := h.trim
  have hd := h'.trim
  obtain ⟨la, hla⟩ : ∃ la, la = tlen l := ⟨_, rfl⟩
  obtain ⟨lb, hlb⟩ : ∃ lb, lb = tlen l' := ⟨_, rfl⟩
  obtain ⟨a, haa⟩ : ∃ a, a = limbs (lval l) := ⟨_, rfl⟩
  obtain ⟨d, hdd⟩ : ∃ d, d = limbs (lval l') := ⟨_, rfl⟩
  have hva : lval a = lval l := by rw [haa, lval_limbs]
  have hvd : lval d = lval l' := by rw [hdd, lval_limbs]
  rw [← hla, ← haa] at ha
  rw [← hlb, ← hdd] at hd
  rw [← hla] at tl
  rw [← hlb] at tl'
  rw [← hla, ← hlb]
  have hDd : 0 < lval d := by rw [hvd]; exact hD
  have HVA := Lib.hid hva
  have HVD := Lib.hid hvd
  have HLB := Lib.hid (show lb = (limbs (lval l')).length from hlb)
  clear hla hlb haa hdd h h' h1 h1' hva hvd hD
  go_wp2_with fail
  generalize hBc : w.heap.size = Bc at hb ⊢
  generalize w.alloc (.cells #[.slice none 0 0] 22) = w1 at K hb ⊢
  have HBC := Lib.hid hBc
  clear hBc
  have hmk1 := fun W : World => make_run la (by omega) W
  have hmk2 : ∀ W : World, (Instr.makeSlice 22 (.int .i64 ((lb : Int) + 1)) (.int .i64 ((lb : Int) + 1))).run Tryz.prog W = .ok (.slice (some ⟨W.heap.size, 0, none⟩) (lb + 1) (lb + 1)) (W.alloc (.cells (madeCells #[Value.int .u32 0] (lb + 1)) 39)) := fun W => make_run (lb + 1) (by omega) W
  have c0 : w1.cell? ⟨Bc, 0, none⟩ = some (.slice none 0 0) := by rw [cell_of_row w1 _ _ _ _ _ hb]; rfl
  have f0 : w1.frozen? ⟨Bc, 0, none⟩ = false := by simp [World.frozen?, hb]
  have hBl := heap_lt hb
  have hAl : lval l < BB ^ la := by rw [← HVA.out, ← ha.len]; exact val_lt ha.low
  have HAL := Lib.hid hAl
  have HDD := Lib.hid hDd
  clear hAl hDd
  go_cut [4] (fun qv wx => ∃ Bq : Nat, qv = .slice (some ⟨Bq, 0, none⟩) la la ∧ PSt w Bc Bq la lb (lval l) (lval l') (32 * la) wx ∧ Keep (fun b => b = Bc) w1 wx)
  case first =>
    go_region
    · go_wp2_with fail
      go_meet
      obtain ⟨m1, m2, m3, m4⟩ := two_made (u := .slice (some ⟨w1.heap.size + 1, 0, none⟩) (lb + 1) (lb + 1)) (N1 := la) (N2 := lb + 1) hb (by omega) (by omega)
      exact ⟨_, rfl, pst_init HAL.out m3 (m1.mono K.size) (m2.mono K.size) (by omega) (by omega) (by omega) (by rw [HBC.out]; exact Nat.le_refl _) (K.into m4 (by rintro i rfl; rw [HBC.out]; exact Nat.le_refl _)), m4⟩
    · go_wp2_with fail
      go_meet
      obtain ⟨m1, m2, m3, m4⟩ := two_made (u := .slice (some ⟨w1.heap.size, 0, none⟩) (lb + 1) (lb + 1)) (N1 := lb + 1) (N2 := la) hb (by omega) (by omega)
      exact ⟨_, rfl, pst_init HAL.out m3 (m2.mono K.size) (m1.mono K.size) (by omega) (by omega) (by omega) (by rw [HBC.out]; exact Nat.le_refl _) (K.into m4 (by rintro i rfl; rw [HBC.out]; exact Nat.le_refl _)), m4⟩
  case rest =>
    obtain ⟨Bq, rfl, st, kc⟩ := hcut
    have PST := Lib.hid st
    clear st hb c0 f0 hmk1 hmk2 
    go_wp2_with fail
    go_loopw [6] (fun iv wr => ∃ k : Nat, k ≤ 32 * la ∧ iv = .int .i64 ((k : Int) - 1) ∧ PSt w Bc Bq la lb (lval l) (lval l') k wr) (fun iv _ => (intOf iv + 1).toNat)
    case atStart => exact ⟨32 * la, Nat.le_refl _, by simp, PST.out⟩
    case round =>
      clear PST kc K
      obtain ⟨k, hk, rfl, A2, c2, q, r, M, P⟩ := hrel
      rcases Nat.eq_zero_or_pos k with rfl | hpos
      · have cC := M.cellC
        have fC := M.frozenC
        have cE : (wr.setCell ⟨Bc, 0, none⟩ (.slice A2 (lb + 1) c2)).drew.cell? ⟨Bc, 0, none⟩ = some (.slice A2 (lb + 1) c2) := by
          rw [cell_of_row _ _ _ _ _ _ (show (wr.setCell ⟨Bc, 0, none⟩ (.slice A2 (lb + 1) c2)).drew.heap[Bc]? = _ from set_head M.hb)]; rfl
        have HD := Lib.hid (part_done M P (by omega) (by omega) HLB.out)
        clear M P HDD HAL HVA HVD ha hd
        go_wp2_with fail
        go_big_region
        go_wp2_with fail
        refine bodyPost_ret (v := .tuple #[.slice (some ⟨Bq, 0, none⟩) la la, .slice A2 (lb + 1) c2]) ?_ rfl ?_
        · simp [results, Tryz.results121, go_sem, cE]
        · exact HD.out
      · obtain ⟨k, rfl⟩ : ∃ m, k = m + 1 := ⟨k - 1, by omega⟩
        have e1 : ((k + 1 : Nat) : Int) - 1 = (k : Int) := by omega
        rw [e1]
        have hj : k / 32 < la := by omega
        have ha2 := ha.keep0 M.K
        obtain ⟨ba, oa, rfl, _, hca⟩ := ha2.row.2 (k / 32) hj
        obtain ⟨x, hx⟩ : ∃ x, x = a.getD (k / 32) 0 := ⟨_, rfl⟩
        rw [← hx] at hca
        have hxl : x ≤ 4294967295 := by have := low_cast ha.low (k / 32); omega
        have cC := M.cellC
        have fC := M.frozenC
        have hBl := heap_lt M.hb
        obtain ⟨bit, hbit⟩ : ∃ bit, bit = lval l / 2 ^ k % 2 := ⟨_, rfl⟩
        have hand : bits BinOp.and IntKind.u32 ((x : Int) / 2 ^ (k % 32)) 1 = (bit : Int) := bit_and hxl (by rw [hbit, ← HVA.out, hx]; exact (bit_of BB_two ha.low (by rw [ha.len]; exact hj)).symm)
        have hb1 : bit ≤ 1 := by rw [hbit]; omega
        have HBIT := Lib.hid hbit
        have HM := Lib.hid M
        have HP := Lib.hid P
        clear M P ha2 hx hbit
        go_wp2_with fail
        have K2 : Keep (fun _ => False) wr (wr.alloc (.cells #[.int .u32 (bit : Int)] 39)) := (Keep.refl _ _).alloc _
        have hbb : (wr.alloc (.cells #[.int .u32 (bit : Int)] 39)).heap[wr.heap.size]? = some (.cells #[.int .u32 (bit : Int)] 39 (0, 0)) := heap_alloc_new wr _
        have hr := HM.out.r.toLimbs HP.out.rlow (by omega)
        have e2 : (lb : Int) + 1 = ((lb + 1 : Nat) : Int) := by omega
        rw [e2]
        refine (dbl_row Bc wr.heap.size A2 (lb + 1) c2 r bit _ (hr.keep0 K2) (K2.heap HM.out.hb (by simp)) hbb hb1).mono ?_
        rintro e w3 ⟨A3, n3, c3, rfl, own3, K3⟩
        have hn3 : n3 = lb + 1 := by have := own3.len; unfold rowL at this; simpa using this.symm
        subst hn3
        have hrv : lval (rowL BB (dblF r bit) (lb + 1)) = 2 * lval r + bit := by
          have hb2 := HP.out.rl
          have hlt : lval r < lval l' := by show val BB r < _; rw [HP.out.rv]; exact Nat.mod_lt _ (by rw [← HVD.out]; exact HDD.out)
          have hdl : lval d < BB ^ lb := by have := val_lt hd.low; rwa [hd.len] at this
          rw [HVD.out] at hdl
          have h2 := dbl_val BB2 (r := r) HP.out.rlow hb1 (by omega) (by
            rw [hb2, Nat.pow_succ]
            show 2 * lval r + bit < _
            have : BB ^ lb * 2 ≤ BB ^ lb * BB := Nat.mul_le_mul_left _ BB2
            omega)
          rw [hb2] at h2
          exact h2
        have hrl : (rowL BB (dblF r bit) (lb + 1)).length = lb + 1 := own3.len
        have hlow : Low BB (rowL BB (dblF r bit) (lb + 1)) := rowL_low (by unfold BB; omega) _ _
        have M3 := HM.out.put (K2.trans K3) (own3.mono K2.size)
        generalize rowL BB (dblF r bit) (lb + 1) = r2 at own3 hrv hrl hlow M3
        have hh3 := (K2.trans K3).heap HM.out.hb (by simp)
        have f3 : w3.frozen? ⟨Bc, 0, none⟩ = false := by simp [World.frozen?, hh3]
        have d3 : w3.cell? ⟨Bc, 0, none⟩ = some (.slice A2 (lb + 1) c2) := by rw [cell_of_row w3 _ _ _ _ _ hh3]; rfl
        have d4 := M3.cellC
        have f4 := M3.frozenC
        have HR := Lib.hid (And.intro hrv (And.intro hrl hlow))
        have HM3 := Lib.hid M3
        clear M3 own3 hrv hrl hlow K2 hbb hr K3 hh3 HM hca cC fC hand e1
        dsimp only
        go_wp2_with fail
        refine (order_any A3 (lb + 1) c3 r2 A' lb c' d _ (HM3.out.r.toLimbs HR.out.2.2 (by omega)) (hd.keep0 HM3.out.K)).mono ?_
        rintro e w5 ⟨rfl, K5⟩
        have M5 := HM3.out.step K5
        clear K5 HM3 d3 f3 d4 f4
        have d5 := M5.cellC
        have f5 := M5.frozenC
        rcases Nat.lt_or_ge (lval r2) (lval l') with hlt | hge
        · rw [show cmpN (lval r2) (lval d) = -1 from cmpN_lt (by rw [HVD.out]; exact hlt)]
          have R : PSt w Bc Bq la lb (lval l) (lval l') k w5 := ⟨_, _, _, _, M5, PartIn.small (by rw [← HVD.out]; exact HDD.out) HP.out HR.out.2.1 HR.out.2.2 (by rw [← HBIT.out]; exact HR.out.1) hlt⟩
          have HRR := Lib.hid R
          clear R M5 hlt
          dsimp only
          go_wp2_with fail
          go_roundw
          case rel => exact ⟨k, by omega, by go_num, HRR.out⟩
          case measure => simp [intOf]
        · obtain ⟨z, hz⟩ : ∃ z, z = cmpN (lval r2) (lval d) := ⟨_, rfl⟩
          have hz0 : 0 ≤ z ∧ z ≤ 1 := by rw [hz, HVD.out]; exact cmpN_ge hge
          obtain ⟨hz0, hz1⟩ := hz0
          rw [← hz]
          have HM5 := Lib.hid M5
          have hn := HM5.out.r.toLimbs HR.out.2.2 (by omega)
          have HLESS := Lib.hid (less_any A3 (lb + 1) c3 r2 A' lb c' d w5 hn (hd.keep0 HM5.out.K) (by omega))
          clear M5 hz hn
          dsimp only
          go_wp2_with fail
          refine HLESS.out.mono ?_
          rintro e w6 ⟨A6, n6, c6, rfl, own6, K6⟩
          have M6 := HM5.out.put K6 own6
          have hh6 := K6.heap HM5.out.hb (by simp)
          have f6 : w6.frozen? ⟨Bc, 0, none⟩ = false := by simp [World.frozen?, hh6]
          have d6 : w6.cell? ⟨Bc, 0, none⟩ = some (.slice A3 (lb + 1) c3) := by rw [cell_of_row w6 _ _ _ _ _ hh6]; rfl
          have hn6 : n6 = lb + 1 := by have := own6.len; unfold rowL at this; simpa using this.symm
          subst hn6
          have hge2 : lval d ≤ lval r2 := by rw [HVD.out]; exact hge
          have hv6 : lval (rowL BB (lessF r2 d) (lb + 1)) = lval r2 - lval l' := by
            have := less_val HR.out.2.2 hd.low hge2
            rw [HR.out.2.1] at this
            rw [← HVD.out]
            exact this
          obtain ⟨g1, g2, g3⟩ := PartIn.great (k := k) (r' := rowL BB (lessF r2 d) (lb + 1)) BB_two (by rw [← HVD.out]; exact HDD.out) HP.out hj own6.len (rowL_low (by unfold BB; omega) _ _) (by
            show lval _ = _
            rw [hv6, HR.out.1, HBIT.out]) (by rw [← HBIT.out]; have := HR.out.1; show lval l' ≤ 2 * lval r + bit; omega)
          have M7 := M6.bitQ hj (q.getD (k / 32) 0 + 2 ^ (k % 32))
          have R : PSt w Bc Bq la lb (lval l) (lval l') k _ := ⟨_, _, _, _, M7.drew, g1⟩
          have cq := M6.cellQ hj
          have fq := M6.q.frozen _ _ rfl (k / 32)
          obtain ⟨y, hy⟩ : ∃ y, y = q.getD (k / 32) 0 := ⟨_, rfl⟩
          rw [← hy] at R g2 g3 cq
          have HOR := Lib.hid (or_bit g2 g3)
          have HRR := Lib.hid R
          clear R g1 g2 g3 hy M7 hv6 hge hge2 M6 own6 K6 hh6 HLESS HM5 HBIT HP HVA HVD HAL HDD d5 f5 hz0 hz1 ha hd
          have hkm : (k : Int) ≤ 300000 := by omega
          clear tl tl'
          dsimp only
          go_wp2_with fail
          go_big_region
          rw [HOR.out]
          go_wp2_with fail
          go_roundw
          case rel => exact ⟨k, by omega, by go_num, HRR.out⟩
          case measure => simp [intOf]
open Go.RowKit
theorem Box3.step {w w1 w2 : World} {B : Nat} {u v x y : Value} (h : Box3 w w1 B u v x y) (k : Keep (fun _ => False) w1 w2) : Box3 w w2 B u v x y :=
  ⟨h.k.trans k, k.heap h.b1 (by simp), k.heap h.b2 (by simp), k.heap h.b3 (by simp), h.lo, Nat.lt_of_lt_of_le h.hi k.size⟩
theorem signI_zero (x : Int) : (signI x == 0) = decide (x = 0) := by
  unfold signI
  by_cases h1 : x < 0
  · rw [if_pos h1, decide_eq_false (by omega)]; rfl
  · rw [if_neg h1]
    by_cases h2 : 0 < x
    · rw [if_pos h2, decide_eq_false (by omega)]; rfl
    · rw [if_neg h2, decide_eq_true (by omega)]; rfl
theorem sval_zero (neg : Bool) (l : List Nat) : sval neg l = 0 ↔ lval l = 0 := by
  unfold sval; cases neg <;> simp
theorem sval_bB (neg : Bool) (l : List Nat) : sval (belowB neg l) l = sval neg l := by
  unfold sval belowB
  by_cases h : 0 < lval l
  · simp [h]
  · have : lval l = 0 := by omega
    simp [this]
theorem quo_sval (neg : Bool) (l : List Nat) (neg' : Bool) (l' m : List Nat) (hm : lval m = lval l / lval l') : sval (belowB neg l != belowB neg' l') m = Int.tdiv (sval neg l) (sval neg' l') := by
  rw [← sval_bB neg l, ← sval_bB neg' l']
  generalize belowB neg l = p
  generalize belowB neg' l' = q
  unfold sval
  rw [hm]
  cases p <;> cases q <;> simp [Int.natCast_ediv, Int.neg_tdiv, Int.tdiv_neg]
theorem rem_sval (neg : Bool) (l : List Nat) (neg' : Bool) (l' m : List Nat) (hm : lval m = lval l % lval l') : sval (belowB neg l) m = Int.tmod (sval neg l) (sval neg' l') := by
  rw [← sval_bB neg l, ← sval_bB neg' l']
  generalize belowB neg l = p
  generalize belowB neg' l' = q
  unfold sval
  rw [hm]
  cases p <;> cases q <;> simp [Int.neg_tmod, Int.tmod_neg] <;> exact (Int.tmod_eq_emod_of_nonneg (Int.natCast_nonneg _)).symm
theorem neg_mod (a d : Nat) (hd : 0 < d) : (-(a : Int)) % (d : Int) = ((if 0 < a % d then d - a % d else 0 : Nat) : Int) := by
  have e0 := Nat.div_add_mod a d
  have hlt := Nat.mod_lt a hd
  generalize a / d = k at *
  generalize a % d = r at *
  subst e0
  by_cases h : 0 < r
  · rw [if_pos h]
    have e : -((d * k + r : Nat) : Int) = ((d - r : Nat) : Int) + (d : Int) * (-((k : Int) + 1)) := by
      rw [Int.natCast_add, Int.natCast_mul, Int.mul_neg, Int.mul_add, Int.mul_one]
      omega
    rw [e, Int.add_mul_emod_self_left]
    exact_mod_cast Nat.mod_eq_of_lt (show d - r < d by omega)
  · rw [if_neg h]
    obtain rfl : r = 0 := by omega
    have e : -((d * k + 0 : Nat) : Int) = (d : Int) * (-(k : Int)) := by
      rw [Nat.add_zero, Int.natCast_mul, Int.mul_neg]
    rw [e]
    simp
theorem mod_sval (neg : Bool) (l : List Nat) (neg' : Bool) (l' m : List Nat) (hd : 0 < lval l') (hm : lval m = if (belowB neg l != belowB neg' l') = true ∧ 0 < lval l % lval l' then lval l' - lval l % lval l' else lval l % lval l') : sval (belowB neg' l') m = Int.fmod (sval neg l) (sval neg' l') := by
  rw [← sval_bB neg l, ← sval_bB neg' l']
  revert hm
  generalize belowB neg l = p
  generalize belowB neg' l' = q
  intro hm
  have hlt := Nat.mod_lt (lval l) hd
  have hng := neg_mod (lval l) (lval l') hd
  have hps : ((lval l : Nat) : Int) % (lval l' : Int) = ((lval l % lval l' : Nat) : Int) := by simp
  unfold sval
  rw [hm, Int.fmod_eq_emod]
  generalize lval l = a at *
  generalize lval l' = d at *
  generalize a % d = r at *
  cases p <;> cases q
  · rw [if_neg (show ¬ ((false != false) = true ∧ 0 < r) by simp)]
    simp only [if_false, Bool.false_eq_true, hps]
    rw [if_pos (c := (0 : Int) ≤ (d : Int) ∨ (d : Int) ∣ (a : Int)) (.inl (by omega))]
    simp
  · simp only [if_false, if_true, Bool.false_eq_true, Int.emod_neg, Int.dvd_iff_emod_eq_zero, hps]
    by_cases h : 0 < r
    · rw [if_pos (show (false != true) = true ∧ 0 < r from ⟨rfl, h⟩)]
      split <;> omega
    · rw [if_neg (show ¬ ((false != true) = true ∧ 0 < r) by simp; omega)]
      split <;> omega
  · simp only [if_false, if_true, Bool.false_eq_true, hng]
    rw [if_pos (c := (0 : Int) ≤ (d : Int) ∨ (d : Int) ∣ -(a : Int)) (.inl (by omega))]
    by_cases h : 0 < r
    · rw [if_pos (show (true != false) = true ∧ 0 < r from ⟨rfl, h⟩), if_pos h]; omega
    · rw [if_neg (show ¬ ((true != false) = true ∧ 0 < r) by simp; omega), if_neg h]; omega
  · rw [if_neg (show ¬ ((true != true) = true ∧ 0 < r) by simp)]
    simp only [if_true, Int.emod_neg, Int.dvd_iff_emod_eq_zero, hng]
    by_cases h : 0 < r
    · rw [if_pos h]; split <;> omega
    · rw [if_neg h]; split <;> omega
set_option maxRecDepth 100000 in
set_option maxHeartbeats 4000000 in
theorem quo_any (neg : Bool) (A : Option Addr) (n c : Nat) (l : List Nat) (neg' : Bool) (A' : Option Addr) (n' c' : Nat) (l' : List Nat) (w : World) (h : LimbsAt w A n c l) (h' : LimbsAt w A' n' c' l') (hm : n ≤ 9000) (hm' : n' ≤ 9000) (hD : 0 < lval l') :
    Calls Tryz.prog 76 #[numArg neg A n c, numArg neg' A' n' c'] w (ResPost (Int.tdiv (sval neg l) (sval neg' l')) w) := by
  have BX := box3 w (.bool neg) (.slice A n c) (.bool neg') (.slice A' n' c')
  have h1 := h.keep0 BX.k
  have h1' := h'.keep0 BX.k
  go_enter Tryz.func76, Tryz.ntmps76
  go_wp2_with fail
  generalize w.heap.size = Ba at BX ⊢
  generalize ((w.alloc (.cells #[.bool neg, .slice A n c] 24)).alloc (.cells #[.bool neg', .slice A' n' c'] 24)).alloc (.cells #[.bool false, .slice none 0 0] 24) = w1 at BX h1 h1' ⊢
  obtain ⟨c0, c1, c2, c3⟩ := BX.cells (Keep.refl _ _)
  have HBX := Lib.hid BX
  clear BX
  go_wp2_with fail
  refine (sign_any neg' A' n' c' l' w1 h1').mono ?_
  rintro e w2 ⟨rfl, k2⟩
  obtain ⟨z, hz⟩ : ∃ z, z = signI (sval neg' l') := ⟨_, rfl⟩
  have hz0 : (z == 0) = false := by
    rw [hz, signI_zero]
    have := sval_zero neg' l'
    exact decide_eq_false (by omega)
  rw [← hz]
  have h2 := h1.keep0 k2
  have h2' := h1'.keep0 k2
  have BX2 := HBX.out.step k2
  clear hz c0 c1 c2 c3 h1 h1' k2 HBX h h'
  obtain ⟨c0, c1, c2, c3⟩ := BX2.cells (Keep.refl _ _)
  have HBX := Lib.hid BX2
  have HP := Lib.hid (parted_any A n c l A' n' c' l' w2 h2 h2' hm hm' hD)
  clear BX2
  dsimp only
  go_wp2_with fail
  refine HP.out.mono ?_
  rintro e w3 ⟨Aq, nq, cq, q, Ar, nr, cr, r, rfl, oq, lq, vq, mq, or, lr, vr, mr, k3⟩
  have h3 := h2.keep0 k3
  have h3' := h2'.keep0 k3
  have BX3 := HBX.out.step k3
  clear c0 c1 c2 c3 h2 h2' k3 HBX HP
  have hL := oq.toLimbs lq (by omega)
  have HL := Lib.hid (fun (w' : World) (K' : Keep (fun _ => False) w3 w') => hL.keep0 K')
  have HB := Lib.hid (fun (w' : World) (K' : Keep (fun _ => False) w3 w') => below_any neg A n c l w' (h3.keep0 K'))
  have HB' := Lib.hid (fun (w' : World) (K' : Keep (fun _ => False) w3 w') => below_any neg' A' n' c' l' w' (h3'.keep0 K'))
  have HMV := Lib.hid (quo_sval neg l neg' l' q vq)
  obtain ⟨c0, c1, c2, c3⟩ := BX3.cells (Keep.refl _ _)
  have Kd : Keep (fun _ => False) w3 w3.drew := (Keep.refl _ _).drew
  have HBX := Lib.hid BX3
  generalize belowB neg l = p at HB HMV
  generalize belowB neg' l' = p' at HB' HMV
  clear BX3 h3 h3' hL lq vq lr vr oq or mr mq hD
  dsimp only
  go_wp2_with fail
  go_region_held3 (fun w' => w'.cell? ⟨Ba, 0, none⟩ = some (.bool neg) ∧ w'.cell? ⟨Ba, 1, none⟩ = some (.slice A n c) ∧ w'.cell? ⟨Ba + 1, 0, none⟩ = some (.bool neg') ∧ w'.cell? ⟨Ba + 1, 1, none⟩ = some (.slice A' n' c'))
    (first | exact HBX.out.cells Kd | (refine HBX.out.cells ?_; assumption) | (refine HBX.out.cellsS ?_ _ _; assumption))
    (first
      | (go_at_call 68; first
        | ((with_reducible refine (HB.out _ (by assumption)).mono ?_); rintro e w3 ⟨rfl, k3⟩; have K3 := Keep.trans (by assumption) k3)
        | ((with_reducible refine (HB'.out _ (by assumption)).mono ?_); rintro e w4 ⟨rfl, k4⟩; have K4 := Keep.trans (by assumption) k4))
      | (go_at_call 97; refine (made_any _ _ _ _ q _ (HL.out _ (by assumption))).mono ?_; intro e w8 hres; have K8 := Keep.trans (by assumption) hres.1; obtain ⟨ng, A8, n8, c8, f8, rfl, r0, r1, f0, f1, e0, e1, P⟩ := HBX.out.res (by assumption) hres))
  all_goals
    have hsv : sval (!(p == p')) q = Int.tdiv (sval neg l) (sval neg' l') := HMV.out
    rw [hsv] at P
    have HP := Lib.hid P
    have HE := Lib.hid (And.intro e0 e1)
    clear P hres hsv e0 e1
    go_wp2_with fail
    refine bodyPost_ret (v := .tuple #[numArg ng A8 n8 c8, .int .i64 f8]) ?_ rfl HP.out
    obtain ⟨e0, e1⟩ := HE.out
    simp [results, Tryz.results76, go_sem, e0, e1]
/-- The four cells of the two numbers that came in. -/
def S3 (Ba : Nat) (neg : Bool) (A : Option Addr) (n c : Nat) (neg' : Bool) (A' : Option Addr) (n' c' : Nat) (w' : World) : Prop :=
  w'.cell? ⟨Ba, 0, none⟩ = some (.bool neg) ∧ w'.cell? ⟨Ba, 1, none⟩ = some (.slice A n c) ∧ w'.cell? ⟨Ba + 1, 0, none⟩ = some (.bool neg') ∧ w'.cell? ⟨Ba + 1, 1, none⟩ = some (.slice A' n' c')
set_option maxRecDepth 100000 in
set_option maxHeartbeats 4000000 in
theorem rem_any (neg : Bool) (A : Option Addr) (n c : Nat) (l : List Nat) (neg' : Bool) (A' : Option Addr) (n' c' : Nat) (l' : List Nat) (w : World) (h : LimbsAt w A n c l) (h' : LimbsAt w A' n' c' l') (hm : n ≤ 9000) (hm' : n' ≤ 9000) (hD : 0 < lval l') :
    Calls Tryz.prog 77 #[numArg neg A n c, numArg neg' A' n' c'] w (ResPost (Int.tmod (sval neg l) (sval neg' l')) w) := by
  have BX := box3 w (.bool neg) (.slice A n c) (.bool neg') (.slice A' n' c')
  have h1 := h.keep0 BX.k
  have h1' := h'.keep0 BX.k
  go_enter Tryz.func77, Tryz.ntmps77
  go_wp2_with fail
  generalize w.heap.size = Ba at BX ⊢
  generalize ((w.alloc (.cells #[.bool neg, .slice A n c] 24)).alloc (.cells #[.bool neg', .slice A' n' c'] 24)).alloc (.cells #[.bool false, .slice none 0 0] 24) = w1 at BX h1 h1' ⊢
  obtain ⟨c0, c1, c2, c3⟩ := BX.cells (Keep.refl _ _)
  have HBX := Lib.hid BX
  clear BX
  go_wp2_with fail
  refine (sign_any neg' A' n' c' l' w1 h1').mono ?_
  rintro e w2 ⟨rfl, k2⟩
  obtain ⟨z, hz⟩ : ∃ z, z = signI (sval neg' l') := ⟨_, rfl⟩
  have hz0 : (z == 0) = false := by
    rw [hz, signI_zero]
    have := sval_zero neg' l'
    exact decide_eq_false (by omega)
  rw [← hz]
  have h2 := h1.keep0 k2
  have h2' := h1'.keep0 k2
  have BX2 := HBX.out.step k2
  clear hz c0 c1 c2 c3 h1 h1' k2 HBX h h'
  obtain ⟨c0, c1, c2, c3⟩ := BX2.cells (Keep.refl _ _)
  have HBX := Lib.hid BX2
  have HP := Lib.hid (parted_any A n c l A' n' c' l' w2 h2 h2' hm hm' hD)
  clear BX2
  dsimp only
  go_wp2_with fail
  refine HP.out.mono ?_
  rintro e w3 ⟨Aq, nq, cq, q, Ar, nr, cr, r, rfl, oq, lq, vq, mq, or, lr, vr, mr, k3⟩
  have h3 := h2.keep0 k3
  have BX3 := HBX.out.step k3
  clear c0 c1 c2 c3 h2 h2' k3 HBX HP
  have hL := or.toLimbs lr (by omega)
  have HL := Lib.hid (fun (w' : World) (K' : Keep (fun _ => False) w3 w') => hL.keep0 K')
  have HB := Lib.hid (fun (w' : World) (K' : Keep (fun _ => False) w3 w') => below_any neg A n c l w' (h3.keep0 K'))
  have HMV := Lib.hid (rem_sval neg l neg' l' r vr)
  obtain ⟨c0, c1, c2, c3⟩ := BX3.cells (Keep.refl _ _)
  have HBX := Lib.hid BX3
  generalize belowB neg l = p at HB HMV
  clear BX3 h3 hL lq vq lr vr oq or mr mq hD
  dsimp only
  go_wp2_with fail
  refine (HB.out w3 (Keep.refl _ _)).mono ?_
  rintro e w4 ⟨rfl, k4⟩
  dsimp only
  go_wp2_with fail
  refine (made_any _ _ _ _ r _ (HL.out _ k4)).mono ?_
  intro e w8 hres
  obtain ⟨ng, A8, n8, c8, f8, rfl, r0, r1, f0, f1, e0, e1, P⟩ := HBX.out.res k4 hres
  rw [HMV.out] at P
  have HP := Lib.hid P
  have HE := Lib.hid (And.intro e0 e1)
  clear P hres e0 e1 k4 HL HB
  dsimp only
  go_wp2_with fail
  refine bodyPost_ret (v := .tuple #[numArg ng A8 n8 c8, .int .i64 f8]) ?_ rfl HP.out
  obtain ⟨e0, e1⟩ := HE.out
  simp [results, Tryz.results77, go_sem, e0, e1]
set_option maxRecDepth 100000 in
set_option maxHeartbeats 4000000 in
theorem mod_any (neg : Bool) (A : Option Addr) (n c : Nat) (l : List Nat) (neg' : Bool) (A' : Option Addr) (n' c' : Nat) (l' : List Nat) (w : World) (h : LimbsAt w A n c l) (h' : LimbsAt w A' n' c' l') (hm : n ≤ 9000) (hm' : n' ≤ 9000) (hD : 0 < lval l') :
    Calls Tryz.prog 78 #[numArg neg A n c, numArg neg' A' n' c'] w (ResPost (Int.fmod (sval neg l) (sval neg' l')) w) := by
  have BX := box3 w (.bool neg) (.slice A n c) (.bool neg') (.slice A' n' c')
  have h1 := h.keep0 BX.k
  have h1' := h'.keep0 BX.k
  go_enter Tryz.func78, Tryz.ntmps78
  go_wp2_with fail
  generalize w.heap.size = Ba at BX ⊢
  generalize ((w.alloc (.cells #[.bool neg, .slice A n c] 24)).alloc (.cells #[.bool neg', .slice A' n' c'] 24)).alloc (.cells #[.bool false, .slice none 0 0] 24) = w1 at BX h1 h1' ⊢
  obtain ⟨c0, c1, c2, c3⟩ := BX.cells (Keep.refl _ _)
  have HBX := Lib.hid BX
  clear BX
  go_wp2_with fail
  refine (sign_any neg' A' n' c' l' w1 h1').mono ?_
  rintro e w2 ⟨rfl, k2⟩
  obtain ⟨z, hz⟩ : ∃ z, z = signI (sval neg' l') := ⟨_, rfl⟩
  have hz0 : (z == 0) = false := by
    rw [hz, signI_zero]
    have := sval_zero neg' l'
    exact decide_eq_false (by omega)
  rw [← hz]
  have h2 := h1.keep0 k2
  have h2' := h1'.keep0 k2
  have BX2 := HBX.out.step k2
  clear hz c0 c1 c2 c3 h1 h1' k2 HBX h h'
  obtain ⟨c0, c1, c2, c3⟩ := BX2.cells (Keep.refl _ _)
  have HBX := Lib.hid BX2
  have HP := Lib.hid (parted_any A n c l A' n' c' l' w2 h2 h2' hm hm' hD)
  clear BX2
  dsimp only
  go_wp2_with fail
  refine HP.out.mono ?_
  rintro e w3 ⟨Aq, nq, cq, q, Ar, nr, cr, r, rfl, oq, lq, vq, mq, or, lr, vr, mr, k3⟩
  have h3 := h2.keep0 k3
  have h3' := h2'.keep0 k3
  have BX3 := HBX.out.step k3
  clear c0 c1 c2 c3 h2 h2' k3 HBX HP
  have hL := or.toLimbs lr (by omega)
  have HL := Lib.hid (fun (w' : World) (K' : Keep (fun _ => False) w3 w') => hL.keep0 K')
  have HB := Lib.hid (fun (w' : World) (K' : Keep (fun _ => False) w3 w') => below_any neg A n c l w' (h3.keep0 K'))
  have HB' := Lib.hid (fun (w' : World) (K' : Keep (fun _ => False) w3 w') => below_any neg' A' n' c' l' w' (h3'.keep0 K'))
  have HMV := Lib.hid (fun m hm => mod_sval neg l neg' l' m hD hm)
  have HT := Lib.hid (fun (w' : World) (K' : Keep (fun _ => False) w3 w') => trim_any Ar nr cr r w' (hL.keep0 K'))
  have HT' := Lib.hid (fun (w' : World) (K' : Keep (fun _ => False) w3 w') => trim_any A' n' c' l' w' (h3'.keep0 K'))
  have tl' := tlen_le h3'.low
  rw [h3'.len] at tl'
  have HLESS := Lib.hid (fun (w' : World) (K' : Keep (fun _ => False) w3 w') => less_any A' (tlen l') c' (limbs (lval l')) Ar nr cr r w' (h3'.keep0 K').trim (hL.keep0 K') (by omega))
  have hlv : lval (rowL BB (lessF (limbs (lval l')) r) (tlen l')) = lval l' - lval l % lval l' := by
    have := less_val (a := limbs (lval l')) (b := r) (digs_low BB2 _) hL.low (by
      show lval r ≤ lval (limbs (lval l'))
      rw [lval_limbs, vr]
      exact Nat.le_of_lt (Nat.mod_lt _ hD))
    unfold tlen
    have e : val BB (limbs (lval l')) = lval l' := lval_limbs _
    rw [e] at this
    rw [← vr]
    exact this
  have HLV := Lib.hid (And.intro hlv (And.intro (show Low BB (rowL BB (lessF (limbs (lval l')) r) (tlen l')) from rowL_low (by unfold BB; omega) _ _) tl'))
  have hpos := tlen_pos r
  rw [vr] at hpos
  have HPOS := Lib.hid hpos
  have HLR := Lib.hid (And.intro lr vr)
  obtain ⟨c0, c1, c2, c3⟩ := BX3.cells (Keep.refl _ _)
  have Kd : Keep (fun _ => False) w3 w3.drew := (Keep.refl _ _).drew
  have HBX := Lib.hid BX3
  generalize belowB neg l = p at HB HMV
  generalize belowB neg' l' = p' at HB' HMV
  have HD := Lib.hid hD
  clear BX3 h3 lq vq lr vr oq or mq hD hL hlv tl' hpos h3'
  dsimp only
  go_wp2_with fail
  have HC : ∀ w', Keep (fun _ => False) w3 w' → S3 Ba neg A n c neg' A' n' c' w' := fun w' K' => HBX.out.cells K'
  have HCC := Lib.hid HC
  clear HC
  refine wp_region_held_drew (S := fun w' => w'.cell? ⟨Ba, 0, none⟩ = some (.bool neg) ∧ w'.cell? ⟨Ba, 1, none⟩ = some (.slice A n c) ∧ w'.cell? ⟨Ba + 1, 0, none⟩ = some (.bool neg') ∧ w'.cell? ⟨Ba + 1, 1, none⟩ = some (.slice A' n' c')) (by kernel_rfl) (HCC.out _ Kd) (fun hHeld => ?_)
  refine wpAnyH_take (i := 0) (oi := _) (v := ?_) rfl (by kernel_rfl) (by kernel_rfl) (by kernel_rfl) (fun _ _ _ h => h) (Or.inl ⟨by rfl, ?_⟩) (by assumption) ?_
  rotate_left
  · (intro w hSw; (try dsimp only at hSw); go_simp)
    all_goals with_reducible rfl
  refine wpAnyH_take (i := 2) (oi := _) (v := ?_) rfl (by kernel_rfl) (by kernel_rfl) (by kernel_rfl) (fun _ _ _ h => h) (Or.inl ⟨by rfl, ?_⟩) (by assumption) ?_
  rotate_left
  · (intro w hSw; (try dsimp only at hSw); go_simp)
    all_goals with_reducible rfl
  try dsimp only [List.getElem_toArray, List.getElem_cons_succ, List.getElem_cons_zero]
  try simp only [Act.put, List.setIfInBounds_toArray, List.set_cons_zero, List.set_cons_succ]
  refine wpAnyH_ready (rs := [1]) (by kernel_rfl) (by simp) ?_
  refine AllReadyH.cons (o := _) rfl (fun K hK => ?_) AllReadyH.nil
  go_simp
  refine (HB.out _ Kd).mono ?_
  rintro e wa ⟨rfl, ka⟩
  have Kwa : Keep (fun _ => False) w3 wa := Keep.trans Kd ka
  try dsimp only
  go_wp2_with fail
  refine hK.out _ _ (HCC.out _ Kwa) (fun hHeld => ?_)
  clear hK K
  try dsimp only [List.getElem_toArray, List.getElem_cons_succ, List.getElem_cons_zero]
  try simp only [Act.put, List.setIfInBounds_toArray, List.set_cons_zero, List.set_cons_succ]
  refine wpAnyH_ready (rs := [3]) (by kernel_rfl) (by simp) ?_
  refine AllReadyH.cons (o := _) rfl (fun K hK => ?_) AllReadyH.nil
  go_simp
  refine (HB'.out _ Kwa).mono ?_
  rintro e wb ⟨rfl, kb⟩
  have Kwb : Keep (fun _ => False) w3 wb := Keep.trans Kwa kb
  try dsimp only
  go_wp2_with fail
  refine hK.out _ _ (HCC.out _ Kwb) (fun hHeld => ?_)
  clear hK K
  by_cases ht : 0 < tlen r
  · have hti : (0 : Int) < (tlen r : Int) := by omega
    cases p <;> cases p'
    · refine wpAnyH_take (i := 4) (oi := _) (v := ?_) rfl (by kernel_rfl) (by kernel_rfl) (by kernel_rfl) (fun _ _ _ h => h) (Or.inl ⟨by rfl, ?_⟩) (by assumption) ?_
      rotate_left
      · (intro w hSw; (try dsimp only at hSw); go_simp)
        all_goals with_reducible rfl
      refine wpAnyH_take (i := 5) (oi := _) (v := ?_) rfl (by kernel_rfl) (by kernel_rfl) (by kernel_rfl) (fun _ _ _ h => h) (Or.inl ⟨by rfl, ?_⟩) (by assumption) ?_
      rotate_left
      · (intro w hSw; (try dsimp only at hSw); go_simp)
        all_goals with_reducible rfl
      refine wpAnyH_take (i := 6) (oi := _) (v := undef) rfl (by kernel_rfl) (by kernel_rfl) (by kernel_rfl) (fun _ _ _ h => h) (Or.inr ⟨by rfl, rfl⟩) (by assumption) ?_
      refine wpAnyH_take (i := 7) (oi := _) (v := undef) rfl (by kernel_rfl) (by kernel_rfl) (by kernel_rfl) (fun _ _ _ h => h) (Or.inr ⟨by rfl, rfl⟩) (by assumption) ?_
      refine wpAnyH_take (i := 8) (oi := _) (v := undef) rfl (by kernel_rfl) (by kernel_rfl) (by kernel_rfl) (fun _ _ _ h => h) (Or.inr ⟨by rfl, rfl⟩) (by assumption) ?_
      refine wpAnyH_take (i := 9) (oi := _) (v := undef) rfl (by kernel_rfl) (by kernel_rfl) (by kernel_rfl) (fun _ _ _ h => h) (Or.inr ⟨by rfl, rfl⟩) (by assumption) ?_
      refine wpAnyH_take (i := 10) (oi := _) (v := ?_) rfl (by kernel_rfl) (by kernel_rfl) (by kernel_rfl) (fun _ _ _ h => h) (Or.inl ⟨by rfl, ?_⟩) (by assumption) ?_
      rotate_left
      · (intro w hSw; (try dsimp only at hSw); go_simp)
        all_goals with_reducible rfl
      try dsimp only [List.getElem_toArray, List.getElem_cons_succ, List.getElem_cons_zero]
      try simp only [Act.put, List.setIfInBounds_toArray, List.set_cons_zero, List.set_cons_succ]
      refine wpAnyH_done (by kernel_rfl) ?_ _
      go_wp2_with fail
      refine (HB'.out _ Kwb).mono ?_
      rintro e w5 ⟨rfl, k5⟩
      have K5 : Keep (fun _ => False) w3 w5 := Keep.trans Kwb k5
      try dsimp only
      go_wp2_with fail
      refine (made_any _ _ _ _ (r) _ (HL.out _ K5)).mono ?_
      intro e w8 hres
      obtain ⟨ng, A8, n8, c8, f8, rfl, r0, r1, f0, f1, e0, e1, P⟩ := HBX.out.res K5 hres
      rw [HMV.out (r) (by rw [if_neg (by simp)]; exact HLR.out.2)] at P
      have HP := Lib.hid P
      have HE := Lib.hid (And.intro e0 e1)
      clear P hres e0 e1 k5 K5
      try dsimp only
      go_wp2_with fail
      refine bodyPost_ret (v := .tuple #[numArg ng A8 n8 c8, .int .i64 f8]) ?_ rfl HP.out
      obtain ⟨e0, e1⟩ := HE.out
      simp [results, Tryz.results78, go_sem, e0, e1]
    · refine wpAnyH_take (i := 4) (oi := _) (v := ?_) rfl (by kernel_rfl) (by kernel_rfl) (by kernel_rfl) (fun _ _ _ h => h) (Or.inl ⟨by rfl, ?_⟩) (by assumption) ?_
      rotate_left
      · (intro w hSw; (try dsimp only at hSw); go_simp)
        all_goals with_reducible rfl
      refine wpAnyH_take (i := 5) (oi := _) (v := ?_) rfl (by kernel_rfl) (by kernel_rfl) (by kernel_rfl) (fun _ _ _ h => h) (Or.inl ⟨by rfl, ?_⟩) (by assumption) ?_
      rotate_left
      · (intro w hSw; (try dsimp only at hSw); go_simp)
        all_goals with_reducible rfl
      refine wpAnyH_take (i := 6) (oi := _) (v := ?_) rfl (by kernel_rfl) (by kernel_rfl) (by kernel_rfl) (fun _ _ _ h => h) (Or.inl ⟨by rfl, ?_⟩) (by assumption) ?_
      rotate_left
      · (intro w hSw; (try dsimp only at hSw); go_simp)
        all_goals with_reducible rfl
      try dsimp only [List.getElem_toArray, List.getElem_cons_succ, List.getElem_cons_zero]
      try simp only [Act.put, List.setIfInBounds_toArray, List.set_cons_zero, List.set_cons_succ]
      refine wpAnyH_ready (rs := [7]) (by kernel_rfl) (by simp) ?_
      refine AllReadyH.cons (o := _) rfl (fun K hK => ?_) AllReadyH.nil
      go_simp
      refine (HT.out _ Kwb).mono ?_
      rintro e wc ⟨rfl, rfl⟩
      try dsimp only
      go_wp2_with fail
      refine hK.out _ _ (HCC.out _ Kwb) (fun hHeld => ?_)
      clear hK K
      refine wpAnyH_take (i := 8) (oi := _) (v := ?_) rfl (by kernel_rfl) (by kernel_rfl) (by kernel_rfl) (fun _ _ _ h => h) (Or.inl ⟨by rfl, ?_⟩) (by assumption) ?_
      rotate_left
      · (intro w hSw; (try dsimp only at hSw); go_simp)
        all_goals with_reducible rfl
      refine wpAnyH_take (i := 9) (oi := _) (v := ?_) rfl (by kernel_rfl) (by kernel_rfl) (by kernel_rfl) (fun _ _ _ h => h) (Or.inl ⟨by rfl, ?_⟩) (by assumption) ?_
      rotate_left
      · (intro w hSw; (try dsimp only at hSw); go_simp)
        all_goals with_reducible rfl
      refine wpAnyH_take (i := 10) (oi := _) (v := ?_) rfl (by kernel_rfl) (by kernel_rfl) (by kernel_rfl) (fun _ _ _ h => h) (Or.inl ⟨by rfl, ?_⟩) (by assumption) ?_
      rotate_left
      · (intro w hSw; (try dsimp only at hSw); go_simp)
        all_goals with_reducible rfl
      try dsimp only [List.getElem_toArray, List.getElem_cons_succ, List.getElem_cons_zero]
      try simp only [Act.put, List.setIfInBounds_toArray, List.set_cons_zero, List.set_cons_succ]
      refine wpAnyH_done (by kernel_rfl) ?_ _
      go_wp2_with fail
      refine (HT'.out _ Kwb).mono ?_
      rintro e wc ⟨rfl, rfl⟩
      try dsimp only
      go_wp2_with fail
      refine (HLESS.out _ Kwb).mono ?_
      rintro e w6 ⟨A9, n9, c9, rfl, o9, k9⟩
      have Kw6 : Keep (fun _ => False) w3 w6 := Keep.trans Kwb k9
      have hn9 : n9 ≤ 100000 := by
        have := o9.len
        unfold rowL at this
        simp at this
        have := HLV.out.2.2
        omega
      have H9 := Lib.hid (o9.toLimbs HLV.out.2.1 hn9)
      obtain ⟨c0, c1, c2, c3⟩ := HCC.out _ Kw6
      clear o9
      try dsimp only
      go_wp2_with fail
      refine (HB'.out _ Kw6).mono ?_
      rintro e w5 ⟨rfl, k5⟩
      have K5 : Keep (fun _ => False) w3 w5 := Keep.trans Kw6 k5
      try dsimp only
      go_wp2_with fail
      refine (made_any _ _ _ _ (rowL BB (lessF (limbs (lval l')) r) (tlen l')) _ (H9.out.keep0 k5)).mono ?_
      intro e w8 hres
      obtain ⟨ng, A8, n8, c8, f8, rfl, r0, r1, f0, f1, e0, e1, P⟩ := HBX.out.res K5 hres
      rw [HMV.out (rowL BB (lessF (limbs (lval l')) r) (tlen l')) (by rw [if_pos ⟨rfl, HPOS.out.1 ht⟩]; exact HLV.out.1)] at P
      have HP := Lib.hid P
      have HE := Lib.hid (And.intro e0 e1)
      clear P hres e0 e1 k5 K5
      try dsimp only
      go_wp2_with fail
      refine bodyPost_ret (v := .tuple #[numArg ng A8 n8 c8, .int .i64 f8]) ?_ rfl HP.out
      obtain ⟨e0, e1⟩ := HE.out
      simp [results, Tryz.results78, go_sem, e0, e1]
    · refine wpAnyH_take (i := 4) (oi := _) (v := ?_) rfl (by kernel_rfl) (by kernel_rfl) (by kernel_rfl) (fun _ _ _ h => h) (Or.inl ⟨by rfl, ?_⟩) (by assumption) ?_
      rotate_left
      · (intro w hSw; (try dsimp only at hSw); go_simp)
        all_goals with_reducible rfl
      refine wpAnyH_take (i := 5) (oi := _) (v := ?_) rfl (by kernel_rfl) (by kernel_rfl) (by kernel_rfl) (fun _ _ _ h => h) (Or.inl ⟨by rfl, ?_⟩) (by assumption) ?_
      rotate_left
      · (intro w hSw; (try dsimp only at hSw); go_simp)
        all_goals with_reducible rfl
      refine wpAnyH_take (i := 6) (oi := _) (v := ?_) rfl (by kernel_rfl) (by kernel_rfl) (by kernel_rfl) (fun _ _ _ h => h) (Or.inl ⟨by rfl, ?_⟩) (by assumption) ?_
      rotate_left
      · (intro w hSw; (try dsimp only at hSw); go_simp)
        all_goals with_reducible rfl
      try dsimp only [List.getElem_toArray, List.getElem_cons_succ, List.getElem_cons_zero]
      try simp only [Act.put, List.setIfInBounds_toArray, List.set_cons_zero, List.set_cons_succ]
      refine wpAnyH_ready (rs := [7]) (by kernel_rfl) (by simp) ?_
      refine AllReadyH.cons (o := _) rfl (fun K hK => ?_) AllReadyH.nil
      go_simp
      refine (HT.out _ Kwb).mono ?_
      rintro e wc ⟨rfl, rfl⟩
      try dsimp only
      go_wp2_with fail
      refine hK.out _ _ (HCC.out _ Kwb) (fun hHeld => ?_)
      clear hK K
      refine wpAnyH_take (i := 8) (oi := _) (v := ?_) rfl (by kernel_rfl) (by kernel_rfl) (by kernel_rfl) (fun _ _ _ h => h) (Or.inl ⟨by rfl, ?_⟩) (by assumption) ?_
      rotate_left
      · (intro w hSw; (try dsimp only at hSw); go_simp)
        all_goals with_reducible rfl
      refine wpAnyH_take (i := 9) (oi := _) (v := ?_) rfl (by kernel_rfl) (by kernel_rfl) (by kernel_rfl) (fun _ _ _ h => h) (Or.inl ⟨by rfl, ?_⟩) (by assumption) ?_
      rotate_left
      · (intro w hSw; (try dsimp only at hSw); go_simp)
        all_goals with_reducible rfl
      refine wpAnyH_take (i := 10) (oi := _) (v := ?_) rfl (by kernel_rfl) (by kernel_rfl) (by kernel_rfl) (fun _ _ _ h => h) (Or.inl ⟨by rfl, ?_⟩) (by assumption) ?_
      rotate_left
      · (intro w hSw; (try dsimp only at hSw); go_simp)
        all_goals with_reducible rfl
      try dsimp only [List.getElem_toArray, List.getElem_cons_succ, List.getElem_cons_zero]
      try simp only [Act.put, List.setIfInBounds_toArray, List.set_cons_zero, List.set_cons_succ]
      refine wpAnyH_done (by kernel_rfl) ?_ _
      go_wp2_with fail
      refine (HT'.out _ Kwb).mono ?_
      rintro e wc ⟨rfl, rfl⟩
      try dsimp only
      go_wp2_with fail
      refine (HLESS.out _ Kwb).mono ?_
      rintro e w6 ⟨A9, n9, c9, rfl, o9, k9⟩
      have Kw6 : Keep (fun _ => False) w3 w6 := Keep.trans Kwb k9
      have hn9 : n9 ≤ 100000 := by
        have := o9.len
        unfold rowL at this
        simp at this
        have := HLV.out.2.2
        omega
      have H9 := Lib.hid (o9.toLimbs HLV.out.2.1 hn9)
      obtain ⟨c0, c1, c2, c3⟩ := HCC.out _ Kw6
      clear o9
      try dsimp only
      go_wp2_with fail
      refine (HB'.out _ Kw6).mono ?_
      rintro e w5 ⟨rfl, k5⟩
      have K5 : Keep (fun _ => False) w3 w5 := Keep.trans Kw6 k5
      try dsimp only
      go_wp2_with fail
      refine (made_any _ _ _ _ (rowL BB (lessF (limbs (lval l')) r) (tlen l')) _ (H9.out.keep0 k5)).mono ?_
      intro e w8 hres
      obtain ⟨ng, A8, n8, c8, f8, rfl, r0, r1, f0, f1, e0, e1, P⟩ := HBX.out.res K5 hres
      rw [HMV.out (rowL BB (lessF (limbs (lval l')) r) (tlen l')) (by rw [if_pos ⟨rfl, HPOS.out.1 ht⟩]; exact HLV.out.1)] at P
      have HP := Lib.hid P
      have HE := Lib.hid (And.intro e0 e1)
      clear P hres e0 e1 k5 K5
      try dsimp only
      go_wp2_with fail
      refine bodyPost_ret (v := .tuple #[numArg ng A8 n8 c8, .int .i64 f8]) ?_ rfl HP.out
      obtain ⟨e0, e1⟩ := HE.out
      simp [results, Tryz.results78, go_sem, e0, e1]
    · refine wpAnyH_take (i := 4) (oi := _) (v := ?_) rfl (by kernel_rfl) (by kernel_rfl) (by kernel_rfl) (fun _ _ _ h => h) (Or.inl ⟨by rfl, ?_⟩) (by assumption) ?_
      rotate_left
      · (intro w hSw; (try dsimp only at hSw); go_simp)
        all_goals with_reducible rfl
      refine wpAnyH_take (i := 5) (oi := _) (v := ?_) rfl (by kernel_rfl) (by kernel_rfl) (by kernel_rfl) (fun _ _ _ h => h) (Or.inl ⟨by rfl, ?_⟩) (by assumption) ?_
      rotate_left
      · (intro w hSw; (try dsimp only at hSw); go_simp)
        all_goals with_reducible rfl
      refine wpAnyH_take (i := 6) (oi := _) (v := undef) rfl (by kernel_rfl) (by kernel_rfl) (by kernel_rfl) (fun _ _ _ h => h) (Or.inr ⟨by rfl, rfl⟩) (by assumption) ?_
      refine wpAnyH_take (i := 7) (oi := _) (v := undef) rfl (by kernel_rfl) (by kernel_rfl) (by kernel_rfl) (fun _ _ _ h => h) (Or.inr ⟨by rfl, rfl⟩) (by assumption) ?_
      refine wpAnyH_take (i := 8) (oi := _) (v := undef) rfl (by kernel_rfl) (by kernel_rfl) (by kernel_rfl) (fun _ _ _ h => h) (Or.inr ⟨by rfl, rfl⟩) (by assumption) ?_
      refine wpAnyH_take (i := 9) (oi := _) (v := undef) rfl (by kernel_rfl) (by kernel_rfl) (by kernel_rfl) (fun _ _ _ h => h) (Or.inr ⟨by rfl, rfl⟩) (by assumption) ?_
      refine wpAnyH_take (i := 10) (oi := _) (v := ?_) rfl (by kernel_rfl) (by kernel_rfl) (by kernel_rfl) (fun _ _ _ h => h) (Or.inl ⟨by rfl, ?_⟩) (by assumption) ?_
      rotate_left
      · (intro w hSw; (try dsimp only at hSw); go_simp)
        all_goals with_reducible rfl
      try dsimp only [List.getElem_toArray, List.getElem_cons_succ, List.getElem_cons_zero]
      try simp only [Act.put, List.setIfInBounds_toArray, List.set_cons_zero, List.set_cons_succ]
      refine wpAnyH_done (by kernel_rfl) ?_ _
      go_wp2_with fail
      refine (HB'.out _ Kwb).mono ?_
      rintro e w5 ⟨rfl, k5⟩
      have K5 : Keep (fun _ => False) w3 w5 := Keep.trans Kwb k5
      try dsimp only
      go_wp2_with fail
      refine (made_any _ _ _ _ (r) _ (HL.out _ K5)).mono ?_
      intro e w8 hres
      obtain ⟨ng, A8, n8, c8, f8, rfl, r0, r1, f0, f1, e0, e1, P⟩ := HBX.out.res K5 hres
      rw [HMV.out (r) (by rw [if_neg (by simp)]; exact HLR.out.2)] at P
      have HP := Lib.hid P
      have HE := Lib.hid (And.intro e0 e1)
      clear P hres e0 e1 k5 K5
      try dsimp only
      go_wp2_with fail
      refine bodyPost_ret (v := .tuple #[numArg ng A8 n8 c8, .int .i64 f8]) ?_ rfl HP.out
      obtain ⟨e0, e1⟩ := HE.out
      simp [results, Tryz.results78, go_sem, e0, e1]
  · have hti : decide ((0 : Int) < (tlen r : Int)) = false := decide_eq_false (by omega)
    cases p <;> cases p'
    · refine wpAnyH_take (i := 4) (oi := _) (v := ?_) rfl (by kernel_rfl) (by kernel_rfl) (by kernel_rfl) (fun _ _ _ h => h) (Or.inl ⟨by rfl, ?_⟩) (by assumption) ?_
      rotate_left
      · (intro w hSw; (try dsimp only at hSw); go_simp)
        all_goals with_reducible rfl
      refine wpAnyH_take (i := 5) (oi := _) (v := ?_) rfl (by kernel_rfl) (by kernel_rfl) (by kernel_rfl) (fun _ _ _ h => h) (Or.inl ⟨by rfl, ?_⟩) (by assumption) ?_
      rotate_left
      · (intro w hSw; (try dsimp only at hSw); go_simp)
        all_goals with_reducible rfl
      refine wpAnyH_take (i := 6) (oi := _) (v := undef) rfl (by kernel_rfl) (by kernel_rfl) (by kernel_rfl) (fun _ _ _ h => h) (Or.inr ⟨by rfl, rfl⟩) (by assumption) ?_
      refine wpAnyH_take (i := 7) (oi := _) (v := undef) rfl (by kernel_rfl) (by kernel_rfl) (by kernel_rfl) (fun _ _ _ h => h) (Or.inr ⟨by rfl, rfl⟩) (by assumption) ?_
      refine wpAnyH_take (i := 8) (oi := _) (v := undef) rfl (by kernel_rfl) (by kernel_rfl) (by kernel_rfl) (fun _ _ _ h => h) (Or.inr ⟨by rfl, rfl⟩) (by assumption) ?_
      refine wpAnyH_take (i := 9) (oi := _) (v := undef) rfl (by kernel_rfl) (by kernel_rfl) (by kernel_rfl) (fun _ _ _ h => h) (Or.inr ⟨by rfl, rfl⟩) (by assumption) ?_
      refine wpAnyH_take (i := 10) (oi := _) (v := ?_) rfl (by kernel_rfl) (by kernel_rfl) (by kernel_rfl) (fun _ _ _ h => h) (Or.inl ⟨by rfl, ?_⟩) (by assumption) ?_
      rotate_left
      · (intro w hSw; (try dsimp only at hSw); go_simp)
        all_goals with_reducible rfl
      try dsimp only [List.getElem_toArray, List.getElem_cons_succ, List.getElem_cons_zero]
      try simp only [Act.put, List.setIfInBounds_toArray, List.set_cons_zero, List.set_cons_succ]
      refine wpAnyH_done (by kernel_rfl) ?_ _
      go_wp2_with fail
      refine (HB'.out _ Kwb).mono ?_
      rintro e w5 ⟨rfl, k5⟩
      have K5 : Keep (fun _ => False) w3 w5 := Keep.trans Kwb k5
      try dsimp only
      go_wp2_with fail
      refine (made_any _ _ _ _ (r) _ (HL.out _ K5)).mono ?_
      intro e w8 hres
      obtain ⟨ng, A8, n8, c8, f8, rfl, r0, r1, f0, f1, e0, e1, P⟩ := HBX.out.res K5 hres
      rw [HMV.out (r) (by rw [if_neg (by simp)]; exact HLR.out.2)] at P
      have HP := Lib.hid P
      have HE := Lib.hid (And.intro e0 e1)
      clear P hres e0 e1 k5 K5
      try dsimp only
      go_wp2_with fail
      refine bodyPost_ret (v := .tuple #[numArg ng A8 n8 c8, .int .i64 f8]) ?_ rfl HP.out
      obtain ⟨e0, e1⟩ := HE.out
      simp [results, Tryz.results78, go_sem, e0, e1]
    · refine wpAnyH_take (i := 4) (oi := _) (v := ?_) rfl (by kernel_rfl) (by kernel_rfl) (by kernel_rfl) (fun _ _ _ h => h) (Or.inl ⟨by rfl, ?_⟩) (by assumption) ?_
      rotate_left
      · (intro w hSw; (try dsimp only at hSw); go_simp)
        all_goals with_reducible rfl
      refine wpAnyH_take (i := 5) (oi := _) (v := ?_) rfl (by kernel_rfl) (by kernel_rfl) (by kernel_rfl) (fun _ _ _ h => h) (Or.inl ⟨by rfl, ?_⟩) (by assumption) ?_
      rotate_left
      · (intro w hSw; (try dsimp only at hSw); go_simp)
        all_goals with_reducible rfl
      refine wpAnyH_take (i := 6) (oi := _) (v := ?_) rfl (by kernel_rfl) (by kernel_rfl) (by kernel_rfl) (fun _ _ _ h => h) (Or.inl ⟨by rfl, ?_⟩) (by assumption) ?_
      rotate_left
      · (intro w hSw; (try dsimp only at hSw); go_simp)
        all_goals with_reducible rfl
      try dsimp only [List.getElem_toArray, List.getElem_cons_succ, List.getElem_cons_zero]
      try simp only [Act.put, List.setIfInBounds_toArray, List.set_cons_zero, List.set_cons_succ]
      refine wpAnyH_ready (rs := [7]) (by kernel_rfl) (by simp) ?_
      refine AllReadyH.cons (o := _) rfl (fun K hK => ?_) AllReadyH.nil
      go_simp
      refine (HT.out _ Kwb).mono ?_
      rintro e wc ⟨rfl, rfl⟩
      try dsimp only
      go_wp2_with fail
      refine hK.out _ _ (HCC.out _ Kwb) (fun hHeld => ?_)
      clear hK K
      refine wpAnyH_take (i := 8) (oi := _) (v := ?_) rfl (by kernel_rfl) (by kernel_rfl) (by kernel_rfl) (fun _ _ _ h => h) (Or.inl ⟨by rfl, ?_⟩) (by assumption) ?_
      rotate_left
      · (intro w hSw; (try dsimp only at hSw); go_simp)
        all_goals with_reducible rfl
      refine wpAnyH_take (i := 9) (oi := _) (v := ?_) rfl (by kernel_rfl) (by kernel_rfl) (by kernel_rfl) (fun _ _ _ h => h) (Or.inl ⟨by rfl, ?_⟩) (by assumption) ?_
      rotate_left
      · (intro w hSw; (try dsimp only at hSw); go_simp)
        all_goals with_reducible rfl
      refine wpAnyH_take (i := 10) (oi := _) (v := ?_) rfl (by kernel_rfl) (by kernel_rfl) (by kernel_rfl) (fun _ _ _ h => h) (Or.inl ⟨by rfl, ?_⟩) (by assumption) ?_
      rotate_left
      · (intro w hSw; (try dsimp only at hSw); go_simp)
        all_goals with_reducible rfl
      try dsimp only [List.getElem_toArray, List.getElem_cons_succ, List.getElem_cons_zero]
      try simp only [Act.put, List.setIfInBounds_toArray, List.set_cons_zero, List.set_cons_succ]
      refine wpAnyH_done (by kernel_rfl) ?_ _
      go_wp2_with fail
      refine (HB'.out _ Kwb).mono ?_
      rintro e w5 ⟨rfl, k5⟩
      have K5 : Keep (fun _ => False) w3 w5 := Keep.trans Kwb k5
      try dsimp only
      go_wp2_with fail
      refine (made_any _ _ _ _ (r) _ (HL.out _ K5)).mono ?_
      intro e w8 hres
      obtain ⟨ng, A8, n8, c8, f8, rfl, r0, r1, f0, f1, e0, e1, P⟩ := HBX.out.res K5 hres
      rw [HMV.out (r) (by rw [if_neg (fun h => ht (HPOS.out.2 h.2))]; exact HLR.out.2)] at P
      have HP := Lib.hid P
      have HE := Lib.hid (And.intro e0 e1)
      clear P hres e0 e1 k5 K5
      try dsimp only
      go_wp2_with fail
      refine bodyPost_ret (v := .tuple #[numArg ng A8 n8 c8, .int .i64 f8]) ?_ rfl HP.out
      obtain ⟨e0, e1⟩ := HE.out
      simp [results, Tryz.results78, go_sem, e0, e1]
    · refine wpAnyH_take (i := 4) (oi := _) (v := ?_) rfl (by kernel_rfl) (by kernel_rfl) (by kernel_rfl) (fun _ _ _ h => h) (Or.inl ⟨by rfl, ?_⟩) (by assumption) ?_
      rotate_left
      · (intro w hSw; (try dsimp only at hSw); go_simp)
        all_goals with_reducible rfl
      refine wpAnyH_take (i := 5) (oi := _) (v := ?_) rfl (by kernel_rfl) (by kernel_rfl) (by kernel_rfl) (fun _ _ _ h => h) (Or.inl ⟨by rfl, ?_⟩) (by assumption) ?_
      rotate_left
      · (intro w hSw; (try dsimp only at hSw); go_simp)
        all_goals with_reducible rfl
      refine wpAnyH_take (i := 6) (oi := _) (v := ?_) rfl (by kernel_rfl) (by kernel_rfl) (by kernel_rfl) (fun _ _ _ h => h) (Or.inl ⟨by rfl, ?_⟩) (by assumption) ?_
      rotate_left
      · (intro w hSw; (try dsimp only at hSw); go_simp)
        all_goals with_reducible rfl
      try dsimp only [List.getElem_toArray, List.getElem_cons_succ, List.getElem_cons_zero]
      try simp only [Act.put, List.setIfInBounds_toArray, List.set_cons_zero, List.set_cons_succ]
      refine wpAnyH_ready (rs := [7]) (by kernel_rfl) (by simp) ?_
      refine AllReadyH.cons (o := _) rfl (fun K hK => ?_) AllReadyH.nil
      go_simp
      refine (HT.out _ Kwb).mono ?_
      rintro e wc ⟨rfl, rfl⟩
      try dsimp only
      go_wp2_with fail
      refine hK.out _ _ (HCC.out _ Kwb) (fun hHeld => ?_)
      clear hK K
      refine wpAnyH_take (i := 8) (oi := _) (v := ?_) rfl (by kernel_rfl) (by kernel_rfl) (by kernel_rfl) (fun _ _ _ h => h) (Or.inl ⟨by rfl, ?_⟩) (by assumption) ?_
      rotate_left
      · (intro w hSw; (try dsimp only at hSw); go_simp)
        all_goals with_reducible rfl
      refine wpAnyH_take (i := 9) (oi := _) (v := ?_) rfl (by kernel_rfl) (by kernel_rfl) (by kernel_rfl) (fun _ _ _ h => h) (Or.inl ⟨by rfl, ?_⟩) (by assumption) ?_
      rotate_left
      · (intro w hSw; (try dsimp only at hSw); go_simp)
        all_goals with_reducible rfl
      refine wpAnyH_take (i := 10) (oi := _) (v := ?_) rfl (by kernel_rfl) (by kernel_rfl) (by kernel_rfl) (fun _ _ _ h => h) (Or.inl ⟨by rfl, ?_⟩) (by assumption) ?_
      rotate_left
      · (intro w hSw; (try dsimp only at hSw); go_simp)
        all_goals with_reducible rfl
      try dsimp only [List.getElem_toArray, List.getElem_cons_succ, List.getElem_cons_zero]
      try simp only [Act.put, List.setIfInBounds_toArray, List.set_cons_zero, List.set_cons_succ]
      refine wpAnyH_done (by kernel_rfl) ?_ _
      go_wp2_with fail
      refine (HB'.out _ Kwb).mono ?_
      rintro e w5 ⟨rfl, k5⟩
      have K5 : Keep (fun _ => False) w3 w5 := Keep.trans Kwb k5
      try dsimp only
      go_wp2_with fail
      refine (made_any _ _ _ _ (r) _ (HL.out _ K5)).mono ?_
      intro e w8 hres
      obtain ⟨ng, A8, n8, c8, f8, rfl, r0, r1, f0, f1, e0, e1, P⟩ := HBX.out.res K5 hres
      rw [HMV.out (r) (by rw [if_neg (fun h => ht (HPOS.out.2 h.2))]; exact HLR.out.2)] at P
      have HP := Lib.hid P
      have HE := Lib.hid (And.intro e0 e1)
      clear P hres e0 e1 k5 K5
      try dsimp only
      go_wp2_with fail
      refine bodyPost_ret (v := .tuple #[numArg ng A8 n8 c8, .int .i64 f8]) ?_ rfl HP.out
      obtain ⟨e0, e1⟩ := HE.out
      simp [results, Tryz.results78, go_sem, e0, e1]
    · refine wpAnyH_take (i := 4) (oi := _) (v := ?_) rfl (by kernel_rfl) (by kernel_rfl) (by kernel_rfl) (fun _ _ _ h => h) (Or.inl ⟨by rfl, ?_⟩) (by assumption) ?_
      rotate_left
      · (intro w hSw; (try dsimp only at hSw); go_simp)
        all_goals with_reducible rfl
      refine wpAnyH_take (i := 5) (oi := _) (v := ?_) rfl (by kernel_rfl) (by kernel_rfl) (by kernel_rfl) (fun _ _ _ h => h) (Or.inl ⟨by rfl, ?_⟩) (by assumption) ?_
      rotate_left
      · (intro w hSw; (try dsimp only at hSw); go_simp)
        all_goals with_reducible rfl
      refine wpAnyH_take (i := 6) (oi := _) (v := undef) rfl (by kernel_rfl) (by kernel_rfl) (by kernel_rfl) (fun _ _ _ h => h) (Or.inr ⟨by rfl, rfl⟩) (by assumption) ?_
      refine wpAnyH_take (i := 7) (oi := _) (v := undef) rfl (by kernel_rfl) (by kernel_rfl) (by kernel_rfl) (fun _ _ _ h => h) (Or.inr ⟨by rfl, rfl⟩) (by assumption) ?_
      refine wpAnyH_take (i := 8) (oi := _) (v := undef) rfl (by kernel_rfl) (by kernel_rfl) (by kernel_rfl) (fun _ _ _ h => h) (Or.inr ⟨by rfl, rfl⟩) (by assumption) ?_
      refine wpAnyH_take (i := 9) (oi := _) (v := undef) rfl (by kernel_rfl) (by kernel_rfl) (by kernel_rfl) (fun _ _ _ h => h) (Or.inr ⟨by rfl, rfl⟩) (by assumption) ?_
      refine wpAnyH_take (i := 10) (oi := _) (v := ?_) rfl (by kernel_rfl) (by kernel_rfl) (by kernel_rfl) (fun _ _ _ h => h) (Or.inl ⟨by rfl, ?_⟩) (by assumption) ?_
      rotate_left
      · (intro w hSw; (try dsimp only at hSw); go_simp)
        all_goals with_reducible rfl
      try dsimp only [List.getElem_toArray, List.getElem_cons_succ, List.getElem_cons_zero]
      try simp only [Act.put, List.setIfInBounds_toArray, List.set_cons_zero, List.set_cons_succ]
      refine wpAnyH_done (by kernel_rfl) ?_ _
      go_wp2_with fail
      refine (HB'.out _ Kwb).mono ?_
      rintro e w5 ⟨rfl, k5⟩
      have K5 : Keep (fun _ => False) w3 w5 := Keep.trans Kwb k5
      try dsimp only
      go_wp2_with fail
      refine (made_any _ _ _ _ (r) _ (HL.out _ K5)).mono ?_
      intro e w8 hres
      obtain ⟨ng, A8, n8, c8, f8, rfl, r0, r1, f0, f1, e0, e1, P⟩ := HBX.out.res K5 hres
      rw [HMV.out (r) (by rw [if_neg (by simp)]; exact HLR.out.2)] at P
      have HP := Lib.hid P
      have HE := Lib.hid (And.intro e0 e1)
      clear P hres e0 e1 k5 K5
      try dsimp only
      go_wp2_with fail
      refine bodyPost_ret (v := .tuple #[numArg ng A8 n8 c8, .int .i64 f8]) ?_ rfl HP.out
      obtain ⟨e0, e1⟩ := HE.out
      simp [results, Tryz.results78, go_sem, e0, e1]
open Go.RowKit
/-- A number in new memory. -/
def NumPost (x : Int) (w : World) (e : Ending) (w' : World) : Prop :=
  Keep (fun _ => False) w w' ∧ ∃ (A : Option Addr) (n c : Nat), e = .returned (numArg (decide (x < 0)) A n c) ∧ OwnR 39 .u32 w' w.heap.size A n c (limbs x.natAbs)
theorem two_limbs (w : World) (x y : Nat) (hx : x < BB) (hy : y < BB) : LimbsAt (w.alloc (.cells #[.int .u32 (x : Int), .int .u32 (y : Int)] 39)) (some ⟨w.heap.size, 0, none⟩) 2 2 [x, y] := by
  refine ⟨⟨rfl, fun j hj => ⟨w.heap.size, 0, rfl, by simp, ?_⟩⟩, ?_, Nat.le_refl _, by omega⟩
  · rw [Nat.zero_add]
    rw [cell_of_row _ _ _ _ _ _ (heap_alloc_new w _)]
    match j, hj with
    | 0, _ => rfl
    | 1, _ => rfl
  · intro z hz
    simp at hz
    rcases hz with rfl | rfl <;> assumption
theorem two_val (m : Nat) : lval [m % BB, m / BB] = m := by
  show m % BB + BB * (m / BB + BB * 0) = m
  rw [Nat.mul_zero, Nat.add_zero]
  exact Nat.mod_add_div m BB
theorem of_sval (x : Int) : sval (decide (x < 0)) [x.natAbs % BB, x.natAbs / BB] = x := by
  unfold sval
  rw [two_val]
  by_cases h : x < 0
  · rw [decide_eq_true h, if_pos rfl]; omega
  · rw [decide_eq_false h]; simp; omega
theorem of_fits {x : Int} (h : x.natAbs < BB * BB) : Fits x := by
  unfold Fits
  have : (limbs x.natAbs).length ≤ 2 := by
    rw [digs_len_le BB2, Nat.pow_succ, Nat.pow_one]
    exact h
  omega
theorem two_alloc {w0 w2 : World} {B base n c : Nat} {A : Option Addr} {l : List Nat} {p q : Value} (K : Keep (fun _ => False) w0 w2) (hB : w0.heap.size ≤ B) (hb : w2.heap[B]? = some (.cells #[p, q] 24 (0, 0))) (own : OwnR 39 .u32 w2 base A n c l) (hBb : B < base) (hbase : w0.heap.size ≤ base) (a b : Value) (o : Obj) :
    (((w2.setCell ⟨B, 0, none⟩ a).setCell ⟨B, 1, none⟩ b).alloc o).cell? ⟨B, 0, none⟩ = some a ∧ (((w2.setCell ⟨B, 0, none⟩ a).setCell ⟨B, 1, none⟩ b).alloc o).cell? ⟨B, 1, none⟩ = some b ∧
    Keep (fun _ => False) w0 (((w2.setCell ⟨B, 0, none⟩ a).setCell ⟨B, 1, none⟩ b).alloc o) ∧ OwnR 39 .u32 (((w2.setCell ⟨B, 0, none⟩ a).setCell ⟨B, 1, none⟩ b).alloc o) w0.heap.size A n c l := by
  have h : ((w2.setCell ⟨B, 0, none⟩ a).setCell ⟨B, 1, none⟩ b).heap[B]? = some (.cells #[a, b] 24 (0, 0)) := by
    simp [World.setCell, Array.getElem?_modify, hb]
  have h2 : (((w2.setCell ⟨B, 0, none⟩ a).setCell ⟨B, 1, none⟩ b).alloc o).heap[B]? = some (.cells #[a, b] 24 (0, 0)) := by
    rw [Below.heap_alloc _ _ _ (heap_lt h)]; exact h
  refine ⟨by rw [cell_of_row _ _ _ _ _ _ h2]; rfl, by rw [cell_of_row _ _ _ _ _ _ h2]; rfl, (two_keep K hB a b).alloc o, ?_⟩
  exact ((two_own own hBb a b).keep0 ((Keep.refl _ _).alloc o)).mono hbase
theorem made_of (x : Int) (h : x.natAbs < BB * BB) (w : World) (b : Nat) (hbw : b = w.heap.size) (u v : Int) (hu : u = ((x.natAbs % BB : Nat) : Int)) (hv : v = ((x.natAbs / BB : Nat) : Int)) (p : Bool) (hp : p = decide (x < 0)) :
    Calls Tryz.prog 97 #[.bool p, .slice (some ⟨b, 0, none⟩) 2 2] (w.alloc (.cells #[.int .u32 u, .int .u32 v] 39)) fun e w' => ∃ (A : Option Addr) (n c : Nat), e = .returned (.tuple #[numArg (decide (x < 0)) A n c, .int .i64 0]) ∧ OwnR 39 .u32 w' w.heap.size A n c (limbs x.natAbs) ∧ Keep (fun _ => False) w w' := by
  subst hu hv hp hbw
  refine (made_any (decide (x < 0)) _ 2 2 _ _ (two_limbs w _ _ (Nat.mod_lt _ (by unfold BB; omega)) ((Nat.div_lt_iff_lt_mul (by unfold BB; omega)).2 h))).mono ?_
  rintro e w' ⟨k, h1 | ⟨A, n, c, _, rfl, own⟩⟩
  · rw [of_sval] at h1
    exact absurd (of_fits h) h1.1
  · rw [of_sval] at own ⊢
    exact ⟨A, n, c, rfl, own.mono (by simp), ((Keep.refl _ _).alloc _).trans k⟩
set_option maxRecDepth 100000 in
set_option maxHeartbeats 2000000 in
theorem of_any (x : Int) (w : World) (h0 : -9223372036854775808 ≤ x) (h1 : x ≤ 9223372036854775807) :
    Calls Tryz.prog 60 #[.int .i64 x] w (NumPost x w) := by
  have K : Keep (fun _ => False) w (w.alloc (.cells #[.bool false, .slice none 0 0] 24)) := (Keep.refl _ _).alloc _
  have hb : (w.alloc (.cells #[.bool false, .slice none 0 0] 24)).heap[w.heap.size]? = some (.cells #[.bool false, .slice none 0 0] 24 (0, 0)) := heap_alloc_new w _
  have hsz : x.natAbs < BB * BB := by unfold BB; omega
  have HM := Lib.hid (fun W b hb => made_of x hsz W b hb)
  by_cases hx : x < 0
  · have HMM := Lib.hid (fun W b hb => HM.out W b hb (IntKind.u64.wrap (-IntKind.u64.wrap x) % 4294967296) (IntKind.u64.wrap (-IntKind.u64.wrap x) / 4294967296 % 4294967296) (by rw [IntKind.wrap_u64, IntKind.wrap_u64]; unfold BB; omega) (by rw [IntKind.wrap_u64, IntKind.wrap_u64]; unfold BB; omega) true (decide_eq_true hx).symm)
    clear HM hsz
    go_enter Tryz.func60, Tryz.ntmps60
    go_wp2_with fail
    refine (HMM.out (w.alloc (.cells #[.bool false, .slice none 0 0] 24)) (w.heap.size + 1) (by simp)).mono ?_
    rintro e w2 ⟨A, n, c, rfl, own, k2⟩
    have hb2 := k2.heap hb (by simp)
    have r0 : w2.cell? ⟨w.heap.size, 0, none⟩ = some (.bool false) := by rw [cell_of_row w2 _ _ _ _ _ hb2]; rfl
    have r1 : w2.cell? ⟨w.heap.size, 1, none⟩ = some (.slice none 0 0) := by rw [cell_of_row w2 _ _ _ _ _ hb2]; rfl
    have f0 : w2.frozen? ⟨w.heap.size, 0, none⟩ = false := by simp [World.frozen?, hb2]
    have f1 : w2.frozen? ⟨w.heap.size, 1, none⟩ = false := by simp [World.frozen?, hb2]
    have hlt := heap_lt hb2
    have HD := Lib.hid (decide_eq_true hx)
    have HA := Lib.hid (two_alloc (K.trans k2) (Nat.le_refl _) hb2 own (by simp) (by simp) (.bool true) (.slice A n c) (.cells #[.bool true, .slice A n c] 24))
    rw [HD.out]
    clear own k2 K hb2 hb HMM
    unfold numArg
    try dsimp only
    go_wp2_with fail
    obtain ⟨e0, e1, K2, o2⟩ := HA.out
    refine bodyPost_ret (v := numArg true A n c) ?_ rfl ⟨K2, A, n, c, by rw [HD.out], o2⟩
    simp [results, Tryz.results60, go_sem, e0, e1]
  · have HMM := Lib.hid (fun W b hb => HM.out W b hb (x % 4294967296) (x / 4294967296) (by unfold BB; omega) (by unfold BB; omega) false (decide_eq_false hx).symm)
    clear HM hsz
    go_enter Tryz.func60, Tryz.ntmps60
    go_wp2_with fail
    refine (HMM.out (w.alloc (.cells #[.bool false, .slice none 0 0] 24)) (w.heap.size + 1) (by simp)).mono ?_
    rintro e w2 ⟨A, n, c, rfl, own, k2⟩
    have hb2 := k2.heap hb (by simp)
    have r0 : w2.cell? ⟨w.heap.size, 0, none⟩ = some (.bool false) := by rw [cell_of_row w2 _ _ _ _ _ hb2]; rfl
    have r1 : w2.cell? ⟨w.heap.size, 1, none⟩ = some (.slice none 0 0) := by rw [cell_of_row w2 _ _ _ _ _ hb2]; rfl
    have f0 : w2.frozen? ⟨w.heap.size, 0, none⟩ = false := by simp [World.frozen?, hb2]
    have f1 : w2.frozen? ⟨w.heap.size, 1, none⟩ = false := by simp [World.frozen?, hb2]
    have hlt := heap_lt hb2
    have HD := Lib.hid (decide_eq_false (Int.not_lt.2 hx))
    have HA := Lib.hid (two_alloc (K.trans k2) (Nat.le_refl _) hb2 own (by simp) (by simp) (.bool false) (.slice A n c) (.cells #[.bool false, .slice A n c] 24))
    rw [HD.out]
    clear own k2 K hb2 hb HMM
    unfold numArg
    try dsimp only
    go_wp2_with fail
    obtain ⟨e0, e1, K2, o2⟩ := HA.out
    refine bodyPost_ret (v := numArg false A n c) ?_ rfl ⟨K2, A, n, c, by rw [HD.out], o2⟩
    simp [results, Tryz.results60, go_sem, e0, e1]
open Go.RowKit Go.Lib
/-- 61 bits. -/
def Small (x : Int) : Prop := -1152921504606846976 ≤ x ∧ x < 1152921504606846976
instance (x : Int) : Decidable (Small x) := by unfold Small; infer_instance
def FixPost (x : Int) (w : World) (e : Ending) (w' : World) : Prop := e = .returned (.tuple #[.int .i64 (if Small x then x else 0), .bool (decide (Small x))]) ∧ Keep (fun _ => False) w w'
theorem or_up {x y : Nat} (hx : x ≤ 4294967295) (hy : y ≤ 4294967295) : bits BinOp.or IntKind.u64 (y : Int) ((x : Int) * 4294967296) = ((y + BB * x : Nat) : Int) := by
  have e1 : ((x : Int) * 4294967296) = ((2 ^ 32 * x : Nat) : Int) := by omega
  have h2 : y < 2 ^ 32 := by omega
  rw [e1, bits_or_u64_nat _ _ (by omega) (by omega), Nat.or_comm, ← Nat.two_pow_add_eq_or_of_lt h2]
  unfold BB
  omega
set_option maxRecDepth 100000 in
set_option maxHeartbeats 4000000 in
theorem fix_any (neg : Bool) (A : Option Addr) (n c : Nat) (l : List Nat) (w : World) (h : LimbsAt w A n c l) :
    Calls Tryz.prog 51 #[numArg neg A n c] w (FixPost (sval neg l) w) := by
  have K : Keep (fun _ => False) w (w.alloc (.cells #[.bool neg, .slice A n c] 24)) := (Keep.refl _ _).alloc _
  have hb : (w.alloc (.cells #[.bool neg, .slice A n c] 24)).heap[w.heap.size]? = some (.cells #[.bool neg, .slice A n c] 24 (0, 0)) := heap_alloc_new w _
  have h1 := h.keep0 K
  have H1 := Lib.hid h1
  have HK := Lib.hid K
  have HB := Lib.hid hb
  have T1 := Lib.hid h1.trim
  have tm := h1.trim.max
  clear h h1 K hb
  obtain ⟨t, ht⟩ : ∃ t, t = tlen l := ⟨_, rfl⟩
  have HT := Lib.hid ht
  go_enter Tryz.func51, Tryz.ntmps51
  go_wp2_with fail
  refine (trim_any A n c l _ H1.out).mono ?_
  rintro e w1 ⟨rfl, rfl⟩
  rw [← ht]
  rw [← ht] at tm
  clear ht
  obtain ⟨d, hd⟩ : ∃ d, d = limbs (lval l) := ⟨_, rfl⟩
  have TD : LimbsAt (w.alloc (.cells #[.bool neg, .slice A n c] 24)) A t c d := by rw [HT.out, hd]; exact T1.out
  have HTD := Lib.hid TD
  have HD := Lib.hid hd
  have cB0 : (w.alloc (.cells #[.bool neg, .slice A n c] 24)).cell? ⟨w.heap.size, 0, none⟩ = some (.bool neg) := by rw [cell_of_row _ _ _ _ _ _ HB.out]; rfl
  clear hd TD H1 T1
  by_cases ht2 : t ≤ 2
  · have ht2i : (t : Int) ≤ 2 := by omega
    try dsimp only
    go_wp2_with fail
    generalize w.heap.size = Bx at HB cB0 ⊢
    generalize w.alloc (.cells #[.bool neg, .slice A n c] 24) = w1 at HK HB HTD cB0 ⊢
    go_loop [5, 13] (fun xv iv => ∃ k : Nat, k ≤ t ∧ iv = .int .i64 (k : Int) ∧ xv = .int .u64 ((lval (d.take k) : Nat) : Int)) (fun _ iv => t - (RowKit.intOf iv).toNat)
    case atStart => exact ⟨0, Nat.zero_le _, rfl, rfl⟩
    case round =>
      obtain ⟨k, hk, rfl, rfl⟩ := hrel
      by_cases hkm : k < t
      · have i0 : (0 : Int) ≤ (k : Int) := by omega
        have i1 : (k : Int) < (t : Int) := by omega
        obtain ⟨b, off, rfl, hb, hc⟩ := HTD.out.row.2 k hkm
        have hx := low_cast HTD.out.low k
        rcases (by omega : k = 0 ∨ k = 1) with rfl | rfl
        · obtain ⟨x, hxx⟩ : ∃ x, x = d.getD 0 0 := ⟨_, rfl⟩
          rw [← hxx] at hc hx
          have hv : lval (d.take 0) = 0 := rfl
          rw [hv]
          have HXX := Lib.hid hxx
          rw [Nat.add_zero] at hc
          clear hxx hv
          go_wp2_with fail
          go_round
          case rel => exact ⟨1, by omega, by go_num, by
            have e1 : lval (d.take 1) = x := by rw [HXX.out]; show val BB (d.take (0 + 1)) = _; rw [val_take_succ]; simp [val]
            rw [e1, show (0 : Int) = ((0 : Nat) : Int) from rfl, bits_or_u64_nat 0 x (by omega) (by omega), Nat.zero_or]⟩
          case measure => simp [RowKit.intOf]; omega
        · obtain ⟨x, hxx⟩ : ∃ x, x = d.getD 1 0 := ⟨_, rfl⟩
          rw [← hxx] at hc hx
          obtain ⟨y, hy⟩ : ∃ y, y = lval (d.take 1) := ⟨_, rfl⟩
          rw [← hy]
          have HXX := Lib.hid hxx
          have HY := Lib.hid hy
          clear hxx hy
          go_wp2_with fail
          go_round
          case rel => exact ⟨2, by omega, by go_num, by
            have e1 : lval (d.take 2) = y + BB * x := by rw [HXX.out, HY.out]; show val BB (d.take (1 + 1)) = _; rw [val_take_succ, Nat.pow_one]
            have e2 : y ≤ 4294967295 := by
              rw [HY.out]
              have := val_take_lt (B := BB) (by unfold BB; omega) HTD.out.low 1
              unfold BB at this
              show val 4294967296 (d.take 1) ≤ _
              omega
            rw [e1, or_up (by omega) e2]⟩
          case measure => simp [RowKit.intOf]; omega
      · have hdn : decide ((k : Int) < (t : Int)) = false := decide_eq_false (by omega)
        obtain rfl : k = t := by omega
        have hv : lval (d.take k) = lval l := by rw [List.take_of_length_le (by rw [HTD.out.len]; omega), HD.out, lval_limbs]
        rw [hv]
        obtain ⟨v, hvv⟩ : ∃ v, v = lval l := ⟨_, rfl⟩
        rw [← hvv]
        have hs : sval neg l = if neg = true then -(v : Int) else (v : Int) := by rw [hvv]; rfl
        have HS := Lib.hid hs
        have hd2 : decide ((2 : Int) < (k : Int)) = false := decide_eq_false (by omega)
        clear hvv hs hv
        rcases (by omega : (1152921504606846976 : Int) < (v : Int) ∨ (v : Int) = 1152921504606846976 ∨ (v : Int) < 1152921504606846976) with h1 | h1 | h1
        · have HF := Lib.hid (show FixPost (sval neg l) w (.returned (.tuple #[.int .i64 0, .bool false])) w1 from by
            have : ¬ Small (sval neg l) := by rw [HS.out]; unfold Small; cases neg <;> simp <;> omega
            exact ⟨by rw [if_neg this, decide_eq_false this], HK.out⟩)
          clear HS
          go_wp2_with fail
          refine bodyPost_ret (v := _) ?_ rfl HF.out
          simp [results, Tryz.results51, go_sem]
        · cases neg with
          | true =>
            have HF := Lib.hid (show FixPost (sval true l) w (.returned (.tuple #[.int .i64 (-1152921504606846976), .bool true])) w1 from by
              have e : sval true l = -1152921504606846976 := by rw [HS.out, if_pos rfl, h1]
              exact ⟨by rw [e]; rfl, HK.out⟩)
            clear HS
            rw [h1]
            go_wp2_with fail
            refine bodyPost_ret (v := _) ?_ rfl HF.out
            simp [results, Tryz.results51, go_sem]
          | false =>
            have HF := Lib.hid (show FixPost (sval false l) w (.returned (.tuple #[.int .i64 0, .bool false])) w1 from by
              have e : sval false l = 1152921504606846976 := by rw [HS.out, if_neg (by simp), h1]
              exact ⟨by rw [e]; rfl, HK.out⟩)
            clear HS
            rw [h1]
            go_wp2_with fail
            refine bodyPost_ret (v := _) ?_ rfl HF.out
            simp [results, Tryz.results51, go_sem]
        · have hn1 : decide ((1152921504606846976 : Int) < (v : Int)) = false := decide_eq_false (by omega)
          have hn2 : ((v : Int) == 1152921504606846976) = false := by rw [beq_eq_false_iff_ne]; omega
          cases neg with
          | true =>
            have HF := Lib.hid (show FixPost (sval true l) w (.returned (.tuple #[.int .i64 (-(v : Int)), .bool true])) w1 from by
              have e : sval true l = -(v : Int) := by rw [HS.out, if_pos rfl]
              have hsm : Small (-(v : Int)) := by unfold Small; omega
              exact ⟨by rw [e, if_pos hsm, decide_eq_true hsm], HK.out⟩)
            clear HS
            go_wp2_with fail
            refine bodyPost_ret (v := _) ?_ rfl HF.out
            simp [results, Tryz.results51, go_sem]
          | false =>
            have HF := Lib.hid (show FixPost (sval false l) w (.returned (.tuple #[.int .i64 (v : Int), .bool true])) w1 from by
              have e : sval false l = (v : Int) := by rw [HS.out, if_neg (by simp)]
              have hsm : Small (v : Int) := by unfold Small; omega
              exact ⟨by rw [e, if_pos hsm, decide_eq_true hsm], HK.out⟩)
            clear HS
            go_wp2_with fail
            refine bodyPost_ret (v := _) ?_ rfl HF.out
            simp [results, Tryz.results51, go_sem]
  · have ht2i : ¬ (t : Int) ≤ 2 := by omega
    have ht2j : (2 : Int) < (t : Int) := by omega
    try dsimp only
    go_wp2_with fail
    generalize w.heap.size = Bx at HB cB0 ⊢
    generalize w.alloc (.cells #[.bool neg, .slice A n c] 24) = w1 at HK HB HTD cB0 ⊢
    go_loop [5, 13] (fun xv iv => ∃ (k : Nat) (z : Int), k ≤ 2 ∧ iv = .int .i64 (k : Int) ∧ xv = .int .u64 z) (fun _ iv => 2 - (RowKit.intOf iv).toNat)
    case atStart => exact ⟨0, 0, Nat.zero_le _, rfl, rfl⟩
    case round =>
      obtain ⟨k, z, hk, rfl, rfl⟩ := hrel
      by_cases hkm : k < 2
      · have i0 : (0 : Int) ≤ (k : Int) := by omega
        have i1 : (k : Int) < 2 := by omega
        have i2 : (k : Int) < (t : Int) := by omega
        obtain ⟨b, off, rfl, hb, hc⟩ := HTD.out.row.2 k (by omega)
        have hx := low_cast HTD.out.low k
        obtain ⟨x, hxx⟩ : ∃ x, x = d.getD k 0 := ⟨_, rfl⟩
        rw [← hxx] at hc hx
        clear hxx
        go_wp2_with fail
        go_round
        case rel => exact ⟨k + 1, _, by omega, by go_num, rfl⟩
        case measure => simp [RowKit.intOf]; omega
      · obtain rfl : k = 2 := by omega
        have HF := Lib.hid (show FixPost (sval neg l) w (.returned (.tuple #[.int .i64 0, .bool false])) w1 from by
          have hbig : ¬ lval l < BB ^ 2 := fun h => by
            have : (limbs (lval l)).length ≤ 2 := (digs_len_le BB2 (lval l) 2).2 h
            have e := HT.out
            unfold tlen at e
            omega
          have hb2 : 18446744073709551616 ≤ lval l := by rw [show BB ^ 2 = 18446744073709551616 from rfl] at hbig; omega
          have : ¬ Small (sval neg l) := by unfold Small sval; cases neg <;> simp <;> omega
          exact ⟨by rw [if_neg this, decide_eq_false this], HK.out⟩)
        go_wp2_with fail
        refine bodyPost_ret (v := _) ?_ rfl HF.out
        simp [results, Tryz.results51, go_sem]
end Go.Proofs.YtkjocmenpccooaaGreatDoor
