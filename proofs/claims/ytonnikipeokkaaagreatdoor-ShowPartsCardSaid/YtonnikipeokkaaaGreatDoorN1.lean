/-
  Numbers, by program: texts of another seat, turned to this one.
-/
import Derived.Test.YtonnikipeokkaaaGreatDoorProg
import Derived.WalkKit
import Derived.Deep.MidRow
import Derived.Below
import Derived.Deep.QuietTactic
import Derived.BigQuiet
import Derived.Lib.Hide
import Derived.Laws.AppendOwn
import Derived.Laws.MakeOwn
import Derived.Deep.AppendLies
import Derived.WalkSpells
import Derived.WalkLawsBesides
import Derived.ArgAppend
import Derived.Deep.RegionHeld3
import Derived.Deep.DeepCutAuto
import Derived.Laws.BitsLemmas
import Derived.RegionTactic
import Derived.BigRegion
namespace Go.Proofs.YtonnikipeokkaaaGreatDoor
/-- What a row of digits comes to. -/
def val (B : Nat) : List Nat → Nat
  | [] => 0
  | x :: l => x + B * val B l
/-- The digits of a number, without noughts at the end. -/
def digs (B n : Nat) : List Nat := if _h : n = 0 ∨ B < 2 then [] else n % B :: digs B (n / B)
termination_by n
decreasing_by exact Nat.div_lt_self (by omega) (by omega)
/-- All are digits. -/
def Low (B : Nat) (l : List Nat) : Prop := ∀ x ∈ l, x < B
/-- No nought at the end. -/
def Tight (l : List Nat) : Prop := l.getLast? ≠ some 0
theorem digs_zero (B : Nat) : digs B 0 = [] := by rw [digs]; simp
theorem digs_pos {B n : Nat} (hB : 2 ≤ B) (h : 0 < n) : digs B n = n % B :: digs B (n / B) := by
  rw [digs, dif_neg (by omega)]
theorem val_digs {B : Nat} (hB : 2 ≤ B) (n : Nat) : val B (digs B n) = n := by
  induction n using Nat.strongRecOn with
  | _ n ih =>
    rcases Nat.eq_zero_or_pos n with rfl | h
    · rw [digs_zero]; rfl
    · rw [digs_pos hB h, val, ih _ (Nat.div_lt_self h (by omega))]
      exact Nat.mod_add_div n B
theorem digs_low {B : Nat} (hB : 2 ≤ B) (n : Nat) : Low B (digs B n) := by
  induction n using Nat.strongRecOn with
  | _ n ih =>
    rcases Nat.eq_zero_or_pos n with rfl | h
    · rw [digs_zero]; intro x hx; cases hx
    · rw [digs_pos hB h]
      intro x hx
      rcases List.mem_cons.1 hx with rfl | hx
      · exact Nat.mod_lt _ (by omega)
      · exact ih _ (Nat.div_lt_self h (by omega)) x hx
theorem tight_cons {x : Nat} {l : List Nat} (h : Tight l) (hx : l = [] → x ≠ 0) : Tight (x :: l) := by
  unfold Tight at *
  cases l with
  | nil => simpa using hx rfl
  | cons y l => simpa [List.getLast?_cons_cons] using h
theorem tight_tail {x : Nat} {l : List Nat} (h : Tight (x :: l)) : Tight l := by
  unfold Tight at *
  cases l with
  | nil => simp
  | cons y l => simpa [List.getLast?_cons_cons] using h
theorem digs_nil {B n : Nat} (hB : 2 ≤ B) (h : digs B n = []) : n = 0 := by
  have := val_digs hB n
  rw [h] at this
  exact this.symm
theorem digs_tight {B : Nat} (hB : 2 ≤ B) (n : Nat) : Tight (digs B n) := by
  induction n using Nat.strongRecOn with
  | _ n ih =>
    rcases Nat.eq_zero_or_pos n with rfl | h
    · rw [digs_zero]; simp [Tight]
    · rw [digs_pos hB h]
      refine tight_cons (ih _ (Nat.div_lt_self h (by omega))) fun e => ?_
      have h0 := digs_nil hB e
      have := Nat.mod_add_div n B
      rw [h0] at this
      simp at this
      omega
theorem Low.tail {B x : Nat} {l : List Nat} (h : Low B (x :: l)) : Low B l := fun y hy => h y (List.mem_cons_of_mem _ hy)
theorem Low.head {B x : Nat} {l : List Nat} (h : Low B (x :: l)) : x < B := h x List.mem_cons_self
theorem Low.nil (B : Nat) : Low B [] := fun _ h => absurd h (by simp)
theorem Low.append {B : Nat} {l m : List Nat} (h : Low B l) (k : Low B m) : Low B (l ++ m) := fun x hx => (List.mem_append.1 hx).elim (h x) (k x)
theorem Low.take {B : Nat} {l : List Nat} (h : Low B l) (n : Nat) : Low B (l.take n) := fun x hx => h x (List.mem_of_mem_take hx)
theorem Low.getD {B : Nat} (hB : 0 < B) {l : List Nat} (h : Low B l) (i : Nat) : l.getD i 0 < B := by
  rw [List.getD_eq_getElem?_getD]
  cases e : l[i]? with
  | none => simpa using hB
  | some x => exact h x (List.mem_of_getElem? e)
theorem val_pos {B : Nat} : ∀ {l : List Nat}, Tight l → l ≠ [] → 0 < B → 0 < val B l
  | [], _, h, _ => absurd rfl h
  | x :: l, t, _, hB => by
    rw [val]
    cases l with
    | nil =>
      have : x ≠ 0 := by simpa [Tight] using t
      omega
    | cons y l =>
      have := val_pos (tight_tail t) (by simp) hB
      have := Nat.mul_pos hB this
      omega
theorem digs_val {B : Nat} (hB : 2 ≤ B) : ∀ {l : List Nat}, Low B l → Tight l → digs B (val B l) = l
  | [], _, _ => by rw [val, digs_zero]
  | x :: l, hl, ht => by
    have ih := digs_val hB hl.tail (tight_tail ht)
    have h0 : 0 < val B (x :: l) := val_pos ht (by simp) (by omega)
    have hx := hl.head
    have e1 : (x + B * val B l) % B = x := by rw [Nat.add_mul_mod_self_left, Nat.mod_eq_of_lt hx]
    have e2 : (x + B * val B l) / B = val B l := by rw [Nat.add_mul_div_left _ _ (by omega), Nat.div_eq_of_lt hx, Nat.zero_add]
    rw [digs_pos hB h0, val, e1, e2, ih]
theorem val_append (B : Nat) : ∀ (l m : List Nat), val B (l ++ m) = val B l + B ^ l.length * val B m
  | [], m => by simp [val]
  | x :: l, m => by
    rw [List.cons_append, val, val_append B l m, val, List.length_cons, Nat.pow_succ, Nat.mul_add]
    rw [Nat.mul_comm (B ^ l.length) B, Nat.mul_assoc]
    omega
theorem val_lt {B : Nat} : ∀ {l : List Nat}, Low B l → val B l < B ^ l.length
  | [], _ => by simp [val]
  | x :: l, h => by
    have ih := val_lt h.tail
    have hx := h.head
    rw [val, List.length_cons, Nat.pow_succ, Nat.mul_comm (B ^ l.length) B]
    have : B * (val B l + 1) ≤ B * B ^ l.length := Nat.mul_le_mul_left _ ih
    rw [Nat.mul_add] at this
    omega
theorem pow_le_val {B : Nat} (_hB : 0 < B) {l : List Nat} (ht : Tight l) (h : l ≠ []) : B ^ (l.length - 1) ≤ val B l := by
  have e := (List.dropLast_concat_getLast h).symm
  have e2 : val B l = val B l.dropLast + B ^ (l.length - 1) * l.getLast h := by
    conv => lhs; rw [e]
    rw [val_append, List.length_dropLast]
    simp [val]
  have hz : l.getLast h ≠ 0 := by
    intro e3
    exact ht (by rw [List.getLast?_eq_some_getLast h, e3])
  have : B ^ (l.length - 1) * 1 ≤ B ^ (l.length - 1) * l.getLast h := Nat.mul_le_mul_left _ (by omega)
  omega
theorem digs_len_le {B : Nat} (hB : 2 ≤ B) (n k : Nat) : (digs B n).length ≤ k ↔ n < B ^ k := by
  constructor
  · intro h
    have := val_lt (digs_low hB n)
    rw [val_digs hB] at this
    exact Nat.lt_of_lt_of_le this (Nat.pow_le_pow_right (by omega) h)
  · intro h
    rcases Nat.lt_or_ge k (digs B n).length with h2 | h2
    · have hne : digs B n ≠ [] := by intro e; rw [e] at h2; simp at h2
      have h3 := pow_le_val (by omega : 0 < B) (digs_tight hB n) hne
      rw [val_digs hB] at h3
      have h4 : B ^ k ≤ B ^ ((digs B n).length - 1) := Nat.pow_le_pow_right (by omega) (by omega)
      omega
    · exact h2
theorem val_take_succ (B : Nat) (l : List Nat) (i : Nat) : val B (l.take (i + 1)) = val B (l.take i) + B ^ i * l.getD i 0 := by
  rcases Nat.lt_or_ge i l.length with h | h
  · rw [List.take_succ_eq_append_getElem h, val_append, List.length_take, Nat.min_eq_left (by omega)]
    simp [val, List.getD_eq_getElem?_getD, List.getElem?_eq_getElem h]
  · rw [List.take_of_length_le (by omega), List.take_of_length_le h]
    simp [List.getD_eq_getElem?_getD, List.getElem?_eq_none h]
theorem val_zeros (B : Nat) : ∀ {l : List Nat}, (∀ x ∈ l, x = 0) → val B l = 0
  | [], _ => rfl
  | x :: l, h => by rw [val, h x List.mem_cons_self, val_zeros B (fun y hy => h y (List.mem_cons_of_mem _ hy))]; simp
theorem val_take_drop (B : Nat) (l : List Nat) (n : Nat) : val B l = val B (l.take n) + B ^ (l.take n).length * val B (l.drop n) := by
  conv => lhs; rw [← List.take_append_drop n l]
  rw [val_append]
/-- What is behind is nought, and what is ahead has none at its end: that is the digits of the number. -/
theorem take_digs {B : Nat} (hB : 2 ≤ B) {l : List Nat} (hl : Low B l) {n : Nat} (hn : n ≤ l.length) (hz : ∀ j, n ≤ j → j < l.length → l.getD j 0 = 0) (h : n = 0 ∨ l.getD (n - 1) 0 ≠ 0) :
    l.take n = digs B (val B l) := by
  have h0 : val B (l.drop n) = 0 := by
    refine val_zeros B fun x hx => ?_
    obtain ⟨i, hi, e⟩ := List.mem_iff_getElem.1 hx
    rw [List.length_drop] at hi
    have := hz (n + i) (by omega) (by omega)
    rw [List.getD_eq_getElem?_getD, List.getElem?_eq_getElem (by omega)] at this
    rw [List.getElem_drop] at e
    simp at this
    omega
  have e := val_take_drop B l n
  rw [h0, Nat.mul_zero, Nat.add_zero] at e
  rw [e]
  refine (digs_val hB (hl.take n) ?_).symm
  unfold Tight
  rcases h with rfl | h
  · simp
  · rw [List.getLast?_eq_getElem?, List.length_take, Nat.min_eq_left hn]
    rw [List.getElem?_take]
    rw [List.getD_eq_getElem?_getD] at h
    split
    · intro e2; rw [e2] at h; simp at h
    · simp
theorem val_take_lt {B : Nat} (_hB : 0 < B) {l : List Nat} (hl : Low B l) (i : Nat) : val B (l.take i) < B ^ i := by
  have h := val_lt (hl.take i)
  exact Nat.lt_of_lt_of_le h (Nat.pow_le_pow_right (by omega) (by rw [List.length_take]; omega))
/-- A row that is made digit by digit, with what is carried on. -/
def rowC (B : Nat) (f : Nat → Nat → Nat) : Nat → Nat
  | 0 => 0
  | i + 1 => f i (rowC B f i) / B
def rowL (B : Nat) (f : Nat → Nat → Nat) (n : Nat) : List Nat := (List.range n).map fun i => f i (rowC B f i) % B
theorem rowL_len (B : Nat) (f : Nat → Nat → Nat) (n : Nat) : (rowL B f n).length = n := by simp [rowL]
theorem rowL_succ (B : Nat) (f : Nat → Nat → Nat) (n : Nat) : rowL B f (n + 1) = rowL B f n ++ [f n (rowC B f n) % B] := by
  unfold rowL; rw [List.range_succ, List.map_append]; rfl
theorem rowL_low {B : Nat} (hB : 0 < B) (f : Nat → Nat → Nat) (n : Nat) : Low B (rowL B f n) := by
  intro x hx
  obtain ⟨i, _, rfl⟩ := List.mem_map.1 hx
  exact Nat.mod_lt _ hB
theorem val_rowL_succ (B : Nat) (f : Nat → Nat → Nat) (n : Nat) : val B (rowL B f (n + 1)) + B ^ (n + 1) * rowC B f (n + 1) = val B (rowL B f n) + B ^ n * f n (rowC B f n) := by
  rw [rowL_succ, val_append, rowL_len, rowC, Nat.pow_succ, Nat.mul_assoc]
  have h := Nat.mod_add_div (f n (rowC B f n)) B
  have : B ^ n * (f n (rowC B f n)) = B ^ n * (f n (rowC B f n) % B) + B ^ n * (B * (f n (rowC B f n) / B)) := by rw [← Nat.mul_add, h]
  rw [this]
  simp only [val, Nat.mul_zero, Nat.add_zero]
  omega
open Go.RowKit
/-- Outside of the blocks in S nothing that was there has turned. -/
structure Keep (S : Nat → Prop) (w w' : World) : Prop where
  os : w'.os = w.os
  tape : w'.tape = w.tape
  output : w'.output = w.output
  size : w.heap.size ≤ w'.heap.size
  block : ∀ k, k < w.heap.size → ¬ S k → w'.heap[k]? = w.heap[k]?
namespace Keep
variable {S S' : Nat → Prop} {w w' w'' : World}
theorem refl (S : Nat → Prop) (w : World) : Keep S w w := ⟨rfl, rfl, rfl, Nat.le_refl _, fun _ _ _ => rfl⟩
theorem trans (h : Keep S w w') (k : Keep S w' w'') : Keep S w w'' :=
  ⟨k.os.trans h.os, k.tape.trans h.tape, k.output.trans h.output, Nat.le_trans h.size k.size, fun i hi hs => (k.block i (Nat.lt_of_lt_of_le hi h.size) hs).trans (h.block i hi hs)⟩
theorem mono (h : Keep S w w') (hs : ∀ k, k < w.heap.size → S k → S' k) : Keep S' w w' := ⟨h.os, h.tape, h.output, h.size, fun k hk hn => h.block k hk (fun e => hn (hs k hk e))⟩
theorem alloc (h : Keep S w w') (o : Obj) : Keep S w (w'.alloc o) :=
  ⟨h.os, h.tape, h.output, Nat.le_trans h.size (by simp), fun i hi hs => (Below.heap_alloc w' o i (Nat.lt_of_lt_of_le hi h.size)).trans (h.block i hi hs)⟩
theorem setCell (h : Keep S w w') {p : Addr} (hp : S p.block ∨ w.heap.size ≤ p.block) (u : Value) : Keep S w (w'.setCell p u) :=
  ⟨h.os, h.tape, h.output, by simpa [World.setCell] using h.size, fun i hi hs => (Below.heap_setCell w' p u i (by
    rintro rfl
    rcases hp with hp | hp
    · exact hs hp
    · omega)).trans (h.block i hi hs)⟩
theorem drew (h : Keep S w w') : Keep S w w'.drew := ⟨h.os, h.tape, h.output, h.size, h.block⟩
theorem drewN (h : Keep S w w') (n : Nat) : Keep S w (w'.drewN n) := ⟨h.os, h.tape, h.output, h.size, h.block⟩
theorem cell (h : Keep S w w') {p : Addr} (hl : p.block < w.heap.size) (hs : ¬ S p.block) : w'.cell? p = w.cell? p := World.cell?_of_block (w := w) (h.block p.block hl hs)
end Keep
theorem Keep.heap {S : Nat → Prop} {w w' : World} (k : Keep S w w') {b : Nat} {o : Obj} (hb : w.heap[b]? = some o) (hs : ¬ S b) : w'.heap[b]? = some o := by
  have hl : b < w.heap.size := by
    rcases Nat.lt_or_ge b w.heap.size with hlt | hge
    · exact hlt
    · rw [Array.getElem?_eq_none hge] at hb; cases hb
  rw [k.block b hl hs]; exact hb
theorem heap_lt {w : World} {b : Nat} {o : Obj} (h : w.heap[b]? = some o) : b < w.heap.size := by
  rcases Nat.lt_or_ge b w.heap.size with hlt | hge
  · exact hlt
  · rw [Array.getElem?_eq_none hge] at h; cases h
theorem Keep.into {S : Nat → Prop} {w a b : World} (h : Keep (fun _ => False) w a) (k : Keep S a b) (hs : ∀ i, S i → w.heap.size ≤ i) : Keep (fun _ => False) w b :=
  ⟨k.os.trans h.os, k.tape.trans h.tape, k.output.trans h.output, Nat.le_trans h.size k.size, fun i hi _ => (k.block i (Nat.lt_of_lt_of_le hi h.size) (fun e => by have := hs i e; omega)).trans (h.block i hi (by simp))⟩
theorem Keep.below0 {w w' : World} (h : Keep (fun _ => False) w w') : Below w.heap.size w w' := ⟨h.os, h.tape, h.output, h.size, fun k hk => h.block k hk (by simp)⟩
theorem Keep.grown {S : Nat → Prop} {w a b : World} {row : Option Nat} (h : Keep S w a) (hg : a.grownBy b row) (hr : ∀ k, row = some k → S k ∨ w.heap.size ≤ k) : Keep S w b :=
  ⟨hg.os.trans h.os, hg.tape.trans h.tape, hg.output.trans h.output, Nat.le_trans h.size hg.size, fun i hi hs => (hg.block i (Nat.lt_of_lt_of_le hi h.size) (fun e => by
    rcases hr i e.symm with h' | h'
    · exact hs h'
    · omega)).trans (h.block i hi hs)⟩
theorem Keep.join {S S' : Nat → Prop} {w a b : World} (h : Keep S w a) (k : Keep S' a b) (hs : ∀ i, i < w.heap.size → S' i → S i) : Keep S w b :=
  ⟨k.os.trans h.os, k.tape.trans h.tape, k.output.trans h.output, Nat.le_trans h.size k.size, fun i hi hn => (k.block i (Nat.lt_of_lt_of_le hi h.size) (fun e => hn (hs i hi e))).trans (h.block i hi hn)⟩
theorem Keep.of_below {w w' : World} (h : Below w.heap.size w w') : Keep (fun _ => False) w w' := ⟨h.os, h.tape, h.output, h.size, fun k hk _ => h.block k hk⟩
theorem Keep.of_grown {w w' : World} {row : Option Nat} (h : w.grownBy w' row) : Keep (fun b => some b = row) w w' := ⟨h.os, h.tape, h.output, h.size, fun i hi hn => h.block i hi hn⟩
/-- A row of numbers of the kind q lies there. -/
def RowAt (q : IntKind) (w : World) (A : Option Addr) (n : Nat) (l : List Nat) : Prop :=
  l.length = n ∧ ∀ j, j < n → ∃ b off, A = some ⟨b, off, none⟩ ∧ b < w.heap.size ∧ w.cell? ⟨b, off + j, none⟩ = some (.int q ((l.getD j 0 : Nat) : Int))
namespace RowAt
variable {q : IntKind} {w w' : World} {A : Option Addr} {n : Nat} {l : List Nat}
theorem keep {S : Nat → Prop} (h : RowAt q w A n l) (k : Keep S w w') (hs : 0 < n → ∀ b off, A = some ⟨b, off, none⟩ → ¬ S b) : RowAt q w' A n l :=
  ⟨h.1, fun j hj => by
    obtain ⟨b, off, e, hb, hc⟩ := h.2 j hj
    exact ⟨b, off, e, Nat.lt_of_lt_of_le hb k.size, (k.cell (p := ⟨b, off + j, none⟩) hb (hs (by omega) b off e)).trans hc⟩⟩
theorem keep0 (h : RowAt q w A n l) (k : Keep (fun _ => False) w w') : RowAt q w' A n l := h.keep k (fun _ _ _ _ => id)
theorem nil (q : IntKind) (w : World) (A : Option Addr) : RowAt q w A 0 [] := ⟨rfl, fun j hj => absurd hj (Nat.not_lt_zero j)⟩
theorem take (h : RowAt q w A n l) {m : Nat} (hm : m ≤ n) : RowAt q w A m (l.take m) := by
  refine ⟨by rw [List.length_take, h.1]; omega, fun j hj => ?_⟩
  obtain ⟨b, off, e, hb, hc⟩ := h.2 j (by omega)
  refine ⟨b, off, e, hb, ?_⟩
  rw [hc, List.getD_eq_getElem?_getD, List.getD_eq_getElem?_getD, List.getElem?_take, if_pos hj]
end RowAt
/-- A row that the call has made itself: at the head of a block from base on, of the element type e. -/
def OwnR (e : TypeId) (q : IntKind) (w : World) (base : Nat) (A : Option Addr) (n c : Nat) (l : List Nat) : Prop := w.ownsRow base e 1 (.slice A n c) n (l.map fun x : Nat => Value.int q (x : Int))
namespace OwnR
variable {e : TypeId} {q : IntKind} {w w' : World} {base n c : Nat} {A : Option Addr} {l : List Nat}
theorem len (h : OwnR e q w base A n c l) : l.length = n := by have := h.1; simpa using this
theorem fresh (h : OwnR e q w base A n c l) : ∀ b off, A = some ⟨b, off, none⟩ → base ≤ b ∧ b < w.heap.size := by
  intro b off e1
  subst e1
  exact World.ownsRow.lt h b rfl
theorem row (h : OwnR e q w base A n c l) : RowAt q w A n l := by
  have hl := h.len
  refine ⟨hl, fun j hj => ?_⟩
  obtain ⟨g, c', hv, _, hlt⟩ := World.ownsRow.form h (by omega)
  injection hv with h1 _ h3
  subst h1 h3
  refine ⟨g, 0, rfl, hlt, ?_⟩
  rw [Nat.zero_add, World.ownsRow.cellAt h j (by omega)]
  simp [List.getElem?_map, List.getD_eq_getElem?_getD, List.getElem?_eq_getElem (show j < l.length by omega)]
theorem keep {S : Nat → Prop} (h : OwnR e q w base A n c l) (K : Keep S w w') (hs : ∀ b off, A = some ⟨b, off, none⟩ → ¬ S b) : OwnR e q w' base A n c l := by
  refine ⟨h.1, ?_⟩
  rcases h.2 with hn | ⟨g, cap, cur, hv, hg, hh, rest⟩
  · exact .inl hn
  · refine .inr ⟨g, cap, cur, hv, hg, ?_, rest⟩
    injection hv with h1 _ _
    rw [K.block g (heap_lt hh) (hs g 0 h1)]
    exact hh
theorem keep0 (h : OwnR e q w base A n c l) (K : Keep (fun _ => False) w w') : OwnR e q w' base A n c l := h.keep K (fun _ _ _ => id)
theorem mono (h : OwnR e q w base A n c l) {base' : Nat} (hb : base' ≤ base) : OwnR e q w base' A n c l :=
  ⟨h.1, h.2.imp id fun ⟨g, cap, cur, h1, h2, h3⟩ => ⟨g, cap, cur, h1, Nat.le_trans hb h2, h3⟩⟩
theorem take (h : OwnR e q w base A n c l) {m : Nat} (hm : m ≤ n) : OwnR e q w base A m c (l.take m) := by
  have hl := h.len
  refine ⟨by simp [hl]; omega, ?_⟩
  rcases h.2 with ⟨hv, h0⟩ | ⟨g, cap, cur, hv, hg, hh, h1, h2, h3, h4⟩
  · subst h0
    obtain rfl : m = 0 := by omega
    exact .inl ⟨hv, rfl⟩
  · injection hv with e1 _ e3
    subst e1 e3
    refine .inr ⟨g, c, cur, rfl, hg, hh, by omega, h2, h3, ?_⟩
    rw [List.map_take, ← h4, List.take_take]
    simp only [Nat.mul_one]
    rw [Nat.min_eq_left hm]
theorem nil (e : TypeId) (q : IntKind) (w : World) (base : Nat) : OwnR e q w base none 0 0 [] := World.ownsRow_nil _ _ _ _
theorem frozen (h : OwnR e q w base A n c l) : ∀ b off, A = some ⟨b, off, none⟩ → ∀ j, w.frozen? ⟨b, j, none⟩ = false := by
  intro b off e1 j
  subst e1
  rcases h.2 with ⟨hv, _⟩ | ⟨g, cap, cur, hv, hg, hh, _⟩
  · cases hv
  · injection hv with e1 _ _
    injection e1 with e1
    injection e1 with e1 _ _
    subst e1
    simp [World.frozen?, hh]
/-- A store. -/
theorem set {b : Nat} (h : OwnR e q w base (some ⟨b, 0, none⟩) n c l) {j : Nat} (_hj : j < n) (x : Nat) : OwnR e q (w.setCell ⟨b, j, none⟩ (.int q (x : Int))) base (some ⟨b, 0, none⟩) n c (l.set j x) := by
  refine ⟨by rw [List.length_map, List.length_set]; have := h.1; simpa using this, ?_⟩
  rcases h.2 with ⟨hn, _⟩ | ⟨g', cap', cur, hv, hg, hh, h1, h2, h3, h4⟩
  · cases hn
  · simp only [Value.slice.injEq, Option.some.injEq, Addr.mk.injEq, and_true, true_and] at hv
    obtain ⟨rfl, rfl⟩ := hv
    refine .inr ⟨b, c, cur.setIfInBounds j (.int q (x : Int)), rfl, hg, by simp [World.setCell, Array.getElem?_modify, hh], h1, h2, by simpa using h3, ?_⟩
    rw [Array.toList_setIfInBounds, List.take_set, h4, List.map_set]
end OwnR
theorem setCell_keep {S : Nat → Prop} {w : World} {b : Nat} (hb : S b) (j : Nat) (u : Value) : Keep S w (w.setCell ⟨b, j, none⟩ u) := (Keep.refl S w).setCell (p := ⟨b, j, none⟩) (.inl hb) u
/-- The bound of a limb. -/
def BB : Nat := 4294967296
theorem BB2 : 2 ≤ BB := by unfold BB; omega
theorem low_cast {l : List Nat} (h : Low BB l) (j : Nat) : ((l.getD j 0 : Nat) : Int) ≤ 4294967295 := by
  have := h.getD (by unfold BB; omega) j
  unfold BB at this
  omega
/-- The limbs of a number. -/
abbrev limbs (n : Nat) : List Nat := digs BB n
/-- The value of limbs. -/
abbrev lval (l : List Nat) : Nat := val BB l
open Go.RowKit
/-- How many limbs are left when noughts at the end are cut off. -/
def tlen (l : List Nat) : Nat := (limbs (lval l)).length
theorem tlen_of {l : List Nat} (low : Low BB l) {k : Nat} (hk : k ≤ l.length) (hz : ∀ j, k ≤ j → j < l.length → l.getD j 0 = 0) (h : k = 0 ∨ l.getD (k - 1) 0 ≠ 0) : tlen l = k ∧ l.take k = limbs (lval l) := by
  have := take_digs BB2 low hk hz h
  refine ⟨?_, this⟩
  have e := congrArg List.length this
  rw [List.length_take] at e
  show (digs BB (val BB l)).length = k
  omega
theorem tlen_le {l : List Nat} (low : Low BB l) : tlen l ≤ l.length := by
  unfold tlen limbs
  rw [digs_len_le BB2]
  exact val_lt low
theorem take_tlen {l : List Nat} (low : Low BB l) : l.take (tlen l) = limbs (lval l) := by
  obtain ⟨k, hk, hz, h⟩ : ∃ k, k ≤ l.length ∧ (∀ j, k ≤ j → j < l.length → l.getD j 0 = 0) ∧ (k = 0 ∨ l.getD (k - 1) 0 ≠ 0) := by
    have : ∀ m, m ≤ l.length → (∀ j, m ≤ j → j < l.length → l.getD j 0 = 0) → ∃ k, k ≤ l.length ∧ (∀ j, k ≤ j → j < l.length → l.getD j 0 = 0) ∧ (k = 0 ∨ l.getD (k - 1) 0 ≠ 0) := by
      intro m
      induction m with
      | zero => intro hm hz; exact ⟨0, hm, hz, .inl rfl⟩
      | succ m ih =>
        intro hm hz
        by_cases e : l.getD m 0 = 0
        · refine ih (by omega) fun j hj hl => ?_
          by_cases e2 : j = m
          · rw [e2]; exact e
          · exact hz j (by omega) hl
        · exact ⟨m + 1, hm, hz, .inr (by simpa using e)⟩
    exact this l.length (Nat.le_refl _) (fun j hj hl => by omega)
  obtain ⟨h1, h2⟩ := tlen_of low hk hz h
  rw [h1, h2]
/-- A slice of limbs that lies there. -/
structure LimbsAt (w : World) (A : Option Addr) (n c : Nat) (l : List Nat) : Prop where
  row : RowAt .u32 w A n l
  low : Low BB l
  cap : n ≤ c
  max : n ≤ 100000
namespace LimbsAt
variable {w w' : World} {A : Option Addr} {n c : Nat} {l : List Nat}
theorem len (h : LimbsAt w A n c l) : l.length = n := h.row.1
theorem keep {S : Nat → Prop} (h : LimbsAt w A n c l) (k : Keep S w w') (hs : 0 < n → ∀ b off, A = some ⟨b, off, none⟩ → ¬ S b) : LimbsAt w' A n c l := ⟨h.row.keep k hs, h.low, h.cap, h.max⟩
theorem keep0 (h : LimbsAt w A n c l) (k : Keep (fun _ => False) w w') : LimbsAt w' A n c l := ⟨h.row.keep0 k, h.low, h.cap, h.max⟩
theorem trim (h : LimbsAt w A n c l) : LimbsAt w A (tlen l) c (limbs (lval l)) := by
  have h1 := tlen_le h.low
  rw [h.len] at h1
  refine ⟨?_, digs_low BB2 _, Nat.le_trans h1 h.cap, Nat.le_trans h1 h.max⟩
  rw [← take_tlen h.low]
  exact h.row.take h1
theorem lt (h : LimbsAt w A n c l) (hn : 0 < n) : ∃ b off, A = some ⟨b, off, none⟩ ∧ b < w.heap.size := by
  obtain ⟨b, off, e, hb, _⟩ := h.row.2 0 hn
  exact ⟨b, off, e, hb⟩
end LimbsAt
theorem OwnR.cap {e : TypeId} {q : IntKind} {w : World} {base n c : Nat} {A : Option Addr} {l : List Nat} (h : OwnR e q w base A n c l) : n ≤ c := by
  rcases h.2 with ⟨hv, h0⟩ | ⟨g, cap, cur, hv, hg, hh, h1, _⟩
  · omega
  · injection hv with _ _ e3
    omega
theorem OwnR.toLimbs {w : World} {base n c : Nat} {A : Option Addr} {l : List Nat} (h : OwnR 126 .u32 w base A n c l) (low : Low BB l) (hm : n ≤ 100000) : LimbsAt w A n c l := ⟨h.row, low, h.cap, hm⟩
set_option maxRecDepth 100000 in
set_option maxHeartbeats 800000 in
theorem trim_any (A : Option Addr) (n c : Nat) (l : List Nat) (w : World) (hA : LimbsAt w A n c l) :
    Calls Tryz.prog 141 #[.slice A n c] w fun e w' => e = .returned (.slice A (tlen l) c) ∧ w = w' := by
  obtain ⟨h, low, hcap, hn⟩ := hA
  have hlen := h.1
  have LOW := Lib.hid low
  have HLEN := Lib.hid hlen
  clear low hlen
  go_enter Tryz.func141, Tryz.ntmps141
  go_wp2_with fail
  go_loop [3] (fun i => ∃ k : Nat, k ≤ n ∧ i = .int .i64 k ∧ ∀ j, k ≤ j → j < n → l.getD j 0 = 0) (fun i => (intOf i).toNat)
  case atStart => exact ⟨n, Nat.le_refl _, rfl, fun j h1 h2 => by omega⟩
  case round =>
    obtain ⟨k, hk, rfl, hz⟩ := hrel
    have HZ := Lib.hid hz
    clear hz
    by_cases h0 : k = 0
    · subst h0
      have ht := (tlen_of LOW.out (k := 0) (Nat.zero_le _) (fun j h1 h2 => HZ.out j h1 (by rw [← HLEN.out]; exact h2)) (.inl rfl)).1
      have HT := Lib.hid ht
      clear ht
      go_wp2_with fail
      go_ret
      exact ⟨by rw [HT.out]; rfl, rfl⟩
    · obtain ⟨m, rfl⟩ : ∃ m, k = m + 1 := ⟨k - 1, by omega⟩
      obtain ⟨b, off, rfl, hb, hc⟩ := h.2 m (by omega)
      by_cases hx : l.getD m 0 = 0
      · rw [hx] at hc
        have HX := Lib.hid hx
        clear hx h0
        go_wp2_with fail
        go_round
        case rel => exact ⟨m, by omega, by go_num, fun j h1 h2 => by
          by_cases e : j = m
          · rw [e]; exact HX.out
          · exact HZ.out j (by omega) h2⟩
        case measure => simp [intOf]
      · have ht := (tlen_of LOW.out (k := m + 1) (by rw [HLEN.out]; exact hk) (fun j h1 h2 => HZ.out j h1 (by rw [← HLEN.out]; exact h2)) (.inr (by simpa using hx))).1
        have HT := Lib.hid ht
        obtain ⟨x, hxx⟩ : ∃ x, x = l.getD m 0 := ⟨_, rfl⟩
        rw [← hxx] at hc hx
        have hb0 : (((x : Nat) : Int) == 0) = false := by simpa using hx
        clear ht h0 hxx hx
        have hc1 : (m : Int) + 1 ≤ (c : Int) := by omega
        go_wp2_with fail
        go_ret
        exact ⟨by rw [HT.out]; rfl, rfl⟩
open Go.RowKit
set_option maxRecDepth 100000 in
set_option maxHeartbeats 400000 in
theorem limb_any (A : Option Addr) (n c : Nat) (l : List Nat) (i : Nat) (w : World) (h : LimbsAt w A n c l) (_hi : i ≤ 1000000) :
    Calls Tryz.prog 157 #[.slice A n c, .int .i64 (i : Int)] w fun e w' => e = .returned (.int .u64 ((l.getD i 0 : Nat) : Int)) ∧ w = w' := by
  by_cases hlt : i < n
  · obtain ⟨b, off, rfl, hb, hc⟩ := h.row.2 i hlt
    have hx := low_cast h.low i
    have hm := h.max
    obtain ⟨x, hxx⟩ : ∃ x, x = l.getD i 0 := ⟨_, rfl⟩
    rw [← hxx] at hc hx ⊢
    have hx0 : (0 : Int) ≤ (x : Int) := by omega
    clear hxx h
    go_enter Tryz.func157, Tryz.ntmps157
    go_wp2
    go_ret
    exact ⟨rfl, rfl⟩
  · have e : l.getD i 0 = 0 := by
      rw [List.getD_eq_getElem?_getD, List.getElem?_eq_none (by rw [h.len]; omega)]; rfl
    have E := Lib.hid e
    have hm := h.max
    clear e h
    go_enter Tryz.func157, Tryz.ntmps157
    go_wp2
    go_ret
    exact ⟨by rw [E.out]; rfl, rfl⟩
/-- A number, as an argument. -/
abbrev numArg (neg : Bool) (A : Option Addr) (n c : Nat) : Value := .agg #[.bool neg, .slice A n c]
/-- Is it below 0? -/
def belowB (neg : Bool) (l : List Nat) : Bool := neg && decide (0 < lval l)
/-- What it comes to. -/
def sval (neg : Bool) (l : List Nat) : Int := if neg then -(lval l : Int) else (lval l : Int)
theorem tlen_pos (l : List Nat) : 0 < tlen l ↔ 0 < lval l := by
  unfold tlen
  constructor
  · intro h
    rcases Nat.eq_zero_or_pos (lval l) with e | e
    · rw [e] at h
      unfold limbs at h
      rw [digs_zero] at h
      simp at h
    · exact e
  · intro h
    rcases Nat.eq_zero_or_pos (limbs (lval l)).length with e | e
    · have := digs_nil BB2 (List.eq_nil_of_length_eq_zero e)
      omega
    · exact e
theorem belowB_iff (neg : Bool) (l : List Nat) : belowB neg l = decide (sval neg l < 0) := by
  unfold belowB sval
  cases neg
  · simp
  · rw [Bool.true_and, if_pos rfl]
    exact decide_eq_decide.2 (by omega)
def BoolPost (b : Bool) (w : World) (e : Ending) (w' : World) : Prop := e = .returned (.bool b) ∧ Keep (fun _ => False) w w'
open Go.RowKit
open Go.RowKit
theorem info63 : (Tryz.prog.info? 126).map (fun i => (i.zero, i.size, i.bytes)) = some (some (.int .u32 0), 1, 4) := by kernel_rfl
/-- What a call hands back that has made limbs. -/
def OwnPost (l : List Nat) (w : World) (e : Ending) (w' : World) : Prop :=
  ∃ (A : Option Addr) (n c : Nat), e = .returned (.slice A n c) ∧ OwnR 126 .u32 w' w.heap.size A n c l ∧ Keep (fun _ => False) w w'
theorem RowAt.news {q : IntKind} {w : World} {ad : Addr} {n : Nat} {l : List Nat} (h : RowAt q w (some ad) n l) : ∀ j u, (l.map fun x : Nat => Value.int q (x : Int))[j]? = some u → w.cell? (ad.add j) = some u := by
  intro j u hu
  have hj : j < n := by
    rcases Nat.lt_or_ge j n with h' | h'
    · exact h'
    · rw [List.getElem?_eq_none (by rw [List.length_map, h.1]; exact h')] at hu; cases hu
  obtain ⟨b, off, e, hb, hc⟩ := h.2 j hj
  injection e with e
  subst e
  rw [Addr.add_mid, hc]
  rw [List.getElem?_map, List.getElem?_eq_getElem (by rw [h.1]; exact hj)] at hu
  rw [List.getD_eq_getElem?_getD, List.getElem?_eq_getElem (by rw [h.1]; exact hj)]
  simpa using hu
theorem own_slice {e : TypeId} {q : IntKind} {w : World} {base n : Nat} {v : Value} {l : List Nat} (h : w.ownsRow base e 1 v n (l.map fun x : Nat => Value.int q (x : Int))) : ∃ A c, v = .slice A n c ∧ OwnR e q w base A n c l := by
  rcases h.2 with ⟨rfl, rfl⟩ | ⟨g, cap, cur, rfl, _⟩
  · exact ⟨none, 0, rfl, h⟩
  · exact ⟨_, _, rfl, h⟩
theorem empty_own (w : World) (e : TypeId) : (w.alloc (.cells #[] e)).ownsRow w.heap.size e 1 (.slice (some ⟨w.heap.size, 0, none⟩) 0 0) 0 [] := by
  refine ⟨rfl, .inr ⟨w.heap.size, 0, #[], rfl, Nat.le_refl _, heap_alloc_new _ _, Nat.le_refl _, by unfold maxLen; omega, rfl, rfl⟩⟩
set_option maxRecDepth 100000 in
set_option maxHeartbeats 800000 in
theorem clone_any (A : Option Addr) (n c : Nat) (l : List Nat) (w : World) (h : LimbsAt w A n c l) :
    Calls Tryz.prog 140 #[.slice A n c] w (OwnPost l w) := by
  obtain ⟨i0, hi, hz0, hz1, hz2⟩ := info_parts info63
  rcases A with _ | ad
  · have hn : n = 0 := by
      rcases Nat.eq_zero_or_pos n with e | e
      · exact e
      · obtain ⟨b, off, e, _⟩ := h.lt e
        cases e
    subst hn
    obtain rfl : l = [] := List.eq_nil_of_length_eq_zero h.len
    have hnil : (binOp BinOp.eql 22 (Value.slice none 0 c) (Value.slice none 0 0)).run Tryz.prog w = .ok (.bool true) w := by kernel_rfl
    clear hi hz0 hz1 hz2
    go_enter Tryz.func140, Tryz.ntmps140
    go_wp2_with fail
    go_ret
    exact ⟨none, 0, 0, rfl, OwnR.nil _ _ _ _, Keep.refl _ _⟩
  · have hnil : (binOp BinOp.eql 22 (Value.slice (some ad) n c) (Value.slice none 0 0)).run Tryz.prog w = .ok (.bool false) w := by kernel_rfl
    have K : Keep (fun _ => False) w (w.alloc (.cells #[] 126)) := (Keep.refl _ _).alloc _
    have hm := h.max
    have hlen := h.len
    have HN := Lib.hid (h.keep0 K).row
    have HLEN := Lib.hid hlen
    clear hlen h
    go_enter Tryz.func140, Tryz.ntmps140
    go_wp2_with (at_builtin; refine wpList_append_own _ rfl (.tmp 5) (.tmp 6) 22 rfl w.heap.size 126 i0 (.int .u32 0) 1 4 Tryz.underlying22 hi hz0 hz1 hz2 rfl (by decide) _ _ _ rfl (empty_own w 126) ad n c (l.map fun x : Nat => Value.int .u32 (x : Int)) rfl (by rw [List.length_map, HLEN.out, Nat.mul_one]) HN.out.news ?a1 ?a2 ?a3 ?a4 ?_)
    case a1 =>
      intro u hu
      obtain ⟨y, _, rfl⟩ := List.mem_map.1 hu
      rfl
    case a2 => unfold maxLen; omega
    case a3 => omega
    case a4 => simp
    intro v' w' hown hgrow _
    have K2 : Keep (fun _ => False) w w' := K.grown hgrow (fun k hk => .inr (by simp [Value.ownBlock] at hk; omega))
    have hown2 : w'.ownsRow w.heap.size 126 1 v' n (l.map fun x : Nat => Value.int .u32 (x : Int)) := by simpa using hown
    obtain ⟨A', c', rfl, own⟩ := own_slice hown2
    clear hown hgrow hown2
    go_wp2_with fail
    go_ret
    exact ⟨A', n, c', rfl, own, K2⟩
/-- Does it fit into 48 limbs? -/
def Fits (x : Int) : Prop := (limbs x.natAbs).length ≤ 48
/-- What a function hands back that makes a number. -/
def ResPost (x : Int) (w : World) (e : Ending) (w' : World) : Prop :=
  Keep (fun _ => False) w w' ∧ ((¬ Fits x ∧ e = .returned (.tuple #[numArg false none 0 0, .int .i64 6])) ∨
    ∃ (A : Option Addr) (n c : Nat), Fits x ∧ e = .returned (.tuple #[numArg (decide (x < 0)) A n c, .int .i64 0]) ∧ OwnR 126 .u32 w' w.heap.size A n c (limbs x.natAbs))
theorem sval_abs (neg : Bool) (l : List Nat) : (sval neg l).natAbs = lval l := by unfold sval; cases neg <;> simp
theorem sval_limbs (x : Int) : sval (decide (x < 0)) (limbs x.natAbs) = x := by
  unfold sval lval limbs
  rw [val_digs BB2]
  by_cases h : x < 0
  · rw [decide_eq_true h, if_pos rfl]; omega
  · rw [decide_eq_false h]; simp; omega
/-- Both cells of a result are written. -/
theorem two_cells {w : World} {B : Nat} {p q : Value} {t : TypeId} (hb : w.heap[B]? = some (.cells #[p, q] t (0, 0))) (a b : Value) :
    ((w.setCell ⟨B, 0, none⟩ a).setCell ⟨B, 1, none⟩ b).cell? ⟨B, 0, none⟩ = some a ∧ ((w.setCell ⟨B, 0, none⟩ a).setCell ⟨B, 1, none⟩ b).cell? ⟨B, 1, none⟩ = some b := by
  have h : ((w.setCell ⟨B, 0, none⟩ a).setCell ⟨B, 1, none⟩ b).heap[B]? = some (.cells #[a, b] t (0, 0)) := by
    simp [World.setCell, Array.getElem?_modify, hb]
  exact ⟨by rw [cell_of_row _ _ _ _ _ _ h]; rfl, by rw [cell_of_row _ _ _ _ _ _ h]; rfl⟩
theorem two_keep {S : Nat → Prop} {w w2 : World} {B : Nat} (h : Keep S w w2) (hB : w.heap.size ≤ B) (a b : Value) : Keep S w ((w2.setCell ⟨B, 0, none⟩ a).setCell ⟨B, 1, none⟩ b) :=
  (h.setCell (p := ⟨B, 0, none⟩) (.inr hB) a).setCell (p := ⟨B, 1, none⟩) (.inr hB) b
theorem two_own {e : TypeId} {q : IntKind} {w2 : World} {base n c B : Nat} {A : Option Addr} {l : List Nat} (h : OwnR e q w2 base A n c l) (hB : B < base) (a b : Value) : OwnR e q ((w2.setCell ⟨B, 0, none⟩ a).setCell ⟨B, 1, none⟩ b) base A n c l := by
  refine h.keep (S := fun k => k = B) (((Keep.refl (fun k => k = B) w2).setCell (p := ⟨B, 0, none⟩) (.inl rfl) a).setCell (p := ⟨B, 1, none⟩) (.inl rfl) b) (fun k off e1 => ?_)
  have := (h.fresh k off e1).1
  show ¬ k = B
  omega
set_option maxRecDepth 100000 in
set_option maxHeartbeats 2000000 in
theorem made_any (neg : Bool) (A : Option Addr) (n c : Nat) (l : List Nat) (w : World) (h : LimbsAt w A n c l) :
    Calls Tryz.prog 158 #[.bool neg, .slice A n c] w (ResPost (sval neg l) w) := by
  have K : Keep (fun _ => False) w (w.alloc (.cells #[.bool false, .slice none 0 0] 24)) := (Keep.refl _ _).alloc _
  have h1 := h.keep0 K
  have H1 := Lib.hid h1
  have t1 := Lib.hid h1.trim
  have tm := h1.trim.max
  have hfit : Fits (sval neg l) ↔ tlen l ≤ 48 := by unfold Fits tlen; rw [sval_abs]
  have hneg : belowB neg l = (neg && decide (0 < tlen l)) := by
    unfold belowB
    congr 1
    exact decide_eq_decide.2 (tlen_pos l).symm
  have hbi := belowB_iff neg l
  rw [hneg] at hbi
  have HB := Lib.hid hbi
  have HF := Lib.hid hfit
  clear h h1 hfit hneg hbi
  by_cases hbig : 48 < tlen l
  · go_enter Tryz.func158, Tryz.ntmps158
    go_wp2_with fail
    refine (trim_any A n c l _ H1.out).mono ?_
    rintro e w1 ⟨rfl, rfl⟩
    go_wp2_with fail
    exact bodyPost_ret (v := .tuple #[numArg false none 0 0, .int .i64 6]) (by simp [results, Tryz.results158, go_sem]) rfl ⟨(Keep.refl _ _).alloc _, .inl ⟨fun f => by have := HF.out.1 f; omega, rfl⟩⟩
  · have hbig' : decide ((48 : Int) < (tlen l : Int)) = false := decide_eq_false (by omega)
    have hF := Lib.hid (HF.out.2 (by omega))
    clear hbig
    cases neg with
    | false =>
      go_enter Tryz.func158, Tryz.ntmps158
      go_wp2_with fail
      refine (trim_any A n c l _ H1.out).mono ?_
      rintro e w1 ⟨rfl, rfl⟩
      go_wp2_with fail
      refine (clone_any A _ c _ _ t1.out).mono ?_
      rintro e w2 ⟨A2, n2, c2, rfl, own, k2⟩
      have hb := k2.heap (heap_alloc_new w (.cells #[.bool false, .slice none 0 0] 24)) (by simp)
      have r0 : w2.cell? ⟨w.heap.size, 0, none⟩ = some (.bool false) := by rw [cell_of_row w2 _ _ _ _ _ hb]; rfl
      have r1 : w2.cell? ⟨w.heap.size, 1, none⟩ = some (.slice none 0 0) := by rw [cell_of_row w2 _ _ _ _ _ hb]; rfl
      have f0 : w2.frozen? ⟨w.heap.size, 0, none⟩ = false := by simp [World.frozen?, hb]
      have f1 : w2.frozen? ⟨w.heap.size, 1, none⟩ = false := by simp [World.frozen?, hb]
      have OWN := Lib.hid own
      have HBX := Lib.hid hb
      have KK := Lib.hid (K.trans k2)
      clear own hb k2 K
      go_wp2_with fail
      obtain ⟨e0, e1⟩ := two_cells HBX.out (.bool false) (.slice A2 n2 c2)
      refine bodyPost_ret (v := .tuple #[numArg (decide (sval false l < 0)) A2 n2 c2, .int .i64 0]) ?_ rfl ⟨two_keep KK.out (Nat.le_refl _) _ _, .inr ⟨A2, n2, c2, hF.out, rfl, ?_⟩⟩
      · have hbb := HB.out
        rw [← hbb]
        simp [results, Tryz.results158, go_sem, e0, e1]
      · rw [sval_abs]
        exact two_own (OWN.out.mono (base' := w.heap.size + 1) (by simp)) (Nat.lt_succ_self _) _ _ |>.mono (Nat.le_succ _)
    | true =>
      by_cases h0 : 0 < tlen l
      · have h0' : (0 : Int) < (tlen l : Int) := by omega
        have hp : decide (0 < tlen l) = true := by simpa using h0
        clear h0
        go_enter Tryz.func158, Tryz.ntmps158
        go_wp2_with fail
        refine (trim_any A n c l _ H1.out).mono ?_
        rintro e w1 ⟨rfl, rfl⟩
        go_wp2_with fail
        refine (clone_any A _ c _ _ t1.out).mono ?_
        rintro e w2 ⟨A2, n2, c2, rfl, own, k2⟩
        have hb := k2.heap (heap_alloc_new w (.cells #[.bool false, .slice none 0 0] 24)) (by simp)
        have r0 : w2.cell? ⟨w.heap.size, 0, none⟩ = some (.bool false) := by rw [cell_of_row w2 _ _ _ _ _ hb]; rfl
        have r1 : w2.cell? ⟨w.heap.size, 1, none⟩ = some (.slice none 0 0) := by rw [cell_of_row w2 _ _ _ _ _ hb]; rfl
        have f0 : w2.frozen? ⟨w.heap.size, 0, none⟩ = false := by simp [World.frozen?, hb]
        have f1 : w2.frozen? ⟨w.heap.size, 1, none⟩ = false := by simp [World.frozen?, hb]
        have OWN := Lib.hid own
        have HBX := Lib.hid hb
        have KK := Lib.hid (K.trans k2)
        clear own hb k2 K
        go_wp2_with fail
        obtain ⟨e0, e1⟩ := two_cells HBX.out (.bool true) (.slice A2 n2 c2)
        refine bodyPost_ret (v := .tuple #[numArg (decide (sval true l < 0)) A2 n2 c2, .int .i64 0]) ?_ rfl ⟨two_keep KK.out (Nat.le_refl _) _ _, .inr ⟨A2, n2, c2, hF.out, rfl, ?_⟩⟩
        · have hbb := HB.out
          rw [← hbb]
          simp [results, Tryz.results158, go_sem, e0, e1, hp]
        · rw [sval_abs]
          exact two_own (OWN.out.mono (base' := w.heap.size + 1) (by simp)) (Nat.lt_succ_self _) _ _ |>.mono (Nat.le_succ _)
      · have h0' : decide ((0 : Int) < (tlen l : Int)) = false := decide_eq_false (by omega)
        have hp : decide (0 < tlen l) = false := by simpa using h0
        clear h0
        go_enter Tryz.func158, Tryz.ntmps158
        go_wp2_with fail
        refine (trim_any A n c l _ H1.out).mono ?_
        rintro e w1 ⟨rfl, rfl⟩
        go_wp2_with fail
        refine (clone_any A _ c _ _ t1.out).mono ?_
        rintro e w2 ⟨A2, n2, c2, rfl, own, k2⟩
        have hb := k2.heap (heap_alloc_new w (.cells #[.bool false, .slice none 0 0] 24)) (by simp)
        have r0 : w2.cell? ⟨w.heap.size, 0, none⟩ = some (.bool false) := by rw [cell_of_row w2 _ _ _ _ _ hb]; rfl
        have r1 : w2.cell? ⟨w.heap.size, 1, none⟩ = some (.slice none 0 0) := by rw [cell_of_row w2 _ _ _ _ _ hb]; rfl
        have f0 : w2.frozen? ⟨w.heap.size, 0, none⟩ = false := by simp [World.frozen?, hb]
        have f1 : w2.frozen? ⟨w.heap.size, 1, none⟩ = false := by simp [World.frozen?, hb]
        have OWN := Lib.hid own
        have HBX := Lib.hid hb
        have KK := Lib.hid (K.trans k2)
        clear own hb k2 K
        go_wp2_with fail
        obtain ⟨e0, e1⟩ := two_cells HBX.out (.bool false) (.slice A2 n2 c2)
        refine bodyPost_ret (v := .tuple #[numArg (decide (sval true l < 0)) A2 n2 c2, .int .i64 0]) ?_ rfl ⟨two_keep KK.out (Nat.le_refl _) _ _, .inr ⟨A2, n2, c2, hF.out, rfl, ?_⟩⟩
        · have hbb := HB.out
          rw [← hbb]
          simp [results, Tryz.results158, go_sem, e0, e1, hp]
        · rw [sval_abs]
          exact two_own (OWN.out.mono (base' := w.heap.size + 1) (by simp)) (Nat.lt_succ_self _) _ _ |>.mono (Nat.le_succ _)
theorem Fits_iff (x : Int) : Fits x ↔ x.natAbs < BB ^ 48 := digs_len_le BB2 _ _
/-- A number that was made, as an argument. -/
theorem OwnR.num {w : World} {base n c : Nat} {A : Option Addr} {x : Int} (h : OwnR 126 .u32 w base A n c (limbs x.natAbs)) (hf : Fits x) : LimbsAt w A n c (limbs x.natAbs) := by
  have hl := h.len
  unfold Fits at hf
  exact h.toLimbs (digs_low BB2 _) (by omega)
/-- The same, written into the result's block. -/
theorem res_two {x : Int} {w w1 w2 : World} {B : Nat} (k : Keep (fun _ => False) w w1) (hB : w.heap.size ≤ B) (hB1 : B < w1.heap.size) {p q : Value} (hb : w1.heap[B]? = some (.cells #[p, q] 24 (0, 0))) {e : Ending} (h : ResPost x w1 e w2) :
    ∃ (neg : Bool) (A : Option Addr) (n c : Nat) (f : Int), e = .returned (.tuple #[numArg neg A n c, .int .i64 f]) ∧
      w2.cell? ⟨B, 0, none⟩ = some p ∧ w2.cell? ⟨B, 1, none⟩ = some q ∧ w2.frozen? ⟨B, 0, none⟩ = false ∧ w2.frozen? ⟨B, 1, none⟩ = false ∧
      ((w2.setCell ⟨B, 0, none⟩ (.bool neg)).setCell ⟨B, 1, none⟩ (.slice A n c)).cell? ⟨B, 0, none⟩ = some (.bool neg) ∧
      ((w2.setCell ⟨B, 0, none⟩ (.bool neg)).setCell ⟨B, 1, none⟩ (.slice A n c)).cell? ⟨B, 1, none⟩ = some (.slice A n c) ∧
      ResPost x w (.returned (.tuple #[numArg neg A n c, .int .i64 f])) ((w2.setCell ⟨B, 0, none⟩ (.bool neg)).setCell ⟨B, 1, none⟩ (.slice A n c)) := by
  obtain ⟨k2, h⟩ := h
  have hb2 := k2.heap hb (by simp)
  have c0 : w2.cell? ⟨B, 0, none⟩ = some p := by rw [cell_of_row w2 _ _ _ _ _ hb2]; rfl
  have c1 : w2.cell? ⟨B, 1, none⟩ = some q := by rw [cell_of_row w2 _ _ _ _ _ hb2]; rfl
  have f0 : w2.frozen? ⟨B, 0, none⟩ = false := by simp [World.frozen?, hb2]
  have f1 : w2.frozen? ⟨B, 1, none⟩ = false := by simp [World.frozen?, hb2]
  rcases h with ⟨hn, rfl⟩ | ⟨A, n, c, hf, rfl, own⟩
  · obtain ⟨e0, e1⟩ := two_cells hb2 (.bool false) (.slice none 0 0)
    exact ⟨false, none, 0, 0, 6, rfl, c0, c1, f0, f1, e0, e1, two_keep (k.trans k2) hB _ _, .inl ⟨hn, rfl⟩⟩
  · obtain ⟨e0, e1⟩ := two_cells hb2 (.bool (decide (x < 0))) (.slice A n c)
    exact ⟨_, A, n, c, 0, rfl, c0, c1, f0, f1, e0, e1, two_keep (k.trans k2) hB _ _, .inr ⟨A, n, c, hf, rfl, (two_own own hB1 _ _).mono k.size⟩⟩
open Go.RowKit
open Go.RowKit
/-- Are two numbers the same, limb by limb? -/
def sameB (neg : Bool) (l : List Nat) (neg' : Bool) (l' : List Nat) : Bool := decide (neg = neg' ∧ l = l')
theorem list_ext {l l' : List Nat} (hl : l.length = l'.length) (h : ∀ j, j < l.length → l.getD j 0 = l'.getD j 0) : l = l' := by
  refine List.ext_getElem hl fun j h1 h2 => ?_
  have := h j h1
  rw [List.getD_eq_getElem?_getD, List.getD_eq_getElem?_getD, List.getElem?_eq_getElem h1, List.getElem?_eq_getElem h2] at this
  exact this
set_option maxRecDepth 100000 in
set_option maxHeartbeats 2000000 in
theorem same_any (neg : Bool) (A : Option Addr) (n c : Nat) (l : List Nat) (neg' : Bool) (A' : Option Addr) (n' c' : Nat) (l' : List Nat) (w : World) (h : LimbsAt w A n c l) (h' : LimbsAt w A' n' c' l') :
    Calls Tryz.prog 45 #[numArg neg A n c, numArg neg' A' n' c'] w (BoolPost (sameB neg l neg' l') w) := by
  have K : Keep (fun _ => False) w ((w.alloc (.cells #[.bool neg, .slice A n c] 24)).alloc (.cells #[.bool neg', .slice A' n' c'] 24)) := ((Keep.refl _ _).alloc _).alloc _
  have hb1 : ((w.alloc (.cells #[.bool neg, .slice A n c] 24)).alloc (.cells #[.bool neg', .slice A' n' c'] 24)).heap[w.heap.size]? = some (.cells #[.bool neg, .slice A n c] 24 (0, 0)) := by
    rw [Below.heap_alloc _ _ _ (by simp)]; exact heap_alloc_new w _
  have hb2 : ((w.alloc (.cells #[.bool neg, .slice A n c] 24)).alloc (.cells #[.bool neg', .slice A' n' c'] 24)).heap[w.heap.size + 1]? = some (.cells #[.bool neg', .slice A' n' c'] 24 (0, 0)) := by
    have := heap_alloc_new (w.alloc (.cells #[.bool neg, .slice A n c] 24)) (.cells #[.bool neg', .slice A' n' c'] 24)
    rwa [World.size_alloc] at this
  have HH := Lib.hid (h.keep0 K)
  have HH' := Lib.hid (h'.keep0 K)
  have hlen := Lib.hid h.len
  have hlen' := Lib.hid h'.len
  have hm := h.max
  have hm' := h'.max
  clear h h'
  by_cases hneg : neg = neg'
  · subst hneg
    by_cases hn : n = n'
    · subst hn
      go_enter Tryz.func45, Tryz.ntmps45
      go_wp2_with fail
      generalize w.heap.size = Ba at hb1 hb2 ⊢
      generalize (w.alloc (.cells #[.bool neg, .slice A n c] 24)).alloc (.cells #[.bool neg, .slice A' n c'] 24) = w1 at K hb1 hb2 HH HH' ⊢
      have HC := Lib.hid (fun (w' : World) (K' : Keep (fun _ => False) w1 w') => (show w'.cell? ⟨Ba, 0, none⟩ = some (.bool neg) ∧ w'.cell? ⟨Ba, 1, none⟩ = some (.slice A n c) ∧ w'.cell? ⟨Ba + 1, 0, none⟩ = some (.bool neg) ∧ w'.cell? ⟨Ba + 1, 1, none⟩ = some (.slice A' n c') from by
        have g1 := K'.heap hb1 (by simp)
        have g2 := K'.heap hb2 (by simp)
        refine ⟨?_, ?_, ?_, ?_⟩
        · rw [cell_of_row w' _ _ _ _ _ g1]; rfl
        · rw [cell_of_row w' _ _ _ _ _ g1]; rfl
        · rw [cell_of_row w' _ _ _ _ _ g2]; rfl
        · rw [cell_of_row w' _ _ _ _ _ g2]; rfl))
      have HK := Lib.hid K
      clear hb1 hb2 K
      obtain ⟨c0, c1, c2, c3⟩ := HC.out _ (Keep.refl _ _)
      go_loopw [5] (fun iv wr => ∃ k : Nat, k ≤ n ∧ iv = .int .i64 (k : Int) ∧ (∀ j, j < k → l.getD j 0 = l'.getD j 0) ∧ Keep (fun _ => False) w1 wr) (fun iv _ => (n - (intOf iv).toNat))
      case atStart => exact ⟨0, Nat.zero_le _, rfl, fun j h1 => by omega, Keep.refl _ _⟩
      case round =>
        obtain ⟨k, hk, rfl, he, KW⟩ := hrel
        have HE := Lib.hid he
        clear he c0 c1 c2 c3
        obtain ⟨c0, c1, c2, c3⟩ := HC.out _ KW
        by_cases hkn : k < n
        · obtain ⟨b1, o1, rfl, hb1, q1⟩ := (HH.out.row.keep0 KW).2 k hkn
          obtain ⟨b2, o2, rfl, hb2, q2⟩ := (HH'.out.row.keep0 KW).2 k hkn
          obtain ⟨x, hx⟩ : ∃ x, x = l.getD k 0 := ⟨_, rfl⟩
          obtain ⟨y, hy⟩ : ∃ y, y = l'.getD k 0 := ⟨_, rfl⟩
          rw [← hx] at q1
          rw [← hy] at q2
          have HX := Lib.hid hx
          have HY := Lib.hid hy
          have i0 : (0 : Int) ≤ (k : Int) := by omega
          have i1 : (k : Int) < (n : Int) := by omega
          by_cases hxy : x = y
          · subst hxy
            clear hx hy
            go_wp2_with fail
            go_quiet (fail)
            go_wp2_with fail
            go_roundw
            case rel => exact ⟨k + 1, by omega, by go_num, fun j h1 => by
              by_cases e : j = k
              · rw [e, ← HX.out, ← HY.out]
              · exact HE.out j (by omega), KW.drewN _⟩
            case measure => simp [intOf]; omega
          · have hb : ((x : Int) != (y : Int)) = true := by
              rw [bne_iff_ne]; omega
            have hf : sameB neg l neg l' = false := decide_eq_false (fun e => hxy (by rw [hx, hy, e.2]))
            have HF := Lib.hid hf
            clear hx hy hxy hf
            go_wp2_with fail
            go_quiet (fail)
            go_wp2_with fail
            go_ret
            exact ⟨by rw [HF.out]; rfl, (HK.out.trans KW).drewN _⟩
        · have hl : l = l' := list_ext (by rw [hlen.out, hlen'.out]) (fun j hj => HE.out j (by rw [hlen.out] at hj; omega))
          have hd : decide ((k : Int) < (n : Int)) = false := decide_eq_false (by omega)
          have HL := Lib.hid (show sameB neg l neg l' = true from decide_eq_true ⟨rfl, hl⟩)
          clear hl
          go_wp2_with fail
          go_ret
          exact ⟨by rw [HL.out]; rfl, HK.out.trans KW⟩
    · have hq : ((n : Int) != (n' : Int)) = true := by rw [bne_iff_ne]; omega
      have HF := Lib.hid (show sameB neg l neg l' = false from decide_eq_false (fun e => hn (by rw [← hlen.out, ← hlen'.out, e.2])))
      have HK := Lib.hid K
      clear hn hb1 hb2 K
      go_enter Tryz.func45, Tryz.ntmps45
      go_wp2_with fail
      go_ret
      exact ⟨by rw [HF.out]; rfl, HK.out⟩
  · have HF := Lib.hid (show sameB neg l neg' l' = false from decide_eq_false (fun e => hneg e.1))
    have HK := Lib.hid K
    have hbn : (neg != neg') = true := by simpa using hneg
    have hbn2 : (!neg == neg') = true := by cases neg <;> cases neg' <;> simp at hneg ⊢
    clear hneg hb1 hb2 K
    go_enter Tryz.func45, Tryz.ntmps45
    go_wp2_with fail
    go_ret
    exact ⟨by rw [HF.out]; rfl, HK.out⟩
open Go.RowKit
/-- The row when k limbs of n are made. -/
def rowPart (F : Nat → Nat → Nat) (n k : Nat) : List Nat := (List.range n).map fun i => if i < k then F i (rowC BB F i) % BB else 0
theorem rowPart_all (F : Nat → Nat → Nat) (n : Nat) : rowPart F n n = rowL BB F n := by
  unfold rowPart rowL
  refine List.map_congr_left fun i hi => ?_
  rw [if_pos (List.mem_range.1 hi)]
theorem rowPart_set (F : Nat → Nat → Nat) (n k : Nat) (hk : k < n) : (rowPart F n k).set k (F k (rowC BB F k) % BB) = rowPart F n (k + 1) := by
  refine List.ext_getElem? fun i => ?_
  rw [List.getElem?_set]
  unfold rowPart
  by_cases hi : i < n
  · by_cases e : k = i
    · subst e
      simp [hi]
    · rw [if_neg e, List.getElem?_map, List.getElem?_map, List.getElem?_range hi]
      simp only [Option.map_some]
      by_cases h : i < k
      · rw [if_pos h, if_pos (by omega)]
      · rw [if_neg h, if_neg (by omega)]
  · rw [List.getElem?_eq_none (by simp; omega), if_neg (by omega), List.getElem?_eq_none (by simp; omega)]
theorem made_zero (n : Nat) : (madeCells #[Value.int .u32 0] n).toList = (List.replicate n 0).map fun x : Nat => Value.int .u32 (x : Int) := by
  refine List.ext_getElem? fun i => ?_
  by_cases hi : i < n
  · simp [madeCells, hi, Nat.mod_one]
  · simp [madeCells, hi]
theorem rowPart_zero (F : Nat → Nat → Nat) (n : Nat) : rowPart F n 0 = List.replicate n 0 := by
  unfold rowPart
  simp only [Nat.not_lt_zero, if_false]
  rw [List.map_const', List.length_range]
/-- What make gives. -/
theorem make_own (w : World) (n : Nat) (hn : n ≤ 100000) : OwnR 126 .u32 (w.alloc (.cells (madeCells #[Value.int .u32 0] n) 126)) w.heap.size (some ⟨w.heap.size, 0, none⟩) n n (List.replicate n 0) := by
  refine ⟨by simp, .inr ⟨w.heap.size, n, madeCells #[Value.int .u32 0] n, rfl, Nat.le_refl _, heap_alloc_new _ _, Nat.le_refl _, by unfold maxLen; omega, by simp [size_madeCells], ?_⟩⟩
  rw [made_zero, List.take_of_length_le (by simp)]
theorem make_run (n : Nat) (hn : n ≤ 100000) (W : World) : (Instr.makeSlice 22 (.int .i64 (n : Int)) (.int .i64 (n : Int))).run Tryz.prog W = .ok (.slice (some ⟨W.heap.size, 0, none⟩) n n) (W.alloc (.cells (madeCells #[Value.int .u32 0] n) 126)) := by
  obtain ⟨i0, hi, hz0, hz1, hz2⟩ := info_parts info63
  have := run_make (P := Tryz.prog) W 22 126 i0 _ Tryz.underlying22 hi hz0 .i64 .i64 (n : Int) (n : Int) (by omega) (by omega) (by rw [hz2]; omega) (by omega)
  rw [hz1] at this
  simpa [Value.cells] using this
set_option maxRecDepth 100000 in
set_option maxHeartbeats 2000000 in
theorem row66 (n b1 b2 : Nat) (F : Nat → Nat → Nat) (w : World) (hn : n ≤ 100000) (hF : ∀ i, i < n → F i (rowC BB F i) ≤ 18446744073709551615)
    (hcall : ∀ i w', i < n → Keep (fun _ => False) w w' → Calls Tryz.prog 156 #[.int .i64 (i : Int), .int .u64 (rowC BB F i : Nat), .pointer (some ⟨b1, 0, none⟩), .pointer (some ⟨b2, 0, none⟩)] w' fun e w'' => e = .returned (.int .u64 (F i (rowC BB F i) : Nat)) ∧ Keep (fun _ => False) w' w'') :
    Calls Tryz.prog 155 #[.int .i64 (n : Int), .func (.func 156) #[] #[.pointer (some ⟨b1, 0, none⟩), .pointer (some ⟨b2, 0, none⟩)]] w (OwnPost (rowL BB F n) w) := by
  have hmk := fun W : World => make_run n hn W
  have HF := Lib.hid hF
  have HC := Lib.hid hcall
  have own := make_own w n hn
  have K : Keep (fun _ => False) w (w.alloc (.cells (madeCells #[Value.int .u32 0] n) 126)) := (Keep.refl _ _).alloc _
  rw [← rowPart_zero F n] at own
  clear hF hcall
  go_enter Tryz.func155, Tryz.ntmps155
  go_wp2_with fail
  clear hmk
  generalize hB : w.heap.size = B at own ⊢
  generalize w.alloc (.cells (madeCells #[Value.int .u32 0] n) 126) = w1 at own K ⊢
  have HB := Lib.hid hB
  clear hB
  go_loopw [6, 7, 8, 12] (fun cv _ _ iv wr => ∃ k : Nat, k ≤ n ∧ iv = .int .i64 k ∧ cv = .int .u64 (rowC BB F k : Nat) ∧ OwnR 126 .u32 wr B (some ⟨B, 0, none⟩) n n (rowPart F n k) ∧ Keep (fun _ => False) w wr) (fun _ _ _ iv _ => n - (intOf iv).toNat)
  case atStart => exact ⟨0, Nat.zero_le _, rfl, rfl, own, K⟩
  case round =>
    clear own K
    obtain ⟨k, hk, rfl, rfl, own, K⟩ := hrel
    by_cases hlt : k < n
    · have hf := HF.out k hlt
      have OWN := Lib.hid own
      clear own
      go_wp2_with fail
      refine (HC.out k _ hlt K).mono ?_
      rintro e w2 ⟨rfl, k2⟩
      have own2 := OWN.out.keep0 k2
      have K2 := K.trans k2
      obtain ⟨b, off, e1, hb, hc⟩ := own2.row.2 k hlt
      injection e1 with e1
      injection e1 with e1a e1b _
      subst e1a e1b
      rw [Nat.zero_add] at hc
      have hfz := own2.frozen _ _ rfl k
      generalize (rowPart F n k).getD k 0 = y at hc
      have OWN2 := Lib.hid own2
      have hsuc : F k (rowC BB F k) / BB = rowC BB F (k + 1) := rfl
      have hset := rowPart_set F n k hlt
      have HSUC := Lib.hid hsuc
      have HSET := Lib.hid hset
      obtain ⟨x, hx⟩ : ∃ x, x = F k (rowC BB F k) := ⟨_, rfl⟩
      rw [← hx] at hf HSUC HSET ⊢
      clear hx hsuc hset own2 hb K OWN k2
      have hd : (x : Int) / 4294967296 = ((rowC BB F (k + 1) : Nat) : Int) := by rw [← HSUC.out]; unfold BB; omega
      have hm : (x : Int) % 4294967296 = ((x % BB : Nat) : Int) := by unfold BB; omega
      have HD := Lib.hid hd
      have HM := Lib.hid hm
      clear hd hm
      go_wp2_with fail
      go_roundw
      case rel => exact ⟨k + 1, by omega, by go_num, by rw [HD.out], by rw [HM.out, ← HSET.out]; exact OWN2.out.set hlt _, K2.setCell (p := ⟨B, k, none⟩) (.inr (by rw [HB.out]; exact Nat.le_refl _)) _⟩
      case measure => simp [intOf]; omega
    · obtain rfl : k = n := by omega
      have OWN := Lib.hid own
      clear own
      go_wp2_with fail
      go_ret
      have o := OWN.out
      rw [rowPart_all] at o
      exact ⟨some ⟨B, 0, none⟩, k, k, rfl, o.mono (by rw [HB.out]; exact Nat.le_refl _), K⟩
open Go.RowKit
def U64Post (x : Nat) (w : World) (e : Ending) (w' : World) : Prop := e = .returned (.int .u64 (x : Int)) ∧ Keep (fun _ => False) w w'
theorem val_set (B : Nat) : ∀ (l : List Nat) (i y : Nat), i < l.length → val B (l.set i y) + B ^ i * l.getD i 0 = val B l + B ^ i * y
  | [], i, y, h => by simp at h
  | x :: l, 0, y, _ => by simp [val]; omega
  | x :: l, i + 1, y, h => by
    have ih := val_set B l i y (by simpa using h)
    rw [List.set_cons_succ, val, val, List.getD_cons_succ, Nat.pow_succ, Nat.mul_comm (B ^ i) B, Nat.mul_assoc, Nat.mul_assoc]
    have : B * (val B (l.set i y) + B ^ i * l.getD i 0) = B * (val B l + B ^ i * y) := by rw [ih]
    rw [Nat.mul_add, Nat.mul_add] at this
    omega
theorem Low.set {B : Nat} {l : List Nat} (h : Low B l) (i : Nat) {y : Nat} (hy : y < B) : Low B (l.set i y) := by
  intro x hx
  rcases List.mem_or_eq_of_mem_set hx with h1 | h1
  · exact h x h1
  · rw [h1]; exact hy
open Go.RowKit
open Go.RowKit
open Go.RowKit
section
variable {B : Nat} (hB : B = 2 ^ 32)
include hB
end
open Go.RowKit
open Go.RowKit
open Go.RowKit
end Go.Proofs.YtonnikipeokkaaaGreatDoor
