/-
  Numbers as rows of digits, the lowest first, to whatever base. Plain Lean, no program in sight.
-/
namespace Go.Proofs.YtdfekphahdmffaaDoor

/-- What a row of digits comes to. -/
def val (B : Nat) : List Nat → Nat
  | [] => 0
  | x :: l => x + B * val B l
/-- The digits of a number, without noughts at the end. -/
def digs (B n : Nat) : List Nat := if _h : n = 0 ∨ B < 2 then [] else n % B :: digs B (n / B)
termination_by n
decreasing_by exact Nat.div_lt_self (by omega) (by omega)
/-- All are digits. -/
def Low (B : Nat) (l : List Nat) : Prop := ∀ x ∈ l, x < B
/-- No nought at the end. -/
def Tight (l : List Nat) : Prop := l.getLast? ≠ some 0

theorem digs_zero (B : Nat) : digs B 0 = [] := by rw [digs]; simp
theorem digs_pos {B n : Nat} (hB : 2 ≤ B) (h : 0 < n) : digs B n = n % B :: digs B (n / B) := by
  rw [digs, dif_neg (by omega)]
theorem val_digs {B : Nat} (hB : 2 ≤ B) (n : Nat) : val B (digs B n) = n := by
  induction n using Nat.strongRecOn with
  | _ n ih =>
    rcases Nat.eq_zero_or_pos n with rfl | h
    · rw [digs_zero]; rfl
    · rw [digs_pos hB h, val, ih _ (Nat.div_lt_self h (by omega))]
      exact Nat.mod_add_div n B
theorem digs_low {B : Nat} (hB : 2 ≤ B) (n : Nat) : Low B (digs B n) := by
  induction n using Nat.strongRecOn with
  | _ n ih =>
    rcases Nat.eq_zero_or_pos n with rfl | h
    · rw [digs_zero]; intro x hx; cases hx
    · rw [digs_pos hB h]
      intro x hx
      rcases List.mem_cons.1 hx with rfl | hx
      · exact Nat.mod_lt _ (by omega)
      · exact ih _ (Nat.div_lt_self h (by omega)) x hx
theorem tight_cons {x : Nat} {l : List Nat} (h : Tight l) (hx : l = [] → x ≠ 0) : Tight (x :: l) := by
  unfold Tight at *
  cases l with
  | nil => simpa using hx rfl
  | cons y l => simpa [List.getLast?_cons_cons] using h
theorem tight_tail {x : Nat} {l : List Nat} (h : Tight (x :: l)) : Tight l := by
  unfold Tight at *
  cases l with
  | nil => simp
  | cons y l => simpa [List.getLast?_cons_cons] using h
theorem digs_nil {B n : Nat} (hB : 2 ≤ B) (h : digs B n = []) : n = 0 := by
  have := val_digs hB n
  rw [h] at this
  exact this.symm
theorem digs_tight {B : Nat} (hB : 2 ≤ B) (n : Nat) : Tight (digs B n) := by
  induction n using Nat.strongRecOn with
  | _ n ih =>
    rcases Nat.eq_zero_or_pos n with rfl | h
    · rw [digs_zero]; simp [Tight]
    · rw [digs_pos hB h]
      refine tight_cons (ih _ (Nat.div_lt_self h (by omega))) fun e => ?_
      have h0 := digs_nil hB e
      have := Nat.mod_add_div n B
      rw [h0] at this
      simp at this
      omega
theorem Low.tail {B x : Nat} {l : List Nat} (h : Low B (x :: l)) : Low B l := fun y hy => h y (List.mem_cons_of_mem _ hy)
theorem Low.head {B x : Nat} {l : List Nat} (h : Low B (x :: l)) : x < B := h x List.mem_cons_self
theorem Low.nil (B : Nat) : Low B [] := fun _ h => absurd h (by simp)
theorem Low.append {B : Nat} {l m : List Nat} (h : Low B l) (k : Low B m) : Low B (l ++ m) := fun x hx => (List.mem_append.1 hx).elim (h x) (k x)
theorem Low.take {B : Nat} {l : List Nat} (h : Low B l) (n : Nat) : Low B (l.take n) := fun x hx => h x (List.mem_of_mem_take hx)
theorem Low.drop {B : Nat} {l : List Nat} (h : Low B l) (n : Nat) : Low B (l.drop n) := fun x hx => h x (List.mem_of_mem_drop hx)
theorem Low.getD {B : Nat} (hB : 0 < B) {l : List Nat} (h : Low B l) (i : Nat) : l.getD i 0 < B := by
  rw [List.getD_eq_getElem?_getD]
  cases e : l[i]? with
  | none => simpa using hB
  | some x => exact h x (List.mem_of_getElem? e)
theorem val_pos {B : Nat} : ∀ {l : List Nat}, Tight l → l ≠ [] → 0 < B → 0 < val B l
  | [], _, h, _ => absurd rfl h
  | x :: l, t, _, hB => by
    rw [val]
    cases l with
    | nil =>
      have : x ≠ 0 := by simpa [Tight] using t
      omega
    | cons y l =>
      have := val_pos (tight_tail t) (by simp) hB
      have := Nat.mul_pos hB this
      omega
theorem digs_val {B : Nat} (hB : 2 ≤ B) : ∀ {l : List Nat}, Low B l → Tight l → digs B (val B l) = l
  | [], _, _ => by rw [val, digs_zero]
  | x :: l, hl, ht => by
    have ih := digs_val hB hl.tail (tight_tail ht)
    have h0 : 0 < val B (x :: l) := val_pos ht (by simp) (by omega)
    have hx := hl.head
    have e1 : (x + B * val B l) % B = x := by rw [Nat.add_mul_mod_self_left, Nat.mod_eq_of_lt hx]
    have e2 : (x + B * val B l) / B = val B l := by rw [Nat.add_mul_div_left _ _ (by omega), Nat.div_eq_of_lt hx, Nat.zero_add]
    rw [digs_pos hB h0, val, e1, e2, ih]
theorem val_append (B : Nat) : ∀ (l m : List Nat), val B (l ++ m) = val B l + B ^ l.length * val B m
  | [], m => by simp [val]
  | x :: l, m => by
    rw [List.cons_append, val, val_append B l m, val, List.length_cons, Nat.pow_succ, Nat.mul_add]
    rw [Nat.mul_comm (B ^ l.length) B, Nat.mul_assoc]
    omega
theorem val_lt {B : Nat} : ∀ {l : List Nat}, Low B l → val B l < B ^ l.length
  | [], _ => by simp [val]
  | x :: l, h => by
    have ih := val_lt h.tail
    have hx := h.head
    rw [val, List.length_cons, Nat.pow_succ, Nat.mul_comm (B ^ l.length) B]
    have : B * (val B l + 1) ≤ B * B ^ l.length := Nat.mul_le_mul_left _ ih
    rw [Nat.mul_add] at this
    omega
theorem pow_le_val {B : Nat} (_hB : 0 < B) {l : List Nat} (ht : Tight l) (h : l ≠ []) : B ^ (l.length - 1) ≤ val B l := by
  have e := (List.dropLast_concat_getLast h).symm
  have e2 : val B l = val B l.dropLast + B ^ (l.length - 1) * l.getLast h := by
    conv => lhs; rw [e]
    rw [val_append, List.length_dropLast]
    simp [val]
  have hz : l.getLast h ≠ 0 := by
    intro e3
    exact ht (by rw [List.getLast?_eq_some_getLast h, e3])
  have : B ^ (l.length - 1) * 1 ≤ B ^ (l.length - 1) * l.getLast h := Nat.mul_le_mul_left _ (by omega)
  omega
theorem digs_len_le {B : Nat} (hB : 2 ≤ B) (n k : Nat) : (digs B n).length ≤ k ↔ n < B ^ k := by
  constructor
  · intro h
    have := val_lt (digs_low hB n)
    rw [val_digs hB] at this
    exact Nat.lt_of_lt_of_le this (Nat.pow_le_pow_right (by omega) h)
  · intro h
    rcases Nat.lt_or_ge k (digs B n).length with h2 | h2
    · have hne : digs B n ≠ [] := by intro e; rw [e] at h2; simp at h2
      have h3 := pow_le_val (by omega : 0 < B) (digs_tight hB n) hne
      rw [val_digs hB] at h3
      have h4 : B ^ k ≤ B ^ ((digs B n).length - 1) := Nat.pow_le_pow_right (by omega) (by omega)
      omega
    · exact h2
theorem val_take_succ (B : Nat) (l : List Nat) (i : Nat) : val B (l.take (i + 1)) = val B (l.take i) + B ^ i * l.getD i 0 := by
  rcases Nat.lt_or_ge i l.length with h | h
  · rw [List.take_succ_eq_append_getElem h, val_append, List.length_take, Nat.min_eq_left (by omega)]
    simp [val, List.getD_eq_getElem?_getD, List.getElem?_eq_getElem h]
  · rw [List.take_of_length_le (by omega), List.take_of_length_le h]
    simp [List.getD_eq_getElem?_getD, List.getElem?_eq_none h]
theorem val_zeros (B : Nat) : ∀ {l : List Nat}, (∀ x ∈ l, x = 0) → val B l = 0
  | [], _ => rfl
  | x :: l, h => by rw [val, h x List.mem_cons_self, val_zeros B (fun y hy => h y (List.mem_cons_of_mem _ hy))]; simp
theorem val_take_drop (B : Nat) (l : List Nat) (n : Nat) : val B l = val B (l.take n) + B ^ (l.take n).length * val B (l.drop n) := by
  conv => lhs; rw [← List.take_append_drop n l]
  rw [val_append]
/-- What is behind is nought, and what is ahead has none at its end: that is the digits of the number. -/
theorem take_digs {B : Nat} (hB : 2 ≤ B) {l : List Nat} (hl : Low B l) {n : Nat} (hn : n ≤ l.length) (hz : ∀ j, n ≤ j → j < l.length → l.getD j 0 = 0) (h : n = 0 ∨ l.getD (n - 1) 0 ≠ 0) :
    l.take n = digs B (val B l) := by
  have h0 : val B (l.drop n) = 0 := by
    refine val_zeros B fun x hx => ?_
    obtain ⟨i, hi, e⟩ := List.mem_iff_getElem.1 hx
    rw [List.length_drop] at hi
    have := hz (n + i) (by omega) (by omega)
    rw [List.getD_eq_getElem?_getD, List.getElem?_eq_getElem (by omega)] at this
    rw [List.getElem_drop] at e
    simp at this
    omega
  have e := val_take_drop B l n
  rw [h0, Nat.mul_zero, Nat.add_zero] at e
  rw [e]
  refine (digs_val hB (hl.take n) ?_).symm
  unfold Tight
  rcases h with rfl | h
  · simp
  · rw [List.getLast?_eq_getElem?, List.length_take, Nat.min_eq_left hn]
    rw [List.getElem?_take]
    rw [List.getD_eq_getElem?_getD] at h
    split
    · intro e2; rw [e2] at h; simp at h
    · simp
theorem digs_inj {B : Nat} (hB : 2 ≤ B) {m n : Nat} (h : digs B m = digs B n) : m = n := by
  have := congrArg (val B) h
  rwa [val_digs hB, val_digs hB] at this
theorem digs_trim {B : Nat} (hB : 2 ≤ B) {n : Nat} : digs B (val B (digs B n)) = digs B n := by rw [val_digs hB]
theorem val_take_all (B : Nat) (l : List Nat) (n : Nat) (h : l.length ≤ n) : val B (l.take n) = val B l := by rw [List.take_of_length_le h]
theorem val_take_lt {B : Nat} (_hB : 0 < B) {l : List Nat} (hl : Low B l) (i : Nat) : val B (l.take i) < B ^ i := by
  have h := val_lt (hl.take i)
  exact Nat.lt_of_lt_of_le h (Nat.pow_le_pow_right (by omega) (by rw [List.length_take]; omega))

/-- A row that is made digit by digit, with what is carried on. -/
def rowC (B : Nat) (f : Nat → Nat → Nat) : Nat → Nat
  | 0 => 0
  | i + 1 => f i (rowC B f i) / B
def rowL (B : Nat) (f : Nat → Nat → Nat) (n : Nat) : List Nat := (List.range n).map fun i => f i (rowC B f i) % B
theorem rowL_len (B : Nat) (f : Nat → Nat → Nat) (n : Nat) : (rowL B f n).length = n := by simp [rowL]
theorem rowL_succ (B : Nat) (f : Nat → Nat → Nat) (n : Nat) : rowL B f (n + 1) = rowL B f n ++ [f n (rowC B f n) % B] := by
  unfold rowL; rw [List.range_succ, List.map_append]; rfl
theorem rowL_low {B : Nat} (hB : 0 < B) (f : Nat → Nat → Nat) (n : Nat) : Low B (rowL B f n) := by
  intro x hx
  obtain ⟨i, _, rfl⟩ := List.mem_map.1 hx
  exact Nat.mod_lt _ hB
theorem rowL_getD (B : Nat) (f : Nat → Nat → Nat) (n i : Nat) (h : i < n) : (rowL B f n).getD i 0 = f i (rowC B f i) % B := by
  simp [rowL, List.getD_eq_getElem?_getD, List.getElem?_map, List.getElem?_range h]
theorem val_rowL_succ (B : Nat) (f : Nat → Nat → Nat) (n : Nat) : val B (rowL B f (n + 1)) + B ^ (n + 1) * rowC B f (n + 1) = val B (rowL B f n) + B ^ n * f n (rowC B f n) := by
  rw [rowL_succ, val_append, rowL_len, rowC, Nat.pow_succ, Nat.mul_assoc]
  have h := Nat.mod_add_div (f n (rowC B f n)) B
  have : B ^ n * (f n (rowC B f n)) = B ^ n * (f n (rowC B f n) % B) + B ^ n * (B * (f n (rowC B f n) / B)) := by rw [← Nat.mul_add, h]
  rw [this]
  simp only [val, Nat.mul_zero, Nat.add_zero]
  omega

/-- Two rows added. -/
def plusF (a b : List Nat) (i c : Nat) : Nat := a.getD i 0 + b.getD i 0 + c
theorem plus_inv {B : Nat} (hB : 2 ≤ B) {a b : List Nat} (ha : Low B a) (hb : Low B b) : ∀ i, val B (rowL B (plusF a b) i) + B ^ i * rowC B (plusF a b) i = val B (a.take i) + val B (b.take i) ∧ rowC B (plusF a b) i ≤ 1
  | 0 => by simp [rowL, rowC, val]
  | i + 1 => by
    obtain ⟨h1, h2⟩ := plus_inv hB ha hb i
    have x := ha.getD (by omega) i
    have y := hb.getD (by omega) i
    refine ⟨?_, ?_⟩
    · rw [val_rowL_succ, val_take_succ, val_take_succ]
      simp only [plusF, Nat.mul_add]
      omega
    · rw [rowC]
      simp only [plusF]
      have : a.getD i 0 + b.getD i 0 + rowC B (plusF a b) i < 2 * B := by omega
      have := (Nat.div_lt_iff_lt_mul (by omega : 0 < B)).2 this
      omega
theorem plus_val {B : Nat} (hB : 2 ≤ B) {a b : List Nat} (ha : Low B a) (hb : Low B b) {n : Nat} (h1 : a.length < n) (h2 : b.length < n) : val B (rowL B (plusF a b) n) = val B a + val B b := by
  obtain ⟨m, rfl⟩ : ∃ m, n = m + 1 := ⟨n - 1, by omega⟩
  obtain ⟨h, hc⟩ := plus_inv hB ha hb (m + 1)
  rw [val_take_all _ _ _ (by omega), val_take_all _ _ _ (by omega)] at h
  have e1 := val_take_lt (B := B) (by omega) ha m
  have e2 := val_take_lt (B := B) (by omega) hb m
  rw [val_take_all _ _ _ (by omega)] at e1 e2
  have e3 : B ^ (m + 1) = B ^ m * B := Nat.pow_succ ..
  have e4 : B ^ m * 2 ≤ B ^ m * B := Nat.mul_le_mul_left _ hB
  have hz : rowC B (plusF a b) (m + 1) = 0 := by
    rcases Nat.lt_or_ge 0 (rowC B (plusF a b) (m + 1)) with h0 | h0
    · have : rowC B (plusF a b) (m + 1) = 1 := by omega
      rw [this] at h
      omega
    · omega
  rw [hz] at h
  omega

end Go.Proofs.YtdfekphahdmffaaDoor
