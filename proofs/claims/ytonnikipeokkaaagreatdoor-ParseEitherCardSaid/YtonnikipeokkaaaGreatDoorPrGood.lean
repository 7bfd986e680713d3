/-
  Data that may be: what a token has, and what reading makes. Plain Lean, no program in sight.
-/
import Derived.Test.YtonnikipeokkaaaGreatDoorPaMem
namespace Go.Proofs.YtonnikipeokkaaaGreatDoor
open Go.Lib

/-- A datum that may be, but for its depth. -/
inductive GoodR : Raw → Prop
  | atom {k : Int} (h : k = 0 ∨ k = 1 ∨ k = 2) : GoodR (.mk k 0 false [] ⟨#[]⟩ [])
  | chr {c : Nat} (h : charB c = true) : GoodR (.mk 3 (c : Int) false [] ⟨#[]⟩ [])
  | int {x : Int} (h : (limbs x.natAbs).length ≤ 48) : GoodR (.mk 4 0 (decide (x < 0)) (limbs x.natAbs) ⟨#[]⟩ [])
  | str {t : ByteArray} {r : List Nat} (h : runesL t.data.toList = some r) (hr : r.length ≤ 62) : GoodR (.mk 5 0 false [] t [])
  | sym {t : ByteArray} {r : List Nat} (h : runesL t.data.toList = some r) (hr : r.length ≤ 62) (h0 : 0 < r.length) : GoodR (.mk 6 0 false [] t [])
  | pair {a d : Raw} (ha : GoodR a) (hd : GoodR d) : GoodR (.mk 7 0 false [] ⟨#[]⟩ [a, d])
  | vec {l : List Raw} (hl : l.length ≤ 62) (h : ∀ i (hi : i < l.length), GoodR l[i]) : GoodR (.mk 8 0 false [] ⟨#[]⟩ l)
mutual
/-- Data within data. -/
def depthR : Raw → Nat
  | .mk k _ _ _ _ l => max (if k = 8 then 1 else 0) (depthL k l)
def depthL (k : Int) : List Raw → Nat
  | [] => 0
  | x :: l => max (if k = 7 ∧ l = [] ∧ x.k = 7 then depthR x else depthR x + 1) (depthL k l)
end
theorem depth_pair (a d : Raw) : depthR (pairR a d) = max (depthR a + 1) (if d.k = 7 then depthR d else depthR d + 1) := by
  unfold pairR
  rw [depthR, depthL, depthL, depthL, if_neg (by decide), if_neg (by simp)]
  simp
theorem depth_vec (l : List Raw) (D : Nat) (h : ∀ x ∈ l, depthR x + 1 ≤ D) (hD : 1 ≤ D) : depthR (vecR l) ≤ D := by
  unfold vecR
  rw [depthR, if_pos rfl]
  suffices hs : depthL 8 l ≤ D by omega
  induction l with
  | nil => rw [depthL]; omega
  | cons x l ih =>
    rw [depthL, if_neg (by simp)]
    have := ih (fun y hy => h y (List.mem_cons_of_mem _ hy))
    have := h x List.mem_cons_self
    omega
theorem depth_list : ∀ (l : List Raw) (t : Raw) (D : Nat), l ≠ [] → (∀ x ∈ l, depthR x + 1 ≤ D) → depthR t + 1 ≤ D → depthR (listR l t) ≤ D
  | [], _, _, h, _, _ => absurd rfl h
  | [x], t, D, _, h, ht => by
    rw [listR, listR, depth_pair]
    have := h x List.mem_cons_self
    split <;> omega
  | x :: y :: l, t, D, _, h, ht => by
    rw [listR, depth_pair]
    have h1 := h x List.mem_cons_self
    have h2 := depth_list (y :: l) t D (by simp) (fun z hz => h z (List.mem_cons_of_mem _ hz)) ht
    have h3 : (listR (y :: l) t).k = 7 := rfl
    rw [if_pos h3]
    omega
theorem good_list : ∀ (l : List Raw) (t : Raw), (∀ x ∈ l, GoodR x) → GoodR t → GoodR (listR l t)
  | [], _, _, ht => ht
  | x :: l, t, h, ht => .pair (h x List.mem_cons_self) (good_list l t (fun y hy => h y (List.mem_cons_of_mem _ hy)) ht)
theorem good_nil : GoodR .nil := .atom (.inl rfl)
/-! ### tokens -/
theorem decode_char (l : List UInt8) : charB (decodeL l).1 = true := by
  rw [decodeL_N]
  unfold decodeN charB
  repeat' split
  all_goals first | decide | (apply decide_eq_true; simp only; omega)
theorem named_char {t : List UInt8} {v : Nat} (h : namedL t = some v) : charB v = true := by
  unfold namedL at h
  repeat' split at h
  all_goals first | (cases h; done) | (injection h with h; subst h; decide)
theorem charL_good {t : List UInt8} {v n : Nat} (h : charL t = .ok (v, n)) : charB v = true := by
  unfold charL at h
  split at h
  · cases h
  split at h
  · cases h
  · simp only at h
    split at h
    · injection h with h; injection h with h1 h2; rw [← h1]; exact decode_char t
    · split at h
      · rename_i v' hv
        injection h with h; injection h with h1 h2; rw [← h1]; exact named_char hv
      · split at h
        · split at h
          · rename_i r hr
            injection h with h; injection h with h1 h2; rw [← h1]; exact hexC_char hr
          · cases h
        · cases h
theorem textL_good {sym : Bool} {t : List UInt8} {d : Leaf} (h : textL sym t = .ok d) : GoodR (leafR d) := by
  unfold textL at h
  split at h
  · cases h
  · rename_i r hr
    split at h
    · cases h
    split at h
    · cases h
    · rename_i h1 h2
      injection h with h
      subst h
      cases sym with
      | false => exact .str (r := r) hr (by omega)
      | true =>
        refine .sym (r := r) hr (by omega) ?_
        have := runes_zero hr
        have h3 : t ≠ [] := fun e => h1 ⟨rfl, e⟩
        rcases Nat.eq_zero_or_pos r.length with h4 | h4
        · exact absurd (this.1 h4) h3
        · exact h4
theorem wordV_good {w : List UInt8} {k : Nat} {d : Leaf} (h : wordV w = .ok (k, d)) : GoodR (leafR d) := by
  unfold wordV at h
  split at h
  · injection h with h; injection h with _ h; subst h; exact .atom (.inl rfl)
  split at h
  · injection h with h; injection h with _ h; subst h; exact .atom (.inr (.inl rfl))
  split at h
  · injection h with h; injection h with _ h; subst h; exact .atom (.inr (.inr rfl))
  split at h
  · cases h
  split at h
  · split at h
    · rename_i x hx hl
      injection h with h; injection h with _ h; subst h; exact .int hl
    · cases h
  · split at h
    · rename_i d' hd
      injection h with h; injection h with _ h; subst h; exact textL_good hd
    · cases h
theorem tok_good {x : List UInt8} {t : Tk} (h : tokL x = .ok t) : GoodR (leafR t.d) := by
  cases x with
  | nil => cases h
  | cons c u =>
    rw [tokL] at h
    split at h
    · injection h with h; subst h; exact good_nil
    split at h
    · injection h with h; subst h; exact good_nil
    split at h
    · injection h with h; subst h; exact good_nil
    split at h
    · injection h with h; subst h; exact good_nil
    split at h
    · split at h
      · injection h with h; subst h; exact good_nil
      · injection h with h; subst h; exact good_nil
    split at h
    · split at h
      · cases h
      · cases h
      · split at h
        · rename_i d hd
          injection h with h; subst h; exact textL_good hd
        · cases h
    split at h
    · injection h with h; subst h; exact good_nil
    split at h
    · split at h
      · rename_i v n hv
        injection h with h; subst h; exact .chr (charL_good hv)
      · cases h
    · split at h
      · rename_i k d hw
        injection h with h; subst h
        exact wordV_good hw
      · cases h
theorem next_good {l : List UInt8} {i : Int} {j : Nat} {t : Tk} (h : nextV l i = .ok (j, t)) : GoodR (leafR t.d) := by
  obtain ⟨_, a, rfl, ha, g⟩ := nextV_lim h
  obtain ⟨_, _, _, h3⟩ := lexAt_ok ha g
  rcases h3 with ⟨_, h3⟩ | ⟨_, h3, h4, _⟩
  · subst h3; exact good_nil
  · exact tok_good h3
theorem leaf_depth (d : Leaf) : depthR (leafR d) = 0 := by
  cases d <;> (unfold leafR; first | rfl | (rw [depthR]; simp [depthL]) | (unfold Raw.nil; rw [depthR]; simp [depthL]))
/-! ### what reading makes -/
theorem mark_good {k : Nat} (hk : 4 ≤ k ∧ k ≤ 7) {d : Raw} (h : GoodR d) : GoodR (markR k d) := by
  refine .pair ?_ (.pair h good_nil)
  obtain ⟨a, b⟩ := hk
  match k, a, b with
  | 4, _, _ => exact .sym (r := [113, 117, 111, 116, 101]) (by decide) (by decide) (by decide)
  | 5, _, _ => exact .sym (r := [113, 117, 97, 115, 105, 113, 117, 111, 116, 101]) (by decide) (by decide) (by decide)
  | 6, _, _ => exact .sym (r := [117, 110, 113, 117, 111, 116, 101]) (by decide) (by decide) (by decide)
  | 7, _, _ => exact .sym (r := [117, 110, 113, 117, 111, 116, 101, 45, 115, 112, 108, 105, 99, 105, 110, 103]) (by decide) (by decide) (by decide)
/-- What is being read may be, and may be so deep. -/
def Goal.good : Goal → Prop
  | .frm _ t deep => GoodR (leafR t.d) ∧ deep ≤ 64 ∧ t.beg ∧ t.kind ≤ 9
  | .lst _ _ deep _ items dot tail => (∀ x ∈ items, GoodR x ∧ depthR x + deep ≤ 64) ∧ GoodR tail ∧ depthR tail + deep ≤ 64 ∧ 1 ≤ deep ∧ (items = [] → tail = .nil) ∧ (0 < dot → items ≠ [])
  | .vec _ deep _ items => (∀ x ∈ items, GoodR x ∧ depthR x + deep ≤ 64) ∧ items.length ≤ 62 ∧ 1 ≤ deep ∧ deep ≤ 64
def Goal.room : Goal → Nat
  | .frm _ _ deep => deep
  | .lst _ _ deep _ _ _ _ => deep - 1
  | .vec _ deep _ _ => deep - 1
theorem next_frm {l : List UInt8} {i : Int} {k deep : Nat} {u : Tk} (h : nextV l i = .ok (k, u)) (hu : u.beg) (hd : deep ≤ 64) : (Goal.frm k u deep).good := ⟨next_good h, hd, hu, (nextV_tok h).1⟩
theorem mem_snoc {P : Raw → Prop} {items : List Raw} {d : Raw} (h : ∀ x ∈ items, P x) (hd : P d) : ∀ x ∈ items ++ [d], P x := by
  intro x hx
  rcases List.mem_append.1 hx with hx | hx
  · exact h x hx
  · rw [List.mem_singleton.1 hx]; exact hd
theorem Rd.good {l : List UInt8} {g : Goal} {r : Got} (h : Rd l g r) : g.good → ∀ d n, r = .ok (d, n) → GoodR d ∧ depthR d + g.room ≤ 64 := by
  induction h with
  | datum h =>
    rintro ⟨h1, h2, _⟩ d n e
    injection e with e; injection e with e _; subst e
    exact ⟨h1, by rw [leaf_depth]; simpa [Goal.room] using h2⟩
  | @opn j deep t r h hd n ih =>
    rintro ⟨h1, h2, _⟩
    exact ih ⟨by simp, good_nil, by have : depthR .nil = 0 := leaf_depth .no; omega, by omega, fun _ => rfl, by simp⟩
  | @vct j deep t r h hs hd n ih =>
    rintro ⟨h1, h2, _⟩
    exact ih ⟨by simp, by simp, by omega, by omega⟩
  | @markOk j deep k e t u d h hd n hu m ih =>
    rintro ⟨h1, h2, h3, h4⟩ d' n' e'
    injection e' with e'; injection e' with e' _; subst e'
    obtain ⟨g1, g2⟩ := ih (next_frm n hu (by omega)) _ _ rfl
    refine ⟨mark_good h g1, ?_⟩
    simp only [Goal.room] at g2 ⊢
    unfold markR
    have hn : depthR .nil = 0 := leaf_depth .no
    have hk : Raw.nil.k = 0 := rfl
    have hk2 : (pairR d .nil).k = 7 := rfl
    rw [depth_pair, depth_pair, leaf_depth, if_pos hk2, hk, if_neg (by decide), hn]
    omega
  | @lstOk o deep i dot k u sq items tail n hu hb hd =>
    rintro ⟨h1, h2, h3, h4, h5, h6⟩ d n e
    injection e with e; injection e with e _; subst e
    refine ⟨good_list _ _ (fun x hx => (h1 x hx).1) h2, ?_⟩
    simp only [Goal.room]
    by_cases hi : items = []
    · rw [h5 hi, hi]
      have hn : depthR .nil = 0 := leaf_depth .no
      rw [h5 hi] at h3
      rw [listR]; omega
    · have := depth_list items tail (65 - deep) hi (fun x hx => by have := (h1 x hx).2; omega) (by omega)
      omega
  | @dotOk o deep i dot k u sq items tail r n hu h0 hi m ih =>
    rintro ⟨h1, h2, h3, h4, h5, h6⟩
    exact ih ⟨h1, h2, h3, h4, h5, fun _ => hi⟩
  | @itemOk o deep i dot k e u sq items tail d r n hu hb m g ih ih2 =>
    rintro ⟨h1, h2, h3, h4, h5, h6⟩
    obtain ⟨g1, g2⟩ := ih (next_frm n hu (by omega)) _ _ rfl
    exact ih2 ⟨mem_snoc h1 ⟨g1, g2⟩, h2, h3, h4, by simp, by simp⟩
  | @tailOk o deep i dot k e u sq items tail d r n hu hb m g ih ih2 =>
    rintro ⟨h1, h2, h3, h4, h5, h6⟩
    obtain ⟨g1, g2⟩ := ih (next_frm n hu (by omega)) _ _ rfl
    exact ih2 ⟨h1, g1, g2, h4, fun e => absurd e (h6 (by omega)), fun _ => h6 (by omega)⟩
  | @vecOk o deep i k u items n hu hb =>
    rintro ⟨h1, h2, h3, h4⟩ d n e
    injection e with e; injection e with e _; subst e
    refine ⟨.vec h2 (fun i hi => (h1 _ (List.getElem_mem hi)).1), ?_⟩
    have := depth_vec items (65 - deep) (fun x hx => by have := (h1 x hx).2; omega) (by omega)
    simp only [Goal.room]
    omega
  | @vecItem o deep i k e u items d r n hu hb m g ih ih2 =>
    rintro ⟨h1, h2, h3, h4⟩
    obtain ⟨g1, g2⟩ := ih (next_frm n hu h4) _ _ rfl
    exact ih2 ⟨mem_snoc h1 ⟨g1, g2⟩, by simp; omega, h3, h4⟩
  | _ => intro _ _ _ e; cases e
theorem OneR.good {l : List UInt8} {i : Int} {d : Raw} {n : Nat} (h : OneR l i (.ok (d, n))) : GoodR d ∧ depthR d ≤ 64 := by
  cases h with
  | frm n hk m =>
    have := m.good (next_frm n hk (by omega)) _ _ rfl
    simpa [Goal.room] using this
end Go.Proofs.YtonnikipeokkaaaGreatDoor
