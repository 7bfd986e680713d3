/-
  Data that are written alike are the same: all data. Plain Lean, no program in sight.
-/
import Derived.Test.YtonnikipeokkaaaGreatDoorSwU
import Derived.Test.YtonnikipeokkaaaGreatDoorSwNum
namespace Go.Proofs.YtonnikipeokkaaaGreatDoor
open Go.RowKit Go.Lib
namespace Alike

/-- A datum that may be, but for its depth. -/
inductive WellR : Raw → Prop
  | atom {k : Int} (h : k = 0 ∨ k = 1 ∨ k = 2 ∨ k = 9 ∨ k = 10) : WellR (.mk k 0 false [] ⟨#[]⟩ [])
  | chr {c : Nat} (h : charB c = true) : WellR (.mk 3 (c : Int) false [] ⟨#[]⟩ [])
  | int {x : Int} (h : (limbs x.natAbs).length ≤ 48) : WellR (.mk 4 0 (decide (x < 0)) (limbs x.natAbs) ⟨#[]⟩ [])
  | str {t : ByteArray} {r : List Nat} (h : runesL t.data.toList = some r) (hr : r.length ≤ 62) : WellR (.mk 5 0 false [] t [])
  | sym {t : ByteArray} {r : List Nat} (h : runesL t.data.toList = some r) (hr : r.length ≤ 62) (h0 : 0 < r.length) : WellR (.mk 6 0 false [] t [])
  | pair {a d : Raw} (ha : WellR a) (hd : WellR d) : WellR (.mk 7 0 false [] ⟨#[]⟩ [a, d])
  | vec {l : List Raw} (hl : l.length ≤ 62) (h : ∀ i (hi : i < l.length), WellR l[i]) : WellR (.mk 8 0 false [] ⟨#[]⟩ l)
theorem bare_out {c1 c2 c4 c8 : Bool} {r : Raw} (h : bareB c1 c2 c4 c8 r = true) : (c1 = false → r.c = 0) ∧ (c2 = false → r.neg = false ∧ r.mag = []) ∧ (c4 = false → r.t = ⟨#[]⟩) ∧ (c8 = false → r.l = []) := by
  unfold bareB at h
  rw [Bool.and_eq_true, Bool.and_eq_true, Bool.and_eq_true] at h
  obtain ⟨h1, h2, h3, h4⟩ := h
  refine ⟨?_, ?_, ?_, ?_⟩
  · rintro rfl; simpa using h1
  · rintro rfl; simpa using h2
  · rintro rfl; simpa using h3
  · rintro rfl; simpa using h4
theorem text_out {t : List UInt8} {b : Bool} (h : textB (runesL t) b = true) : ∃ r, runesL t = some r ∧ r.length ≤ 62 ∧ (b = true → 0 < r.length) := by
  unfold textB at h
  split at h
  · rename_i r e
    rw [Bool.and_eq_true] at h
    refine ⟨r, e, of_decide_eq_true h.1, ?_⟩
    rintro rfl
    simpa using h.2
  · cases h
mutual
theorem well_of : ∀ r : Raw, plainB r = true → WellR r
  | .mk k c neg mag t l, h => by
    have hl := wellL_of l
    rw [plainB] at h
    split at h
    · rename_i hk
      obtain ⟨h1, h2, h3, h4⟩ := bare_out h
      obtain rfl : c = 0 := h1 rfl
      obtain ⟨rfl, rfl⟩ : neg = false ∧ mag = [] := h2 rfl
      obtain rfl : t = ⟨#[]⟩ := h3 rfl
      obtain rfl : l = [] := h4 rfl
      exact .atom hk
    split at h
    · rename_i hk
      subst hk
      rw [Bool.and_eq_true] at h
      obtain ⟨h1, h2, h3, h4⟩ := bare_out h.1
      obtain ⟨rfl, rfl⟩ : neg = false ∧ mag = [] := h2 rfl
      obtain rfl : t = ⟨#[]⟩ := h3 rfl
      obtain rfl : l = [] := h4 rfl
      have hc := h.2
      unfold charI at hc
      rw [Bool.and_eq_true] at hc
      obtain ⟨n, rfl⟩ := Int.eq_ofNat_of_zero_le (of_decide_eq_true hc.1)
      exact .chr hc.2
    split at h
    · rename_i hk
      subst hk
      rw [Bool.and_eq_true] at h
      obtain ⟨h1, h2, h3, h4⟩ := bare_out h.1
      obtain rfl : c = 0 := h1 rfl
      obtain rfl : t = ⟨#[]⟩ := h3 rfl
      obtain rfl : l = [] := h4 rfl
      obtain ⟨f, p, q⟩ := of_decide_eq_true h.2
      have e : Raw.mk 4 0 neg mag ⟨#[]⟩ [] = .mk 4 0 (decide (sval neg mag < 0)) (limbs (sval neg mag).natAbs) ⟨#[]⟩ [] := by
        rw [← p, sval_abs, ← q]
      rw [e]
      exact .int f
    split at h
    · rename_i hk
      subst hk
      rw [Bool.and_eq_true] at h
      obtain ⟨h1, h2, h3, h4⟩ := bare_out h.1
      obtain rfl : c = 0 := h1 rfl
      obtain ⟨rfl, rfl⟩ : neg = false ∧ mag = [] := h2 rfl
      obtain rfl : l = [] := h4 rfl
      obtain ⟨r, e, e1, _⟩ := text_out h.2
      exact .str e e1
    split at h
    · rename_i hk
      subst hk
      rw [Bool.and_eq_true] at h
      obtain ⟨h1, h2, h3, h4⟩ := bare_out h.1
      obtain rfl : c = 0 := h1 rfl
      obtain ⟨rfl, rfl⟩ : neg = false ∧ mag = [] := h2 rfl
      obtain rfl : l = [] := h4 rfl
      obtain ⟨r, e, e1, e2⟩ := text_out h.2
      exact .sym e e1 (e2 rfl)
    split at h
    · rename_i hk
      subst hk
      rw [Bool.and_eq_true, Bool.and_eq_true] at h
      obtain ⟨h1, h2, h3, h4⟩ := bare_out h.1.1
      obtain rfl : c = 0 := h1 rfl
      obtain ⟨rfl, rfl⟩ : neg = false ∧ mag = [] := h2 rfl
      obtain rfl : t = ⟨#[]⟩ := h3 rfl
      have h5 := hl h.2
      have h6 := of_decide_eq_true h.1.2
      match l, h6, h5 with
      | [a, d], _, h5 => exact .pair (h5 0 (by simp)) (h5 1 (by simp))
    split at h
    · rename_i hk
      subst hk
      rw [Bool.and_eq_true, Bool.and_eq_true] at h
      obtain ⟨h1, h2, h3, h4⟩ := bare_out h.1.1
      obtain rfl : c = 0 := h1 rfl
      obtain ⟨rfl, rfl⟩ : neg = false ∧ mag = [] := h2 rfl
      obtain rfl : t = ⟨#[]⟩ := h3 rfl
      exact .vec (of_decide_eq_true h.1.2) (hl h.2)
    · cases h
theorem wellL_of : ∀ l : List Raw, plainL l = true → ∀ i (hi : i < l.length), WellR l[i]
  | [], _, _, hi => absurd hi (Nat.not_lt_zero _)
  | x :: l, h, i, hi => by
    rw [plainL, Bool.and_eq_true] at h
    cases i with
    | zero => exact well_of x h.1
    | succ i => exact wellL_of l h.2 i (by simpa using hi)
end
/-! ### tokens -/
theorem word_any {c : UInt8} {w x : List UInt8} (hw : ∀ b ∈ c :: w, wordB b = true) (h35 : c = 35 → w.head? ≠ some 92) (hx : Dl x) :
    tokL (c :: w ++ x) = (match wordV (c :: w) with | .ok (k, d) => .ok ⟨k, (c :: w).length, false, d⟩ | .error e => .error (0, e)) ∧ (c :: w ++ x).takeWhile wordB = c :: w := by
  obtain ⟨n1, n2, n3, n4, n5, n6, n7, n8, n9⟩ := word_not (hw c (List.mem_cons_self ..))
  have ht := tw_dl (p := wordB) (by decide) (by decide) hx (c :: w) hw
  refine ⟨?_, ht⟩
  rw [List.cons_append] at ht ⊢
  rw [tokL, if_neg (by simp [n1, n2]), if_neg (by simp [n3, n4]), if_neg n5, if_neg n6, if_neg n7, if_neg (by simp [n8, n9]), if_neg, if_neg, ht]
  · rfl
  · rintro ⟨rfl, h⟩
    cases w with
    | nil =>
      rcases hx with rfl | ⟨d, t, rfl, rfl | rfl⟩
      · cases h
      · revert h; simp
      · revert h; simp
    | cons b w => exact h35 rfl h
  · rintro ⟨rfl, h⟩
    cases w with
    | nil =>
      rcases hx with rfl | ⟨d, t, rfl, rfl | rfl⟩
      · cases h
      · revert h; simp
      · revert h; simp
    | cons b w =>
      rw [List.cons_append, List.head?_cons] at h
      injection h with h
      exact (word_not (hw b (by simp))).1 h
/-- What a leaf's text is, as a token. -/
def LeafT (r : Raw) : Prop := ∃ d, leafR d = r ∧ ∀ x, Dl x → tokL (showR false r ++ x) = .ok ⟨9, (showR false r).length, false, d⟩
theorem char_leaf {c : Nat} (h : charB c = true) : LeafT (.mk 3 (c : Int) false [] ⟨#[]⟩ []) := by
  refine ⟨.chr c, rfl, fun x hx => ?_⟩
  have e : showR false (.mk 3 (c : Int) false [] ⟨#[]⟩ []) = 35 :: 92 :: cnameL c := by rw [showR_eq]; rfl
  rw [e]
  show tokL (35 :: (92 :: (cnameL c ++ x))) = _
  rw [tokL, if_neg (by decide), if_neg (by decide), if_neg (by decide), if_neg (by decide), if_neg (by decide), if_neg (by decide), if_neg (by simp), if_pos (by simp)]
  rw [show (92 :: (cnameL c ++ x)).drop 1 = cnameL c ++ x from rfl, char_enc h hx]
  simp only [List.length_cons]
  congr 2
  omega
theorem dig_word {b : UInt8} (h : digB b = true) : wordB b = true ∧ b ≠ 46 ∧ b ≠ 35 := by
  have hd := (digB_iff b).1 h
  have H : ∀ n : Fin 10, wordB (UInt8.ofNat (48 + n.val)) = true ∧ UInt8.ofNat (48 + n.val) ≠ 46 ∧ UInt8.ofNat (48 + n.val) ≠ 35 := by decide
  have e : b = UInt8.ofNat (48 + (b.toNat - 48)) := by
    apply UInt8.toNat_inj.1
    rw [nat_byte (by omega)]
    omega
  have := H ⟨b.toNat - 48, by omega⟩
  rw [e]
  exact this
theorem itoa_word (x : Int) : ∃ c w, itoa x = c :: w ∧ (∀ b ∈ c :: w, wordB b = true) ∧ c ≠ 46 ∧ c ≠ 35 := by
  have h1 := (dec_digits x.natAbs).1
  have h2 := dec_ne x.natAbs
  have hm : ∀ b ∈ decDigits x.natAbs, wordB b = true ∧ b ≠ 46 ∧ b ≠ 35 := fun b hb => dig_word (List.all_eq_true.1 h1 b hb)
  by_cases h : x < 0
  · rw [itoa_neg h]
    exact ⟨_, _, rfl, fun b hb => by
      rcases List.mem_cons.1 hb with rfl | hb
      · decide
      · exact (hm b hb).1, by decide, by decide⟩
  · rw [itoa_pos h]
    cases hd : decDigits x.natAbs with
    | nil => exact absurd hd h2
    | cons c w =>
      rw [hd] at hm
      exact ⟨c, w, rfl, fun b hb => (hm b hb).1, (hm c (by simp)).2⟩
theorem int_leaf {x : Int} (h : (limbs x.natAbs).length ≤ 48) : LeafT (.mk 4 0 (decide (x < 0)) (limbs x.natAbs) ⟨#[]⟩ []) := by
  refine ⟨.int x, rfl, fun z hz => ?_⟩
  have e : showR false (.mk 4 0 (decide (x < 0)) (limbs x.natAbs) ⟨#[]⟩ []) = itoa x := by
    rw [showR_eq]
    show itoa (sval (decide (x < 0)) (limbs x.natAbs)) = _
    rw [sval_limbs]
  obtain ⟨c, w, e1, e2, e3, e4⟩ := itoa_word x
  have hp := parse_itoa x
  rw [e]
  rw [e1] at hp ⊢
  refine word_tok e2 (fun h => absurd h e4) hz ?_
  unfold wordV
  rw [if_neg (by simp [e3]), if_neg (by simp [e4]), if_neg (by simp [e4]), if_neg (by simp [e4]), hp]
  simp only
  rw [if_pos h]
theorem mk_data (t : ByteArray) : (⟨t.data.toList.toArray⟩ : ByteArray) = t := by cases t; simp
theorem str_leaf {t : ByteArray} {r : List Nat} (h : runesL t.data.toList = some r) (hr : r.length ≤ 62) : LeafT (.mk 5 0 false [] t []) := by
  refine ⟨.str t.data.toList, (by show Raw.mk 5 0 false [] ⟨t.data.toList.toArray⟩ [] = _; rw [mk_data]), fun x _ => ?_⟩
  have e : showR false (.mk 5 0 false [] t []) = quoteL 34 t.data.toList := by rw [showR_eq]; rfl
  rw [e]
  exact quote_tok 34 (.inl rfl) h hr (fun e => absurd e (by decide)) x
theorem utf_len (c : Nat) : (utfB c).length ≤ 4 := by
  unfold utfB
  split
  · simp
  · split
    · simp
    · split <;> simp
theorem esc_len {y : UInt8} {l out : List UInt8} {n : Nat} (h : escL y l = .ok out n) : out.length ≤ n + 1 := by
  cases l with
  | nil => cases h
  | cons d u =>
    rw [escL] at h
    split at h
    · injection h with h1 h2; subst h1; simp
    split at h
    · injection h with h1 h2; subst h1; simp
    split at h
    · injection h with h1 h2; subst h1; simp
    split at h
    · injection h with h1 h2; subst h1; simp
    split at h
    · split at h
      · cases h
      · rename_i k hk
        split at h
        · cases h
        · rename_i r hr
          injection h with h1 h2
          subst h1
          have h4 := utf_len r
          have : 1 ≤ k := by
            unfold hexC at hr
            split at hr
            · cases hr
            · rename_i g
              rw [List.length_take] at g
              omega
          omega
    split at h
    · injection h with h1 h2; subst h1; simp
    · cases h
theorem quo_len (y : UInt8) : ∀ (x : List UInt8) (k : Nat) (out : List UInt8) (n : Nat), quoL y k x = .ok out n → out.length ≤ n
  | [], k, out, n, h => by cases k <;> cases h
  | c :: t, k + 1, out, n, h => by
    rw [quoL] at h
    obtain ⟨o, m, h1, e1, e2⟩ := QuoR.up_ok h
    have := quo_len y t k o m h1
    rw [e1, e2]
    simp; omega
  | c :: t, 0, out, n, h => by
    rw [quoL] at h
    split at h
    · injection h with h1 h2; subst h1; simp
    split at h
    · obtain ⟨o, m, h1, e1, e2⟩ := QuoR.up_ok h
      have := quo_len y t 0 o m h1
      rw [e1, e2]
      simp; omega
    · split at h
      · cases h
      · cases h
      · rename_i o2 m2 he
        obtain ⟨o, m, h1, e1, e2⟩ := QuoR.up_ok h
        have h3 := esc_len he
        have hle := (escL_le he).2
        rw [quoL_pass _ _ _ hle] at h1
        obtain ⟨o', m', h5, e3, e4⟩ := QuoR.up_ok h1
        have := quo_len y (t.drop m2) 0 o' m' h5
        rw [e1, e2, e3, e4]
        simp; omega
termination_by x => x.length
decreasing_by
  all_goals simp only [List.length_cons, List.length_drop]
  all_goals omega
theorem bare_word {t : List UInt8} (h : bareV t = true) : ∃ c w, t = c :: w ∧ (∀ b ∈ c :: w, wordB b = true) ∧ (c = 35 → w.head? ≠ some 92) ∧ wordV (c :: w) = .ok (9, .sym (c :: w)) := by
  unfold bareV at h
  rw [Bool.and_eq_true] at h
  have h := h.2
  split at h
  · rename_i j k hn
    simp only [Bool.and_eq_true, beq_iff_eq] at h
    obtain ⟨⟨⟨rfl, hl⟩, hk⟩, hd⟩ := h
    obtain ⟨kk, kl, ks, kd⟩ := k
    simp only at hl hk hd
    split at hd
    · rename_i u
      rw [beq_iff_eq] at hd
      subst hd hk hl
      have ht : tokL u = .ok ⟨9, u.length, ks, .sym u⟩ := by
        unfold nextV at hn
        split at hn
        · cases hn
        split at hn
        · cases hn
        · obtain ⟨_, _, _, h2⟩ := lexAt_ok (by simp) hn
          rcases h2 with ⟨_, h2⟩ | ⟨_, h2, _⟩
          · injection h2 with h2; cases h2
          · exact h2
      cases u with
      | nil => cases ht
      | cons c w =>
        refine ⟨c, w, rfl, ?_⟩
        rw [tokL] at ht
        split at ht
        · cases ht
        split at ht
        · cases ht
        split at ht
        · cases ht
        split at ht
        · cases ht
        split at ht
        · split at ht <;> cases ht
        split at ht
        · split at ht
          · cases ht
          · cases ht
          · rename_i out n hq
            have hlen := quo_len _ _ _ _ _ hq
            split at ht
            · rename_i d hd
              injection ht with ht
              injection ht with h1 h2 h3 h4
              unfold textL at hd
              split at hd
              · cases hd
              · split at hd
                · cases hd
                split at hd
                · cases hd
                · injection hd with hd
                  rw [← hd] at h4
                  split at h4
                  · injection h4 with h4
                    rw [h4] at hlen
                    simp only [List.length_cons] at h2 hlen
                    omega
                  · cases h4
            · cases ht
        split at ht
        · cases ht
        split at ht
        · split at ht
          · injection ht with ht
            injection ht with _ _ _ h4
            cases h4
          · cases ht
        · rename_i g1 g2 g3 g4 g5 g6 g7 g8
          split at ht
          · rename_i k d hw
            injection ht with ht
            injection ht with h1 h2 h3 h4
            have hall : (c :: w).takeWhile wordB = c :: w := by
              have := tw_take wordB (c :: w)
              rw [h2, List.take_length] at this
              exact this.symm
            rw [hall, h1, h4] at hw
            refine ⟨fun b hb => ?_, fun e e2 => g8 ⟨e, e2⟩, hw⟩
            rw [← hall] at hb
            exact List.all_eq_true.1 List.all_takeWhile b hb
          · cases ht
    · cases hd
  · cases h
theorem sym_leaf {t : ByteArray} {r : List Nat} (h : runesL t.data.toList = some r) (hr : r.length ≤ 62) (h0 : 0 < r.length) : LeafT (.mk 6 0 false [] t []) := by
  refine ⟨.sym t.data.toList, (by show Raw.mk 6 0 false [] ⟨t.data.toList.toArray⟩ [] = _; rw [mk_data]), fun x hx => ?_⟩
  have e : showR false (.mk 6 0 false [] t []) = if bareV t.data.toList = true then t.data.toList else quoteL 124 t.data.toList := by rw [showR_eq]; rfl
  rw [e]
  split
  · rename_i hb
    obtain ⟨c, w, e1, e2, e3, e4⟩ := bare_word hb
    rw [e1]
    exact word_tok e2 e3 hx e4
  · refine quote_tok 124 (.inr rfl) h hr (fun _ e => ?_) x
    rw [e, runesL_nil] at h
    injection h with h
    rw [← h] at h0
    cases h0
/-! ### how a text begins -/
/-- How a text begins. -/
def cl (l : List UInt8) : Nat :=
  match tokL l with
  | .ok t => if t.kind = 9 then 1 else if t.kind = 1 then (if (l.drop 1).head? = some 41 then 2 else 3) else if t.kind = 3 then 4 else 5
  | .error _ => 6
def clR (r : Raw) : Nat := if r.k = 0 then 2 else if r.k = 7 then 3 else if r.k = 8 then 4 else if r.k = 9 ∨ r.k = 10 then 6 else 1
theorem LeafT.cl {r : Raw} (h : LeafT r) {x : List UInt8} (hx : Dl x) : cl (showR false r ++ x) = 1 := by
  obtain ⟨d, _, h⟩ := h
  unfold Go.Proofs.YtonnikipeokkaaaGreatDoor.Alike.cl
  rw [h x hx]
  rfl
theorem tok_open (z : List UInt8) : tokL (40 :: z) = .ok ⟨1, 1, false, .no⟩ := by rw [tokL, if_pos (.inl rfl)]; rfl
theorem tok_vec (z : List UInt8) : tokL (35 :: 40 :: z) = .ok ⟨3, 2, false, .no⟩ := by
  rw [tokL, if_neg (by decide), if_neg (by decide), if_neg (by decide), if_neg (by decide), if_neg (by decide), if_neg (by decide), if_pos (by simp)]
theorem cl_shut (z : List UInt8) : cl (41 :: z) = 5 := by
  unfold cl
  rw [tokL, if_neg (by decide), if_pos (.inl rfl)]
  rfl
theorem cl_dot (z : List UInt8) : cl (46 :: 32 :: z) = 5 := by
  unfold cl
  have := (word_any (c := 46) (w := []) (x := 32 :: z) (by decide) (by decide) (Dl.blank z)).1
  rw [List.cons_append, List.nil_append] at this
  rw [this]
  rfl
theorem rest_dl (r : Raw) (x : List UInt8) : Dl (restR false r ++ x) := by
  rw [restR_eq]
  split
  · exact Dl.blank _
  · split
    · exact Dl.shut _
    · exact Dl.blank _
theorem word9 {x : List UInt8} (hx : Dl x) : tokL ([35, 60, 118, 111, 105, 100, 62] ++ x) = .error (0, 9) ∧ ([35, 60, 118, 111, 105, 100, 62] ++ x).takeWhile wordB = [35, 60, 118, 111, 105, 100, 62] :=
  word_any (c := 35) (w := [60, 118, 111, 105, 100, 62]) (by decide) (by decide) hx
theorem word10 {x : List UInt8} (hx : Dl x) : tokL ([35, 60, 101, 111, 102, 62] ++ x) = .error (0, 9) ∧ ([35, 60, 101, 111, 102, 62] ++ x).takeWhile wordB = [35, 60, 101, 111, 102, 62] :=
  word_any (c := 35) (w := [60, 101, 111, 102, 62]) (by decide) (by decide) hx
theorem leaf_of {r : Raw} (h : WellR r) (h1 : clR r = 1) : LeafT r := by
  cases h with
  | @atom k h =>
    rcases h with rfl | rfl | rfl | rfl | rfl
    · cases h1
    · refine ⟨.tru, rfl, fun x hx => ?_⟩
      exact word_tok (c := 35) (w := [116]) (by decide) (by decide) hx rfl
    · refine ⟨.fls, rfl, fun x hx => ?_⟩
      exact word_tok (c := 35) (w := [102]) (by decide) (by decide) hx rfl
    · cases h1
    · cases h1
  | chr h => exact char_leaf h
  | int h => exact int_leaf h
  | str h hr => exact str_leaf h hr
  | sym h hr h0 => exact sym_leaf h hr h0
  | pair ha hd => cases h1
  | vec hl h => cases h1
theorem cl_ne5 (r : Raw) : clR r ≠ 5 := by
  unfold clR
  split
  · decide
  split
  · decide
  split
  · decide
  split <;> decide
theorem cl_show {r : Raw} (h : WellR r) : ∀ {x : List UInt8}, Dl x → cl (showR false r ++ x) = clR r := by
  induction h with
  | @atom k h =>
    intro x hx
    rcases h with rfl | rfl | rfl | rfl | rfl
    · show cl (40 :: 41 :: x) = 2
      unfold cl
      rw [tok_open]
      rfl
    · exact (leaf_of (.atom (.inr (.inl rfl))) rfl).cl hx
    · exact (leaf_of (.atom (.inr (.inr (.inl rfl)))) rfl).cl hx
    · show cl ([35, 60, 118, 111, 105, 100, 62] ++ x) = 6
      unfold cl
      rw [(word9 hx).1]
    · show cl ([35, 60, 101, 111, 102, 62] ++ x) = 6
      unfold cl
      rw [(word10 hx).1]
  | chr h => exact fun hx => (char_leaf h).cl hx
  | int h => exact fun hx => (int_leaf h).cl hx
  | str h hr => exact fun hx => (str_leaf h hr).cl hx
  | sym h hr h0 => exact fun hx => (sym_leaf h hr h0).cl hx
  | @pair a d ha hd iha ihd =>
    intro x hx
    rw [show_pair false (a := a) (d := d) rfl rfl, List.cons_append, List.append_assoc]
    have h1 := iha (rest_dl d x)
    have h5 := cl_ne5 a
    unfold cl
    rw [tok_open]
    show (if (List.drop 1 (40 :: (showR false a ++ (restR false d ++ x)))).head? = some 41 then 2 else 3) = 3
    rw [if_neg]
    intro e
    rw [List.drop_succ_cons, List.drop_zero] at e
    cases hs : showR false a ++ (restR false d ++ x) with
    | nil => rw [hs] at e; cases e
    | cons c w =>
      rw [hs] at e h1
      rw [List.head?_cons] at e
      injection e with e
      subst e
      rw [cl_shut] at h1
      exact h5 h1.symm
  | @vec l hl h ih =>
    intro x hx
    rw [show_vec false rfl, List.cons_append, List.cons_append]
    unfold cl
    rw [tok_vec]
    rfl
/-! ### one text, one datum -/
def UQ (a : Raw) : Prop := ∀ b, WellR b → ∀ x y, Dl x → Dl y → showR false a ++ x = showR false b ++ y → a = b ∧ x = y
def VQ (a : Raw) : Prop := ∀ b, WellR b → ∀ x y, restR false a ++ x = restR false b ++ y → a = b ∧ x = y
theorem leaf_uq {a : Raw} (ha : WellR a) (h1 : clR a = 1) : UQ a := by
  intro b hb x y hx hy e
  have h2 : clR b = 1 := by rw [← cl_show hb hy, ← e, cl_show ha hx, h1]
  obtain ⟨d, e1, t1⟩ := leaf_of ha h1
  obtain ⟨d', e2, t2⟩ := leaf_of hb h2
  have t1 := t1 x hx
  rw [e, t2 y hy] at t1
  injection t1 with t1
  injection t1 with _ t3 _ t4
  exact ⟨by rw [← e1, ← e2, t4], (List.append_inj e t3.symm).2⟩
theorem end_uq {a : Raw} (ha : WellR a) (h1 : clR a = 6) : UQ a := by
  intro b hb x y hx hy e
  have h2 : clR b = 6 := by rw [← cl_show hb hy, ← e, cl_show ha hx, h1]
  have key : ∀ r : Raw, WellR r → clR r = 6 → r = .mk 9 0 false [] ⟨#[]⟩ [] ∨ r = .mk 10 0 false [] ⟨#[]⟩ [] := by
    intro r h h1
    cases h with
    | atom h =>
      rcases h with rfl | rfl | rfl | rfl | rfl
      · cases h1
      · cases h1
      · cases h1
      · exact .inl rfl
      · exact .inr rfl
    | chr h => cases h1
    | int h => cases h1
    | str h hr => cases h1
    | sym h hr h0 => cases h1
    | pair ha hd => cases h1
    | vec hl h => cases h1
  have s9 : showR false (.mk 9 0 false [] ⟨#[]⟩ []) = [35, 60, 118, 111, 105, 100, 62] := rfl
  have s10 : showR false (.mk 10 0 false [] ⟨#[]⟩ []) = [35, 60, 101, 111, 102, 62] := rfl
  rcases key a ha h1 with rfl | rfl <;> rcases key b hb h2 with rfl | rfl
  · exact ⟨rfl, List.append_cancel_left e⟩
  · rw [s9, s10] at e
    have := (word9 hx).2
    rw [e, (word10 hy).2] at this
    cases this
  · rw [s9, s10] at e
    have := (word10 hx).2
    rw [e, (word9 hy).2] at this
    cases this
  · exact ⟨rfl, List.append_cancel_left e⟩
theorem tail_dl (l : List (List UInt8)) (x : List UInt8) : Dl (tailJ l ++ 41 :: x) := by
  cases l with
  | nil => exact Dl.shut _
  | cons a l => exact Dl.blank _
theorem tail_uq : ∀ (l m : List Raw), (∀ a ∈ l, UQ a) → (∀ b ∈ m, WellR b) → ∀ x y, tailJ (l.map (showR false)) ++ 41 :: x = tailJ (m.map (showR false)) ++ 41 :: y → l = m ∧ x = y
  | [], [], _, _, x, y, e => by
    injection e with _ e
    exact ⟨rfl, e⟩
  | [], b :: m, _, _, x, y, e => by
    rw [List.map_cons] at e
    exact absurd (congrArg List.head? e) (by simp [tailJ])
  | a :: l, [], _, _, x, y, e => by
    rw [List.map_cons] at e
    exact absurd (congrArg List.head? e) (by simp [tailJ])
  | a :: l, b :: m, hl, hm, x, y, e => by
    rw [List.map_cons, List.map_cons] at e
    have e2 : 32 :: (showR false a ++ (tailJ (l.map (showR false)) ++ 41 :: x)) = 32 :: (showR false b ++ (tailJ (m.map (showR false)) ++ 41 :: y)) := by
      simpa [tailJ, List.flatMap_cons, List.append_assoc] using e
    injection e2 with _ e2
    obtain ⟨h1, h2⟩ := hl a (by simp) b (hm b (by simp)) _ _ (tail_dl _ x) (tail_dl _ y) e2
    obtain ⟨h3, h4⟩ := tail_uq l m (fun c hc => hl c (by simp [hc])) (fun c hc => hm c (by simp [hc])) x y h2
    exact ⟨by rw [h1, h3], h4⟩
theorem kinds {r : Raw} (h : WellR r) : (clR r = 2 → r = .mk 0 0 false [] ⟨#[]⟩ []) ∧ (clR r = 3 → ∃ a d, r = .mk 7 0 false [] ⟨#[]⟩ [a, d] ∧ WellR a ∧ WellR d) ∧ (clR r = 4 → ∃ l, r = .mk 8 0 false [] ⟨#[]⟩ l ∧ ∀ a ∈ l, WellR a) := by
  cases h with
  | atom h =>
    rcases h with rfl | rfl | rfl | rfl | rfl
    · exact ⟨fun _ => rfl, fun h => by (cases h), fun h => by (cases h)⟩
    · exact ⟨fun h => by (cases h), fun h => by (cases h), fun h => by (cases h)⟩
    · exact ⟨fun h => by (cases h), fun h => by (cases h), fun h => by (cases h)⟩
    · exact ⟨fun h => by (cases h), fun h => by (cases h), fun h => by (cases h)⟩
    · exact ⟨fun h => by (cases h), fun h => by (cases h), fun h => by (cases h)⟩
  | chr h => exact ⟨fun h => by (cases h), fun h => by (cases h), fun h => by (cases h)⟩
  | int h => exact ⟨fun h => by (cases h), fun h => by (cases h), fun h => by (cases h)⟩
  | str h hr => exact ⟨fun h => by (cases h), fun h => by (cases h), fun h => by (cases h)⟩
  | sym h hr h0 => exact ⟨fun h => by (cases h), fun h => by (cases h), fun h => by (cases h)⟩
  | @pair a d ha hd => exact ⟨fun h => by (cases h), fun _ => ⟨a, d, rfl, ha, hd⟩, fun h => by (cases h)⟩
  | @vec l hl h =>
    refine ⟨fun h => by (cases h), fun h => by (cases h), fun _ => ⟨l, rfl, fun a ha => ?_⟩⟩
    obtain ⟨i, hi, rfl⟩ := List.getElem_of_mem ha
    exact h i hi
theorem clR_rest {r : Raw} : (clR r = 2 → r.k = 0) ∧ (clR r = 3 → r.k = 7) ∧ (clR r ≠ 2 → r.k ≠ 0) ∧ (clR r ≠ 3 → r.k ≠ 7) := by
  unfold clR
  refine ⟨?_, ?_, ?_, ?_⟩
  · intro h
    split at h
    · assumption
    split at h
    · omega
    split at h
    · omega
    split at h <;> omega
  · intro h
    split at h
    · omega
    split at h
    · assumption
    split at h
    · omega
    split at h <;> omega
  · rintro h e
    rw [if_pos e] at h
    exact h rfl
  · rintro h e
    rw [if_neg (by omega), if_pos e] at h
    exact h rfl
/-- What stands behind an item, where it is no pair. -/
theorem vq_of {a : Raw} (ha : WellR a) (h : clR a ≠ 3) (hu : UQ a) : VQ a := by
  intro b hb x y e
  have a7 := clR_rest.2.2.2 h
  rw [restR_eq (r := a), if_neg a7] at e
  by_cases a0 : a.k = 0
  · rw [if_pos a0] at e
    have ha0 := (kinds ha).1 (by unfold clR; rw [if_pos a0])
    rw [restR_eq false b] at e
    split at e
    · injection e with e _; cases e
    split at e
    · rename_i b0
      injection e with _ e
      have hb0 := (kinds hb).1 (by unfold clR; rw [if_pos b0])
      exact ⟨by rw [ha0, hb0], e⟩
    · injection e with e _; cases e
  · rw [if_neg a0, restR_eq false b] at e
    split at e
    · rename_i b7
      obtain ⟨c, d, rfl, hc, hd⟩ := (kinds hb).2.1 (by unfold clR; rw [if_neg (by omega), if_pos b7])
      have e2 : 46 :: 32 :: (showR false a ++ ([41] ++ x)) = showR false c ++ (restR false d ++ y) := by
        have e3 : 32 :: 46 :: 32 :: (showR false a ++ [41]) ++ x = 32 :: (showR false c ++ restR false d) ++ y := e
        injection e3 with _ e3
        simpa [List.append_assoc] using e3
      have := cl_show hc (rest_dl d y)
      rw [← e2, cl_dot] at this
      exact absurd this.symm (cl_ne5 c)
    split at e
    · injection e with e _; cases e
    · have e3 : showR false a ++ (41 :: x) = showR false b ++ (41 :: y) := by
        injection e with _ e
        injection e with _ e
        injection e with _ e
        simpa [List.append_assoc] using e
      obtain ⟨h1, h2⟩ := hu b hb _ _ (Dl.shut x) (Dl.shut y) e3
      injection h2 with _ h2
      exact ⟨h1, h2⟩
theorem well_uq {a : Raw} (h : WellR a) : UQ a ∧ VQ a := by
  induction h with
  | @atom k h =>
    have hw : WellR (.mk k 0 false [] ⟨#[]⟩ []) := .atom h
    have hu : UQ (.mk k 0 false [] ⟨#[]⟩ []) := by
      rcases h with rfl | rfl | rfl | rfl | rfl
      · intro b hb x y hx hy e
        have h2 : clR b = 2 := by rw [← cl_show hb hy, ← e, cl_show hw hx]; rfl
        have hb2 := (kinds hb).1 h2
        subst hb2
        exact ⟨rfl, List.append_cancel_left e⟩
      · exact leaf_uq hw rfl
      · exact leaf_uq hw rfl
      · exact end_uq hw rfl
      · exact end_uq hw rfl
    refine ⟨hu, vq_of hw ?_ hu⟩
    rcases h with rfl | rfl | rfl | rfl | rfl <;> decide
  | chr h => exact ⟨leaf_uq (.chr h) rfl, vq_of (.chr h) (fun h => by cases h) (leaf_uq (.chr h) rfl)⟩
  | int h => exact ⟨leaf_uq (.int h) rfl, vq_of (.int h) (fun h => by cases h) (leaf_uq (.int h) rfl)⟩
  | str h hr => exact ⟨leaf_uq (.str h hr) rfl, vq_of (.str h hr) (fun h => by cases h) (leaf_uq (.str h hr) rfl)⟩
  | sym h hr h0 => exact ⟨leaf_uq (.sym h hr h0) rfl, vq_of (.sym h hr h0) (fun h => by cases h) (leaf_uq (.sym h hr h0) rfl)⟩
  | @pair a d ha hd iha ihd =>
    have hw : WellR (.mk 7 0 false [] ⟨#[]⟩ [a, d]) := .pair ha hd
    refine ⟨fun b hb x y hx hy e => ?_, fun b hb x y e => ?_⟩
    · have h2 : clR b = 3 := by rw [← cl_show hb hy, ← e, cl_show hw hx]; rfl
      obtain ⟨a', d', rfl, ha', hd'⟩ := (kinds hb).2.1 h2
      rw [show_pair (r := .mk 7 0 false [] ⟨#[]⟩ [a, d]) false (a := a) (d := d) rfl rfl, show_pair (r := .mk 7 0 false [] ⟨#[]⟩ [a', d']) false (a := a') (d := d') rfl rfl] at e
      injection e with _ e
      have e : showR false a ++ (restR false d ++ x) = showR false a' ++ (restR false d' ++ y) := by simpa [List.append_assoc] using e
      obtain ⟨h3, h4⟩ := iha.1 a' ha' _ _ (rest_dl d x) (rest_dl d' y) e
      obtain ⟨h5, h6⟩ := ihd.2 d' hd' _ _ h4
      exact ⟨by rw [h3, h5], h6⟩
    · rw [rest_pair (r := .mk 7 0 false [] ⟨#[]⟩ [a, d]) false (a := a) (d := d) rfl rfl, restR_eq false b] at e
      split at e
      · rename_i b7
        obtain ⟨a', d', rfl, ha', hd'⟩ := (kinds hb).2.1 (by unfold clR; rw [if_neg (by omega), if_pos b7])
        have e3 : 32 :: (showR false a ++ restR false d) ++ x = 32 :: (showR false a' ++ restR false d') ++ y := e
        injection e3 with _ e3
        have e3 : showR false a ++ (restR false d ++ x) = showR false a' ++ (restR false d' ++ y) := by simpa [List.append_assoc] using e3
        obtain ⟨h3, h4⟩ := iha.1 a' ha' _ _ (rest_dl d x) (rest_dl d' y) e3
        obtain ⟨h5, h6⟩ := ihd.2 d' hd' _ _ h4
        exact ⟨by rw [h3, h5], h6⟩
      split at e
      · injection e with e _; cases e
      · injection e with _ e
        have e2 : showR false a ++ (restR false d ++ x) = 46 :: 32 :: (showR false b ++ [41] ++ y) := by simpa [List.append_assoc] using e
        have := cl_show ha (rest_dl d x)
        rw [e2, cl_dot] at this
        exact absurd this.symm (cl_ne5 a)
  | @vec l hl h ih =>
    have hw : WellR (.mk 8 0 false [] ⟨#[]⟩ l) := .vec hl h
    have hu : UQ (.mk 8 0 false [] ⟨#[]⟩ l) := by
      intro b hb x y hx hy e
      have h2 : clR b = 4 := by rw [← cl_show hb hy, ← e, cl_show hw hx]; rfl
      obtain ⟨m, rfl, hm⟩ := (kinds hb).2.2 h2
      rw [show_vec false rfl, show_vec false rfl] at e
      injection e with _ e
      injection e with _ e
      have e : joinB (l.map (showR false)) ++ 41 :: x = joinB (m.map (showR false)) ++ 41 :: y := by simpa [Raw.l, List.append_assoc] using e
      have hlu : ∀ a ∈ l, UQ a := by
        intro a ha
        obtain ⟨i, hi, rfl⟩ := List.getElem_of_mem ha
        exact (ih i hi).1
      have hlw : ∀ a ∈ l, WellR a := by
        intro a ha
        obtain ⟨i, hi, rfl⟩ := List.getElem_of_mem ha
        exact h i hi
      have nil_ne : ∀ (a : Raw) (l : List Raw) (x y : List UInt8), WellR a → joinB ((a :: l).map (showR false)) ++ 41 :: x ≠ 41 :: y := by
        intro a l x y ha e
        have e2 : showR false a ++ (tailJ (l.map (showR false)) ++ 41 :: x) = 41 :: y := by simpa [joinB, List.append_assoc] using e
        have := cl_show ha (tail_dl (l.map (showR false)) x)
        rw [e2, cl_shut] at this
        exact cl_ne5 a this.symm
      cases l with
      | nil =>
        cases m with
        | nil => injection e with _ e; exact ⟨rfl, e⟩
        | cons b m => exact absurd e.symm (nil_ne b m y x (hm b (by simp)))
      | cons a l =>
        cases m with
        | nil => exact absurd e (nil_ne a l x y (hlw a (by simp)))
        | cons b m =>
          have e2 : showR false a ++ (tailJ (l.map (showR false)) ++ 41 :: x) = showR false b ++ (tailJ (m.map (showR false)) ++ 41 :: y) := by simpa [joinB, List.append_assoc] using e
          obtain ⟨h3, h4⟩ := hlu a (by simp) b (hm b (by simp)) _ _ (tail_dl _ x) (tail_dl _ y) e2
          obtain ⟨h5, h6⟩ := tail_uq l m (fun c hc => hlu c (by simp [hc])) (fun c hc => hm c (by simp [hc])) x y h4
          exact ⟨by rw [h3, h5], h6⟩
    exact ⟨hu, vq_of hw (fun h => by cases h) hu⟩
/-- Data that are written alike are the same. -/
theorem show_inj {a b : Raw} (ha : plainB a = true) (hb : plainB b = true) (e : showR false a = showR false b) : a = b :=
  ((well_uq (well_of a ha)).1 b (well_of b hb) [] [] Dl.nil Dl.nil (by rw [e])).1
end Alike
end Go.Proofs.YtonnikipeokkaaaGreatDoor
