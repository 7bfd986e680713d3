/-
  What a token hangs on: its own bytes, and where it ends. Plain Lean.
-/
import Derived.Test.YtonnikipeokkaaaDoorLexL
namespace Go.Proofs.YtonnikipeokkaaaDoor
open Go.Lib

/-- What stands behind a place in another text is nothing, a blank, or begins with the same byte. -/
def Foll (x z : List UInt8) : Prop := z = [] ∨ (∃ d t, z = d :: t ∧ blankB d = true) ∨ z.head? = x.head?
theorem Foll.tail {p : UInt8 → Bool} {x z : List UInt8} (f : Foll x z) (hp : ∀ d, blankB d = true → p d = false) (h : x = [] ∨ ∃ d t, x = d :: t ∧ p d = false) : z = [] ∨ ∃ d t, z = d :: t ∧ p d = false := by
  rcases f with f | ⟨d, t, f, g⟩ | f
  · exact .inl f
  · exact .inr ⟨d, t, f, hp d g⟩
  · rcases h with h | ⟨d, t, h, g⟩
    · rw [h] at f
      cases z with
      | nil => exact .inl rfl
      | cons => simp at f
    · rw [h] at f
      cases z with
      | nil => simp at f
      | cons e u => simp at f; exact .inr ⟨e, u, rfl, by rw [f]; exact g⟩
theorem tw_drop (p : UInt8 → Bool) : ∀ x : List UInt8, x.drop (x.takeWhile p).length = [] ∨ ∃ d t, x.drop (x.takeWhile p).length = d :: t ∧ p d = false
  | [] => .inl rfl
  | c :: t => by
    by_cases h : p c = true
    · rw [List.takeWhile_cons, if_pos h, List.length_cons, List.drop_succ_cons]
      exact tw_drop p t
    · rw [List.takeWhile_cons, if_neg h]
      exact .inr ⟨c, t, rfl, by simpa using h⟩
theorem tw_local (p : UInt8 → Bool) : ∀ (x z : List UInt8), z.take (x.takeWhile p).length = x.take (x.takeWhile p).length → (z.drop (x.takeWhile p).length = [] ∨ ∃ d t, z.drop (x.takeWhile p).length = d :: t ∧ p d = false) → z.takeWhile p = x.takeWhile p
  | [], z, _, h => by
    simp only [List.takeWhile_nil, List.length_nil, List.drop_zero] at h ⊢
    rcases h with h | ⟨d, t, h, g⟩
    · rw [h]; rfl
    · rw [h, List.takeWhile_cons, if_neg (by rw [g]; decide)]
  | c :: t, z, e, h => by
    by_cases hc : p c = true
    · rw [List.takeWhile_cons, if_pos hc, List.length_cons] at e h
      cases z with
      | nil => simp at e
      | cons d u =>
        rw [List.take_succ_cons, List.take_succ_cons] at e
        injection e with e1 e2
        rw [List.drop_succ_cons] at h
        rw [List.takeWhile_cons, List.takeWhile_cons, e1, if_pos hc, if_pos hc, tw_local p t u e2 h]
    · rw [List.takeWhile_cons, if_neg hc] at e h ⊢
      rcases h with h | ⟨d, u, h, g⟩
      · simp only [List.length_nil, List.drop_zero] at h
        rw [h]; rfl
      · simp only [List.length_nil, List.drop_zero] at h
        rw [h, List.takeWhile_cons, if_neg (by rw [g]; decide)]
theorem tw_take (p : UInt8 → Bool) (x : List UInt8) : x.take (x.takeWhile p).length = x.takeWhile p := by
  induction x with
  | nil => rfl
  | cons c t ih =>
    by_cases hc : p c = true
    · rw [List.takeWhile_cons, if_pos hc, List.length_cons, List.take_succ_cons, ih]
    · rw [List.takeWhile_cons, if_neg hc]; rfl
theorem tw_app (p : UInt8 → Bool) (hp : p 10 = false) (x y : List UInt8) : (x ++ 10 :: y).takeWhile p = x.takeWhile p := by
  induction x with
  | nil => rw [List.nil_append, List.takeWhile_cons, if_neg (by rw [hp]; decide)]; rfl
  | cons c t ih =>
    by_cases hc : p c = true
    · rw [List.cons_append, List.takeWhile_cons, if_pos hc, List.takeWhile_cons, if_pos hc, ih]
    · rw [List.cons_append, List.takeWhile_cons, if_neg hc, List.takeWhile_cons, if_neg hc]
theorem take_getD {x z : List UInt8} {n j : Nat} (h : z.take n = x.take n) (hj : j < n) : z.getD j 0 = x.getD j 0 := by
  have := congrArg (fun l => l.getD j 0) h
  simp only [List.getD_eq_getElem?_getD, List.getElem?_take, if_pos hj] at this
  rw [List.getD_eq_getElem?_getD, List.getD_eq_getElem?_getD]
  exact this
theorem take_mono {x z : List UInt8} {n m : Nat} (h : z.take n = x.take n) (hm : m ≤ n) : z.take m = x.take m := by
  have := congrArg (List.take m) h
  rwa [List.take_take, List.take_take, Nat.min_eq_left hm] at this
theorem take_len_of {x z : List UInt8} {n : Nat} (h : z.take n = x.take n) (hn : n ≤ x.length) : n ≤ z.length := by
  have := congrArg List.length h
  rw [List.length_take, List.length_take] at this
  omega
/-! ### skipping -/
theorem skip_app (y : List UInt8) : ∀ (x : List UInt8) (n m : Nat), n ≤ x.length → skipL n x = .ok m →
    (m < x.length → skipL n (x ++ 10 :: y) = .ok m) ∧ (m = x.length → skipL n (x ++ 10 :: y) = upE (x.length + 1) (skipL 0 y)) ∧ m ≤ x.length
  | [], n, m, hn, h => by
    have : n = 0 := by simpa using hn
    subst this
    rw [skipL] at h
    injection h with h
    refine ⟨by intro h2; simp at h2, fun _ => ?_, by omega⟩
    rw [List.nil_append, skipL, if_pos (by decide)]
    cases skipL 0 y <;> simp [upE] <;> omega
  | c :: t, n + 1, m, hn, h => by
    rw [skipL] at h
    cases hs : skipL n t with
    | error e => rw [hs] at h; cases h
    | ok k =>
      rw [hs] at h
      injection h with h
      obtain ⟨a, b, d⟩ := skip_app y t n k (by simpa using hn) hs
      simp only [List.length_cons]
      refine ⟨fun hm => ?_, fun hm => ?_, by omega⟩
      · rw [List.cons_append, skipL, a (by omega), ← h]
      · rw [List.cons_append, skipL, b (by omega)]
        cases skipL 0 y <;> simp [upE] <;> omega
  | c :: t, 0, m, hn, h => by
    rw [skipL] at h
    have key : ∀ (k : Nat), k ≤ t.length → (match skipL k t with | .ok m => Except.ok (m + 1) | .error m => .error (m + 1)) = (Except.ok m : Except Nat Nat) →
        (m < t.length + 1 → (match skipL k (t ++ 10 :: y) with | .ok m => Except.ok (m + 1) | .error m => .error (m + 1)) = (Except.ok m : Except Nat Nat)) ∧ (m = t.length + 1 → (match skipL k (t ++ 10 :: y) with | .ok m => Except.ok (m + 1) | .error m => .error (m + 1)) = upE (t.length + 1 + 1) (skipL 0 y)) ∧ m ≤ t.length + 1 := by
      intro k hk h
      cases hs : skipL k t with
      | error e => rw [hs] at h; cases h
      | ok j =>
        rw [hs] at h
        injection h with h
        obtain ⟨a, b, d⟩ := skip_app y t k j hk hs
        refine ⟨fun hm => ?_, fun hm => ?_, by omega⟩
        · rw [a (by omega), ← h]
        · rw [b (by omega)]
          cases skipL 0 y <;> simp [upE] <;> omega
    rw [List.cons_append, skipL, List.length_cons]
    by_cases h1 : blankB c = true
    · rw [if_pos h1] at h ⊢
      exact key 0 (by omega) h
    rw [if_neg h1] at h ⊢
    by_cases h2 : c = 59
    · rw [if_pos h2] at h ⊢
      rw [tw_app _ (by decide)]
      exact key _ (List.takeWhile_sublist _).length_le h
    rw [if_neg h2] at h ⊢
    by_cases h3 : c = 35 ∧ t.head? = some 124
    · cases t with
      | nil => simp at h3
      | cons d u =>
        have hd : d = 124 := by simpa using h3.2
        rw [if_pos h3] at h
        rw [List.cons_append, if_pos (by exact h3)]
        simp only [List.drop_succ_cons, List.drop_zero] at h ⊢
        cases hc : comB 1 u with
        | none => rw [hc] at h; cases h
        | some k =>
          have := comB_le _ _ _ hc
          rw [hc] at h
          rw [comB_app _ _ _ _ hc]
          exact key _ (by simp only [List.length_cons]; omega) h
    · rw [if_neg h3] at h
      rw [if_neg (by
        cases t with
        | nil => simp
        | cons d u => exact h3)]
      injection h with h
      exact ⟨fun _ => by rw [h], fun hm => by omega, by omega⟩
/-! ### escapes, texts -/
theorem semi_local {x z : List UInt8} {k : Nat} (h : semi x = some k) (e : z.take (k + 1) = x.take (k + 1)) : semi z = some k := by
  have hk := semi_le h
  have e1 : (x.takeWhile (fun b => b != 59)).length = k := by
    unfold semi at h
    split at h
    · injection h
    · cases h
  have hz := take_len_of e (by omega)
  have hd : x.getD k 0 = 59 := by
    rcases tw_drop (fun b => b != 59) x with h2 | ⟨d, t, h2, g⟩
    · rw [e1] at h2; have := congrArg List.length h2; rw [List.length_drop] at this; simp at this; omega
    · rw [e1] at h2
      rw [show x.getD k 0 = d by have := getD_drop x k 0; rw [Nat.add_zero, h2] at this; exact this.symm]
      simpa using g
  have hz2 : z.getD k 0 = 59 := by rw [take_getD e (by omega), hd]
  have e3 : z.takeWhile (fun b => b != 59) = x.takeWhile (fun b => b != 59) := by
    refine tw_local _ _ _ (by rw [e1]; exact take_mono e (by omega)) ?_
    rw [e1]
    refine .inr ⟨59, z.drop (k + 1), ?_, by decide⟩
    rw [drop_cons (by omega), hz2]
  unfold semi
  rw [e3, e1, if_pos (by omega)]
theorem escL_local {by_ : UInt8} {x z out : List UInt8} {n : Nat} (h : escL by_ x = .ok out n) (e : z.take n = x.take n) : escL by_ z = .ok out n := by
  have hn := escL_le h
  cases x with
  | nil => cases h
  | cons d u =>
    obtain ⟨m, rfl⟩ : ∃ m, n = m + 1 := ⟨n - 1, by omega⟩
    cases z with
    | nil => simp at e
    | cons d' v =>
      rw [List.take_succ_cons, List.take_succ_cons] at e
      injection e with e1 e2
      subst e1
      rw [escL] at h ⊢
      split at h
      · rename_i c; rw [if_pos c]; exact h
      rename_i c; rw [if_neg c]
      split at h
      · rename_i c; rw [if_pos c]; exact h
      rename_i c; rw [if_neg c]
      split at h
      · rename_i c; rw [if_pos c]; exact h
      rename_i c; rw [if_neg c]
      split at h
      · rename_i c; rw [if_pos c]; exact h
      rename_i c; rw [if_neg c]
      split at h
      · rename_i c; rw [if_pos c]
        cases hs : semi u with
        | none => rw [hs] at h; cases h
        | some k =>
          rw [hs] at h
          simp only at h
          cases hc : hexC (u.take k) with
          | none => rw [hc] at h; cases h
          | some r =>
            rw [hc] at h
            injection h with h1 h2
            have hm : m = k + 1 := by omega
            rw [hm] at e2
            rw [semi_local hs e2]
            simp only
            rw [take_mono e2 (by omega), hc]
            simp only
            rw [h1, h2]
      rename_i c; rw [if_neg c]
      split at h
      · rename_i c; rw [if_pos c]; exact h
      · cases h
theorem QuoR.up_ok {out o : List UInt8} {k n : Nat} {r : QuoR} (h : r.up out k = .ok o n) : ∃ o' n', r = .ok o' n' ∧ o = out ++ o' ∧ n = k + n' := by
  cases r with
  | open_ => cases h
  | bad => cases h
  | ok o' n' => injection h with h1 h2; exact ⟨o', n', rfl, h1.symm, h2.symm⟩
theorem quoL_local (by_ : UInt8) : ∀ (x z : List UInt8) (k : Nat) (out : List UInt8) (n : Nat), quoL by_ k x = .ok out n → z.take n = x.take n → quoL by_ k z = .ok out n ∧ k < n ∧ n ≤ x.length
  | [], _, k, out, n, h, _ => by cases k <;> cases h
  | c :: t, z, k + 1, out, n, h, e => by
    rw [quoL] at h
    obtain ⟨o, m, h1, h2, h3⟩ := QuoR.up_ok h
    rw [show n = m + 1 by omega] at e ⊢
    cases z with
    | nil => simp at e
    | cons d v =>
      rw [List.take_succ_cons, List.take_succ_cons] at e
      injection e with e1 e2
      obtain ⟨a, b, c⟩ := quoL_local by_ t v k o m h1 e2
      rw [quoL, a, List.length_cons]
      refine ⟨?_, by omega, by omega⟩
      rw [h2]
      simp [QuoR.up, Nat.add_comm]
  | c :: t, z, 0, out, n, h, e => by
    rw [quoL] at h
    by_cases h1 : c = by_
    · rw [if_pos h1] at h
      injection h with h2 h3
      subst h2; subst h3
      cases z with
      | nil => simp at e
      | cons d v =>
        rw [List.take_succ_cons, List.take_succ_cons] at e
        injection e with e1 e2
        rw [quoL, if_pos (by rw [e1]; exact h1), List.length_cons]
        exact ⟨rfl, by omega, by omega⟩
    rw [if_neg h1] at h
    by_cases h2 : c ≠ 92
    · rw [if_pos h2] at h
      obtain ⟨o, m, h3, h4, h5⟩ := QuoR.up_ok h
      rw [show n = m + 1 by omega] at e ⊢
      cases z with
      | nil => simp at e
      | cons d v =>
        rw [List.take_succ_cons, List.take_succ_cons] at e
        injection e with e1 e2
        obtain ⟨a, b, q⟩ := quoL_local by_ t v 0 o m h3 e2
        rw [quoL, e1, if_neg h1, if_pos h2, a, List.length_cons]
        refine ⟨?_, by omega, by omega⟩
        rw [h4]
        simp [QuoR.up, Nat.add_comm]
    rw [if_neg h2] at h
    cases he : escL by_ t with
    | open_ => rw [he] at h; cases h
    | bad => rw [he] at h; cases h
    | ok o j =>
      rw [he] at h
      simp only at h
      obtain ⟨o2, m, h3, h4, h5⟩ := QuoR.up_ok h
      rw [show n = m + 1 by omega] at e ⊢
      cases z with
      | nil => simp at e
      | cons d v =>
        rw [List.take_succ_cons, List.take_succ_cons] at e
        injection e with e1 e2
        obtain ⟨a, b, q⟩ := quoL_local by_ t v j o2 m h3 e2
        rw [quoL, e1, if_neg h1, if_neg h2, escL_local he (take_mono e2 (by omega)), List.length_cons]
        simp only
        rw [a]
        refine ⟨?_, by omega, by omega⟩
        rw [h4]
        simp [QuoR.up, Nat.add_comm]
theorem hexN_bad (l : List UInt8) (b : UInt8) (hb : b ∈ l) (hv : hexV b = none) : ∀ n, hexN l n = none := by
  induction l with
  | nil => cases hb
  | cons c t ih =>
    intro n
    unfold hexN
    rcases List.mem_cons.1 hb with h | h
    · rw [← h, hv]
    · cases hexV c with
      | none => rfl
      | some v => exact ih h _
theorem hexC_bad (l : List UInt8) (b : UInt8) (hb : b ∈ l) (hv : hexV b = none) : hexC l = none := by
  unfold hexC
  rw [hexN_bad l b hb hv]
  split <;> rfl
theorem escL_bad {by_ : UInt8} {x : List UInt8} (y : List UInt8) (h : escL by_ x = .bad) : escL by_ (x ++ 10 :: y) = .bad := by
  cases x with
  | nil => cases h
  | cons d u =>
    rw [List.cons_append]
    rw [escL] at h ⊢
    split at h
    · cases h
    rename_i c; rw [if_neg c]
    split at h
    · cases h
    rename_i c; rw [if_neg c]
    split at h
    · cases h
    rename_i c; rw [if_neg c]
    split at h
    · cases h
    rename_i c; rw [if_neg c]
    split at h
    · rename_i c; rw [if_pos c]
      cases hs : semi u with
      | some k =>
        have hk := semi_le hs
        rw [semi_local (z := u ++ 10 :: y) hs (by rw [List.take_append_of_le_length (by omega)])]
        rw [hs] at h
        simp only at h ⊢
        rw [List.take_append_of_le_length (by omega)]
        exact h
      | none =>
        cases hz : semi (u ++ 10 :: y) with
        | none => rfl
        | some k =>
          simp only
          have hk : u.length < k := by
            apply Nat.lt_of_not_le
            intro hle
            have e1 : ((u ++ 10 :: y).takeWhile (fun b => b != 59)).length = k := by
              unfold semi at hz
              split at hz
              · injection hz
              · cases hz
            have hd : (u ++ 10 :: y).getD k 0 = 59 := by
              have hk2 := semi_le hz
              rcases tw_drop (fun b => b != 59) (u ++ 10 :: y) with h2 | ⟨d, t, h2, g⟩
              · rw [e1] at h2; have := congrArg List.length h2; rw [List.length_drop] at this; simp at this; simp at hk2; omega
              · rw [e1] at h2
                rw [show (u ++ 10 :: y).getD k 0 = d by have := getD_drop (u ++ 10 :: y) k 0; rw [Nat.add_zero, h2] at this; exact this.symm]
                simpa using g
            rcases Nat.lt_or_eq_of_le hle with hlt | heq
            · have hs2 : semi u = some k := by
                have : semi ((u ++ 10 :: y).take (k + 1)) = some k := semi_local hz (by rw [List.take_take, Nat.min_self])
                rw [List.take_append_of_le_length (by omega)] at this
                exact semi_local this (by rw [List.take_take, Nat.min_self])
              rw [hs] at hs2
              cases hs2
            · rw [heq, List.getD_eq_getElem?_getD, List.getElem?_append_right (Nat.le_refl _)] at hd
              simp at hd
          have : hexC ((u ++ 10 :: y).take k) = none := by
            refine hexC_bad _ 10 ?_ (by decide)
            obtain ⟨j, rfl⟩ : ∃ j, k = u.length + (j + 1) := ⟨k - u.length - 1, by omega⟩
            rw [List.take_append, List.take_of_length_le (by omega)]
            simp
          rw [this]
    rename_i c; rw [if_neg c]
    split at h
    · cases h
    rename_i c; rw [if_neg c]
theorem QuoR.up_bad {out : List UInt8} {k i : Nat} {r : QuoR} (h : r.up out k = .bad i) : ∃ i', r = .bad i' ∧ i = k + i' := by
  cases r with
  | open_ => cases h
  | bad i' => injection h with h1; exact ⟨i', rfl, h1.symm⟩
  | ok => cases h
theorem quoL_bad (by_ : UInt8) (y : List UInt8) : ∀ (x : List UInt8) (k i : Nat), quoL by_ k x = .bad i → quoL by_ k (x ++ 10 :: y) = .bad i
  | [], k, i, h => by cases k <;> cases h
  | c :: t, k + 1, i, h => by
    rw [quoL] at h
    obtain ⟨j, h1, h2⟩ := QuoR.up_bad h
    rw [List.cons_append, quoL, quoL_bad by_ y t k j h1, h2]
    rfl
  | c :: t, 0, i, h => by
    rw [quoL] at h
    rw [List.cons_append, quoL]
    by_cases h1 : c = by_
    · rw [if_pos h1] at h; cases h
    rw [if_neg h1] at h ⊢
    by_cases h2 : c ≠ 92
    · rw [if_pos h2] at h ⊢
      obtain ⟨j, h3, h4⟩ := QuoR.up_bad h
      rw [quoL_bad by_ y t 0 j h3, h4]
      rfl
    rw [if_neg h2] at h ⊢
    cases he : escL by_ t with
    | open_ => rw [he] at h; cases h
    | bad =>
      rw [he] at h
      rw [escL_bad y he]
      exact h
    | ok o j =>
      rw [he] at h
      simp only at h
      obtain ⟨q, h3, h4⟩ := QuoR.up_bad h
      have hj := escL_le he
      rw [escL_local (z := t ++ 10 :: y) he (by rw [List.take_append_of_le_length (by omega)])]
      simp only
      rw [quoL_bad by_ y t j q h3, h4]
      rfl
/-! ### chars -/
theorem getD_app (x y : List UInt8) (j : Nat) (h : j < x.length) : (x ++ y).getD j 0 = x.getD j 0 := by
  rw [List.getD_eq_getElem?_getD, List.getD_eq_getElem?_getD, List.getElem?_append_left h]
theorem getD_app10 (x y : List UInt8) : (x ++ 10 :: y).getD x.length 0 = 10 := by
  rw [List.getD_eq_getElem?_getD, List.getElem?_append_right (Nat.le_refl _)]
  simp
theorem decodeN_local (n n' b0 b1 b2 b3 c1 c2 c3 w : Nat) (h : decodeN n b0 b1 b2 b3 ≠ (65533, 1)) (hw : (decodeN n b0 b1 b2 b3).2 = w) (hn : w ≤ n') (h1 : 1 < w → c1 = b1) (h2 : 2 < w → c2 = b2) (h3 : 3 < w → c3 = b3) : decodeN n' b0 c1 c2 c3 = decodeN n b0 b1 b2 b3 := by
  unfold decodeN at h hw ⊢
  by_cases a0 : b0 < 128
  · rw [if_pos a0, if_pos a0]
  rw [if_neg a0] at h hw
  rw [if_neg a0, if_neg a0]
  by_cases a1 : b0 / 32 = 6 ∧ (1 < n ∧ b1 / 64 = 2)
  · rw [if_pos a1] at h hw
    by_cases g : b0 % 32 * 64 + b1 % 64 ≥ 128
    · rw [if_pos g] at hw
      simp only at hw
      obtain rfl := h1 (by omega)
      rw [if_pos a1, if_pos (by omega)]
    · rw [if_neg g] at h; exact absurd rfl h
  rw [if_neg a1] at h hw
  rw [if_neg a1]
  by_cases a2 : b0 / 16 = 14 ∧ (1 < n ∧ b1 / 64 = 2) ∧ (2 < n ∧ b2 / 64 = 2)
  · rw [if_pos a2] at h hw
    split at hw
    · rename_i g
      simp only at hw
      obtain rfl := h1 (by omega)
      obtain rfl := h2 (by omega)
      rw [if_neg (by omega), if_pos (by omega), if_pos a2]
    · rename_i g
      rw [if_neg g] at h; exact absurd rfl h
  rw [if_neg a2] at h hw
  rw [if_neg a2]
  by_cases a3 : b0 / 8 = 30 ∧ (1 < n ∧ b1 / 64 = 2) ∧ (2 < n ∧ b2 / 64 = 2) ∧ (3 < n ∧ b3 / 64 = 2)
  · rw [if_pos a3] at h hw
    split at hw
    · rename_i g
      simp only at hw
      obtain rfl := h1 (by omega)
      obtain rfl := h2 (by omega)
      obtain rfl := h3 (by omega)
      rw [if_neg (by omega), if_neg (by omega), if_pos (by omega), if_pos a3]
    · rename_i g
      rw [if_neg g] at h; exact absurd rfl h
  · rw [if_neg a3] at h; exact absurd rfl h
theorem decode_ne {p : Nat × Nat} (h : ¬ (p.1 = 65533 ∧ p.2 = 1)) : p ≠ (65533, 1) := by
  rintro rfl; exact h ⟨rfl, rfl⟩
theorem decodeN_width (n b0 b1 b2 b3 : Nat) (h : 1 ≤ n) : 1 ≤ (decodeN n b0 b1 b2 b3).2 ∧ (decodeN n b0 b1 b2 b3).2 ≤ n := by
  unfold decodeN
  repeat' split
  all_goals simp only
  all_goals omega
theorem decodeL_wd {x : List UInt8} (h : x ≠ []) : 1 ≤ (decodeL x).2 ∧ (decodeL x).2 ≤ x.length := by
  rw [decodeL_N]
  exact decodeN_width _ _ _ _ _ (List.length_pos_iff.2 h)
theorem decodeL_local {x z : List UInt8} (hx : x ≠ []) (h : ¬ ((decodeL x).1 = 65533 ∧ (decodeL x).2 = 1)) (e : z.take (decodeL x).2 = x.take (decodeL x).2) : decodeL z = decodeL x := by
  have hw := decodeL_wd hx
  have hz := take_len_of e hw.2
  have key : ∀ w, (decodeL x).2 = w → decodeL z = decodeL x := by
    intro w hw2
    rw [hw2] at hw hz e
    rw [decodeL_N x] at h hw2
    rw [decodeL_N z, decodeL_N x]
    rw [take_getD e (show 0 < w by omega)]
    exact decodeN_local _ _ _ _ _ _ _ _ _ w (decode_ne h) hw2 hz (fun g => by rw [take_getD e g]) (fun g => by rw [take_getD e g]) (fun g => by rw [take_getD e g])
  exact key _ rfl
theorem decodeN_bad10 (n n' b0 b1 b2 b3 c1 c2 c3 : Nat) (hn : 1 ≤ n) (hn' : n < n') (h : decodeN n b0 b1 b2 b3 = (65533, 1)) (h1 : 1 < n → c1 = b1) (h2 : 2 < n → c2 = b2) (h3 : 3 < n → c3 = b3) (g1 : n = 1 → c1 = 10) (g2 : n = 2 → c2 = 10) (g3 : n = 3 → c3 = 10) : decodeN n' b0 c1 c2 c3 = (65533, 1) := by
  by_cases hh : decodeN n' b0 c1 c2 c3 = (65533, 1)
  · exact hh
  exfalso
  have hw := decodeN_width n' b0 c1 c2 c3 (by omega)
  by_cases hle : (decodeN n' b0 c1 c2 c3).2 ≤ n
  · have := decodeN_local n' n b0 c1 c2 c3 b1 b2 b3 _ hh rfl hle (fun g => (h1 (by omega)).symm) (fun g => (h2 (by omega)).symm) (fun g => (h3 (by omega)).symm)
    exact hh (this.symm.trans h)
  · have cont : (1 < (decodeN n' b0 c1 c2 c3).2 → c1 / 64 = 2) ∧ (2 < (decodeN n' b0 c1 c2 c3).2 → c2 / 64 = 2) ∧ (3 < (decodeN n' b0 c1 c2 c3).2 → c3 / 64 = 2) ∧ (decodeN n' b0 c1 c2 c3).2 ≤ 4 := by
      unfold decodeN
      repeat' split
      all_goals simp only
      all_goals omega
    omega
theorem decodeL_bad {x : List UInt8} (y : List UInt8) (hx : x ≠ []) (h : (decodeL x).1 = 65533 ∧ (decodeL x).2 = 1) : decodeL (x ++ 10 :: y) = (65533, 1) := by
  have h2 : decodeL x = (65533, 1) := Prod.ext h.1 h.2
  have hn : 1 ≤ x.length := List.length_pos_iff.2 hx
  rw [decodeL_N] at h2 ⊢
  rw [getD_app x _ 0 (by omega)]
  refine decodeN_bad10 x.length _ _ _ _ _ _ _ _ hn (by simp) h2 (fun g => by rw [getD_app _ _ _ g]) (fun g => by rw [getD_app _ _ _ g]) (fun g => by rw [getD_app _ _ _ g]) ?_ ?_ ?_
  all_goals
    intro g
    rw [← g, getD_app10]
    rfl
theorem delim_blank (d : UInt8) (h : blankB d = true) : (!delimB d) = false := by unfold delimB; rw [h]; rfl
theorem word_blank (d : UInt8) (h : blankB d = true) : wordB d = false := by unfold wordB; rw [delim_blank d h]; rfl
theorem take_add (x : List UInt8) (n m : Nat) : x.take (n + m) = x.take n ++ (x.drop n).take m := List.take_add
theorem charL_local {x z : List UInt8} {v n : Nat} (h : charL x = .ok (v, n)) (e : z.take n = x.take n) (f : Foll (x.drop n) (z.drop n)) : charL z = .ok (v, n) ∧ 1 ≤ n ∧ n ≤ x.length := by
  unfold charL at h
  split at h
  · cases h
  rename_i hx
  split at h
  · cases h
  rename_i hb
  have hw := decodeL_wd hx
  obtain ⟨w, hwe⟩ : ∃ w, w = (decodeL x).2 := ⟨_, rfl⟩
  obtain ⟨m, hme⟩ : ∃ m, m = ((x.drop w).takeWhile (fun b => !delimB b)).length := ⟨_, rfl⟩
  simp only [← hwe] at h hw
  simp only [← hme] at h
  have hm : m ≤ x.length - w := by
    have := (List.takeWhile_sublist (fun b => !delimB b) (l := x.drop w)).length_le
    rw [List.length_drop] at this
    omega
  have hn : n = w + m := by
    split at h
    · injection h with h; injection h; omega
    · split at h
      · injection h with h; injection h; omega
      · split at h
        · split at h
          · injection h with h; injection h; omega
          · cases h
        · cases h
  subst hn
  have hz : w + m ≤ z.length := take_len_of e (by omega)
  have e1 := take_mono e (show w ≤ w + m by omega)
  have dz := decodeL_local (z := z) hx hb (by rw [← hwe]; exact e1)
  have e2 : (z.drop w).take m = (x.drop w).take m := by
    have := congrArg (List.drop w) e
    rwa [List.drop_take, List.drop_take, show w + m - w = m by omega] at this
  have ez : (z.drop w).takeWhile (fun b => !delimB b) = (x.drop w).takeWhile (fun b => !delimB b) := by
    refine tw_local _ _ _ (by rw [← hme]; exact e2) ?_
    rw [← hme, List.drop_drop]
    refine f.tail delim_blank ?_
    rw [← List.drop_drop, hme]
    exact tw_drop _ _
  have hznil : z ≠ [] := by intro g; rw [g] at hz; simp only [List.length_nil] at hz; omega
  refine ⟨?_, by omega, by omega⟩
  unfold charL
  rw [if_neg hznil, dz, if_neg hb]
  simp only [← hwe]
  rw [ez, ← hme, e2, e]
  exact h
theorem charL_err {x : List UInt8} (y : List UInt8) {c : Nat} (h : charL x = .error c) (hc : c ≠ 11) : charL (x ++ 10 :: y) = .error c := by
  unfold charL at h
  split at h
  · injection h with h; exact absurd h.symm hc
  rename_i hx
  have hnil : x ++ 10 :: y ≠ [] := by simp
  unfold charL
  rw [if_neg hnil]
  split at h
  · rename_i hb
    rw [decodeL_bad y hx hb, if_pos ⟨rfl, rfl⟩]
    exact h
  rename_i hb
  have hw := decodeL_wd hx
  rw [decodeL_local (z := x ++ 10 :: y) hx hb (by rw [List.take_append_of_le_length hw.2]), if_neg hb]
  obtain ⟨w, hwe⟩ : ∃ w, w = (decodeL x).2 := ⟨_, rfl⟩
  simp only [← hwe] at h hw ⊢
  rw [List.drop_append_of_le_length hw.2, tw_app _ (by decide)]
  obtain ⟨m, hme⟩ : ∃ m, m = ((x.drop w).takeWhile (fun b => !delimB b)).length := ⟨_, rfl⟩
  have hm : m ≤ (x.drop w).length := by rw [hme]; exact (List.takeWhile_sublist _).length_le
  rw [← hme] at h ⊢
  rw [List.take_append_of_le_length (by rw [List.length_drop] at hm; omega), List.take_append_of_le_length hm]
  exact h
/-! ### tokens -/
theorem wordB_35 : wordB 35 = true := by decide
theorem word_hash (t : List UInt8) {k : Nat} {d : Leaf} (h : wordV ((35 :: t).takeWhile wordB) = .ok (k, d)) : ((35 :: t).takeWhile wordB).length > 1 := by
  rw [List.takeWhile_cons, if_pos wordB_35] at h ⊢
  cases hc : t.takeWhile wordB with
  | nil => rw [hc] at h; exact absurd h (by unfold wordV; simp)
  | cons a b => simp
theorem wordV_nil {r : Nat × Leaf} (h : wordV [] = .ok r) : False := by
  have : parseV [] = none := by unfold parseV; simp [body, signB, Lib.hasPrefix]
  unfold wordV at h
  rw [this] at h
  simp [textL, runesL, runesGo] at h
theorem tok_head {x : List UInt8} {t : Tk} (h : tokL x = .ok t) : skipL 0 x = .ok 0 := by
  cases x with
  | nil => cases h
  | cons c u =>
    by_cases hb : blankB c = true
    · exfalso
      have hd : wordB c = false := word_blank c hb
      have : c = 9 ∨ c = 10 ∨ c = 12 ∨ c = 13 ∨ c = 32 := by simpa [blankB, or_assoc] using hb
      rw [tokL, if_neg (by rcases this with g | g | g | g | g <;> rw [g] <;> decide), if_neg (by rcases this with g | g | g | g | g <;> rw [g] <;> decide), if_neg (by rcases this with g | g | g | g | g <;> rw [g] <;> decide), if_neg (by rcases this with g | g | g | g | g <;> rw [g] <;> decide), if_neg (by rcases this with g | g | g | g | g <;> rw [g] <;> decide), if_neg (by rcases this with g | g | g | g | g <;> rw [g] <;> decide), if_neg (by rcases this with g | g | g | g | g <;> rw [g] <;> simp), if_neg (by rcases this with g | g | g | g | g <;> rw [g] <;> simp), List.takeWhile_cons, if_neg (by rw [hd]; decide)] at h
      cases hw : wordV [] with
      | ok r => exact wordV_nil hw
      | error e => rw [hw] at h; cases h
    by_cases h2 : c = 59
    · exfalso
      subst h2
      rw [tokL, if_neg (by decide), if_neg (by decide), if_neg (by decide), if_neg (by decide), if_neg (by decide), if_neg (by decide), if_neg (by simp), if_neg (by simp), List.takeWhile_cons, if_neg (by decide)] at h
      cases hw : wordV [] with
      | ok r => exact wordV_nil hw
      | error e => rw [hw] at h; cases h
    by_cases h3 : c = 35 ∧ u.head? = some 124
    · exfalso
      obtain ⟨rfl, h4⟩ := h3
      cases u with
      | nil => simp at h4
      | cons d v =>
        obtain rfl : d = 124 := by simpa using h4
        rw [tokL, if_neg (by decide), if_neg (by decide), if_neg (by decide), if_neg (by decide), if_neg (by decide), if_neg (by decide), if_neg (by simp), if_neg (by simp), List.takeWhile_cons, if_pos wordB_35, List.takeWhile_cons, if_neg (by decide)] at h
        have : wordV [35] = .error 9 := by unfold wordV; simp
        rw [this] at h
        cases h
    · rw [skipL, if_neg hb, if_neg h2, if_neg h3]
theorem tok_len {x : List UInt8} {t : Tk} (h : tokL x = .ok t) : 1 ≤ t.len ∧ t.len ≤ x.length ∧ t.kind ≠ 0 := by
  cases x with
  | nil => cases h
  | cons c u =>
    rw [tokL] at h
    rw [List.length_cons]
    split at h
    · injection h with h; subst h; simp
    split at h
    · injection h with h; subst h; simp
    split at h
    · injection h with h; subst h; simp
    split at h
    · injection h with h; subst h; simp
    split at h
    · split at h
      · rename_i g
        injection h with h; subst h
        cases u with
        | nil => simp at g
        | cons => simp
      · injection h with h; subst h; simp
    split at h
    · cases hq : quoL c 0 u with
      | open_ => rw [hq] at h; cases h
      | bad => rw [hq] at h; cases h
      | ok o n =>
        rw [hq] at h
        simp only at h
        obtain ⟨_, _, g⟩ := quoL_local c u u 0 o n hq rfl
        cases ht : textL (c == 124) o with
        | error e => rw [ht] at h; cases h
        | ok d => rw [ht] at h; injection h with h; subst h; simp only; omega
    split at h
    · rename_i g
      injection h with h; subst h
      cases u with
      | nil => simp at g
      | cons => simp
    split at h
    · rename_i g
      cases hq : charL (u.drop 1) with
      | error e => rw [hq] at h; cases h
      | ok p =>
        obtain ⟨v, n⟩ := p
        rw [hq] at h
        injection h with h; subst h
        obtain ⟨_, a, b⟩ := charL_local hq rfl (.inr (.inr rfl))
        rw [List.length_drop] at b
        simp only
        omega
    · cases hq : wordV ((c :: u).takeWhile wordB) with
      | error e => rw [hq] at h; cases h
      | ok p =>
        obtain ⟨k, d⟩ := p
        rw [hq] at h
        injection h with h
        have hne : (c :: u).takeWhile wordB ≠ [] := by
          intro g
          rw [g] at hq
          exact wordV_nil hq
        have h1 := List.length_pos_iff.2 hne
        have h2 := (List.takeWhile_sublist wordB (l := c :: u)).length_le
        rw [List.length_cons] at h2
        subst h
        simp only
        refine ⟨by omega, by omega, ?_⟩
        rintro rfl
        unfold wordV at hq
        split at hq
        · injection hq with hq; injection hq with hq; cases hq
        split at hq
        · injection hq with hq; injection hq with hq; cases hq
        split at hq
        · injection hq with hq; injection hq with hq; cases hq
        split at hq
        · cases hq
        split at hq
        · split at hq
          · injection hq with hq; injection hq with hq; cases hq
          · cases hq
        · split at hq
          · injection hq with hq; injection hq with hq; cases hq
          · cases hq
theorem tok_local {x z : List UInt8} {t : Tk} (h : tokL x = .ok t) (e : z.take t.len = x.take t.len) (f : Foll (x.drop t.len) (z.drop t.len)) : tokL z = .ok t := by
  have hl := tok_len h
  have hz := take_len_of e hl.2.1
  cases x with
  | nil => cases h
  | cons c u =>
    cases z with
    | nil => simp at hz; omega
    | cons c' v =>
      obtain ⟨n, hn⟩ : ∃ n, t.len = n + 1 := ⟨t.len - 1, by omega⟩
      rw [hn, List.take_succ_cons, List.take_succ_cons] at e
      rw [hn, List.drop_succ_cons, List.drop_succ_cons] at f
      injection e with e1 e2
      subst e1
      rw [tokL] at h ⊢
      split at h
      · rename_i g; rw [if_pos g]; exact h
      rename_i g1; rw [if_neg g1]
      split at h
      · rename_i g; rw [if_pos g]; exact h
      rename_i g2; rw [if_neg g2]
      split at h
      · rename_i g; rw [if_pos g]; exact h
      rename_i g3; rw [if_neg g3]
      split at h
      · rename_i g; rw [if_pos g]; exact h
      rename_i g4; rw [if_neg g4]
      split at h
      · rename_i g; rw [if_pos g]
        split at h
        · rename_i k
          injection h with h'; subst h'
          simp only at hn
          obtain rfl : n = 1 := by omega
          have : v.head? = some 64 := by
            cases u with
            | nil => simp at k
            | cons a b =>
              cases v with
              | nil => simp at e2
              | cons a' b' =>
                simp at e2 k ⊢
                rw [e2, k]
          rw [if_pos this]
        · rename_i k
          injection h with h'; subst h'
          simp only at hn
          obtain rfl : n = 0 := by omega
          have : ¬ v.head? = some 64 := by
            simp only [List.drop_zero] at f
            rcases f with f | ⟨d, q, f, g⟩ | f
            · rw [f]; simp
            · rw [f]; simp only [List.head?_cons, Option.some.injEq]; rintro rfl; exact absurd g (by decide)
            · rw [f]; exact k
          rw [if_neg this]
      rename_i g5; rw [if_neg g5]
      split at h
      · rename_i g; rw [if_pos g]
        cases hq : quoL c' 0 u with
        | open_ => rw [hq] at h; cases h
        | bad => rw [hq] at h; cases h
        | ok o m =>
          rw [hq] at h
          simp only at h
          cases ht : textL (c' == 124) o with
          | error e => rw [ht] at h; cases h
          | ok d =>
            rw [ht] at h
            injection h with h'; subst h'
            simp only at hn
            obtain rfl : n = m := by omega
            rw [(quoL_local c' u v 0 o n hq e2).1]
            simp only
            rw [ht]
      rename_i g6; rw [if_neg g6]
      split at h
      · rename_i g
        injection h with h'; subst h'
        simp only at hn
        obtain rfl : n = 1 := by omega
        have : v.head? = some 40 := by
          cases u with
          | nil => simp at g
          | cons a b =>
            cases v with
            | nil => simp at e2
            | cons a' b' =>
              simp at e2 g ⊢
              rw [e2, g.2]
        rw [if_pos ⟨g.1, this⟩]
      rename_i g7
      split at h
      · rename_i g
        cases hq : charL (u.drop 1) with
        | error e => rw [hq] at h; cases h
        | ok p =>
          obtain ⟨a, m⟩ := p
          rw [hq] at h
          injection h with h'; subst h'
          simp only at hn
          obtain rfl : n = 1 + m := by omega
          have hm : 1 ≤ m := (charL_local hq rfl (.inr (.inr rfl))).2.1
          have h92 : v.head? = some 92 := by
            cases u with
            | nil => simp at g
            | cons a b =>
              cases v with
              | nil => exfalso; have := congrArg List.length e2; rw [List.length_take, List.length_take, List.length_cons, List.length_nil] at this; omega
              | cons a' b' =>
                rw [show 1 + m = m + 1 by omega, List.take_succ_cons, List.take_succ_cons] at e2
                injection e2 with e3 e4
                simp at g ⊢
                rw [e3, g.2]
          have h40 : ¬ (c' = 35 ∧ v.head? = some 40) := by rw [h92]; simp
          rw [if_neg h40, if_pos ⟨g.1, h92⟩]
          have e5 : (v.drop 1).take m = (u.drop 1).take m := by
            have := congrArg (List.drop 1) e2
            rwa [List.drop_take, List.drop_take, show 1 + m - 1 = m by omega] at this
          have hc := (charL_local hq e5 (by rw [List.drop_drop, List.drop_drop]; exact f)).1
          rw [hc]
      rename_i g8
      cases hq : wordV ((c' :: u).takeWhile wordB) with
      | error e => rw [hq] at h; cases h
      | ok p =>
        obtain ⟨k, d⟩ := p
        rw [hq] at h
        injection h with h'
        have hlen : ((c' :: u).takeWhile wordB).length = n + 1 := by rw [← h'] at hn; exact hn
        have hw : (c' :: v).takeWhile wordB = (c' :: u).takeWhile wordB := by
          refine tw_local _ _ _ (by rw [hlen, List.take_succ_cons, List.take_succ_cons, e2]) ?_
          rw [hlen, List.drop_succ_cons]
          refine f.tail word_blank ?_
          have := tw_drop wordB (c' :: u)
          rwa [hlen, List.drop_succ_cons] at this
        have h35 : ∀ b, wordB b = false ∨ b = 40 ∨ b = 92 → ¬ (c' = 35 ∧ v.head? = some b) := by
          rintro b hb ⟨rfl, hv⟩
          have hn1 := word_hash u hq
          rw [hlen] at hn1
          cases u with
          | nil =>
            have := (List.takeWhile_sublist wordB (l := [35])).length_le
            rw [hlen] at this
            simp at this
            omega
          | cons a u' =>
            cases v with
            | nil => simp at hv
            | cons a' v' =>
              obtain ⟨n', rfl⟩ : ∃ n', n = n' + 1 := ⟨n - 1, by omega⟩
              rw [List.take_succ_cons, List.take_succ_cons] at e2
              injection e2 with e3 e4
              subst e3
              simp at hv
              subst hv
              rw [List.takeWhile_cons, if_pos wordB_35] at hlen
              rcases hb with hb | rfl | rfl
              · rw [List.takeWhile_cons, if_neg (by rw [hb]; decide)] at hlen
                simp at hlen
              · exact g7 ⟨rfl, rfl⟩
              · exact g8 ⟨rfl, rfl⟩
        rw [if_neg (h35 40 (.inr (.inl rfl))), if_neg (h35 92 (.inr (.inr rfl))), hw, hq]
        simp only
        rw [h']
theorem head_app {x : List UInt8} (y : List UInt8) (b : UInt8) (hb : b ≠ 10) : (x ++ 10 :: y).head? = some b ↔ x.head? = some b := by
  cases x with
  | nil =>
    simp only [List.nil_append, List.head?_cons, List.head?_nil, Option.some.injEq]
    exact ⟨fun h => absurd h.symm hb, fun h => by cases h⟩
  | cons => simp
theorem tok_err {x : List UInt8} (y : List UInt8) {p c : Nat} (hx : x ≠ []) (h : tokL x = .error (p, c)) (hc : c ≠ 11) : tokL (x ++ 10 :: y) = .error (p, c) := by
  cases x with
  | nil => exact absurd rfl hx
  | cons b u =>
    rw [List.cons_append]
    rw [tokL] at h ⊢
    split at h
    · cases h
    rename_i g; rw [if_neg g]
    split at h
    · cases h
    rename_i g; rw [if_neg g]
    split at h
    · cases h
    rename_i g; rw [if_neg g]
    split at h
    · cases h
    rename_i g; rw [if_neg g]
    split at h
    · split at h <;> cases h
    rename_i g; rw [if_neg g]
    split at h
    · rename_i g; rw [if_pos g]
      cases hq : quoL b 0 u with
      | open_ => rw [hq] at h; injection h with h; injection h with h1 h2; exact absurd h2.symm hc
      | bad i =>
        rw [hq] at h
        rw [quoL_bad b y u 0 i hq]
        exact h
      | ok o n =>
        rw [hq] at h
        have hn := (quoL_local b u u 0 o n hq rfl).2.2
        rw [(quoL_local b u (u ++ 10 :: y) 0 o n hq (by rw [List.take_append_of_le_length hn])).1]
        exact h
    rename_i g; rw [if_neg g]
    split at h
    · cases h
    rename_i g; rw [if_neg (by rw [head_app _ _ (by decide)]; exact g)]
    split at h
    · rename_i g; rw [if_pos (by rw [head_app _ _ (by decide)]; exact g)]
      cases hq : charL (u.drop 1) with
      | ok p => obtain ⟨v, n⟩ := p; rw [hq] at h; cases h
      | error e =>
        rw [hq] at h
        injection h with h; injection h with h1 h2
        have hu : 1 ≤ u.length := by
          cases u with
          | nil => simp at g
          | cons => simp
        rw [List.drop_append_of_le_length hu, charL_err y hq (by rw [h2]; exact hc)]
        simp only
        rw [h1, h2]
    rename_i g; rw [if_neg (by rw [head_app _ _ (by decide)]; exact g)]
    rw [← List.cons_append, tw_app _ (by decide)]
    exact h
end Go.Proofs.YtonnikipeokkaaaDoor
