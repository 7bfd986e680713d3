/-
  All tokens of a text, one behind the other; of two texts; of a token's own bytes. Plain Lean.
-/
import Derived.Test.YtonnikipeokkaaaDoorLexLoc
namespace Go.Proofs.YtonnikipeokkaaaDoor
open Go.Lib

/-- The token at a place that is handed over. -/
def nextV (l : List UInt8) (at_ : Int) : Except (Nat × Nat) (Nat × Tk) :=
  if 4096 < l.length then .error (0, 12) else if at_ < 0 ∨ (l.length : Int) < at_ then .error (0, 1) else lexAt l at_.toNat
theorem nextV_eq {l : List UInt8} {i : Nat} (h : l.length ≤ 4096) (hi : i ≤ l.length) : nextV l i = lexAt l i := by
  unfold nextV
  rw [if_neg (by omega), if_neg (by omega)]
  rfl
theorem skip_le : ∀ (x : List UInt8) (n m : Nat), n ≤ x.length → skipL n x = .ok m → m ≤ x.length := fun x n m hn h => (skip_app [] x n m hn h).2.2
theorem skip_err : ∀ (x : List UInt8) (n m : Nat), n ≤ x.length → skipL n x = .error m → m < x.length
  | [], n, m, _, h => by cases n <;> cases h
  | c :: t, n + 1, m, hn, h => by
    rw [skipL] at h
    cases hs : skipL n t with
    | ok e => rw [hs] at h; cases h
    | error k =>
      rw [hs] at h
      injection h with h
      have := skip_err t n k (by simpa using hn) hs
      simp only [List.length_cons]; omega
  | c :: t, 0, m, hn, h => by
    rw [skipL] at h
    have key : ∀ k, k ≤ t.length → (match skipL k t with | .ok m => Except.ok (m + 1) | .error m => .error (m + 1)) = (Except.error m : Except Nat Nat) → m < (c :: t).length := by
      intro k hk h
      cases hs : skipL k t with
      | ok e => rw [hs] at h; cases h
      | error j =>
        rw [hs] at h
        injection h with h
        have := skip_err t k j hk hs
        simp only [List.length_cons]; omega
    split at h
    · exact key 0 (by omega) h
    split at h
    · exact key _ (List.takeWhile_sublist _).length_le h
    split at h
    · rename_i g
      cases hc : comB 1 (t.drop 1) with
      | none => rw [hc] at h; injection h with h; rw [← h]; simp
      | some k =>
        have := comB_le _ _ _ hc
        rw [List.length_drop] at this
        rw [hc] at h
        exact key _ (by omega) h
    · cases h
theorem lexAt_ok {l : List UInt8} {i j : Nat} {t : Tk} (hi : i ≤ l.length) (h : lexAt l i = .ok (j, t)) :
    i ≤ j ∧ j + t.len ≤ l.length ∧ skipAt l i = .ok j ∧ ((j = l.length ∧ t = ⟨0, 0, false, .no⟩) ∨ (j < l.length ∧ tokL (l.drop j) = .ok t ∧ 1 ≤ t.len ∧ t.kind ≠ 0)) := by
  unfold lexAt at h
  cases hs : skipAt l i with
  | error p => rw [hs] at h; cases h
  | ok k =>
    rw [hs] at h
    have hk : i ≤ k ∧ k ≤ l.length := by
      unfold skipAt at hs
      cases hq : skipL 0 (l.drop i) with
      | error p => rw [hq] at hs; cases hs
      | ok m =>
        rw [hq] at hs
        injection hs with hs
        have := skip_le _ _ _ (by omega) hq
        rw [List.length_drop] at this
        omega
    simp only at h
    split at h
    · rename_i g
      injection h with h; injection h with h1 h2
      subst h1; subst h2
      exact ⟨hk.1, by simp; omega, rfl, .inl ⟨g, rfl⟩⟩
    · rename_i g
      cases ht : tokL (l.drop k) with
      | error e => rw [ht] at h; cases h
      | ok t' =>
        rw [ht] at h
        injection h with h; injection h with h1 h2
        subst h1; subst h2
        have := tok_len ht
        rw [List.length_drop] at this
        exact ⟨hk.1, by omega, rfl, .inr ⟨by omega, ht, this.1, this.2.2⟩⟩
theorem textL_err {b : Bool} {t : List UInt8} {e : Nat} (h : textL b t = .error e) : e = 6 ∨ e = 9 := by
  unfold textL at h
  split at h
  · injection h; omega
  split at h
  · injection h; omega
  split at h
  · injection h; omega
  · cases h
theorem charL_code {t : List UInt8} {e : Nat} (h : charL t = .error e) : e = 9 ∨ e = 11 := by
  unfold charL at h
  split at h
  · injection h; omega
  split at h
  · injection h; omega
  simp only at h
  split at h
  · cases h
  split at h
  · cases h
  split at h
  · split at h
    · cases h
    · injection h; omega
  · injection h; omega
theorem wordV_err {t : List UInt8} {e : Nat} (h : wordV t = .error e) : e = 6 ∨ e = 9 := by
  unfold wordV at h
  split at h
  · cases h
  split at h
  · cases h
  split at h
  · cases h
  split at h
  · injection h; omega
  split at h
  · split at h
    · cases h
    · injection h; omega
  · split at h
    · cases h
    · rename_i g
      injection h with h
      have := textL_err g
      omega
theorem quoL_bd (by_ : UInt8) : ∀ (x : List UInt8) (k i : Nat), quoL by_ k x = .bad i → i < x.length
  | [], k, i, h => by cases k <;> cases h
  | c :: t, k + 1, i, h => by
    rw [quoL] at h
    obtain ⟨j, h1, h2⟩ := QuoR.up_bad h
    have := quoL_bd by_ t k j h1
    rw [List.length_cons]; omega
  | c :: t, 0, i, h => by
    rw [quoL] at h
    rw [List.length_cons]
    split at h
    · cases h
    split at h
    · obtain ⟨j, h1, h2⟩ := QuoR.up_bad h
      have := quoL_bd by_ t 0 j h1
      omega
    split at h
    · cases h
    · injection h; omega
    · obtain ⟨j, h1, h2⟩ := QuoR.up_bad h
      have := quoL_bd by_ t _ j h1
      omega
theorem tok_err_bd {x : List UInt8} {p c : Nat} (hx : x ≠ []) (h : tokL x = .error (p, c)) : p < x.length ∧ (c = 6 ∨ c = 9 ∨ c = 11) := by
  cases x with
  | nil => exact absurd rfl hx
  | cons b u =>
    rw [tokL] at h
    rw [List.length_cons]
    split at h
    · cases h
    split at h
    · cases h
    split at h
    · cases h
    split at h
    · cases h
    split at h
    · split at h <;> cases h
    split at h
    · split at h
      · injection h with h; injection h; omega
      · rename_i i hq
        have := quoL_bd _ _ _ _ hq
        injection h with h; injection h; omega
      · split at h
        · cases h
        · rename_i e he
          have := textL_err he
          injection h with h; injection h; omega
    split at h
    · cases h
    split at h
    · split at h
      · cases h
      · rename_i e he
        have := charL_code he
        injection h with h; injection h; omega
    · split at h
      · cases h
      · rename_i e he
        have := wordV_err he
        injection h with h; injection h; omega
theorem lexAt_err {l : List UInt8} {i p c : Nat} (hi : i ≤ l.length) (h : lexAt l i = .error (p, c)) : p < l.length ∧ (c = 6 ∨ c = 9 ∨ c = 11) := by
  unfold lexAt at h
  cases hs : skipAt l i with
  | error k =>
    rw [hs] at h
    injection h with h; injection h with h1 h2
    unfold skipAt at hs
    cases hq : skipL 0 (l.drop i) with
    | ok m => rw [hq] at hs; cases hs
    | error m =>
      rw [hq] at hs
      injection hs with hs
      have := skip_err _ _ _ (by omega) hq
      rw [List.length_drop] at this
      omega
  | ok k =>
    have hk : i ≤ k ∧ k ≤ l.length := by
      unfold skipAt at hs
      cases hq : skipL 0 (l.drop i) with
      | error p => rw [hq] at hs; cases hs
      | ok m =>
        rw [hq] at hs
        injection hs with hs
        have := skip_le _ _ _ (by omega) hq
        rw [List.length_drop] at this
        omega
    rw [hs] at h
    simp only at h
    split at h
    · cases h
    · rename_i g
      cases ht : tokL (l.drop k) with
      | ok t' => rw [ht] at h; cases h
      | error e =>
        obtain ⟨q, d⟩ := e
        rw [ht] at h
        injection h with h; injection h with h1 h2
        have hne : l.drop k ≠ [] := by
          intro hh
          have := congrArg List.length hh
          rw [List.length_drop] at this
          simp at this
          omega
        have := tok_err_bd hne ht
        rw [List.length_drop] at this
        omega
theorem lexAt_end {l : List UInt8} : lexAt l l.length = .ok (l.length, ⟨0, 0, false, .no⟩) := by
  unfold lexAt
  rw [skipAt_end]
  exact if_pos rfl
theorem lexAt_of {l : List UInt8} {i j : Nat} {t : Tk} (hs : skipAt l i = .ok j) (hj : j < l.length) (ht : tokL (l.drop j) = .ok t) : lexAt l i = .ok (j, t) := by
  unfold lexAt
  rw [hs]
  simp only
  rw [if_neg (by omega), ht]
theorem skipAt_tok {l : List UInt8} {j : Nat} {t : Tk} (ht : tokL (l.drop j) = .ok t) : skipAt l j = .ok j := by
  unfold skipAt
  rw [tok_head ht]
  rfl
/-! ### all tokens -/
/-- From a place on: the tokens, and how they end: a place, and an error's number (0: the text has ended). -/
inductive Toks (l : List UInt8) : Nat → List (Nat × Tk) → Nat → Nat → Prop
  | bad {i p c : Nat} (h : nextV l i = .error (p, c)) : Toks l i [] p c
  | fin {i j : Nat} {t : Tk} (h : nextV l i = .ok (j, t)) (hk : t.kind = 0) : Toks l i [] 0 0
  | cons {i j : Nat} {t : Tk} {ts : List (Nat × Tk)} {p c : Nat} (h : nextV l i = .ok (j, t)) (hk : t.kind ≠ 0) (n : Toks l (j + t.len) ts p c) : Toks l i ((j, t) :: ts) p c
theorem Toks.det {l : List UInt8} {i : Nat} {ts ts' : List (Nat × Tk)} {p p' c c' : Nat} (h : Toks l i ts p c) (h' : Toks l i ts' p' c') : ts = ts' ∧ p = p' ∧ c = c' := by
  induction h generalizing ts' p' c' with
  | bad h =>
    cases h' with
    | bad g => rw [h] at g; injection g with g; injection g with g1 g2; exact ⟨rfl, g1, g2⟩
    | fin g => rw [h] at g; cases g
    | cons g => rw [h] at g; cases g
  | fin h hk =>
    cases h' with
    | bad g => rw [h] at g; cases g
    | fin g => exact ⟨rfl, rfl, rfl⟩
    | cons g gk => rw [h] at g; injection g with g; injection g with g1 g2; rw [← g2] at gk; exact absurd hk gk
  | cons h hk n ih =>
    cases h' with
    | bad g => rw [h] at g; cases g
    | fin g gk => rw [h] at g; injection g with g; injection g with g1 g2; rw [← g2] at gk; exact absurd gk hk
    | cons g gk n' =>
      rw [h] at g; injection g with g; injection g with g1 g2
      subst g1; subst g2
      obtain ⟨a, b, c⟩ := ih n'
      exact ⟨by rw [a], b, c⟩
theorem Toks.cong {l : List UInt8} {i k : Nat} {ts : List (Nat × Tk)} {p c : Nat} (h : Toks l k ts p c) (e : nextV l i = nextV l k) : Toks l i ts p c := by
  cases h with
  | bad h => exact .bad (e.trans h)
  | fin h hk => exact .fin (e.trans h) hk
  | cons h hk n => exact .cons (e.trans h) hk n
/-- Each is a token at its place. -/
theorem Toks.mem {l : List UInt8} (hl : l.length ≤ 4096) {i : Nat} {ts : List (Nat × Tk)} {p c : Nat} (h : Toks l i ts p c) (hi : i ≤ l.length) : ∀ x ∈ ts, x.1 < l.length ∧ tokL (l.drop x.1) = .ok x.2 ∧ x.1 + x.2.len ≤ l.length ∧ 1 ≤ x.2.len ∧ i ≤ x.1 := by
  induction h with
  | bad => intro x hx; cases hx
  | fin => intro x hx; cases hx
  | cons h hk n ih =>
    rw [nextV_eq hl hi] at h
    obtain ⟨a, b, _, d⟩ := lexAt_ok hi h
    intro x hx
    rcases List.mem_cons.1 hx with rfl | hx
    · rcases d with ⟨_, d⟩ | ⟨d1, d2, d3, _⟩
      · rw [d] at hk; exact absurd rfl hk
      · exact ⟨d1, d2, b, d3, a⟩
    · obtain ⟨q1, q2, q3, q4, q5⟩ := ih b x hx
      exact ⟨q1, q2, q3, q4, by omega⟩
/-! ### two texts -/
/-- So many bytes further. -/
def shR (n : Nat) : Except (Nat × Nat) (Nat × Tk) → Except (Nat × Nat) (Nat × Tk)
  | .ok (j, t) => .ok (n + j, t)
  | .error (p, c) => .error (n + p, c)
def shT (n : Nat) (x : Nat × Tk) : Nat × Tk := (n + x.1, x.2)
theorem drop_app_add (p y : List UInt8) (i : Nat) : (p ++ y).drop (p.length + i) = y.drop i := by
  rw [List.drop_append, List.drop_of_length_le (by omega), List.nil_append, show p.length + i - p.length = i by omega]
theorem lexAt_app (p y : List UInt8) (i : Nat) : lexAt (p ++ y) (p.length + i) = shR p.length (lexAt y i) := by
  have hs : skipAt (p ++ y) (p.length + i) = upE p.length (skipAt y i) := by
    unfold skipAt
    rw [drop_app_add, upE_upE]
  unfold lexAt
  rw [hs]
  cases skipAt y i with
  | error e => rfl
  | ok j =>
    simp only [upE]
    by_cases g : j = y.length
    · rw [if_pos g, if_pos (by rw [List.length_append, g])]; rfl
    · rw [if_neg g, if_neg (by rw [List.length_append]; omega), drop_app_add]
      cases tokL (y.drop j) with
      | error e => obtain ⟨q, c⟩ := e; simp [shR, Nat.add_assoc]
      | ok t => rfl
theorem Toks.shift {y : List UInt8} (p : List UInt8) (hl : (p ++ y).length ≤ 4096) {i : Nat} {ts : List (Nat × Tk)} {q c : Nat} (h : Toks y i ts q c) (hi : i ≤ y.length) : Toks (p ++ y) (p.length + i) (ts.map (shT p.length)) (if c = 0 then 0 else p.length + q) c := by
  have hl2 : y.length ≤ 4096 := by rw [List.length_append] at hl; omega
  induction h with
  | @bad i q c h =>
    have h0 := h
    rw [nextV_eq hl2 hi] at h
    have hc : c ≠ 0 := by
      rintro rfl
      have := (lexAt_err hi h).2
      omega
    rw [if_neg hc]
    refine .bad ?_
    rw [nextV_eq hl (by rw [List.length_append]; omega), lexAt_app, h]
    rfl
  | @fin i j t h hk =>
    rw [nextV_eq hl2 hi] at h
    refine .fin (j := p.length + j) ?_ hk
    rw [nextV_eq hl (by rw [List.length_append]; omega), lexAt_app, h]
    rfl
  | cons h hk n ih =>
    rw [nextV_eq hl2 hi] at h
    obtain ⟨a, b, _, d⟩ := lexAt_ok hi h
    have := ih b
    rw [← Nat.add_assoc] at this
    refine .cons ?_ hk this
    rw [nextV_eq hl (by rw [List.length_append]; omega), lexAt_app, h]
    rfl
/-- What the tokens of a text come to, if a line's end and another text stand behind it. -/
theorem skipAt_app {a : List UInt8} (y : List UInt8) {i j : Nat} (hi : i ≤ a.length) (h : skipAt a i = .ok j) : (j < a.length → skipAt (a ++ 10 :: y) i = .ok j) ∧ (j = a.length → skipAt (a ++ 10 :: y) i = skipAt (a ++ 10 :: y) (a.length + 1)) := by
  unfold skipAt at h ⊢
  cases hq : skipL 0 (a.drop i) with
  | error p => rw [hq] at h; cases h
  | ok m =>
    rw [hq] at h
    injection h with h
    have hs := skip_app y _ _ _ (Nat.zero_le _) hq
    rw [List.length_drop] at hs
    rw [List.drop_append_of_le_length hi]
    refine ⟨fun hj => ?_, fun hj => ?_⟩
    · rw [hs.1 (by omega), ← h]; rfl
    · rw [hs.2.1 (by omega), upE_upE]
      have : (a ++ 10 :: y).drop (a.length + 1) = y := by
        rw [drop_app_add]; rfl
      rw [this, show i + (a.length - i + 1) = a.length + 1 by omega]
theorem lexAt_skip {l : List UInt8} {i k : Nat} (h : skipAt l i = skipAt l k) : lexAt l i = lexAt l k := by
  unfold lexAt
  rw [h]
theorem Toks.two {a b : List UInt8} (hl : (a ++ 10 :: b).length ≤ 4096) {i : Nat} {ts : List (Nat × Tk)} {p c : Nat} (h : Toks a i ts p c) (hi : i ≤ a.length) (hc : c ≠ 11)
    {us : List (Nat × Tk)} {q d : Nat} (g : Toks b 0 us q d) :
    if c = 0 then Toks (a ++ 10 :: b) i (ts ++ us.map (shT (a.length + 1))) (if d = 0 then 0 else a.length + 1 + q) d else Toks (a ++ 10 :: b) i ts p c := by
  have hla : a.length ≤ 4096 := by rw [List.length_append] at hl; omega
  have hlen : a.length ≤ (a ++ 10 :: b).length := by rw [List.length_append]; omega
  induction h with
  | @bad i p c h =>
    rw [nextV_eq hla hi] at h
    have hb := lexAt_err hi h
    rw [if_neg (by omega)]
    refine .bad ?_
    rw [nextV_eq hl (by omega)]
    unfold lexAt at h ⊢
    cases hs : skipAt a i with
    | error e => rw [hs] at h; injection h with h; injection h with h1 h2; exact absurd h2.symm hc
    | ok j =>
      rw [hs] at h
      simp only at h
      split at h
      · cases h
      · rename_i hj
        have hja : j < a.length := by
          unfold skipAt at hs
          cases hq : skipL 0 (a.drop i) with
          | error p => rw [hq] at hs; cases hs
          | ok m =>
            rw [hq] at hs
            injection hs with hs
            have := skip_le _ _ _ (by omega) hq
            rw [List.length_drop] at this
            omega
        rw [(skipAt_app b hi hs).1 hja]
        simp only
        rw [if_neg (by rw [List.length_append]; simp; omega), List.drop_append_of_le_length (by omega)]
        cases ht : tokL (a.drop j) with
        | ok t => rw [ht] at h; cases h
        | error e =>
          obtain ⟨p', c'⟩ := e
          rw [ht] at h
          injection h with h; injection h with h1 h2
          subst h2
          have hne : a.drop j ≠ [] := by
            intro hh
            have := congrArg List.length hh
            rw [List.length_drop] at this
            simp at this
            omega
          rw [tok_err b hne ht hc]
          simp only
          rw [h1]
  | @fin i j t h hk =>
    rw [nextV_eq hla hi] at h
    rw [if_pos rfl]
    obtain ⟨_, _, hs, e⟩ := lexAt_ok hi h
    rcases e with ⟨e, _⟩ | ⟨_, _, _, e⟩
    · have e2 := (skipAt_app b hi hs).2 e
      have hsh := Toks.shift (a ++ [10]) (y := b) (by simpa using hl) g (Nat.zero_le _)
      simp only [List.append_assoc, List.cons_append, List.nil_append, List.length_append, List.length_cons, List.length_nil, Nat.zero_add, Nat.add_zero] at hsh
      rw [List.nil_append]
      refine hsh.cong ?_
      rw [nextV_eq hl (by omega), nextV_eq hl (by simp)]
      exact lexAt_skip e2
    · exact absurd hk e
  | @cons i j t ts p c h hk n ih =>
    rw [nextV_eq hla hi] at h
    obtain ⟨h1, h2, hs, e⟩ := lexAt_ok hi h
    have IH := ih h2 hc
    have hh : nextV (a ++ 10 :: b) i = .ok (j, t) := by
      rw [nextV_eq hl (by omega)]
      rcases e with ⟨_, e⟩ | ⟨e1, e2, e3, _⟩
      · rw [e] at hk; exact absurd rfl hk
      · refine lexAt_of ((skipAt_app b hi hs).1 e1) (by omega) ?_
        rw [List.drop_append_of_le_length (by omega)]
        have hl := tok_len e2
        refine tok_local e2 (by rw [List.take_append_of_le_length hl.2.1]) ?_
        rw [List.drop_append_of_le_length hl.2.1]
        cases (a.drop j).drop t.len with
        | nil => exact .inr (.inl ⟨10, b, rfl, by decide⟩)
        | cons x y => exact .inr (.inr rfl)
    split
    · rename_i g0
      rw [if_pos g0] at IH
      exact .cons hh hk IH
    · rename_i g0
      rw [if_neg g0] at IH
      exact .cons hh hk IH
/-! ### a token's own bytes -/
theorem Toks.alone {x : List UInt8} {t : Tk} (hx : x.length ≤ 4096) (h : tokL x = .ok t) : Toks (x.take t.len) 0 [(0, t)] 0 0 := by
  have hl := tok_len h
  have hw : (x.take t.len).length = t.len := by rw [List.length_take]; omega
  have ht : tokL (x.take t.len) = .ok t := tok_local h (by rw [List.take_take, Nat.min_self]) (.inl (by rw [List.drop_eq_nil_iff]; omega))
  refine .cons ?_ hl.2.2 (.fin (j := t.len) (t := ⟨0, 0, false, .no⟩) ?_ rfl)
  · rw [nextV_eq (by omega) (by omega)]
    exact lexAt_of (skipAt_tok (by exact ht)) (by omega) ht
  · rw [Nat.zero_add, nextV_eq (by omega) (by omega)]
    have := lexAt_end (l := x.take t.len)
    rwa [hw] at this
/-- A comment of both kinds. -/
def tailB : List UInt8 := [32, 35, 124, 32, 59, 32, 124, 35, 32, 59]
theorem skip_tail : skipL 0 tailB = .ok 10 := by rfl
theorem Toks.tail {x : List UInt8} {t : Tk} (hx : t.len ≤ 4000) (h : tokL x = .ok t) : Toks (32 :: (x.take t.len ++ tailB)) 0 [(1, t)] 0 0 := by
  have hl := tok_len h
  have hw : (x.take t.len).length = t.len := by rw [List.length_take]; omega
  have hlen : (32 :: (x.take t.len ++ tailB)).length = t.len + 11 := by
    rw [List.length_cons, List.length_append, hw]
    rfl
  have hd : (32 :: (x.take t.len ++ tailB)).drop 1 = x.take t.len ++ tailB := rfl
  have ht : tokL (x.take t.len ++ tailB) = .ok t := by
    refine tok_local h ?_ ?_
    · rw [List.take_append_of_le_length (by omega), List.take_take, Nat.min_self]
    · have e0 : (x.take t.len).drop t.len = [] := List.drop_of_length_le (by omega)
      rw [List.drop_append_of_le_length (by omega), e0]
      exact .inr (.inl ⟨32, _, rfl, by decide⟩)
  have s1 : skipAt (32 :: (x.take t.len ++ tailB)) 0 = .ok 1 := by
    rw [skipAt_blank (by simp) (by simp; decide)]
    exact skipAt_tok (by rw [hd]; exact ht)
  refine .cons ?_ hl.2.2 (.fin (j := t.len + 11) (t := ⟨0, 0, false, .no⟩) ?_ rfl)
  · rw [nextV_eq (by omega) (by omega)]
    exact lexAt_of s1 (by omega) (by rw [hd]; exact ht)
  · rw [nextV_eq (by omega) (by omega)]
    have hd2 : (32 :: (x.take t.len ++ tailB)).drop (1 + t.len) = tailB := by
      rw [Nat.add_comm, List.drop_succ_cons, List.drop_append_of_le_length (by omega), List.drop_of_length_le (by omega)]
      rfl
    unfold lexAt skipAt
    rw [hd2, skip_tail]
    simp only [upE]
    rw [if_pos (by omega), show 1 + t.len + 10 = t.len + 11 by omega]
/-! ### tokens rise -/
/-- What LexRises asks of the tokens. -/
theorem Toks.rise {l : List UInt8} (hl : l.length ≤ 4096) {i j : Nat} {t : Tk} (hi : i ≤ l.length) (h : nextV l i = .ok (j, t)) (hk : t.kind ≠ 0) :
    i ≤ j ∧ j < j + t.len ∧ j + t.len ≤ l.length ∧ skipAt l i = .ok j ∧ nextV l j = .ok (j, t) := by
  rw [nextV_eq hl hi] at h
  obtain ⟨a, b, c, d⟩ := lexAt_ok hi h
  rcases d with ⟨_, d⟩ | ⟨d1, d2, d3, _⟩
  · rw [d] at hk; exact absurd rfl hk
  · refine ⟨a, by omega, b, c, ?_⟩
    rw [nextV_eq hl (by omega)]
    exact lexAt_of (skipAt_tok d2) d1 d2
theorem fin_skip {l : List UInt8} (hl : l.length ≤ 4096) {i j : Nat} {t : Tk} (hi : i ≤ l.length) (h : nextV l i = .ok (j, t)) (hk : t.kind = 0) : skipAt l i = .ok l.length := by
  rw [nextV_eq hl hi] at h
  obtain ⟨a, b, c, d⟩ := lexAt_ok hi h
  rcases d with ⟨d, _⟩ | ⟨_, _, _, d⟩
  · rw [c, d]
  · exact absurd hk d
end Go.Proofs.YtonnikipeokkaaaDoor
