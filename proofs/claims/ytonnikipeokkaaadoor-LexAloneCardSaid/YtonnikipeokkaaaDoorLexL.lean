/-
  The tokens of a text: plain Lean, no program in sight.
-/
import Derived.Lib.ValidLaws
import Derived.Test.YtonnikipeokkaaaDoorN2
namespace Go.Proofs.YtonnikipeokkaaaDoor
open Go.Lib

/-- The first place from a on where p does not hold; the text's length, if there is none. -/
def scan (p : UInt8 → Bool) (l : List UInt8) (a : Nat) : Nat := a + ((l.drop a).takeWhile p).length
theorem take_len (p : UInt8 → Bool) : ∀ (l : List UInt8) (n : Nat), n ≤ l.length → (∀ j, j < n → p (l.getD j 0) = true) → (n = l.length ∨ p (l.getD n 0) = false) → (l.takeWhile p).length = n
  | [], n, hn, _, _ => by simp at hn; simp [hn]
  | x :: l, 0, _, _, hs => by
    rcases hs with h | h
    · simp at h
    · have hx : p x = false := by simpa using h
      simp [hx]
  | x :: l, n + 1, hn, h, hs => by
    have hx : p x = true := by simpa using h 0 (by omega)
    have ih := take_len p l n (by simpa using hn) (fun j hj => by simpa using h (j + 1) (by omega)) (by
      rcases hs with e | e
      · exact .inl (by simpa using e)
      · exact .inr (by simpa using e))
    rw [List.takeWhile_cons, if_pos hx, List.length_cons, ih]
theorem getD_drop (l : List UInt8) (a j : Nat) : (l.drop a).getD j 0 = l.getD (a + j) 0 := by
  rw [List.getD_eq_getElem?_getD, List.getD_eq_getElem?_getD, List.getElem?_drop]
theorem drop_cons {l : List UInt8} {i : Nat} (h : i < l.length) : l.drop i = l.getD i 0 :: l.drop (i + 1) := by
  rw [List.drop_eq_getElem_cons h, List.getD_eq_getElem?_getD, List.getElem?_eq_getElem h]
  rfl
/-- A loop that stands at e has come there by bytes that p lets pass, and stops there: so e is the scan's place. -/
theorem scan_eq {p : UInt8 → Bool} {l : List UInt8} {a e : Nat} (hae : a ≤ e) (hel : e ≤ l.length) (h : ∀ j, a ≤ j → j < e → p (l.getD j 0) = true) (hs : e = l.length ∨ p (l.getD e 0) = false) : scan p l a = e := by
  unfold scan
  rw [take_len p (l.drop a) (e - a) (by rw [List.length_drop]; omega) (fun j hj => by rw [getD_drop]; exact h (a + j) (by omega) (by omega)) (by
    rcases hs with e1 | e1
    · exact .inl (by rw [List.length_drop]; omega)
    · exact .inr (by rw [getD_drop, show a + (e - a) = e from by omega]; exact e1))]
  omega
theorem scan_next {p : UInt8 → Bool} {l : List UInt8} {a : Nat} (h : a < l.length) (hp : p (l.getD a 0) = true) : scan p l (a + 1) = scan p l a := by
  unfold scan
  rw [drop_cons h, List.takeWhile_cons, if_pos hp, List.length_cons]
  omega
theorem scan_stop {p : UInt8 → Bool} {l : List UInt8} {a : Nat} (h : a < l.length) (hp : p (l.getD a 0) = false) : scan p l a = a := by
  unfold scan
  rw [drop_cons h, List.takeWhile_cons, if_neg (by rw [hp]; decide)]
  rfl
theorem scan_end {p : UInt8 → Bool} {l : List UInt8} {a : Nat} (h : l.length ≤ a) : scan p l a = a := by
  unfold scan
  rw [List.drop_of_length_le h]
  rfl
theorem scan_le (p : UInt8 → Bool) {l : List UInt8} {a : Nat} (h : a ≤ l.length) : scan p l a ≤ l.length := by
  unfold scan
  have := (List.takeWhile_sublist p (l := l.drop a)).length_le
  rw [List.length_drop] at this
  omega
theorem le_scan (p : UInt8 → Bool) (l : List UInt8) (a : Nat) : a ≤ scan p l a := Nat.le_add_right _ _
/-- The bytes that are blanks; those at which a token ends. -/
def blankB (b : UInt8) : Bool := b == 9 || b == 10 || b == 12 || b == 13 || b == 32
def delimB (b : UInt8) : Bool := blankB b || [40, 41, 91, 93, 34, 59, 39, 96, 44].contains b
/-- Behind the end of a comment of depth deep, from here on: how many bytes; none: it does not end. -/
def comB : Nat → List UInt8 → Option Nat
  | deep, a :: b :: t =>
    if a = 35 ∧ b = 124 then (comB (deep + 1) t).map (· + 2)
    else if a = 124 ∧ b = 35 then (if deep ≤ 1 then some 2 else (comB (deep - 1) t).map (· + 2))
    else (comB deep (b :: t)).map (· + 1)
  | _, _ => none
theorem comB_le : ∀ (l : List UInt8) (deep n : Nat), comB deep l = some n → 2 ≤ n ∧ n ≤ l.length := by
  intro l
  induction hl : l.length using Nat.strongRecOn generalizing l with
  | _ k ih =>
    intro deep n h
    match l, hl with
    | [], _ => simp [comB] at h
    | [x], _ => simp [comB] at h
    | a :: b :: t, hl =>
      simp only [List.length_cons] at hl
      rw [comB] at h
      split at h
      · cases hc : comB (deep + 1) t with
        | none => rw [hc] at h; simp at h
        | some m =>
          rw [hc] at h
          have := ih t.length (by omega) t rfl (deep + 1) m hc
          simp at h
          omega
      · split at h
        · split at h
          · simp at h; omega
          · cases hc : comB (deep - 1) t with
            | none => rw [hc] at h; simp at h
            | some m =>
              rw [hc] at h
              have := ih t.length (by omega) t rfl (deep - 1) m hc
              simp at h
              omega
        · cases hc : comB deep (b :: t) with
          | none => rw [hc] at h; simp at h
          | some m =>
            rw [hc] at h
            have := ih (b :: t).length (by simp only [List.length_cons]; omega) (b :: t) rfl deep m hc
            simp at h
            simp only [List.length_cons] at this
            omega
/-- What a comment's end does not hang on: what stands behind it. -/
theorem comB_app : ∀ (l y : List UInt8) (deep n : Nat), comB deep l = some n → comB deep (l ++ y) = some n := by
  intro l
  induction hl : l.length using Nat.strongRecOn generalizing l with
  | _ k ih =>
    intro y deep n h
    match l, hl with
    | [], _ => simp [comB] at h
    | [x], _ => simp [comB] at h
    | a :: b :: t, hl =>
      simp only [List.length_cons] at hl
      rw [comB] at h
      rw [List.cons_append, List.cons_append, comB]
      split at h
      · rename_i hc
        rw [if_pos hc]
        cases hm : comB (deep + 1) t with
        | none => rw [hm] at h; simp at h
        | some m => rw [hm] at h; rw [ih t.length (by omega) t rfl y _ m hm]; exact h
      · rename_i hc
        rw [if_neg hc]
        split at h
        · rename_i hd
          rw [if_pos hd]
          split at h
          · rename_i he; rw [if_pos he]; exact h
          · rename_i he
            rw [if_neg he]
            cases hm : comB (deep - 1) t with
            | none => rw [hm] at h; simp at h
            | some m => rw [hm] at h; rw [ih t.length (by omega) t rfl y _ m hm]; exact h
        · rename_i hd
          rw [if_neg hd]
          cases hm : comB deep (b :: t) with
          | none => rw [hm] at h; simp at h
          | some m => rw [hm] at h; rw [← List.cons_append, ih (b :: t).length (by simp only [List.length_cons]; omega) (b :: t) rfl y _ m hm]; exact h
/-- Behind blanks and comments: how many bytes; or how many ahead of a comment that does not end. The first number: so many bytes are passed by. -/
def skipL : Nat → List UInt8 → Except Nat Nat
  | _, [] => .ok 0
  | n + 1, _ :: t => match skipL n t with | .ok m => .ok (m + 1) | .error m => .error (m + 1)
  | 0, c :: t =>
    if blankB c = true then (match skipL 0 t with | .ok m => .ok (m + 1) | .error m => .error (m + 1))
    else if c = 59 then (match skipL (t.takeWhile (fun b => b != 10)).length t with | .ok m => .ok (m + 1) | .error m => .error (m + 1))
    else if c = 35 ∧ t.head? = some 124 then
      match comB 1 (t.drop 1) with
      | none => .error 0
      | some k => (match skipL (1 + k) t with | .ok m => .ok (m + 1) | .error m => .error (m + 1))
    else .ok 0
/-- A place that is so many bytes further. -/
def upE (n : Nat) : Except Nat Nat → Except Nat Nat
  | .ok m => .ok (n + m)
  | .error m => .error (n + m)
theorem upE_zero (r : Except Nat Nat) : upE 0 r = r := by cases r <;> simp [upE]
theorem upE_upE (a b : Nat) (r : Except Nat Nat) : upE a (upE b r) = upE (a + b) r := by cases r <;> simp [upE, Nat.add_assoc]
theorem skipL_pass : ∀ (n : Nat) (l : List UInt8), n ≤ l.length → skipL n l = upE n (skipL 0 (l.drop n))
  | 0, l, _ => by rw [upE_zero]; rfl
  | n + 1, [], h => by simp at h
  | n + 1, c :: t, h => by
    rw [List.drop_succ_cons, skipL, skipL_pass n t (by simpa using h)]
    cases skipL 0 (t.drop n) <;> simp [upE] <;> omega
/-- Behind blanks and comments, from a place on. -/
def skipAt (l : List UInt8) (i : Nat) : Except Nat Nat := upE i (skipL 0 (l.drop i))
theorem skipAt_end {l : List UInt8} : skipAt l l.length = .ok l.length := by
  unfold skipAt; rw [List.drop_length]; rfl
theorem skipAt_blank {l : List UInt8} {i : Nat} (h : i < l.length) (h1 : blankB (l.getD i 0) = true) : skipAt l i = skipAt l (i + 1) := by
  unfold skipAt
  rw [drop_cons h, skipL, if_pos h1]
  cases skipL 0 (l.drop (i + 1)) <;> simp [upE] <;> omega
theorem blank_59 : blankB 59 = false := by decide
theorem blank_35 : blankB 35 = false := by decide
theorem skipAt_line {l : List UInt8} {i : Nat} (h : i < l.length) (h1 : l.getD i 0 = 59) : skipAt l i = skipAt l (scan (fun b => b != 10) l i) := by
  have e : scan (fun b => b != 10) l i = i + 1 + ((l.drop (i + 1)).takeWhile (fun b => b != 10)).length := by
    rw [← scan_next h (by rw [h1]; decide)]; rfl
  unfold skipAt
  rw [e, drop_cons h, skipL, h1, blank_59, if_neg (by decide), if_pos rfl, skipL_pass _ _ (List.takeWhile_sublist _).length_le, List.drop_drop]
  cases skipL 0 (l.drop (i + 1 + ((l.drop (i + 1)).takeWhile (fun b => b != 10)).length)) <;> simp [upE] <;> omega
theorem head_drop (l : List UInt8) (i : Nat) (x : UInt8) : (l.drop i).head? = some x ↔ i < l.length ∧ l.getD i 0 = x := by
  by_cases h : i < l.length
  · rw [drop_cons h]; simp [h]
  · rw [List.drop_of_length_le (by omega)]; simp [h]
theorem skipAt_com {l : List UInt8} {i k : Nat} (h : i + 1 < l.length) (h1 : l.getD i 0 = 35) (h2 : l.getD (i + 1) 0 = 124) (hc : comB 1 (l.drop (i + 2)) = some k) : skipAt l i = skipAt l (i + 2 + k) := by
  have hk := comB_le _ _ _ hc
  rw [List.length_drop] at hk
  unfold skipAt
  rw [drop_cons (show i < l.length by omega), skipL, h1, blank_35, if_neg (by decide), if_neg (by decide), if_pos ⟨rfl, (head_drop _ _ _).2 ⟨h, h2⟩⟩, List.drop_drop, show i + 1 + 1 = i + 2 from rfl, hc]
  simp only
  rw [skipL_pass _ _ (by rw [List.length_drop]; omega), List.drop_drop, show i + 1 + (1 + k) = i + 2 + k by omega]
  cases skipL 0 (l.drop (i + 2 + k)) <;> simp [upE] <;> omega
theorem skipAt_open {l : List UInt8} {i : Nat} (h : i + 1 < l.length) (h1 : l.getD i 0 = 35) (h2 : l.getD (i + 1) 0 = 124) (hc : comB 1 (l.drop (i + 2)) = none) : skipAt l i = .error i := by
  unfold skipAt
  rw [drop_cons (show i < l.length by omega), skipL, h1, blank_35, if_neg (by decide), if_neg (by decide), if_pos ⟨rfl, (head_drop _ _ _).2 ⟨h, h2⟩⟩, List.drop_drop, show i + 1 + 1 = i + 2 from rfl, hc]
  rfl
theorem skipAt_stop {l : List UInt8} {i : Nat} (h : i < l.length) (h1 : blankB (l.getD i 0) = false) (h2 : l.getD i 0 ≠ 59) (h3 : ¬ (i + 1 < l.length ∧ l.getD i 0 = 35 ∧ l.getD (i + 1) 0 = 124)) : skipAt l i = .ok i := by
  unfold skipAt
  rw [drop_cons h, skipL, h1, if_neg (by decide), if_neg h2, if_neg (by rintro ⟨a, b⟩; obtain ⟨c, d⟩ := (head_drop _ _ _).1 b; exact h3 ⟨c, a, d⟩)]
  rfl
/-- A digit to the base 16. -/
def hexV (b : UInt8) : Option Nat :=
  if 48 ≤ b.toNat ∧ b.toNat ≤ 57 then some (b.toNat - 48)
  else if 97 ≤ b.toNat ∧ b.toNat ≤ 102 then some (b.toNat - 87)
  else if 65 ≤ b.toNat ∧ b.toNat ≤ 70 then some (b.toNat - 55) else none
/-- May a number be a char? -/
def charB (n : Nat) : Bool := decide (n < 0xD800 ∨ 0xE000 ≤ n ∧ n ≤ 0x10FFFF)
/-- The value of digits to the base 16, all of which are such. -/
def hexN : List UInt8 → Nat → Option Nat
  | [], n => some n
  | b :: t, n => match hexV b with
    | none => none
    | some v => hexN t (n * 16 + v)
/-- One to six digits as a char. -/
def hexC (l : List UInt8) : Option Nat :=
  if l.length < 1 ∨ 6 < l.length then none else
  match hexN l 0 with
  | none => none
  | some n => if charB n then some n else none
/-- A char as bytes. -/
def utfB (c : Nat) : List UInt8 :=
  if c < 0x80 then [UInt8.ofNat c]
  else if c < 0x800 then [UInt8.ofNat (0xC0 + c / 64), UInt8.ofNat (0x80 + c % 64)]
  else if c < 0x10000 then [UInt8.ofNat (0xE0 + c / 4096), UInt8.ofNat (0x80 + c / 64 % 64), UInt8.ofNat (0x80 + c % 64)]
  else [UInt8.ofNat (0xF0 + c / 262144), UInt8.ofNat (0x80 + c / 4096 % 64), UInt8.ofNat (0x80 + c / 64 % 64), UInt8.ofNat (0x80 + c % 64)]
theorem hexV_lt {b : UInt8} {v : Nat} (h : hexV b = some v) : v < 16 := by
  unfold hexV at h
  split at h
  · injection h; omega
  · split at h
    · injection h; omega
    · split at h
      · injection h; omega
      · cases h
theorem hexN_lt : ∀ (l : List UInt8) (n m k : Nat), n < 16 ^ k → hexN l n = some m → m < 16 ^ (k + l.length)
  | [], n, m, k, hn, h => by
    injection h with h
    rw [← h]; simpa using hn
  | b :: t, n, m, k, hn, h => by
    unfold hexN at h
    cases hv : hexV b with
    | none => rw [hv] at h; cases h
    | some v =>
      rw [hv] at h
      have hv2 := hexV_lt hv
      have := hexN_lt t (n * 16 + v) m (k + 1) (by rw [Nat.pow_succ]; omega) h
      rw [List.length_cons, show k + (t.length + 1) = k + 1 + t.length from by omega]
      exact this
/-- What an escape comes to: the text ends in it; it is none; bytes, and how many it takes. -/
inductive EscR where
  | open_
  | bad
  | ok (out : List UInt8) (n : Nat)
/-- Where a semicolon stands. -/
def semi (u : List UInt8) : Option Nat := if (u.takeWhile (fun b => b != 59)).length < u.length then some (u.takeWhile (fun b => b != 59)).length else none
/-- What stands behind a backslash. -/
def escL (by_ : UInt8) : List UInt8 → EscR
  | [] => .open_
  | d :: u =>
    if d = 92 ∨ d = 34 then .ok [d] 1
    else if d = 110 then .ok [10] 1
    else if d = 116 then .ok [9] 1
    else if d = 114 then .ok [13] 1
    else if d = 120 then
      match semi u with
      | none => .bad
      | some k => match hexC (u.take k) with
        | none => .bad
        | some r => .ok (utfB r) (k + 2)
    else if d = 124 ∧ by_ = 124 then .ok [124] 1
    else .bad
/-- What a text between two bytes comes to: it does not end; a bad escape, and where; its bytes, and behind how many it ends. -/
inductive QuoR where
  | open_
  | bad (i : Nat)
  | ok (out : List UInt8) (n : Nat)
def QuoR.up (out : List UInt8) (k : Nat) : QuoR → QuoR
  | .open_ => .open_
  | .bad i => .bad (k + i)
  | .ok o n => .ok (out ++ o) (k + n)
theorem QuoR.up_up (a b : List UInt8) (j k : Nat) (r : QuoR) : (r.up b k).up a j = r.up (a ++ b) (j + k) := by
  cases r <;> simp [QuoR.up, Nat.add_assoc]
theorem QuoR.up_zero (r : QuoR) : r.up [] 0 = r := by cases r <;> simp [QuoR.up]
def quoL (by_ : UInt8) : Nat → List UInt8 → QuoR
  | _, [] => .open_
  | n + 1, _ :: t => (quoL by_ n t).up [] 1
  | 0, c :: t =>
    if c = by_ then .ok [] 1
    else if c ≠ 92 then (quoL by_ 0 t).up [c] 1
    else match escL by_ t with
      | .open_ => .open_
      | .bad => .bad 0
      | .ok out m => (quoL by_ m t).up out 1
theorem quoL_pass (by_ : UInt8) : ∀ (n : Nat) (l : List UInt8), n ≤ l.length → quoL by_ n l = (quoL by_ 0 (l.drop n)).up [] n
  | 0, l, _ => by rw [QuoR.up_zero]; rfl
  | n + 1, [], h => by simp at h
  | n + 1, c :: t, h => by
    rw [List.drop_succ_cons, quoL, quoL_pass by_ n t (by simpa using h), QuoR.up_up, List.nil_append, Nat.add_comm]
theorem semi_le {u : List UInt8} {k : Nat} (h : semi u = some k) : k < u.length := by
  unfold semi at h
  split at h
  · injection h; omega
  · cases h
theorem escL_le {by_ : UInt8} {l out : List UInt8} {n : Nat} (h : escL by_ l = .ok out n) : 1 ≤ n ∧ n ≤ l.length := by
  cases l with
  | nil => cases h
  | cons d u =>
    rw [escL] at h
    rw [List.length_cons]
    split at h
    · injection h; omega
    split at h
    · injection h; omega
    split at h
    · injection h; omega
    split at h
    · injection h; omega
    split at h
    · split at h
      · cases h
      · rename_i k hk
        have := semi_le hk
        split at h
        · cases h
        · injection h; omega
    split at h
    · injection h; omega
    · cases h
/-- The text between two bytes, from a place on. -/
def quoAt (by_ : UInt8) (l : List UInt8) (i : Nat) (out : List UInt8) : QuoR := (quoL by_ 0 (l.drop i)).up out i
theorem quoAt_end (by_ : UInt8) (l out : List UInt8) : quoAt by_ l l.length out = .open_ := by
  unfold quoAt; rw [List.drop_length]; rfl
theorem quoAt_close {by_ : UInt8} {l out : List UInt8} {i : Nat} (h : i < l.length) (h1 : l.getD i 0 = by_) : quoAt by_ l i out = .ok out (i + 1) := by
  unfold quoAt
  rw [drop_cons h, quoL, if_pos h1]
  simp [QuoR.up]
theorem quoAt_plain {by_ : UInt8} {l out : List UInt8} {i : Nat} (h : i < l.length) (h1 : l.getD i 0 ≠ by_) (h2 : l.getD i 0 ≠ 92) : quoAt by_ l i out = quoAt by_ l (i + 1) (out ++ [l.getD i 0]) := by
  unfold quoAt
  rw [drop_cons h, quoL, if_neg h1, if_pos h2, QuoR.up_up]
theorem quoAt_open {by_ : UInt8} {l out : List UInt8} {i : Nat} (h : i < l.length) (h1 : l.getD i 0 ≠ by_) (h2 : l.getD i 0 = 92) (h3 : escL by_ (l.drop (i + 1)) = .open_) : quoAt by_ l i out = .open_ := by
  unfold quoAt
  rw [drop_cons h, quoL, if_neg h1, if_neg (by simp only [h2, ne_eq, not_true_eq_false, not_false_eq_true]), h3]
  rfl
theorem quoAt_bad {by_ : UInt8} {l out : List UInt8} {i : Nat} (h : i < l.length) (h1 : l.getD i 0 ≠ by_) (h2 : l.getD i 0 = 92) (h3 : escL by_ (l.drop (i + 1)) = .bad) : quoAt by_ l i out = .bad i := by
  unfold quoAt
  rw [drop_cons h, quoL, if_neg h1, if_neg (by simp only [h2, ne_eq, not_true_eq_false, not_false_eq_true]), h3]
  rfl
theorem quoAt_esc {by_ : UInt8} {l out o : List UInt8} {i n : Nat} (h : i < l.length) (h1 : l.getD i 0 ≠ by_) (h2 : l.getD i 0 = 92) (h3 : escL by_ (l.drop (i + 1)) = .ok o n) : quoAt by_ l i out = quoAt by_ l (i + 1 + n) (out ++ o) := by
  unfold quoAt
  rw [drop_cons h, quoL, if_neg h1, if_neg (by simp only [h2, ne_eq, not_true_eq_false, not_false_eq_true]), h3]
  simp only
  rw [quoL_pass _ _ _ (escL_le h3).2, QuoR.up_up, QuoR.up_up, List.drop_drop, List.append_nil, Nat.add_assoc]
/-- The chars of a text, if it is one. -/
def runesGo : Nat → List UInt8 → Option (List Nat)
  | 0, _ => some []
  | f + 1, l => if l = [] then some [] else if (decodeL l).1 = 65533 ∧ (decodeL l).2 = 1 then none else (runesGo f (l.drop (decodeL l).2)).map ((decodeL l).1 :: ·)
def runesL (l : List UInt8) : Option (List Nat) := runesGo l.length l
/-- What a token's datum may be. -/
inductive Leaf where
  | no
  | tru
  | fls
  | chr (c : Nat)
  | int (x : Int)
  | str (t : List UInt8)
  | sym (t : List UInt8)
/-- A token, but for its place. -/
structure Tk where
  kind : Nat
  len : Nat
  sq : Bool
  d : Leaf
/-- A string, or a symbol, that may be; or the error's number. -/
def textL (sym : Bool) (t : List UInt8) : Except Nat Leaf :=
  match runesL t with
  | none => .error 9
  | some r => if sym = true ∧ t = [] then .error 9 else if 62 < r.length then .error 6 else .ok (if sym then .sym t else .str t)
/-- The char of a name. -/
def namedL (t : List UInt8) : Option Nat :=
  if t = [110, 117, 108] then some 0
  else if t = [97, 108, 97, 114, 109] then some 7
  else if t = [98, 97, 99, 107, 115, 112, 97, 99, 101] then some 8
  else if t = [116, 97, 98] then some 9
  else if t = [110, 101, 119, 108, 105, 110, 101] then some 10
  else if t = [114, 101, 116, 117, 114, 110] then some 13
  else if t = [101, 115, 99, 97, 112, 101] then some 27
  else if t = [115, 112, 97, 99, 101] then some 32
  else if t = [100, 101, 108, 101, 116, 101] then some 127
  else none
/-- What stands behind #\ : the char, and how many bytes; or the error's number. -/
def charL (t : List UInt8) : Except Nat (Nat × Nat) :=
  if t = [] then .error 11
  else if (decodeL t).1 = 65533 ∧ (decodeL t).2 = 1 then .error 9
  else
    let n := (decodeL t).2
    let m := ((t.drop n).takeWhile (fun b => !delimB b)).length
    if m = 0 then .ok ((decodeL t).1, n)
    else match namedL (t.take (n + m)) with
      | some v => .ok (v, n + m)
      | none => if (decodeL t).1 = 120 then
          (match hexC ((t.drop n).take m) with
          | some r => .ok (r, n + m)
          | none => .error 9)
        else .error 9
/-- The bytes of a word. -/
def wordB (b : UInt8) : Bool := !delimB b && b != 124
/-- What a word is: a token's kind and its datum; or the error's number. -/
def wordV (w : List UInt8) : Except Nat (Nat × Leaf) :=
  if w = [46] then .ok (8, .no)
  else if w = [35, 116] ∨ w = [35, 116, 114, 117, 101] then .ok (9, .tru)
  else if w = [35, 102] ∨ w = [35, 102, 97, 108, 115, 101] then .ok (9, .fls)
  else if w.head? = some 35 then .error 9
  else match parseV w with
    | some x => if (limbs x.natAbs).length ≤ 48 then .ok (9, .int x) else .error 6
    | none => match textL true w with
      | .ok d => .ok (9, d)
      | .error c => .error c
/-- The token that begins here; or, how far from here, an error. -/
def tokL : List UInt8 → Except (Nat × Nat) Tk
  | [] => .error (0, 9)
  | c :: t =>
    if c = 40 ∨ c = 91 then .ok ⟨1, 1, c == 91, .no⟩
    else if c = 41 ∨ c = 93 then .ok ⟨2, 1, c == 93, .no⟩
    else if c = 39 then .ok ⟨4, 1, false, .no⟩
    else if c = 96 then .ok ⟨5, 1, false, .no⟩
    else if c = 44 then (if t.head? = some 64 then .ok ⟨7, 2, false, .no⟩ else .ok ⟨6, 1, false, .no⟩)
    else if c = 34 ∨ c = 124 then
      match quoL c 0 t with
      | .open_ => .error (0, 11)
      | .bad i => .error (1 + i, 9)
      | .ok out n => match textL (c == 124) out with
        | .ok d => .ok ⟨9, 1 + n, false, d⟩
        | .error e => .error (0, e)
    else if c = 35 ∧ t.head? = some 40 then .ok ⟨3, 2, false, .no⟩
    else if c = 35 ∧ t.head? = some 92 then
      match charL (t.drop 1) with
      | .ok (v, n) => .ok ⟨9, 2 + n, false, .chr v⟩
      | .error e => .error (0, e)
    else match wordV ((c :: t).takeWhile wordB) with
      | .ok (k, d) => .ok ⟨k, ((c :: t).takeWhile wordB).length, false, d⟩
      | .error e => .error (0, e)
/-- The token at a place, or behind it: where it begins, and which; or where an error is, and its number. -/
def lexAt (l : List UInt8) (i : Nat) : Except (Nat × Nat) (Nat × Tk) :=
  match skipAt l i with
  | .error p => .error (p, 11)
  | .ok j => if j = l.length then .ok (j, ⟨0, 0, false, .no⟩) else
    match tokL (l.drop j) with
    | .error (p, c) => .error (j + p, c)
    | .ok t => .ok (j, t)
end Go.Proofs.YtonnikipeokkaaaDoor
