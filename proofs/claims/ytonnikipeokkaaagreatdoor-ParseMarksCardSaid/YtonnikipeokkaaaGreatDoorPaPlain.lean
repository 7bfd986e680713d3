/-
  The tokens of a text: plain Lean, no program in sight.
  What a token hangs on: its own bytes, and where it ends. Plain Lean.
  All tokens of a text, one behind the other; of two texts; of a token's own bytes. Plain Lean.
  Data of a text: as the document reads them (calls that call themselves), and as a machine with what is open. Plain Lean, no program in sight.
  Data of two texts; deeper within; marks and brackets. Plain Lean.
-/
import Derived.Lib.ValidLaws
import Derived.Test.YtonnikipeokkaaaGreatDoorN2
namespace Go.Proofs.YtonnikipeokkaaaGreatDoor
open Go.Lib

/-- The first place from a on where p does not hold; the text's length, if there is none. -/
def scan (p : UInt8 → Bool) (l : List UInt8) (a : Nat) : Nat := a + ((l.drop a).takeWhile p).length
theorem getD_drop (l : List UInt8) (a j : Nat) : (l.drop a).getD j 0 = l.getD (a + j) 0 := by
  rw [List.getD_eq_getElem?_getD, List.getD_eq_getElem?_getD, List.getElem?_drop]
theorem drop_cons {l : List UInt8} {i : Nat} (h : i < l.length) : l.drop i = l.getD i 0 :: l.drop (i + 1) := by
  rw [List.drop_eq_getElem_cons h, List.getD_eq_getElem?_getD, List.getElem?_eq_getElem h]
  rfl
theorem scan_next {p : UInt8 → Bool} {l : List UInt8} {a : Nat} (h : a < l.length) (hp : p (l.getD a 0) = true) : scan p l (a + 1) = scan p l a := by
  unfold scan
  rw [drop_cons h, List.takeWhile_cons, if_pos hp, List.length_cons]
  omega
theorem scan_stop {p : UInt8 → Bool} {l : List UInt8} {a : Nat} (h : a < l.length) (hp : p (l.getD a 0) = false) : scan p l a = a := by
  unfold scan
  rw [drop_cons h, List.takeWhile_cons, if_neg (by rw [hp]; decide)]
  rfl
theorem scan_end {p : UInt8 → Bool} {l : List UInt8} {a : Nat} (h : l.length ≤ a) : scan p l a = a := by
  unfold scan
  rw [List.drop_of_length_le h]
  rfl
theorem scan_le (p : UInt8 → Bool) {l : List UInt8} {a : Nat} (h : a ≤ l.length) : scan p l a ≤ l.length := by
  unfold scan
  have := (List.takeWhile_sublist p (l := l.drop a)).length_le
  rw [List.length_drop] at this
  omega
theorem le_scan (p : UInt8 → Bool) (l : List UInt8) (a : Nat) : a ≤ scan p l a := Nat.le_add_right _ _
/-- The bytes that are blanks; those at which a token ends. -/
def blankB (b : UInt8) : Bool := b == 9 || b == 10 || b == 12 || b == 13 || b == 32
def delimB (b : UInt8) : Bool := blankB b || [40, 41, 91, 93, 34, 59, 39, 96, 44].contains b
/-- Behind the end of a comment of depth deep, from here on: how many bytes; none: it does not end. -/
def comB : Nat → List UInt8 → Option Nat
  | deep, a :: b :: t =>
    if a = 35 ∧ b = 124 then (comB (deep + 1) t).map (· + 2)
    else if a = 124 ∧ b = 35 then (if deep ≤ 1 then some 2 else (comB (deep - 1) t).map (· + 2))
    else (comB deep (b :: t)).map (· + 1)
  | _, _ => none
theorem comB_le : ∀ (l : List UInt8) (deep n : Nat), comB deep l = some n → 2 ≤ n ∧ n ≤ l.length := by
  intro l
  induction hl : l.length using Nat.strongRecOn generalizing l with
  | _ k ih =>
    intro deep n h
    match l, hl with
    | [], _ => simp [comB] at h
    | [x], _ => simp [comB] at h
    | a :: b :: t, hl =>
      simp only [List.length_cons] at hl
      rw [comB] at h
      split at h
      · cases hc : comB (deep + 1) t with
        | none => rw [hc] at h; simp at h
        | some m =>
          rw [hc] at h
          have := ih t.length (by omega) t rfl (deep + 1) m hc
          simp at h
          omega
      · split at h
        · split at h
          · simp at h; omega
          · cases hc : comB (deep - 1) t with
            | none => rw [hc] at h; simp at h
            | some m =>
              rw [hc] at h
              have := ih t.length (by omega) t rfl (deep - 1) m hc
              simp at h
              omega
        · cases hc : comB deep (b :: t) with
          | none => rw [hc] at h; simp at h
          | some m =>
            rw [hc] at h
            have := ih (b :: t).length (by simp only [List.length_cons]; omega) (b :: t) rfl deep m hc
            simp at h
            simp only [List.length_cons] at this
            omega
/-- What a comment's end does not hang on: what stands behind it. -/
theorem comB_app : ∀ (l y : List UInt8) (deep n : Nat), comB deep l = some n → comB deep (l ++ y) = some n := by
  intro l
  induction hl : l.length using Nat.strongRecOn generalizing l with
  | _ k ih =>
    intro y deep n h
    match l, hl with
    | [], _ => simp [comB] at h
    | [x], _ => simp [comB] at h
    | a :: b :: t, hl =>
      simp only [List.length_cons] at hl
      rw [comB] at h
      rw [List.cons_append, List.cons_append, comB]
      split at h
      · rename_i hc
        rw [if_pos hc]
        cases hm : comB (deep + 1) t with
        | none => rw [hm] at h; simp at h
        | some m => rw [hm] at h; rw [ih t.length (by omega) t rfl y _ m hm]; exact h
      · rename_i hc
        rw [if_neg hc]
        split at h
        · rename_i hd
          rw [if_pos hd]
          split at h
          · rename_i he; rw [if_pos he]; exact h
          · rename_i he
            rw [if_neg he]
            cases hm : comB (deep - 1) t with
            | none => rw [hm] at h; simp at h
            | some m => rw [hm] at h; rw [ih t.length (by omega) t rfl y _ m hm]; exact h
        · rename_i hd
          rw [if_neg hd]
          cases hm : comB deep (b :: t) with
          | none => rw [hm] at h; simp at h
          | some m => rw [hm] at h; rw [← List.cons_append, ih (b :: t).length (by simp only [List.length_cons]; omega) (b :: t) rfl y _ m hm]; exact h
/-- Behind blanks and comments: how many bytes; or how many ahead of a comment that does not end. The first number: so many bytes are passed by. -/
def skipL : Nat → List UInt8 → Except Nat Nat
  | _, [] => .ok 0
  | n + 1, _ :: t => match skipL n t with | .ok m => .ok (m + 1) | .error m => .error (m + 1)
  | 0, c :: t =>
    if blankB c = true then (match skipL 0 t with | .ok m => .ok (m + 1) | .error m => .error (m + 1))
    else if c = 59 then (match skipL (t.takeWhile (fun b => b != 10)).length t with | .ok m => .ok (m + 1) | .error m => .error (m + 1))
    else if c = 35 ∧ t.head? = some 124 then
      match comB 1 (t.drop 1) with
      | none => .error 0
      | some k => (match skipL (1 + k) t with | .ok m => .ok (m + 1) | .error m => .error (m + 1))
    else .ok 0
/-- A place that is so many bytes further. -/
def upE (n : Nat) : Except Nat Nat → Except Nat Nat
  | .ok m => .ok (n + m)
  | .error m => .error (n + m)
theorem upE_zero (r : Except Nat Nat) : upE 0 r = r := by cases r <;> simp [upE]
theorem upE_upE (a b : Nat) (r : Except Nat Nat) : upE a (upE b r) = upE (a + b) r := by cases r <;> simp [upE, Nat.add_assoc]
theorem skipL_pass : ∀ (n : Nat) (l : List UInt8), n ≤ l.length → skipL n l = upE n (skipL 0 (l.drop n))
  | 0, l, _ => by rw [upE_zero]; rfl
  | n + 1, [], h => by simp at h
  | n + 1, c :: t, h => by
    rw [List.drop_succ_cons, skipL, skipL_pass n t (by simpa using h)]
    cases skipL 0 (t.drop n) <;> simp [upE] <;> omega
/-- Behind blanks and comments, from a place on. -/
def skipAt (l : List UInt8) (i : Nat) : Except Nat Nat := upE i (skipL 0 (l.drop i))
theorem skipAt_end {l : List UInt8} : skipAt l l.length = .ok l.length := by
  unfold skipAt; rw [List.drop_length]; rfl
theorem skipAt_blank {l : List UInt8} {i : Nat} (h : i < l.length) (h1 : blankB (l.getD i 0) = true) : skipAt l i = skipAt l (i + 1) := by
  unfold skipAt
  rw [drop_cons h, skipL, if_pos h1]
  cases skipL 0 (l.drop (i + 1)) <;> simp [upE] <;> omega
theorem blank_59 : blankB 59 = false := by decide
theorem blank_35 : blankB 35 = false := by decide
theorem skipAt_line {l : List UInt8} {i : Nat} (h : i < l.length) (h1 : l.getD i 0 = 59) : skipAt l i = skipAt l (scan (fun b => b != 10) l i) := by
  have e : scan (fun b => b != 10) l i = i + 1 + ((l.drop (i + 1)).takeWhile (fun b => b != 10)).length := by
    rw [← scan_next h (by rw [h1]; decide)]; rfl
  unfold skipAt
  rw [e, drop_cons h, skipL, h1, blank_59, if_neg (by decide), if_pos rfl, skipL_pass _ _ (List.takeWhile_sublist _).length_le, List.drop_drop]
  cases skipL 0 (l.drop (i + 1 + ((l.drop (i + 1)).takeWhile (fun b => b != 10)).length)) <;> simp [upE] <;> omega
theorem head_drop (l : List UInt8) (i : Nat) (x : UInt8) : (l.drop i).head? = some x ↔ i < l.length ∧ l.getD i 0 = x := by
  by_cases h : i < l.length
  · rw [drop_cons h]; simp [h]
  · rw [List.drop_of_length_le (by omega)]; simp [h]
theorem skipAt_com {l : List UInt8} {i k : Nat} (h : i + 1 < l.length) (h1 : l.getD i 0 = 35) (h2 : l.getD (i + 1) 0 = 124) (hc : comB 1 (l.drop (i + 2)) = some k) : skipAt l i = skipAt l (i + 2 + k) := by
  have hk := comB_le _ _ _ hc
  rw [List.length_drop] at hk
  unfold skipAt
  rw [drop_cons (show i < l.length by omega), skipL, h1, blank_35, if_neg (by decide), if_neg (by decide), if_pos ⟨rfl, (head_drop _ _ _).2 ⟨h, h2⟩⟩, List.drop_drop, show i + 1 + 1 = i + 2 from rfl, hc]
  simp only
  rw [skipL_pass _ _ (by rw [List.length_drop]; omega), List.drop_drop, show i + 1 + (1 + k) = i + 2 + k by omega]
  cases skipL 0 (l.drop (i + 2 + k)) <;> simp [upE] <;> omega
theorem skipAt_open {l : List UInt8} {i : Nat} (h : i + 1 < l.length) (h1 : l.getD i 0 = 35) (h2 : l.getD (i + 1) 0 = 124) (hc : comB 1 (l.drop (i + 2)) = none) : skipAt l i = .error i := by
  unfold skipAt
  rw [drop_cons (show i < l.length by omega), skipL, h1, blank_35, if_neg (by decide), if_neg (by decide), if_pos ⟨rfl, (head_drop _ _ _).2 ⟨h, h2⟩⟩, List.drop_drop, show i + 1 + 1 = i + 2 from rfl, hc]
  rfl
theorem skipAt_stop {l : List UInt8} {i : Nat} (h : i < l.length) (h1 : blankB (l.getD i 0) = false) (h2 : l.getD i 0 ≠ 59) (h3 : ¬ (i + 1 < l.length ∧ l.getD i 0 = 35 ∧ l.getD (i + 1) 0 = 124)) : skipAt l i = .ok i := by
  unfold skipAt
  rw [drop_cons h, skipL, h1, if_neg (by decide), if_neg h2, if_neg (by rintro ⟨a, b⟩; obtain ⟨c, d⟩ := (head_drop _ _ _).1 b; exact h3 ⟨c, a, d⟩)]
  rfl
/-- A digit to the base 16. -/
def hexV (b : UInt8) : Option Nat :=
  if 48 ≤ b.toNat ∧ b.toNat ≤ 57 then some (b.toNat - 48)
  else if 97 ≤ b.toNat ∧ b.toNat ≤ 102 then some (b.toNat - 87)
  else if 65 ≤ b.toNat ∧ b.toNat ≤ 70 then some (b.toNat - 55) else none
/-- May a number be a char? -/
def charB (n : Nat) : Bool := decide (n < 0xD800 ∨ 0xE000 ≤ n ∧ n ≤ 0x10FFFF)
/-- The value of digits to the base 16, all of which are such. -/
def hexN : List UInt8 → Nat → Option Nat
  | [], n => some n
  | b :: t, n => match hexV b with
    | none => none
    | some v => hexN t (n * 16 + v)
/-- One to six digits as a char. -/
def hexC (l : List UInt8) : Option Nat :=
  if l.length < 1 ∨ 6 < l.length then none else
  match hexN l 0 with
  | none => none
  | some n => if charB n then some n else none
/-- A char as bytes. -/
def utfB (c : Nat) : List UInt8 :=
  if c < 0x80 then [UInt8.ofNat c]
  else if c < 0x800 then [UInt8.ofNat (0xC0 + c / 64), UInt8.ofNat (0x80 + c % 64)]
  else if c < 0x10000 then [UInt8.ofNat (0xE0 + c / 4096), UInt8.ofNat (0x80 + c / 64 % 64), UInt8.ofNat (0x80 + c % 64)]
  else [UInt8.ofNat (0xF0 + c / 262144), UInt8.ofNat (0x80 + c / 4096 % 64), UInt8.ofNat (0x80 + c / 64 % 64), UInt8.ofNat (0x80 + c % 64)]
/-- What an escape comes to: the text ends in it; it is none; bytes, and how many it takes. -/
inductive EscR where
  | open_
  | bad
  | ok (out : List UInt8) (n : Nat)
/-- Where a semicolon stands. -/
def semi (u : List UInt8) : Option Nat := if (u.takeWhile (fun b => b != 59)).length < u.length then some (u.takeWhile (fun b => b != 59)).length else none
/-- What stands behind a backslash. -/
def escL (by_ : UInt8) : List UInt8 → EscR
  | [] => .open_
  | d :: u =>
    if d = 92 ∨ d = 34 then .ok [d] 1
    else if d = 110 then .ok [10] 1
    else if d = 116 then .ok [9] 1
    else if d = 114 then .ok [13] 1
    else if d = 120 then
      match semi u with
      | none => .bad
      | some k => match hexC (u.take k) with
        | none => .bad
        | some r => .ok (utfB r) (k + 2)
    else if d = 124 ∧ by_ = 124 then .ok [124] 1
    else .bad
/-- What a text between two bytes comes to: it does not end; a bad escape, and where; its bytes, and behind how many it ends. -/
inductive QuoR where
  | open_
  | bad (i : Nat)
  | ok (out : List UInt8) (n : Nat)
def QuoR.up (out : List UInt8) (k : Nat) : QuoR → QuoR
  | .open_ => .open_
  | .bad i => .bad (k + i)
  | .ok o n => .ok (out ++ o) (k + n)
theorem QuoR.up_up (a b : List UInt8) (j k : Nat) (r : QuoR) : (r.up b k).up a j = r.up (a ++ b) (j + k) := by
  cases r <;> simp [QuoR.up, Nat.add_assoc]
theorem QuoR.up_zero (r : QuoR) : r.up [] 0 = r := by cases r <;> simp [QuoR.up]
def quoL (by_ : UInt8) : Nat → List UInt8 → QuoR
  | _, [] => .open_
  | n + 1, _ :: t => (quoL by_ n t).up [] 1
  | 0, c :: t =>
    if c = by_ then .ok [] 1
    else if c ≠ 92 then (quoL by_ 0 t).up [c] 1
    else match escL by_ t with
      | .open_ => .open_
      | .bad => .bad 0
      | .ok out m => (quoL by_ m t).up out 1
theorem quoL_pass (by_ : UInt8) : ∀ (n : Nat) (l : List UInt8), n ≤ l.length → quoL by_ n l = (quoL by_ 0 (l.drop n)).up [] n
  | 0, l, _ => by rw [QuoR.up_zero]; rfl
  | n + 1, [], h => by simp at h
  | n + 1, c :: t, h => by
    rw [List.drop_succ_cons, quoL, quoL_pass by_ n t (by simpa using h), QuoR.up_up, List.nil_append, Nat.add_comm]
theorem semi_le {u : List UInt8} {k : Nat} (h : semi u = some k) : k < u.length := by
  unfold semi at h
  split at h
  · injection h; omega
  · cases h
theorem escL_le {by_ : UInt8} {l out : List UInt8} {n : Nat} (h : escL by_ l = .ok out n) : 1 ≤ n ∧ n ≤ l.length := by
  cases l with
  | nil => cases h
  | cons d u =>
    rw [escL] at h
    rw [List.length_cons]
    split at h
    · injection h; omega
    split at h
    · injection h; omega
    split at h
    · injection h; omega
    split at h
    · injection h; omega
    split at h
    · split at h
      · cases h
      · rename_i k hk
        have := semi_le hk
        split at h
        · cases h
        · injection h; omega
    split at h
    · injection h; omega
    · cases h
/-- The text between two bytes, from a place on. -/
def quoAt (by_ : UInt8) (l : List UInt8) (i : Nat) (out : List UInt8) : QuoR := (quoL by_ 0 (l.drop i)).up out i
theorem quoAt_end (by_ : UInt8) (l out : List UInt8) : quoAt by_ l l.length out = .open_ := by
  unfold quoAt; rw [List.drop_length]; rfl
theorem quoAt_close {by_ : UInt8} {l out : List UInt8} {i : Nat} (h : i < l.length) (h1 : l.getD i 0 = by_) : quoAt by_ l i out = .ok out (i + 1) := by
  unfold quoAt
  rw [drop_cons h, quoL, if_pos h1]
  simp [QuoR.up]
theorem quoAt_plain {by_ : UInt8} {l out : List UInt8} {i : Nat} (h : i < l.length) (h1 : l.getD i 0 ≠ by_) (h2 : l.getD i 0 ≠ 92) : quoAt by_ l i out = quoAt by_ l (i + 1) (out ++ [l.getD i 0]) := by
  unfold quoAt
  rw [drop_cons h, quoL, if_neg h1, if_pos h2, QuoR.up_up]
theorem quoAt_open {by_ : UInt8} {l out : List UInt8} {i : Nat} (h : i < l.length) (h1 : l.getD i 0 ≠ by_) (h2 : l.getD i 0 = 92) (h3 : escL by_ (l.drop (i + 1)) = .open_) : quoAt by_ l i out = .open_ := by
  unfold quoAt
  rw [drop_cons h, quoL, if_neg h1, if_neg (by simp only [h2, ne_eq, not_true_eq_false, not_false_eq_true]), h3]
  rfl
theorem quoAt_bad {by_ : UInt8} {l out : List UInt8} {i : Nat} (h : i < l.length) (h1 : l.getD i 0 ≠ by_) (h2 : l.getD i 0 = 92) (h3 : escL by_ (l.drop (i + 1)) = .bad) : quoAt by_ l i out = .bad i := by
  unfold quoAt
  rw [drop_cons h, quoL, if_neg h1, if_neg (by simp only [h2, ne_eq, not_true_eq_false, not_false_eq_true]), h3]
  rfl
theorem quoAt_esc {by_ : UInt8} {l out o : List UInt8} {i n : Nat} (h : i < l.length) (h1 : l.getD i 0 ≠ by_) (h2 : l.getD i 0 = 92) (h3 : escL by_ (l.drop (i + 1)) = .ok o n) : quoAt by_ l i out = quoAt by_ l (i + 1 + n) (out ++ o) := by
  unfold quoAt
  rw [drop_cons h, quoL, if_neg h1, if_neg (by simp only [h2, ne_eq, not_true_eq_false, not_false_eq_true]), h3]
  simp only
  rw [quoL_pass _ _ _ (escL_le h3).2, QuoR.up_up, QuoR.up_up, List.drop_drop, List.append_nil, Nat.add_assoc]
/-- The chars of a text, if it is one. -/
def runesGo : Nat → List UInt8 → Option (List Nat)
  | 0, _ => some []
  | f + 1, l => if l = [] then some [] else if (decodeL l).1 = 65533 ∧ (decodeL l).2 = 1 then none else (runesGo f (l.drop (decodeL l).2)).map ((decodeL l).1 :: ·)
def runesL (l : List UInt8) : Option (List Nat) := runesGo l.length l
/-- What a token's datum may be. -/
inductive Leaf where
  | no
  | tru
  | fls
  | chr (c : Nat)
  | int (x : Int)
  | str (t : List UInt8)
  | sym (t : List UInt8)
/-- A token, but for its place. -/
structure Tk where
  kind : Nat
  len : Nat
  sq : Bool
  d : Leaf
/-- A string, or a symbol, that may be; or the error's number. -/
def textL (sym : Bool) (t : List UInt8) : Except Nat Leaf :=
  match runesL t with
  | none => .error 9
  | some r => if sym = true ∧ t = [] then .error 9 else if 62 < r.length then .error 6 else .ok (if sym then .sym t else .str t)
/-- The char of a name. -/
def namedL (t : List UInt8) : Option Nat :=
  if t = [110, 117, 108] then some 0
  else if t = [97, 108, 97, 114, 109] then some 7
  else if t = [98, 97, 99, 107, 115, 112, 97, 99, 101] then some 8
  else if t = [116, 97, 98] then some 9
  else if t = [110, 101, 119, 108, 105, 110, 101] then some 10
  else if t = [114, 101, 116, 117, 114, 110] then some 13
  else if t = [101, 115, 99, 97, 112, 101] then some 27
  else if t = [115, 112, 97, 99, 101] then some 32
  else if t = [100, 101, 108, 101, 116, 101] then some 127
  else none
/-- What stands behind #\ : the char, and how many bytes; or the error's number. -/
def charL (t : List UInt8) : Except Nat (Nat × Nat) :=
  if t = [] then .error 11
  else if (decodeL t).1 = 65533 ∧ (decodeL t).2 = 1 then .error 9
  else
    let n := (decodeL t).2
    let m := ((t.drop n).takeWhile (fun b => !delimB b)).length
    if m = 0 then .ok ((decodeL t).1, n)
    else match namedL (t.take (n + m)) with
      | some v => .ok (v, n + m)
      | none => if (decodeL t).1 = 120 then
          (match hexC ((t.drop n).take m) with
          | some r => .ok (r, n + m)
          | none => .error 9)
        else .error 9
/-- The bytes of a word. -/
def wordB (b : UInt8) : Bool := !delimB b && b != 124
/-- What a word is: a token's kind and its datum; or the error's number. -/
def wordV (w : List UInt8) : Except Nat (Nat × Leaf) :=
  if w = [46] then .ok (8, .no)
  else if w = [35, 116] ∨ w = [35, 116, 114, 117, 101] then .ok (9, .tru)
  else if w = [35, 102] ∨ w = [35, 102, 97, 108, 115, 101] then .ok (9, .fls)
  else if w.head? = some 35 then .error 9
  else match parseV w with
    | some x => if (limbs x.natAbs).length ≤ 48 then .ok (9, .int x) else .error 6
    | none => match textL true w with
      | .ok d => .ok (9, d)
      | .error c => .error c
/-- The token that begins here; or, how far from here, an error. -/
def tokL : List UInt8 → Except (Nat × Nat) Tk
  | [] => .error (0, 9)
  | c :: t =>
    if c = 40 ∨ c = 91 then .ok ⟨1, 1, c == 91, .no⟩
    else if c = 41 ∨ c = 93 then .ok ⟨2, 1, c == 93, .no⟩
    else if c = 39 then .ok ⟨4, 1, false, .no⟩
    else if c = 96 then .ok ⟨5, 1, false, .no⟩
    else if c = 44 then (if t.head? = some 64 then .ok ⟨7, 2, false, .no⟩ else .ok ⟨6, 1, false, .no⟩)
    else if c = 34 ∨ c = 124 then
      match quoL c 0 t with
      | .open_ => .error (0, 11)
      | .bad i => .error (1 + i, 9)
      | .ok out n => match textL (c == 124) out with
        | .ok d => .ok ⟨9, 1 + n, false, d⟩
        | .error e => .error (0, e)
    else if c = 35 ∧ t.head? = some 40 then .ok ⟨3, 2, false, .no⟩
    else if c = 35 ∧ t.head? = some 92 then
      match charL (t.drop 1) with
      | .ok (v, n) => .ok ⟨9, 2 + n, false, .chr v⟩
      | .error e => .error (0, e)
    else match wordV ((c :: t).takeWhile wordB) with
      | .ok (k, d) => .ok ⟨k, ((c :: t).takeWhile wordB).length, false, d⟩
      | .error e => .error (0, e)
/-- The token at a place, or behind it: where it begins, and which; or where an error is, and its number. -/
def lexAt (l : List UInt8) (i : Nat) : Except (Nat × Nat) (Nat × Tk) :=
  match skipAt l i with
  | .error p => .error (p, 11)
  | .ok j => if j = l.length then .ok (j, ⟨0, 0, false, .no⟩) else
    match tokL (l.drop j) with
    | .error (p, c) => .error (j + p, c)
    | .ok t => .ok (j, t)
end Go.Proofs.YtonnikipeokkaaaGreatDoor

namespace Go.Proofs.YtonnikipeokkaaaGreatDoor
open Go.Lib

/-- What stands behind a place in another text is nothing, a blank, or begins with the same byte. -/
def Foll (x z : List UInt8) : Prop := z = [] ∨ (∃ d t, z = d :: t ∧ blankB d = true) ∨ z.head? = x.head?
theorem Foll.tail {p : UInt8 → Bool} {x z : List UInt8} (f : Foll x z) (hp : ∀ d, blankB d = true → p d = false) (h : x = [] ∨ ∃ d t, x = d :: t ∧ p d = false) : z = [] ∨ ∃ d t, z = d :: t ∧ p d = false := by
  rcases f with f | ⟨d, t, f, g⟩ | f
  · exact .inl f
  · exact .inr ⟨d, t, f, hp d g⟩
  · rcases h with h | ⟨d, t, h, g⟩
    · rw [h] at f
      cases z with
      | nil => exact .inl rfl
      | cons => simp at f
    · rw [h] at f
      cases z with
      | nil => simp at f
      | cons e u => simp at f; exact .inr ⟨e, u, rfl, by rw [f]; exact g⟩
theorem tw_drop (p : UInt8 → Bool) : ∀ x : List UInt8, x.drop (x.takeWhile p).length = [] ∨ ∃ d t, x.drop (x.takeWhile p).length = d :: t ∧ p d = false
  | [] => .inl rfl
  | c :: t => by
    by_cases h : p c = true
    · rw [List.takeWhile_cons, if_pos h, List.length_cons, List.drop_succ_cons]
      exact tw_drop p t
    · rw [List.takeWhile_cons, if_neg h]
      exact .inr ⟨c, t, rfl, by simpa using h⟩
theorem tw_local (p : UInt8 → Bool) : ∀ (x z : List UInt8), z.take (x.takeWhile p).length = x.take (x.takeWhile p).length → (z.drop (x.takeWhile p).length = [] ∨ ∃ d t, z.drop (x.takeWhile p).length = d :: t ∧ p d = false) → z.takeWhile p = x.takeWhile p
  | [], z, _, h => by
    simp only [List.takeWhile_nil, List.length_nil, List.drop_zero] at h ⊢
    rcases h with h | ⟨d, t, h, g⟩
    · rw [h]; rfl
    · rw [h, List.takeWhile_cons, if_neg (by rw [g]; decide)]
  | c :: t, z, e, h => by
    by_cases hc : p c = true
    · rw [List.takeWhile_cons, if_pos hc, List.length_cons] at e h
      cases z with
      | nil => simp at e
      | cons d u =>
        rw [List.take_succ_cons, List.take_succ_cons] at e
        injection e with e1 e2
        rw [List.drop_succ_cons] at h
        rw [List.takeWhile_cons, List.takeWhile_cons, e1, if_pos hc, if_pos hc, tw_local p t u e2 h]
    · rw [List.takeWhile_cons, if_neg hc] at e h ⊢
      rcases h with h | ⟨d, u, h, g⟩
      · simp only [List.length_nil, List.drop_zero] at h
        rw [h]; rfl
      · simp only [List.length_nil, List.drop_zero] at h
        rw [h, List.takeWhile_cons, if_neg (by rw [g]; decide)]
theorem tw_take (p : UInt8 → Bool) (x : List UInt8) : x.take (x.takeWhile p).length = x.takeWhile p := by
  induction x with
  | nil => rfl
  | cons c t ih =>
    by_cases hc : p c = true
    · rw [List.takeWhile_cons, if_pos hc, List.length_cons, List.take_succ_cons, ih]
    · rw [List.takeWhile_cons, if_neg hc]; rfl
theorem tw_app (p : UInt8 → Bool) (hp : p 10 = false) (x y : List UInt8) : (x ++ 10 :: y).takeWhile p = x.takeWhile p := by
  induction x with
  | nil => rw [List.nil_append, List.takeWhile_cons, if_neg (by rw [hp]; decide)]; rfl
  | cons c t ih =>
    by_cases hc : p c = true
    · rw [List.cons_append, List.takeWhile_cons, if_pos hc, List.takeWhile_cons, if_pos hc, ih]
    · rw [List.cons_append, List.takeWhile_cons, if_neg hc, List.takeWhile_cons, if_neg hc]
theorem take_getD {x z : List UInt8} {n j : Nat} (h : z.take n = x.take n) (hj : j < n) : z.getD j 0 = x.getD j 0 := by
  have := congrArg (fun l => l.getD j 0) h
  simp only [List.getD_eq_getElem?_getD, List.getElem?_take, if_pos hj] at this
  rw [List.getD_eq_getElem?_getD, List.getD_eq_getElem?_getD]
  exact this
theorem take_mono {x z : List UInt8} {n m : Nat} (h : z.take n = x.take n) (hm : m ≤ n) : z.take m = x.take m := by
  have := congrArg (List.take m) h
  rwa [List.take_take, List.take_take, Nat.min_eq_left hm] at this
theorem take_len_of {x z : List UInt8} {n : Nat} (h : z.take n = x.take n) (hn : n ≤ x.length) : n ≤ z.length := by
  have := congrArg List.length h
  rw [List.length_take, List.length_take] at this
  omega
/-! ### skipping -/
theorem skip_app (y : List UInt8) : ∀ (x : List UInt8) (n m : Nat), n ≤ x.length → skipL n x = .ok m →
    (m < x.length → skipL n (x ++ 10 :: y) = .ok m) ∧ (m = x.length → skipL n (x ++ 10 :: y) = upE (x.length + 1) (skipL 0 y)) ∧ m ≤ x.length
  | [], n, m, hn, h => by
    have : n = 0 := by simpa using hn
    subst this
    rw [skipL] at h
    injection h with h
    refine ⟨by intro h2; simp at h2, fun _ => ?_, by omega⟩
    rw [List.nil_append, skipL, if_pos (by decide)]
    cases skipL 0 y <;> simp [upE] <;> omega
  | c :: t, n + 1, m, hn, h => by
    rw [skipL] at h
    cases hs : skipL n t with
    | error e => rw [hs] at h; cases h
    | ok k =>
      rw [hs] at h
      injection h with h
      obtain ⟨a, b, d⟩ := skip_app y t n k (by simpa using hn) hs
      simp only [List.length_cons]
      refine ⟨fun hm => ?_, fun hm => ?_, by omega⟩
      · rw [List.cons_append, skipL, a (by omega), ← h]
      · rw [List.cons_append, skipL, b (by omega)]
        cases skipL 0 y <;> simp [upE] <;> omega
  | c :: t, 0, m, hn, h => by
    rw [skipL] at h
    have key : ∀ (k : Nat), k ≤ t.length → (match skipL k t with | .ok m => Except.ok (m + 1) | .error m => .error (m + 1)) = (Except.ok m : Except Nat Nat) →
        (m < t.length + 1 → (match skipL k (t ++ 10 :: y) with | .ok m => Except.ok (m + 1) | .error m => .error (m + 1)) = (Except.ok m : Except Nat Nat)) ∧ (m = t.length + 1 → (match skipL k (t ++ 10 :: y) with | .ok m => Except.ok (m + 1) | .error m => .error (m + 1)) = upE (t.length + 1 + 1) (skipL 0 y)) ∧ m ≤ t.length + 1 := by
      intro k hk h
      cases hs : skipL k t with
      | error e => rw [hs] at h; cases h
      | ok j =>
        rw [hs] at h
        injection h with h
        obtain ⟨a, b, d⟩ := skip_app y t k j hk hs
        refine ⟨fun hm => ?_, fun hm => ?_, by omega⟩
        · rw [a (by omega), ← h]
        · rw [b (by omega)]
          cases skipL 0 y <;> simp [upE] <;> omega
    rw [List.cons_append, skipL, List.length_cons]
    by_cases h1 : blankB c = true
    · rw [if_pos h1] at h ⊢
      exact key 0 (by omega) h
    rw [if_neg h1] at h ⊢
    by_cases h2 : c = 59
    · rw [if_pos h2] at h ⊢
      rw [tw_app _ (by decide)]
      exact key _ (List.takeWhile_sublist _).length_le h
    rw [if_neg h2] at h ⊢
    by_cases h3 : c = 35 ∧ t.head? = some 124
    · cases t with
      | nil => simp at h3
      | cons d u =>
        have hd : d = 124 := by simpa using h3.2
        rw [if_pos h3] at h
        rw [List.cons_append, if_pos (by exact h3)]
        simp only [List.drop_succ_cons, List.drop_zero] at h ⊢
        cases hc : comB 1 u with
        | none => rw [hc] at h; cases h
        | some k =>
          have := comB_le _ _ _ hc
          rw [hc] at h
          rw [comB_app _ _ _ _ hc]
          exact key _ (by simp only [List.length_cons]; omega) h
    · rw [if_neg h3] at h
      rw [if_neg (by
        cases t with
        | nil => simp
        | cons d u => exact h3)]
      injection h with h
      exact ⟨fun _ => by rw [h], fun hm => by omega, by omega⟩
/-! ### escapes, texts -/
theorem semi_local {x z : List UInt8} {k : Nat} (h : semi x = some k) (e : z.take (k + 1) = x.take (k + 1)) : semi z = some k := by
  have hk := semi_le h
  have e1 : (x.takeWhile (fun b => b != 59)).length = k := by
    unfold semi at h
    split at h
    · injection h
    · cases h
  have hz := take_len_of e (by omega)
  have hd : x.getD k 0 = 59 := by
    rcases tw_drop (fun b => b != 59) x with h2 | ⟨d, t, h2, g⟩
    · rw [e1] at h2; have := congrArg List.length h2; rw [List.length_drop] at this; simp at this; omega
    · rw [e1] at h2
      rw [show x.getD k 0 = d by have := getD_drop x k 0; rw [Nat.add_zero, h2] at this; exact this.symm]
      simpa using g
  have hz2 : z.getD k 0 = 59 := by rw [take_getD e (by omega), hd]
  have e3 : z.takeWhile (fun b => b != 59) = x.takeWhile (fun b => b != 59) := by
    refine tw_local _ _ _ (by rw [e1]; exact take_mono e (by omega)) ?_
    rw [e1]
    refine .inr ⟨59, z.drop (k + 1), ?_, by decide⟩
    rw [drop_cons (by omega), hz2]
  unfold semi
  rw [e3, e1, if_pos (by omega)]
theorem escL_local {by_ : UInt8} {x z out : List UInt8} {n : Nat} (h : escL by_ x = .ok out n) (e : z.take n = x.take n) : escL by_ z = .ok out n := by
  have hn := escL_le h
  cases x with
  | nil => cases h
  | cons d u =>
    obtain ⟨m, rfl⟩ : ∃ m, n = m + 1 := ⟨n - 1, by omega⟩
    cases z with
    | nil => simp at e
    | cons d' v =>
      rw [List.take_succ_cons, List.take_succ_cons] at e
      injection e with e1 e2
      subst e1
      rw [escL] at h ⊢
      split at h
      · rename_i c; rw [if_pos c]; exact h
      rename_i c; rw [if_neg c]
      split at h
      · rename_i c; rw [if_pos c]; exact h
      rename_i c; rw [if_neg c]
      split at h
      · rename_i c; rw [if_pos c]; exact h
      rename_i c; rw [if_neg c]
      split at h
      · rename_i c; rw [if_pos c]; exact h
      rename_i c; rw [if_neg c]
      split at h
      · rename_i c; rw [if_pos c]
        cases hs : semi u with
        | none => rw [hs] at h; cases h
        | some k =>
          rw [hs] at h
          simp only at h
          cases hc : hexC (u.take k) with
          | none => rw [hc] at h; cases h
          | some r =>
            rw [hc] at h
            injection h with h1 h2
            have hm : m = k + 1 := by omega
            rw [hm] at e2
            rw [semi_local hs e2]
            simp only
            rw [take_mono e2 (by omega), hc]
            simp only
            rw [h1, h2]
      rename_i c; rw [if_neg c]
      split at h
      · rename_i c; rw [if_pos c]; exact h
      · cases h
theorem QuoR.up_ok {out o : List UInt8} {k n : Nat} {r : QuoR} (h : r.up out k = .ok o n) : ∃ o' n', r = .ok o' n' ∧ o = out ++ o' ∧ n = k + n' := by
  cases r with
  | open_ => cases h
  | bad => cases h
  | ok o' n' => injection h with h1 h2; exact ⟨o', n', rfl, h1.symm, h2.symm⟩
theorem quoL_local (by_ : UInt8) : ∀ (x z : List UInt8) (k : Nat) (out : List UInt8) (n : Nat), quoL by_ k x = .ok out n → z.take n = x.take n → quoL by_ k z = .ok out n ∧ k < n ∧ n ≤ x.length
  | [], _, k, out, n, h, _ => by cases k <;> cases h
  | c :: t, z, k + 1, out, n, h, e => by
    rw [quoL] at h
    obtain ⟨o, m, h1, h2, h3⟩ := QuoR.up_ok h
    rw [show n = m + 1 by omega] at e ⊢
    cases z with
    | nil => simp at e
    | cons d v =>
      rw [List.take_succ_cons, List.take_succ_cons] at e
      injection e with e1 e2
      obtain ⟨a, b, c⟩ := quoL_local by_ t v k o m h1 e2
      rw [quoL, a, List.length_cons]
      refine ⟨?_, by omega, by omega⟩
      rw [h2]
      simp [QuoR.up, Nat.add_comm]
  | c :: t, z, 0, out, n, h, e => by
    rw [quoL] at h
    by_cases h1 : c = by_
    · rw [if_pos h1] at h
      injection h with h2 h3
      subst h2; subst h3
      cases z with
      | nil => simp at e
      | cons d v =>
        rw [List.take_succ_cons, List.take_succ_cons] at e
        injection e with e1 e2
        rw [quoL, if_pos (by rw [e1]; exact h1), List.length_cons]
        exact ⟨rfl, by omega, by omega⟩
    rw [if_neg h1] at h
    by_cases h2 : c ≠ 92
    · rw [if_pos h2] at h
      obtain ⟨o, m, h3, h4, h5⟩ := QuoR.up_ok h
      rw [show n = m + 1 by omega] at e ⊢
      cases z with
      | nil => simp at e
      | cons d v =>
        rw [List.take_succ_cons, List.take_succ_cons] at e
        injection e with e1 e2
        obtain ⟨a, b, q⟩ := quoL_local by_ t v 0 o m h3 e2
        rw [quoL, e1, if_neg h1, if_pos h2, a, List.length_cons]
        refine ⟨?_, by omega, by omega⟩
        rw [h4]
        simp [QuoR.up, Nat.add_comm]
    rw [if_neg h2] at h
    cases he : escL by_ t with
    | open_ => rw [he] at h; cases h
    | bad => rw [he] at h; cases h
    | ok o j =>
      rw [he] at h
      simp only at h
      obtain ⟨o2, m, h3, h4, h5⟩ := QuoR.up_ok h
      rw [show n = m + 1 by omega] at e ⊢
      cases z with
      | nil => simp at e
      | cons d v =>
        rw [List.take_succ_cons, List.take_succ_cons] at e
        injection e with e1 e2
        obtain ⟨a, b, q⟩ := quoL_local by_ t v j o2 m h3 e2
        rw [quoL, e1, if_neg h1, if_neg h2, escL_local he (take_mono e2 (by omega)), List.length_cons]
        simp only
        rw [a]
        refine ⟨?_, by omega, by omega⟩
        rw [h4]
        simp [QuoR.up, Nat.add_comm]
theorem hexN_bad (l : List UInt8) (b : UInt8) (hb : b ∈ l) (hv : hexV b = none) : ∀ n, hexN l n = none := by
  induction l with
  | nil => cases hb
  | cons c t ih =>
    intro n
    unfold hexN
    rcases List.mem_cons.1 hb with h | h
    · rw [← h, hv]
    · cases hexV c with
      | none => rfl
      | some v => exact ih h _
theorem hexC_bad (l : List UInt8) (b : UInt8) (hb : b ∈ l) (hv : hexV b = none) : hexC l = none := by
  unfold hexC
  rw [hexN_bad l b hb hv]
  split <;> rfl
theorem escL_bad {by_ : UInt8} {x : List UInt8} (y : List UInt8) (h : escL by_ x = .bad) : escL by_ (x ++ 10 :: y) = .bad := by
  cases x with
  | nil => cases h
  | cons d u =>
    rw [List.cons_append]
    rw [escL] at h ⊢
    split at h
    · cases h
    rename_i c; rw [if_neg c]
    split at h
    · cases h
    rename_i c; rw [if_neg c]
    split at h
    · cases h
    rename_i c; rw [if_neg c]
    split at h
    · cases h
    rename_i c; rw [if_neg c]
    split at h
    · rename_i c; rw [if_pos c]
      cases hs : semi u with
      | some k =>
        have hk := semi_le hs
        rw [semi_local (z := u ++ 10 :: y) hs (by rw [List.take_append_of_le_length (by omega)])]
        rw [hs] at h
        simp only at h ⊢
        rw [List.take_append_of_le_length (by omega)]
        exact h
      | none =>
        cases hz : semi (u ++ 10 :: y) with
        | none => rfl
        | some k =>
          simp only
          have hk : u.length < k := by
            apply Nat.lt_of_not_le
            intro hle
            have e1 : ((u ++ 10 :: y).takeWhile (fun b => b != 59)).length = k := by
              unfold semi at hz
              split at hz
              · injection hz
              · cases hz
            have hd : (u ++ 10 :: y).getD k 0 = 59 := by
              have hk2 := semi_le hz
              rcases tw_drop (fun b => b != 59) (u ++ 10 :: y) with h2 | ⟨d, t, h2, g⟩
              · rw [e1] at h2; have := congrArg List.length h2; rw [List.length_drop] at this; simp at this; simp at hk2; omega
              · rw [e1] at h2
                rw [show (u ++ 10 :: y).getD k 0 = d by have := getD_drop (u ++ 10 :: y) k 0; rw [Nat.add_zero, h2] at this; exact this.symm]
                simpa using g
            rcases Nat.lt_or_eq_of_le hle with hlt | heq
            · have hs2 : semi u = some k := by
                have : semi ((u ++ 10 :: y).take (k + 1)) = some k := semi_local hz (by rw [List.take_take, Nat.min_self])
                rw [List.take_append_of_le_length (by omega)] at this
                exact semi_local this (by rw [List.take_take, Nat.min_self])
              rw [hs] at hs2
              cases hs2
            · rw [heq, List.getD_eq_getElem?_getD, List.getElem?_append_right (Nat.le_refl _)] at hd
              simp at hd
          have : hexC ((u ++ 10 :: y).take k) = none := by
            refine hexC_bad _ 10 ?_ (by decide)
            obtain ⟨j, rfl⟩ : ∃ j, k = u.length + (j + 1) := ⟨k - u.length - 1, by omega⟩
            rw [List.take_append, List.take_of_length_le (by omega)]
            simp
          rw [this]
    rename_i c; rw [if_neg c]
    split at h
    · cases h
    rename_i c; rw [if_neg c]
theorem QuoR.up_bad {out : List UInt8} {k i : Nat} {r : QuoR} (h : r.up out k = .bad i) : ∃ i', r = .bad i' ∧ i = k + i' := by
  cases r with
  | open_ => cases h
  | bad i' => injection h with h1; exact ⟨i', rfl, h1.symm⟩
  | ok => cases h
theorem quoL_bad (by_ : UInt8) (y : List UInt8) : ∀ (x : List UInt8) (k i : Nat), quoL by_ k x = .bad i → quoL by_ k (x ++ 10 :: y) = .bad i
  | [], k, i, h => by cases k <;> cases h
  | c :: t, k + 1, i, h => by
    rw [quoL] at h
    obtain ⟨j, h1, h2⟩ := QuoR.up_bad h
    rw [List.cons_append, quoL, quoL_bad by_ y t k j h1, h2]
    rfl
  | c :: t, 0, i, h => by
    rw [quoL] at h
    rw [List.cons_append, quoL]
    by_cases h1 : c = by_
    · rw [if_pos h1] at h; cases h
    rw [if_neg h1] at h ⊢
    by_cases h2 : c ≠ 92
    · rw [if_pos h2] at h ⊢
      obtain ⟨j, h3, h4⟩ := QuoR.up_bad h
      rw [quoL_bad by_ y t 0 j h3, h4]
      rfl
    rw [if_neg h2] at h ⊢
    cases he : escL by_ t with
    | open_ => rw [he] at h; cases h
    | bad =>
      rw [he] at h
      rw [escL_bad y he]
      exact h
    | ok o j =>
      rw [he] at h
      simp only at h
      obtain ⟨q, h3, h4⟩ := QuoR.up_bad h
      have hj := escL_le he
      rw [escL_local (z := t ++ 10 :: y) he (by rw [List.take_append_of_le_length (by omega)])]
      simp only
      rw [quoL_bad by_ y t j q h3, h4]
      rfl
/-! ### chars -/
theorem getD_app (x y : List UInt8) (j : Nat) (h : j < x.length) : (x ++ y).getD j 0 = x.getD j 0 := by
  rw [List.getD_eq_getElem?_getD, List.getD_eq_getElem?_getD, List.getElem?_append_left h]
theorem getD_app10 (x y : List UInt8) : (x ++ 10 :: y).getD x.length 0 = 10 := by
  rw [List.getD_eq_getElem?_getD, List.getElem?_append_right (Nat.le_refl _)]
  simp
theorem decodeN_local (n n' b0 b1 b2 b3 c1 c2 c3 w : Nat) (h : decodeN n b0 b1 b2 b3 ≠ (65533, 1)) (hw : (decodeN n b0 b1 b2 b3).2 = w) (hn : w ≤ n') (h1 : 1 < w → c1 = b1) (h2 : 2 < w → c2 = b2) (h3 : 3 < w → c3 = b3) : decodeN n' b0 c1 c2 c3 = decodeN n b0 b1 b2 b3 := by
  unfold decodeN at h hw ⊢
  by_cases a0 : b0 < 128
  · rw [if_pos a0, if_pos a0]
  rw [if_neg a0] at h hw
  rw [if_neg a0, if_neg a0]
  by_cases a1 : b0 / 32 = 6 ∧ (1 < n ∧ b1 / 64 = 2)
  · rw [if_pos a1] at h hw
    by_cases g : b0 % 32 * 64 + b1 % 64 ≥ 128
    · rw [if_pos g] at hw
      simp only at hw
      obtain rfl := h1 (by omega)
      rw [if_pos a1, if_pos (by omega)]
    · rw [if_neg g] at h; exact absurd rfl h
  rw [if_neg a1] at h hw
  rw [if_neg a1]
  by_cases a2 : b0 / 16 = 14 ∧ (1 < n ∧ b1 / 64 = 2) ∧ (2 < n ∧ b2 / 64 = 2)
  · rw [if_pos a2] at h hw
    split at hw
    · rename_i g
      simp only at hw
      obtain rfl := h1 (by omega)
      obtain rfl := h2 (by omega)
      rw [if_neg (by omega), if_pos (by omega), if_pos a2]
    · rename_i g
      rw [if_neg g] at h; exact absurd rfl h
  rw [if_neg a2] at h hw
  rw [if_neg a2]
  by_cases a3 : b0 / 8 = 30 ∧ (1 < n ∧ b1 / 64 = 2) ∧ (2 < n ∧ b2 / 64 = 2) ∧ (3 < n ∧ b3 / 64 = 2)
  · rw [if_pos a3] at h hw
    split at hw
    · rename_i g
      simp only at hw
      obtain rfl := h1 (by omega)
      obtain rfl := h2 (by omega)
      obtain rfl := h3 (by omega)
      rw [if_neg (by omega), if_neg (by omega), if_pos (by omega), if_pos a3]
    · rename_i g
      rw [if_neg g] at h; exact absurd rfl h
  · rw [if_neg a3] at h; exact absurd rfl h
theorem decode_ne {p : Nat × Nat} (h : ¬ (p.1 = 65533 ∧ p.2 = 1)) : p ≠ (65533, 1) := by
  rintro rfl; exact h ⟨rfl, rfl⟩
theorem decodeN_width (n b0 b1 b2 b3 : Nat) (h : 1 ≤ n) : 1 ≤ (decodeN n b0 b1 b2 b3).2 ∧ (decodeN n b0 b1 b2 b3).2 ≤ n := by
  unfold decodeN
  repeat' split
  all_goals simp only
  all_goals omega
theorem decodeL_wd {x : List UInt8} (h : x ≠ []) : 1 ≤ (decodeL x).2 ∧ (decodeL x).2 ≤ x.length := by
  rw [decodeL_N]
  exact decodeN_width _ _ _ _ _ (List.length_pos_iff.2 h)
theorem decodeL_local {x z : List UInt8} (hx : x ≠ []) (h : ¬ ((decodeL x).1 = 65533 ∧ (decodeL x).2 = 1)) (e : z.take (decodeL x).2 = x.take (decodeL x).2) : decodeL z = decodeL x := by
  have hw := decodeL_wd hx
  have hz := take_len_of e hw.2
  have key : ∀ w, (decodeL x).2 = w → decodeL z = decodeL x := by
    intro w hw2
    rw [hw2] at hw hz e
    rw [decodeL_N x] at h hw2
    rw [decodeL_N z, decodeL_N x]
    rw [take_getD e (show 0 < w by omega)]
    exact decodeN_local _ _ _ _ _ _ _ _ _ w (decode_ne h) hw2 hz (fun g => by rw [take_getD e g]) (fun g => by rw [take_getD e g]) (fun g => by rw [take_getD e g])
  exact key _ rfl
theorem decodeN_bad10 (n n' b0 b1 b2 b3 c1 c2 c3 : Nat) (hn : 1 ≤ n) (hn' : n < n') (h : decodeN n b0 b1 b2 b3 = (65533, 1)) (h1 : 1 < n → c1 = b1) (h2 : 2 < n → c2 = b2) (h3 : 3 < n → c3 = b3) (g1 : n = 1 → c1 = 10) (g2 : n = 2 → c2 = 10) (g3 : n = 3 → c3 = 10) : decodeN n' b0 c1 c2 c3 = (65533, 1) := by
  by_cases hh : decodeN n' b0 c1 c2 c3 = (65533, 1)
  · exact hh
  exfalso
  have hw := decodeN_width n' b0 c1 c2 c3 (by omega)
  by_cases hle : (decodeN n' b0 c1 c2 c3).2 ≤ n
  · have := decodeN_local n' n b0 c1 c2 c3 b1 b2 b3 _ hh rfl hle (fun g => (h1 (by omega)).symm) (fun g => (h2 (by omega)).symm) (fun g => (h3 (by omega)).symm)
    exact hh (this.symm.trans h)
  · have cont : (1 < (decodeN n' b0 c1 c2 c3).2 → c1 / 64 = 2) ∧ (2 < (decodeN n' b0 c1 c2 c3).2 → c2 / 64 = 2) ∧ (3 < (decodeN n' b0 c1 c2 c3).2 → c3 / 64 = 2) ∧ (decodeN n' b0 c1 c2 c3).2 ≤ 4 := by
      unfold decodeN
      repeat' split
      all_goals simp only
      all_goals omega
    omega
theorem decodeL_bad {x : List UInt8} (y : List UInt8) (hx : x ≠ []) (h : (decodeL x).1 = 65533 ∧ (decodeL x).2 = 1) : decodeL (x ++ 10 :: y) = (65533, 1) := by
  have h2 : decodeL x = (65533, 1) := Prod.ext h.1 h.2
  have hn : 1 ≤ x.length := List.length_pos_iff.2 hx
  rw [decodeL_N] at h2 ⊢
  rw [getD_app x _ 0 (by omega)]
  refine decodeN_bad10 x.length _ _ _ _ _ _ _ _ hn (by simp) h2 (fun g => by rw [getD_app _ _ _ g]) (fun g => by rw [getD_app _ _ _ g]) (fun g => by rw [getD_app _ _ _ g]) ?_ ?_ ?_
  all_goals
    intro g
    rw [← g, getD_app10]
    rfl
theorem delim_blank (d : UInt8) (h : blankB d = true) : (!delimB d) = false := by unfold delimB; rw [h]; rfl
theorem word_blank (d : UInt8) (h : blankB d = true) : wordB d = false := by unfold wordB; rw [delim_blank d h]; rfl
theorem charL_local {x z : List UInt8} {v n : Nat} (h : charL x = .ok (v, n)) (e : z.take n = x.take n) (f : Foll (x.drop n) (z.drop n)) : charL z = .ok (v, n) ∧ 1 ≤ n ∧ n ≤ x.length := by
  unfold charL at h
  split at h
  · cases h
  rename_i hx
  split at h
  · cases h
  rename_i hb
  have hw := decodeL_wd hx
  obtain ⟨w, hwe⟩ : ∃ w, w = (decodeL x).2 := ⟨_, rfl⟩
  obtain ⟨m, hme⟩ : ∃ m, m = ((x.drop w).takeWhile (fun b => !delimB b)).length := ⟨_, rfl⟩
  simp only [← hwe] at h hw
  simp only [← hme] at h
  have hm : m ≤ x.length - w := by
    have := (List.takeWhile_sublist (fun b => !delimB b) (l := x.drop w)).length_le
    rw [List.length_drop] at this
    omega
  have hn : n = w + m := by
    split at h
    · injection h with h; injection h; omega
    · split at h
      · injection h with h; injection h; omega
      · split at h
        · split at h
          · injection h with h; injection h; omega
          · cases h
        · cases h
  subst hn
  have hz : w + m ≤ z.length := take_len_of e (by omega)
  have e1 := take_mono e (show w ≤ w + m by omega)
  have dz := decodeL_local (z := z) hx hb (by rw [← hwe]; exact e1)
  have e2 : (z.drop w).take m = (x.drop w).take m := by
    have := congrArg (List.drop w) e
    rwa [List.drop_take, List.drop_take, show w + m - w = m by omega] at this
  have ez : (z.drop w).takeWhile (fun b => !delimB b) = (x.drop w).takeWhile (fun b => !delimB b) := by
    refine tw_local _ _ _ (by rw [← hme]; exact e2) ?_
    rw [← hme, List.drop_drop]
    refine f.tail delim_blank ?_
    rw [← List.drop_drop, hme]
    exact tw_drop _ _
  have hznil : z ≠ [] := by intro g; rw [g] at hz; simp only [List.length_nil] at hz; omega
  refine ⟨?_, by omega, by omega⟩
  unfold charL
  rw [if_neg hznil, dz, if_neg hb]
  simp only [← hwe]
  rw [ez, ← hme, e2, e]
  exact h
theorem charL_err {x : List UInt8} (y : List UInt8) {c : Nat} (h : charL x = .error c) (hc : c ≠ 11) : charL (x ++ 10 :: y) = .error c := by
  unfold charL at h
  split at h
  · injection h with h; exact absurd h.symm hc
  rename_i hx
  have hnil : x ++ 10 :: y ≠ [] := by simp
  unfold charL
  rw [if_neg hnil]
  split at h
  · rename_i hb
    rw [decodeL_bad y hx hb, if_pos ⟨rfl, rfl⟩]
    exact h
  rename_i hb
  have hw := decodeL_wd hx
  rw [decodeL_local (z := x ++ 10 :: y) hx hb (by rw [List.take_append_of_le_length hw.2]), if_neg hb]
  obtain ⟨w, hwe⟩ : ∃ w, w = (decodeL x).2 := ⟨_, rfl⟩
  simp only [← hwe] at h hw ⊢
  rw [List.drop_append_of_le_length hw.2, tw_app _ (by decide)]
  obtain ⟨m, hme⟩ : ∃ m, m = ((x.drop w).takeWhile (fun b => !delimB b)).length := ⟨_, rfl⟩
  have hm : m ≤ (x.drop w).length := by rw [hme]; exact (List.takeWhile_sublist _).length_le
  rw [← hme] at h ⊢
  rw [List.take_append_of_le_length (by rw [List.length_drop] at hm; omega), List.take_append_of_le_length hm]
  exact h
/-! ### tokens -/
theorem wordB_35 : wordB 35 = true := by decide
theorem word_hash (t : List UInt8) {k : Nat} {d : Leaf} (h : wordV ((35 :: t).takeWhile wordB) = .ok (k, d)) : ((35 :: t).takeWhile wordB).length > 1 := by
  rw [List.takeWhile_cons, if_pos wordB_35] at h ⊢
  cases hc : t.takeWhile wordB with
  | nil => rw [hc] at h; exact absurd h (by unfold wordV; simp)
  | cons a b => simp
theorem wordV_nil {r : Nat × Leaf} (h : wordV [] = .ok r) : False := by
  have : parseV [] = none := by unfold parseV; simp [body, signB, Lib.hasPrefix]
  unfold wordV at h
  rw [this] at h
  simp [textL, runesL, runesGo] at h
theorem tok_head {x : List UInt8} {t : Tk} (h : tokL x = .ok t) : skipL 0 x = .ok 0 := by
  cases x with
  | nil => cases h
  | cons c u =>
    by_cases hb : blankB c = true
    · exfalso
      have hd : wordB c = false := word_blank c hb
      have : c = 9 ∨ c = 10 ∨ c = 12 ∨ c = 13 ∨ c = 32 := by simpa [blankB, or_assoc] using hb
      rw [tokL, if_neg (by rcases this with g | g | g | g | g <;> rw [g] <;> decide), if_neg (by rcases this with g | g | g | g | g <;> rw [g] <;> decide), if_neg (by rcases this with g | g | g | g | g <;> rw [g] <;> decide), if_neg (by rcases this with g | g | g | g | g <;> rw [g] <;> decide), if_neg (by rcases this with g | g | g | g | g <;> rw [g] <;> decide), if_neg (by rcases this with g | g | g | g | g <;> rw [g] <;> decide), if_neg (by rcases this with g | g | g | g | g <;> rw [g] <;> simp), if_neg (by rcases this with g | g | g | g | g <;> rw [g] <;> simp), List.takeWhile_cons, if_neg (by rw [hd]; decide)] at h
      cases hw : wordV [] with
      | ok r => exact wordV_nil hw
      | error e => rw [hw] at h; cases h
    by_cases h2 : c = 59
    · exfalso
      subst h2
      rw [tokL, if_neg (by decide), if_neg (by decide), if_neg (by decide), if_neg (by decide), if_neg (by decide), if_neg (by decide), if_neg (by simp), if_neg (by simp), List.takeWhile_cons, if_neg (by decide)] at h
      cases hw : wordV [] with
      | ok r => exact wordV_nil hw
      | error e => rw [hw] at h; cases h
    by_cases h3 : c = 35 ∧ u.head? = some 124
    · exfalso
      obtain ⟨rfl, h4⟩ := h3
      cases u with
      | nil => simp at h4
      | cons d v =>
        obtain rfl : d = 124 := by simpa using h4
        rw [tokL, if_neg (by decide), if_neg (by decide), if_neg (by decide), if_neg (by decide), if_neg (by decide), if_neg (by decide), if_neg (by simp), if_neg (by simp), List.takeWhile_cons, if_pos wordB_35, List.takeWhile_cons, if_neg (by decide)] at h
        have : wordV [35] = .error 9 := by unfold wordV; simp
        rw [this] at h
        cases h
    · rw [skipL, if_neg hb, if_neg h2, if_neg h3]
theorem tok_len {x : List UInt8} {t : Tk} (h : tokL x = .ok t) : 1 ≤ t.len ∧ t.len ≤ x.length ∧ t.kind ≠ 0 := by
  cases x with
  | nil => cases h
  | cons c u =>
    rw [tokL] at h
    rw [List.length_cons]
    split at h
    · injection h with h; subst h; simp
    split at h
    · injection h with h; subst h; simp
    split at h
    · injection h with h; subst h; simp
    split at h
    · injection h with h; subst h; simp
    split at h
    · split at h
      · rename_i g
        injection h with h; subst h
        cases u with
        | nil => simp at g
        | cons => simp
      · injection h with h; subst h; simp
    split at h
    · cases hq : quoL c 0 u with
      | open_ => rw [hq] at h; cases h
      | bad => rw [hq] at h; cases h
      | ok o n =>
        rw [hq] at h
        simp only at h
        obtain ⟨_, _, g⟩ := quoL_local c u u 0 o n hq rfl
        cases ht : textL (c == 124) o with
        | error e => rw [ht] at h; cases h
        | ok d => rw [ht] at h; injection h with h; subst h; simp only; omega
    split at h
    · rename_i g
      injection h with h; subst h
      cases u with
      | nil => simp at g
      | cons => simp
    split at h
    · rename_i g
      cases hq : charL (u.drop 1) with
      | error e => rw [hq] at h; cases h
      | ok p =>
        obtain ⟨v, n⟩ := p
        rw [hq] at h
        injection h with h; subst h
        obtain ⟨_, a, b⟩ := charL_local hq rfl (.inr (.inr rfl))
        rw [List.length_drop] at b
        simp only
        omega
    · cases hq : wordV ((c :: u).takeWhile wordB) with
      | error e => rw [hq] at h; cases h
      | ok p =>
        obtain ⟨k, d⟩ := p
        rw [hq] at h
        injection h with h
        have hne : (c :: u).takeWhile wordB ≠ [] := by
          intro g
          rw [g] at hq
          exact wordV_nil hq
        have h1 := List.length_pos_iff.2 hne
        have h2 := (List.takeWhile_sublist wordB (l := c :: u)).length_le
        rw [List.length_cons] at h2
        subst h
        simp only
        refine ⟨by omega, by omega, ?_⟩
        rintro rfl
        unfold wordV at hq
        split at hq
        · injection hq with hq; injection hq with hq; cases hq
        split at hq
        · injection hq with hq; injection hq with hq; cases hq
        split at hq
        · injection hq with hq; injection hq with hq; cases hq
        split at hq
        · cases hq
        split at hq
        · split at hq
          · injection hq with hq; injection hq with hq; cases hq
          · cases hq
        · split at hq
          · injection hq with hq; injection hq with hq; cases hq
          · cases hq
theorem tok_local {x z : List UInt8} {t : Tk} (h : tokL x = .ok t) (e : z.take t.len = x.take t.len) (f : Foll (x.drop t.len) (z.drop t.len)) : tokL z = .ok t := by
  have hl := tok_len h
  have hz := take_len_of e hl.2.1
  cases x with
  | nil => cases h
  | cons c u =>
    cases z with
    | nil => simp at hz; omega
    | cons c' v =>
      obtain ⟨n, hn⟩ : ∃ n, t.len = n + 1 := ⟨t.len - 1, by omega⟩
      rw [hn, List.take_succ_cons, List.take_succ_cons] at e
      rw [hn, List.drop_succ_cons, List.drop_succ_cons] at f
      injection e with e1 e2
      subst e1
      rw [tokL] at h ⊢
      split at h
      · rename_i g; rw [if_pos g]; exact h
      rename_i g1; rw [if_neg g1]
      split at h
      · rename_i g; rw [if_pos g]; exact h
      rename_i g2; rw [if_neg g2]
      split at h
      · rename_i g; rw [if_pos g]; exact h
      rename_i g3; rw [if_neg g3]
      split at h
      · rename_i g; rw [if_pos g]; exact h
      rename_i g4; rw [if_neg g4]
      split at h
      · rename_i g; rw [if_pos g]
        split at h
        · rename_i k
          injection h with h'; subst h'
          simp only at hn
          obtain rfl : n = 1 := by omega
          have : v.head? = some 64 := by
            cases u with
            | nil => simp at k
            | cons a b =>
              cases v with
              | nil => simp at e2
              | cons a' b' =>
                simp at e2 k ⊢
                rw [e2, k]
          rw [if_pos this]
        · rename_i k
          injection h with h'; subst h'
          simp only at hn
          obtain rfl : n = 0 := by omega
          have : ¬ v.head? = some 64 := by
            simp only [List.drop_zero] at f
            rcases f with f | ⟨d, q, f, g⟩ | f
            · rw [f]; simp
            · rw [f]; simp only [List.head?_cons, Option.some.injEq]; rintro rfl; exact absurd g (by decide)
            · rw [f]; exact k
          rw [if_neg this]
      rename_i g5; rw [if_neg g5]
      split at h
      · rename_i g; rw [if_pos g]
        cases hq : quoL c' 0 u with
        | open_ => rw [hq] at h; cases h
        | bad => rw [hq] at h; cases h
        | ok o m =>
          rw [hq] at h
          simp only at h
          cases ht : textL (c' == 124) o with
          | error e => rw [ht] at h; cases h
          | ok d =>
            rw [ht] at h
            injection h with h'; subst h'
            simp only at hn
            obtain rfl : n = m := by omega
            rw [(quoL_local c' u v 0 o n hq e2).1]
            simp only
            rw [ht]
      rename_i g6; rw [if_neg g6]
      split at h
      · rename_i g
        injection h with h'; subst h'
        simp only at hn
        obtain rfl : n = 1 := by omega
        have : v.head? = some 40 := by
          cases u with
          | nil => simp at g
          | cons a b =>
            cases v with
            | nil => simp at e2
            | cons a' b' =>
              simp at e2 g ⊢
              rw [e2, g.2]
        rw [if_pos ⟨g.1, this⟩]
      rename_i g7
      split at h
      · rename_i g
        cases hq : charL (u.drop 1) with
        | error e => rw [hq] at h; cases h
        | ok p =>
          obtain ⟨a, m⟩ := p
          rw [hq] at h
          injection h with h'; subst h'
          simp only at hn
          obtain rfl : n = 1 + m := by omega
          have hm : 1 ≤ m := (charL_local hq rfl (.inr (.inr rfl))).2.1
          have h92 : v.head? = some 92 := by
            cases u with
            | nil => simp at g
            | cons a b =>
              cases v with
              | nil => exfalso; have := congrArg List.length e2; rw [List.length_take, List.length_take, List.length_cons, List.length_nil] at this; omega
              | cons a' b' =>
                rw [show 1 + m = m + 1 by omega, List.take_succ_cons, List.take_succ_cons] at e2
                injection e2 with e3 e4
                simp at g ⊢
                rw [e3, g.2]
          have h40 : ¬ (c' = 35 ∧ v.head? = some 40) := by rw [h92]; simp
          rw [if_neg h40, if_pos ⟨g.1, h92⟩]
          have e5 : (v.drop 1).take m = (u.drop 1).take m := by
            have := congrArg (List.drop 1) e2
            rwa [List.drop_take, List.drop_take, show 1 + m - 1 = m by omega] at this
          have hc := (charL_local hq e5 (by rw [List.drop_drop, List.drop_drop]; exact f)).1
          rw [hc]
      rename_i g8
      cases hq : wordV ((c' :: u).takeWhile wordB) with
      | error e => rw [hq] at h; cases h
      | ok p =>
        obtain ⟨k, d⟩ := p
        rw [hq] at h
        injection h with h'
        have hlen : ((c' :: u).takeWhile wordB).length = n + 1 := by rw [← h'] at hn; exact hn
        have hw : (c' :: v).takeWhile wordB = (c' :: u).takeWhile wordB := by
          refine tw_local _ _ _ (by rw [hlen, List.take_succ_cons, List.take_succ_cons, e2]) ?_
          rw [hlen, List.drop_succ_cons]
          refine f.tail word_blank ?_
          have := tw_drop wordB (c' :: u)
          rwa [hlen, List.drop_succ_cons] at this
        have h35 : ∀ b, wordB b = false ∨ b = 40 ∨ b = 92 → ¬ (c' = 35 ∧ v.head? = some b) := by
          rintro b hb ⟨rfl, hv⟩
          have hn1 := word_hash u hq
          rw [hlen] at hn1
          cases u with
          | nil =>
            have := (List.takeWhile_sublist wordB (l := [35])).length_le
            rw [hlen] at this
            simp at this
            omega
          | cons a u' =>
            cases v with
            | nil => simp at hv
            | cons a' v' =>
              obtain ⟨n', rfl⟩ : ∃ n', n = n' + 1 := ⟨n - 1, by omega⟩
              rw [List.take_succ_cons, List.take_succ_cons] at e2
              injection e2 with e3 e4
              subst e3
              simp at hv
              subst hv
              rw [List.takeWhile_cons, if_pos wordB_35] at hlen
              rcases hb with hb | rfl | rfl
              · rw [List.takeWhile_cons, if_neg (by rw [hb]; decide)] at hlen
                simp at hlen
              · exact g7 ⟨rfl, rfl⟩
              · exact g8 ⟨rfl, rfl⟩
        rw [if_neg (h35 40 (.inr (.inl rfl))), if_neg (h35 92 (.inr (.inr rfl))), hw, hq]
        simp only
        rw [h']
theorem head_app {x : List UInt8} (y : List UInt8) (b : UInt8) (hb : b ≠ 10) : (x ++ 10 :: y).head? = some b ↔ x.head? = some b := by
  cases x with
  | nil =>
    simp only [List.nil_append, List.head?_cons, List.head?_nil, Option.some.injEq]
    exact ⟨fun h => absurd h.symm hb, fun h => by cases h⟩
  | cons => simp
theorem tok_err {x : List UInt8} (y : List UInt8) {p c : Nat} (hx : x ≠ []) (h : tokL x = .error (p, c)) (hc : c ≠ 11) : tokL (x ++ 10 :: y) = .error (p, c) := by
  cases x with
  | nil => exact absurd rfl hx
  | cons b u =>
    rw [List.cons_append]
    rw [tokL] at h ⊢
    split at h
    · cases h
    rename_i g; rw [if_neg g]
    split at h
    · cases h
    rename_i g; rw [if_neg g]
    split at h
    · cases h
    rename_i g; rw [if_neg g]
    split at h
    · cases h
    rename_i g; rw [if_neg g]
    split at h
    · split at h <;> cases h
    rename_i g; rw [if_neg g]
    split at h
    · rename_i g; rw [if_pos g]
      cases hq : quoL b 0 u with
      | open_ => rw [hq] at h; injection h with h; injection h with h1 h2; exact absurd h2.symm hc
      | bad i =>
        rw [hq] at h
        rw [quoL_bad b y u 0 i hq]
        exact h
      | ok o n =>
        rw [hq] at h
        have hn := (quoL_local b u u 0 o n hq rfl).2.2
        rw [(quoL_local b u (u ++ 10 :: y) 0 o n hq (by rw [List.take_append_of_le_length hn])).1]
        exact h
    rename_i g; rw [if_neg g]
    split at h
    · cases h
    rename_i g; rw [if_neg (by rw [head_app _ _ (by decide)]; exact g)]
    split at h
    · rename_i g; rw [if_pos (by rw [head_app _ _ (by decide)]; exact g)]
      cases hq : charL (u.drop 1) with
      | ok p => obtain ⟨v, n⟩ := p; rw [hq] at h; cases h
      | error e =>
        rw [hq] at h
        injection h with h; injection h with h1 h2
        have hu : 1 ≤ u.length := by
          cases u with
          | nil => simp at g
          | cons => simp
        rw [List.drop_append_of_le_length hu, charL_err y hq (by rw [h2]; exact hc)]
        simp only
        rw [h1, h2]
    rename_i g; rw [if_neg (by rw [head_app _ _ (by decide)]; exact g)]
    rw [← List.cons_append, tw_app _ (by decide)]
    exact h
end Go.Proofs.YtonnikipeokkaaaGreatDoor

namespace Go.Proofs.YtonnikipeokkaaaGreatDoor
open Go.Lib

/-- The token at a place that is handed over. -/
def nextV (l : List UInt8) (at_ : Int) : Except (Nat × Nat) (Nat × Tk) :=
  if 4096 < l.length then .error (0, 12) else if at_ < 0 ∨ (l.length : Int) < at_ then .error (0, 1) else lexAt l at_.toNat
theorem nextV_eq {l : List UInt8} {i : Nat} (h : l.length ≤ 4096) (hi : i ≤ l.length) : nextV l i = lexAt l i := by
  unfold nextV
  rw [if_neg (by omega), if_neg (by omega)]
  rfl
theorem skip_le : ∀ (x : List UInt8) (n m : Nat), n ≤ x.length → skipL n x = .ok m → m ≤ x.length := fun x n m hn h => (skip_app [] x n m hn h).2.2
theorem skip_err : ∀ (x : List UInt8) (n m : Nat), n ≤ x.length → skipL n x = .error m → m < x.length
  | [], n, m, _, h => by cases n <;> cases h
  | c :: t, n + 1, m, hn, h => by
    rw [skipL] at h
    cases hs : skipL n t with
    | ok e => rw [hs] at h; cases h
    | error k =>
      rw [hs] at h
      injection h with h
      have := skip_err t n k (by simpa using hn) hs
      simp only [List.length_cons]; omega
  | c :: t, 0, m, hn, h => by
    rw [skipL] at h
    have key : ∀ k, k ≤ t.length → (match skipL k t with | .ok m => Except.ok (m + 1) | .error m => .error (m + 1)) = (Except.error m : Except Nat Nat) → m < (c :: t).length := by
      intro k hk h
      cases hs : skipL k t with
      | ok e => rw [hs] at h; cases h
      | error j =>
        rw [hs] at h
        injection h with h
        have := skip_err t k j hk hs
        simp only [List.length_cons]; omega
    split at h
    · exact key 0 (by omega) h
    split at h
    · exact key _ (List.takeWhile_sublist _).length_le h
    split at h
    · rename_i g
      cases hc : comB 1 (t.drop 1) with
      | none => rw [hc] at h; injection h with h; rw [← h]; simp
      | some k =>
        have := comB_le _ _ _ hc
        rw [List.length_drop] at this
        rw [hc] at h
        exact key _ (by omega) h
    · cases h
theorem lexAt_ok {l : List UInt8} {i j : Nat} {t : Tk} (hi : i ≤ l.length) (h : lexAt l i = .ok (j, t)) :
    i ≤ j ∧ j + t.len ≤ l.length ∧ skipAt l i = .ok j ∧ ((j = l.length ∧ t = ⟨0, 0, false, .no⟩) ∨ (j < l.length ∧ tokL (l.drop j) = .ok t ∧ 1 ≤ t.len ∧ t.kind ≠ 0)) := by
  unfold lexAt at h
  cases hs : skipAt l i with
  | error p => rw [hs] at h; cases h
  | ok k =>
    rw [hs] at h
    have hk : i ≤ k ∧ k ≤ l.length := by
      unfold skipAt at hs
      cases hq : skipL 0 (l.drop i) with
      | error p => rw [hq] at hs; cases hs
      | ok m =>
        rw [hq] at hs
        injection hs with hs
        have := skip_le _ _ _ (by omega) hq
        rw [List.length_drop] at this
        omega
    simp only at h
    split at h
    · rename_i g
      injection h with h; injection h with h1 h2
      subst h1; subst h2
      exact ⟨hk.1, by simp; omega, rfl, .inl ⟨g, rfl⟩⟩
    · rename_i g
      cases ht : tokL (l.drop k) with
      | error e => rw [ht] at h; cases h
      | ok t' =>
        rw [ht] at h
        injection h with h; injection h with h1 h2
        subst h1; subst h2
        have := tok_len ht
        rw [List.length_drop] at this
        exact ⟨hk.1, by omega, rfl, .inr ⟨by omega, ht, this.1, this.2.2⟩⟩
theorem textL_err {b : Bool} {t : List UInt8} {e : Nat} (h : textL b t = .error e) : e = 6 ∨ e = 9 := by
  unfold textL at h
  split at h
  · injection h; omega
  split at h
  · injection h; omega
  split at h
  · injection h; omega
  · cases h
theorem charL_code {t : List UInt8} {e : Nat} (h : charL t = .error e) : e = 9 ∨ e = 11 := by
  unfold charL at h
  split at h
  · injection h; omega
  split at h
  · injection h; omega
  simp only at h
  split at h
  · cases h
  split at h
  · cases h
  split at h
  · split at h
    · cases h
    · injection h; omega
  · injection h; omega
theorem wordV_err {t : List UInt8} {e : Nat} (h : wordV t = .error e) : e = 6 ∨ e = 9 := by
  unfold wordV at h
  split at h
  · cases h
  split at h
  · cases h
  split at h
  · cases h
  split at h
  · injection h; omega
  split at h
  · split at h
    · cases h
    · injection h; omega
  · split at h
    · cases h
    · rename_i g
      injection h with h
      have := textL_err g
      omega
theorem quoL_bd (by_ : UInt8) : ∀ (x : List UInt8) (k i : Nat), quoL by_ k x = .bad i → i < x.length
  | [], k, i, h => by cases k <;> cases h
  | c :: t, k + 1, i, h => by
    rw [quoL] at h
    obtain ⟨j, h1, h2⟩ := QuoR.up_bad h
    have := quoL_bd by_ t k j h1
    rw [List.length_cons]; omega
  | c :: t, 0, i, h => by
    rw [quoL] at h
    rw [List.length_cons]
    split at h
    · cases h
    split at h
    · obtain ⟨j, h1, h2⟩ := QuoR.up_bad h
      have := quoL_bd by_ t 0 j h1
      omega
    split at h
    · cases h
    · injection h; omega
    · obtain ⟨j, h1, h2⟩ := QuoR.up_bad h
      have := quoL_bd by_ t _ j h1
      omega
theorem tok_err_bd {x : List UInt8} {p c : Nat} (hx : x ≠ []) (h : tokL x = .error (p, c)) : p < x.length ∧ (c = 6 ∨ c = 9 ∨ c = 11) := by
  cases x with
  | nil => exact absurd rfl hx
  | cons b u =>
    rw [tokL] at h
    rw [List.length_cons]
    split at h
    · cases h
    split at h
    · cases h
    split at h
    · cases h
    split at h
    · cases h
    split at h
    · split at h <;> cases h
    split at h
    · split at h
      · injection h with h; injection h; omega
      · rename_i i hq
        have := quoL_bd _ _ _ _ hq
        injection h with h; injection h; omega
      · split at h
        · cases h
        · rename_i e he
          have := textL_err he
          injection h with h; injection h; omega
    split at h
    · cases h
    split at h
    · split at h
      · cases h
      · rename_i e he
        have := charL_code he
        injection h with h; injection h; omega
    · split at h
      · cases h
      · rename_i e he
        have := wordV_err he
        injection h with h; injection h; omega
theorem lexAt_err {l : List UInt8} {i p c : Nat} (hi : i ≤ l.length) (h : lexAt l i = .error (p, c)) : p < l.length ∧ (c = 6 ∨ c = 9 ∨ c = 11) := by
  unfold lexAt at h
  cases hs : skipAt l i with
  | error k =>
    rw [hs] at h
    injection h with h; injection h with h1 h2
    unfold skipAt at hs
    cases hq : skipL 0 (l.drop i) with
    | ok m => rw [hq] at hs; cases hs
    | error m =>
      rw [hq] at hs
      injection hs with hs
      have := skip_err _ _ _ (by omega) hq
      rw [List.length_drop] at this
      omega
  | ok k =>
    have hk : i ≤ k ∧ k ≤ l.length := by
      unfold skipAt at hs
      cases hq : skipL 0 (l.drop i) with
      | error p => rw [hq] at hs; cases hs
      | ok m =>
        rw [hq] at hs
        injection hs with hs
        have := skip_le _ _ _ (by omega) hq
        rw [List.length_drop] at this
        omega
    rw [hs] at h
    simp only at h
    split at h
    · cases h
    · rename_i g
      cases ht : tokL (l.drop k) with
      | ok t' => rw [ht] at h; cases h
      | error e =>
        obtain ⟨q, d⟩ := e
        rw [ht] at h
        injection h with h; injection h with h1 h2
        have hne : l.drop k ≠ [] := by
          intro hh
          have := congrArg List.length hh
          rw [List.length_drop] at this
          simp at this
          omega
        have := tok_err_bd hne ht
        rw [List.length_drop] at this
        omega
theorem lexAt_of {l : List UInt8} {i j : Nat} {t : Tk} (hs : skipAt l i = .ok j) (hj : j < l.length) (ht : tokL (l.drop j) = .ok t) : lexAt l i = .ok (j, t) := by
  unfold lexAt
  rw [hs]
  simp only
  rw [if_neg (by omega), ht]
theorem skipAt_tok {l : List UInt8} {j : Nat} {t : Tk} (ht : tokL (l.drop j) = .ok t) : skipAt l j = .ok j := by
  unfold skipAt
  rw [tok_head ht]
  rfl
/-! ### all tokens -/
/-! ### two texts -/
/-- So many bytes further. -/
def shR (n : Nat) : Except (Nat × Nat) (Nat × Tk) → Except (Nat × Nat) (Nat × Tk)
  | .ok (j, t) => .ok (n + j, t)
  | .error (p, c) => .error (n + p, c)
theorem drop_app_add (p y : List UInt8) (i : Nat) : (p ++ y).drop (p.length + i) = y.drop i := by
  rw [List.drop_append, List.drop_of_length_le (by omega), List.nil_append, show p.length + i - p.length = i by omega]
theorem lexAt_app (p y : List UInt8) (i : Nat) : lexAt (p ++ y) (p.length + i) = shR p.length (lexAt y i) := by
  have hs : skipAt (p ++ y) (p.length + i) = upE p.length (skipAt y i) := by
    unfold skipAt
    rw [drop_app_add, upE_upE]
  unfold lexAt
  rw [hs]
  cases skipAt y i with
  | error e => rfl
  | ok j =>
    simp only [upE]
    by_cases g : j = y.length
    · rw [if_pos g, if_pos (by rw [List.length_append, g])]; rfl
    · rw [if_neg g, if_neg (by rw [List.length_append]; omega), drop_app_add]
      cases tokL (y.drop j) with
      | error e => obtain ⟨q, c⟩ := e; simp [shR, Nat.add_assoc]
      | ok t => rfl
/-- What the tokens of a text come to, if a line's end and another text stand behind it. -/
theorem skipAt_app {a : List UInt8} (y : List UInt8) {i j : Nat} (hi : i ≤ a.length) (h : skipAt a i = .ok j) : (j < a.length → skipAt (a ++ 10 :: y) i = .ok j) ∧ (j = a.length → skipAt (a ++ 10 :: y) i = skipAt (a ++ 10 :: y) (a.length + 1)) := by
  unfold skipAt at h ⊢
  cases hq : skipL 0 (a.drop i) with
  | error p => rw [hq] at h; cases h
  | ok m =>
    rw [hq] at h
    injection h with h
    have hs := skip_app y _ _ _ (Nat.zero_le _) hq
    rw [List.length_drop] at hs
    rw [List.drop_append_of_le_length hi]
    refine ⟨fun hj => ?_, fun hj => ?_⟩
    · rw [hs.1 (by omega), ← h]; rfl
    · rw [hs.2.1 (by omega), upE_upE]
      have : (a ++ 10 :: y).drop (a.length + 1) = y := by
        rw [drop_app_add]; rfl
      rw [this, show i + (a.length - i + 1) = a.length + 1 by omega]
theorem lexAt_skip {l : List UInt8} {i k : Nat} (h : skipAt l i = skipAt l k) : lexAt l i = lexAt l k := by
  unfold lexAt
  rw [h]
/-! ### a token's own bytes -/
/-! ### tokens rise -/
end Go.Proofs.YtonnikipeokkaaaGreatDoor

namespace Go.Proofs.YtonnikipeokkaaaGreatDoor
open Go.Lib

/-- A datum, field by field. -/
inductive Raw where
  | mk (k c : Int) (neg : Bool) (mag : List Nat) (t : ByteArray) (l : List Raw)
def Raw.nil : Raw := .mk 0 0 false [] ⟨#[]⟩ []
def leafR : Leaf → Raw
  | .no => .nil
  | .tru => .mk 1 0 false [] ⟨#[]⟩ []
  | .fls => .mk 2 0 false [] ⟨#[]⟩ []
  | .chr c => .mk 3 (c : Int) false [] ⟨#[]⟩ []
  | .int x => .mk 4 0 (decide (x < 0)) (limbs x.natAbs) ⟨#[]⟩ []
  | .str t => .mk 5 0 false [] ⟨t.toArray⟩ []
  | .sym t => .mk 6 0 false [] ⟨t.toArray⟩ []
def pairR (a d : Raw) : Raw := .mk 7 0 false [] ⟨#[]⟩ [a, d]
def vecR (l : List Raw) : Raw := .mk 8 0 false [] ⟨#[]⟩ l
def listR : List Raw → Raw → Raw
  | [], d => d
  | x :: l, d => pairR x (listR l d)
/-- The symbol of a mark. -/
def markW : Nat → List UInt8
  | 4 => [113, 117, 111, 116, 101]
  | 5 => [113, 117, 97, 115, 105, 113, 117, 111, 116, 101]
  | 6 => [117, 110, 113, 117, 111, 116, 101]
  | 7 => [117, 110, 113, 117, 111, 116, 101, 45, 115, 112, 108, 105, 99, 105, 110, 103]
  | _ => []
/-- What a mark ahead of a datum makes. -/
def markR (k : Nat) (d : Raw) : Raw := pairR (leafR (.sym (markW k))) (pairR d .nil)
abbrev Got := Except (Nat × Nat) (Raw × Nat)
/-- What is to be read: from a token on; the rest of a list; the rest of a vector. -/
inductive Goal where
  | frm (j : Nat) (t : Tk) (deep : Nat)
  | lst (o : Nat) (sq : Bool) (deep i : Nat) (items : List Raw) (dot : Nat) (tail : Raw)
  | vec (o : Nat) (deep i : Nat) (items : List Raw)
/-- A token with which a datum may begin. -/
def Tk.beg (t : Tk) : Prop := t.kind ≠ 0 ∧ t.kind ≠ 2 ∧ t.kind ≠ 8
/-- The document's reading. -/
inductive Rd (l : List UInt8) : Goal → Got → Prop
  | datum {j deep : Nat} {t : Tk} (h : t.kind = 9) : Rd l (.frm j t deep) (.ok (leafR t.d, j + t.len))
  | deep {j deep : Nat} {t : Tk} (h : t.kind ≠ 9) (hd : deep = 64) : Rd l (.frm j t deep) (.error (j, 10))
  | opn {j deep : Nat} {t : Tk} {r : Got} (h : t.kind = 1) (hd : deep ≠ 64) (n : Rd l (.lst j t.sq (deep + 1) (j + t.len) [] 0 .nil) r) : Rd l (.frm j t deep) r
  | vct {j deep : Nat} {t : Tk} {r : Got} (h : t.kind = 3) (hs : t.sq = false) (hd : deep ≠ 64) (n : Rd l (.vec j (deep + 1) (j + t.len) []) r) : Rd l (.frm j t deep) r
  | markLex {j deep p c : Nat} {t : Tk} (h : 4 ≤ t.kind ∧ t.kind ≤ 7) (hd : deep ≠ 64) (n : nextV l ((j + t.len : Nat) : Int) = .error (p, c)) : Rd l (.frm j t deep) (.error (p, c))
  | markEnd {j deep k : Nat} {t u : Tk} (h : 4 ≤ t.kind ∧ t.kind ≤ 7) (hd : deep ≠ 64) (n : nextV l ((j + t.len : Nat) : Int) = .ok (k, u)) (hu : u.kind = 0) : Rd l (.frm j t deep) (.error (j, 11))
  | markBad {j deep k : Nat} {t u : Tk} (h : 4 ≤ t.kind ∧ t.kind ≤ 7) (hd : deep ≠ 64) (n : nextV l ((j + t.len : Nat) : Int) = .ok (k, u)) (hu : u.kind = 2 ∨ u.kind = 8) : Rd l (.frm j t deep) (.error (k, 9))
  | markErr {j deep k p c : Nat} {t u : Tk} (h : 4 ≤ t.kind ∧ t.kind ≤ 7) (hd : deep ≠ 64) (n : nextV l ((j + t.len : Nat) : Int) = .ok (k, u)) (hu : u.beg) (m : Rd l (.frm k u (deep + 1)) (.error (p, c))) : Rd l (.frm j t deep) (.error (p, c))
  | markOk {j deep k e : Nat} {t u : Tk} {d : Raw} (h : 4 ≤ t.kind ∧ t.kind ≤ 7) (hd : deep ≠ 64) (n : nextV l ((j + t.len : Nat) : Int) = .ok (k, u)) (hu : u.beg) (m : Rd l (.frm k u (deep + 1)) (.ok (d, e))) : Rd l (.frm j t deep) (.ok (markR t.kind d, e))
  | lstLex {o deep i dot p c : Nat} {sq : Bool} {items : List Raw} {tail : Raw} (n : nextV l (i : Int) = .error (p, c)) : Rd l (.lst o sq deep i items dot tail) (.error (p, c))
  | lstEnd {o deep i dot k : Nat} {u : Tk} {sq : Bool} {items : List Raw} {tail : Raw} (n : nextV l (i : Int) = .ok (k, u)) (hu : u.kind = 0) : Rd l (.lst o sq deep i items dot tail) (.error (o, 11))
  | lstBad {o deep i dot k : Nat} {u : Tk} {sq : Bool} {items : List Raw} {tail : Raw} (n : nextV l (i : Int) = .ok (k, u)) (hu : u.kind = 2) (hb : u.sq ≠ sq ∨ dot = 1) : Rd l (.lst o sq deep i items dot tail) (.error (k, 9))
  | lstOk {o deep i dot k : Nat} {u : Tk} {sq : Bool} {items : List Raw} {tail : Raw} (n : nextV l (i : Int) = .ok (k, u)) (hu : u.kind = 2) (hb : u.sq = sq) (hd : dot ≠ 1) : Rd l (.lst o sq deep i items dot tail) (.ok (listR items tail, k + u.len))
  | dotBad {o deep i dot k : Nat} {u : Tk} {sq : Bool} {items : List Raw} {tail : Raw} (n : nextV l (i : Int) = .ok (k, u)) (hu : u.kind = 8) (hb : 0 < dot ∨ items = []) : Rd l (.lst o sq deep i items dot tail) (.error (k, 9))
  | dotOk {o deep i dot k : Nat} {u : Tk} {sq : Bool} {items : List Raw} {tail : Raw} {r : Got} (n : nextV l (i : Int) = .ok (k, u)) (hu : u.kind = 8) (h0 : dot = 0) (hi : items ≠ []) (m : Rd l (.lst o sq deep (k + u.len) items 1 tail) r) : Rd l (.lst o sq deep i items dot tail) r
  | full {o deep i dot k : Nat} {u : Tk} {sq : Bool} {items : List Raw} {tail : Raw} (n : nextV l (i : Int) = .ok (k, u)) (hu : u.beg) (hb : dot = 2) : Rd l (.lst o sq deep i items dot tail) (.error (k, 9))
  | itemErr {o deep i dot k p c : Nat} {u : Tk} {sq : Bool} {items : List Raw} {tail : Raw} (n : nextV l (i : Int) = .ok (k, u)) (hu : u.beg) (hb : dot ≠ 2) (m : Rd l (.frm k u deep) (.error (p, c))) : Rd l (.lst o sq deep i items dot tail) (.error (p, c))
  | itemOk {o deep i dot k e : Nat} {u : Tk} {sq : Bool} {items : List Raw} {tail d : Raw} {r : Got} (n : nextV l (i : Int) = .ok (k, u)) (hu : u.beg) (hb : dot = 0) (m : Rd l (.frm k u deep) (.ok (d, e))) (g : Rd l (.lst o sq deep e (items ++ [d]) dot tail) r) : Rd l (.lst o sq deep i items dot tail) r
  | tailOk {o deep i dot k e : Nat} {u : Tk} {sq : Bool} {items : List Raw} {tail d : Raw} {r : Got} (n : nextV l (i : Int) = .ok (k, u)) (hu : u.beg) (hb : dot = 1) (m : Rd l (.frm k u deep) (.ok (d, e))) (g : Rd l (.lst o sq deep e items 2 d) r) : Rd l (.lst o sq deep i items dot tail) r
  | vecLex {o deep i p c : Nat} {items : List Raw} (n : nextV l (i : Int) = .error (p, c)) : Rd l (.vec o deep i items) (.error (p, c))
  | vecEnd {o deep i k : Nat} {u : Tk} {items : List Raw} (n : nextV l (i : Int) = .ok (k, u)) (hu : u.kind = 0) : Rd l (.vec o deep i items) (.error (o, 11))
  | vecBad {o deep i k : Nat} {u : Tk} {items : List Raw} (n : nextV l (i : Int) = .ok (k, u)) (hu : u.kind = 2) (hb : u.sq = true) : Rd l (.vec o deep i items) (.error (k, 9))
  | vecOk {o deep i k : Nat} {u : Tk} {items : List Raw} (n : nextV l (i : Int) = .ok (k, u)) (hu : u.kind = 2) (hb : u.sq = false) : Rd l (.vec o deep i items) (.ok (vecR items, k + u.len))
  | vecDot {o deep i k : Nat} {u : Tk} {items : List Raw} (n : nextV l (i : Int) = .ok (k, u)) (hu : u.kind = 8) : Rd l (.vec o deep i items) (.error (k, 9))
  | vecBig {o deep i k : Nat} {u : Tk} {items : List Raw} (n : nextV l (i : Int) = .ok (k, u)) (hu : u.beg) (hb : items.length = 62) : Rd l (.vec o deep i items) (.error (k, 6))
  | vecErr {o deep i k p c : Nat} {u : Tk} {items : List Raw} (n : nextV l (i : Int) = .ok (k, u)) (hu : u.beg) (hb : items.length ≠ 62) (m : Rd l (.frm k u deep) (.error (p, c))) : Rd l (.vec o deep i items) (.error (p, c))
  | vecItem {o deep i k e : Nat} {u : Tk} {items : List Raw} {d : Raw} {r : Got} (n : nextV l (i : Int) = .ok (k, u)) (hu : u.beg) (hb : items.length ≠ 62) (m : Rd l (.frm k u deep) (.ok (d, e))) (g : Rd l (.vec o deep e (items ++ [d])) r) : Rd l (.vec o deep i items) r
/-- The datum at a place. -/
inductive OneR (l : List UInt8) (i : Int) : Got → Prop
  | lex {p c : Nat} (n : nextV l i = .error (p, c)) : OneR l i (.error (p, c))
  | none {j : Nat} {t : Tk} (n : nextV l i = .ok (j, t)) (hk : t.kind = 0) : OneR l i (.error (j, 19))
  | bad {j : Nat} {t : Tk} (n : nextV l i = .ok (j, t)) (hk : t.kind = 2 ∨ t.kind = 8) : OneR l i (.error (j, 9))
  | frm {j : Nat} {t : Tk} {r : Got} (n : nextV l i = .ok (j, t)) (hk : t.beg) (m : Rd l (.frm j t 0) r) : OneR l i r
/-- All data from a place on, and how they end. -/
inductive DataR (l : List UInt8) : Nat → List Raw → Nat → Nat → Prop
  | bad {i p c : Nat} (h : OneR l i (.error (p, c))) (hc : c ≠ 19) : DataR l i [] p c
  | fin {i p : Nat} (h : OneR l i (.error (p, 19))) : DataR l i [] 0 0
  | cons {i n p c : Nat} {d : Raw} {ds : List Raw} (h : OneR l i (.ok (d, n))) (m : DataR l n ds p c) : DataR l i (d :: ds) p c
/-! ### the machine -/
/-- What has begun, and has not ended. -/
structure Fr where
  kind : Nat
  at_ : Nat
  sq : Bool
  dot : Nat
  tail : Raw
  items : List Raw
inductive Stp where
  | err (p c : Nat)
  | cont (S : List Fr)
  | done (d : Raw)
def Fr.mark (o : Fr) : Prop := 4 ≤ o.kind ∧ o.kind ≤ 7
instance (o : Fr) : Decidable o.mark := inferInstanceAs (Decidable (_ ∧ _))
def putF : List Fr → Raw → Stp
  | [], d => .done d
  | o :: S, d => if o.mark then putF S (markR o.kind d)
    else if o.dot = 1 then .cont (⟨o.kind, o.at_, o.sq, 2, d, o.items⟩ :: S) else .cont (⟨o.kind, o.at_, o.sq, o.dot, o.tail, o.items ++ [d]⟩ :: S)
def Fr.shut (o : Fr) : Raw := if o.kind = 3 then vecR o.items else listR o.items o.tail
def closeF : List Fr → Nat → Bool → Stp
  | [], j, _ => .err j 9
  | o :: S, j, sq => if o.mark ∨ o.sq ≠ sq ∨ o.dot = 1 then .err j 9 else putF S o.shut
def dotF : List Fr → Nat → Stp
  | [], j => .err j 9
  | o :: S, j => if o.kind ≠ 1 ∨ o.items = [] ∨ o.dot ≠ 0 then .err j 9 else .cont (⟨o.kind, o.at_, o.sq, 1, o.tail, o.items⟩ :: S)
def endF : List Fr → Nat → Stp
  | [], j => .err j 19
  | o :: _, _ => .err o.at_ 11
/-- May a datum begin? 0: yes; else the error's number. -/
def begF (S : List Fr) (t : Tk) : Nat :=
  match S with
  | [] => 0
  | o :: _ => if o.dot = 2 then 9 else if o.kind = 3 ∧ o.items.length = 62 then 6 else if t.kind ≠ 9 ∧ S.length = 64 then 10 else 0
def stepF (S : List Fr) (j : Nat) (t : Tk) : Stp :=
  if t.kind = 0 then endF S j
  else if t.kind = 8 then dotF S j
  else if t.kind = 2 then closeF S j t.sq
  else if begF S t ≠ 0 then .err j (begF S t)
  else if t.kind = 9 then putF S (leafR t.d)
  else .cont (⟨t.kind, j, t.sq, 0, .nil, []⟩ :: S)
/-- The machine's way from a place on. -/
inductive Run (l : List UInt8) : List Fr → Int → Got → Prop
  | lex {S : List Fr} {i : Int} {p c : Nat} (n : nextV l i = .error (p, c)) : Run l S i (.error (p, c))
  | err {S : List Fr} {i : Int} {j p c : Nat} {t : Tk} (n : nextV l i = .ok (j, t)) (s : stepF S j t = .err p c) : Run l S i (.error (p, c))
  | done {S : List Fr} {i : Int} {j : Nat} {t : Tk} {d : Raw} (n : nextV l i = .ok (j, t)) (s : stepF S j t = .done d) : Run l S i (.ok (d, j + t.len))
  | cont {S S' : List Fr} {i : Int} {j : Nat} {t : Tk} {r : Got} (n : nextV l i = .ok (j, t)) (s : stepF S j t = .cont S') (m : Run l S' ((j + t.len : Nat) : Int) r) : Run l S i r
/-- What is left, behind a step. -/
def RunS (l : List UInt8) (n : Nat) (r : Got) : Stp → Prop
  | .err p c => r = .error (p, c)
  | .cont S => Run l S (n : Int) r
  | .done d => r = .ok (d, n)
theorem Run.of {l : List UInt8} {S : List Fr} {i : Int} {j : Nat} {t : Tk} {r : Got} (n : nextV l i = .ok (j, t)) (h : RunS l (j + t.len) r (stepF S j t)) : Run l S i r := by
  cases hs : stepF S j t with
  | err p c => rw [hs] at h; rw [show r = .error (p, c) from h]; exact .err n hs
  | done d => rw [hs] at h; rw [show r = .ok (d, j + t.len) from h]; exact .done n hs
  | cont S' => rw [hs] at h; exact .cont n hs h
def ready : List Fr → Prop
  | [] => True
  | o :: _ => o.dot ≠ 2 ∧ ¬ (o.kind = 3 ∧ o.items.length = 62)
/-- So the machine's way goes on, if the document has read so. -/
def Goes (l : List UInt8) : Goal → Got → Prop
  | .frm j t deep, r => t.beg → ∀ S : List Fr, S.length = deep → ready S →
    (match r with | .error e => RunS l (j + t.len) (.error e) (stepF S j t) | .ok (d, n) => ∀ r', RunS l n r' (putF S d) → RunS l (j + t.len) r' (stepF S j t))
  | .lst o sq deep i items dot tail, r => ∀ S : List Fr, S.length + 1 = deep →
    (match r with | .error e => Run l (⟨1, o, sq, dot, tail, items⟩ :: S) (i : Int) (.error e) | .ok (d, n) => ∀ r', RunS l n r' (putF S d) → Run l (⟨1, o, sq, dot, tail, items⟩ :: S) (i : Int) r')
  | .vec o deep i items, r => ∀ S : List Fr, S.length + 1 = deep →
    (match r with | .error e => Run l (⟨3, o, false, 0, .nil, items⟩ :: S) (i : Int) (.error e) | .ok (d, n) => ∀ r', RunS l n r' (putF S d) → Run l (⟨3, o, false, 0, .nil, items⟩ :: S) (i : Int) r')
theorem ready_cons {o : Fr} {S : List Fr} (h : o.dot ≠ 2) (h2 : ¬ (o.kind = 3 ∧ o.items.length = 62)) : ready (o :: S) := ⟨h, h2⟩
theorem begF_ready {S : List Fr} {t : Tk} (h : ready S) (hd : t.kind = 9 ∨ S.length ≠ 64) : begF S t = 0 := by
  cases S with
  | nil => rfl
  | cons o S =>
    unfold begF
    simp only
    rw [if_neg h.1, if_neg h.2, if_neg (by rintro ⟨a, b⟩; rcases hd with hd | hd; exact a hd; exact hd b)]
theorem begF_deep {S : List Fr} {t : Tk} (h : ready S) (h9 : t.kind ≠ 9) (hd : S.length = 64) : begF S t = 10 := by
  cases S with
  | nil => simp at hd
  | cons o S =>
    unfold begF
    simp only
    rw [if_neg h.1, if_neg h.2, if_pos ⟨h9, hd⟩]
theorem step_beg {S : List Fr} {j : Nat} {t : Tk} (hb : t.beg) (h : begF S t = 0) (h9 : t.kind ≠ 9) : stepF S j t = .cont (⟨t.kind, j, t.sq, 0, .nil, []⟩ :: S) := by
  unfold stepF
  rw [if_neg hb.1, if_neg hb.2.2, if_neg hb.2.1, h, if_neg (by simp), if_neg h9]
theorem step_bad {S : List Fr} {j c : Nat} {t : Tk} (hb : t.beg) (h : begF S t = c) (hc : c ≠ 0) : stepF S j t = .err j c := by
  unfold stepF
  rw [if_neg hb.1, if_neg hb.2.2, if_neg hb.2.1, h, if_pos hc]
theorem put_mark {o : Fr} {S : List Fr} {d : Raw} (h : 4 ≤ o.kind ∧ o.kind ≤ 7) : putF (o :: S) d = putF S (markR o.kind d) := by
  rw [putF, if_pos (show o.mark from h)]
theorem put_item {o : Fr} {S : List Fr} {d : Raw} (h : ¬ (4 ≤ o.kind ∧ o.kind ≤ 7)) (h1 : o.dot ≠ 1) : putF (o :: S) d = .cont (⟨o.kind, o.at_, o.sq, o.dot, o.tail, o.items ++ [d]⟩ :: S) := by
  rw [putF, if_neg (show ¬ o.mark from h), if_neg h1]
theorem put_tail {o : Fr} {S : List Fr} {d : Raw} (h : ¬ (4 ≤ o.kind ∧ o.kind ≤ 7)) (h1 : o.dot = 1) : putF (o :: S) d = .cont (⟨o.kind, o.at_, o.sq, 2, d, o.items⟩ :: S) := by
  rw [putF, if_neg (show ¬ o.mark from h), if_pos h1]
theorem Rd.goes {l : List UInt8} {g : Goal} {r : Got} (h : Rd l g r) : Goes l g r := by
  induction h with
  | @datum j deep t h =>
    intro hb S hS hr r' hp
    have : stepF S j t = putF S (leafR t.d) := by
      unfold stepF
      rw [if_neg hb.1, if_neg hb.2.2, if_neg hb.2.1, begF_ready hr (.inl h), if_neg (by simp), if_pos h]
    rw [this]
    exact hp
  | deep h hd =>
    intro hb S hS hr
    show RunS _ _ _ _
    rw [step_bad hb (begF_deep hr h (by omega)) (by omega)]
    rfl
  | @opn j deep t r h hd n ih =>
    intro hb S hS hr
    have hs := step_beg (j := j) hb (begF_ready hr (.inr (by omega))) (by omega)
    rw [hs, h]
    have := ih S (by omega)
    cases r with
    | error e => exact this
    | ok x => exact this
  | @vct j deep t r h hq hd n ih =>
    intro hb S hS hr
    have hs := step_beg (j := j) hb (begF_ready hr (.inr (by omega))) (by omega)
    rw [hs, h, hq]
    have := ih S (by omega)
    cases r with
    | error e => exact this
    | ok x => exact this
  | @markLex j deep p c t h hd n =>
    intro hb S hS hr
    show RunS _ _ _ _
    rw [step_beg hb (begF_ready hr (.inr (by omega))) (by omega)]
    exact .lex n
  | @markEnd j deep k t u h hd n hu =>
    intro hb S hS hr
    show RunS _ _ _ _
    rw [step_beg hb (begF_ready hr (.inr (by omega))) (by omega)]
    exact .err n (by unfold stepF; rw [if_pos hu]; rfl)
  | @markBad j deep k t u h hd n hu =>
    intro hb S hS hr
    show RunS _ _ _ _
    rw [step_beg hb (begF_ready hr (.inr (by omega))) (by omega)]
    refine .err n ?_
    unfold stepF
    rw [if_neg (by omega)]
    rcases hu with hu | hu
    · rw [if_neg (by omega), if_pos hu, closeF, if_pos (.inl h)]
    · rw [if_pos hu, dotF, if_pos (.inl (by show t.kind ≠ 1; omega))]
  | @markErr j deep k p c t u h hd n hu m ih =>
    intro hb S hS hr
    show RunS _ _ _ _
    rw [step_beg hb (begF_ready hr (.inr (by omega))) (by omega)]
    exact Run.of n (ih hu _ (by simp only [List.length_cons]; omega) (ready_cons (by simp) (by simp)))
  | @markOk j deep k e t u d h hd n hu m ih =>
    intro hb S hS hr r' hp
    rw [step_beg hb (begF_ready hr (.inr (by omega))) (by omega)]
    refine Run.of n (ih hu _ (by simp only [List.length_cons]; omega) (ready_cons (by simp) (by simp)) r' ?_)
    rw [put_mark h]
    exact hp
  | lstLex n => intro S hS; exact .lex n
  | lstEnd n hu => intro S hS; exact .err n (by unfold stepF; rw [if_pos hu]; rfl)
  | lstBad n hu hb =>
    intro S hS
    refine .err n ?_
    unfold stepF
    rw [if_neg (by omega), if_neg (by omega), if_pos hu, closeF, if_pos]
    rcases hb with hb | hb
    · exact .inr (.inl (fun e => hb e.symm))
    · exact .inr (.inr hb)
  | @lstOk o deep i dot k u sq items tail n hu hb hd =>
    intro S hS r' hp
    refine Run.of n ?_
    unfold stepF
    rw [if_neg (by omega), if_neg (by omega), if_pos hu, closeF, if_neg]
    · exact hp
    · rintro (⟨a, _⟩ | a | a)
      · exact absurd a (by simp)
      · exact a hb.symm
      · exact hd a
  | @dotBad o deep i dot k u sq items tail n hu hb =>
    intro S hS
    refine .err n ?_
    unfold stepF
    rw [if_neg (by omega), if_pos hu, dotF, if_pos]
    rcases hb with hb | hb
    · exact .inr (.inr (by show dot ≠ 0; omega))
    · exact .inr (.inl hb)
  | @dotOk o deep i dot k u sq items tail r n hu h0 hi m ih =>
    intro S hS
    have hs : stepF (⟨1, o, sq, dot, tail, items⟩ :: S) k u = .cont (⟨1, o, sq, 1, tail, items⟩ :: S) := by
      unfold stepF
      rw [if_neg (by omega), if_pos hu, dotF, if_neg]
      rintro (a | a | a)
      · exact a rfl
      · exact hi a
      · exact a h0
    have := ih S hS
    cases r with
    | error e => exact .cont n hs this
    | ok x => exact fun r' hp => .cont n hs (this r' hp)
  | @full o deep i dot k u sq items tail n hu hb =>
    intro S hS
    exact .err n (step_bad hu (by unfold begF; simp only; rw [if_pos hb]) (by omega))
  | @itemErr o deep i dot k p c u sq items tail n hu hb m ih =>
    intro S hS
    exact Run.of n (ih hu _ (by simp only [List.length_cons]; omega) (ready_cons hb (by simp)))
  | @itemOk o deep i dot k e u sq items tail d r n hu hb m g ih ih2 =>
    intro S hS
    have h2 := ih2 S hS
    have hp : putF (⟨1, o, sq, dot, tail, items⟩ :: S) d = .cont (⟨1, o, sq, dot, tail, items ++ [d]⟩ :: S) := put_item (by simp) (by show dot ≠ 1; omega)
    cases r with
    | error x => exact Run.of n (ih hu _ (by simp only [List.length_cons]; omega) (ready_cons (by show dot ≠ 2; omega) (by simp)) _ (by rw [hp]; exact h2))
    | ok x => exact fun r' hr => Run.of n (ih hu _ (by simp only [List.length_cons]; omega) (ready_cons (by show dot ≠ 2; omega) (by simp)) _ (by rw [hp]; exact h2 r' hr))
  | @tailOk o deep i dot k e u sq items tail d r n hu hb m g ih ih2 =>
    intro S hS
    have h2 := ih2 S hS
    have hp : putF (⟨1, o, sq, dot, tail, items⟩ :: S) d = .cont (⟨1, o, sq, 2, d, items⟩ :: S) := put_tail (by simp) hb
    cases r with
    | error x => exact Run.of n (ih hu _ (by simp only [List.length_cons]; omega) (ready_cons (by show dot ≠ 2; omega) (by simp)) _ (by rw [hp]; exact h2))
    | ok x => exact fun r' hr => Run.of n (ih hu _ (by simp only [List.length_cons]; omega) (ready_cons (by show dot ≠ 2; omega) (by simp)) _ (by rw [hp]; exact h2 r' hr))
  | vecLex n => intro S hS; exact .lex n
  | vecEnd n hu => intro S hS; exact .err n (by unfold stepF; rw [if_pos hu]; rfl)
  | vecBad n hu hb =>
    intro S hS
    refine .err n ?_
    unfold stepF
    rw [if_neg (by omega), if_neg (by omega), if_pos hu, closeF, if_pos]
    exact .inr (.inl (by rw [hb]; simp))
  | @vecOk o deep i k u items n hu hb =>
    intro S hS r' hp
    refine Run.of n ?_
    unfold stepF
    rw [if_neg (by omega), if_neg (by omega), if_pos hu, closeF, if_neg]
    · exact hp
    · rintro (⟨a, _⟩ | a | a)
      · exact absurd a (by simp)
      · exact a hb.symm
      · exact absurd a (by simp)
  | @vecDot o deep i k u items n hu =>
    intro S hS
    refine .err n ?_
    unfold stepF
    rw [if_neg (by omega), if_pos hu, dotF, if_pos (.inl (by simp))]
  | @vecBig o deep i k u items n hu hb =>
    intro S hS
    exact .err n (step_bad hu (by unfold begF; simp only; rw [if_neg (by simp), if_pos (by simp [hb])]) (by omega))
  | @vecErr o deep i k p c u items n hu hb m ih =>
    intro S hS
    exact Run.of n (ih hu _ (by simp only [List.length_cons]; omega) (ready_cons (by simp) (fun h => hb h.2)))
  | @vecItem o deep i k e u items d r n hu hb m g ih ih2 =>
    intro S hS
    have h2 := ih2 S hS
    have hp : putF (⟨3, o, false, 0, .nil, items⟩ :: S) d = .cont (⟨3, o, false, 0, .nil, items ++ [d]⟩ :: S) := put_item (by simp) (by simp)
    cases r with
    | error x => exact Run.of n (ih hu _ (by simp only [List.length_cons]; omega) (ready_cons (by simp) (fun h => hb h.2)) _ (by rw [hp]; exact h2))
    | ok x => exact fun r' hr => Run.of n (ih hu _ (by simp only [List.length_cons]; omega) (ready_cons (by simp) (fun h => hb h.2)) _ (by rw [hp]; exact h2 r' hr))
/-- The machine's answer is the document's. -/
theorem OneR.run {l : List UInt8} {i : Int} {r : Got} (h : OneR l i r) : Run l [] i r := by
  cases h with
  | lex n => exact .lex n
  | none n hk => exact .err n (by unfold stepF; rw [if_pos hk]; rfl)
  | bad n hk =>
    refine .err n ?_
    unfold stepF
    rw [if_neg (by omega)]
    rcases hk with hk | hk
    · rw [if_neg (by omega), if_pos hk]; rfl
    · rw [if_pos hk]; rfl
  | frm n hk m =>
    have := m.goes hk [] rfl trivial
    cases r with
    | error e => exact Run.of n this
    | ok x => exact Run.of n (this _ rfl)
/-! ### every text reads so, or so -/
theorem wordV_kind {w : List UInt8} {k : Nat} {d : Leaf} (h : wordV w = .ok (k, d)) : k = 8 ∨ k = 9 := by
  unfold wordV at h
  split at h
  · injection h with h; injection h; omega
  split at h
  · injection h with h; injection h; omega
  split at h
  · injection h with h; injection h; omega
  split at h
  · cases h
  split at h
  · split at h
    · injection h with h; injection h; omega
    · cases h
  · split at h
    · injection h with h; injection h; omega
    · cases h
theorem tok_kinds {x : List UInt8} {t : Tk} (h : tokL x = .ok t) : t.kind ≤ 9 ∧ (t.kind = 3 → t.sq = false) := by
  cases x with
  | nil => cases h
  | cons c u =>
    rw [tokL] at h
    split at h
    · injection h with h; subst h; simp
    split at h
    · injection h with h; subst h; simp
    split at h
    · injection h with h; subst h; simp
    split at h
    · injection h with h; subst h; simp
    split at h
    · split at h
      · injection h with h; subst h; simp
      · injection h with h; subst h; simp
    split at h
    · split at h
      · cases h
      · cases h
      · split at h
        · injection h with h; subst h; simp
        · cases h
    split at h
    · injection h with h; subst h; simp
    split at h
    · split at h
      · injection h with h; subst h; simp
      · cases h
    · split at h
      · rename_i k d hw
        have := wordV_kind hw
        injection h with h; subst h
        exact ⟨by show k ≤ 9; omega, fun _ => rfl⟩
      · cases h
theorem nextV_lim {l : List UInt8} {i : Int} {j : Nat} {t : Tk} (h : nextV l i = .ok (j, t)) : l.length ≤ 4096 ∧ ∃ a : Nat, i = (a : Int) ∧ a ≤ l.length ∧ lexAt l a = .ok (j, t) := by
  unfold nextV at h
  split at h
  · cases h
  split at h
  · cases h
  · exact ⟨by omega, i.toNat, by omega, by omega, h⟩
/-- What a token that was read is like. -/
theorem nextV_tok {l : List UInt8} {i : Int} {j : Nat} {t : Tk} (h : nextV l i = .ok (j, t)) : t.kind ≤ 9 ∧ (t.kind = 3 → t.sq = false) ∧ j + t.len ≤ l.length ∧ (t.kind ≠ 0 → i < ((j + t.len : Nat) : Int)) := by
  obtain ⟨_, a, rfl, ha, g⟩ := nextV_lim h
  obtain ⟨h1, h2, _, h3⟩ := lexAt_ok ha g
  rcases h3 with ⟨_, h3⟩ | ⟨_, h3, h4, _⟩
  · subst h3; exact ⟨by simp, by simp, h2, fun h => absurd rfl h⟩
  · obtain ⟨h5, h6⟩ := tok_kinds h3
    exact ⟨h5, h6, h2, fun _ => by omega⟩
def Goal.pos : Goal → Nat
  | .frm j t _ => j + t.len
  | .lst _ _ _ i _ _ _ => i
  | .vec _ _ i _ => i
def Goal.fair : Goal → Prop
  | .frm _ t _ => t.beg ∧ t.kind ≤ 9 ∧ (t.kind = 3 → t.sq = false)
  | .lst _ _ _ _ _ dot _ => dot ≤ 2
  | .vec _ _ _ _ => True
theorem Rd.ends {l : List UInt8} {g : Goal} {r : Got} (h : Rd l g r) : g.pos ≤ l.length → ∀ d n, r = .ok (d, n) → g.pos ≤ n ∧ n ≤ l.length := by
  induction h with
  | datum h => intro hp d n e; injection e with e; injection e with _ e; subst e; exact ⟨Nat.le_refl _, hp⟩
  | opn h hd n ih => exact ih
  | vct h hs hd n ih => exact ih
  | @markOk j deep k e t u d h hd n hu m ih =>
    intro hp d n' e'; injection e' with e'; injection e' with _ e'; subst e'
    have := nextV_tok n
    have h2 := ih this.2.2.1 _ _ rfl
    have h3 := this.2.2.2 hu.1
    simp only [Goal.pos] at h2 ⊢
    omega
  | @lstOk o deep i dot k u sq items tail n hu hb hd =>
    intro hp d n' e'; injection e' with e'; injection e' with _ e'; subst e'
    have := nextV_tok n
    have h3 := this.2.2.2 (by omega)
    simp only [Goal.pos]
    omega
  | @dotOk o deep i dot k u sq items tail r n hu h0 hi m ih =>
    intro hp d n' e'
    have := nextV_tok n
    have h3 := this.2.2.2 (by omega)
    have h2 := ih this.2.2.1 _ _ e'
    simp only [Goal.pos] at h2 ⊢
    omega
  | @itemOk o deep i dot k e u sq items tail d r n hu hb m g ih ih2 =>
    intro hp d n' e'
    have := nextV_tok n
    have h3 := this.2.2.2 hu.1
    have h2 := ih this.2.2.1 _ _ rfl
    simp only [Goal.pos] at h2
    have h4 := ih2 h2.2 _ _ e'
    simp only [Goal.pos] at h4 ⊢
    omega
  | @tailOk o deep i dot k e u sq items tail d r n hu hb m g ih ih2 =>
    intro hp d n' e'
    have := nextV_tok n
    have h3 := this.2.2.2 hu.1
    have h2 := ih this.2.2.1 _ _ rfl
    simp only [Goal.pos] at h2
    have h4 := ih2 h2.2 _ _ e'
    simp only [Goal.pos] at h4 ⊢
    omega
  | @vecOk o deep i k u items n hu hb =>
    intro hp d n' e'; injection e' with e'; injection e' with _ e'; subst e'
    have := nextV_tok n
    have h3 := this.2.2.2 (by omega)
    simp only [Goal.pos]
    omega
  | @vecItem o deep i k e u items d r n hu hb m g ih ih2 =>
    intro hp d n' e'
    have := nextV_tok n
    have h3 := this.2.2.2 hu.1
    have h2 := ih this.2.2.1 _ _ rfl
    simp only [Goal.pos] at h2
    have h4 := ih2 h2.2 _ _ e'
    simp only [Goal.pos] at h4 ⊢
    omega
  | _ => intro _ _ _ e'; cases e'
theorem lst_ex {l : List UInt8} {o deep i dot : Nat} {sq : Bool} {items : List Raw} {tail : Raw} (hdot : dot ≤ 2) (ih : ∀ g : Goal, i < g.pos → g.pos ≤ l.length → g.fair → ∃ r, Rd l g r) : ∃ r, Rd l (.lst o sq deep i items dot tail) r := by
  cases n : nextV l (i : Int) with
  | error e => obtain ⟨p, c⟩ := e; exact ⟨_, .lstLex n⟩
  | ok x =>
    obtain ⟨k, u⟩ := x
    obtain ⟨t1, t2, t3, t4⟩ := nextV_tok n
    by_cases h0 : u.kind = 0
    · exact ⟨_, .lstEnd n h0⟩
    have t5 := t4 h0
    by_cases h2 : u.kind = 2
    · by_cases hb : u.sq ≠ sq ∨ dot = 1
      · exact ⟨_, .lstBad n h2 hb⟩
      · exact ⟨_, .lstOk n h2 (by by_cases e : u.sq = sq; exact e; exact absurd (.inl e) hb) (fun e => hb (.inr e))⟩
    by_cases h8 : u.kind = 8
    · by_cases hb : 0 < dot ∨ items = []
      · exact ⟨_, .dotBad n h8 hb⟩
      · obtain ⟨r, hr⟩ := ih (.lst o sq deep (k + u.len) items 1 tail) (by simp only [Goal.pos]; omega) t3 (by simp [Goal.fair])
        exact ⟨r, .dotOk n h8 (by omega) (fun e => hb (.inr e)) hr⟩
    have hu : u.beg := ⟨h0, h2, h8⟩
    by_cases hd : dot = 2
    · exact ⟨_, .full n hu hd⟩
    obtain ⟨r, hr⟩ := ih (.frm k u deep) (by simp only [Goal.pos]; omega) t3 ⟨hu, t1, t2⟩
    cases r with
    | error e => obtain ⟨p, c⟩ := e; exact ⟨_, .itemErr n hu hd hr⟩
    | ok y =>
      obtain ⟨d, e⟩ := y
      have := hr.ends t3 _ _ rfl
      simp only [Goal.pos] at this
      by_cases h1 : dot = 1
      · obtain ⟨r, hr2⟩ := ih (.lst o sq deep e items 2 d) (by simp only [Goal.pos]; omega) this.2 (by simp [Goal.fair])
        exact ⟨r, .tailOk n hu h1 hr hr2⟩
      · obtain ⟨r, hr2⟩ := ih (.lst o sq deep e (items ++ [d]) dot tail) (by simp only [Goal.pos]; omega) this.2 hdot
        exact ⟨r, .itemOk n hu (by omega) hr hr2⟩
theorem vec_ex {l : List UInt8} {o deep i : Nat} {items : List Raw} (ih : ∀ g : Goal, i < g.pos → g.pos ≤ l.length → g.fair → ∃ r, Rd l g r) : ∃ r, Rd l (.vec o deep i items) r := by
  cases n : nextV l (i : Int) with
  | error e => obtain ⟨p, c⟩ := e; exact ⟨_, .vecLex n⟩
  | ok x =>
    obtain ⟨k, u⟩ := x
    obtain ⟨t1, t2, t3, t4⟩ := nextV_tok n
    by_cases h0 : u.kind = 0
    · exact ⟨_, .vecEnd n h0⟩
    have t5 := t4 h0
    by_cases h2 : u.kind = 2
    · cases hb : u.sq with
      | true => exact ⟨_, .vecBad n h2 hb⟩
      | false => exact ⟨_, .vecOk n h2 hb⟩
    by_cases h8 : u.kind = 8
    · exact ⟨_, .vecDot n h8⟩
    have hu : u.beg := ⟨h0, h2, h8⟩
    by_cases hd : items.length = 62
    · exact ⟨_, .vecBig n hu hd⟩
    obtain ⟨r, hr⟩ := ih (.frm k u deep) (by simp only [Goal.pos]; omega) t3 ⟨hu, t1, t2⟩
    cases r with
    | error e => obtain ⟨p, c⟩ := e; exact ⟨_, .vecErr n hu hd hr⟩
    | ok y =>
      obtain ⟨d, e⟩ := y
      have := hr.ends t3 _ _ rfl
      simp only [Goal.pos] at this
      obtain ⟨r, hr2⟩ := ih (.vec o deep e (items ++ [d])) (by simp only [Goal.pos]; omega) this.2 trivial
      exact ⟨r, .vecItem n hu hd hr hr2⟩
theorem frm_ex {l : List UInt8} {j deep : Nat} {t : Tk} (_hp : j + t.len ≤ l.length) (hf : t.beg ∧ t.kind ≤ 9 ∧ (t.kind = 3 → t.sq = false)) (ih : ∀ g : Goal, j + t.len < g.pos → g.pos ≤ l.length → g.fair → ∃ r, Rd l g r)
    (h1 : ∃ r, Rd l (.lst j t.sq (deep + 1) (j + t.len) [] 0 .nil) r) (h3 : ∃ r, Rd l (.vec j (deep + 1) (j + t.len) []) r) : ∃ r, Rd l (.frm j t deep) r := by
  obtain ⟨hb, h9, hs⟩ := hf
  by_cases k9 : t.kind = 9
  · exact ⟨_, .datum k9⟩
  by_cases hd : deep = 64
  · exact ⟨_, .deep k9 hd⟩
  by_cases k1 : t.kind = 1
  · obtain ⟨r, hr⟩ := h1; exact ⟨r, .opn k1 hd hr⟩
  by_cases k3 : t.kind = 3
  · obtain ⟨r, hr⟩ := h3; exact ⟨r, .vct k3 (hs k3) hd hr⟩
  have h4 : 4 ≤ t.kind ∧ t.kind ≤ 7 := by obtain ⟨a, b, c⟩ := hb; omega
  cases n : nextV l ((j + t.len : Nat) : Int) with
  | error e => obtain ⟨p, c⟩ := e; exact ⟨_, .markLex h4 hd n⟩
  | ok x =>
    obtain ⟨k, u⟩ := x
    obtain ⟨t1, t2, t3, t4⟩ := nextV_tok n
    by_cases h0 : u.kind = 0
    · exact ⟨_, .markEnd h4 hd n h0⟩
    have t5 := t4 h0
    by_cases hq : u.kind = 2 ∨ u.kind = 8
    · exact ⟨_, .markBad h4 hd n hq⟩
    have hu : u.beg := ⟨h0, fun e => hq (.inl e), fun e => hq (.inr e)⟩
    obtain ⟨r, hr⟩ := ih (.frm k u (deep + 1)) (by simp only [Goal.pos]; omega) t3 ⟨hu, t1, t2⟩
    cases r with
    | error e => obtain ⟨p, c⟩ := e; exact ⟨_, .markErr h4 hd n hu hr⟩
    | ok y => obtain ⟨d, e⟩ := y; exact ⟨_, .markOk h4 hd n hu hr⟩
theorem Rd.ex1 (l : List UInt8) : ∀ (m : Nat) (g : Goal), g.pos ≤ l.length → l.length < g.pos + m → g.fair → ∃ r, Rd l g r := by
  intro m
  induction m with
  | zero => intro g h1 h2; omega
  | succ m ih =>
    intro g h1 h2 h3
    have hg : ∀ g' : Goal, g.pos < g'.pos → g'.pos ≤ l.length → g'.fair → ∃ r, Rd l g' r := fun g' a b c => ih g' b (by omega) c
    cases g with
    | lst o sq deep i items dot tail => exact lst_ex h3 hg
    | vec o deep i items => exact vec_ex hg
    | frm j t deep => exact frm_ex h1 h3 hg (lst_ex (by omega) hg) (vec_ex hg)
theorem Rd.ex {l : List UInt8} {g : Goal} (h : g.pos ≤ l.length) (hf : g.fair) : ∃ r, Rd l g r := Rd.ex1 l (l.length + 1) g h (by omega) hf
theorem OneR.ex (l : List UInt8) (i : Int) : ∃ r, OneR l i r := by
  cases n : nextV l i with
  | error e => obtain ⟨p, c⟩ := e; exact ⟨_, .lex n⟩
  | ok x =>
    obtain ⟨k, u⟩ := x
    obtain ⟨t1, t2, t3, t4⟩ := nextV_tok n
    by_cases h0 : u.kind = 0
    · exact ⟨_, .none n h0⟩
    by_cases hq : u.kind = 2 ∨ u.kind = 8
    · exact ⟨_, .bad n hq⟩
    have hu : u.beg := ⟨h0, fun e => hq (.inl e), fun e => hq (.inr e)⟩
    obtain ⟨r, hr⟩ := Rd.ex (l := l) (g := .frm k u 0) t3 ⟨hu, t1, t2⟩
    exact ⟨r, .frm n hu hr⟩
theorem OneR.ends {l : List UInt8} {i : Int} {d : Raw} {n : Nat} (h : OneR l i (.ok (d, n))) : i < (n : Int) ∧ n ≤ l.length := by
  cases h with
  | frm n hk m =>
    obtain ⟨t1, t2, t3, t4⟩ := nextV_tok n
    have h2 := m.ends t3 _ _ rfl
    have h3 := t4 hk.1
    simp only [Goal.pos] at h2
    omega
theorem DataR.ex1 (l : List UInt8) : ∀ (m i : Nat), l.length < i + m → ∃ ds p c, DataR l i ds p c := by
  intro m
  induction m with
  | zero =>
    intro i h
    obtain ⟨r, hr⟩ := OneR.ex l (i : Int)
    cases r with
    | error e =>
      obtain ⟨p, c⟩ := e
      by_cases hc : c = 19
      · subst hc; exact ⟨_, _, _, .fin hr⟩
      · exact ⟨_, _, _, .bad hr hc⟩
    | ok x => obtain ⟨d, n⟩ := x; have := hr.ends; omega
  | succ m ih =>
    intro i h
    obtain ⟨r, hr⟩ := OneR.ex l (i : Int)
    cases r with
    | error e =>
      obtain ⟨p, c⟩ := e
      by_cases hc : c = 19
      · subst hc; exact ⟨_, _, _, .fin hr⟩
      · exact ⟨_, _, _, .bad hr hc⟩
    | ok x =>
      obtain ⟨d, n⟩ := x
      have := hr.ends
      obtain ⟨ds, p, c, g⟩ := ih n (by omega)
      exact ⟨_, _, _, .cons hr g⟩
theorem DataR.ex (l : List UInt8) : ∃ ds p c, DataR l 0 ds p c := DataR.ex1 l (l.length + 1) 0 (by omega)
end Go.Proofs.YtonnikipeokkaaaGreatDoor

namespace Go.Proofs.YtonnikipeokkaaaGreatDoor
open Go.Lib

theorem nextV_bad {l : List UInt8} {i : Int} {p c : Nat} (h : nextV l i = .error (p, c)) : c = 1 ∨ c = 6 ∨ c = 9 ∨ c = 11 ∨ c = 12 := by
  unfold nextV at h
  split at h
  · injection h with h; injection h; omega
  split at h
  · injection h with h; injection h; omega
  · have := (lexAt_err (by omega) h).2
    omega
theorem Rd.code {l : List UInt8} {g : Goal} {r : Got} (h : Rd l g r) : ∀ p c, r = .error (p, c) → c = 1 ∨ c = 6 ∨ c = 9 ∨ c = 10 ∨ c = 11 ∨ c = 12 := by
  induction h with
  | markLex h hd n => intro p c e; injection e with e; injection e with e1 e2; subst e1; subst e2; have := nextV_bad n; omega
  | lstLex n => intro p c e; injection e with e; injection e with e1 e2; subst e1; subst e2; have := nextV_bad n; omega
  | vecLex n => intro p c e; injection e with e; injection e with e1 e2; subst e1; subst e2; have := nextV_bad n; omega
  | opn h hd n ih => exact ih
  | vct h hs hd n ih => exact ih
  | markErr h hd n hu m ih => exact ih
  | dotOk n hu h0 hi m ih => exact ih
  | itemErr n hu hb m ih => exact ih
  | itemOk n hu hb m g ih ih2 => exact ih2
  | tailOk n hu hb m g ih ih2 => exact ih2
  | vecErr n hu hb m ih => exact ih
  | vecItem n hu hb m g ih ih2 => exact ih2
  | datum => intro p c e; cases e
  | markOk => intro p c e; cases e
  | lstOk => intro p c e; cases e
  | vecOk => intro p c e; cases e
  | _ => intro p c e; injection e with e; injection e with e1 e2; omega
theorem OneR.code {l : List UInt8} {i : Int} {p c : Nat} (h : OneR l i (.error (p, c))) : (c = 1 ∨ c = 6 ∨ c = 9 ∨ c = 10 ∨ c = 11 ∨ c = 12) ∨ (c = 19 ∧ ∃ t, nextV l i = .ok (p, t) ∧ t.kind = 0) := by
  cases h with
  | lex n => have := nextV_bad n; exact .inl (by omega)
  | none n hk => exact .inr ⟨rfl, _, n, hk⟩
  | bad n hk => exact .inl (by omega)
  | frm n hk m => exact .inl (m.code _ _ rfl)
theorem DataR.code {l : List UInt8} {i p c : Nat} {ds : List Raw} (h : DataR l i ds p c) : c = 0 ∧ p = 0 ∨ (c = 1 ∨ c = 6 ∨ c = 9 ∨ c = 10 ∨ c = 11 ∨ c = 12) := by
  induction h with
  | bad h hc =>
    rcases h.code with h | h
    · exact .inr h
    · exact absurd h.1 hc
  | fin => exact .inl ⟨rfl, rfl⟩
  | cons h m ih => exact ih
/-! ### a text, and what stands behind it -/
theorem next_app {a : List UInt8} (b : List UInt8) (hl : (a ++ 10 :: b).length ≤ 4096) {i : Nat} (hi : i ≤ a.length) :
    (∀ p c, nextV a (i : Int) = .error (p, c) → c ≠ 11 → nextV (a ++ 10 :: b) (i : Int) = .error (p, c)) ∧
    (∀ j t, nextV a (i : Int) = .ok (j, t) → t.kind ≠ 0 → nextV (a ++ 10 :: b) (i : Int) = .ok (j, t)) ∧
    (∀ j t, nextV a (i : Int) = .ok (j, t) → t.kind = 0 → nextV (a ++ 10 :: b) (i : Int) = nextV (a ++ 10 :: b) ((a.length + 1 : Nat) : Int)) := by
  have hla : a.length ≤ 4096 := by rw [List.length_append] at hl; omega
  have hlen : a.length ≤ (a ++ 10 :: b).length := by rw [List.length_append]; omega
  rw [nextV_eq hla hi, nextV_eq hl (by omega), nextV_eq hl (by simp)]
  refine ⟨?_, ?_, ?_⟩
  · intro p c h hc
    unfold lexAt at h ⊢
    cases hs : skipAt a i with
    | error e => rw [hs] at h; injection h with h; injection h with h1 h2; exact absurd h2.symm hc
    | ok j =>
      rw [hs] at h
      simp only at h
      split at h
      · cases h
      · rename_i hj
        have hja : j < a.length := by
          unfold skipAt at hs
          cases hq : skipL 0 (a.drop i) with
          | error p => rw [hq] at hs; cases hs
          | ok m =>
            rw [hq] at hs
            injection hs with hs
            have := skip_le _ _ _ (by omega) hq
            rw [List.length_drop] at this
            omega
        rw [(skipAt_app b hi hs).1 hja]
        simp only
        rw [if_neg (by rw [List.length_append]; simp; omega), List.drop_append_of_le_length (by omega)]
        cases ht : tokL (a.drop j) with
        | ok t => rw [ht] at h; cases h
        | error e =>
          obtain ⟨p', c'⟩ := e
          rw [ht] at h
          injection h with h; injection h with h1 h2
          subst h2
          have hne : a.drop j ≠ [] := by
            intro hh
            have := congrArg List.length hh
            rw [List.length_drop] at this
            simp at this
            omega
          rw [tok_err b hne ht hc]
          simp only
          rw [h1]
  · intro j t h hk
    obtain ⟨h1, h2, hs, e⟩ := lexAt_ok hi h
    rcases e with ⟨_, e⟩ | ⟨e1, e2, e3, _⟩
    · rw [e] at hk; exact absurd rfl hk
    · refine lexAt_of ((skipAt_app b hi hs).1 e1) (by omega) ?_
      rw [List.drop_append_of_le_length (by omega)]
      have hl := tok_len e2
      refine tok_local e2 (by rw [List.take_append_of_le_length hl.2.1]) ?_
      rw [List.drop_append_of_le_length hl.2.1]
      cases (a.drop j).drop t.len with
      | nil => exact .inr (.inl ⟨10, b, rfl, by decide⟩)
      | cons x y => exact .inr (.inr rfl)
  · intro j t h hk
    obtain ⟨_, _, hs, e⟩ := lexAt_ok hi h
    rcases e with ⟨e, _⟩ | ⟨_, _, _, e⟩
    · exact lexAt_skip ((skipAt_app b hi hs).2 e)
    · exact absurd hk e
theorem Rd.app {a : List UInt8} (b : List UInt8) (hl : (a ++ 10 :: b).length ≤ 4096) {g : Goal} {r : Got} (h : Rd a g r) : g.pos ≤ a.length → (∀ p, r ≠ .error (p, 11)) → Rd (a ++ 10 :: b) g r := by
  have nE : ∀ {i p c : Nat}, i ≤ a.length → nextV a (i : Int) = .error (p, c) → c ≠ 11 → nextV (a ++ 10 :: b) (i : Int) = .error (p, c) := fun hi n hc => (next_app b hl hi).1 _ _ n hc
  have nO : ∀ {i j : Nat} {t : Tk}, i ≤ a.length → nextV a (i : Int) = .ok (j, t) → t.kind ≠ 0 → nextV (a ++ 10 :: b) (i : Int) = .ok (j, t) := fun hi n hk => (next_app b hl hi).2.1 _ _ n hk
  induction h with
  | datum h => intro _ _; exact .datum h
  | deep h hd => intro _ _; exact .deep h hd
  | opn h hd n ih => intro hp hr; exact .opn h hd (ih hp hr)
  | vct h hs hd n ih => intro hp hr; exact .vct h hs hd (ih hp hr)
  | markLex h hd n => intro hp hr; exact .markLex h hd (nE hp n (fun e => hr _ (by rw [e])))
  | markEnd h hd n hu => intro hp hr; exact absurd rfl (hr _)
  | markBad h hd n hu => intro hp hr; exact .markBad h hd (nO hp n (by omega)) hu
  | markErr h hd n hu m ih => intro hp hr; exact .markErr h hd (nO hp n hu.1) hu (ih (nextV_tok n).2.2.1 hr)
  | markOk h hd n hu m ih => intro hp hr; exact .markOk h hd (nO hp n hu.1) hu (ih (nextV_tok n).2.2.1 (by simp))
  | lstLex n => intro hp hr; exact .lstLex (nE hp n (fun e => hr _ (by rw [e])))
  | lstEnd n hu => intro hp hr; exact absurd rfl (hr _)
  | lstBad n hu hb => intro hp hr; exact .lstBad (nO hp n (by omega)) hu hb
  | lstOk n hu hb hd => intro hp hr; exact .lstOk (nO hp n (by omega)) hu hb hd
  | dotBad n hu hb => intro hp hr; exact .dotBad (nO hp n (by omega)) hu hb
  | dotOk n hu h0 hi m ih => intro hp hr; exact .dotOk (nO hp n (by omega)) hu h0 hi (ih (nextV_tok n).2.2.1 hr)
  | full n hu hb => intro hp hr; exact .full (nO hp n hu.1) hu hb
  | itemErr n hu hb m ih => intro hp hr; exact .itemErr (nO hp n hu.1) hu hb (ih (nextV_tok n).2.2.1 hr)
  | itemOk n hu hb m g ih ih2 => intro hp hr; exact .itemOk (nO hp n hu.1) hu hb (ih (nextV_tok n).2.2.1 (by simp)) (ih2 (m.ends (nextV_tok n).2.2.1 _ _ rfl).2 hr)
  | tailOk n hu hb m g ih ih2 => intro hp hr; exact .tailOk (nO hp n hu.1) hu hb (ih (nextV_tok n).2.2.1 (by simp)) (ih2 (m.ends (nextV_tok n).2.2.1 _ _ rfl).2 hr)
  | vecLex n => intro hp hr; exact .vecLex (nE hp n (fun e => hr _ (by rw [e])))
  | vecEnd n hu => intro hp hr; exact absurd rfl (hr _)
  | vecBad n hu hb => intro hp hr; exact .vecBad (nO hp n (by omega)) hu hb
  | vecOk n hu hb => intro hp hr; exact .vecOk (nO hp n (by omega)) hu hb
  | vecDot n hu => intro hp hr; exact .vecDot (nO hp n (by omega)) hu
  | vecBig n hu hb => intro hp hr; exact .vecBig (nO hp n hu.1) hu hb
  | vecErr n hu hb m ih => intro hp hr; exact .vecErr (nO hp n hu.1) hu hb (ih (nextV_tok n).2.2.1 hr)
  | vecItem n hu hb m g ih ih2 => intro hp hr; exact .vecItem (nO hp n hu.1) hu hb (ih (nextV_tok n).2.2.1 (by simp)) (ih2 (m.ends (nextV_tok n).2.2.1 _ _ rfl).2 hr)
/-! ### further -/
def shG (s : Nat) : Got → Got
  | .ok (d, n) => .ok (d, s + n)
  | .error (p, c) => .error (s + p, c)
def Goal.sh (s : Nat) : Goal → Goal
  | .frm j t deep => .frm (s + j) t deep
  | .lst o sq deep i items dot tail => .lst (s + o) sq deep (s + i) items dot tail
  | .vec o deep i items => .vec (s + o) deep (s + i) items
theorem next_sh (p : List UInt8) {y : List UInt8} (hl : (p ++ y).length ≤ 4096) {i : Nat} (hi : i ≤ y.length) : nextV (p ++ y) ((p.length + i : Nat) : Int) = shR p.length (nextV y (i : Int)) := by
  rw [nextV_eq hl (by rw [List.length_append]; omega), nextV_eq (by rw [List.length_append] at hl; omega) hi, lexAt_app]
theorem Rd.sh (p : List UInt8) {y : List UInt8} (hl : (p ++ y).length ≤ 4096) {g : Goal} {r : Got} (h : Rd y g r) : g.pos ≤ y.length → Rd (p ++ y) (g.sh p.length) (shG p.length r) := by
  have nE : ∀ {i q c : Nat}, i ≤ y.length → nextV y (i : Int) = .error (q, c) → nextV (p ++ y) ((p.length + i : Nat) : Int) = .error (p.length + q, c) := fun hi n => by rw [next_sh p hl hi, n]; rfl
  have nO : ∀ {i j : Nat} {t : Tk}, i ≤ y.length → nextV y (i : Int) = .ok (j, t) → nextV (p ++ y) ((p.length + i : Nat) : Int) = .ok (p.length + j, t) := fun hi n => by rw [next_sh p hl hi, n]; rfl
  have ha : ∀ a b : Nat, p.length + (a + b) = p.length + a + b := fun a b => (Nat.add_assoc _ _ _).symm
  induction h with
  | datum h => intro _; simp only [Goal.sh, shG, ha]; exact .datum h
  | deep h hd => intro _; exact .deep h hd
  | opn h hd n ih => intro hp; have := ih hp; simp only [Goal.sh, ha] at this ⊢; exact .opn h hd this
  | vct h hs hd n ih => intro hp; have := ih hp; simp only [Goal.sh, ha] at this ⊢; exact .vct h hs hd this
  | markLex h hd n => intro hp; have := nE hp n; simp only [Goal.pos, ha] at this; exact .markLex h hd this
  | markEnd h hd n hu => intro hp; have := nO hp n; simp only [Goal.pos, ha] at this; exact .markEnd h hd this hu
  | markBad h hd n hu => intro hp; have := nO hp n; simp only [Goal.pos, ha] at this; exact .markBad h hd this hu
  | markErr h hd n hu m ih => intro hp; have := nO hp n; simp only [Goal.pos, ha] at this; exact .markErr h hd this hu (ih (nextV_tok n).2.2.1)
  | markOk h hd n hu m ih => intro hp; have := nO hp n; simp only [Goal.pos, ha] at this; exact .markOk h hd this hu (ih (nextV_tok n).2.2.1)
  | lstLex n => intro hp; exact .lstLex (nE hp n)
  | lstEnd n hu => intro hp; exact .lstEnd (nO hp n) hu
  | lstBad n hu hb => intro hp; exact .lstBad (nO hp n) hu hb
  | lstOk n hu hb hd => intro hp; simp only [shG, ha]; exact .lstOk (nO hp n) hu hb hd
  | dotBad n hu hb => intro hp; exact .dotBad (nO hp n) hu hb
  | dotOk n hu h0 hi m ih => intro hp; have := ih (nextV_tok n).2.2.1; simp only [Goal.sh, ha] at this ⊢; exact .dotOk (nO hp n) hu h0 hi this
  | full n hu hb => intro hp; exact .full (nO hp n) hu hb
  | itemErr n hu hb m ih => intro hp; exact .itemErr (nO hp n) hu hb (ih (nextV_tok n).2.2.1)
  | itemOk n hu hb m g ih ih2 => intro hp; exact .itemOk (nO hp n) hu hb (ih (nextV_tok n).2.2.1) (ih2 (m.ends (nextV_tok n).2.2.1 _ _ rfl).2)
  | tailOk n hu hb m g ih ih2 => intro hp; exact .tailOk (nO hp n) hu hb (ih (nextV_tok n).2.2.1) (ih2 (m.ends (nextV_tok n).2.2.1 _ _ rfl).2)
  | vecLex n => intro hp; exact .vecLex (nE hp n)
  | vecEnd n hu => intro hp; exact .vecEnd (nO hp n) hu
  | vecBad n hu hb => intro hp; exact .vecBad (nO hp n) hu hb
  | vecOk n hu hb => intro hp; simp only [shG, ha]; exact .vecOk (nO hp n) hu hb
  | vecDot n hu => intro hp; exact .vecDot (nO hp n) hu
  | vecBig n hu hb => intro hp; exact .vecBig (nO hp n) hu hb
  | vecErr n hu hb m ih => intro hp; exact .vecErr (nO hp n) hu hb (ih (nextV_tok n).2.2.1)
  | vecItem n hu hb m g ih ih2 => intro hp; exact .vecItem (nO hp n) hu hb (ih (nextV_tok n).2.2.1) (ih2 (m.ends (nextV_tok n).2.2.1 _ _ rfl).2)
/-! ### deeper -/
def Goal.at_ (e : Nat) : Goal → Goal
  | .frm j t _ => .frm j t e
  | .lst o sq _ i items dot tail => .lst o sq e i items dot tail
  | .vec o _ i items => .vec o e i items
/-- What was read well is read so in any depth, or it is too deep. -/
theorem Rd.deeper {l : List UInt8} {g : Goal} {r : Got} (h : Rd l g r) : ∀ d n, r = .ok (d, n) → ∀ e, Rd l (g.at_ e) (.ok (d, n)) ∨ ∃ q, Rd l (g.at_ e) (.error (q, 10)) := by
  induction h with
  | datum h => intro d n e x; injection e with e; injection e with e1 e2; subst e1; subst e2; exact .inl (.datum h)
  | deep => intro d n e; cases e
  | opn h hd n ih =>
    intro d n e x
    by_cases hx : x = 64
    · exact .inr ⟨_, .deep (by omega) hx⟩
    · rcases ih d n e (x + 1) with g | ⟨q, g⟩
      · exact .inl (.opn h hx g)
      · exact .inr ⟨q, .opn h hx g⟩
  | vct h hs hd n ih =>
    intro d n e x
    by_cases hx : x = 64
    · exact .inr ⟨_, .deep (by omega) hx⟩
    · rcases ih d n e (x + 1) with g | ⟨q, g⟩
      · exact .inl (.vct h hs hx g)
      · exact .inr ⟨q, .vct h hs hx g⟩
  | markOk h hd n hu m ih =>
    intro d n' e x
    injection e with e; injection e with e1 e2; subst e1; subst e2
    by_cases hx : x = 64
    · exact .inr ⟨_, .deep (by omega) hx⟩
    · rcases ih _ _ rfl (x + 1) with g | ⟨q, g⟩
      · exact .inl (.markOk h hx n hu g)
      · exact .inr ⟨q, .markErr h hx n hu g⟩
  | lstOk n hu hb hd => intro d n' e x; injection e with e; injection e with e1 e2; subst e1; subst e2; exact .inl (.lstOk n hu hb hd)
  | dotOk n hu h0 hi m ih =>
    intro d n' e x
    rcases ih d n' e x with g | ⟨q, g⟩
    · exact .inl (.dotOk n hu h0 hi g)
    · exact .inr ⟨q, .dotOk n hu h0 hi g⟩
  | itemOk n hu hb m g ih ih2 =>
    intro d n' e x
    rcases ih _ _ rfl x with g1 | ⟨q, g1⟩
    · rcases ih2 d n' e x with g2 | ⟨q, g2⟩
      · exact .inl (.itemOk n hu hb g1 g2)
      · exact .inr ⟨q, .itemOk n hu hb g1 g2⟩
    · exact .inr ⟨q, .itemErr n hu (by omega) g1⟩
  | tailOk n hu hb m g ih ih2 =>
    intro d n' e x
    rcases ih _ _ rfl x with g1 | ⟨q, g1⟩
    · rcases ih2 d n' e x with g2 | ⟨q, g2⟩
      · exact .inl (.tailOk n hu hb g1 g2)
      · exact .inr ⟨q, .tailOk n hu hb g1 g2⟩
    · exact .inr ⟨q, .itemErr n hu (by omega) g1⟩
  | vecOk n hu hb => intro d n' e x; injection e with e; injection e with e1 e2; subst e1; subst e2; exact .inl (.vecOk n hu hb)
  | vecItem n hu hb m g ih ih2 =>
    intro d n' e x
    rcases ih _ _ rfl x with g1 | ⟨q, g1⟩
    · rcases ih2 d n' e x with g2 | ⟨q, g2⟩
      · exact .inl (.vecItem n hu hb g1 g2)
      · exact .inr ⟨q, .vecItem n hu hb g1 g2⟩
    · exact .inr ⟨q, .vecErr n hu hb g1⟩
  | _ => intro d n e; cases e
/-! ### marks, brackets -/
/-- A mark ahead of a text: m is the mark's bytes (and a blank), k its token's kind, n its length. -/
theorem mark_one {s m : List UInt8} {k n : Nat} (hm : (m ++ s).length ≤ 4096) (hk : 4 ≤ k ∧ k ≤ 7) (h0 : nextV (m ++ s) 0 = .ok (0, ⟨k, n, false, .no⟩)) (h1 : nextV (m ++ s) (n : Int) = nextV (m ++ s) (m.length : Int)) {d : Raw} {e : Nat} (h : OneR s 0 (.ok (d, e))) :
    (∃ e', OneR (m ++ s) 0 (.ok (markR k d, e'))) ∨ ∃ q, OneR (m ++ s) 0 (.error (q, 10)) := by
  cases h with
  | @frm j t _ nx hb r =>
    have hp := (nextV_tok nx).2.2.1
    have n2 : nextV (m ++ s) (n : Int) = .ok (m.length + j, t) := by
      rw [h1]
      have := next_sh m hm (i := 0) (Nat.zero_le _)
      rw [Nat.add_zero] at this
      rw [this, show ((0 : Nat) : Int) = 0 from rfl, nx]
      rfl
    have n3 : nextV (m ++ s) ((0 + n : Nat) : Int) = .ok (m.length + j, t) := by rw [Nat.zero_add]; exact n2
    have hbeg : Tk.beg ⟨k, n, false, .no⟩ := ⟨by show k ≠ 0; omega, by show k ≠ 2; omega, by show k ≠ 8; omega⟩
    rcases r.deeper _ _ rfl 1 with g | ⟨q, g⟩
    · exact .inl ⟨_, .frm h0 hbeg (.markOk hk (by omega) n3 hb (g.sh m hm hp))⟩
    · exact .inr ⟨_, .frm h0 hbeg (.markErr hk (by omega) n3 hb (g.sh m hm hp))⟩
/-- What a text in brackets comes to: the same in both kinds. -/
theorem brack_lst {s : List UInt8} (hs : s.length ≤ 4000) {i : Nat} {ds : List Raw} {p c : Nat} (h : DataR s i ds p c) (hc : c = 0) (hi : i ≤ s.length) : ∀ items : List Raw,
    (∃ n n', Rd ([40] ++ (s ++ 10 :: [41])) (.lst 0 false 1 (1 + i) items 0 .nil) (.ok (listR (items ++ ds) .nil, n)) ∧ Rd ([91] ++ (s ++ 10 :: [93])) (.lst 0 true 1 (1 + i) items 0 .nil) (.ok (listR (items ++ ds) .nil, n'))) ∨
    (∃ q q', Rd ([40] ++ (s ++ 10 :: [41])) (.lst 0 false 1 (1 + i) items 0 .nil) (.error (q, 10)) ∧ Rd ([91] ++ (s ++ 10 :: [93])) (.lst 0 true 1 (1 + i) items 0 .nil) (.error (q', 10))) := by
  have la : ∀ x y : UInt8, ([x] ++ (s ++ 10 :: [y])).length ≤ 4096 := by intro x y; simp; omega
  have lb : ∀ y : UInt8, (s ++ 10 :: [y]).length ≤ 4096 := by intro y; simp; omega
  induction h with
  | bad h h19 =>
    subst hc
    rcases h.code with h | h <;> omega
  | @fin i p h =>
    intro items
    obtain ⟨t, n, hk⟩ : ∃ t, nextV s (i : Int) = .ok (p, t) ∧ t.kind = 0 := by
      rcases h.code with h | h
      · omega
      · exact h.2
    have key : ∀ (x y : UInt8) (b : Bool), tokL [y] = .ok ⟨2, 1, b, .no⟩ → nextV ([x] ++ (s ++ 10 :: [y])) ((1 + i : Nat) : Int) = .ok (1 + (s.length + 1), ⟨2, 1, b, .no⟩) := by
      intro x y b hy
      have h1 := next_sh [x] (la x y) (i := i) (by simp; omega)
      rw [show ([x] : List UInt8).length = 1 from rfl] at h1
      rw [h1, (next_app [y] (lb y) hi).2.2 _ _ n hk, nextV_eq (lb y) (by simp)]
      have hd : (s ++ 10 :: [y]).drop (s.length + 1) = [y] := by rw [drop_app_add]; rfl
      rw [lexAt_of (t := ⟨2, 1, b, .no⟩) (j := s.length + 1) (skipAt_tok (by rw [hd]; exact hy)) (by simp) (by rw [hd]; exact hy)]
      rfl
    rw [List.append_nil]
    exact .inl ⟨_, _, .lstOk (key 40 41 false rfl) rfl rfl (by omega), .lstOk (key 91 93 true rfl) rfl rfl (by omega)⟩
  | @cons i n p c d ds h m ih =>
    intro items
    have hn := h.ends
    cases h with
    | @frm j t _ nx hb r =>
      have hp := (nextV_tok nx).2.2.1
      have nx2 : ∀ x y : UInt8, nextV ([x] ++ (s ++ 10 :: [y])) ((1 + i : Nat) : Int) = .ok (1 + j, t) := by
        intro x y
        have h1 := next_sh [x] (la x y) (i := i) (by simp; omega)
        rw [show ([x] : List UInt8).length = 1 from rfl] at h1
        rw [h1, (next_app [y] (lb y) hi).2.1 _ _ nx hb.1]
        rfl
      rcases r.deeper _ _ rfl 1 with g | ⟨q, g⟩
      · have hg : ∀ x y : UInt8, Rd ([x] ++ (s ++ 10 :: [y])) (.frm (1 + j) t 1) (.ok (d, 1 + n)) := fun x y => (g.app [y] (lb y) hp (by simp)).sh [x] (la x y) (by simp only [Goal.at_, Goal.pos]; simp; omega)
        rcases ih hc hn.2 (items ++ [d]) with ⟨n1, n2, a, b⟩ | ⟨n1, n2, a, b⟩
        · rw [List.append_assoc, List.singleton_append] at a b
          exact .inl ⟨_, _, .itemOk (nx2 _ _) hb rfl (hg _ _) a, .itemOk (nx2 _ _) hb rfl (hg _ _) b⟩
        · exact .inr ⟨_, _, .itemOk (nx2 _ _) hb rfl (hg _ _) a, .itemOk (nx2 _ _) hb rfl (hg _ _) b⟩
      · have hg : ∀ x y : UInt8, Rd ([x] ++ (s ++ 10 :: [y])) (.frm (1 + j) t 1) (.error (1 + q, 10)) := fun x y => (g.app [y] (lb y) hp (by simp)).sh [x] (la x y) (by simp only [Goal.at_, Goal.pos]; simp; omega)
        exact .inr ⟨_, _, .itemErr (nx2 _ _) hb (by omega) (hg _ _), .itemErr (nx2 _ _) hb (by omega) (hg _ _)⟩
theorem brack_one {s : List UInt8} (hs : s.length ≤ 4000) {ds : List Raw} {p : Nat} (h : DataR s 0 ds p 0) :
    (∃ n n', OneR ([40] ++ (s ++ 10 :: [41])) 0 (.ok (listR ds .nil, n)) ∧ OneR ([91] ++ (s ++ 10 :: [93])) 0 (.ok (listR ds .nil, n'))) ∨
    (∃ q q', OneR ([40] ++ (s ++ 10 :: [41])) 0 (.error (q, 10)) ∧ OneR ([91] ++ (s ++ 10 :: [93])) 0 (.error (q', 10))) := by
  have nx : ∀ (x y : UInt8) (b : Bool), tokL (x :: (s ++ 10 :: [y])) = .ok ⟨1, 1, b, .no⟩ → nextV ([x] ++ (s ++ 10 :: [y])) 0 = .ok (0, ⟨1, 1, b, .no⟩) := by
    intro x y b hy
    have := nextV_eq (l := [x] ++ (s ++ 10 :: [y])) (i := 0) (by simp; omega) (Nat.zero_le _)
    rw [show ((0 : Nat) : Int) = 0 from rfl] at this
    rw [this]
    exact lexAt_of (skipAt_tok hy) (by simp) hy
  have n1 := nx 40 41 false rfl
  have n2 := nx 91 93 true rfl
  have hb : ∀ b, Tk.beg ⟨1, 1, b, .no⟩ := fun b => ⟨by simp, by simp, by simp⟩
  rcases brack_lst hs h rfl (Nat.zero_le _) [] with ⟨a, a', g, g'⟩ | ⟨a, a', g, g'⟩
  · exact .inl ⟨_, _, .frm n1 (hb _) (.opn rfl (by omega) g), .frm n2 (hb _) (.opn rfl (by omega) g')⟩
  · exact .inr ⟨_, _, .frm n1 (hb _) (.opn rfl (by omega) g), .frm n2 (hb _) (.opn rfl (by omega) g')⟩
end Go.Proofs.YtonnikipeokkaaaGreatDoor
