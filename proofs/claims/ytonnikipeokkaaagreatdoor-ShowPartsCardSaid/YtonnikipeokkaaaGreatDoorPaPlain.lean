/-
  The tokens of a text: plain Lean, no program in sight.
  What a token hangs on: its own bytes, and where it ends. Plain Lean.
  All tokens of a text, one behind the other; of two texts; of a token's own bytes. Plain Lean.
  Data of a text: as the document reads them (calls that call themselves), and as a machine with what is open. Plain Lean, no program in sight.
  Data of two texts; deeper within; marks and brackets. Plain Lean.
-/
import Derived.Lib.ValidLaws
import Derived.Test.YtonnikipeokkaaaGreatDoorN2
namespace Go.Proofs.YtonnikipeokkaaaGreatDoor
open Go.Lib

/-- The first place from a on where p does not hold; the text's length, if there is none. -/
def scan (p : UInt8 → Bool) (l : List UInt8) (a : Nat) : Nat := a + ((l.drop a).takeWhile p).length
theorem getD_drop (l : List UInt8) (a j : Nat) : (l.drop a).getD j 0 = l.getD (a + j) 0 := by
  rw [List.getD_eq_getElem?_getD, List.getD_eq_getElem?_getD, List.getElem?_drop]
theorem drop_cons {l : List UInt8} {i : Nat} (h : i < l.length) : l.drop i = l.getD i 0 :: l.drop (i + 1) := by
  rw [List.drop_eq_getElem_cons h, List.getD_eq_getElem?_getD, List.getElem?_eq_getElem h]
  rfl
theorem scan_next {p : UInt8 → Bool} {l : List UInt8} {a : Nat} (h : a < l.length) (hp : p (l.getD a 0) = true) : scan p l (a + 1) = scan p l a := by
  unfold scan
  rw [drop_cons h, List.takeWhile_cons, if_pos hp, List.length_cons]
  omega
theorem scan_stop {p : UInt8 → Bool} {l : List UInt8} {a : Nat} (h : a < l.length) (hp : p (l.getD a 0) = false) : scan p l a = a := by
  unfold scan
  rw [drop_cons h, List.takeWhile_cons, if_neg (by rw [hp]; decide)]
  rfl
theorem scan_end {p : UInt8 → Bool} {l : List UInt8} {a : Nat} (h : l.length ≤ a) : scan p l a = a := by
  unfold scan
  rw [List.drop_of_length_le h]
  rfl
theorem scan_le (p : UInt8 → Bool) {l : List UInt8} {a : Nat} (h : a ≤ l.length) : scan p l a ≤ l.length := by
  unfold scan
  have := (List.takeWhile_sublist p (l := l.drop a)).length_le
  rw [List.length_drop] at this
  omega
theorem le_scan (p : UInt8 → Bool) (l : List UInt8) (a : Nat) : a ≤ scan p l a := Nat.le_add_right _ _
/-- The bytes that are blanks; those at which a token ends. -/
def blankB (b : UInt8) : Bool := b == 9 || b == 10 || b == 12 || b == 13 || b == 32
def delimB (b : UInt8) : Bool := blankB b || [40, 41, 91, 93, 34, 59, 39, 96, 44].contains b
/-- Behind the end of a comment of depth deep, from here on: how many bytes; none: it does not end. -/
def comB : Nat → List UInt8 → Option Nat
  | deep, a :: b :: t =>
    if a = 35 ∧ b = 124 then (comB (deep + 1) t).map (· + 2)
    else if a = 124 ∧ b = 35 then (if deep ≤ 1 then some 2 else (comB (deep - 1) t).map (· + 2))
    else (comB deep (b :: t)).map (· + 1)
  | _, _ => none
theorem comB_le : ∀ (l : List UInt8) (deep n : Nat), comB deep l = some n → 2 ≤ n ∧ n ≤ l.length := by
  intro l
  induction hl : l.length using Nat.strongRecOn generalizing l with
  | _ k ih =>
    intro deep n h
    match l, hl with
    | [], _ => simp [comB] at h
    | [x], _ => simp [comB] at h
    | a :: b :: t, hl =>
      simp only [List.length_cons] at hl
      rw [comB] at h
      split at h
      · cases hc : comB (deep + 1) t with
        | none => rw [hc] at h; simp at h
        | some m =>
          rw [hc] at h
          have := ih t.length (by omega) t rfl (deep + 1) m hc
          simp at h
          omega
      · split at h
        · split at h
          · simp at h; omega
          · cases hc : comB (deep - 1) t with
            | none => rw [hc] at h; simp at h
            | some m =>
              rw [hc] at h
              have := ih t.length (by omega) t rfl (deep - 1) m hc
              simp at h
              omega
        · cases hc : comB deep (b :: t) with
          | none => rw [hc] at h; simp at h
          | some m =>
            rw [hc] at h
            have := ih (b :: t).length (by simp only [List.length_cons]; omega) (b :: t) rfl deep m hc
            simp at h
            simp only [List.length_cons] at this
            omega
/-- What a comment's end does not hang on: what stands behind it. -/
theorem comB_app : ∀ (l y : List UInt8) (deep n : Nat), comB deep l = some n → comB deep (l ++ y) = some n := by
  intro l
  induction hl : l.length using Nat.strongRecOn generalizing l with
  | _ k ih =>
    intro y deep n h
    match l, hl with
    | [], _ => simp [comB] at h
    | [x], _ => simp [comB] at h
    | a :: b :: t, hl =>
      simp only [List.length_cons] at hl
      rw [comB] at h
      rw [List.cons_append, List.cons_append, comB]
      split at h
      · rename_i hc
        rw [if_pos hc]
        cases hm : comB (deep + 1) t with
        | none => rw [hm] at h; simp at h
        | some m => rw [hm] at h; rw [ih t.length (by omega) t rfl y _ m hm]; exact h
      · rename_i hc
        rw [if_neg hc]
        split at h
        · rename_i hd
          rw [if_pos hd]
          split at h
          · rename_i he; rw [if_pos he]; exact h
          · rename_i he
            rw [if_neg he]
            cases hm : comB (deep - 1) t with
            | none => rw [hm] at h; simp at h
            | some m => rw [hm] at h; rw [ih t.length (by omega) t rfl y _ m hm]; exact h
        · rename_i hd
          rw [if_neg hd]
          cases hm : comB deep (b :: t) with
          | none => rw [hm] at h; simp at h
          | some m => rw [hm] at h; rw [← List.cons_append, ih (b :: t).length (by simp only [List.length_cons]; omega) (b :: t) rfl y _ m hm]; exact h
/-- Behind blanks and comments: how many bytes; or how many ahead of a comment that does not end. The first number: so many bytes are passed by. -/
def skipL : Nat → List UInt8 → Except Nat Nat
  | _, [] => .ok 0
  | n + 1, _ :: t => match skipL n t with | .ok m => .ok (m + 1) | .error m => .error (m + 1)
  | 0, c :: t =>
    if blankB c = true then (match skipL 0 t with | .ok m => .ok (m + 1) | .error m => .error (m + 1))
    else if c = 59 then (match skipL (t.takeWhile (fun b => b != 10)).length t with | .ok m => .ok (m + 1) | .error m => .error (m + 1))
    else if c = 35 ∧ t.head? = some 124 then
      match comB 1 (t.drop 1) with
      | none => .error 0
      | some k => (match skipL (1 + k) t with | .ok m => .ok (m + 1) | .error m => .error (m + 1))
    else .ok 0
/-- A place that is so many bytes further. -/
def upE (n : Nat) : Except Nat Nat → Except Nat Nat
  | .ok m => .ok (n + m)
  | .error m => .error (n + m)
theorem upE_zero (r : Except Nat Nat) : upE 0 r = r := by cases r <;> simp [upE]
theorem skipL_pass : ∀ (n : Nat) (l : List UInt8), n ≤ l.length → skipL n l = upE n (skipL 0 (l.drop n))
  | 0, l, _ => by rw [upE_zero]; rfl
  | n + 1, [], h => by simp at h
  | n + 1, c :: t, h => by
    rw [List.drop_succ_cons, skipL, skipL_pass n t (by simpa using h)]
    cases skipL 0 (t.drop n) <;> simp [upE] <;> omega
/-- Behind blanks and comments, from a place on. -/
def skipAt (l : List UInt8) (i : Nat) : Except Nat Nat := upE i (skipL 0 (l.drop i))
theorem skipAt_end {l : List UInt8} : skipAt l l.length = .ok l.length := by
  unfold skipAt; rw [List.drop_length]; rfl
theorem skipAt_blank {l : List UInt8} {i : Nat} (h : i < l.length) (h1 : blankB (l.getD i 0) = true) : skipAt l i = skipAt l (i + 1) := by
  unfold skipAt
  rw [drop_cons h, skipL, if_pos h1]
  cases skipL 0 (l.drop (i + 1)) <;> simp [upE] <;> omega
theorem blank_59 : blankB 59 = false := by decide
theorem blank_35 : blankB 35 = false := by decide
theorem skipAt_line {l : List UInt8} {i : Nat} (h : i < l.length) (h1 : l.getD i 0 = 59) : skipAt l i = skipAt l (scan (fun b => b != 10) l i) := by
  have e : scan (fun b => b != 10) l i = i + 1 + ((l.drop (i + 1)).takeWhile (fun b => b != 10)).length := by
    rw [← scan_next h (by rw [h1]; decide)]; rfl
  unfold skipAt
  rw [e, drop_cons h, skipL, h1, blank_59, if_neg (by decide), if_pos rfl, skipL_pass _ _ (List.takeWhile_sublist _).length_le, List.drop_drop]
  cases skipL 0 (l.drop (i + 1 + ((l.drop (i + 1)).takeWhile (fun b => b != 10)).length)) <;> simp [upE] <;> omega
theorem head_drop (l : List UInt8) (i : Nat) (x : UInt8) : (l.drop i).head? = some x ↔ i < l.length ∧ l.getD i 0 = x := by
  by_cases h : i < l.length
  · rw [drop_cons h]; simp [h]
  · rw [List.drop_of_length_le (by omega)]; simp [h]
theorem skipAt_com {l : List UInt8} {i k : Nat} (h : i + 1 < l.length) (h1 : l.getD i 0 = 35) (h2 : l.getD (i + 1) 0 = 124) (hc : comB 1 (l.drop (i + 2)) = some k) : skipAt l i = skipAt l (i + 2 + k) := by
  have hk := comB_le _ _ _ hc
  rw [List.length_drop] at hk
  unfold skipAt
  rw [drop_cons (show i < l.length by omega), skipL, h1, blank_35, if_neg (by decide), if_neg (by decide), if_pos ⟨rfl, (head_drop _ _ _).2 ⟨h, h2⟩⟩, List.drop_drop, show i + 1 + 1 = i + 2 from rfl, hc]
  simp only
  rw [skipL_pass _ _ (by rw [List.length_drop]; omega), List.drop_drop, show i + 1 + (1 + k) = i + 2 + k by omega]
  cases skipL 0 (l.drop (i + 2 + k)) <;> simp [upE] <;> omega
theorem skipAt_open {l : List UInt8} {i : Nat} (h : i + 1 < l.length) (h1 : l.getD i 0 = 35) (h2 : l.getD (i + 1) 0 = 124) (hc : comB 1 (l.drop (i + 2)) = none) : skipAt l i = .error i := by
  unfold skipAt
  rw [drop_cons (show i < l.length by omega), skipL, h1, blank_35, if_neg (by decide), if_neg (by decide), if_pos ⟨rfl, (head_drop _ _ _).2 ⟨h, h2⟩⟩, List.drop_drop, show i + 1 + 1 = i + 2 from rfl, hc]
  rfl
theorem skipAt_stop {l : List UInt8} {i : Nat} (h : i < l.length) (h1 : blankB (l.getD i 0) = false) (h2 : l.getD i 0 ≠ 59) (h3 : ¬ (i + 1 < l.length ∧ l.getD i 0 = 35 ∧ l.getD (i + 1) 0 = 124)) : skipAt l i = .ok i := by
  unfold skipAt
  rw [drop_cons h, skipL, h1, if_neg (by decide), if_neg h2, if_neg (by rintro ⟨a, b⟩; obtain ⟨c, d⟩ := (head_drop _ _ _).1 b; exact h3 ⟨c, a, d⟩)]
  rfl
/-- A digit to the base 16. -/
def hexV (b : UInt8) : Option Nat :=
  if 48 ≤ b.toNat ∧ b.toNat ≤ 57 then some (b.toNat - 48)
  else if 97 ≤ b.toNat ∧ b.toNat ≤ 102 then some (b.toNat - 87)
  else if 65 ≤ b.toNat ∧ b.toNat ≤ 70 then some (b.toNat - 55) else none
/-- May a number be a char? -/
def charB (n : Nat) : Bool := decide (n < 0xD800 ∨ 0xE000 ≤ n ∧ n ≤ 0x10FFFF)
/-- The value of digits to the base 16, all of which are such. -/
def hexN : List UInt8 → Nat → Option Nat
  | [], n => some n
  | b :: t, n => match hexV b with
    | none => none
    | some v => hexN t (n * 16 + v)
/-- One to six digits as a char. -/
def hexC (l : List UInt8) : Option Nat :=
  if l.length < 1 ∨ 6 < l.length then none else
  match hexN l 0 with
  | none => none
  | some n => if charB n then some n else none
/-- A char as bytes. -/
def utfB (c : Nat) : List UInt8 :=
  if c < 0x80 then [UInt8.ofNat c]
  else if c < 0x800 then [UInt8.ofNat (0xC0 + c / 64), UInt8.ofNat (0x80 + c % 64)]
  else if c < 0x10000 then [UInt8.ofNat (0xE0 + c / 4096), UInt8.ofNat (0x80 + c / 64 % 64), UInt8.ofNat (0x80 + c % 64)]
  else [UInt8.ofNat (0xF0 + c / 262144), UInt8.ofNat (0x80 + c / 4096 % 64), UInt8.ofNat (0x80 + c / 64 % 64), UInt8.ofNat (0x80 + c % 64)]
/-- What an escape comes to: the text ends in it; it is none; bytes, and how many it takes. -/
inductive EscR where
  | open_
  | bad
  | ok (out : List UInt8) (n : Nat)
/-- Where a semicolon stands. -/
def semi (u : List UInt8) : Option Nat := if (u.takeWhile (fun b => b != 59)).length < u.length then some (u.takeWhile (fun b => b != 59)).length else none
/-- What stands behind a backslash. -/
def escL (by_ : UInt8) : List UInt8 → EscR
  | [] => .open_
  | d :: u =>
    if d = 92 ∨ d = 34 then .ok [d] 1
    else if d = 110 then .ok [10] 1
    else if d = 116 then .ok [9] 1
    else if d = 114 then .ok [13] 1
    else if d = 120 then
      match semi u with
      | none => .bad
      | some k => match hexC (u.take k) with
        | none => .bad
        | some r => .ok (utfB r) (k + 2)
    else if d = 124 ∧ by_ = 124 then .ok [124] 1
    else .bad
/-- What a text between two bytes comes to: it does not end; a bad escape, and where; its bytes, and behind how many it ends. -/
inductive QuoR where
  | open_
  | bad (i : Nat)
  | ok (out : List UInt8) (n : Nat)
def QuoR.up (out : List UInt8) (k : Nat) : QuoR → QuoR
  | .open_ => .open_
  | .bad i => .bad (k + i)
  | .ok o n => .ok (out ++ o) (k + n)
theorem QuoR.up_up (a b : List UInt8) (j k : Nat) (r : QuoR) : (r.up b k).up a j = r.up (a ++ b) (j + k) := by
  cases r <;> simp [QuoR.up, Nat.add_assoc]
theorem QuoR.up_zero (r : QuoR) : r.up [] 0 = r := by cases r <;> simp [QuoR.up]
def quoL (by_ : UInt8) : Nat → List UInt8 → QuoR
  | _, [] => .open_
  | n + 1, _ :: t => (quoL by_ n t).up [] 1
  | 0, c :: t =>
    if c = by_ then .ok [] 1
    else if c ≠ 92 then (quoL by_ 0 t).up [c] 1
    else match escL by_ t with
      | .open_ => .open_
      | .bad => .bad 0
      | .ok out m => (quoL by_ m t).up out 1
theorem quoL_pass (by_ : UInt8) : ∀ (n : Nat) (l : List UInt8), n ≤ l.length → quoL by_ n l = (quoL by_ 0 (l.drop n)).up [] n
  | 0, l, _ => by rw [QuoR.up_zero]; rfl
  | n + 1, [], h => by simp at h
  | n + 1, c :: t, h => by
    rw [List.drop_succ_cons, quoL, quoL_pass by_ n t (by simpa using h), QuoR.up_up, List.nil_append, Nat.add_comm]
theorem semi_le {u : List UInt8} {k : Nat} (h : semi u = some k) : k < u.length := by
  unfold semi at h
  split at h
  · injection h; omega
  · cases h
theorem escL_le {by_ : UInt8} {l out : List UInt8} {n : Nat} (h : escL by_ l = .ok out n) : 1 ≤ n ∧ n ≤ l.length := by
  cases l with
  | nil => cases h
  | cons d u =>
    rw [escL] at h
    rw [List.length_cons]
    split at h
    · injection h; omega
    split at h
    · injection h; omega
    split at h
    · injection h; omega
    split at h
    · injection h; omega
    split at h
    · split at h
      · cases h
      · rename_i k hk
        have := semi_le hk
        split at h
        · cases h
        · injection h; omega
    split at h
    · injection h; omega
    · cases h
/-- The text between two bytes, from a place on. -/
def quoAt (by_ : UInt8) (l : List UInt8) (i : Nat) (out : List UInt8) : QuoR := (quoL by_ 0 (l.drop i)).up out i
theorem quoAt_end (by_ : UInt8) (l out : List UInt8) : quoAt by_ l l.length out = .open_ := by
  unfold quoAt; rw [List.drop_length]; rfl
theorem quoAt_close {by_ : UInt8} {l out : List UInt8} {i : Nat} (h : i < l.length) (h1 : l.getD i 0 = by_) : quoAt by_ l i out = .ok out (i + 1) := by
  unfold quoAt
  rw [drop_cons h, quoL, if_pos h1]
  simp [QuoR.up]
theorem quoAt_plain {by_ : UInt8} {l out : List UInt8} {i : Nat} (h : i < l.length) (h1 : l.getD i 0 ≠ by_) (h2 : l.getD i 0 ≠ 92) : quoAt by_ l i out = quoAt by_ l (i + 1) (out ++ [l.getD i 0]) := by
  unfold quoAt
  rw [drop_cons h, quoL, if_neg h1, if_pos h2, QuoR.up_up]
theorem quoAt_open {by_ : UInt8} {l out : List UInt8} {i : Nat} (h : i < l.length) (h1 : l.getD i 0 ≠ by_) (h2 : l.getD i 0 = 92) (h3 : escL by_ (l.drop (i + 1)) = .open_) : quoAt by_ l i out = .open_ := by
  unfold quoAt
  rw [drop_cons h, quoL, if_neg h1, if_neg (by simp only [h2, ne_eq, not_true_eq_false, not_false_eq_true]), h3]
  rfl
theorem quoAt_bad {by_ : UInt8} {l out : List UInt8} {i : Nat} (h : i < l.length) (h1 : l.getD i 0 ≠ by_) (h2 : l.getD i 0 = 92) (h3 : escL by_ (l.drop (i + 1)) = .bad) : quoAt by_ l i out = .bad i := by
  unfold quoAt
  rw [drop_cons h, quoL, if_neg h1, if_neg (by simp only [h2, ne_eq, not_true_eq_false, not_false_eq_true]), h3]
  rfl
theorem quoAt_esc {by_ : UInt8} {l out o : List UInt8} {i n : Nat} (h : i < l.length) (h1 : l.getD i 0 ≠ by_) (h2 : l.getD i 0 = 92) (h3 : escL by_ (l.drop (i + 1)) = .ok o n) : quoAt by_ l i out = quoAt by_ l (i + 1 + n) (out ++ o) := by
  unfold quoAt
  rw [drop_cons h, quoL, if_neg h1, if_neg (by simp only [h2, ne_eq, not_true_eq_false, not_false_eq_true]), h3]
  simp only
  rw [quoL_pass _ _ _ (escL_le h3).2, QuoR.up_up, QuoR.up_up, List.drop_drop, List.append_nil, Nat.add_assoc]
/-- The chars of a text, if it is one. -/
def runesGo : Nat → List UInt8 → Option (List Nat)
  | 0, _ => some []
  | f + 1, l => if l = [] then some [] else if (decodeL l).1 = 65533 ∧ (decodeL l).2 = 1 then none else (runesGo f (l.drop (decodeL l).2)).map ((decodeL l).1 :: ·)
def runesL (l : List UInt8) : Option (List Nat) := runesGo l.length l
/-- What a token's datum may be. -/
inductive Leaf where
  | no
  | tru
  | fls
  | chr (c : Nat)
  | int (x : Int)
  | str (t : List UInt8)
  | sym (t : List UInt8)
/-- A token, but for its place. -/
structure Tk where
  kind : Nat
  len : Nat
  sq : Bool
  d : Leaf
/-- A string, or a symbol, that may be; or the error's number. -/
def textL (sym : Bool) (t : List UInt8) : Except Nat Leaf :=
  match runesL t with
  | none => .error 9
  | some r => if sym = true ∧ t = [] then .error 9 else if 62 < r.length then .error 6 else .ok (if sym then .sym t else .str t)
/-- The char of a name. -/
def namedL (t : List UInt8) : Option Nat :=
  if t = [110, 117, 108] then some 0
  else if t = [97, 108, 97, 114, 109] then some 7
  else if t = [98, 97, 99, 107, 115, 112, 97, 99, 101] then some 8
  else if t = [116, 97, 98] then some 9
  else if t = [110, 101, 119, 108, 105, 110, 101] then some 10
  else if t = [114, 101, 116, 117, 114, 110] then some 13
  else if t = [101, 115, 99, 97, 112, 101] then some 27
  else if t = [115, 112, 97, 99, 101] then some 32
  else if t = [100, 101, 108, 101, 116, 101] then some 127
  else none
/-- What stands behind #\ : the char, and how many bytes; or the error's number. -/
def charL (t : List UInt8) : Except Nat (Nat × Nat) :=
  if t = [] then .error 11
  else if (decodeL t).1 = 65533 ∧ (decodeL t).2 = 1 then .error 9
  else
    let n := (decodeL t).2
    let m := ((t.drop n).takeWhile (fun b => !delimB b)).length
    if m = 0 then .ok ((decodeL t).1, n)
    else match namedL (t.take (n + m)) with
      | some v => .ok (v, n + m)
      | none => if (decodeL t).1 = 120 then
          (match hexC ((t.drop n).take m) with
          | some r => .ok (r, n + m)
          | none => .error 9)
        else .error 9
/-- The bytes of a word. -/
def wordB (b : UInt8) : Bool := !delimB b && b != 124
/-- What a word is: a token's kind and its datum; or the error's number. -/
def wordV (w : List UInt8) : Except Nat (Nat × Leaf) :=
  if w = [46] then .ok (8, .no)
  else if w = [35, 116] ∨ w = [35, 116, 114, 117, 101] then .ok (9, .tru)
  else if w = [35, 102] ∨ w = [35, 102, 97, 108, 115, 101] then .ok (9, .fls)
  else if w.head? = some 35 then .error 9
  else match parseV w with
    | some x => if (limbs x.natAbs).length ≤ 48 then .ok (9, .int x) else .error 6
    | none => match textL true w with
      | .ok d => .ok (9, d)
      | .error c => .error c
/-- The token that begins here; or, how far from here, an error. -/
def tokL : List UInt8 → Except (Nat × Nat) Tk
  | [] => .error (0, 9)
  | c :: t =>
    if c = 40 ∨ c = 91 then .ok ⟨1, 1, c == 91, .no⟩
    else if c = 41 ∨ c = 93 then .ok ⟨2, 1, c == 93, .no⟩
    else if c = 39 then .ok ⟨4, 1, false, .no⟩
    else if c = 96 then .ok ⟨5, 1, false, .no⟩
    else if c = 44 then (if t.head? = some 64 then .ok ⟨7, 2, false, .no⟩ else .ok ⟨6, 1, false, .no⟩)
    else if c = 34 ∨ c = 124 then
      match quoL c 0 t with
      | .open_ => .error (0, 11)
      | .bad i => .error (1 + i, 9)
      | .ok out n => match textL (c == 124) out with
        | .ok d => .ok ⟨9, 1 + n, false, d⟩
        | .error e => .error (0, e)
    else if c = 35 ∧ t.head? = some 40 then .ok ⟨3, 2, false, .no⟩
    else if c = 35 ∧ t.head? = some 92 then
      match charL (t.drop 1) with
      | .ok (v, n) => .ok ⟨9, 2 + n, false, .chr v⟩
      | .error e => .error (0, e)
    else match wordV ((c :: t).takeWhile wordB) with
      | .ok (k, d) => .ok ⟨k, ((c :: t).takeWhile wordB).length, false, d⟩
      | .error e => .error (0, e)
/-- The token at a place, or behind it: where it begins, and which; or where an error is, and its number. -/
def lexAt (l : List UInt8) (i : Nat) : Except (Nat × Nat) (Nat × Tk) :=
  match skipAt l i with
  | .error p => .error (p, 11)
  | .ok j => if j = l.length then .ok (j, ⟨0, 0, false, .no⟩) else
    match tokL (l.drop j) with
    | .error (p, c) => .error (j + p, c)
    | .ok t => .ok (j, t)
end Go.Proofs.YtonnikipeokkaaaGreatDoor

namespace Go.Proofs.YtonnikipeokkaaaGreatDoor
open Go.Lib

theorem tw_drop (p : UInt8 → Bool) : ∀ x : List UInt8, x.drop (x.takeWhile p).length = [] ∨ ∃ d t, x.drop (x.takeWhile p).length = d :: t ∧ p d = false
  | [] => .inl rfl
  | c :: t => by
    by_cases h : p c = true
    · rw [List.takeWhile_cons, if_pos h, List.length_cons, List.drop_succ_cons]
      exact tw_drop p t
    · rw [List.takeWhile_cons, if_neg h]
      exact .inr ⟨c, t, rfl, by simpa using h⟩
theorem tw_local (p : UInt8 → Bool) : ∀ (x z : List UInt8), z.take (x.takeWhile p).length = x.take (x.takeWhile p).length → (z.drop (x.takeWhile p).length = [] ∨ ∃ d t, z.drop (x.takeWhile p).length = d :: t ∧ p d = false) → z.takeWhile p = x.takeWhile p
  | [], z, _, h => by
    simp only [List.takeWhile_nil, List.length_nil, List.drop_zero] at h ⊢
    rcases h with h | ⟨d, t, h, g⟩
    · rw [h]; rfl
    · rw [h, List.takeWhile_cons, if_neg (by rw [g]; decide)]
  | c :: t, z, e, h => by
    by_cases hc : p c = true
    · rw [List.takeWhile_cons, if_pos hc, List.length_cons] at e h
      cases z with
      | nil => simp at e
      | cons d u =>
        rw [List.take_succ_cons, List.take_succ_cons] at e
        injection e with e1 e2
        rw [List.drop_succ_cons] at h
        rw [List.takeWhile_cons, List.takeWhile_cons, e1, if_pos hc, if_pos hc, tw_local p t u e2 h]
    · rw [List.takeWhile_cons, if_neg hc] at e h ⊢
      rcases h with h | ⟨d, u, h, g⟩
      · simp only [List.length_nil, List.drop_zero] at h
        rw [h]; rfl
      · simp only [List.length_nil, List.drop_zero] at h
        rw [h, List.takeWhile_cons, if_neg (by rw [g]; decide)]
theorem tw_take (p : UInt8 → Bool) (x : List UInt8) : x.take (x.takeWhile p).length = x.takeWhile p := by
  induction x with
  | nil => rfl
  | cons c t ih =>
    by_cases hc : p c = true
    · rw [List.takeWhile_cons, if_pos hc, List.length_cons, List.take_succ_cons, ih]
    · rw [List.takeWhile_cons, if_neg hc]; rfl
theorem tw_app (p : UInt8 → Bool) (hp : p 10 = false) (x y : List UInt8) : (x ++ 10 :: y).takeWhile p = x.takeWhile p := by
  induction x with
  | nil => rw [List.nil_append, List.takeWhile_cons, if_neg (by rw [hp]; decide)]; rfl
  | cons c t ih =>
    by_cases hc : p c = true
    · rw [List.cons_append, List.takeWhile_cons, if_pos hc, List.takeWhile_cons, if_pos hc, ih]
    · rw [List.cons_append, List.takeWhile_cons, if_neg hc, List.takeWhile_cons, if_neg hc]
theorem take_getD {x z : List UInt8} {n j : Nat} (h : z.take n = x.take n) (hj : j < n) : z.getD j 0 = x.getD j 0 := by
  have := congrArg (fun l => l.getD j 0) h
  simp only [List.getD_eq_getElem?_getD, List.getElem?_take, if_pos hj] at this
  rw [List.getD_eq_getElem?_getD, List.getD_eq_getElem?_getD]
  exact this
theorem take_mono {x z : List UInt8} {n m : Nat} (h : z.take n = x.take n) (hm : m ≤ n) : z.take m = x.take m := by
  have := congrArg (List.take m) h
  rwa [List.take_take, List.take_take, Nat.min_eq_left hm] at this
theorem take_len_of {x z : List UInt8} {n : Nat} (h : z.take n = x.take n) (hn : n ≤ x.length) : n ≤ z.length := by
  have := congrArg List.length h
  rw [List.length_take, List.length_take] at this
  omega
/-! ### skipping -/
theorem skip_app (y : List UInt8) : ∀ (x : List UInt8) (n m : Nat), n ≤ x.length → skipL n x = .ok m →
    (m < x.length → skipL n (x ++ 10 :: y) = .ok m) ∧ (m = x.length → skipL n (x ++ 10 :: y) = upE (x.length + 1) (skipL 0 y)) ∧ m ≤ x.length
  | [], n, m, hn, h => by
    have : n = 0 := by simpa using hn
    subst this
    rw [skipL] at h
    injection h with h
    refine ⟨by intro h2; simp at h2, fun _ => ?_, by omega⟩
    rw [List.nil_append, skipL, if_pos (by decide)]
    cases skipL 0 y <;> simp [upE] <;> omega
  | c :: t, n + 1, m, hn, h => by
    rw [skipL] at h
    cases hs : skipL n t with
    | error e => rw [hs] at h; cases h
    | ok k =>
      rw [hs] at h
      injection h with h
      obtain ⟨a, b, d⟩ := skip_app y t n k (by simpa using hn) hs
      simp only [List.length_cons]
      refine ⟨fun hm => ?_, fun hm => ?_, by omega⟩
      · rw [List.cons_append, skipL, a (by omega), ← h]
      · rw [List.cons_append, skipL, b (by omega)]
        cases skipL 0 y <;> simp [upE] <;> omega
  | c :: t, 0, m, hn, h => by
    rw [skipL] at h
    have key : ∀ (k : Nat), k ≤ t.length → (match skipL k t with | .ok m => Except.ok (m + 1) | .error m => .error (m + 1)) = (Except.ok m : Except Nat Nat) →
        (m < t.length + 1 → (match skipL k (t ++ 10 :: y) with | .ok m => Except.ok (m + 1) | .error m => .error (m + 1)) = (Except.ok m : Except Nat Nat)) ∧ (m = t.length + 1 → (match skipL k (t ++ 10 :: y) with | .ok m => Except.ok (m + 1) | .error m => .error (m + 1)) = upE (t.length + 1 + 1) (skipL 0 y)) ∧ m ≤ t.length + 1 := by
      intro k hk h
      cases hs : skipL k t with
      | error e => rw [hs] at h; cases h
      | ok j =>
        rw [hs] at h
        injection h with h
        obtain ⟨a, b, d⟩ := skip_app y t k j hk hs
        refine ⟨fun hm => ?_, fun hm => ?_, by omega⟩
        · rw [a (by omega), ← h]
        · rw [b (by omega)]
          cases skipL 0 y <;> simp [upE] <;> omega
    rw [List.cons_append, skipL, List.length_cons]
    by_cases h1 : blankB c = true
    · rw [if_pos h1] at h ⊢
      exact key 0 (by omega) h
    rw [if_neg h1] at h ⊢
    by_cases h2 : c = 59
    · rw [if_pos h2] at h ⊢
      rw [tw_app _ (by decide)]
      exact key _ (List.takeWhile_sublist _).length_le h
    rw [if_neg h2] at h ⊢
    by_cases h3 : c = 35 ∧ t.head? = some 124
    · cases t with
      | nil => simp at h3
      | cons d u =>
        have hd : d = 124 := by simpa using h3.2
        rw [if_pos h3] at h
        rw [List.cons_append, if_pos (by exact h3)]
        simp only [List.drop_succ_cons, List.drop_zero] at h ⊢
        cases hc : comB 1 u with
        | none => rw [hc] at h; cases h
        | some k =>
          have := comB_le _ _ _ hc
          rw [hc] at h
          rw [comB_app _ _ _ _ hc]
          exact key _ (by simp only [List.length_cons]; omega) h
    · rw [if_neg h3] at h
      rw [if_neg (by
        cases t with
        | nil => simp
        | cons d u => exact h3)]
      injection h with h
      exact ⟨fun _ => by rw [h], fun hm => by omega, by omega⟩
/-! ### escapes, texts -/
theorem semi_local {x z : List UInt8} {k : Nat} (h : semi x = some k) (e : z.take (k + 1) = x.take (k + 1)) : semi z = some k := by
  have hk := semi_le h
  have e1 : (x.takeWhile (fun b => b != 59)).length = k := by
    unfold semi at h
    split at h
    · injection h
    · cases h
  have hz := take_len_of e (by omega)
  have hd : x.getD k 0 = 59 := by
    rcases tw_drop (fun b => b != 59) x with h2 | ⟨d, t, h2, g⟩
    · rw [e1] at h2; have := congrArg List.length h2; rw [List.length_drop] at this; simp at this; omega
    · rw [e1] at h2
      rw [show x.getD k 0 = d by have := getD_drop x k 0; rw [Nat.add_zero, h2] at this; exact this.symm]
      simpa using g
  have hz2 : z.getD k 0 = 59 := by rw [take_getD e (by omega), hd]
  have e3 : z.takeWhile (fun b => b != 59) = x.takeWhile (fun b => b != 59) := by
    refine tw_local _ _ _ (by rw [e1]; exact take_mono e (by omega)) ?_
    rw [e1]
    refine .inr ⟨59, z.drop (k + 1), ?_, by decide⟩
    rw [drop_cons (by omega), hz2]
  unfold semi
  rw [e3, e1, if_pos (by omega)]
theorem escL_local {by_ : UInt8} {x z out : List UInt8} {n : Nat} (h : escL by_ x = .ok out n) (e : z.take n = x.take n) : escL by_ z = .ok out n := by
  have hn := escL_le h
  cases x with
  | nil => cases h
  | cons d u =>
    obtain ⟨m, rfl⟩ : ∃ m, n = m + 1 := ⟨n - 1, by omega⟩
    cases z with
    | nil => simp at e
    | cons d' v =>
      rw [List.take_succ_cons, List.take_succ_cons] at e
      injection e with e1 e2
      subst e1
      rw [escL] at h ⊢
      split at h
      · rename_i c; rw [if_pos c]; exact h
      rename_i c; rw [if_neg c]
      split at h
      · rename_i c; rw [if_pos c]; exact h
      rename_i c; rw [if_neg c]
      split at h
      · rename_i c; rw [if_pos c]; exact h
      rename_i c; rw [if_neg c]
      split at h
      · rename_i c; rw [if_pos c]; exact h
      rename_i c; rw [if_neg c]
      split at h
      · rename_i c; rw [if_pos c]
        cases hs : semi u with
        | none => rw [hs] at h; cases h
        | some k =>
          rw [hs] at h
          simp only at h
          cases hc : hexC (u.take k) with
          | none => rw [hc] at h; cases h
          | some r =>
            rw [hc] at h
            injection h with h1 h2
            have hm : m = k + 1 := by omega
            rw [hm] at e2
            rw [semi_local hs e2]
            simp only
            rw [take_mono e2 (by omega), hc]
            simp only
            rw [h1, h2]
      rename_i c; rw [if_neg c]
      split at h
      · rename_i c; rw [if_pos c]; exact h
      · cases h
theorem QuoR.up_ok {out o : List UInt8} {k n : Nat} {r : QuoR} (h : r.up out k = .ok o n) : ∃ o' n', r = .ok o' n' ∧ o = out ++ o' ∧ n = k + n' := by
  cases r with
  | open_ => cases h
  | bad => cases h
  | ok o' n' => injection h with h1 h2; exact ⟨o', n', rfl, h1.symm, h2.symm⟩
theorem quoL_local (by_ : UInt8) : ∀ (x z : List UInt8) (k : Nat) (out : List UInt8) (n : Nat), quoL by_ k x = .ok out n → z.take n = x.take n → quoL by_ k z = .ok out n ∧ k < n ∧ n ≤ x.length
  | [], _, k, out, n, h, _ => by cases k <;> cases h
  | c :: t, z, k + 1, out, n, h, e => by
    rw [quoL] at h
    obtain ⟨o, m, h1, h2, h3⟩ := QuoR.up_ok h
    rw [show n = m + 1 by omega] at e ⊢
    cases z with
    | nil => simp at e
    | cons d v =>
      rw [List.take_succ_cons, List.take_succ_cons] at e
      injection e with e1 e2
      obtain ⟨a, b, c⟩ := quoL_local by_ t v k o m h1 e2
      rw [quoL, a, List.length_cons]
      refine ⟨?_, by omega, by omega⟩
      rw [h2]
      simp [QuoR.up, Nat.add_comm]
  | c :: t, z, 0, out, n, h, e => by
    rw [quoL] at h
    by_cases h1 : c = by_
    · rw [if_pos h1] at h
      injection h with h2 h3
      subst h2; subst h3
      cases z with
      | nil => simp at e
      | cons d v =>
        rw [List.take_succ_cons, List.take_succ_cons] at e
        injection e with e1 e2
        rw [quoL, if_pos (by rw [e1]; exact h1), List.length_cons]
        exact ⟨rfl, by omega, by omega⟩
    rw [if_neg h1] at h
    by_cases h2 : c ≠ 92
    · rw [if_pos h2] at h
      obtain ⟨o, m, h3, h4, h5⟩ := QuoR.up_ok h
      rw [show n = m + 1 by omega] at e ⊢
      cases z with
      | nil => simp at e
      | cons d v =>
        rw [List.take_succ_cons, List.take_succ_cons] at e
        injection e with e1 e2
        obtain ⟨a, b, q⟩ := quoL_local by_ t v 0 o m h3 e2
        rw [quoL, e1, if_neg h1, if_pos h2, a, List.length_cons]
        refine ⟨?_, by omega, by omega⟩
        rw [h4]
        simp [QuoR.up, Nat.add_comm]
    rw [if_neg h2] at h
    cases he : escL by_ t with
    | open_ => rw [he] at h; cases h
    | bad => rw [he] at h; cases h
    | ok o j =>
      rw [he] at h
      simp only at h
      obtain ⟨o2, m, h3, h4, h5⟩ := QuoR.up_ok h
      rw [show n = m + 1 by omega] at e ⊢
      cases z with
      | nil => simp at e
      | cons d v =>
        rw [List.take_succ_cons, List.take_succ_cons] at e
        injection e with e1 e2
        obtain ⟨a, b, q⟩ := quoL_local by_ t v j o2 m h3 e2
        rw [quoL, e1, if_neg h1, if_neg h2, escL_local he (take_mono e2 (by omega)), List.length_cons]
        simp only
        rw [a]
        refine ⟨?_, by omega, by omega⟩
        rw [h4]
        simp [QuoR.up, Nat.add_comm]
theorem QuoR.up_bad {out : List UInt8} {k i : Nat} {r : QuoR} (h : r.up out k = .bad i) : ∃ i', r = .bad i' ∧ i = k + i' := by
  cases r with
  | open_ => cases h
  | bad i' => injection h with h1; exact ⟨i', rfl, h1.symm⟩
  | ok => cases h
/-! ### chars -/
theorem decodeN_width (n b0 b1 b2 b3 : Nat) (h : 1 ≤ n) : 1 ≤ (decodeN n b0 b1 b2 b3).2 ∧ (decodeN n b0 b1 b2 b3).2 ≤ n := by
  unfold decodeN
  repeat' split
  all_goals simp only
  all_goals omega
theorem decodeL_wd {x : List UInt8} (h : x ≠ []) : 1 ≤ (decodeL x).2 ∧ (decodeL x).2 ≤ x.length := by
  rw [decodeL_N]
  exact decodeN_width _ _ _ _ _ (List.length_pos_iff.2 h)
/-! ### tokens -/
end Go.Proofs.YtonnikipeokkaaaGreatDoor

namespace Go.Proofs.YtonnikipeokkaaaGreatDoor
open Go.Lib

/-- The token at a place that is handed over. -/
def nextV (l : List UInt8) (at_ : Int) : Except (Nat × Nat) (Nat × Tk) :=
  if 4096 < l.length then .error (0, 12) else if at_ < 0 ∨ (l.length : Int) < at_ then .error (0, 1) else lexAt l at_.toNat
theorem skip_le : ∀ (x : List UInt8) (n m : Nat), n ≤ x.length → skipL n x = .ok m → m ≤ x.length := fun x n m hn h => (skip_app [] x n m hn h).2.2
theorem skip_err : ∀ (x : List UInt8) (n m : Nat), n ≤ x.length → skipL n x = .error m → m < x.length
  | [], n, m, _, h => by cases n <;> cases h
  | c :: t, n + 1, m, hn, h => by
    rw [skipL] at h
    cases hs : skipL n t with
    | ok e => rw [hs] at h; cases h
    | error k =>
      rw [hs] at h
      injection h with h
      have := skip_err t n k (by simpa using hn) hs
      simp only [List.length_cons]; omega
  | c :: t, 0, m, hn, h => by
    rw [skipL] at h
    have key : ∀ k, k ≤ t.length → (match skipL k t with | .ok m => Except.ok (m + 1) | .error m => .error (m + 1)) = (Except.error m : Except Nat Nat) → m < (c :: t).length := by
      intro k hk h
      cases hs : skipL k t with
      | ok e => rw [hs] at h; cases h
      | error j =>
        rw [hs] at h
        injection h with h
        have := skip_err t k j hk hs
        simp only [List.length_cons]; omega
    split at h
    · exact key 0 (by omega) h
    split at h
    · exact key _ (List.takeWhile_sublist _).length_le h
    split at h
    · rename_i g
      cases hc : comB 1 (t.drop 1) with
      | none => rw [hc] at h; injection h with h; rw [← h]; simp
      | some k =>
        have := comB_le _ _ _ hc
        rw [List.length_drop] at this
        rw [hc] at h
        exact key _ (by omega) h
    · cases h
theorem textL_err {b : Bool} {t : List UInt8} {e : Nat} (h : textL b t = .error e) : e = 6 ∨ e = 9 := by
  unfold textL at h
  split at h
  · injection h; omega
  split at h
  · injection h; omega
  split at h
  · injection h; omega
  · cases h
theorem charL_code {t : List UInt8} {e : Nat} (h : charL t = .error e) : e = 9 ∨ e = 11 := by
  unfold charL at h
  split at h
  · injection h; omega
  split at h
  · injection h; omega
  simp only at h
  split at h
  · cases h
  split at h
  · cases h
  split at h
  · split at h
    · cases h
    · injection h; omega
  · injection h; omega
theorem wordV_err {t : List UInt8} {e : Nat} (h : wordV t = .error e) : e = 6 ∨ e = 9 := by
  unfold wordV at h
  split at h
  · cases h
  split at h
  · cases h
  split at h
  · cases h
  split at h
  · injection h; omega
  split at h
  · split at h
    · cases h
    · injection h; omega
  · split at h
    · cases h
    · rename_i g
      injection h with h
      have := textL_err g
      omega
theorem quoL_bd (by_ : UInt8) : ∀ (x : List UInt8) (k i : Nat), quoL by_ k x = .bad i → i < x.length
  | [], k, i, h => by cases k <;> cases h
  | c :: t, k + 1, i, h => by
    rw [quoL] at h
    obtain ⟨j, h1, h2⟩ := QuoR.up_bad h
    have := quoL_bd by_ t k j h1
    rw [List.length_cons]; omega
  | c :: t, 0, i, h => by
    rw [quoL] at h
    rw [List.length_cons]
    split at h
    · cases h
    split at h
    · obtain ⟨j, h1, h2⟩ := QuoR.up_bad h
      have := quoL_bd by_ t 0 j h1
      omega
    split at h
    · cases h
    · injection h; omega
    · obtain ⟨j, h1, h2⟩ := QuoR.up_bad h
      have := quoL_bd by_ t _ j h1
      omega
theorem tok_err_bd {x : List UInt8} {p c : Nat} (hx : x ≠ []) (h : tokL x = .error (p, c)) : p < x.length ∧ (c = 6 ∨ c = 9 ∨ c = 11) := by
  cases x with
  | nil => exact absurd rfl hx
  | cons b u =>
    rw [tokL] at h
    rw [List.length_cons]
    split at h
    · cases h
    split at h
    · cases h
    split at h
    · cases h
    split at h
    · cases h
    split at h
    · split at h <;> cases h
    split at h
    · split at h
      · injection h with h; injection h; omega
      · rename_i i hq
        have := quoL_bd _ _ _ _ hq
        injection h with h; injection h; omega
      · split at h
        · cases h
        · rename_i e he
          have := textL_err he
          injection h with h; injection h; omega
    split at h
    · cases h
    split at h
    · split at h
      · cases h
      · rename_i e he
        have := charL_code he
        injection h with h; injection h; omega
    · split at h
      · cases h
      · rename_i e he
        have := wordV_err he
        injection h with h; injection h; omega
theorem lexAt_err {l : List UInt8} {i p c : Nat} (hi : i ≤ l.length) (h : lexAt l i = .error (p, c)) : p < l.length ∧ (c = 6 ∨ c = 9 ∨ c = 11) := by
  unfold lexAt at h
  cases hs : skipAt l i with
  | error k =>
    rw [hs] at h
    injection h with h; injection h with h1 h2
    unfold skipAt at hs
    cases hq : skipL 0 (l.drop i) with
    | ok m => rw [hq] at hs; cases hs
    | error m =>
      rw [hq] at hs
      injection hs with hs
      have := skip_err _ _ _ (by omega) hq
      rw [List.length_drop] at this
      omega
  | ok k =>
    have hk : i ≤ k ∧ k ≤ l.length := by
      unfold skipAt at hs
      cases hq : skipL 0 (l.drop i) with
      | error p => rw [hq] at hs; cases hs
      | ok m =>
        rw [hq] at hs
        injection hs with hs
        have := skip_le _ _ _ (by omega) hq
        rw [List.length_drop] at this
        omega
    rw [hs] at h
    simp only at h
    split at h
    · cases h
    · rename_i g
      cases ht : tokL (l.drop k) with
      | ok t' => rw [ht] at h; cases h
      | error e =>
        obtain ⟨q, d⟩ := e
        rw [ht] at h
        injection h with h; injection h with h1 h2
        have hne : l.drop k ≠ [] := by
          intro hh
          have := congrArg List.length hh
          rw [List.length_drop] at this
          simp at this
          omega
        have := tok_err_bd hne ht
        rw [List.length_drop] at this
        omega
/-! ### all tokens -/
/-! ### two texts -/
/-! ### a token's own bytes -/
/-! ### tokens rise -/
end Go.Proofs.YtonnikipeokkaaaGreatDoor

namespace Go.Proofs.YtonnikipeokkaaaGreatDoor
open Go.Lib

/-- A datum, field by field. -/
inductive Raw where
  | mk (k c : Int) (neg : Bool) (mag : List Nat) (t : ByteArray) (l : List Raw)
def Raw.nil : Raw := .mk 0 0 false [] ⟨#[]⟩ []
def pairR (a d : Raw) : Raw := .mk 7 0 false [] ⟨#[]⟩ [a, d]
def vecR (l : List Raw) : Raw := .mk 8 0 false [] ⟨#[]⟩ l
def listR : List Raw → Raw → Raw
  | [], d => d
  | x :: l, d => pairR x (listR l d)
/-! ### the machine -/
/-! ### every text reads so, or so -/
end Go.Proofs.YtonnikipeokkaaaGreatDoor

namespace Go.Proofs.YtonnikipeokkaaaGreatDoor
open Go.Lib

theorem nextV_bad {l : List UInt8} {i : Int} {p c : Nat} (h : nextV l i = .error (p, c)) : c = 1 ∨ c = 6 ∨ c = 9 ∨ c = 11 ∨ c = 12 := by
  unfold nextV at h
  split at h
  · injection h with h; injection h; omega
  split at h
  · injection h with h; injection h; omega
  · have := (lexAt_err (by omega) h).2
    omega
/-! ### a text, and what stands behind it -/
/-! ### further -/
/-! ### deeper -/
/-! ### marks, brackets -/
end Go.Proofs.YtonnikipeokkaaaGreatDoor
