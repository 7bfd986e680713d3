/- The tokens of a text: plain Lean, no program in sight. What -/
import Derived.Lib.ValidLaws
import Derived.Test.YtonnikipeokkaaaGreatDoorN2
namespace Go.Proofs.YtonnikipeokkaaaGreatDoor
open Go.Lib (hid)
open Go.Lib
def bG (p : UInt8 -> Bool) (l : List UInt8) (a : Nat) : Nat := a + ((l.drop a).takeWhile p).length
theorem kI (p : UInt8 -> Bool) : ∀ (l : List UInt8) (n : Nat), n <= l.length -> (∀ j, j < n -> p (l.getD j 0) = true) -> (n = l.length \/ p (l.getD n 0) = false) -> (l.takeWhile p).length = n
 | [], n, hn, _, _ => by simp at hn; simp [hn]
 | x :: l, 0, _, _, hs => by
  rcases hs with h | h
  · simp at h
  · have hx : p x = false := by simpa using h
    simp [hx]
 | x :: l, n + 1, hn, h, hs => by
  have hx : p x = true := by simpa using h 0 (by omega)
  have ih := kI p l n (by simpa using hn) (fun j hj => by simpa using h (j + 1) (by omega)) (by
   rcases hs with e | e
   · exact .inl (by simpa using e)
   · exact .inr (by simpa using e))
  rw [List.takeWhile_cons, if_pos hx, List.length_cons, ih]
theorem de (l : List UInt8) (a j : Nat) : (l.drop a).getD j 0 = l.getD (a + j) 0 := by
 rw [gD, gD, List.getElem?_drop]
theorem ap {l : List UInt8} {i : Nat} (h : i < l.length) : l.drop i = l.getD i 0 :: l.drop (i + 1) := by
 rw [List.drop_eq_getElem_cons h, gD, gE h]
 rfl
theorem cZ {p : UInt8 -> Bool} {l : List UInt8} {a : Nat} (h : a < l.length) (hp : p (l.getD a 0) = true) : bG p l (a + 1) = bG p l a := by
 unfold bG
 rw [ap h, List.takeWhile_cons, if_pos hp, List.length_cons]
 omega
theorem d4 {p : UInt8 -> Bool} {l : List UInt8} {a : Nat} (h : a < l.length) (hp : p (l.getD a 0) = false) : bG p l a = a := by
 unfold bG
 rw [ap h, List.takeWhile_cons, if_neg (by rw [hp]; decide)]
 rfl
theorem fx {p : UInt8 -> Bool} {l : List UInt8} {a : Nat} (h : l.length <= a) : bG p l a = a := by
 unfold bG
 rw [List.drop_of_length_le h]
 rfl
theorem fM (p : UInt8 -> Bool) {l : List UInt8} {a : Nat} (h : a <= l.length) : bG p l a <= l.length := by
 unfold bG
 have := (List.takeWhile_sublist p (l := l.drop a)).length_le
 rw [List.length_drop] at this
 omega
theorem mS (p : UInt8 -> Bool) (l : List UInt8) (a : Nat) : a <= bG p l a := Nat.le_add_right _ _
def bq (b : UInt8) : Bool := b == 9 || b == 10 || b == 12 || b == 13 || b == 32
def aL (b : UInt8) : Bool := bq b || [40, 41, 91, 93, 34, 59, 39, 96, 44].contains b
def bK : Nat -> List UInt8 -> Option Nat
 | deep, a :: b :: t =>
  if a = 35 /\ b = 124 then (bK (deep + 1) t).map (· + 2)
  else if a = 124 /\ b = 35 then (if deep <= 1 then some 2 else (bK (deep - 1) t).map (· + 2))
  else (bK deep (b :: t)).map (· + 1)
 | _, _ => none
theorem gN : ∀ (l : List UInt8) (deep n : Nat), bK deep l = some n -> 2 <= n /\ n <= l.length := by
 intro l
 induction hl : l.length using Nat.strongRecOn generalizing l with
 | _ k ih =>
  intro deep n h
  match l, hl with
  | [], _ => simp [bK] at h
  | [x], _ => simp [bK] at h
  | a :: b :: t, hl =>
   simp only [List.length_cons] at hl
   rw [bK] at h
   split at h
   · cases hc : bK (deep + 1) t with
     | none => rw [hc] at h; simp at h
     | some m =>
      rw [hc] at h
      have := ih t.length (by omega) t rfl (deep + 1) m hc
      simp at h
      omega
   · split at h
     · split at h
       · simp at h; omega
       · cases hc : bK (deep - 1) t with
         | none => rw [hc] at h; simp at h
         | some m =>
          rw [hc] at h
          have := ih t.length (by omega) t rfl (deep - 1) m hc
          simp at h
          omega
     · cases hc : bK deep (b :: t) with
       | none => rw [hc] at h; simp at h
       | some m =>
        rw [hc] at h
        have := ih (b :: t).length (by simp only [List.length_cons]; omega) (b :: t) rfl deep m hc
        simp at h
        simp only [List.length_cons] at this
        omega
theorem pI : ∀ (l y : List UInt8) (deep n : Nat), bK deep l = some n -> bK deep (l ++ y) = some n := by
 intro l
 induction hl : l.length using Nat.strongRecOn generalizing l with
 | _ k ih =>
  intro y deep n h
  match l, hl with
  | [], _ => simp [bK] at h
  | [x], _ => simp [bK] at h
  | a :: b :: t, hl =>
   simp only [List.length_cons] at hl
   rw [bK] at h
   rw [List.cons_append, List.cons_append, bK]
   split at h
   · rename_i hc
     rw [if_pos hc]
     cases hm : bK (deep + 1) t with
     | none => rw [hm] at h; simp at h
     | some m => rw [hm] at h; rw [ih t.length (by omega) t rfl y _ m hm]; exact h
   · rename_i hc
     rw [if_neg hc]
     split at h
     · rename_i hd
       rw [if_pos hd]
       split at h
       · rename_i he; rw [if_pos he]; exact h
       · rename_i he
         rw [if_neg he]
         cases hm : bK (deep - 1) t with
         | none => rw [hm] at h; simp at h
         | some m => rw [hm] at h; rw [ih t.length (by omega) t rfl y _ m hm]; exact h
     · rename_i hd
       rw [if_neg hd]
       cases hm : bK deep (b :: t) with
       | none => rw [hm] at h; simp at h
       | some m => rw [hm] at h; rw [<- List.cons_append, ih (b :: t).length (by simp only [List.length_cons]; omega) (b :: t) rfl y _ m hm]; exact h
def aS : Nat -> List UInt8 -> Except Nat Nat
 | _, [] => .ok 0
 | n + 1, _ :: t => match aS n t with | .ok m => .ok (m + 1) | .error m => .error (m + 1)
 | 0, c :: t =>
  if bq c = true then (match aS 0 t with | .ok m => .ok (m + 1) | .error m => .error (m + 1))
  else if c = 59 then (match aS (t.takeWhile (fun b => b != 10)).length t with | .ok m => .ok (m + 1) | .error m => .error (m + 1))
  else if c = 35 /\ t.head? = some 124 then
   match bK 1 (t.drop 1) with
   | none => .error 0
   | some k => (match aS (1 + k) t with | .ok m => .ok (m + 1) | .error m => .error (m + 1))
  else .ok 0
def upE (n : Nat) : Except Nat Nat -> Except Nat Nat
 | .ok m => .ok (n + m)
 | .error m => .error (n + m)
theorem ou (r : Except Nat Nat) : upE 0 r = r := by cases r <;> simp [upE]
theorem gp : ∀ (n : Nat) (l : List UInt8), n <= l.length -> aS n l = upE n (aS 0 (l.drop n))
 | 0, l, _ => by rw [ou]; rfl
 | n + 1, [], h => by simp at h
 | n + 1, c :: t, h => by
  rw [List.drop_succ_cons, aS, gp n t (by simpa using h)]
  cases aS 0 (t.drop n) <;> simp [upE] <;> omega
def ay (l : List UInt8) (i : Nat) : Except Nat Nat := upE i (aS 0 (l.drop i))
theorem iJ {l : List UInt8} : ay l l.length = .ok l.length := by
 unfold ay; rw [List.drop_length]; rfl
theorem gG {l : List UInt8} {i : Nat} (h : i < l.length) (h1 : bq (l.getD i 0) = true) : ay l i = ay l (i + 1) := by
 unfold ay
 rw [ap h, aS, if_pos h1]
 cases aS 0 (l.drop (i + 1)) <;> simp [upE] <;> omega
theorem pU : bq 59 = false := by decide
theorem lD : bq 35 = false := by decide
theorem ia {l : List UInt8} {i : Nat} (h : i < l.length) (h1 : l.getD i 0 = 59) : ay l i = ay l (bG (fun b => b != 10) l i) := by
 have e : bG (fun b => b != 10) l i = i + 1 + ((l.drop (i + 1)).takeWhile (fun b => b != 10)).length := by
  rw [<- cZ h (by rw [h1]; decide)]; rfl
 unfold ay
 rw [e, ap h, aS, h1, pU, if_neg (by decide), if_pos rfl, gp _ _ (List.takeWhile_sublist _).length_le, List.drop_drop]
 cases aS 0 (l.drop (i + 1 + ((l.drop (i + 1)).takeWhile (fun b => b != 10)).length)) <;> simp [upE] <;> omega
theorem eV (l : List UInt8) (i : Nat) (x : UInt8) : (l.drop i).head? = some x ↔ i < l.length /\ l.getD i 0 = x := by
 by_cases h : i < l.length
 · rw [ap h]; simp [h]
 · rw [List.drop_of_length_le (by omega)]; simp [h]
theorem iK {l : List UInt8} {i k : Nat} (h : i + 1 < l.length) (h1 : l.getD i 0 = 35) (h2 : l.getD (i + 1) 0 = 124) (hc : bK 1 (l.drop (i + 2)) = some k) : ay l i = ay l (i + 2 + k) := by
 have hk := gN _ _ _ hc
 rw [List.length_drop] at hk
 unfold ay
 rw [ap (show i < l.length by omega), aS, h1, lD, if_neg (by decide), if_neg (by decide), if_pos ⟨rfl, (eV _ _ _).2 ⟨h, h2⟩⟩, List.drop_drop, show i + 1 + 1 = i + 2 from rfl, hc]
 simp only
 rw [gp _ _ (by rw [List.length_drop]; omega), List.drop_drop, show i + 1 + (1 + k) = i + 2 + k by omega]
 cases aS 0 (l.drop (i + 2 + k)) <;> simp [upE] <;> omega
theorem hU {l : List UInt8} {i : Nat} (h : i + 1 < l.length) (h1 : l.getD i 0 = 35) (h2 : l.getD (i + 1) 0 = 124) (hc : bK 1 (l.drop (i + 2)) = none) : ay l i = .error i := by
 unfold ay
 rw [ap (show i < l.length by omega), aS, h1, lD, if_neg (by decide), if_neg (by decide), if_pos ⟨rfl, (eV _ _ _).2 ⟨h, h2⟩⟩, List.drop_drop, show i + 1 + 1 = i + 2 from rfl, hc]
 rfl
theorem hG {l : List UInt8} {i : Nat} (h : i < l.length) (h1 : bq (l.getD i 0) = false) (h2 : l.getD i 0 ≠ 59) (h3 : ¬ (i + 1 < l.length /\ l.getD i 0 = 35 /\ l.getD (i + 1) 0 = 124)) : ay l i = .ok i := by
 unfold ay
 rw [ap h, aS, h1, if_neg (by decide), if_neg h2, if_neg (by rintro ⟨a, b⟩; obtain ⟨c, d⟩ := (eV _ _ _).1 b; exact h3 ⟨c, a, d⟩)]
 rfl
def fq (b : UInt8) : Option Nat :=
 if 48 <= b.toNat /\ b.toNat <= 57 then some (b.toNat - 48)
 else if 97 <= b.toNat /\ b.toNat <= 102 then some (b.toNat - 87)
 else if 65 <= b.toNat /\ b.toNat <= 70 then some (b.toNat - 55) else none
def cF (n : Nat) : Bool := decide (n < 0xD800 \/ 0xE000 <= n /\ n <= 0x10FFFF)
def gx : List UInt8 -> Nat -> Option Nat
 | [], n => some n
 | b :: t, n => match fq b with
  | none => none
  | some v => gx t (n * 16 + v)
def cD (l : List UInt8) : Option Nat :=
 if l.length < 1 \/ 6 < l.length then none else
 match gx l 0 with
 | none => none
 | some n => if cF n then some n else none
def dB (c : Nat) : List UInt8 :=
 if c < 0x80 then [UInt8.ofNat c]
 else if c < 0x800 then [UInt8.ofNat (0xC0 + c / 64), UInt8.ofNat (0x80 + c % 64)]
 else if c < 0x10000 then [UInt8.ofNat (0xE0 + c / 4096), UInt8.ofNat (0x80 + c / 64 % 64), UInt8.ofNat (0x80 + c % 64)]
 else [UInt8.ofNat (0xF0 + c / 262144), UInt8.ofNat (0x80 + c / 4096 % 64), UInt8.ofNat (0x80 + c / 64 % 64), UInt8.ofNat (0x80 + c % 64)]
theorem qL {b : UInt8} {v : Nat} (h : fq b = some v) : v < 16 := by
 unfold fq at h
 split at h
 · injection h; omega
 · split at h
   · injection h; omega
   · split at h
     · injection h; omega
     · cases h
inductive sn where
 | open_
 | bad
 | ok (out : List UInt8) (n : Nat)
def ea (u : List UInt8) : Option Nat := if (u.takeWhile (fun b => b != 59)).length < u.length then some (u.takeWhile (fun b => b != 59)).length else none
def bA (by_ : UInt8) : List UInt8 -> sn
 | [] => .open_
 | d :: u =>
  if d = 92 \/ d = 34 then .ok [d] 1
  else if d = 110 then .ok [10] 1
  else if d = 116 then .ok [9] 1
  else if d = 114 then .ok [13] 1
  else if d = 120 then
   match ea u with
   | none => .bad
   | some k => match cD (u.take k) with
    | none => .bad
    | some r => .ok (dB r) (k + 2)
  else if d = 124 /\ by_ = 124 then .ok [124] 1
  else .bad
inductive cG where
 | open_
 | bad (i : Nat)
 | ok (out : List UInt8) (n : Nat)
def cG.up (out : List UInt8) (k : Nat) : cG -> cG
 | .open_ => .open_
 | .bad i => .bad (k + i)
 | .ok o n => .ok (out ++ o) (k + n)
theorem cG.up_up (a b : List UInt8) (j k : Nat) (r : cG) : (r.up b k).up a j = r.up (a ++ b) (j + k) := by
 cases r <;> simp [cG.up, Nat.add_assoc]
theorem cG.up_zero (r : cG) : r.up [] 0 = r := by cases r <;> simp [cG.up]
def cB (by_ : UInt8) : Nat -> List UInt8 -> cG
 | _, [] => .open_
 | n + 1, _ :: t => (cB by_ n t).up [] 1
 | 0, c :: t =>
  if c = by_ then .ok [] 1
  else if c ≠ 92 then (cB by_ 0 t).up [c] 1
  else match bA by_ t with
   | .open_ => .open_
   | .bad => .bad 0
   | .ok out m => (cB by_ m t).up out 1
theorem ju (by_ : UInt8) : ∀ (n : Nat) (l : List UInt8), n <= l.length -> cB by_ n l = (cB by_ 0 (l.drop n)).up [] n
 | 0, l, _ => by rw [cG.up_zero]; rfl
 | n + 1, [], h => by simp at h
 | n + 1, c :: t, h => by
  rw [List.drop_succ_cons, cB, ju by_ n t (by simpa using h), cG.up_up, List.nil_append, Nat.add_comm]
theorem ip {u : List UInt8} {k : Nat} (h : ea u = some k) : k < u.length := by
 unfold ea at h
 split at h
 · injection h; omega
 · cases h
theorem j8 {by_ : UInt8} {l out : List UInt8} {n : Nat} (h : bA by_ l = .ok out n) : 1 <= n /\ n <= l.length := by
 cases l with
 | nil => cases h
 | cons d u =>
  rw [bA] at h
  rw [List.length_cons]
  split at h
  · injection h; omega
  split at h
  · injection h; omega
  split at h
  · injection h; omega
  split at h
  · injection h; omega
  split at h
  · split at h
    · cases h
    · rename_i k hk
      have := ip hk
      split at h
      · cases h
      · injection h; omega
  split at h
  · injection h; omega
  · cases h
def cM (by_ : UInt8) (l : List UInt8) (i : Nat) (out : List UInt8) : cG := (cB by_ 0 (l.drop i)).up out i
theorem jx (by_ : UInt8) (l out : List UInt8) : cM by_ l l.length out = .open_ := by
 unfold cM; rw [List.drop_length]; rfl
theorem ij {by_ : UInt8} {l out : List UInt8} {i : Nat} (h : i < l.length) (h1 : l.getD i 0 = by_) : cM by_ l i out = .ok out (i + 1) := by
 unfold cM
 rw [ap h, cB, if_pos h1]
 simp [cG.up]
theorem ii {by_ : UInt8} {l out : List UInt8} {i : Nat} (h : i < l.length) (h1 : l.getD i 0 ≠ by_) (h2 : l.getD i 0 ≠ 92) : cM by_ l i out = cM by_ l (i + 1) (out ++ [l.getD i 0]) := by
 unfold cM
 rw [ap h, cB, if_neg h1, if_pos h2, cG.up_up]
theorem iP {by_ : UInt8} {l out : List UInt8} {i : Nat} (h : i < l.length) (h1 : l.getD i 0 ≠ by_) (h2 : l.getD i 0 = 92) (h3 : bA by_ (l.drop (i + 1)) = .open_) : cM by_ l i out = .open_ := by
 unfold cM
 rw [ap h, cB, if_neg h1, if_neg (by simp only [h2, ne_eq, not_true_eq_false, not_false_eq_true]), h3]
 rfl
theorem jy {by_ : UInt8} {l out : List UInt8} {i : Nat} (h : i < l.length) (h1 : l.getD i 0 ≠ by_) (h2 : l.getD i 0 = 92) (h3 : bA by_ (l.drop (i + 1)) = .bad) : cM by_ l i out = .bad i := by
 unfold cM
 rw [ap h, cB, if_neg h1, if_neg (by simp only [h2, ne_eq, not_true_eq_false, not_false_eq_true]), h3]
 rfl
theorem jw {by_ : UInt8} {l out o : List UInt8} {i n : Nat} (h : i < l.length) (h1 : l.getD i 0 ≠ by_) (h2 : l.getD i 0 = 92) (h3 : bA by_ (l.drop (i + 1)) = .ok o n) : cM by_ l i out = cM by_ l (i + 1 + n) (out ++ o) := by
 unfold cM
 rw [ap h, cB, if_neg h1, if_neg (by simp only [h2, ne_eq, not_true_eq_false, not_false_eq_true]), h3]
 simp only
 rw [ju _ _ _ (j8 h3).2, cG.up_up, cG.up_up, List.drop_drop, List.append_nil, Nat.add_assoc]
def cw : Nat -> List UInt8 -> Option (List Nat)
 | 0, _ => some []
 | f + 1, l => if l = [] then some [] else if (decodeL l).1 = 65533 /\ (decodeL l).2 = 1 then none else (cw f (l.drop (decodeL l).2)).map ((decodeL l).1 :: ·)
def bi (l : List UInt8) : Option (List Nat) := cw l.length l
inductive fk where
 | no
 | tru
 | fls
 | chr (c : Nat)
 | int (x : Int)
 | str (t : List UInt8)
 | sym (t : List UInt8)
structure Tk where
 kind : Nat
 len : Nat
 sq : Bool
 d : fk
def bP (sym : Bool) (t : List UInt8) : Except Nat fk :=
 match bi t with
 | none => .error 9
 | some r => if sym = true /\ t = [] then .error 9 else if 62 < r.length then .error 6 else .ok (if sym then .sym t else .str t)
def aK (t : List UInt8) : Option Nat :=
 if t = [110, 117, 108] then some 0
 else if t = [97, 108, 97, 114, 109] then some 7
 else if t = [98, 97, 99, 107, 115, 112, 97, 99, 101] then some 8
 else if t = [116, 97, 98] then some 9
 else if t = [110, 101, 119, 108, 105, 110, 101] then some 10
 else if t = [114, 101, 116, 117, 114, 110] then some 13
 else if t = [101, 115, 99, 97, 112, 101] then some 27
 else if t = [115, 112, 97, 99, 101] then some 32
 else if t = [100, 101, 108, 101, 116, 101] then some 127
 else none
def dP (t : List UInt8) : Except Nat (Nat × Nat) :=
 if t = [] then .error 11
 else if (decodeL t).1 = 65533 /\ (decodeL t).2 = 1 then .error 9
 else
  let n := (decodeL t).2
  let m := ((t.drop n).takeWhile (fun b => !aL b)).length
  if m = 0 then .ok ((decodeL t).1, n)
  else match aK (t.take (n + m)) with
   | some v => .ok (v, n + m)
   | none => if (decodeL t).1 = 120 then
    (match cD ((t.drop n).take m) with
    | some r => .ok (r, n + m)
    | none => .error 9)
    else .error 9
def aY (b : UInt8) : Bool := !aL b && b != 124
def dw (w : List UInt8) : Except Nat (Nat × fk) :=
 if w = [46] then .ok (8, .no)
 else if w = [35, 116] \/ w = [35, 116, 114, 117, 101] then .ok (9, .tru)
 else if w = [35, 102] \/ w = [35, 102, 97, 108, 115, 101] then .ok (9, .fls)
 else if w.head? = some 35 then .error 9
 else match aG w with
  | some x => if (aT x.natAbs).length <= 48 then .ok (9, .int x) else .error 6
  | none => match bP true w with
   | .ok d => .ok (9, d)
   | .error c => .error c
def fp : List UInt8 -> Except (Nat × Nat) Tk
 | [] => .error (0, 9)
 | c :: t =>
  if c = 40 \/ c = 91 then .ok ⟨1, 1, c == 91, .no⟩
  else if c = 41 \/ c = 93 then .ok ⟨2, 1, c == 93, .no⟩
  else if c = 39 then .ok ⟨4, 1, false, .no⟩
  else if c = 96 then .ok ⟨5, 1, false, .no⟩
  else if c = 44 then (if t.head? = some 64 then .ok ⟨7, 2, false, .no⟩ else .ok ⟨6, 1, false, .no⟩)
  else if c = 34 \/ c = 124 then
   match cB c 0 t with
   | .open_ => .error (0, 11)
   | .bad i => .error (1 + i, 9)
   | .ok out n => match bP (c == 124) out with
    | .ok d => .ok ⟨9, 1 + n, false, d⟩
    | .error e => .error (0, e)
  else if c = 35 /\ t.head? = some 40 then .ok ⟨3, 2, false, .no⟩
  else if c = 35 /\ t.head? = some 92 then
   match dP (t.drop 1) with
   | .ok (v, n) => .ok ⟨9, 2 + n, false, .chr v⟩
   | .error e => .error (0, e)
  else match dw ((c :: t).takeWhile aY) with
   | .ok (k, d) => .ok ⟨k, ((c :: t).takeWhile aY).length, false, d⟩
   | .error e => .error (0, e)
def fo (l : List UInt8) (i : Nat) : Except (Nat × Nat) (Nat × Tk) :=
 match ay l i with
 | .error p => .error (p, 11)
 | .ok j => if j = l.length then .ok (j, ⟨0, 0, false, .no⟩) else
  match fp (l.drop j) with
  | .error (p, c) => .error (j + p, c)
  | .ok t => .ok (j, t)
def sb (x z : List UInt8) : Prop := z = [] \/ (∃ d t, z = d :: t /\ bq d = true) \/ z.head? = x.head?
theorem sb.tail {p : UInt8 -> Bool} {x z : List UInt8} (f : sb x z) (hp : ∀ d, bq d = true -> p d = false) (h : x = [] \/ ∃ d t, x = d :: t /\ p d = false) : z = [] \/ ∃ d t, z = d :: t /\ p d = false := by
 rcases f with f | ⟨d, t, f, g⟩ | f
 · exact .inl f
 · exact .inr ⟨d, t, f, hp d g⟩
 · rcases h with h | ⟨d, t, h, g⟩
   · rw [h] at f
     cases z with
     | nil => exact .inl rfl
     | cons => simp at f
   · rw [h] at f
     cases z with
     | nil => simp at f
     | cons e u => simp at f; exact .inr ⟨e, u, rfl, by rw [f]; exact g⟩
theorem io (p : UInt8 -> Bool) : ∀ x : List UInt8, x.drop (x.takeWhile p).length = [] \/ ∃ d t, x.drop (x.takeWhile p).length = d :: t /\ p d = false
 | [] => .inl rfl
 | c :: t => by
  by_cases h : p c = true
  · rw [List.takeWhile_cons, if_pos h, List.length_cons, List.drop_succ_cons]
    exact io p t
  · rw [List.takeWhile_cons, if_neg h]
    exact .inr ⟨c, t, rfl, by simpa using h⟩
theorem iB (p : UInt8 -> Bool) : ∀ (x z : List UInt8), z.take (x.takeWhile p).length = x.take (x.takeWhile p).length -> (z.drop (x.takeWhile p).length = [] \/ ∃ d t, z.drop (x.takeWhile p).length = d :: t /\ p d = false) -> z.takeWhile p = x.takeWhile p
 | [], z, _, h => by
  simp only [List.takeWhile_nil, List.length_nil, List.drop_zero] at h ⊢
  rcases h with h | ⟨d, t, h, g⟩
  · rw [h]; rfl
  · rw [h, List.takeWhile_cons, if_neg (by rw [g]; decide)]
 | c :: t, z, e, h => by
  by_cases hc : p c = true
  · rw [List.takeWhile_cons, if_pos hc, List.length_cons] at e h
    cases z with
    | nil => simp at e
    | cons d u =>
     rw [List.take_succ_cons, List.take_succ_cons] at e
     injection e with e1 e2
     rw [List.drop_succ_cons] at h
     rw [List.takeWhile_cons, List.takeWhile_cons, e1, if_pos hc, if_pos hc, iB p t u e2 h]
  · rw [List.takeWhile_cons, if_neg hc] at e h ⊢
    rcases h with h | ⟨d, u, h, g⟩
    · simp only [List.length_nil, List.drop_zero] at h
      rw [h]; rfl
    · simp only [List.length_nil, List.drop_zero] at h
      rw [h, List.takeWhile_cons, if_neg (by rw [g]; decide)]
theorem qf (p : UInt8 -> Bool) (x : List UInt8) : x.take (x.takeWhile p).length = x.takeWhile p := by
 induction x with
 | nil => rfl
 | cons c t ih =>
  by_cases hc : p c = true
  · rw [List.takeWhile_cons, if_pos hc, List.length_cons, List.take_succ_cons, ih]
  · rw [List.takeWhile_cons, if_neg hc]; rfl
theorem rE (p : UInt8 -> Bool) (hp : p 10 = false) (x y : List UInt8) : (x ++ 10 :: y).takeWhile p = x.takeWhile p := by
 induction x with
 | nil => rw [List.nil_append, List.takeWhile_cons, if_neg (by rw [hp]; decide)]; rfl
 | cons c t ih =>
  by_cases hc : p c = true
  · rw [List.cons_append, List.takeWhile_cons, if_pos hc, List.takeWhile_cons, if_pos hc, ih]
  · rw [List.cons_append, List.takeWhile_cons, if_neg hc, List.takeWhile_cons, if_neg hc]
theorem eQ {x z : List UInt8} {n j : Nat} (h : z.take n = x.take n) (hj : j < n) : z.getD j 0 = x.getD j 0 := by
 have := congrArg (fun l => l.getD j 0) h
 simp only [gD, List.getElem?_take, if_pos hj] at this
 rw [gD, gD]
 exact this
theorem fK {x z : List UInt8} {n m : Nat} (h : z.take n = x.take n) (hm : m <= n) : z.take m = x.take m := by
 have := congrArg (List.take m) h
 rwa [List.take_take, List.take_take, Nat.min_eq_left hm] at this
theorem fu {x z : List UInt8} {n : Nat} (h : z.take n = x.take n) (hn : n <= x.length) : n <= z.length := by
 have := congrArg List.length h
 rw [List.length_take, List.length_take] at this
 omega
theorem iH (y : List UInt8) : ∀ (x : List UInt8) (n m : Nat), n <= x.length -> aS n x = .ok m ->
 (m < x.length -> aS n (x ++ 10 :: y) = .ok m) /\ (m = x.length -> aS n (x ++ 10 :: y) = upE (x.length + 1) (aS 0 y)) /\ m <= x.length
 | [], n, m, hn, h => by
  have : n = 0 := by simpa using hn
  subst this
  rw [aS] at h
  injection h with h
  refine ⟨by intro h2; simp at h2, fun _ => ?_, by omega⟩
  rw [List.nil_append, aS, if_pos (by decide)]
  cases aS 0 y <;> simp [upE] <;> omega
 | c :: t, n + 1, m, hn, h => by
  rw [aS] at h
  cases hs : aS n t with
  | error e => rw [hs] at h; cases h
  | ok k =>
   rw [hs] at h
   injection h with h
   obtain ⟨a, b, d⟩ := iH y t n k (by simpa using hn) hs
   simp only [List.length_cons]
   refine ⟨fun hm => ?_, fun hm => ?_, by omega⟩
   · rw [List.cons_append, aS, a (by omega), <- h]
   · rw [List.cons_append, aS, b (by omega)]
     cases aS 0 y <;> simp [upE] <;> omega
 | c :: t, 0, m, hn, h => by
  rw [aS] at h
  have key : ∀ (k : Nat), k <= t.length -> (match aS k t with | .ok m => Except.ok (m + 1) | .error m => .error (m + 1)) = (Except.ok m : Except Nat Nat) ->
   (m < t.length + 1 -> (match aS k (t ++ 10 :: y) with | .ok m => Except.ok (m + 1) | .error m => .error (m + 1)) = (Except.ok m : Except Nat Nat)) /\ (m = t.length + 1 -> (match aS k (t ++ 10 :: y) with | .ok m => Except.ok (m + 1) | .error m => .error (m + 1)) = upE (t.length + 1 + 1) (aS 0 y)) /\ m <= t.length + 1 := by
   intro k hk h
   cases hs : aS k t with
   | error e => rw [hs] at h; cases h
   | ok j =>
    rw [hs] at h
    injection h with h
    obtain ⟨a, b, d⟩ := iH y t k j hk hs
    refine ⟨fun hm => ?_, fun hm => ?_, by omega⟩
    · rw [a (by omega), <- h]
    · rw [b (by omega)]
      cases aS 0 y <;> simp [upE] <;> omega
  rw [List.cons_append, aS, List.length_cons]
  by_cases h1 : bq c = true
  · rw [if_pos h1] at h ⊢
    exact key 0 (by omega) h
  rw [if_neg h1] at h ⊢
  by_cases h2 : c = 59
  · rw [if_pos h2] at h ⊢
    rw [rE _ (by decide)]
    exact key _ (List.takeWhile_sublist _).length_le h
  rw [if_neg h2] at h ⊢
  by_cases h3 : c = 35 /\ t.head? = some 124
  · cases t with
    | nil => simp at h3
    | cons d u =>
     have hd : d = 124 := by simpa using h3.2
     rw [if_pos h3] at h
     rw [List.cons_append, if_pos (by exact h3)]
     simp only [List.drop_succ_cons, List.drop_zero] at h ⊢
     cases hc : bK 1 u with
     | none => rw [hc] at h; cases h
     | some k =>
      have := gN _ _ _ hc
      rw [hc] at h
      rw [pI _ _ _ _ hc]
      exact key _ (by simp only [List.length_cons]; omega) h
  · rw [if_neg h3] at h
    rw [if_neg (by
     cases t with
     | nil => simp
     | cons d u => exact h3)]
    injection h with h
    exact ⟨fun _ => by rw [h], fun hm => by omega, by omega⟩
theorem lS {x z : List UInt8} {k : Nat} (h : ea x = some k) (e : z.take (k + 1) = x.take (k + 1)) : ea z = some k := by
 have hk := ip h
 have e1 : (x.takeWhile (fun b => b != 59)).length = k := by
  unfold ea at h
  split at h
  · injection h
  · cases h
 have hz := fu e (by omega)
 have hd : x.getD k 0 = 59 := by
  rcases io (fun b => b != 59) x with h2 | ⟨d, t, h2, g⟩
  · rw [e1] at h2; have := congrArg List.length h2; rw [List.length_drop] at this; simp at this; omega
  · rw [e1] at h2
    rw [show x.getD k 0 = d by have := de x k 0; rw [Nat.add_zero, h2] at this; exact this.symm]
    simpa using g
 have hz2 : z.getD k 0 = 59 := by rw [eQ e (by omega), hd]
 have e3 : z.takeWhile (fun b => b != 59) = x.takeWhile (fun b => b != 59) := by
  refine iB _ _ _ (by rw [e1]; exact fK e (by omega)) ?_
  rw [e1]
  refine .inr ⟨59, z.drop (k + 1), ?_, by decide⟩
  rw [ap (by omega), hz2]
 unfold ea
 rw [e3, e1, if_pos (by omega)]
theorem mq {by_ : UInt8} {x z out : List UInt8} {n : Nat} (h : bA by_ x = .ok out n) (e : z.take n = x.take n) : bA by_ z = .ok out n := by
 have hn := j8 h
 cases x with
 | nil => cases h
 | cons d u =>
  obtain ⟨m, rfl⟩ : ∃ m, n = m + 1 := ⟨n - 1, by omega⟩
  cases z with
  | nil => simp at e
  | cons d' v =>
   rw [List.take_succ_cons, List.take_succ_cons] at e
   injection e with e1 e2
   subst e1
   rw [bA] at h ⊢
   split at h
   · rename_i c; rw [if_pos c]; exact h
   rename_i c; rw [if_neg c]
   split at h
   · rename_i c; rw [if_pos c]; exact h
   rename_i c; rw [if_neg c]
   split at h
   · rename_i c; rw [if_pos c]; exact h
   rename_i c; rw [if_neg c]
   split at h
   · rename_i c; rw [if_pos c]; exact h
   rename_i c; rw [if_neg c]
   split at h
   · rename_i c; rw [if_pos c]
     cases hs : ea u with
     | none => rw [hs] at h; cases h
     | some k =>
      rw [hs] at h
      simp only at h
      cases hc : cD (u.take k) with
      | none => rw [hc] at h; cases h
      | some r =>
       rw [hc] at h
       injection h with h1 h2
       have hm : m = k + 1 := by omega
       rw [hm] at e2
       rw [lS hs e2]
       simp only
       rw [fK e2 (by omega), hc]
       simp only
       rw [h1, h2]
   rename_i c; rw [if_neg c]
   split at h
   · rename_i c; rw [if_pos c]; exact h
   · cases h
theorem cG.up_ok {out o : List UInt8} {k n : Nat} {r : cG} (h : r.up out k = .ok o n) : ∃ o' n', r = .ok o' n' /\ o = out ++ o' /\ n = k + n' := by
 cases r with
 | open_ => cases h
 | bad => cases h
 | ok o' n' => injection h with h1 h2; exact ⟨o', n', rfl, h1.symm, h2.symm⟩
theorem ef (by_ : UInt8) : ∀ (x z : List UInt8) (k : Nat) (out : List UInt8) (n : Nat), cB by_ k x = .ok out n -> z.take n = x.take n -> cB by_ k z = .ok out n /\ k < n /\ n <= x.length
 | [], _, k, out, n, h, _ => by cases k <;> cases h
 | c :: t, z, k + 1, out, n, h, e => by
  rw [cB] at h
  obtain ⟨o, m, h1, h2, h3⟩ := cG.up_ok h
  rw [show n = m + 1 by omega] at e ⊢
  cases z with
  | nil => simp at e
  | cons d v =>
   rw [List.take_succ_cons, List.take_succ_cons] at e
   injection e with e1 e2
   obtain ⟨a, b, c⟩ := ef by_ t v k o m h1 e2
   rw [cB, a, List.length_cons]
   refine ⟨?_, by omega, by omega⟩
   rw [h2]
   simp [cG.up, Nat.add_comm]
 | c :: t, z, 0, out, n, h, e => by
  rw [cB] at h
  by_cases h1 : c = by_
  · rw [if_pos h1] at h
    injection h with h2 h3
    subst h2; subst h3
    cases z with
    | nil => simp at e
    | cons d v =>
     rw [List.take_succ_cons, List.take_succ_cons] at e
     injection e with e1 e2
     rw [cB, if_pos (by rw [e1]; exact h1), List.length_cons]
     exact ⟨rfl, by omega, by omega⟩
  rw [if_neg h1] at h
  by_cases h2 : c ≠ 92
  · rw [if_pos h2] at h
    obtain ⟨o, m, h3, h4, h5⟩ := cG.up_ok h
    rw [show n = m + 1 by omega] at e ⊢
    cases z with
    | nil => simp at e
    | cons d v =>
     rw [List.take_succ_cons, List.take_succ_cons] at e
     injection e with e1 e2
     obtain ⟨a, b, q⟩ := ef by_ t v 0 o m h3 e2
     rw [cB, e1, if_neg h1, if_pos h2, a, List.length_cons]
     refine ⟨?_, by omega, by omega⟩
     rw [h4]
     simp [cG.up, Nat.add_comm]
  rw [if_neg h2] at h
  cases he : bA by_ t with
  | open_ => rw [he] at h; cases h
  | bad => rw [he] at h; cases h
  | ok o j =>
   rw [he] at h
   simp only at h
   obtain ⟨o2, m, h3, h4, h5⟩ := cG.up_ok h
   rw [show n = m + 1 by omega] at e ⊢
   cases z with
   | nil => simp at e
   | cons d v =>
    rw [List.take_succ_cons, List.take_succ_cons] at e
    injection e with e1 e2
    obtain ⟨a, b, q⟩ := ef by_ t v j o2 m h3 e2
    rw [cB, e1, if_neg h1, if_neg h2, mq he (fK e2 (by omega)), List.length_cons]
    simp only
    rw [a]
    refine ⟨?_, by omega, by omega⟩
    rw [h4]
    simp [cG.up, Nat.add_comm]
theorem cG.up_bad {out : List UInt8} {k i : Nat} {r : cG} (h : r.up out k = .bad i) : ∃ i', r = .bad i' /\ i = k + i' := by
 cases r with
 | open_ => cases h
 | bad i' => injection h with h1; exact ⟨i', rfl, h1.symm⟩
 | ok => cases h
theorem jn (n n' b0 b1 b2 b3 c1 c2 c3 w : Nat) (h : decodeN n b0 b1 b2 b3 ≠ (65533, 1)) (hw : (decodeN n b0 b1 b2 b3).2 = w) (hn : w <= n') (h1 : 1 < w -> c1 = b1) (h2 : 2 < w -> c2 = b2) (h3 : 3 < w -> c3 = b3) : decodeN n' b0 c1 c2 c3 = decodeN n b0 b1 b2 b3 := by
 unfold decodeN at h hw ⊢
 by_cases a0 : b0 < 128
 · rw [if_pos a0, if_pos a0]
 rw [if_neg a0] at h hw
 rw [if_neg a0, if_neg a0]
 by_cases a1 : b0 / 32 = 6 /\ (1 < n /\ b1 / 64 = 2)
 · rw [if_pos a1] at h hw
   by_cases g : b0 % 32 * 64 + b1 % 64 >= 128
   · rw [if_pos g] at hw
     simp only at hw
     obtain rfl := h1 (by omega)
     rw [if_pos a1, if_pos (by omega)]
   · rw [if_neg g] at h; exact absurd rfl h
 rw [if_neg a1] at h hw
 rw [if_neg a1]
 by_cases a2 : b0 / 16 = 14 /\ (1 < n /\ b1 / 64 = 2) /\ (2 < n /\ b2 / 64 = 2)
 · rw [if_pos a2] at h hw
   split at hw
   · rename_i g
     simp only at hw
     obtain rfl := h1 (by omega)
     obtain rfl := h2 (by omega)
     rw [if_neg (by omega), if_pos (by omega), if_pos a2]
   · rename_i g
     rw [if_neg g] at h; exact absurd rfl h
 rw [if_neg a2] at h hw
 rw [if_neg a2]
 by_cases a3 : b0 / 8 = 30 /\ (1 < n /\ b1 / 64 = 2) /\ (2 < n /\ b2 / 64 = 2) /\ (3 < n /\ b3 / 64 = 2)
 · rw [if_pos a3] at h hw
   split at hw
   · rename_i g
     simp only at hw
     obtain rfl := h1 (by omega)
     obtain rfl := h2 (by omega)
     obtain rfl := h3 (by omega)
     rw [if_neg (by omega), if_neg (by omega), if_pos (by omega), if_pos a3]
   · rename_i g
     rw [if_neg g] at h; exact absurd rfl h
 · rw [if_neg a3] at h; exact absurd rfl h
theorem nW {p : Nat × Nat} (h : ¬ (p.1 = 65533 /\ p.2 = 1)) : p ≠ (65533, 1) := by
 rintro rfl; exact h ⟨rfl, rfl⟩
theorem jm (n b0 b1 b2 b3 : Nat) (h : 1 <= n) : 1 <= (decodeN n b0 b1 b2 b3).2 /\ (decodeN n b0 b1 b2 b3).2 <= n := by
 unfold decodeN
 repeat' split
 all_goals simp only
 all_goals omega
theorem bn {x : List UInt8} (h : x ≠ []) : 1 <= (decodeL x).2 /\ (decodeL x).2 <= x.length := by
 rw [decodeL_N]
 exact jm _ _ _ _ _ (List.length_pos_iff.2 h)
theorem eM {x z : List UInt8} (hx : x ≠ []) (h : ¬ ((decodeL x).1 = 65533 /\ (decodeL x).2 = 1)) (e : z.take (decodeL x).2 = x.take (decodeL x).2) : decodeL z = decodeL x := by
 have hw := bn hx
 have hz := fu e hw.2
 have key : ∀ w, (decodeL x).2 = w -> decodeL z = decodeL x := by
  intro w hw2
  rw [hw2] at hw hz e
  rw [decodeL_N x] at h hw2
  rw [decodeL_N z, decodeL_N x]
  rw [eQ e (show 0 < w by omega)]
  exact jn _ _ _ _ _ _ _ _ _ w (nW h) hw2 hz (fun g => by rw [eQ e g]) (fun g => by rw [eQ e g]) (fun g => by rw [eQ e g])
 exact key _ rfl
theorem lr (d : UInt8) (h : bq d = true) : (!aL d) = false := by unfold aL; rw [h]; rfl
theorem lC {x z : List UInt8} {v n : Nat} (h : dP x = .ok (v, n)) (e : z.take n = x.take n) (f : sb (x.drop n) (z.drop n)) : dP z = .ok (v, n) /\ 1 <= n /\ n <= x.length := by
 unfold dP at h
 split at h
 · cases h
 rename_i hx
 split at h
 · cases h
 rename_i hb
 have hw := bn hx
 obtain ⟨w, hwe⟩ : ∃ w, w = (decodeL x).2 := ⟨_, rfl⟩
 obtain ⟨m, hme⟩ : ∃ m, m = ((x.drop w).takeWhile (fun b => !aL b)).length := ⟨_, rfl⟩
 simp only [<- hwe] at h hw
 simp only [<- hme] at h
 have hm : m <= x.length - w := by
  have := (List.takeWhile_sublist (fun b => !aL b) (l := x.drop w)).length_le
  rw [List.length_drop] at this
  omega
 have hn : n = w + m := by
  split at h
  · injection h with h; injection h; omega
  · split at h
    · injection h with h; injection h; omega
    · split at h
      · split at h
        · injection h with h; injection h; omega
        · cases h
      · cases h
 subst hn
 have hz : w + m <= z.length := fu e (by omega)
 have e1 := fK e (show w <= w + m by omega)
 have dz := eM (z := z) hx hb (by rw [<- hwe]; exact e1)
 have e2 : (z.drop w).take m = (x.drop w).take m := by
  have := congrArg (List.drop w) e
  rwa [List.drop_take, List.drop_take, show w + m - w = m by omega] at this
 have ez : (z.drop w).takeWhile (fun b => !aL b) = (x.drop w).takeWhile (fun b => !aL b) := by
  refine iB _ _ _ (by rw [<- hme]; exact e2) ?_
  rw [<- hme, List.drop_drop]
  refine f.tail lr ?_
  rw [<- List.drop_drop, hme]
  exact io _ _
 have hznil : z ≠ [] := by intro g; rw [g] at hz; simp only [List.length_nil] at hz; omega
 refine ⟨?_, by omega, by omega⟩
 unfold dP
 rw [if_neg hznil, dz, if_neg hb]
 simp only [<- hwe]
 rw [ez, <- hme, e2, e]
 exact h
theorem nc {r : Nat × fk} (h : dw [] = .ok r) : False := by
 have : aG [] = none := by unfold aG; simp [aX, gg, Lib.hasPrefix]
 unfold dw at h
 rw [this] at h
 simp [bP, bi, cw] at h
theorem qi {x : List UInt8} {t : Tk} (h : fp x = .ok t) : 1 <= t.len /\ t.len <= x.length /\ t.kind ≠ 0 := by
 cases x with
 | nil => cases h
 | cons c u =>
  rw [fp] at h
  rw [List.length_cons]
  split at h
  · injection h with h; subst h; simp
  split at h
  · injection h with h; subst h; simp
  split at h
  · injection h with h; subst h; simp
  split at h
  · injection h with h; subst h; simp
  split at h
  · split at h
    · rename_i g
      injection h with h; subst h
      cases u with
      | nil => simp at g
      | cons => simp
    · injection h with h; subst h; simp
  split at h
  · cases hq : cB c 0 u with
    | open_ => rw [hq] at h; cases h
    | bad => rw [hq] at h; cases h
    | ok o n =>
     rw [hq] at h
     simp only at h
     obtain ⟨_, _, g⟩ := ef c u u 0 o n hq rfl
     cases ht : bP (c == 124) o with
     | error e => rw [ht] at h; cases h
     | ok d => rw [ht] at h; injection h with h; subst h; simp only; omega
  split at h
  · rename_i g
    injection h with h; subst h
    cases u with
    | nil => simp at g
    | cons => simp
  split at h
  · rename_i g
    cases hq : dP (u.drop 1) with
    | error e => rw [hq] at h; cases h
    | ok p =>
     obtain ⟨v, n⟩ := p
     rw [hq] at h
     injection h with h; subst h
     obtain ⟨_, a, b⟩ := lC hq rfl (.inr (.inr rfl))
     rw [List.length_drop] at b
     simp only
     omega
  · cases hq : dw ((c :: u).takeWhile aY) with
    | error e => rw [hq] at h; cases h
    | ok p =>
     obtain ⟨k, d⟩ := p
     rw [hq] at h
     injection h with h
     have hne : (c :: u).takeWhile aY ≠ [] := by
      intro g
      rw [g] at hq
      exact nc hq
     have h1 := List.length_pos_iff.2 hne
     have h2 := (List.takeWhile_sublist aY (l := c :: u)).length_le
     rw [List.length_cons] at h2
     subst h
     simp only
     refine ⟨by omega, by omega, ?_⟩
     rintro rfl
     unfold dw at hq
     split at hq
     · injection hq with hq; injection hq with hq; cases hq
     split at hq
     · injection hq with hq; injection hq with hq; cases hq
     split at hq
     · injection hq with hq; injection hq with hq; cases hq
     split at hq
     · cases hq
     split at hq
     · split at hq
       · injection hq with hq; injection hq with hq; cases hq
       · cases hq
     · split at hq
       · injection hq with hq; injection hq with hq; cases hq
       · cases hq
def aH (l : List UInt8) (at_ : Int) : Except (Nat × Nat) (Nat × Tk) :=
 if 4096 < l.length then .error (0, 12) else if at_ < 0 \/ (l.length : Int) < at_ then .error (0, 1) else fo l at_.toNat
theorem jS : ∀ (x : List UInt8) (n m : Nat), n <= x.length -> aS n x = .ok m -> m <= x.length := fun x n m hn h => (iH [] x n m hn h).2.2
theorem gC : ∀ (x : List UInt8) (n m : Nat), n <= x.length -> aS n x = .error m -> m < x.length
 | [], n, m, _, h => by cases n <;> cases h
 | c :: t, n + 1, m, hn, h => by
  rw [aS] at h
  cases hs : aS n t with
  | ok e => rw [hs] at h; cases h
  | error k =>
   rw [hs] at h
   injection h with h
   have := gC t n k (by simpa using hn) hs
   simp only [List.length_cons]; omega
 | c :: t, 0, m, hn, h => by
  rw [aS] at h
  have key : ∀ k, k <= t.length -> (match aS k t with | .ok m => Except.ok (m + 1) | .error m => .error (m + 1)) = (Except.error m : Except Nat Nat) -> m < (c :: t).length := by
   intro k hk h
   cases hs : aS k t with
   | ok e => rw [hs] at h; cases h
   | error j =>
    rw [hs] at h
    injection h with h
    have := gC t k j hk hs
    simp only [List.length_cons]; omega
  split at h
  · exact key 0 (by omega) h
  split at h
  · exact key _ (List.takeWhile_sublist _).length_le h
  split at h
  · rename_i g
    cases hc : bK 1 (t.drop 1) with
    | none => rw [hc] at h; injection h with h; rw [<- h]; simp
    | some k =>
     have := gN _ _ _ hc
     rw [List.length_drop] at this
     rw [hc] at h
     exact key _ (by omega) h
  · cases h
theorem pB {l : List UInt8} {i j : Nat} {t : Tk} (hi : i <= l.length) (h : fo l i = .ok (j, t)) :
 i <= j /\ j + t.len <= l.length /\ ay l i = .ok j /\ ((j = l.length /\ t = ⟨0, 0, false, .no⟩) \/ (j < l.length /\ fp (l.drop j) = .ok t /\ 1 <= t.len /\ t.kind ≠ 0)) := by
 unfold fo at h
 cases hs : ay l i with
 | error p => rw [hs] at h; cases h
 | ok k =>
  rw [hs] at h
  have hk : i <= k /\ k <= l.length := by
   unfold ay at hs
   cases hq : aS 0 (l.drop i) with
   | error p => rw [hq] at hs; cases hs
   | ok m =>
    rw [hq] at hs
    injection hs with hs
    have := jS _ _ _ (by omega) hq
    rw [List.length_drop] at this
    omega
  simp only at h
  split at h
  · rename_i g
    injection h with h; injection h with h1 h2
    subst h1; subst h2
    exact ⟨hk.1, by simp; omega, rfl, .inl ⟨g, rfl⟩⟩
  · rename_i g
    cases ht : fp (l.drop k) with
    | error e => rw [ht] at h; cases h
    | ok t' =>
     rw [ht] at h
     injection h with h; injection h with h1 h2
     subst h1; subst h2
     have := qi ht
     rw [List.length_drop] at this
     exact ⟨hk.1, by omega, rfl, .inr ⟨by omega, ht, this.1, this.2.2⟩⟩
theorem jq {b : Bool} {t : List UInt8} {e : Nat} (h : bP b t = .error e) : e = 6 \/ e = 9 := by
 unfold bP at h
 split at h
 · injection h; omega
 split at h
 · injection h; omega
 split at h
 · injection h; omega
 · cases h
theorem mx {t : List UInt8} {e : Nat} (h : dP t = .error e) : e = 9 \/ e = 11 := by
 unfold dP at h
 split at h
 · injection h; omega
 split at h
 · injection h; omega
 simp only at h
 split at h
 · cases h
 split at h
 · cases h
 split at h
 · split at h
   · cases h
   · injection h; omega
 · injection h; omega
theorem nd {t : List UInt8} {e : Nat} (h : dw t = .error e) : e = 6 \/ e = 9 := by
 unfold dw at h
 split at h
 · cases h
 split at h
 · cases h
 split at h
 · cases h
 split at h
 · injection h; omega
 split at h
 · split at h
   · cases h
   · injection h; omega
 · split at h
   · cases h
   · rename_i g
     injection h with h
     have := jq g
     omega
theorem ir (by_ : UInt8) : ∀ (x : List UInt8) (k i : Nat), cB by_ k x = .bad i -> i < x.length
 | [], k, i, h => by cases k <;> cases h
 | c :: t, k + 1, i, h => by
  rw [cB] at h
  obtain ⟨j, h1, h2⟩ := cG.up_bad h
  have := ir by_ t k j h1
  rw [List.length_cons]; omega
 | c :: t, 0, i, h => by
  rw [cB] at h
  rw [List.length_cons]
  split at h
  · cases h
  split at h
  · obtain ⟨j, h1, h2⟩ := cG.up_bad h
    have := ir by_ t 0 j h1
    omega
  split at h
  · cases h
  · injection h; omega
  · obtain ⟨j, h1, h2⟩ := cG.up_bad h
    have := ir by_ t _ j h1
    omega
theorem lK {x : List UInt8} {p c : Nat} (hx : x ≠ []) (h : fp x = .error (p, c)) : p < x.length /\ (c = 6 \/ c = 9 \/ c = 11) := by
 cases x with
 | nil => exact absurd rfl hx
 | cons b u =>
  rw [fp] at h
  rw [List.length_cons]
  split at h
  · cases h
  split at h
  · cases h
  split at h
  · cases h
  split at h
  · cases h
  split at h
  · split at h <;> cases h
  split at h
  · split at h
    · injection h with h; injection h; omega
    · rename_i i hq
      have := ir _ _ _ _ hq
      injection h with h; injection h; omega
    · split at h
      · cases h
      · rename_i e he
        have := jq he
        injection h with h; injection h; omega
  split at h
  · cases h
  split at h
  · split at h
    · cases h
    · rename_i e he
      have := mx he
      injection h with h; injection h; omega
  · split at h
    · cases h
    · rename_i e he
      have := nd he
      injection h with h; injection h; omega
theorem jD {l : List UInt8} {i p c : Nat} (hi : i <= l.length) (h : fo l i = .error (p, c)) : p < l.length /\ (c = 6 \/ c = 9 \/ c = 11) := by
 unfold fo at h
 cases hs : ay l i with
 | error k =>
  rw [hs] at h
  injection h with h; injection h with h1 h2
  unfold ay at hs
  cases hq : aS 0 (l.drop i) with
  | ok m => rw [hq] at hs; cases hs
  | error m =>
   rw [hq] at hs
   injection hs with hs
   have := gC _ _ _ (by omega) hq
   rw [List.length_drop] at this
   omega
 | ok k =>
  have hk : i <= k /\ k <= l.length := by
   unfold ay at hs
   cases hq : aS 0 (l.drop i) with
   | error p => rw [hq] at hs; cases hs
   | ok m =>
    rw [hq] at hs
    injection hs with hs
    have := jS _ _ _ (by omega) hq
    rw [List.length_drop] at this
    omega
  rw [hs] at h
  simp only at h
  split at h
  · cases h
  · rename_i g
    cases ht : fp (l.drop k) with
    | ok t' => rw [ht] at h; cases h
    | error e =>
     obtain ⟨q, d⟩ := e
     rw [ht] at h
     injection h with h; injection h with h1 h2
     have hne : l.drop k ≠ [] := by
      intro hh
      have := congrArg List.length hh
      rw [List.length_drop] at this
      simp at this
      omega
     have := lK hne ht
     rw [List.length_drop] at this
     omega
inductive Raw where
 | mk (k c : Int) (neg : Bool) (mag : List Nat) (t : ByteArray) (l : List Raw)
def Raw.nil : Raw := .mk 0 0 false [] ⟨#[]⟩ []
def bB : fk -> Raw
 | .no => .nil
 | .tru => .mk 1 0 false [] ⟨#[]⟩ []
 | .fls => .mk 2 0 false [] ⟨#[]⟩ []
 | .chr c => .mk 3 (c : Int) false [] ⟨#[]⟩ []
 | .int x => .mk 4 0 (decide (x < 0)) (aT x.natAbs) ⟨#[]⟩ []
 | .str t => .mk 5 0 false [] ⟨t.toArray⟩ []
 | .sym t => .mk 6 0 false [] ⟨t.toArray⟩ []
def dr (a d : Raw) : Raw := .mk 7 0 false [] ⟨#[]⟩ [a, d]
def ne (l : List Raw) : Raw := .mk 8 0 false [] ⟨#[]⟩ l
def cC : List Raw -> Raw -> Raw
 | [], d => d
 | x :: l, d => dr x (cC l d)
def ca : Nat -> List UInt8
 | 4 => [113, 117, 111, 116, 101]
 | 5 => [113, 117, 97, 115, 105, 113, 117, 111, 116, 101]
 | 6 => [117, 110, 113, 117, 111, 116, 101]
 | 7 => [117, 110, 113, 117, 111, 116, 101, 45, 115, 112, 108, 105, 99, 105, 110, 103]
 | _ => []
def gL (k : Nat) (d : Raw) : Raw := dr (bB (.sym (ca k))) (dr d .nil)
abbrev Got := Except (Nat × Nat) (Raw × Nat)
inductive cq where
 | frm (j : Nat) (t : Tk) (deep : Nat)
 | lst (o : Nat) (sq : Bool) (deep i : Nat) (items : List Raw) (dot : Nat) (tail : Raw)
 | vec (o : Nat) (deep i : Nat) (items : List Raw)
def Tk.beg (t : Tk) : Prop := t.kind ≠ 0 /\ t.kind ≠ 2 /\ t.kind ≠ 8
inductive Rd (l : List UInt8) : cq -> Got -> Prop
 | datum {j deep : Nat} {t : Tk} (h : t.kind = 9) : Rd l (.frm j t deep) (.ok (bB t.d, j + t.len))
 | deep {j deep : Nat} {t : Tk} (h : t.kind ≠ 9) (hd : deep = 64) : Rd l (.frm j t deep) (.error (j, 10))
 | opn {j deep : Nat} {t : Tk} {r : Got} (h : t.kind = 1) (hd : deep ≠ 64) (n : Rd l (.lst j t.sq (deep + 1) (j + t.len) [] 0 .nil) r) : Rd l (.frm j t deep) r
 | vct {j deep : Nat} {t : Tk} {r : Got} (h : t.kind = 3) (hs : t.sq = false) (hd : deep ≠ 64) (n : Rd l (.vec j (deep + 1) (j + t.len) []) r) : Rd l (.frm j t deep) r
 | markLex {j deep p c : Nat} {t : Tk} (h : 4 <= t.kind /\ t.kind <= 7) (hd : deep ≠ 64) (n : aH l ((j + t.len : Nat) : Int) = .error (p, c)) : Rd l (.frm j t deep) (.error (p, c))
 | markEnd {j deep k : Nat} {t u : Tk} (h : 4 <= t.kind /\ t.kind <= 7) (hd : deep ≠ 64) (n : aH l ((j + t.len : Nat) : Int) = .ok (k, u)) (hu : u.kind = 0) : Rd l (.frm j t deep) (.error (j, 11))
 | markBad {j deep k : Nat} {t u : Tk} (h : 4 <= t.kind /\ t.kind <= 7) (hd : deep ≠ 64) (n : aH l ((j + t.len : Nat) : Int) = .ok (k, u)) (hu : u.kind = 2 \/ u.kind = 8) : Rd l (.frm j t deep) (.error (k, 9))
 | markErr {j deep k p c : Nat} {t u : Tk} (h : 4 <= t.kind /\ t.kind <= 7) (hd : deep ≠ 64) (n : aH l ((j + t.len : Nat) : Int) = .ok (k, u)) (hu : u.beg) (m : Rd l (.frm k u (deep + 1)) (.error (p, c))) : Rd l (.frm j t deep) (.error (p, c))
 | markOk {j deep k e : Nat} {t u : Tk} {d : Raw} (h : 4 <= t.kind /\ t.kind <= 7) (hd : deep ≠ 64) (n : aH l ((j + t.len : Nat) : Int) = .ok (k, u)) (hu : u.beg) (m : Rd l (.frm k u (deep + 1)) (.ok (d, e))) : Rd l (.frm j t deep) (.ok (gL t.kind d, e))
 | lstLex {o deep i dot p c : Nat} {sq : Bool} {items : List Raw} {tail : Raw} (n : aH l (i : Int) = .error (p, c)) : Rd l (.lst o sq deep i items dot tail) (.error (p, c))
 | lstEnd {o deep i dot k : Nat} {u : Tk} {sq : Bool} {items : List Raw} {tail : Raw} (n : aH l (i : Int) = .ok (k, u)) (hu : u.kind = 0) : Rd l (.lst o sq deep i items dot tail) (.error (o, 11))
 | lstBad {o deep i dot k : Nat} {u : Tk} {sq : Bool} {items : List Raw} {tail : Raw} (n : aH l (i : Int) = .ok (k, u)) (hu : u.kind = 2) (hb : u.sq ≠ sq \/ dot = 1) : Rd l (.lst o sq deep i items dot tail) (.error (k, 9))
 | lstOk {o deep i dot k : Nat} {u : Tk} {sq : Bool} {items : List Raw} {tail : Raw} (n : aH l (i : Int) = .ok (k, u)) (hu : u.kind = 2) (hb : u.sq = sq) (hd : dot ≠ 1) : Rd l (.lst o sq deep i items dot tail) (.ok (cC items tail, k + u.len))
 | dotBad {o deep i dot k : Nat} {u : Tk} {sq : Bool} {items : List Raw} {tail : Raw} (n : aH l (i : Int) = .ok (k, u)) (hu : u.kind = 8) (hb : 0 < dot \/ items = []) : Rd l (.lst o sq deep i items dot tail) (.error (k, 9))
 | dotOk {o deep i dot k : Nat} {u : Tk} {sq : Bool} {items : List Raw} {tail : Raw} {r : Got} (n : aH l (i : Int) = .ok (k, u)) (hu : u.kind = 8) (h0 : dot = 0) (hi : items ≠ []) (m : Rd l (.lst o sq deep (k + u.len) items 1 tail) r) : Rd l (.lst o sq deep i items dot tail) r
 | full {o deep i dot k : Nat} {u : Tk} {sq : Bool} {items : List Raw} {tail : Raw} (n : aH l (i : Int) = .ok (k, u)) (hu : u.beg) (hb : dot = 2) : Rd l (.lst o sq deep i items dot tail) (.error (k, 9))
 | itemErr {o deep i dot k p c : Nat} {u : Tk} {sq : Bool} {items : List Raw} {tail : Raw} (n : aH l (i : Int) = .ok (k, u)) (hu : u.beg) (hb : dot ≠ 2) (m : Rd l (.frm k u deep) (.error (p, c))) : Rd l (.lst o sq deep i items dot tail) (.error (p, c))
 | itemOk {o deep i dot k e : Nat} {u : Tk} {sq : Bool} {items : List Raw} {tail d : Raw} {r : Got} (n : aH l (i : Int) = .ok (k, u)) (hu : u.beg) (hb : dot = 0) (m : Rd l (.frm k u deep) (.ok (d, e))) (g : Rd l (.lst o sq deep e (items ++ [d]) dot tail) r) : Rd l (.lst o sq deep i items dot tail) r
 | tailOk {o deep i dot k e : Nat} {u : Tk} {sq : Bool} {items : List Raw} {tail d : Raw} {r : Got} (n : aH l (i : Int) = .ok (k, u)) (hu : u.beg) (hb : dot = 1) (m : Rd l (.frm k u deep) (.ok (d, e))) (g : Rd l (.lst o sq deep e items 2 d) r) : Rd l (.lst o sq deep i items dot tail) r
 | vecLex {o deep i p c : Nat} {items : List Raw} (n : aH l (i : Int) = .error (p, c)) : Rd l (.vec o deep i items) (.error (p, c))
 | vecEnd {o deep i k : Nat} {u : Tk} {items : List Raw} (n : aH l (i : Int) = .ok (k, u)) (hu : u.kind = 0) : Rd l (.vec o deep i items) (.error (o, 11))
 | vecBad {o deep i k : Nat} {u : Tk} {items : List Raw} (n : aH l (i : Int) = .ok (k, u)) (hu : u.kind = 2) (hb : u.sq = true) : Rd l (.vec o deep i items) (.error (k, 9))
 | vecOk {o deep i k : Nat} {u : Tk} {items : List Raw} (n : aH l (i : Int) = .ok (k, u)) (hu : u.kind = 2) (hb : u.sq = false) : Rd l (.vec o deep i items) (.ok (ne items, k + u.len))
 | vecDot {o deep i k : Nat} {u : Tk} {items : List Raw} (n : aH l (i : Int) = .ok (k, u)) (hu : u.kind = 8) : Rd l (.vec o deep i items) (.error (k, 9))
 | vecBig {o deep i k : Nat} {u : Tk} {items : List Raw} (n : aH l (i : Int) = .ok (k, u)) (hu : u.beg) (hb : items.length = 62) : Rd l (.vec o deep i items) (.error (k, 6))
 | vecErr {o deep i k p c : Nat} {u : Tk} {items : List Raw} (n : aH l (i : Int) = .ok (k, u)) (hu : u.beg) (hb : items.length ≠ 62) (m : Rd l (.frm k u deep) (.error (p, c))) : Rd l (.vec o deep i items) (.error (p, c))
 | vecItem {o deep i k e : Nat} {u : Tk} {items : List Raw} {d : Raw} {r : Got} (n : aH l (i : Int) = .ok (k, u)) (hu : u.beg) (hb : items.length ≠ 62) (m : Rd l (.frm k u deep) (.ok (d, e))) (g : Rd l (.vec o deep e (items ++ [d])) r) : Rd l (.vec o deep i items) r
inductive dh (l : List UInt8) (i : Int) : Got -> Prop
 | lex {p c : Nat} (n : aH l i = .error (p, c)) : dh l i (.error (p, c))
 | none {j : Nat} {t : Tk} (n : aH l i = .ok (j, t)) (hk : t.kind = 0) : dh l i (.error (j, 19))
 | bad {j : Nat} {t : Tk} (n : aH l i = .ok (j, t)) (hk : t.kind = 2 \/ t.kind = 8) : dh l i (.error (j, 9))
 | frm {j : Nat} {t : Tk} {r : Got} (n : aH l i = .ok (j, t)) (hk : t.beg) (m : Rd l (.frm j t 0) r) : dh l i r
inductive dM (l : List UInt8) : Nat -> List Raw -> Nat -> Nat -> Prop
 | bad {i p c : Nat} (h : dh l i (.error (p, c))) (hc : c ≠ 19) : dM l i [] p c
 | fin {i p : Nat} (h : dh l i (.error (p, 19))) : dM l i [] 0 0
 | cons {i n p c : Nat} {d : Raw} {ds : List Raw} (h : dh l i (.ok (d, n))) (m : dM l n ds p c) : dM l i (d :: ds) p c
structure Fr where
 kind : Nat
 at_ : Nat
 sq : Bool
 dot : Nat
 tail : Raw
 items : List Raw
inductive Stp where
 | err (p c : Nat)
 | cont (S : List Fr)
 | done (d : Raw)
def Fr.mark (o : Fr) : Prop := 4 <= o.kind /\ o.kind <= 7
instance (o : Fr) : Decidable o.mark := inferInstanceAs (Decidable (_ /\ _))
def dI : List Fr -> Raw -> Stp
 | [], d => .done d
 | o :: S, d => if o.mark then dI S (gL o.kind d)
  else if o.dot = 1 then .cont (⟨o.kind, o.at_, o.sq, 2, d, o.items⟩ :: S) else .cont (⟨o.kind, o.at_, o.sq, o.dot, o.tail, o.items ++ [d]⟩ :: S)
def Fr.shut (o : Fr) : Raw := if o.kind = 3 then ne o.items else cC o.items o.tail
def gz : List Fr -> Nat -> Bool -> Stp
 | [], j, _ => .err j 9
 | o :: S, j, sq => if o.mark \/ o.sq ≠ sq \/ o.dot = 1 then .err j 9 else dI S o.shut
def nU : List Fr -> Nat -> Stp
 | [], j => .err j 9
 | o :: S, j => if o.kind ≠ 1 \/ o.items = [] \/ o.dot ≠ 0 then .err j 9 else .cont (⟨o.kind, o.at_, o.sq, 1, o.tail, o.items⟩ :: S)
def so : List Fr -> Nat -> Stp
 | [], j => .err j 19
 | o :: _, _ => .err o.at_ 11
def eu (S : List Fr) (t : Tk) : Nat :=
 match S with
 | [] => 0
 | o :: _ => if o.dot = 2 then 9 else if o.kind = 3 /\ o.items.length = 62 then 6 else if t.kind ≠ 9 /\ S.length = 64 then 10 else 0
def bU (S : List Fr) (j : Nat) (t : Tk) : Stp :=
 if t.kind = 0 then so S j
 else if t.kind = 8 then nU S j
 else if t.kind = 2 then gz S j t.sq
 else if eu S t ≠ 0 then .err j (eu S t)
 else if t.kind = 9 then dI S (bB t.d)
 else .cont (⟨t.kind, j, t.sq, 0, .nil, []⟩ :: S)
inductive Run (l : List UInt8) : List Fr -> Int -> Got -> Prop
 | lex {S : List Fr} {i : Int} {p c : Nat} (n : aH l i = .error (p, c)) : Run l S i (.error (p, c))
 | err {S : List Fr} {i : Int} {j p c : Nat} {t : Tk} (n : aH l i = .ok (j, t)) (s : bU S j t = .err p c) : Run l S i (.error (p, c))
 | done {S : List Fr} {i : Int} {j : Nat} {t : Tk} {d : Raw} (n : aH l i = .ok (j, t)) (s : bU S j t = .done d) : Run l S i (.ok (d, j + t.len))
 | cont {S S' : List Fr} {i : Int} {j : Nat} {t : Tk} {r : Got} (n : aH l i = .ok (j, t)) (s : bU S j t = .cont S') (m : Run l S' ((j + t.len : Nat) : Int) r) : Run l S i r
def gV (l : List UInt8) (n : Nat) (r : Got) : Stp -> Prop
 | .err p c => r = .error (p, c)
 | .cont S => Run l S (n : Int) r
 | .done d => r = .ok (d, n)
theorem Run.of {l : List UInt8} {S : List Fr} {i : Int} {j : Nat} {t : Tk} {r : Got} (n : aH l i = .ok (j, t)) (h : gV l (j + t.len) r (bU S j t)) : Run l S i r := by
 cases hs : bU S j t with
 | err p c => rw [hs] at h; rw [show r = .error (p, c) from h]; exact .err n hs
 | done d => rw [hs] at h; rw [show r = .ok (d, j + t.len) from h]; exact .done n hs
 | cont S' => rw [hs] at h; exact .cont n hs h
def mL : List Fr -> Prop
 | [] => True
 | o :: _ => o.dot ≠ 2 /\ ¬ (o.kind = 3 /\ o.items.length = 62)
def sr (l : List UInt8) : cq -> Got -> Prop
 | .frm j t deep, r => t.beg -> ∀ S : List Fr, S.length = deep -> mL S ->
  (match r with | .error e => gV l (j + t.len) (.error e) (bU S j t) | .ok (d, n) => ∀ r', gV l n r' (dI S d) -> gV l (j + t.len) r' (bU S j t))
 | .lst o sq deep i items dot tail, r => ∀ S : List Fr, S.length + 1 = deep ->
  (match r with | .error e => Run l (⟨1, o, sq, dot, tail, items⟩ :: S) (i : Int) (.error e) | .ok (d, n) => ∀ r', gV l n r' (dI S d) -> Run l (⟨1, o, sq, dot, tail, items⟩ :: S) (i : Int) r')
 | .vec o deep i items, r => ∀ S : List Fr, S.length + 1 = deep ->
  (match r with | .error e => Run l (⟨3, o, false, 0, .nil, items⟩ :: S) (i : Int) (.error e) | .ok (d, n) => ∀ r', gV l n r' (dI S d) -> Run l (⟨3, o, false, 0, .nil, items⟩ :: S) (i : Int) r')
theorem cj {o : Fr} {S : List Fr} (h : o.dot ≠ 2) (h2 : ¬ (o.kind = 3 /\ o.items.length = 62)) : mL (o :: S) := ⟨h, h2⟩
theorem cU {S : List Fr} {t : Tk} (h : mL S) (hd : t.kind = 9 \/ S.length ≠ 64) : eu S t = 0 := by
 cases S with
 | nil => rfl
 | cons o S =>
  unfold eu
  simp only
  rw [if_neg h.1, if_neg h.2, if_neg (by rintro ⟨a, b⟩; rcases hd with hd | hd; exact a hd; exact hd b)]
theorem og {S : List Fr} {t : Tk} (h : mL S) (h9 : t.kind ≠ 9) (hd : S.length = 64) : eu S t = 10 := by
 cases S with
 | nil => simp at hd
 | cons o S =>
  unfold eu
  simp only
  rw [if_neg h.1, if_neg h.2, if_pos ⟨h9, hd⟩]
theorem d8 {S : List Fr} {j : Nat} {t : Tk} (hb : t.beg) (h : eu S t = 0) (h9 : t.kind ≠ 9) : bU S j t = .cont (⟨t.kind, j, t.sq, 0, .nil, []⟩ :: S) := by
 unfold bU
 rw [if_neg hb.1, if_neg hb.2.2, if_neg hb.2.1, h, if_neg (by simp), if_neg h9]
theorem iG {S : List Fr} {j c : Nat} {t : Tk} (hb : t.beg) (h : eu S t = c) (hc : c ≠ 0) : bU S j t = .err j c := by
 unfold bU
 rw [if_neg hb.1, if_neg hb.2.2, if_neg hb.2.1, h, if_pos hc]
theorem k0 {o : Fr} {S : List Fr} {d : Raw} (h : 4 <= o.kind /\ o.kind <= 7) : dI (o :: S) d = dI S (gL o.kind d) := by
 rw [dI, if_pos (show o.mark from h)]
theorem iQ {o : Fr} {S : List Fr} {d : Raw} (h : ¬ (4 <= o.kind /\ o.kind <= 7)) (h1 : o.dot ≠ 1) : dI (o :: S) d = .cont (⟨o.kind, o.at_, o.sq, o.dot, o.tail, o.items ++ [d]⟩ :: S) := by
 rw [dI, if_neg (show ¬ o.mark from h), if_neg h1]
theorem kZ {o : Fr} {S : List Fr} {d : Raw} (h : ¬ (4 <= o.kind /\ o.kind <= 7)) (h1 : o.dot = 1) : dI (o :: S) d = .cont (⟨o.kind, o.at_, o.sq, 2, d, o.items⟩ :: S) := by
 rw [dI, if_neg (show ¬ o.mark from h), if_pos h1]
theorem Rd.goes {l : List UInt8} {g : cq} {r : Got} (h : Rd l g r) : sr l g r := by
 induction h with
 | @datum j deep t h =>
  intro hb S hS hr r' hp
  have : bU S j t = dI S (bB t.d) := by
   unfold bU
   rw [if_neg hb.1, if_neg hb.2.2, if_neg hb.2.1, cU hr (.inl h), if_neg (by simp), if_pos h]
  rw [this]
  exact hp
 | deep h hd =>
  intro hb S hS hr
  show gV _ _ _ _
  rw [iG hb (og hr h (by omega)) (by omega)]
  rfl
 | @opn j deep t r h hd n ih =>
  intro hb S hS hr
  have hs := d8 (j := j) hb (cU hr (.inr (by omega))) (by omega)
  rw [hs, h]
  have := ih S (by omega)
  cases r with
  | error e => exact this
  | ok x => exact this
 | @vct j deep t r h hq hd n ih =>
  intro hb S hS hr
  have hs := d8 (j := j) hb (cU hr (.inr (by omega))) (by omega)
  rw [hs, h, hq]
  have := ih S (by omega)
  cases r with
  | error e => exact this
  | ok x => exact this
 | @markLex j deep p c t h hd n =>
  intro hb S hS hr
  show gV _ _ _ _
  rw [d8 hb (cU hr (.inr (by omega))) (by omega)]
  exact .lex n
 | @markEnd j deep k t u h hd n hu =>
  intro hb S hS hr
  show gV _ _ _ _
  rw [d8 hb (cU hr (.inr (by omega))) (by omega)]
  exact .err n (by unfold bU; rw [if_pos hu]; rfl)
 | @markBad j deep k t u h hd n hu =>
  intro hb S hS hr
  show gV _ _ _ _
  rw [d8 hb (cU hr (.inr (by omega))) (by omega)]
  refine .err n ?_
  unfold bU
  rw [if_neg (by omega)]
  rcases hu with hu | hu
  · rw [if_neg (by omega), if_pos hu, gz, if_pos (.inl h)]
  · rw [if_pos hu, nU, if_pos (.inl (by show t.kind ≠ 1; omega))]
 | @markErr j deep k p c t u h hd n hu m ih =>
  intro hb S hS hr
  show gV _ _ _ _
  rw [d8 hb (cU hr (.inr (by omega))) (by omega)]
  exact Run.of n (ih hu _ (by simp only [List.length_cons]; omega) (cj (by simp) (by simp)))
 | @markOk j deep k e t u d h hd n hu m ih =>
  intro hb S hS hr r' hp
  rw [d8 hb (cU hr (.inr (by omega))) (by omega)]
  refine Run.of n (ih hu _ (by simp only [List.length_cons]; omega) (cj (by simp) (by simp)) r' ?_)
  rw [k0 h]
  exact hp
 | lstLex n => intro S hS; exact .lex n
 | lstEnd n hu => intro S hS; exact .err n (by unfold bU; rw [if_pos hu]; rfl)
 | lstBad n hu hb =>
  intro S hS
  refine .err n ?_
  unfold bU
  rw [if_neg (by omega), if_neg (by omega), if_pos hu, gz, if_pos]
  rcases hb with hb | hb
  · exact .inr (.inl (fun e => hb e.symm))
  · exact .inr (.inr hb)
 | @lstOk o deep i dot k u sq items tail n hu hb hd =>
  intro S hS r' hp
  refine Run.of n ?_
  unfold bU
  rw [if_neg (by omega), if_neg (by omega), if_pos hu, gz, if_neg]
  · exact hp
  · rintro (⟨a, _⟩ | a | a)
    · exact absurd a (by simp)
    · exact a hb.symm
    · exact hd a
 | @dotBad o deep i dot k u sq items tail n hu hb =>
  intro S hS
  refine .err n ?_
  unfold bU
  rw [if_neg (by omega), if_pos hu, nU, if_pos]
  rcases hb with hb | hb
  · exact .inr (.inr (by show dot ≠ 0; omega))
  · exact .inr (.inl hb)
 | @dotOk o deep i dot k u sq items tail r n hu h0 hi m ih =>
  intro S hS
  have hs : bU (⟨1, o, sq, dot, tail, items⟩ :: S) k u = .cont (⟨1, o, sq, 1, tail, items⟩ :: S) := by
   unfold bU
   rw [if_neg (by omega), if_pos hu, nU, if_neg]
   rintro (a | a | a)
   · exact a rfl
   · exact hi a
   · exact a h0
  have := ih S hS
  cases r with
  | error e => exact .cont n hs this
  | ok x => exact fun r' hp => .cont n hs (this r' hp)
 | @full o deep i dot k u sq items tail n hu hb =>
  intro S hS
  exact .err n (iG hu (by unfold eu; simp only; rw [if_pos hb]) (by omega))
 | @itemErr o deep i dot k p c u sq items tail n hu hb m ih =>
  intro S hS
  exact Run.of n (ih hu _ (by simp only [List.length_cons]; omega) (cj hb (by simp)))
 | @itemOk o deep i dot k e u sq items tail d r n hu hb m g ih ih2 =>
  intro S hS
  have h2 := ih2 S hS
  have hp : dI (⟨1, o, sq, dot, tail, items⟩ :: S) d = .cont (⟨1, o, sq, dot, tail, items ++ [d]⟩ :: S) := iQ (by simp) (by show dot ≠ 1; omega)
  cases r with
  | error x => exact Run.of n (ih hu _ (by simp only [List.length_cons]; omega) (cj (by show dot ≠ 2; omega) (by simp)) _ (by rw [hp]; exact h2))
  | ok x => exact fun r' hr => Run.of n (ih hu _ (by simp only [List.length_cons]; omega) (cj (by show dot ≠ 2; omega) (by simp)) _ (by rw [hp]; exact h2 r' hr))
 | @tailOk o deep i dot k e u sq items tail d r n hu hb m g ih ih2 =>
  intro S hS
  have h2 := ih2 S hS
  have hp : dI (⟨1, o, sq, dot, tail, items⟩ :: S) d = .cont (⟨1, o, sq, 2, d, items⟩ :: S) := kZ (by simp) hb
  cases r with
  | error x => exact Run.of n (ih hu _ (by simp only [List.length_cons]; omega) (cj (by show dot ≠ 2; omega) (by simp)) _ (by rw [hp]; exact h2))
  | ok x => exact fun r' hr => Run.of n (ih hu _ (by simp only [List.length_cons]; omega) (cj (by show dot ≠ 2; omega) (by simp)) _ (by rw [hp]; exact h2 r' hr))
 | vecLex n => intro S hS; exact .lex n
 | vecEnd n hu => intro S hS; exact .err n (by unfold bU; rw [if_pos hu]; rfl)
 | vecBad n hu hb =>
  intro S hS
  refine .err n ?_
  unfold bU
  rw [if_neg (by omega), if_neg (by omega), if_pos hu, gz, if_pos]
  exact .inr (.inl (by rw [hb]; simp))
 | @vecOk o deep i k u items n hu hb =>
  intro S hS r' hp
  refine Run.of n ?_
  unfold bU
  rw [if_neg (by omega), if_neg (by omega), if_pos hu, gz, if_neg]
  · exact hp
  · rintro (⟨a, _⟩ | a | a)
    · exact absurd a (by simp)
    · exact a hb.symm
    · exact absurd a (by simp)
 | @vecDot o deep i k u items n hu =>
  intro S hS
  refine .err n ?_
  unfold bU
  rw [if_neg (by omega), if_pos hu, nU, if_pos (.inl (by simp))]
 | @vecBig o deep i k u items n hu hb =>
  intro S hS
  exact .err n (iG hu (by unfold eu; simp only; rw [if_neg (by simp), if_pos (by simp [hb])]) (by omega))
 | @vecErr o deep i k p c u items n hu hb m ih =>
  intro S hS
  exact Run.of n (ih hu _ (by simp only [List.length_cons]; omega) (cj (by simp) (fun h => hb h.2)))
 | @vecItem o deep i k e u items d r n hu hb m g ih ih2 =>
  intro S hS
  have h2 := ih2 S hS
  have hp : dI (⟨3, o, false, 0, .nil, items⟩ :: S) d = .cont (⟨3, o, false, 0, .nil, items ++ [d]⟩ :: S) := iQ (by simp) (by simp)
  cases r with
  | error x => exact Run.of n (ih hu _ (by simp only [List.length_cons]; omega) (cj (by simp) (fun h => hb h.2)) _ (by rw [hp]; exact h2))
  | ok x => exact fun r' hr => Run.of n (ih hu _ (by simp only [List.length_cons]; omega) (cj (by simp) (fun h => hb h.2)) _ (by rw [hp]; exact h2 r' hr))
theorem dh.run {l : List UInt8} {i : Int} {r : Got} (h : dh l i r) : Run l [] i r := by
 cases h with
 | lex n => exact .lex n
 | none n hk => exact .err n (by unfold bU; rw [if_pos hk]; rfl)
 | bad n hk =>
  refine .err n ?_
  unfold bU
  rw [if_neg (by omega)]
  rcases hk with hk | hk
  · rw [if_neg (by omega), if_pos hk]; rfl
  · rw [if_pos hk]; rfl
 | frm n hk m =>
  have := m.goes hk [] rfl trivial
  cases r with
  | error e => exact Run.of n this
  | ok x => exact Run.of n (this _ rfl)
theorem lI {w : List UInt8} {k : Nat} {d : fk} (h : dw w = .ok (k, d)) : k = 8 \/ k = 9 := by
 unfold dw at h
 split at h
 · injection h with h; injection h; omega
 split at h
 · injection h with h; injection h; omega
 split at h
 · injection h with h; injection h; omega
 split at h
 · cases h
 split at h
 · split at h
   · injection h with h; injection h; omega
   · cases h
 · split at h
   · injection h with h; injection h; omega
   · cases h
theorem nk {x : List UInt8} {t : Tk} (h : fp x = .ok t) : t.kind <= 9 /\ (t.kind = 3 -> t.sq = false) := by
 cases x with
 | nil => cases h
 | cons c u =>
  rw [fp] at h
  split at h
  · injection h with h; subst h; simp
  split at h
  · injection h with h; subst h; simp
  split at h
  · injection h with h; subst h; simp
  split at h
  · injection h with h; subst h; simp
  split at h
  · split at h
    · injection h with h; subst h; simp
    · injection h with h; subst h; simp
  split at h
  · split at h
    · cases h
    · cases h
    · split at h
      · injection h with h; subst h; simp
      · cases h
  split at h
  · injection h with h; subst h; simp
  split at h
  · split at h
    · injection h with h; subst h; simp
    · cases h
  · split at h
    · rename_i k d hw
      have := lI hw
      injection h with h; subst h
      exact ⟨by show k <= 9; omega, fun _ => rfl⟩
    · cases h
theorem cJ {l : List UInt8} {i : Int} {j : Nat} {t : Tk} (h : aH l i = .ok (j, t)) : l.length <= 4096 /\ ∃ a : Nat, i = (a : Int) /\ a <= l.length /\ fo l a = .ok (j, t) := by
 unfold aH at h
 split at h
 · cases h
 split at h
 · cases h
 · exact ⟨by omega, i.toNat, by omega, by omega, h⟩
theorem aN {l : List UInt8} {i : Int} {j : Nat} {t : Tk} (h : aH l i = .ok (j, t)) : t.kind <= 9 /\ (t.kind = 3 -> t.sq = false) /\ j + t.len <= l.length /\ (t.kind ≠ 0 -> i < ((j + t.len : Nat) : Int)) := by
 obtain ⟨_, a, rfl, ha, g⟩ := cJ h
 obtain ⟨h1, h2, _, h3⟩ := pB ha g
 rcases h3 with ⟨_, h3⟩ | ⟨_, h3, h4, _⟩
 · subst h3; exact ⟨by simp, by simp, h2, fun h => absurd rfl h⟩
 · obtain ⟨h5, h6⟩ := nk h3
   exact ⟨h5, h6, h2, fun _ => by omega⟩
def cq.pos : cq -> Nat
 | .frm j t _ => j + t.len
 | .lst _ _ _ i _ _ _ => i
 | .vec _ _ i _ => i
def cq.fair : cq -> Prop
 | .frm _ t _ => t.beg /\ t.kind <= 9 /\ (t.kind = 3 -> t.sq = false)
 | .lst _ _ _ _ _ dot _ => dot <= 2
 | .vec _ _ _ _ => True
theorem Rd.ends {l : List UInt8} {g : cq} {r : Got} (h : Rd l g r) : g.pos <= l.length -> ∀ d n, r = .ok (d, n) -> g.pos <= n /\ n <= l.length := by
 induction h with
 | datum h => intro hp d n e; injection e with e; injection e with _ e; subst e; exact ⟨Nat.le_refl _, hp⟩
 | opn h hd n ih => exact ih
 | vct h hs hd n ih => exact ih
 | @markOk j deep k e t u d h hd n hu m ih =>
  intro hp d n' e'; injection e' with e'; injection e' with _ e'; subst e'
  have := aN n
  have h2 := ih this.2.2.1 _ _ rfl
  have h3 := this.2.2.2 hu.1
  simp only [cq.pos] at h2 ⊢
  omega
 | @lstOk o deep i dot k u sq items tail n hu hb hd =>
  intro hp d n' e'; injection e' with e'; injection e' with _ e'; subst e'
  have := aN n
  have h3 := this.2.2.2 (by omega)
  simp only [cq.pos]
  omega
 | @dotOk o deep i dot k u sq items tail r n hu h0 hi m ih =>
  intro hp d n' e'
  have := aN n
  have h3 := this.2.2.2 (by omega)
  have h2 := ih this.2.2.1 _ _ e'
  simp only [cq.pos] at h2 ⊢
  omega
 | @itemOk o deep i dot k e u sq items tail d r n hu hb m g ih ih2 =>
  intro hp d n' e'
  have := aN n
  have h3 := this.2.2.2 hu.1
  have h2 := ih this.2.2.1 _ _ rfl
  simp only [cq.pos] at h2
  have h4 := ih2 h2.2 _ _ e'
  simp only [cq.pos] at h4 ⊢
  omega
 | @tailOk o deep i dot k e u sq items tail d r n hu hb m g ih ih2 =>
  intro hp d n' e'
  have := aN n
  have h3 := this.2.2.2 hu.1
  have h2 := ih this.2.2.1 _ _ rfl
  simp only [cq.pos] at h2
  have h4 := ih2 h2.2 _ _ e'
  simp only [cq.pos] at h4 ⊢
  omega
 | @vecOk o deep i k u items n hu hb =>
  intro hp d n' e'; injection e' with e'; injection e' with _ e'; subst e'
  have := aN n
  have h3 := this.2.2.2 (by omega)
  simp only [cq.pos]
  omega
 | @vecItem o deep i k e u items d r n hu hb m g ih ih2 =>
  intro hp d n' e'
  have := aN n
  have h3 := this.2.2.2 hu.1
  have h2 := ih this.2.2.1 _ _ rfl
  simp only [cq.pos] at h2
  have h4 := ih2 h2.2 _ _ e'
  simp only [cq.pos] at h4 ⊢
  omega
 | _ => intro _ _ _ e'; cases e'
theorem px {l : List UInt8} {o deep i dot : Nat} {sq : Bool} {items : List Raw} {tail : Raw} (hdot : dot <= 2) (ih : ∀ g : cq, i < g.pos -> g.pos <= l.length -> g.fair -> ∃ r, Rd l g r) : ∃ r, Rd l (.lst o sq deep i items dot tail) r := by
 cases n : aH l (i : Int) with
 | error e => obtain ⟨p, c⟩ := e; exact ⟨_, .lstLex n⟩
 | ok x =>
  obtain ⟨k, u⟩ := x
  obtain ⟨t1, t2, t3, t4⟩ := aN n
  by_cases h0 : u.kind = 0
  · exact ⟨_, .lstEnd n h0⟩
  have t5 := t4 h0
  by_cases h2 : u.kind = 2
  · by_cases hb : u.sq ≠ sq \/ dot = 1
    · exact ⟨_, .lstBad n h2 hb⟩
    · exact ⟨_, .lstOk n h2 (by by_cases e : u.sq = sq; exact e; exact absurd (.inl e) hb) (fun e => hb (.inr e))⟩
  by_cases h8 : u.kind = 8
  · by_cases hb : 0 < dot \/ items = []
    · exact ⟨_, .dotBad n h8 hb⟩
    · obtain ⟨r, hr⟩ := ih (.lst o sq deep (k + u.len) items 1 tail) (by simp only [cq.pos]; omega) t3 (by simp [cq.fair])
      exact ⟨r, .dotOk n h8 (by omega) (fun e => hb (.inr e)) hr⟩
  have hu : u.beg := ⟨h0, h2, h8⟩
  by_cases hd : dot = 2
  · exact ⟨_, .full n hu hd⟩
  obtain ⟨r, hr⟩ := ih (.frm k u deep) (by simp only [cq.pos]; omega) t3 ⟨hu, t1, t2⟩
  cases r with
  | error e => obtain ⟨p, c⟩ := e; exact ⟨_, .itemErr n hu hd hr⟩
  | ok y =>
   obtain ⟨d, e⟩ := y
   have := hr.ends t3 _ _ rfl
   simp only [cq.pos] at this
   by_cases h1 : dot = 1
   · obtain ⟨r, hr2⟩ := ih (.lst o sq deep e items 2 d) (by simp only [cq.pos]; omega) this.2 (by simp [cq.fair])
     exact ⟨r, .tailOk n hu h1 hr hr2⟩
   · obtain ⟨r, hr2⟩ := ih (.lst o sq deep e (items ++ [d]) dot tail) (by simp only [cq.pos]; omega) this.2 hdot
     exact ⟨r, .itemOk n hu (by omega) hr hr2⟩
theorem ot {l : List UInt8} {o deep i : Nat} {items : List Raw} (ih : ∀ g : cq, i < g.pos -> g.pos <= l.length -> g.fair -> ∃ r, Rd l g r) : ∃ r, Rd l (.vec o deep i items) r := by
 cases n : aH l (i : Int) with
 | error e => obtain ⟨p, c⟩ := e; exact ⟨_, .vecLex n⟩
 | ok x =>
  obtain ⟨k, u⟩ := x
  obtain ⟨t1, t2, t3, t4⟩ := aN n
  by_cases h0 : u.kind = 0
  · exact ⟨_, .vecEnd n h0⟩
  have t5 := t4 h0
  by_cases h2 : u.kind = 2
  · cases hb : u.sq with
    | true => exact ⟨_, .vecBad n h2 hb⟩
    | false => exact ⟨_, .vecOk n h2 hb⟩
  by_cases h8 : u.kind = 8
  · exact ⟨_, .vecDot n h8⟩
  have hu : u.beg := ⟨h0, h2, h8⟩
  by_cases hd : items.length = 62
  · exact ⟨_, .vecBig n hu hd⟩
  obtain ⟨r, hr⟩ := ih (.frm k u deep) (by simp only [cq.pos]; omega) t3 ⟨hu, t1, t2⟩
  cases r with
  | error e => obtain ⟨p, c⟩ := e; exact ⟨_, .vecErr n hu hd hr⟩
  | ok y =>
   obtain ⟨d, e⟩ := y
   have := hr.ends t3 _ _ rfl
   simp only [cq.pos] at this
   obtain ⟨r, hr2⟩ := ih (.vec o deep e (items ++ [d])) (by simp only [cq.pos]; omega) this.2 trivial
   exact ⟨r, .vecItem n hu hd hr hr2⟩
theorem rZ {l : List UInt8} {j deep : Nat} {t : Tk} (_hp : j + t.len <= l.length) (hf : t.beg /\ t.kind <= 9 /\ (t.kind = 3 -> t.sq = false)) (ih : ∀ g : cq, j + t.len < g.pos -> g.pos <= l.length -> g.fair -> ∃ r, Rd l g r)
 (h1 : ∃ r, Rd l (.lst j t.sq (deep + 1) (j + t.len) [] 0 .nil) r) (h3 : ∃ r, Rd l (.vec j (deep + 1) (j + t.len) []) r) : ∃ r, Rd l (.frm j t deep) r := by
 obtain ⟨hb, h9, hs⟩ := hf
 by_cases k9 : t.kind = 9
 · exact ⟨_, .datum k9⟩
 by_cases hd : deep = 64
 · exact ⟨_, .deep k9 hd⟩
 by_cases k1 : t.kind = 1
 · obtain ⟨r, hr⟩ := h1; exact ⟨r, .opn k1 hd hr⟩
 by_cases k3 : t.kind = 3
 · obtain ⟨r, hr⟩ := h3; exact ⟨r, .vct k3 (hs k3) hd hr⟩
 have h4 : 4 <= t.kind /\ t.kind <= 7 := by obtain ⟨a, b, c⟩ := hb; omega
 cases n : aH l ((j + t.len : Nat) : Int) with
 | error e => obtain ⟨p, c⟩ := e; exact ⟨_, .markLex h4 hd n⟩
 | ok x =>
  obtain ⟨k, u⟩ := x
  obtain ⟨t1, t2, t3, t4⟩ := aN n
  by_cases h0 : u.kind = 0
  · exact ⟨_, .markEnd h4 hd n h0⟩
  have t5 := t4 h0
  by_cases hq : u.kind = 2 \/ u.kind = 8
  · exact ⟨_, .markBad h4 hd n hq⟩
  have hu : u.beg := ⟨h0, fun e => hq (.inl e), fun e => hq (.inr e)⟩
  obtain ⟨r, hr⟩ := ih (.frm k u (deep + 1)) (by simp only [cq.pos]; omega) t3 ⟨hu, t1, t2⟩
  cases r with
  | error e => obtain ⟨p, c⟩ := e; exact ⟨_, .markErr h4 hd n hu hr⟩
  | ok y => obtain ⟨d, e⟩ := y; exact ⟨_, .markOk h4 hd n hu hr⟩
theorem Rd.ex1 (l : List UInt8) : ∀ (m : Nat) (g : cq), g.pos <= l.length -> l.length < g.pos + m -> g.fair -> ∃ r, Rd l g r := by
 intro m
 induction m with
 | zero => intro g h1 h2; omega
 | succ m ih =>
  intro g h1 h2 h3
  have hg : ∀ g' : cq, g.pos < g'.pos -> g'.pos <= l.length -> g'.fair -> ∃ r, Rd l g' r := fun g' a b c => ih g' b (by omega) c
  cases g with
  | lst o sq deep i items dot tail => exact px h3 hg
  | vec o deep i items => exact ot hg
  | frm j t deep => exact rZ h1 h3 hg (px (by omega) hg) (ot hg)
theorem Rd.ex {l : List UInt8} {g : cq} (h : g.pos <= l.length) (hf : g.fair) : ∃ r, Rd l g r := Rd.ex1 l (l.length + 1) g h (by omega) hf
theorem dh.ex (l : List UInt8) (i : Int) : ∃ r, dh l i r := by
 cases n : aH l i with
 | error e => obtain ⟨p, c⟩ := e; exact ⟨_, .lex n⟩
 | ok x =>
  obtain ⟨k, u⟩ := x
  obtain ⟨t1, t2, t3, t4⟩ := aN n
  by_cases h0 : u.kind = 0
  · exact ⟨_, .none n h0⟩
  by_cases hq : u.kind = 2 \/ u.kind = 8
  · exact ⟨_, .bad n hq⟩
  have hu : u.beg := ⟨h0, fun e => hq (.inl e), fun e => hq (.inr e)⟩
  obtain ⟨r, hr⟩ := Rd.ex (l := l) (g := .frm k u 0) t3 ⟨hu, t1, t2⟩
  exact ⟨r, .frm n hu hr⟩
theorem dh.ends {l : List UInt8} {i : Int} {d : Raw} {n : Nat} (h : dh l i (.ok (d, n))) : i < (n : Int) /\ n <= l.length := by
 cases h with
 | frm n hk m =>
  obtain ⟨t1, t2, t3, t4⟩ := aN n
  have h2 := m.ends t3 _ _ rfl
  have h3 := t4 hk.1
  simp only [cq.pos] at h2
  omega
theorem dM.ex1 (l : List UInt8) : ∀ (m i : Nat), l.length < i + m -> ∃ ds p c, dM l i ds p c := by
 intro m
 induction m with
 | zero =>
  intro i h
  obtain ⟨r, hr⟩ := dh.ex l (i : Int)
  cases r with
  | error e =>
   obtain ⟨p, c⟩ := e
   by_cases hc : c = 19
   · subst hc; exact ⟨_, _, _, .fin hr⟩
   · exact ⟨_, _, _, .bad hr hc⟩
  | ok x => obtain ⟨d, n⟩ := x; have := hr.ends; omega
 | succ m ih =>
  intro i h
  obtain ⟨r, hr⟩ := dh.ex l (i : Int)
  cases r with
  | error e =>
   obtain ⟨p, c⟩ := e
   by_cases hc : c = 19
   · subst hc; exact ⟨_, _, _, .fin hr⟩
   · exact ⟨_, _, _, .bad hr hc⟩
  | ok x =>
   obtain ⟨d, n⟩ := x
   have := hr.ends
   obtain ⟨ds, p, c, g⟩ := ih n (by omega)
   exact ⟨_, _, _, .cons hr g⟩
theorem dM.ex (l : List UInt8) : ∃ ds p c, dM l 0 ds p c := dM.ex1 l (l.length + 1) 0 (by omega)
theorem fT {l : List UInt8} {i : Int} {p c : Nat} (h : aH l i = .error (p, c)) : c = 1 \/ c = 6 \/ c = 9 \/ c = 11 \/ c = 12 := by
 unfold aH at h
 split at h
 · injection h with h; injection h; omega
 split at h
 · injection h with h; injection h; omega
 · have := (jD (by omega) h).2
   omega
theorem Rd.code {l : List UInt8} {g : cq} {r : Got} (h : Rd l g r) : ∀ p c, r = .error (p, c) -> c = 1 \/ c = 6 \/ c = 9 \/ c = 10 \/ c = 11 \/ c = 12 := by
 induction h with
 | markLex h hd n => intro p c e; injection e with e; injection e with e1 e2; subst e1; subst e2; have := fT n; omega
 | lstLex n => intro p c e; injection e with e; injection e with e1 e2; subst e1; subst e2; have := fT n; omega
 | vecLex n => intro p c e; injection e with e; injection e with e1 e2; subst e1; subst e2; have := fT n; omega
 | opn h hd n ih => exact ih
 | vct h hs hd n ih => exact ih
 | markErr h hd n hu m ih => exact ih
 | dotOk n hu h0 hi m ih => exact ih
 | itemErr n hu hb m ih => exact ih
 | itemOk n hu hb m g ih ih2 => exact ih2
 | tailOk n hu hb m g ih ih2 => exact ih2
 | vecErr n hu hb m ih => exact ih
 | vecItem n hu hb m g ih ih2 => exact ih2
 | datum => intro p c e; cases e
 | markOk => intro p c e; cases e
 | lstOk => intro p c e; cases e
 | vecOk => intro p c e; cases e
 | _ => intro p c e; injection e with e; injection e with e1 e2; omega
theorem dh.code {l : List UInt8} {i : Int} {p c : Nat} (h : dh l i (.error (p, c))) : (c = 1 \/ c = 6 \/ c = 9 \/ c = 10 \/ c = 11 \/ c = 12) \/ (c = 19 /\ ∃ t, aH l i = .ok (p, t) /\ t.kind = 0) := by
 cases h with
 | lex n => have := fT n; exact .inl (by omega)
 | none n hk => exact .inr ⟨rfl, _, n, hk⟩
 | bad n hk => exact .inl (by omega)
 | frm n hk m => exact .inl (m.code _ _ rfl)
end Go.Proofs.YtonnikipeokkaaaGreatDoor
