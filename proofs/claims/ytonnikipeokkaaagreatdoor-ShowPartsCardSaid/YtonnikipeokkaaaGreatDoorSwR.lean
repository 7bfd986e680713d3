/-
  The text of a datum: plain Lean, no program in sight.
  The document's Bare: may a symbol stand as its bytes?  (Printed by gen_sbare.py.)
-/
import Derived.Test.YtonnikipeokkaaaGreatDoorPaMem
import Derived.Test.YtonnikipeokkaaaGreatDoorN2
import Derived.Test.YtonnikipeokkaaaGreatDoorRlRunes
import Derived.Test.YtonnikipeokkaaaGreatDoorLxWord
import Derived.Test.YtonnikipeokkaaaGreatDoorLxNum
import Derived.Test.YtonnikipeokkaaaGreatDoorPaRl
import Derived.Test.YtonnikipeokkaaaGreatDoorLxChar
import Derived.Test.YtonnikipeokkaaaGreatDoorN3
import Derived.Test.YtonnikipeokkaaaGreatDoorPaLx
import Derived.Laws.BytesArg
import Derived.Laws.IdiomStrings
import Derived.Test.YtonnikipeokkaaaGreatDoorLxTop
namespace Go.Proofs.YtonnikipeokkaaaGreatDoor
open Go.RowKit Go.Lib

def hexD (n : Nat) : UInt8 := if n < 10 then UInt8.ofNat (48 + n) else UInt8.ofNat (87 + n)
/-- The hex digits of a number below 256. -/
def hexT (c : Nat) : List UInt8 := if c < 16 then [hexD c] else [hexD (c / 16), hexD (c % 16)]
/-- The name of a char. -/
def cnameL (c : Nat) : List UInt8 :=
  if c = 0 then [110, 117, 108] else if c = 7 then [97, 108, 97, 114, 109] else if c = 8 then [98, 97, 99, 107, 115, 112, 97, 99, 101]
  else if c = 9 then [116, 97, 98] else if c = 10 then [110, 101, 119, 108, 105, 110, 101] else if c = 13 then [114, 101, 116, 117, 114, 110]
  else if c = 27 then [101, 115, 99, 97, 112, 101] else if c = 32 then [115, 112, 97, 99, 101] else if c = 127 then [100, 101, 108, 101, 116, 101]
  else if c < 32 ∨ 127 ≤ c ∧ c ≤ 159 then 120 :: hexT c else utfB c
/-- A char between two signs. -/
def escQ (y c : Nat) : List UInt8 :=
  if c = y ∨ c = 92 then 92 :: utfB c else if c = 10 then [92, 110] else if c = 9 then [92, 116] else if c = 13 then [92, 114]
  else if c < 32 ∨ c = 127 then 92 :: 120 :: (hexT c ++ [59]) else utfB c
def quoteL (y : Nat) (t : List UInt8) : List UInt8 := UInt8.ofNat y :: (((runesL t).getD []).flatMap (escQ y) ++ [UInt8.ofNat y])
def rawB (b : UInt8) : Bool := decide (b.toNat < 32) || b == 127
/-- May a symbol stand as its bytes? -/
def bareV (t : List UInt8) : Bool :=
  !t.any rawB && match nextV t 0 with
    | .ok (j, k) => j == 0 && k.len == t.length && k.kind == 9 && (match k.d with | .sym u => u == t | _ => false)
    | .error _ => false
def tailJ (l : List (List UInt8)) : List UInt8 := l.flatMap (fun x => 32 :: x)
/-- Items, parted by blanks. -/
def joinB : List (List UInt8) → List UInt8
  | [] => []
  | a :: l => a ++ tailJ l
def pairT : List (List UInt8 × List UInt8) → List UInt8
  | [a, d] => a.1 ++ d.2
  | _ => []
def selfT (pl : Bool) (k c : Int) (neg : Bool) (mag : List Nat) (t : ByteArray) (gs : List (List UInt8 × List UInt8)) : List UInt8 :=
  if k = 0 then [40, 41] else if k = 1 then [35, 116] else if k = 2 then [35, 102] else if k = 9 then [35, 60, 118, 111, 105, 100, 62] else if k = 10 then [35, 60, 101, 111, 102, 62]
  else if k = 3 then (if pl then utfB c.toNat else 35 :: 92 :: cnameL c.toNat) else if k = 4 then itoa (sval neg mag)
  else if k = 5 then (if pl then t.data.toList else quoteL 34 t.data.toList) else if k = 6 then (if pl || bareV t.data.toList then t.data.toList else quoteL 124 t.data.toList)
  else if k = 8 then 35 :: 40 :: (joinB (gs.map (·.1)) ++ [41]) else 40 :: pairT gs
mutual
/-- A datum's text, and what stands for it behind an item of a list. -/
def showG (pl : Bool) : Raw → List UInt8 × List UInt8
  | .mk k c neg mag t l =>
    (selfT pl k c neg mag t (showGs pl l), if k = 7 then 32 :: pairT (showGs pl l) else if k = 0 then [41] else 32 :: 46 :: 32 :: (selfT pl k c neg mag t (showGs pl l) ++ [41]))
def showGs (pl : Bool) : List Raw → List (List UInt8 × List UInt8)
  | [] => []
  | x :: l => showG pl x :: showGs pl l
end
def showR (pl : Bool) (r : Raw) : List UInt8 := (showG pl r).1
def restR (pl : Bool) (r : Raw) : List UInt8 := (showG pl r).2
theorem showGs_map (pl : Bool) : ∀ l, showGs pl l = l.map (showG pl)
  | [] => by rw [showGs]; rfl
  | x :: l => by rw [showGs, showGs_map pl l]; rfl
theorem showR_eq (pl : Bool) (r : Raw) : showR pl r = selfT pl r.k r.c r.neg r.mag r.t (r.l.map (showG pl)) := by
  cases r with
  | mk k c neg mag t l => unfold showR; rw [showG, showGs_map]; rfl
theorem restR_eq (pl : Bool) (r : Raw) : restR pl r = if r.k = 7 then 32 :: pairT (r.l.map (showG pl)) else if r.k = 0 then [41] else 32 :: 46 :: 32 :: (showR pl r ++ [41]) := by
  cases r with
  | mk k c neg mag t l => unfold restR showR; rw [showG, showGs_map]; rfl
theorem show_pair (pl : Bool) {r a d : Raw} (hk : r.k = 7) (hl : r.l = [a, d]) : showR pl r = 40 :: (showR pl a ++ restR pl d) := by
  rw [showR_eq, hk, hl]; rfl
theorem rest_pair (pl : Bool) {r a d : Raw} (hk : r.k = 7) (hl : r.l = [a, d]) : restR pl r = 32 :: (showR pl a ++ restR pl d) := by
  rw [restR_eq, hk, hl]; rfl
theorem rest_nil (pl : Bool) {r : Raw} (hk : r.k = 0) : restR pl r = [41] := by
  rw [restR_eq, if_neg (by omega), if_pos hk]
theorem rest_dot (pl : Bool) {r : Raw} (hk : r.k ≠ 7) (h0 : r.k ≠ 0) : restR pl r = 32 :: 46 :: 32 :: (showR pl r ++ [41]) := by
  rw [restR_eq, if_neg hk, if_neg h0]
theorem show_vec (pl : Bool) {r : Raw} (hk : r.k = 8) : showR pl r = 35 :: 40 :: (joinB (r.l.map (showR pl)) ++ [41]) := by
  rw [showR_eq, hk, selfT, if_neg (by decide), if_neg (by decide), if_neg (by decide), if_neg (by decide), if_neg (by decide), if_neg (by decide), if_neg (by decide), if_neg (by decide), if_neg (by decide), if_pos rfl, List.map_map]
  rfl
theorem rest_list (pl : Bool) (l : List Raw) : restR pl (listR l .nil) = tailJ (l.map (showR pl)) ++ [41] := by
  induction l with
  | nil => rfl
  | cons x l ih =>
    rw [listR, rest_pair pl (a := x) (d := listR l .nil) rfl rfl, ih]
    show 32 :: (showR pl x ++ (tailJ (l.map (showR pl)) ++ [41])) = (32 :: showR pl x ++ tailJ (l.map (showR pl))) ++ [41]
    simp
/-- A list's text. -/
theorem show_list (pl : Bool) (x : Raw) (l : List Raw) : showR pl (listR (x :: l) .nil) = 40 :: (joinB ((x :: l).map (showR pl)) ++ [41]) := by
  rw [listR, show_pair pl (a := x) (d := listR l .nil) rfl rfl, rest_list]
  show _ = 40 :: ((showR pl x ++ tailJ (l.map (showR pl))) ++ [41])
  rw [List.append_assoc]
end Go.Proofs.YtonnikipeokkaaaGreatDoor

namespace Go.Proofs.YtonnikipeokkaaaGreatDoor
open Go.RowKit Go.Lib

theorem bare_err {l : List UInt8} {e : Nat × Nat} (h : nextV l 0 = .error e) : bareV l = false := by
  unfold bareV
  rw [h]
  simp
def symB (d : Leaf) (s : List UInt8) : Bool := match d with | .sym u => u == s | _ => false
theorem bareV_eq {t : List UInt8} {j : Nat} {k : Tk} (h : nextV t 0 = .ok (j, k)) : bareV t = (!t.any rawB && (j == 0 && k.len == t.length && k.kind == 9 && symB k.d t)) := by
  unfold bareV
  rw [h]
  rfl
theorem leaf_sym {w : World} {d : Leaf} {k c : Int} {neg : Bool} {A : Option Addr} {n cp : Nat} {t : ByteArray} (h : LeafAt w d k c neg A n cp t) (s : ByteArray) :
    symB d s.data.toList = (k == 6 && t.toList == s.toList) := by
  cases d
  case sym u =>
    obtain ⟨rfl, _, _, _, _, _, rfl⟩ := h
    rw [Lib.toList_data, Lib.toList_data]
    rfl
  case int x =>
    obtain ⟨rfl, _⟩ := h
    rfl
  all_goals
    obtain ⟨rfl, _⟩ := h
    rfl
theorem bare_ok {w : World} {s : ByteArray} {j : Nat} {t : Tk} (hn : nextV s.data.toList 0 = .ok (j, t)) {k c : Int} {neg : Bool} {A : Option Addr} {n cp : Nat} {x : ByteArray} (h : LeafAt w t.d k c neg A n cp x) :
    bareV s.data.toList = (!s.data.toList.any rawB && ((t.kind : Int) == 9 && (j : Int) == 0 && ((j + t.len : Nat) : Int) == (s.size : Int) && k == 6 && x.toList == s.toList)) := by
  rw [bareV_eq hn, leaf_sym h s]
  congr 1
  have hz : s.data.toList.length = s.size := (Lib.size_eq s).symm
  rw [hz]
  have e1 : ((t.kind : Int) == 9) = (t.kind == 9) := by rw [Bool.eq_iff_iff, beq_iff_eq, beq_iff_eq]; omega
  have e2 : ((j : Int) == 0) = (j == 0) := by rw [Bool.eq_iff_iff, beq_iff_eq, beq_iff_eq]; omega
  rw [e1, e2]
  by_cases h0 : j = 0
  · subst h0
    have e3 : (((0 + t.len : Nat) : Int) == (s.size : Int)) = (t.len == s.size) := by rw [Bool.eq_iff_iff, beq_iff_eq, beq_iff_eq]; omega
    rw [e3]
    cases t.kind == 9 <;> cases t.len == s.size <;> simp
  · have : (j == 0) = false := beq_eq_false_iff_ne.2 h0
    rw [this]
    simp
end Go.Proofs.YtonnikipeokkaaaGreatDoor
