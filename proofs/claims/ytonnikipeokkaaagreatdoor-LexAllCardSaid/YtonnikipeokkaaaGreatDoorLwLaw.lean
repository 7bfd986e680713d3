/-
  The law of lex and its document: one token.
-/
import Derived.Test.YtonnikipeokkaaaGreatDoorLwWake
import Derived.Test.YtonnikipeokkaaaGreatDoorRlSame
import Derived.Test.YtonnikipeokkaaaGreatDoorRlNext
namespace Go.Proofs.YtonnikipeokkaaaGreatDoor
open Go.RowKit Go.Lib

/-- The cells of a datum: all but its number's place. -/
def leafK : Leaf → Int
  | .no => 0
  | .tru => 1
  | .fls => 2
  | .chr _ => 3
  | .int _ => 4
  | .str _ => 5
  | .sym _ => 6
def leafC : Leaf → Int
  | .chr v => (v : Int)
  | _ => 0
def leafN : Leaf → Bool
  | .int x => decide (x < 0)
  | _ => false
def leafX : Leaf → ByteArray
  | .str l => ⟨l.toArray⟩
  | .sym l => ⟨l.toArray⟩
  | _ => ⟨#[]⟩
def leafL : Leaf → List Nat
  | .int x => limbs x.natAbs
  | _ => []
theorem LeafAt.form {w : World} {d : Leaf} {k c : Int} {neg : Bool} {A : Option Addr} {n cp : Nat} {t : ByteArray} (h : LeafAt w d k c neg A n cp t) : k = leafK d ∧ c = leafC d ∧ neg = leafN d ∧ t = leafX d ∧ LimbsAt w A n cp (leafL d) := by
  cases d
  case int x =>
    obtain ⟨rfl, rfl, rfl, h1, _, rfl⟩ := h
    exact ⟨rfl, rfl, rfl, rfl, h1.lim⟩
  all_goals
    obtain ⟨rfl, rfl, rfl, rfl, rfl, rfl, rfl⟩ := h
    exact ⟨rfl, rfl, rfl, rfl, none_limbs w⟩
/-- An answer's cells. -/
structure NF where
  kind : Int
  at1 : Int
  en : Int
  sq : Bool
  k : Int
  c : Int
  neg : Bool
  x : ByteArray
  l : List Nat
  p : Int
  q : Int
def tkNF (j : Nat) (t : Tk) : NF := ⟨t.kind, j, ((j + t.len : Nat) : Int), t.sq, leafK t.d, leafC t.d, leafN t.d, leafX t.d, leafL t.d, 0, 0⟩
def nxNF : Except (Nat × Nat) (Nat × Tk) → NF
  | .ok (j, t) => tkNF j t
  | .error (p, c) => ⟨0, 0, 0, false, 0, 0, false, ⟨#[]⟩, [], p, c⟩
def FormPost (f : NF) (w : World) (e : Ending) (w' : World) : Prop :=
  ∃ (A : Option Addr) (n cp : Nat), e = .returned (.tuple #[tokV f.kind f.at1 f.en f.sq f.k f.c f.neg A n cp f.x, .int .i64 f.p, .int .i64 f.q]) ∧ LimbsAt w' A n cp f.l ∧ Keep (fun _ => False) w w'
theorem NextPost.form {r : Except (Nat × Nat) (Nat × Tk)} {w w' : World} {e : Ending} (h : NextPost r w e w') : FormPost (nxNF r) w e w' := by
  cases r with
  | error r =>
    obtain ⟨p, c⟩ := r
    obtain ⟨rfl, K⟩ := h
    exact ⟨none, 0, 0, rfl, none_limbs w', K⟩
  | ok r =>
    obtain ⟨j, t⟩ := r
    obtain ⟨k, c, neg, A, n, cp, x, rfl, hl, K⟩ := h
    obtain ⟨rfl, rfl, rfl, rfl, h5⟩ := hl.form
    exact ⟨A, n, cp, rfl, h5, K⟩
set_option maxRecDepth 100000 in
set_option maxHeartbeats 4000000 in
theorem lawNext_any (s : ByteArray) (at_ : Int) (w : World) (hT : Tabs w) : Calls Tryz.prog 3 #[.string s, .int .i64 at_] w (BoolPost true w) := by
  have h1 := fun (w : World) hT => (lexNext_any s at_ w hT).mono (fun _ _ h => NextPost.form h)
  have h2 := fun (w : World) => (rNext_any s at_ w).mono (fun _ _ h => NextPost.form h)
  generalize nxNF (nextV s.data.toList at_) = f at h1 h2
  obtain ⟨kind, at1, en, sq, k, c, neg, x, l, p, q⟩ := f
  have H1 := Lib.hid h1
  have H2 := Lib.hid h2
  have HT := Lib.hid hT
  have HS := Lib.hid (fun (A A' : Option Addr) (n cp n' cp' : Nat) (w : World) (h : LimbsAt w A n cp l) (h' : LimbsAt w A' n' cp' l) => rsame_tok kind at1 en sq k c neg A A' n cp n' cp' x l w h h')
  have HAW := Lib.hid (fun (w : World) hT => awake_any w hT)
  have ep : (p == p) = true := by simp
  have eq : (q == q) = true := by simp
  clear h1 h2 hT
  go_enter Tryz.func3, Tryz.ntmps3
  go_wp2_with fail
  refine (H1.out _ HT.out).mono ?_
  rintro e w1 ⟨A, n, cp, rfl, hl, k1⟩
  have k2 := k1.alloc (.cells #[.int .i64 kind, .int .i64 at1, .int .i64 en, .bool sq, .int .i64 k, .int .i32 c, .bool neg, .slice A n cp, .string x, .slice none 0 0] 29)
  have hb1 : (w1.alloc (.cells #[.int .i64 kind, .int .i64 at1, .int .i64 en, .bool sq, .int .i64 k, .int .i32 c, .bool neg, .slice A n cp, .string x, .slice none 0 0] 29)).heap[w1.heap.size]? = some (.cells #[.int .i64 kind, .int .i64 at1, .int .i64 en, .bool sq, .int .i64 k, .int .i32 c, .bool neg, .slice A n cp, .string x, .slice none 0 0] 29 (0, 0)) := heap_alloc_new w1 _
  have HL1 := Lib.hid (hl.keep0 ((Keep.refl _ _).alloc (.cells #[.int .i64 kind, .int .i64 at1, .int .i64 en, .bool sq, .int .i64 k, .int .i32 c, .bool neg, .slice A n cp, .string x, .slice none 0 0] 29)))
  have HB1 := Lib.hid hb1
  have HK2 := Lib.hid k2
  clear hl k1 k2 hb1
  try dsimp only
  go_wp2_with fail
  generalize w1.alloc (.cells #[.int .i64 kind, .int .i64 at1, .int .i64 en, .bool sq, .int .i64 k, .int .i32 c, .bool neg, .slice A n cp, .string x, .slice none 0 0] 29) = w2 at *
  refine (H2.out _).mono ?_
  rintro e w3 ⟨A', n', cp', rfl, hl, k3⟩
  have HB3 := Lib.hid (k3.heap HB1.out (by simp))
  have hlt := heap_lt (k3.heap HB1.out (by simp))
  have HB4 := Lib.hid (show (w3.alloc (.cells #[.int .i64 kind, .int .i64 at1, .int .i64 en, .bool sq, .int .i64 k, .int .i32 c, .bool neg, .slice A' n' cp', .string x, .slice none 0 0] 29)).heap[w1.heap.size]? = some (.cells #[.int .i64 kind, .int .i64 at1, .int .i64 en, .bool sq, .int .i64 k, .int .i32 c, .bool neg, .slice A n cp, .string x, .slice none 0 0] 29 (0, 0)) by rw [Below.heap_alloc _ _ _ hlt]; exact HB3.out)
  have HB5 := Lib.hid (heap_alloc_new w3 (.cells #[.int .i64 kind, .int .i64 at1, .int .i64 en, .bool sq, .int .i64 k, .int .i32 c, .bool neg, .slice A' n' cp', .string x, .slice none 0 0] 29))
  have HK4 := Lib.hid ((HK2.out.trans k3).alloc (.cells #[.int .i64 kind, .int .i64 at1, .int .i64 en, .bool sq, .int .i64 k, .int .i32 c, .bool neg, .slice A' n' cp', .string x, .slice none 0 0] 29))
  have HL4 := Lib.hid (HL1.out.keep0 (k3.alloc (.cells #[.int .i64 kind, .int .i64 at1, .int .i64 en, .bool sq, .int .i64 k, .int .i32 c, .bool neg, .slice A' n' cp', .string x, .slice none 0 0] 29)))
  have HL5 := Lib.hid (hl.keep0 ((Keep.refl _ _).alloc (.cells #[.int .i64 kind, .int .i64 at1, .int .i64 en, .bool sq, .int .i64 k, .int .i32 c, .bool neg, .slice A' n' cp', .string x, .slice none 0 0] 29)))
  obtain ⟨⟨c0, c1, c2, c3, c4, c5, c6, c7, c8, c9⟩, _⟩ := tok_cells HB4.out
  obtain ⟨⟨d0, d1, d2, d3, d4, d5, d6, d7, d8, d9⟩, _⟩ := tok_cells HB5.out
  clear hl k3 hlt
  try dsimp only
  go_wp2_with fail
  refine (HS.out A A' n cp n' cp' _ HL4.out HL5.out).mono ?_
  rintro e w5 ⟨rfl, k5⟩
  have HK5 := Lib.hid (HK4.out.trans k5)
  clear k5 c0 c1 c2 c3 c4 c5 c6 c7 c8 c9 d0 d1 d2 d3 d4 d5 d6 d7 d8 d9
  try dsimp only
  go_wp2_with fail
  refine (HAW.out _ (HT.out.keep HK5.out)).mono ?_
  rintro e w6 ⟨rfl, k6⟩
  have HK6 := Lib.hid (HK5.out.trans k6)
  clear k6
  try dsimp only
  go_wp2_with fail
  go_ret
  exact ⟨rfl, HK6.out⟩
end Go.Proofs.YtonnikipeokkaaaGreatDoor
