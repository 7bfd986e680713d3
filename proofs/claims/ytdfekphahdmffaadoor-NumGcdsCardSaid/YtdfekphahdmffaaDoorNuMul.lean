/-
  num: Mul.
-/
import Derived.Test.YtdfekphahdmffaaDoorNuTimes
import Derived.Deep.RegionHeld3
namespace Go.Proofs.YtdfekphahdmffaaDoor
open Go.RowKit

/-- Two numbers came in, and there is room for the result. -/
structure Box3 (w w1 : World) (B : Nat) (u v : Value) (x y : Value) : Prop where
  k : Keep (fun _ => False) w w1
  b1 : w1.heap[B]? = some (.cells #[u, v] 25 (0, 0))
  b2 : w1.heap[B + 1]? = some (.cells #[x, y] 25 (0, 0))
  b3 : w1.heap[B + 1 + 1]? = some (.cells #[.bool false, .slice none 0 0] 25 (0, 0))
  lo : w.heap.size ≤ B
  hi : B + 1 + 1 < w1.heap.size
theorem box3 (w : World) (u v x y : Value) : Box3 w (((w.alloc (.cells #[u, v] 25)).alloc (.cells #[x, y] 25)).alloc (.cells #[.bool false, .slice none 0 0] 25)) w.heap.size u v x y := by
  refine ⟨(((Keep.refl _ _).alloc _).alloc _).alloc _, ?_, ?_, ?_, Nat.le_refl _, by simp⟩
  · rw [Below.heap_alloc _ _ _ (by simp; omega), Below.heap_alloc _ _ _ (by simp)]; exact heap_alloc_new w _
  · rw [Below.heap_alloc _ _ _ (by simp)]
    have := heap_alloc_new (w.alloc (.cells #[u, v] 25)) (.cells #[x, y] 25)
    rwa [World.size_alloc] at this
  · have := heap_alloc_new ((w.alloc (.cells #[u, v] 25)).alloc (.cells #[x, y] 25)) (.cells #[.bool false, .slice none 0 0] 25)
    rwa [World.size_alloc, World.size_alloc] at this
theorem Box3.cells {w w1 w' : World} {B : Nat} {u v x y : Value} (h : Box3 w w1 B u v x y) (K : Keep (fun _ => False) w1 w') : w'.cell? ⟨B, 0, none⟩ = some u ∧ w'.cell? ⟨B, 1, none⟩ = some v ∧ w'.cell? ⟨B + 1, 0, none⟩ = some x ∧ w'.cell? ⟨B + 1, 1, none⟩ = some y := by
  have g1 := K.heap h.b1 (by simp)
  have g2 := K.heap h.b2 (by simp)
  refine ⟨?_, ?_, ?_, ?_⟩
  · rw [cell_of_row w' _ _ _ _ _ g1]; rfl
  · rw [cell_of_row w' _ _ _ _ _ g1]; rfl
  · rw [cell_of_row w' _ _ _ _ _ g2]; rfl
  · rw [cell_of_row w' _ _ _ _ _ g2]; rfl
theorem Box3.cellsS {w w1 w' : World} {B : Nat} {u v x y : Value} (h : Box3 w w1 B u v x y) (K : Keep (fun _ => False) w1 w') (a b : Value) :
    ((w'.setCell ⟨B + 1 + 1, 0, none⟩ a).setCell ⟨B + 1 + 1, 1, none⟩ b).cell? ⟨B, 0, none⟩ = some u ∧ ((w'.setCell ⟨B + 1 + 1, 0, none⟩ a).setCell ⟨B + 1 + 1, 1, none⟩ b).cell? ⟨B, 1, none⟩ = some v ∧ ((w'.setCell ⟨B + 1 + 1, 0, none⟩ a).setCell ⟨B + 1 + 1, 1, none⟩ b).cell? ⟨B + 1, 0, none⟩ = some x ∧ ((w'.setCell ⟨B + 1 + 1, 0, none⟩ a).setCell ⟨B + 1 + 1, 1, none⟩ b).cell? ⟨B + 1, 1, none⟩ = some y := by
  have K2 : Keep (fun k => k = B + 1 + 1) w1 ((w'.setCell ⟨B + 1 + 1, 0, none⟩ a).setCell ⟨B + 1 + 1, 1, none⟩ b) :=
    ((K.mono (S' := fun k => k = B + 1 + 1) (fun _ _ h => h.elim)).setCell (p := ⟨B + 1 + 1, 0, none⟩) (.inl rfl) a).setCell (p := ⟨B + 1 + 1, 1, none⟩) (.inl rfl) b
  have g1 := K2.heap h.b1 (by omega)
  have g2 := K2.heap h.b2 (by omega)
  refine ⟨?_, ?_, ?_, ?_⟩
  · rw [cell_of_row _ _ _ _ _ _ g1]; rfl
  · rw [cell_of_row _ _ _ _ _ _ g1]; rfl
  · rw [cell_of_row _ _ _ _ _ _ g2]; rfl
  · rw [cell_of_row _ _ _ _ _ _ g2]; rfl
theorem Box3.res {w w1 w' w2 : World} {B : Nat} {u v x y : Value} (h : Box3 w w1 B u v x y) (K : Keep (fun _ => False) w1 w') {z : Int} {e : Ending} (hr : ResPost z w' e w2) :
    ∃ (neg : Bool) (A : Option Addr) (n c : Nat) (f : Int), e = .returned (.tuple #[numArg neg A n c, .int .i64 f]) ∧
      w2.cell? ⟨B + 1 + 1, 0, none⟩ = some (.bool false) ∧ w2.cell? ⟨B + 1 + 1, 1, none⟩ = some (.slice none 0 0) ∧ w2.frozen? ⟨B + 1 + 1, 0, none⟩ = false ∧ w2.frozen? ⟨B + 1 + 1, 1, none⟩ = false ∧
      ((w2.setCell ⟨B + 1 + 1, 0, none⟩ (.bool neg)).setCell ⟨B + 1 + 1, 1, none⟩ (.slice A n c)).cell? ⟨B + 1 + 1, 0, none⟩ = some (.bool neg) ∧
      ((w2.setCell ⟨B + 1 + 1, 0, none⟩ (.bool neg)).setCell ⟨B + 1 + 1, 1, none⟩ (.slice A n c)).cell? ⟨B + 1 + 1, 1, none⟩ = some (.slice A n c) ∧
      ResPost z w (.returned (.tuple #[numArg neg A n c, .int .i64 f])) ((w2.setCell ⟨B + 1 + 1, 0, none⟩ (.bool neg)).setCell ⟨B + 1 + 1, 1, none⟩ (.slice A n c)) :=
  res_two (h.k.trans K) (Nat.le_trans h.lo (Nat.le_add_right _ _)) (Nat.lt_of_lt_of_le h.hi K.size) (K.heap h.b3 (by simp)) hr
theorem mul_sval (neg : Bool) (l : List Nat) (neg' : Bool) (l' m : List Nat) (hm : lval m = lval l * lval l') : sval (belowB neg l != belowB neg' l') m = sval neg l * sval neg' l' := by
  have h1 := belowB_iff neg l
  have h2 := belowB_iff neg' l'
  have e1 : sval (belowB neg l) l = sval neg l := by
    unfold sval belowB
    by_cases h : 0 < lval l
    · simp [h]
    · have : lval l = 0 := by omega
      simp [this]
  have e2 : sval (belowB neg' l') l' = sval neg' l' := by
    unfold sval belowB
    by_cases h : 0 < lval l'
    · simp [h]
    · have : lval l' = 0 := by omega
      simp [this]
  rw [← e1, ← e2]
  generalize belowB neg l = p
  generalize belowB neg' l' = q
  unfold sval
  rw [hm]
  cases p <;> cases q <;> simp [Int.natCast_mul, Int.neg_mul, Int.mul_neg]

set_option maxRecDepth 100000 in
set_option maxHeartbeats 4000000 in
theorem mul_any (neg : Bool) (A : Option Addr) (n c : Nat) (l : List Nat) (neg' : Bool) (A' : Option Addr) (n' c' : Nat) (l' : List Nat) (w : World) (h : LimbsAt w A n c l) (h' : LimbsAt w A' n' c' l') (hm : n ≤ 10000) (hm' : n' ≤ 10000) :
    Calls Tryd.prog 36 #[numArg neg A n c, numArg neg' A' n' c'] w (ResPost (sval neg l * sval neg' l') w) := by
  have BX := box3 w (.bool neg) (.slice A n c) (.bool neg') (.slice A' n' c')
  have h1 := h.keep0 BX.k
  have h1' := h'.keep0 BX.k
  go_enter Tryd.func36, Tryd.ntmps36
  go_wp2_with fail
  generalize w.heap.size = Ba at BX ⊢
  generalize ((w.alloc (.cells #[.bool neg, .slice A n c] 25)).alloc (.cells #[.bool neg', .slice A' n' c'] 25)).alloc (.cells #[.bool false, .slice none 0 0] 25) = w1 at BX h1 h1' ⊢
  have HBX := Lib.hid BX
  have HB := Lib.hid (fun (w' : World) (K' : Keep (fun _ => False) w1 w') => below_any neg A n c l w' (h1.keep0 K'))
  have HB' := Lib.hid (fun (w' : World) (K' : Keep (fun _ => False) w1 w') => below_any neg' A' n' c' l' w' (h1'.keep0 K'))
  have HT := Lib.hid (fun (w' : World) (K' : Keep (fun _ => False) w1 w') => trim_any A n c l w' (h1.keep0 K'))
  have HT' := Lib.hid (fun (w' : World) (K' : Keep (fun _ => False) w1 w') => trim_any A' n' c' l' w' (h1'.keep0 K'))
  have tl := tlen_le h1.low
  have tl' := tlen_le h1'.low
  rw [h1.len] at tl
  rw [h1'.len] at tl'
  have HX := Lib.hid (fun (w' : World) (K' : Keep (fun _ => False) w1 w') => times_any A (tlen l) c _ A' (tlen l') c' _ w' (h1.keep0 K').trim (h1'.keep0 K').trim (by omega) (by omega))
  have HMV := Lib.hid (fun (m : List Nat) (hm : lval m = lval (limbs (lval l)) * lval (limbs (lval l'))) => mul_sval neg l neg' l' m (by unfold lval limbs at hm; rw [val_digs BB2, val_digs BB2] at hm; exact hm))
  obtain ⟨c0, c1, c2, c3⟩ := BX.cells (Keep.refl _ _)
  have Kd : Keep (fun _ => False) w1 w1.drew := (Keep.refl _ _).drew
  generalize hp : belowB neg l = p at HB HMV
  generalize hq : belowB neg' l' = q at HB' HMV
  clear hp hq BX h h' h1 h1' tl tl'
  go_region_held3 (fun w' => w'.cell? ⟨Ba, 0, none⟩ = some (.bool neg) ∧ w'.cell? ⟨Ba, 1, none⟩ = some (.slice A n c) ∧ w'.cell? ⟨Ba + 1, 0, none⟩ = some (.bool neg') ∧ w'.cell? ⟨Ba + 1, 1, none⟩ = some (.slice A' n' c'))
    (first | exact HBX.out.cells Kd | (refine HBX.out.cells ?_; assumption) | (refine HBX.out.cellsS ?_ _ _; assumption))
    (first
      | (go_at_call 70; first
        | ((with_reducible refine (HB.out _ (by assumption)).mono ?_); rintro e w3 ⟨rfl, k3⟩; have K3 := Keep.trans (by assumption) k3)
        | ((with_reducible refine (HB'.out _ (by assumption)).mono ?_); rintro e w4 ⟨rfl, k4⟩; have K4 := Keep.trans (by assumption) k4))
      | (go_at_call 54; first
        | ((with_reducible refine (HT.out _ (by assumption)).mono ?_); rintro e w5 ⟨rfl, rfl⟩)
        | ((with_reducible refine (HT'.out _ (by assumption)).mono ?_); rintro e w6 ⟨rfl, rfl⟩))
      | (go_at_call 72; (with_reducible refine (HX.out _ (by assumption)).mono ?_); rintro e w7 ⟨A7, n7, c7, l7, rfl, own7, low7, hv7, hn7, k7⟩; have K7 := Keep.trans (by assumption) k7)
      | (go_at_call 51; refine (made_any _ _ _ _ l7 _ (own7.toLimbs low7 (by omega))).mono ?_; intro e w8 hres; have K8 := Keep.trans (by assumption) hres.1; obtain ⟨ng, A8, n8, c8, f8, rfl, r0, r1, f0, f1, e0, e1, P⟩ := HBX.out.res (by assumption) hres))
  all_goals
    have hsv : sval (!(p == q)) l7 = sval neg l * sval neg' l' := HMV.out l7 hv7
    rw [hsv] at P
    have HP := Lib.hid P
    have HE := Lib.hid (And.intro e0 e1)
    clear P hres hsv e0 e1
    go_wp2_with fail
    refine bodyPost_ret (v := .tuple #[numArg ng A8 n8 c8, .int .i64 f8]) ?_ rfl HP.out
    obtain ⟨e0, e1⟩ := HE.out
    simp [results, Tryd.results36, go_sem, e0, e1]
end Go.Proofs.YtdfekphahdmffaaDoor
