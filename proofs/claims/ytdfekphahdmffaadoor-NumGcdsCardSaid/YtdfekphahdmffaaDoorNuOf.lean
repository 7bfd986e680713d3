/-
  num: Of, Fix.
-/
import Derived.Test.YtdfekphahdmffaaDoorNuQuo
namespace Go.Proofs.YtdfekphahdmffaaDoor
open Go.RowKit

/-- A number in new memory. -/
def NumPost (x : Int) (w : World) (e : Ending) (w' : World) : Prop :=
  Keep (fun _ => False) w w' ∧ ∃ (A : Option Addr) (n c : Nat), e = .returned (numArg (decide (x < 0)) A n c) ∧ OwnR 63 .u32 w' w.heap.size A n c (limbs x.natAbs)
theorem two_limbs (w : World) (x y : Nat) (hx : x < BB) (hy : y < BB) : LimbsAt (w.alloc (.cells #[.int .u32 (x : Int), .int .u32 (y : Int)] 63)) (some ⟨w.heap.size, 0, none⟩) 2 2 [x, y] := by
  refine ⟨⟨rfl, fun j hj => ⟨w.heap.size, 0, rfl, by simp, ?_⟩⟩, ?_, Nat.le_refl _, by omega⟩
  · rw [Nat.zero_add]
    rw [cell_of_row _ _ _ _ _ _ (heap_alloc_new w _)]
    match j, hj with
    | 0, _ => rfl
    | 1, _ => rfl
  · intro z hz
    simp at hz
    rcases hz with rfl | rfl <;> assumption
theorem two_val (m : Nat) : lval [m % BB, m / BB] = m := by
  show m % BB + BB * (m / BB + BB * 0) = m
  rw [Nat.mul_zero, Nat.add_zero]
  exact Nat.mod_add_div m BB
theorem of_sval (x : Int) : sval (decide (x < 0)) [x.natAbs % BB, x.natAbs / BB] = x := by
  unfold sval
  rw [two_val]
  by_cases h : x < 0
  · rw [decide_eq_true h, if_pos rfl]; omega
  · rw [decide_eq_false h]; simp; omega
theorem of_fits {x : Int} (h : x.natAbs < BB * BB) : Fits x := by
  unfold Fits
  have : (limbs x.natAbs).length ≤ 2 := by
    rw [digs_len_le BB2, Nat.pow_succ, Nat.pow_one]
    exact h
  omega

theorem two_alloc {w0 w2 : World} {B base n c : Nat} {A : Option Addr} {l : List Nat} {p q : Value} (K : Keep (fun _ => False) w0 w2) (hB : w0.heap.size ≤ B) (hb : w2.heap[B]? = some (.cells #[p, q] 25 (0, 0))) (own : OwnR 63 .u32 w2 base A n c l) (hBb : B < base) (hbase : w0.heap.size ≤ base) (a b : Value) (o : Obj) :
    (((w2.setCell ⟨B, 0, none⟩ a).setCell ⟨B, 1, none⟩ b).alloc o).cell? ⟨B, 0, none⟩ = some a ∧ (((w2.setCell ⟨B, 0, none⟩ a).setCell ⟨B, 1, none⟩ b).alloc o).cell? ⟨B, 1, none⟩ = some b ∧
    Keep (fun _ => False) w0 (((w2.setCell ⟨B, 0, none⟩ a).setCell ⟨B, 1, none⟩ b).alloc o) ∧ OwnR 63 .u32 (((w2.setCell ⟨B, 0, none⟩ a).setCell ⟨B, 1, none⟩ b).alloc o) w0.heap.size A n c l := by
  have h : ((w2.setCell ⟨B, 0, none⟩ a).setCell ⟨B, 1, none⟩ b).heap[B]? = some (.cells #[a, b] 25 (0, 0)) := by
    simp [World.setCell, Array.getElem?_modify, hb]
  have h2 : (((w2.setCell ⟨B, 0, none⟩ a).setCell ⟨B, 1, none⟩ b).alloc o).heap[B]? = some (.cells #[a, b] 25 (0, 0)) := by
    rw [Below.heap_alloc _ _ _ (heap_lt h)]; exact h
  refine ⟨by rw [cell_of_row _ _ _ _ _ _ h2]; rfl, by rw [cell_of_row _ _ _ _ _ _ h2]; rfl, (two_keep K hB a b).alloc o, ?_⟩
  exact ((two_own own hBb a b).keep0 ((Keep.refl _ _).alloc o)).mono hbase
theorem made_of (x : Int) (h : x.natAbs < BB * BB) (w : World) (b : Nat) (hbw : b = w.heap.size) (u v : Int) (hu : u = ((x.natAbs % BB : Nat) : Int)) (hv : v = ((x.natAbs / BB : Nat) : Int)) (p : Bool) (hp : p = decide (x < 0)) :
    Calls Tryd.prog 51 #[.bool p, .slice (some ⟨b, 0, none⟩) 2 2] (w.alloc (.cells #[.int .u32 u, .int .u32 v] 63)) fun e w' => ∃ (A : Option Addr) (n c : Nat), e = .returned (.tuple #[numArg (decide (x < 0)) A n c, .int .i64 0]) ∧ OwnR 63 .u32 w' w.heap.size A n c (limbs x.natAbs) ∧ Keep (fun _ => False) w w' := by
  subst hu hv hp hbw
  refine (made_any (decide (x < 0)) _ 2 2 _ _ (two_limbs w _ _ (Nat.mod_lt _ (by unfold BB; omega)) ((Nat.div_lt_iff_lt_mul (by unfold BB; omega)).2 h))).mono ?_
  rintro e w' ⟨k, h1 | ⟨A, n, c, _, rfl, own⟩⟩
  · rw [of_sval] at h1
    exact absurd (of_fits h) h1.1
  · rw [of_sval] at own ⊢
    exact ⟨A, n, c, rfl, own.mono (by simp), ((Keep.refl _ _).alloc _).trans k⟩
set_option maxRecDepth 100000 in
set_option maxHeartbeats 2000000 in
theorem of_any (x : Int) (w : World) (h0 : -9223372036854775808 ≤ x) (h1 : x ≤ 9223372036854775807) :
    Calls Tryd.prog 18 #[.int .i64 x] w (NumPost x w) := by
  have K : Keep (fun _ => False) w (w.alloc (.cells #[.bool false, .slice none 0 0] 25)) := (Keep.refl _ _).alloc _
  have hb : (w.alloc (.cells #[.bool false, .slice none 0 0] 25)).heap[w.heap.size]? = some (.cells #[.bool false, .slice none 0 0] 25 (0, 0)) := heap_alloc_new w _
  have hsz : x.natAbs < BB * BB := by unfold BB; omega
  have HM := Lib.hid (fun W b hb => made_of x hsz W b hb)
  by_cases hx : x < 0
  · have HMM := Lib.hid (fun W b hb => HM.out W b hb (IntKind.u64.wrap (-IntKind.u64.wrap x) % 4294967296) (IntKind.u64.wrap (-IntKind.u64.wrap x) / 4294967296 % 4294967296) (by rw [IntKind.wrap_u64, IntKind.wrap_u64]; unfold BB; omega) (by rw [IntKind.wrap_u64, IntKind.wrap_u64]; unfold BB; omega) true (decide_eq_true hx).symm)
    clear HM hsz
    go_enter Tryd.func18, Tryd.ntmps18
    go_wp2_with fail
    refine (HMM.out (w.alloc (.cells #[.bool false, .slice none 0 0] 25)) (w.heap.size + 1) (by simp)).mono ?_
    rintro e w2 ⟨A, n, c, rfl, own, k2⟩
    have hb2 := k2.heap hb (by simp)
    have r0 : w2.cell? ⟨w.heap.size, 0, none⟩ = some (.bool false) := by rw [cell_of_row w2 _ _ _ _ _ hb2]; rfl
    have r1 : w2.cell? ⟨w.heap.size, 1, none⟩ = some (.slice none 0 0) := by rw [cell_of_row w2 _ _ _ _ _ hb2]; rfl
    have f0 : w2.frozen? ⟨w.heap.size, 0, none⟩ = false := by simp [World.frozen?, hb2]
    have f1 : w2.frozen? ⟨w.heap.size, 1, none⟩ = false := by simp [World.frozen?, hb2]
    have hlt := heap_lt hb2
    have HD := Lib.hid (decide_eq_true hx)
    have HA := Lib.hid (two_alloc (K.trans k2) (Nat.le_refl _) hb2 own (by simp) (by simp) (.bool true) (.slice A n c) (.cells #[.bool true, .slice A n c] 25))
    rw [HD.out]
    clear own k2 K hb2 hb HMM
    unfold numArg
    try dsimp only
    go_wp2_with fail
    obtain ⟨e0, e1, K2, o2⟩ := HA.out
    refine bodyPost_ret (v := numArg true A n c) ?_ rfl ⟨K2, A, n, c, by rw [HD.out], o2⟩
    simp [results, Tryd.results18, go_sem, e0, e1]
  · have HMM := Lib.hid (fun W b hb => HM.out W b hb (x % 4294967296) (x / 4294967296) (by unfold BB; omega) (by unfold BB; omega) false (decide_eq_false hx).symm)
    clear HM hsz
    go_enter Tryd.func18, Tryd.ntmps18
    go_wp2_with fail
    refine (HMM.out (w.alloc (.cells #[.bool false, .slice none 0 0] 25)) (w.heap.size + 1) (by simp)).mono ?_
    rintro e w2 ⟨A, n, c, rfl, own, k2⟩
    have hb2 := k2.heap hb (by simp)
    have r0 : w2.cell? ⟨w.heap.size, 0, none⟩ = some (.bool false) := by rw [cell_of_row w2 _ _ _ _ _ hb2]; rfl
    have r1 : w2.cell? ⟨w.heap.size, 1, none⟩ = some (.slice none 0 0) := by rw [cell_of_row w2 _ _ _ _ _ hb2]; rfl
    have f0 : w2.frozen? ⟨w.heap.size, 0, none⟩ = false := by simp [World.frozen?, hb2]
    have f1 : w2.frozen? ⟨w.heap.size, 1, none⟩ = false := by simp [World.frozen?, hb2]
    have hlt := heap_lt hb2
    have HD := Lib.hid (decide_eq_false (Int.not_lt.2 hx))
    have HA := Lib.hid (two_alloc (K.trans k2) (Nat.le_refl _) hb2 own (by simp) (by simp) (.bool false) (.slice A n c) (.cells #[.bool false, .slice A n c] 25))
    rw [HD.out]
    clear own k2 K hb2 hb HMM
    unfold numArg
    try dsimp only
    go_wp2_with fail
    obtain ⟨e0, e1, K2, o2⟩ := HA.out
    refine bodyPost_ret (v := numArg false A n c) ?_ rfl ⟨K2, A, n, c, by rw [HD.out], o2⟩
    simp [results, Tryd.results18, go_sem, e0, e1]
end Go.Proofs.YtdfekphahdmffaaDoor
