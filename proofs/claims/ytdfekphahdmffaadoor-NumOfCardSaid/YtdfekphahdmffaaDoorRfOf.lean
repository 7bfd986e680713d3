/-
  The document's Of.
-/
import Derived.Test.YtdfekphahdmffaaDoorRfNum
import Derived.Test.YtdfekphahdmffaaDoorNuOf
import Derived.Test.YtdfekphahdmffaaDoorLawAid
namespace Go.Proofs.YtdfekphahdmffaaDoor
open Go.RowKit

theorem OwnR.val {w : World} {base n c : Nat} {A : Option Addr} {x : Int} (h : OwnR 5 .u8 w base A n c (bits2 x.natAbs)) (hm : n ≤ 10000000) : BitsAt w A n c (bits2 x.natAbs) := h.toBits (digs_low two2 _) hm
/-- Value, then Num, of two limbs. -/
theorem val_two (x : Int) (hx : x.natAbs < BB * BB) (w : World) (b : Nat) (hbw : b = w.heap.size) (u v : Int) (hu : u = ((x.natAbs % BB : Nat) : Int)) (hv : v = ((x.natAbs / BB : Nat) : Int)) (p : Bool) (hp : p = decide (x < 0)) :
    Calls Tryd.prog 24 #[numArg p (some ⟨b, 0, none⟩) 2 2] (w.alloc (.cells #[.int .u32 u, .int .u32 v] 63)) fun e w' => ∃ (A : Option Addr) (n c : Nat), e = .returned (numArg p A n c) ∧ Keep (fun _ => False) w w' ∧ BitsAt w' A n c (bits2 x.natAbs) := by
  subst hu hv hp hbw
  refine (val_any (decide (x < 0)) _ 2 2 _ _ (two_limbs w _ _ (Nat.mod_lt _ (by unfold BB; omega)) ((Nat.div_lt_iff_lt_mul (by unfold BB; omega)).2 hx)) (by omega)).mono ?_
  rintro e w' ⟨k, A, n, c, rfl, own⟩
  rw [of_sval] at own ⊢
  have hl := own.len
  have : (bits2 x.natAbs).length ≤ 64 := (digs_len_le two2 x.natAbs 64).2 (by unfold BB at hx; omega)
  exact ⟨A, n, c, rfl, ((Keep.refl _ _).alloc _).trans k, own.val (by omega)⟩
theorem two_alloc2 {w0 w2 : World} {B n c n0 c0 : Nat} {p0 : Bool} {A A0 : Option Addr} {l : List Nat} (K : Keep (fun _ => False) w0 w2) (hB : w0.heap.size ≤ B) (hb : w2.heap[B]? = some (.cells #[.bool p0, .slice A0 n0 c0] 25 (0, 0))) (h : LimbsAt w2 A n c l) (a b : Value) (o : Obj) :
    (((w2.setCell ⟨B, 0, none⟩ a).setCell ⟨B, 1, none⟩ b).alloc o).cell? ⟨B, 0, none⟩ = some a ∧ (((w2.setCell ⟨B, 0, none⟩ a).setCell ⟨B, 1, none⟩ b).alloc o).cell? ⟨B, 1, none⟩ = some b ∧
    Keep (fun _ => False) w0 (((w2.setCell ⟨B, 0, none⟩ a).setCell ⟨B, 1, none⟩ b).alloc o) ∧ LimbsAt (((w2.setCell ⟨B, 0, none⟩ a).setCell ⟨B, 1, none⟩ b).alloc o) A n c l := by
  have h1 : ((w2.setCell ⟨B, 0, none⟩ a).setCell ⟨B, 1, none⟩ b).heap[B]? = some (.cells #[a, b] 25 (0, 0)) := by
    simp [World.setCell, Array.getElem?_modify, hb]
  have h2 : (((w2.setCell ⟨B, 0, none⟩ a).setCell ⟨B, 1, none⟩ b).alloc o).heap[B]? = some (.cells #[a, b] 25 (0, 0)) := by
    rw [Below.heap_alloc _ _ _ (heap_lt h1)]; exact h1
  have k : Keep (fun x => x = B) w2 ((w2.setCell ⟨B, 0, none⟩ a).setCell ⟨B, 1, none⟩ b) := ((Keep.refl (fun x => x = B) w2).setCell (p := ⟨B, 0, none⟩) (.inl rfl) a).setCell (p := ⟨B, 1, none⟩) (.inl rfl) b
  exact ⟨by rw [cell_of_row _ _ _ _ _ _ h2]; rfl, by rw [cell_of_row _ _ _ _ _ _ h2]; rfl, (two_keep K hB a b).alloc o, (h.keep k (h.off_box (B := B) hb (by intro q x e; cases e))).keep0 ((Keep.refl _ _).alloc o)⟩
set_option maxRecDepth 100000 in
set_option maxHeartbeats 4000000 in
theorem rof_any (x : Int) (w : World) (h0 : -9223372036854775808 ≤ x) (h1 : x ≤ 9223372036854775807) :
    Calls Tryd.prog 19 #[.int .i64 x] w fun e w' => Keep (fun _ => False) w w' ∧ ∃ (A : Option Addr) (n c : Nat), e = .returned (numArg (decide (x < 0)) A n c) ∧ LimbsAt w' A n c (limbs x.natAbs) := by
  have K : Keep (fun _ => False) w (w.alloc (.cells #[.bool false, .slice none 0 0] 25)) := (Keep.refl _ _).alloc _
  have hb : (w.alloc (.cells #[.bool false, .slice none 0 0] 25)).heap[w.heap.size]? = some (.cells #[.bool false, .slice none 0 0] 25 (0, 0)) := heap_alloc_new w _
  have hsz : x.natAbs < BB * BB := by unfold BB; omega
  have HM := Lib.hid (fun W b hb => val_two x hsz W b hb)
  have HFX := Lib.hid (of_fits hsz)
  have HK := Lib.hid K
  have HB := Lib.hid hb
  clear K hb
  by_cases hx : x < 0
  · have HMM := Lib.hid (fun W b hb => HM.out W b hb (IntKind.u64.wrap (-IntKind.u64.wrap x) % 4294967296) (IntKind.u64.wrap (-IntKind.u64.wrap x) / 4294967296 % 4294967296) (by rw [IntKind.wrap_u64, IntKind.wrap_u64]; unfold BB; omega) (by rw [IntKind.wrap_u64, IntKind.wrap_u64]; unfold BB; omega) true (decide_eq_true hx).symm)
    have HD := Lib.hid (decide_eq_true hx)
    clear HM hsz
    go_enter Tryd.func19, Tryd.ntmps19
    go_wp2_with fail
    refine (HMM.out (w.alloc (.cells #[.bool false, .slice none 0 0] 25)) (w.heap.size + 1) (by simp)).mono ?_
    rintro e w2 ⟨A, n, c, rfl, k2, B2⟩
    have HNM := Lib.hid (num_any x A n c w2 B2)
    rw [HD.out] at HNM
    have HK2 := Lib.hid k2
    clear B2 k2 HMM
    try dsimp only
    go_wp2_with fail
    refine HNM.out.mono ?_
    intro e w3 hres
    obtain ⟨k3, q, A3, n3, c3, hq, rfl, L3, l3, s3⟩ := hres.yes HFX.out
    obtain rfl : q = true := by rw [hq.out, HD.out]
    have hb3 := (HK2.out.trans k3).heap HB.out (by simp)
    have r0 : w3.cell? ⟨w.heap.size, 0, none⟩ = some (.bool false) := by rw [cell_of_row w3 _ _ _ _ _ hb3]; rfl
    have r1 : w3.cell? ⟨w.heap.size, 1, none⟩ = some (.slice none 0 0) := by rw [cell_of_row w3 _ _ _ _ _ hb3]; rfl
    have f0 : w3.frozen? ⟨w.heap.size, 0, none⟩ = false := by simp [World.frozen?, hb3]
    have f1 : w3.frozen? ⟨w.heap.size, 1, none⟩ = false := by simp [World.frozen?, hb3]
    have hlt := heap_lt hb3
    have HA := Lib.hid (two_alloc2 (HK.out.trans (HK2.out.trans k3)) (Nat.le_refl _) hb3 L3 (.bool true) (.slice A3 n3 c3) (.cells #[.bool true, .slice A3 n3 c3] 25))
    clear hq s3 k3 hb3 L3 HNM hres
    try dsimp only
    go_wp2_with fail
    obtain ⟨e0, e1, K2, o2⟩ := HA.out
    refine bodyPost_ret (v := numArg true A3 n3 c3) ?_ rfl ⟨K2, A3, n3, c3, by rw [HD.out], o2⟩
    simp [results, Tryd.results19, go_sem, e0, e1]
  · have HMM := Lib.hid (fun W b hb => HM.out W b hb (x % 4294967296) (x / 4294967296) (by unfold BB; omega) (by unfold BB; omega) false (decide_eq_false hx).symm)
    have HD := Lib.hid (decide_eq_false hx)
    clear HM hsz
    go_enter Tryd.func19, Tryd.ntmps19
    go_wp2_with fail
    refine (HMM.out (w.alloc (.cells #[.bool false, .slice none 0 0] 25)) (w.heap.size + 1) (by simp)).mono ?_
    rintro e w2 ⟨A, n, c, rfl, k2, B2⟩
    have HNM := Lib.hid (num_any x A n c w2 B2)
    rw [HD.out] at HNM
    have HK2 := Lib.hid k2
    clear B2 k2 HMM
    try dsimp only
    go_wp2_with fail
    refine HNM.out.mono ?_
    intro e w3 hres
    obtain ⟨k3, q, A3, n3, c3, hq, rfl, L3, l3, s3⟩ := hres.yes HFX.out
    obtain rfl : q = false := by rw [hq.out, HD.out]
    have hb3 := (HK2.out.trans k3).heap HB.out (by simp)
    have r0 : w3.cell? ⟨w.heap.size, 0, none⟩ = some (.bool false) := by rw [cell_of_row w3 _ _ _ _ _ hb3]; rfl
    have r1 : w3.cell? ⟨w.heap.size, 1, none⟩ = some (.slice none 0 0) := by rw [cell_of_row w3 _ _ _ _ _ hb3]; rfl
    have f0 : w3.frozen? ⟨w.heap.size, 0, none⟩ = false := by simp [World.frozen?, hb3]
    have f1 : w3.frozen? ⟨w.heap.size, 1, none⟩ = false := by simp [World.frozen?, hb3]
    have hlt := heap_lt hb3
    have HA := Lib.hid (two_alloc2 (HK.out.trans (HK2.out.trans k3)) (Nat.le_refl _) hb3 L3 (.bool false) (.slice A3 n3 c3) (.cells #[.bool false, .slice A3 n3 c3] 25))
    clear hq s3 k3 hb3 L3 HNM hres
    try dsimp only
    go_wp2_with fail
    obtain ⟨e0, e1, K2, o2⟩ := HA.out
    refine bodyPost_ret (v := numArg false A3 n3 c3) ?_ rfl ⟨K2, A3, n3, c3, by rw [HD.out], o2⟩
    simp [results, Tryd.results19, go_sem, e0, e1]
end Go.Proofs.YtdfekphahdmffaaDoor
