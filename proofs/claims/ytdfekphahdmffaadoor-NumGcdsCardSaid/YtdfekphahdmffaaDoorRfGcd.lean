/-
  The document's Gcd.
-/
import Derived.Test.YtdfekphahdmffaaDoorRfTurn
import Derived.Test.YtdfekphahdmffaaDoorRfParts
namespace Go.Proofs.YtdfekphahdmffaaDoor
open Go.RowKit

/-- A value that lies in a list. -/
structure ValV where
  neg : Bool
  A : Option Addr
  n : Nat
  c : Nat
  m : Nat
/-- A list of values lies there. -/
def ValsAt (w : World) (A : Option Addr) (vs : Nat → ValV) (len : Nat) : Prop :=
  ∀ j, j < len → ∃ b off, A = some ⟨b, off, none⟩ ∧ b < w.heap.size ∧ w.cell? ⟨b, off + j * 2, none⟩ = some (.bool (vs j).neg) ∧ w.cell? ⟨b, off + j * 2 + 1, none⟩ = some (.slice (vs j).A (vs j).n (vs j).c) ∧ BitsAt w (vs j).A (vs j).n (vs j).c (bits2 (vs j).m)
theorem ValsAt.at_ {w wr : World} {A : Option Addr} {len : Nat} {vs : Nat → ValV} (h : ValsAt w A vs len) (k : Keep (fun _ => False) w wr) {j : Nat} (hj : j < len) : ∃ b off, A = some ⟨b, off, none⟩ ∧ b < wr.heap.size ∧ wr.cell? ⟨b, off + j * 2, none⟩ = some (.bool (vs j).neg) ∧ wr.cell? ⟨b, off + j * 2 + 1, none⟩ = some (.slice (vs j).A (vs j).n (vs j).c) ∧ BitsAt wr (vs j).A (vs j).n (vs j).c (bits2 (vs j).m) := by
  obtain ⟨b, off, e, hb, h0, h1, hl⟩ := h j hj
  have f := fun i => k.cell (p := ⟨b, i, none⟩) hb (by simp)
  exact ⟨b, off, e, Nat.lt_of_lt_of_le hb k.size, (f _).trans h0, (f _).trans h1, hl.keep0 k⟩
/-- The greatest number that divides the first ones. -/
def vgcd (vs : Nat → ValV) : Nat → Nat
  | 0 => 0
  | k + 1 => Nat.gcd (vgcd vs k) (vs k).m
/-- The value of the bits that lie there. -/
def readB (w : World) (v : Value) : Nat :=
  match v with
  | .slice (some ad) n _ => bval ((List.range n).map fun j => match w.cell? (ad.add j) with | some (.int _ x) => x.toNat | _ => 0)
  | _ => 0
theorem BitsAt.read {w : World} {A : Option Addr} {n c : Nat} {l : List Nat} (h : BitsAt w A n c l) : readB w (.slice A n c) = bval l := by
  rcases A with _ | ad
  · obtain ⟨rfl, rfl⟩ := h.nil_of
    rfl
  · show bval _ = bval l
    congr 1
    refine List.ext_getElem (by simp [h.len]) fun j h1 h2 => ?_
    obtain ⟨b, off, e, hb, hc⟩ := h.row.2 j (by simpa using h1)
    injection e with e
    subst e
    simp only [List.getElem_map, List.getElem_range, Addr.add_mid, hc]
    rw [List.getD_eq_getElem?_getD, List.getElem?_eq_getElem h2]
    simp
theorem bits_zero {w : World} {A : Option Addr} {n c m : Nat} (h : BitsAt w A n c (bits2 m)) : n = 0 ↔ m = 0 := by
  constructor
  · intro e
    exact digs_nil two2 (List.eq_nil_of_length_eq_zero (by rw [h.len, e]))
  · intro e
    have := h.len
    rw [e] at this
    unfold bits2 at this
    rw [digs_zero] at this
    exact this.symm

set_option maxRecDepth 100000 in
set_option maxHeartbeats 4000000 in
theorem rgcd_any (A : Option Addr) (len c : Nat) (vs : Nat → ValV) (w : World) (h : ValsAt w A vs len) (hl : len ≤ 1000000) (hm : ∀ j, j < len → (vs j).n ≤ 2000) :
    Calls Tryd.prog 35 #[.slice A len c] w (ZPost false ((vgcd vs len : Nat) : Int) 2000 w) := by
  have K : Keep (fun _ => False) w (w.alloc (.cells #[.bool false, .slice none 0 0] 34)) := (Keep.refl _ _).alloc _
  have hb : (w.alloc (.cells #[.bool false, .slice none 0 0] 34)).heap[w.heap.size]? = some (.cells #[.bool false, .slice none 0 0] 34 (0, 0)) := heap_alloc_new w _
  have HN := Lib.hid h
  have HM := Lib.hid hm
  clear h hm
  go_enter Tryd.func35, Tryd.ntmps35
  go_wp2_with fail
  have HB := Lib.hid hb
  have HK := Lib.hid K
  clear hb K
  generalize hBx : w.heap.size = Bx at HB ⊢
  have HBX := Lib.hid (Nat.le_of_eq hBx)
  clear hBx
  generalize w.alloc (.cells #[.bool false, .slice none 0 0] 34) = w1 at HB HK ⊢
  go_loopw [3, 4] (fun gv iv wr => ∃ (k : Nat) (Ag : Option Addr) (ng cg mg : Nat), k ≤ len ∧ iv = .int .i64 (k : Int) ∧ gv = .slice Ag ng cg ∧ BitsAt wr Ag ng cg (bits2 mg) ∧ ng ≤ 2000 ∧ mg = vgcd vs k ∧ Keep (fun _ => False) w1 wr) (fun _ iv _ => (len - (intOf iv).toNat))
  case atStart =>
    refine ⟨0, none, 0, 0, 0, Nat.zero_le _, rfl, rfl, ?_, by omega, rfl, Keep.refl _ _⟩
    unfold bits2
    rw [digs_zero]
    exact ⟨RowAt.nil _ _ _, Low.nil 2, Nat.le_refl _, by omega⟩
  case round =>
    obtain ⟨k, Ag, ng, cg, mg, hk, rfl, rfl, G, hng, vg, KW⟩ := hrel
    by_cases hkn : k < len
    · have i0 : (0 : Int) ≤ (k : Int) := by omega
      have i1 : (k : Int) < (len : Int) := by omega
      obtain ⟨b, off, rfl, hb, c0, c1, hx⟩ := HN.out.at_ (HK.out.trans KW) hkn
      have HG := Lib.hid G
      have HVG := Lib.hid vg
      have HX := Lib.hid hx
      have hmk := HM.out k hkn
      obtain ⟨vk, hvk⟩ : ∃ v, v = vs k := ⟨_, rfl⟩
      rw [← hvk] at c0 c1 HX hmk
      have HVK := Lib.hid hvk
      clear G vg hx hvk
      go_wp2_with fail
      clear c0 c1 hb
      go_loopw [3, 5] (fun gv xv wi => ∃ (A1 : Option Addr) (n1 c1 m1 : Nat) (A2 : Option Addr) (n2 c2 m2 : Nat), gv = .slice A1 n1 c1 ∧ xv = .slice A2 n2 c2 ∧ BitsAt wi A1 n1 c1 (bits2 m1) ∧ n1 ≤ 2000 ∧ BitsAt wi A2 n2 c2 (bits2 m2) ∧ n2 ≤ 2000 ∧ Nat.gcd m1 m2 = vgcd vs (k + 1) ∧ Keep (fun _ => False) wr wi) (fun _ xv wi => readB wi xv)
      case atStart => exact ⟨_, _, _, _, _, _, _, _, rfl, rfl, HG.out, hng, HX.out, hmk, by rw [HVG.out, HVK.out]; rfl, Keep.refl _ _⟩
      case round =>
        clear HG HX HVG hng hmk
        obtain ⟨A1, n1, c1, m1, A2, n2, c2, m2, rfl, rfl, G1, h1, G2, h2, E, KI⟩ := hrel
        have HG1 := Lib.hid G1
        have HG2 := Lib.hid G2
        have HE := Lib.hid E
        have hz := bits_zero G2
        clear G1 G2 E
        by_cases h0 : 0 < n2
        · have h0i : (0 : Int) < (n2 : Int) := by omega
          have hD : 0 < m2 := by omega
          have HD := Lib.hid hD
          have HP := Lib.hid (parts_any m1 m2 A1 n1 c1 A2 n2 c2 _ HG1.out HG2.out hD (by omega) (by omega))
          clear hz hD h0
          go_wp2_with fail
          refine HP.out.mono ?_
          rintro e w3 ⟨Q, nq, cq, R, nr, cr, rfl, _, orr, k3⟩
          have hrd := HG2.out.read
          have hnr : nr ≤ 2000 := by
            rw [← orr.len]
            refine Nat.le_trans (blen_mono (Nat.le_of_lt (Nat.mod_lt _ HD.out))) ?_
            rw [HG2.out.len]
            exact h2
          have GR := orr.toBits (digs_low two2 _) (by omega)
          have hrr := GR.read
          have hlt : m1 % m2 < m2 := Nat.mod_lt _ HD.out
          have HGR := Lib.hid GR
          have HG3 := Lib.hid (HG2.out.keep0 k3)
          have KI3 := KI.trans k3
          have hg : Nat.gcd m2 (m1 % m2) = vgcd vs (k + 1) := by
            rw [← HE.out, Nat.gcd_comm m1 m2, Nat.gcd_rec m2 m1, Nat.gcd_comm]
          have HH := Lib.hid (And.intro hg (And.intro hlt (And.intro hrd hrr)))
          clear orr k3 hrd GR hrr hlt hg HP HG1 HG2 HE HD KI
          try dsimp only
          go_wp2_with fail
          go_roundw
          case rel => exact ⟨_, _, _, _, _, _, _, _, rfl, rfl, HG3.out, h2, HGR.out, hnr, HH.out.1, KI3⟩
          case measure =>
            obtain ⟨_, hlt, hrd, hrr⟩ := HH.out
            show readB _ (.slice R nr cr) < readB _ (.slice A2 n2 c2)
            rw [hrr, hrd, show bval (bits2 (m1 % m2)) = m1 % m2 from val_digs two2 _, show bval (bits2 m2) = m2 from val_digs two2 _]
            exact hlt
        · have h0i : decide ((0 : Int) < (n2 : Int)) = false := decide_eq_false (by omega)
          have h0n : decide (0 < n2) = false := decide_eq_false h0
          have hg : m1 = vgcd vs (k + 1) := by rw [← HE.out, hz.1 (by omega), Nat.gcd_zero_right]
          have HH := Lib.hid hg
          have KI3 := KW.trans KI
          clear hz hg
          go_wp2_with fail
          go_roundw
          case rel => exact ⟨k + 1, _, _, _, _, by omega, by go_num, rfl, HG1.out, h1, HH.out, KI3⟩
          case measure => simp [intOf]; omega
    · have hd : decide ((k : Int) < (len : Int)) = false := decide_eq_false (by omega)
      have ek : k = len := by omega
      have HE := Lib.hid (show mg = vgcd vs len from by rw [← ek]; exact vg)
      have HVA := Lib.hid (value_b (z := false) (neg := false) G (by symm; rw [decide_eq_false_iff_not]; unfold sgn; simp))
      have HKW := Lib.hid KW
      have HGL := Lib.hid G.len
      clear vg G ek KW
      go_wp2_with fail
      refine HVA.out.mono ?_
      rintro e w9 ⟨n9, rfl, b9, k9⟩
      have hb9 := (HKW.out.trans k9).heap HB.out (by simp)
      have r0 : w9.cell? ⟨Bx, 0, none⟩ = some (.bool false) := by rw [cell_of_row w9 _ _ _ _ _ hb9]; rfl
      have r1 : w9.cell? ⟨Bx, 1, none⟩ = some (.slice none 0 0) := by rw [cell_of_row w9 _ _ _ _ _ hb9]; rfl
      have f0 : w9.frozen? ⟨Bx, 0, none⟩ = false := by simp [World.frozen?, hb9]
      have f1 : w9.frozen? ⟨Bx, 1, none⟩ = false := by simp [World.frozen?, hb9]
      have HEE := Lib.hid (two_cells hb9 (.bool false) (.slice Ag n9 cg))
      have HKK := Lib.hid (two_keep (HK.out.trans (HKW.out.trans k9)) (show w.heap.size ≤ Bx from HBX.out) (.bool false) (.slice Ag n9 cg))
      have KS : Keep (fun b => b = Bx) w9 ((w9.setCell ⟨Bx, 0, none⟩ (.bool false)).setCell ⟨Bx, 1, none⟩ (.slice Ag n9 cg)) := ((Keep.refl (fun b => b = Bx) w9).setCell (p := ⟨Bx, 0, none⟩) (.inl rfl) (.bool false)).setCell (p := ⟨Bx, 1, none⟩) (.inl rfl) (.slice Ag n9 cg)
      have HB9 := Lib.hid (show BitsAt ((w9.setCell ⟨Bx, 0, none⟩ (.bool false)).setCell ⟨Bx, 1, none⟩ (.slice Ag n9 cg)) Ag n9 cg (bits2 (((vgcd vs len : Nat) : Int)).natAbs) from by
        rw [Int.natAbs_natCast, ← HE.out]
        exact ⟨b9.row.keep KS (row_off b9.row hb9 (by intro q x e; cases e)), b9.low, b9.cap, b9.max⟩)
      have hn9 : n9 ≤ 2000 := by
        rw [← b9.len, HGL.out]
        exact hng
      clear b9 k9 hb9 KS HVA
      try dsimp only
      go_wp2_with fail
      obtain ⟨e0, e1⟩ := HEE.out
      exact bodyPost_ret (v := numArg false Ag n9 cg) (by simp [results, Tryd.results35, go_sem, e0, e1]) rfl ⟨Ag, n9, cg, rfl, HB9.out, hn9, HKK.out⟩
end Go.Proofs.YtdfekphahdmffaaDoor
