/-
  num: Gcd.
-/
import Derived.Test.YtdfekphahdmffaaDoorNuParted
namespace Go.Proofs.YtdfekphahdmffaaDoor
open Go.RowKit

/-- A number that lies in a list. -/
structure NumV where
  neg : Bool
  A : Option Addr
  n : Nat
  c : Nat
  l : List Nat
/-- A list of numbers lies there. -/
def NumsAt (w : World) (A : Option Addr) (ns : Nat → NumV) (len : Nat) : Prop :=
  ∀ j, j < len → ∃ b off, A = some ⟨b, off, none⟩ ∧ b < w.heap.size ∧ w.cell? ⟨b, off + j * 2, none⟩ = some (.bool (ns j).neg) ∧ w.cell? ⟨b, off + j * 2 + 1, none⟩ = some (.slice (ns j).A (ns j).n (ns j).c) ∧ LimbsAt w (ns j).A (ns j).n (ns j).c (ns j).l
theorem NumsAt.at_ {w wr : World} {A : Option Addr} {len : Nat} {ns : Nat → NumV} (h : NumsAt w A ns len) (k : Keep (fun _ => False) w wr) {j : Nat} (hj : j < len) : ∃ b off, A = some ⟨b, off, none⟩ ∧ b < wr.heap.size ∧ wr.cell? ⟨b, off + j * 2, none⟩ = some (.bool (ns j).neg) ∧ wr.cell? ⟨b, off + j * 2 + 1, none⟩ = some (.slice (ns j).A (ns j).n (ns j).c) ∧ LimbsAt wr (ns j).A (ns j).n (ns j).c (ns j).l := by
  obtain ⟨b, off, e, hb, h0, h1, hl⟩ := h j hj
  have f := fun i => k.cell (p := ⟨b, i, none⟩) hb (by simp)
  exact ⟨b, off, e, Nat.lt_of_lt_of_le hb k.size, (f _).trans h0, (f _).trans h1, hl.keep0 k⟩
/-- The greatest number that divides the first ones. -/
def gcdTo (ns : Nat → NumV) : Nat → Nat
  | 0 => 0
  | k + 1 => Nat.gcd (gcdTo ns k) (lval (ns k).l)
/-- The value of the limbs that lie there. -/
def readVal (w : World) (v : Value) : Nat :=
  match v with
  | .slice (some ad) n _ => lval ((List.range n).map fun j => match w.cell? (ad.add j) with | some (.int _ x) => x.toNat | _ => 0)
  | _ => 0
theorem LimbsAt.read {w : World} {A : Option Addr} {n c : Nat} {l : List Nat} (h : LimbsAt w A n c l) : readVal w (.slice A n c) = lval l := by
  rcases A with _ | ad
  · have hn : n = 0 := by
      rcases Nat.eq_zero_or_pos n with e | e
      · exact e
      · obtain ⟨b, off, e, _⟩ := h.lt e
        cases e
    subst hn
    obtain rfl : l = [] := List.eq_nil_of_length_eq_zero h.len
    rfl
  · show lval _ = lval l
    congr 1
    refine List.ext_getElem (by simp [h.len]) fun j h1 h2 => ?_
    obtain ⟨b, off, e, hb, hc⟩ := h.row.2 j (by simpa using h1)
    injection e with e
    subst e
    simp only [List.getElem_map, List.getElem_range, Addr.add_mid, hc]
    rw [List.getD_eq_getElem?_getD, List.getElem?_eq_getElem h2]
    simp
theorem tlen_mono {l m : List Nat} (h : lval l ≤ lval m) : tlen l ≤ tlen m := by
  unfold tlen
  rw [digs_len_le BB2]
  exact Nat.lt_of_le_of_lt h ((digs_len_le BB2 (lval m) (digs BB (lval m)).length).1 (Nat.le_refl _))
/-- A magnitude of the call's. -/
structure GcSt (w : World) (A : Option Addr) (n c : Nat) (l : List Nat) : Prop where
  a : LimbsAt w A n c l
  t : tlen l ≤ 8000
  n : n ≤ 8001
theorem GcSt.keep {w w' : World} {A : Option Addr} {n c : Nat} {l : List Nat} (h : GcSt w A n c l) (k : Keep (fun _ => False) w w') : GcSt w' A n c l := ⟨h.a.keep0 k, h.t, h.n⟩
theorem GcSt.of {w : World} {A : Option Addr} {n c : Nat} {l : List Nat} (h : LimbsAt w A n c l) (hn : n ≤ 8000) : GcSt w A n c l := ⟨h, by have := tlen_le h.low; rw [h.len] at this; omega, by omega⟩

set_option maxRecDepth 100000 in
set_option maxHeartbeats 4000000 in
theorem gcd_any (A : Option Addr) (len c : Nat) (ns : Nat → NumV) (w : World) (h : NumsAt w A ns len) (hl : len ≤ 1000000) (hm : ∀ j, j < len → (ns j).n ≤ 8000) :
    Calls Tryd.prog 34 #[.slice A len c] w (ResPost (gcdTo ns len : Int) w) := by
  have K : Keep (fun _ => False) w (w.alloc (.cells #[.bool false, .slice none 0 0] 25)) := (Keep.refl _ _).alloc _
  have hb : (w.alloc (.cells #[.bool false, .slice none 0 0] 25)).heap[w.heap.size]? = some (.cells #[.bool false, .slice none 0 0] 25 (0, 0)) := heap_alloc_new w _
  have HN := Lib.hid h
  have HM := Lib.hid hm
  clear h hm
  go_enter Tryd.func34, Tryd.ntmps34
  go_wp2_with fail
  have HB := Lib.hid hb
  have HK := Lib.hid K
  have HBl := Lib.hid (heap_lt hb)
  clear hb K
  generalize hBx : w.heap.size = Bx at HB HBl ⊢
  have HBX := Lib.hid (Nat.le_of_eq hBx)
  clear hBx
  generalize w.alloc (.cells #[.bool false, .slice none 0 0] 25) = w1 at HB HK HBl ⊢
  go_loopw [4, 12] (fun gv iv wr => ∃ (k : Nat) (Ag : Option Addr) (ng cg : Nat) (lg : List Nat), k ≤ len ∧ iv = .int .i64 (k : Int) ∧ gv = .slice Ag ng cg ∧ GcSt wr Ag ng cg lg ∧ lval lg = gcdTo ns k ∧ Keep (fun _ => False) w1 wr) (fun _ iv _ => (len - (intOf iv).toNat))
  case atStart =>
    refine ⟨0, none, 0, 0, [], Nat.zero_le _, rfl, rfl, ⟨⟨RowAt.nil _ _ _, ?_, Nat.le_refl _, by omega⟩, ?_, by omega⟩, rfl, Keep.refl _ _⟩
    · intro x hx; simp at hx
    · show (limbs 0).length ≤ _; unfold limbs; rw [digs_zero]; simp
  case round =>
    obtain ⟨k, Ag, ng, cg, lg, hk, rfl, rfl, G, vg, KW⟩ := hrel
    by_cases hkn : k < len
    · have i0 : (0 : Int) ≤ (k : Int) := by omega
      have i1 : (k : Int) < (len : Int) := by omega
      obtain ⟨b, off, rfl, hb, c0, c1, hx⟩ := HN.out.at_ (HK.out.trans KW) hkn
      have HG := Lib.hid G
      have HVG := Lib.hid vg
      have HX := Lib.hid hx
      have HMK := Lib.hid (HM.out k hkn)
      clear G vg hx
      go_wp2_with fail
      have K2 : Keep (fun _ => False) wr (wr.alloc (.cells #[.bool (ns k).neg, .slice (ns k).A (ns k).n (ns k).c] 25)) := (Keep.refl _ _).alloc _
      have KW2 := KW.trans K2
      have HG2 := Lib.hid (HG.out.keep K2)
      have HX2 := Lib.hid (GcSt.of (HX.out.keep0 K2) HMK.out)
      clear HG HX HMK c0 c1 hb K2
      generalize wr.alloc (.cells #[.bool (ns k).neg, .slice (ns k).A (ns k).n (ns k).c] 25) = w2 at KW2 HG2 HX2 ⊢
      go_loopw [4, 7] (fun gv xv wi => ∃ (A1 : Option Addr) (n1 c1 : Nat) (l1 : List Nat) (A2 : Option Addr) (n2 c2 : Nat) (l2 : List Nat), gv = .slice A1 n1 c1 ∧ xv = .slice A2 n2 c2 ∧ GcSt wi A1 n1 c1 l1 ∧ GcSt wi A2 n2 c2 l2 ∧ Nat.gcd (lval l1) (lval l2) = gcdTo ns (k + 1) ∧ Keep (fun _ => False) w2 wi) (fun _ xv wi => readVal wi xv)
      case atStart => exact ⟨_, _, _, _, _, _, _, _, rfl, rfl, HG2.out, HX2.out, by rw [HVG.out]; rfl, Keep.refl _ _⟩
      case round =>
        clear HG2 HX2 HVG
        obtain ⟨A1, n1, c1, l1, A2, n2, c2, l2, rfl, rfl, G1, G2, E, KI⟩ := hrel
        have HG1 := Lib.hid G1
        have HG2 := Lib.hid G2
        have HE := Lib.hid E
        have hL2 := G2.a
        have hn2 := G2.n
        have htp := tlen_pos l2
        clear G1 G2 E
        by_cases h0 : 0 < tlen l2
        · have h0i : (0 : Int) < (tlen l2 : Int) := by omega
          have hD := htp.1 h0
          have HD := Lib.hid hD
          have HP := Lib.hid (parted_any A1 n1 c1 l1 A2 n2 c2 l2 _ HG1.out.a hL2 (by have := HG1.out.n; omega) (by have := HG2.out.n; omega) hD)
          clear htp hD h0
          go_wp2_with fail
          refine (trim_any A2 n2 c2 l2 _ hL2).mono ?_
          rintro e wx ⟨rfl, rfl⟩
          try dsimp only
          go_wp2_with fail
          refine HP.out.mono ?_
          rintro e w3 ⟨Aq, nq, cq, q, Ar, nr, cr, r, rfl, oq, lq, vq, mq, or, lr, vr, mr, k3⟩
          have hrd := HG2.out.a.read
          have GR : GcSt w3 Ar nr cr r := by
            have e1 : tlen r ≤ tlen l2 := tlen_mono (by rw [vr]; exact Nat.le_of_lt (Nat.mod_lt _ HD.out))
            have e2 := HG2.out.t
            have e3 : (limbs (lval l2)).length = tlen l2 := rfl
            exact ⟨or.toLimbs lr (by omega), by omega, by omega⟩
          have hrr := GR.a.read
          have hlt : lval r < lval l2 := by rw [vr]; exact Nat.mod_lt _ HD.out
          have HGR := Lib.hid GR
          have HG3 := Lib.hid (HG2.out.keep k3)
          have KI3 := KI.trans k3
          have hg : Nat.gcd (lval l2) (lval r) = gcdTo ns (k + 1) := by
            rw [← HE.out, vr, Nat.gcd_comm (lval l1) (lval l2), Nat.gcd_rec (lval l2) (lval l1), Nat.gcd_comm]
          have HH := Lib.hid (And.intro hg (And.intro hlt (And.intro hrd hrr)))
          clear oq lq vq mq or lr vr mr k3 hrd GR hrr hlt hg HP HG1 HG2 HE HD KI hL2
          try dsimp only
          go_wp2_with fail
          go_roundw
          case rel => exact ⟨_, _, _, _, _, _, _, _, rfl, rfl, HG3.out, HGR.out, HH.out.1, KI3⟩
          case measure =>
            obtain ⟨_, hlt, hrd, hrr⟩ := HH.out
            show readVal _ (.slice Ar nr cr) < readVal _ (.slice A2 n2 c2)
            rw [hrr, hrd]
            exact hlt
        · have h0i : decide ((0 : Int) < (tlen l2 : Int)) = false := decide_eq_false (by omega)
          have hz : lval l2 = 0 := by omega
          have hg : lval l1 = gcdTo ns (k + 1) := by rw [← HE.out, hz, Nat.gcd_zero_right]
          have HH := Lib.hid hg
          have KI3 := KW2.trans KI
          clear htp hz hg
          go_wp2_with fail
          refine (trim_any A2 n2 c2 l2 _ hL2).mono ?_
          rintro e wx ⟨rfl, rfl⟩
          try dsimp only
          go_wp2_with fail
          go_roundw
          case rel => exact ⟨k + 1, _, _, _, _, by omega, by go_num, rfl, HG1.out, HH.out, KI3⟩
          case measure => simp [intOf]; omega
    · have hd : decide ((k : Int) < (len : Int)) = false := decide_eq_false (by omega)
      have ek : k = len := by omega
      have HE := Lib.hid (show sval false lg = (gcdTo ns len : Int) from by rw [← ek, ← vg]; rfl)
      have hLg := G.a
      have HR := Lib.hid (fun (e : Ending) (w2 : World) => res_two (x := sval false lg) (e := e) (w2 := w2) (HK.out.trans KW) HBX.out (Nat.lt_of_lt_of_le HBl.out KW.size) (KW.heap HB.out (by simp)))
      clear vg G ek
      go_wp2_with fail
      refine (made_any false Ag ng cg lg _ hLg).mono ?_
      intro e w2 hres
      obtain ⟨ng, A2, n2, c2, f, rfl, c0, c1, f0, f1, e0, e1, P⟩ := HR.out _ _ hres
      rw [HE.out] at P
      have HP := Lib.hid P
      have HEE := Lib.hid (And.intro e0 e1)
      clear hres P hLg e0 e1
      go_wp2_with fail
      refine bodyPost_ret (v := .tuple #[numArg ng A2 n2 c2, .int .i64 f]) ?_ rfl HP.out
      obtain ⟨e0, e1⟩ := HEE.out
      simp [results, Tryd.results34, go_sem, e0, e1]
end Go.Proofs.YtdfekphahdmffaaDoor
