/-
  The document's Depth.
-/
import Derived.Test.YtonnikipeokkaaaGreatDoorPaDoc
import Derived.Test.YtonnikipeokkaaaGreatDoorPrGood
namespace Go.Proofs.YtonnikipeokkaaaGreatDoor
open Go.RowKit Go.Lib

/-- The greatest of the first n. -/
def preD (f : Nat → Nat) : Nat → Nat
  | 0 => 0
  | n + 1 => max (preD f n) (f n)
theorem preD_shift (f : Nat → Nat) : ∀ n, preD f (n + 1) = max (f 0) (preD (fun i => f (i + 1)) n)
  | 0 => by simp [preD]
  | n + 1 => by
    rw [preD, preD_shift f n, preD]
    omega
theorem preD_mono (f : Nat → Nat) {i : Nat} : ∀ {n}, i ≤ n → preD f i ≤ preD f n
  | 0, h => by obtain rfl : i = 0 := by omega
               exact Nat.le_refl _
  | n + 1, h => by
    rcases Nat.lt_or_ge i (n + 1) with h1 | h1
    · exact Nat.le_trans (preD_mono f (by omega : i ≤ n)) (by rw [preD]; omega)
    · obtain rfl : i = n + 1 := by omega
      exact Nat.le_refl _
theorem preD_ext {f g : Nat → Nat} : ∀ n, (∀ i, i < n → f i = g i) → preD f n = preD g n
  | 0, _ => rfl
  | n + 1, h => by rw [preD, preD, preD_ext n (fun i hi => h i (by omega)), h n (by omega)]
/-- How deep the i-th item makes it. -/
def stepD (k : Int) (l : List Raw) (i : Nat) : Nat :=
  match l[i]? with
  | some x => if k = 7 ∧ i + 1 = l.length ∧ x.k = 7 then depthR x else depthR x + 1
  | none => 0
theorem depthL_pre (k : Int) : ∀ l : List Raw, depthL k l = preD (stepD k l) l.length
  | [] => by rw [depthL]; rfl
  | x :: l => by
    rw [depthL, depthL_pre k l, List.length_cons, preD_shift, preD_ext (f := fun i => stepD k (x :: l) (i + 1)) (g := stepD k l)]
    · congr 1
      unfold stepD
      simp only [List.getElem?_cons_zero, List.length_cons]
      have e : (l = []) ↔ 0 + 1 = l.length + 1 := ⟨fun h => by rw [h]; rfl, fun h => List.eq_nil_of_length_eq_zero (by omega)⟩
      simp only [e]
    · intro i _
      unfold stepD
      simp only [List.getElem?_cons_succ, List.length_cons, Nat.add_right_cancel_iff]
theorem depth_eq (r : Raw) : depthR r = max (if r.k = 8 then 1 else 0) (preD (stepD r.k r.l) r.l.length) := by
  cases r with
  | mk k c neg mag t l => rw [depthR, depthL_pre]; rfl
theorem stepD_le {r : Raw} {i : Nat} (hi : i < r.l.length) : preD (stepD r.k r.l) i ≤ depthR r ∧ stepD r.k r.l i ≤ depthR r := by
  have h := preD_mono (stepD r.k r.l) (i := i + 1) (n := r.l.length) hi
  rw [preD] at h
  rw [depth_eq]
  omega
theorem stepD_at {r : Raw} {i : Nat} (hi : i < r.l.length) : stepD r.k r.l i = if r.k = 7 ∧ i + 1 = r.l.length ∧ r.l[i].k = 7 then depthR r.l[i] else depthR r.l[i] + 1 := by
  unfold stepD
  rw [List.getElem?_eq_getElem hi]
theorem depth_item {r : Raw} {i : Nat} (hi : i < r.l.length) : depthR r.l[i] ≤ depthR r := by
  have h := (stepD_le hi).2
  rw [stepD_at hi] at h
  split at h <;> omega
/-- What the loop stands on. -/
structure DepS (W : World) (r : Raw) (p : PV) (i d B1 : Nat) (wr : World) : Prop where
  K : Keep (fun _ => False) W wr
  h1 : wr.heap[B1]? = some (.cells #[.int .i64 r.k, .int .i32 r.c, .bool r.neg, .slice p.A p.n p.cp, .string r.t, .slice p.B p.m p.cap] 27 (0, 0))
  le : i ≤ r.l.length
  d : d = preD (stepD r.k r.l) i
set_option maxRecDepth 100000 in
set_option maxHeartbeats 4000000 in
theorem depth_w {P : Nat → Prop} (r : Raw) (p : PV) (W : World) (w : World) (hW : Keep (fun _ => False) w W)
    (hm : p.m ≤ 9223372036854775807) (hD : depthR r ≤ 4000000000000000000) (vs : Nat → PV) (HROW : Hid (0 < p.m → ∃ b off, p.B = some ⟨b, off, .none⟩ ∧ P b ∧ ∀ i (h : i < r.l.length), ItemC w b off i r.l[i] (vs i))) (HL : Hid (r.l.length = p.m))
    (IH : Hid (∀ i (h : i < r.l.length) (w' : World), Keep (fun _ => False) w w' → Calls Tryz.prog 33 #[rawV r.l[i] (vs i)] w' (fun e w9 => e = .returned (.int .i64 (depthR r.l[i] : Int)) ∧ Keep (fun _ => False) w' w9))) : Calls Tryz.prog 33 #[rawV r p] W (fun e w9 => e = .returned (.int .i64 (depthR r : Int)) ∧ Keep (fun _ => False) W w9) := by
  have hb1 : (W.alloc (.cells #[.int .i64 r.k, .int .i32 r.c, .bool r.neg, .slice p.A p.n p.cp, .string r.t, .slice p.B p.m p.cap] 27)).heap[W.heap.size]? = some (.cells #[.int .i64 r.k, .int .i32 r.c, .bool r.neg, .slice p.A p.n p.cp, .string r.t, .slice p.B p.m p.cap] 27 (0, 0)) := heap_alloc_new W _
  have HST := Lib.hid (show DepS W r p 0 0 W.heap.size (W.alloc (.cells #[.int .i64 r.k, .int .i32 r.c, .bool r.neg, .slice p.A p.n p.cp, .string r.t, .slice p.B p.m p.cap] 27)) from ⟨(Keep.refl _ _).alloc _, hb1, Nat.zero_le _, rfl⟩)
  have HW := Lib.hid hW
  have HDD := Lib.hid hD
  clear hW hb1 hD
  go_enter Tryz.func33, Tryz.ntmps33
  go_wp2_with fail
  generalize W.alloc (.cells #[.int .i64 r.k, .int .i32 r.c, .bool r.neg, .slice p.A p.n p.cp, .string r.t, .slice p.B p.m p.cap] 27) = w1 at *
  generalize hB1 : W.heap.size = B1 at *
  go_loopw [3, 4, 5] (fun nv iv _ wr => ∃ (d i : Nat), nv = .int .i64 (d : Int) ∧ iv = .int .i64 (i : Int) ∧ DepS W r p i d B1 wr) (fun _ iv _ _ => p.m - (intOf iv).toNat)
  case atStart => exact ⟨0, 0, rfl, rfl, HST.out⟩
  case round =>
    obtain ⟨d, i, rfl, rfl, hst⟩ := hrel
    have hx1 := hst.h1
    have HS2 := Lib.hid hst
    have hbig := hm
    clear hst
    obtain ⟨a0, a1, a2, a3, a4, a5⟩ := dat_cells hx1
    clear hx1 a1 a2 a3 a4
    by_cases hlt : i < p.m
    · have hi1 : i < r.l.length := by rw [HL.out]; exact hlt
      obtain ⟨g, o, eB, _, hrw⟩ := HROW.out (by omega)
      have hic := (hrw i hi1).keep (HW.out.trans HS2.out.K) id
      have HC1 := Lib.hid (fun (w' : World) (K : Keep (fun _ => False) wr w') => IH.out i hi1 w' ((HW.out.trans HS2.out.K).trans K))
      have HNX := Lib.hid (fun (w' : World) (K : Keep (fun _ => False) wr w') => (show DepS W r p (i + 1) (max d (stepD r.k r.l i)) B1 w' from ⟨HS2.out.K.trans K, K.heap HS2.out.h1 id, hi1, by rw [preD, ← HS2.out.d]⟩))
      have hde := (stepD_le hi1).1
      rw [← HS2.out.d] at hde
      have hst := stepD_at hi1
      have hsl := (stepD_le hi1).2
      have hD := HDD.out
      obtain ⟨y, hy⟩ : ∃ y, y = stepD r.k r.l i := ⟨_, rfl⟩
      obtain ⟨x, hx⟩ : ∃ x, x = r.l[i] := ⟨_, rfl⟩
      rw [← hy] at HNX hst hsl
      rw [← hx] at HC1 hst
      rw [HL.out] at hst
      obtain ⟨r0, r1, r2, r3, r4, r5⟩ := hic.cells
      rw [← hx] at r0 r1 r2 r4
      obtain ⟨v, hv⟩ : ∃ v, v = vs i := ⟨_, rfl⟩
      rw [← hv] at HC1 r3 r5
      obtain ⟨z, hz⟩ : ∃ z, z = depthR x := ⟨_, rfl⟩
      rw [← hz] at HC1 hst
      have a5k := a5
      rw [eB] at a5
      have HQ := Lib.hid (fun (w' : World) (K : Keep (fun _ => False) wr w') => (show w'.cell? ⟨B1, 0, none⟩ = some (.int .i64 r.k) ∧ w'.cell? ⟨B1, 5, none⟩ = some (.slice (some ⟨g, o, none⟩) p.m p.cap) ∧ w'.cell? ⟨g, o + i * 6, none⟩ = some (.int .i64 x.k) from ⟨(K.cell (World.block_lt_of_cell? wr _ a0) id).trans a0, (K.cell (World.block_lt_of_cell? wr _ a5) id).trans a5, (K.cell (World.block_lt_of_cell? wr _ r0) id).trans r0⟩))
      clear eB a5k hv hic hx hrw hy hz
      have l1 : decide ((i : Int) < (p.m : Int)) = true := decide_eq_true (by omega)
      have l2 : decide (i < p.m) = true := decide_eq_true hlt
      have hi0 : (0 : Int) ≤ (i : Int) := Int.natCast_nonneg _
      have j1 : (i : Int) < (p.m : Int) := by omega
      go_wp2_with fail
      refine (HC1.out _ (Keep.refl _ _)).mono ?_
      rintro e w5 ⟨rfl, k5⟩
      clear r0 r1 r2 r3 r4 r5 a0 a5
      obtain ⟨a0, a5, r0⟩ := HQ.out _ k5
      have HN3 := Lib.hid (HNX.out _ k5)
      clear k5
      by_cases h7 : r.k = 7
      · have s1 : (r.k == 7) = true := beq_iff_eq.2 h7
        by_cases hla : i + 1 = p.m
        · have s2 : ((i : Int) == (p.m : Int) - 1) = true := beq_iff_eq.2 (by omega)
          by_cases hx7 : x.k = 7
          · have s3 : (x.k == 7) = true := beq_iff_eq.2 hx7
            rw [if_pos ⟨h7, hla, hx7⟩] at hst
            subst hst
            clear h7 hx7 hla
            go_wp2_with fail
            go_roundw
            case rel => exact ⟨_, i + 1, by go_num, by go_num, HN3.out⟩
            case measure => simp only [intOf]; omega
          · have s3 : (x.k == 7) = false := beq_eq_false_iff_ne.2 hx7
            rw [if_neg (fun h => hx7 h.2.2)] at hst
            subst hst
            clear h7 hx7 hla
            go_wp2_with fail
            go_roundw
            case rel => exact ⟨_, i + 1, by go_num, by go_num, HN3.out⟩
            case measure => simp only [intOf]; omega
        · have s2 : ((i : Int) == (p.m : Int) - 1) = false := beq_eq_false_iff_ne.2 (by omega)
          rw [if_neg (fun h => hla h.2.1)] at hst
          subst hst
          clear h7 hla
          go_wp2_with fail
          go_roundw
          case rel => exact ⟨_, i + 1, by go_num, by go_num, HN3.out⟩
          case measure => simp only [intOf]; omega
      · have s1 : (r.k == 7) = false := beq_eq_false_iff_ne.2 h7
        rw [if_neg (fun h => h7 h.1)] at hst
        subst hst
        go_wp2_with fail
        go_roundw
        case rel => exact ⟨_, i + 1, by go_num, by go_num, HN3.out⟩
        case measure => simp only [intOf]; omega
    · have l1 : decide ((i : Int) < (p.m : Int)) = false := decide_eq_false (by omega)
      have l2 : decide (i < p.m) = false := decide_eq_false hlt
      have hd := HS2.out.d
      have hle := HS2.out.le
      rw [HL.out] at hle
      have hi : i = r.l.length := by rw [HL.out]; omega
      rw [hi] at hd
      have hdep := depth_eq r
      rw [← hd] at hdep
      clear hi
      by_cases h8 : r.k = 8
      · have s1 : (r.k == 8) = true := beq_iff_eq.2 h8
        rw [if_pos h8] at hdep
        have HDP := Lib.hid hdep
        clear hdep hd h8
        go_wp2_with fail
        go_ret
        exact ⟨by rw [HDP.out, Nat.max_comm]; go_num, HS2.out.K⟩
      · have s1 : (r.k == 8) = false := beq_eq_false_iff_ne.2 h8
        rw [if_neg h8, Nat.max_eq_right (Nat.zero_le _)] at hdep
        have HDP := Lib.hid hdep
        clear hdep hd
        go_wp2_with fail
        go_ret
        exact ⟨by rw [HDP.out]; rfl, HS2.out.K⟩
set_option maxRecDepth 100000 in
theorem depth_any {N P : Nat → Prop} {w : World} {r : Raw} {p : PV} (h : RawAt N P w r p) : depthR r ≤ 4000000000000000000 → ∀ (W : World), Keep (fun _ => False) w W → Calls Tryz.prog 33 #[rawV r p] W (fun e w9 => e = .returned (.int .i64 (depthR r : Int)) ∧ Keep (fun _ => False) W w9) := by
  induction h with
  | @mk r p num nP len mcap big vs row ch ih =>
    intro hD W hW
    exact depth_w (P := P) r p W _ hW (by omega) hD vs (Lib.hid row) (Lib.hid len) (Lib.hid (fun i hi w' K => ih i hi (Nat.le_trans (depth_item hi) hD) w' K))
end Go.Proofs.YtonnikipeokkaaaGreatDoor
