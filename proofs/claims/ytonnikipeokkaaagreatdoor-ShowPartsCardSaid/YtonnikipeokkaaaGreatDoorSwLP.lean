/-
  The program's text, Write and Display.
  What a light datum's text may take: plain Lean.
  The awake of the laws of show.
  A list and a vector of data that may be written: plain Lean.
  The law ShowParts: the walk.  (Printed by gen_sparts.py.)
-/
import Derived.Test.YtonnikipeokkaaaGreatDoorSwK
import Derived.Test.YtonnikipeokkaaaGreatDoorSwT
import Derived.Test.YtonnikipeokkaaaGreatDoorSwC
import Derived.Test.YtonnikipeokkaaaGreatDoorPrGood
import Derived.Test.YtonnikipeokkaaaGreatDoorSwLi
import Derived.Test.YtonnikipeokkaaaGreatDoorSwWo
namespace Go.Proofs.YtonnikipeokkaaaGreatDoor
open Go.RowKit Go.Lib

/-- What Write and Display tell: the text, or nothing, and whether it may not be written. -/
def textV (pl : Bool) (r : Raw) : ByteArray := ⟨(if mayR r = true then showR pl r else []).toArray⟩
def textN (r : Raw) : Int := if mayR r = true then 0 else 1
def TextP (pl : Bool) (r : Raw) (w : World) (e : Ending) (w' : World) : Prop := e = .returned (.tuple #[.string (textV pl r), .int .i64 (textN r)]) ∧ Keep (fun _ => False) w w'
theorem may_plain {r : Raw} (h : mayR r = true) : plainB r = true := by
  unfold mayR at h
  rw [Bool.and_eq_true] at h
  exact h.1
abbrev shO (pl : Bool) : Obj := .cells #[.pointer none, .slice none 0 0, .bool pl] 135
theorem shower_new (pl : Bool) {N P : Nat → Prop} {w : World} {r : Raw} {p : PV} (h : RawAt N P w r p) (hT : TabT w) (h6 : 6 < w.heap.size) (hm : mayR r = true) (hlen : (showR pl r).length ≤ 1000000000000) (W : World) (K : Keep (fun _ => False) w W) :
    Calls Tryz.prog 78 #[.pointer (some ⟨W.heap.size, 0, none⟩), rawV r p] (W.alloc (shO pl)) (WrP (W.alloc (shO pl)) W.heap.size pl (showR pl r) none) := by
  have K2 : Keep (fun _ => False) w (W.alloc (shO pl)) := K.alloc _
  have hs := K.size
  have hl : ∀ x, x < w.heap.size → Off W.heap.size none x := fun x hx hg => by
    rcases hg with rfl | hg
    · omega
    · cases hg
  have D : RawAt (Off W.heap.size none) (Off W.heap.size none) (W.alloc (shO pl)) r p := (h.mono (fun x hx _ => hl x hx) (fun x hx _ => hl x hx)).keep0 K2
  have E : EnvS w.heap.size (W.alloc (shO pl)) W.heap.size pl [] none := ⟨h6, (TS.start hT).keep K2 (fun _ h => h.elim), (fun x hx => by
    rcases hx with rfl | hg
    · exact hs
    · cases hg), ShAt.new W pl⟩
  exact (show_any (Alike.well_of r (may_plain hm))).1 w.heap.size _ W.heap.size pl [] none p E D (by simpa using hlen)
set_option maxRecDepth 100000 in
set_option maxHeartbeats 8000000 in
theorem text48_any (pl : Bool) {N P : Nat → Prop} {w : World} {r : Raw} {p : PV} (h : RawAt N P w r p) (hS : SmallR r) (hD : depthR r ≤ 4000000000000000000) (hT : TabT w) (h6 : 6 < w.heap.size) (hlen : mayR r = true → (showR pl r).length ≤ 1000000000000) :
    Calls Tryz.prog 48 #[rawV r p, .bool pl] w (TextP pl r w) := by
  have HMY := Lib.hid (fun (W : World) (K : Keep (fun _ => False) w W) => pmay_any (h.keep0 K) hS hD (hT.keep K).1)
  have HSN := Lib.hid (fun (W : World) (K : Keep (fun _ => False) w W) (hm : mayR r = true) => shower_new pl h hT h6 hm (hlen hm) W K)
  have HTV : Hid (textV pl r = ⟨(if mayR r = true then showR pl r else []).toArray⟩) := Lib.hid rfl
  have HTN : Hid (textN r = if mayR r = true then 0 else 1) := Lib.hid rfl
  unfold TextP
  generalize textV pl r = tv at HTV ⊢
  generalize textN r = tn at HTN ⊢
  generalize mayR r = m at HMY HSN HTV HTN
  generalize showR pl r = T at HSN HTV
  have hb1 : (w.alloc (.cells #[.int .i64 r.k, .int .i32 r.c, .bool r.neg, .slice p.A p.n p.cp, .string r.t, .slice p.B p.m p.cap] 27)).heap[w.heap.size]? = some (.cells #[.int .i64 r.k, .int .i32 r.c, .bool r.neg, .slice p.A p.n p.cp, .string r.t, .slice p.B p.m p.cap] 27 (0, 0)) := heap_alloc_new w _
  have HB1 := Lib.hid hb1
  have HK1 := Lib.hid (show Keep (fun _ => False) w (w.alloc (.cells #[.int .i64 r.k, .int .i32 r.c, .bool r.neg, .slice p.A p.n p.cp, .string r.t, .slice p.B p.m p.cap] 27)) from (Keep.refl _ _).alloc _)
  obtain ⟨a0, a1, a2, a3, a4, a5⟩ := dat_cells hb1
  clear hb1 h hS hD hT h6 hlen
  go_enter Tryz.func48, Tryz.ntmps48
  go_wp2_with fail
  generalize w.alloc (.cells #[.int .i64 r.k, .int .i32 r.c, .bool r.neg, .slice p.A p.n p.cp, .string r.t, .slice p.B p.m p.cap] 27) = w1 at *
  generalize w.heap.size = B1 at *
  refine (HMY.out _ HK1.out).mono ?_
  rintro e w2 ⟨rfl, k2⟩
  have HB2 := Lib.hid (k2.heap HB1.out (by simp))
  have HK2 := Lib.hid (HK1.out.trans k2)
  clear a0 a1 a2 a3 a4 a5 k2
  cases m with
  | false =>
    go_wp2_with fail
    refine bodyPost_ret (v := .tuple #[.string tv, .int .i64 tn]) ?_ rfl ⟨rfl, HK2.out⟩
    rw [HTV.out, HTN.out]
    simp [results, Tryz.results48, go_sem]
  | true =>
    have hbx : (w2.alloc (shO pl)).heap[B1]? = _ := ((Keep.refl (fun _ => False) w2).alloc (shO pl)).heap HB2.out id
    have HK3 := Lib.hid (HK2.out.alloc (shO pl))
    have HS3 := Lib.hid (HSN.out w2 HK2.out rfl)
    have HB0 := Lib.hid HK2.out.size
    obtain ⟨a0, a1, a2, a3, a4, a5⟩ := dat_cells hbx
    clear hbx
    go_wp2_with fail
    refine HS3.out.mono ?_
    rintro e w4 ⟨rfl, g4, hsh, hng, k4⟩
    have HT4 := Lib.hid (sh_text w4 _ pl _ _ hsh)
    have HNG := Lib.hid hng
    have HK4 := Lib.hid k4
    clear hsh hng k4 a0 a1 a2 a3 a4 a5
    go_wp2_with fail
    refine HT4.out.mono ?_
    rintro e w5 ⟨rfl, k5⟩
    have HK5 := Lib.hid k5
    clear k5
    go_wp2_with fail
    refine bodyPost_ret (v := .tuple #[.string tv, .int .i64 tn]) ?_ rfl ⟨rfl, ?_⟩
    · rw [HTV.out, HTN.out]
      simp [results, Tryz.results48, go_sem]
    · have hb := HB0.out
      refine (HK3.out.into HK4.out (fun i hi => ?_)).into HK5.out (fun i hi => ?_)
      · rcases hi with rfl | hi
        · exact hb
        · cases hi
      · rcases hi with rfl | hi
        · exact hb
        · rcases HNG.out with rfl | ⟨k, rfl, hk⟩
          · cases hi
          · injection hi with hi
            have h3 := HK3.out.size
            omega
set_option maxRecDepth 100000 in
set_option maxHeartbeats 8000000 in
/-- Write. -/
theorem write_any {N P : Nat → Prop} {w : World} {r : Raw} {p : PV} (h : RawAt N P w r p) (hS : SmallR r) (hD : depthR r ≤ 4000000000000000000) (hT : TabT w) (h6 : 6 < w.heap.size) (hlen : mayR r = true → (showR false r).length ≤ 1000000000000) :
    Calls Tryz.prog 30 #[rawV r p] w (TextP false r w) := by
  have HK1 := Lib.hid (show Keep (fun _ => False) w (w.alloc (.cells #[.int .i64 r.k, .int .i32 r.c, .bool r.neg, .slice p.A p.n p.cp, .string r.t, .slice p.B p.m p.cap] 27)) from (Keep.refl _ _).alloc _)
  have HC := Lib.hid (text48_any false (h.keep0 HK1.out) hS hD (hT.keep HK1.out) (Nat.lt_of_lt_of_le h6 HK1.out.size) hlen)
  have hb1 : (w.alloc (.cells #[.int .i64 r.k, .int .i32 r.c, .bool r.neg, .slice p.A p.n p.cp, .string r.t, .slice p.B p.m p.cap] 27)).heap[w.heap.size]? = some (.cells #[.int .i64 r.k, .int .i32 r.c, .bool r.neg, .slice p.A p.n p.cp, .string r.t, .slice p.B p.m p.cap] 27 (0, 0)) := heap_alloc_new w _
  obtain ⟨a0, a1, a2, a3, a4, a5⟩ := dat_cells hb1
  unfold TextP at *
  generalize textV false r = tv at HC ⊢
  generalize textN r = tn at HC ⊢
  clear hb1 h hS hD hT h6 hlen
  go_enter Tryz.func30, Tryz.ntmps30
  go_wp2_with fail
  refine HC.out.mono ?_
  rintro e w2 ⟨rfl, k2⟩
  have HK2 := Lib.hid (HK1.out.trans k2)
  clear k2 a0 a1 a2 a3 a4 a5
  go_wp2_with fail
  refine bodyPost_ret (v := .tuple #[.string tv, .int .i64 tn]) ?_ rfl ⟨rfl, HK2.out⟩
  simp [results, Tryz.results30, go_sem]
set_option maxRecDepth 100000 in
set_option maxHeartbeats 8000000 in
/-- Display. -/
theorem disp_any {N P : Nat → Prop} {w : World} {r : Raw} {p : PV} (h : RawAt N P w r p) (hS : SmallR r) (hD : depthR r ≤ 4000000000000000000) (hT : TabT w) (h6 : 6 < w.heap.size) (hlen : mayR r = true → (showR true r).length ≤ 1000000000000) :
    Calls Tryz.prog 31 #[rawV r p] w (TextP true r w) := by
  have HK1 := Lib.hid (show Keep (fun _ => False) w (w.alloc (.cells #[.int .i64 r.k, .int .i32 r.c, .bool r.neg, .slice p.A p.n p.cp, .string r.t, .slice p.B p.m p.cap] 27)) from (Keep.refl _ _).alloc _)
  have HC := Lib.hid (text48_any true (h.keep0 HK1.out) hS hD (hT.keep HK1.out) (Nat.lt_of_lt_of_le h6 HK1.out.size) hlen)
  have hb1 : (w.alloc (.cells #[.int .i64 r.k, .int .i32 r.c, .bool r.neg, .slice p.A p.n p.cp, .string r.t, .slice p.B p.m p.cap] 27)).heap[w.heap.size]? = some (.cells #[.int .i64 r.k, .int .i32 r.c, .bool r.neg, .slice p.A p.n p.cp, .string r.t, .slice p.B p.m p.cap] 27 (0, 0)) := heap_alloc_new w _
  obtain ⟨a0, a1, a2, a3, a4, a5⟩ := dat_cells hb1
  unfold TextP at *
  generalize textV true r = tv at HC ⊢
  generalize textN r = tn at HC ⊢
  clear hb1 h hS hD hT h6 hlen
  go_enter Tryz.func31, Tryz.ntmps31
  go_wp2_with fail
  refine HC.out.mono ?_
  rintro e w2 ⟨rfl, k2⟩
  have HK2 := Lib.hid (HK1.out.trans k2)
  clear k2 a0 a1 a2 a3 a4 a5
  go_wp2_with fail
  refine bodyPost_ret (v := .tuple #[.string tv, .int .i64 tn]) ?_ rfl ⟨rfl, HK2.out⟩
  simp [results, Tryz.results31, go_sem]
end Go.Proofs.YtonnikipeokkaaaGreatDoor

namespace Go.Proofs.YtonnikipeokkaaaGreatDoor
open Go.RowKit Go.Lib

mutual
/-- A datum's nodes. -/
def nodeR : Raw → Nat
  | .mk _ _ _ _ _ l => 1 + nodeL l
def nodeL : List Raw → Nat
  | [] => 0
  | x :: l => nodeR x + nodeL l
end
theorem nodeR_eq (r : Raw) : nodeR r = 1 + nodeL r.l := by
  cases r with
  | mk k c neg mag t l => rw [nodeR]; rfl
mutual
theorem weighR_node : ∀ (r : Raw) (n : Int), 0 ≤ n → 0 ≤ weighR r n → (nodeR r : Int) + weighR r n ≤ n ∧ SmallR r
  | .mk k c neg mag t l, n, hn, h => by
    rw [weighR] at h
    by_cases hc : 3000 < t.size ∨ 300 < mag.length
    · rw [if_pos hc] at h
      exact absurd h (by decide)
    · rw [if_neg hc] at h
      have hw := weighL_le l (n - 1) (by omega)
      have h2 := weighL_node l (n - 1) (by omega) h
      refine ⟨?_, .mk (by show t.size ≤ 1000000; omega) (by show mag.length ≤ 9000; omega) h2.2⟩
      rw [weighR, if_neg hc, nodeR]
      omega
theorem weighL_node : ∀ (l : List Raw) (n : Int), -1 ≤ n → 0 ≤ weighL l n → (nodeL l : Int) + weighL l n ≤ n ∧ ∀ i (hi : i < l.length), SmallR l[i]
  | [], n, hn, h => by
    rw [weighL, nodeL]
    exact ⟨by omega, fun i hi => absurd hi (Nat.not_lt_zero _)⟩
  | x :: l, n, hn, h => by
    rw [weighL] at h
    by_cases h0 : 0 ≤ n
    · rw [if_pos h0] at h
      have hx := weighR_le x n h0
      have hx0 : 0 ≤ weighR x n := by
        have := weighL_le l (weighR x n) hx.1
        omega
      have h1 := weighR_node x n h0 hx0
      have h2 := weighL_node l (weighR x n) hx.1 h
      refine ⟨?_, fun i hi => ?_⟩
      · rw [weighL, if_pos h0, nodeL]
        omega
      · cases i with
        | zero => exact h1.2
        | succ i => exact h2.2 i (by simpa using hi)
    · rw [if_neg h0] at h
      omega
end
mutual
theorem depth_node : ∀ r : Raw, depthR r ≤ nodeR r
  | .mk k c neg mag t l => by
    have h := depthL_node k l
    rw [depthR, nodeR]
    split <;> omega
theorem depthL_node : ∀ (k : Int) (l : List Raw), depthL k l ≤ 1 + nodeL l
  | _, [] => by rw [depthL]; omega
  | k, x :: l => by
    have h1 := depth_node x
    have h2 := depthL_node k l
    rw [depthL, nodeL]
    split <;> omega
end
theorem esc_len (y c : Nat) : (escQ y c).length ≤ 8 := by
  have h := utf_len c
  have hx : (hexT c).length ≤ 2 := by unfold hexT; split <;> simp
  unfold escQ
  split
  · simp only [List.length_cons]; omega
  split
  · simp
  split
  · simp
  split
  · simp
  split
  · simp only [List.length_cons, List.length_append, List.length_nil]; omega
  · omega
theorem esc_flat (y : Nat) : ∀ r : List Nat, (r.flatMap (escQ y)).length ≤ 8 * r.length
  | [] => Nat.zero_le _
  | c :: r => by
    have h1 := esc_flat y r
    have h2 := esc_len y c
    rw [List.flatMap_cons, List.length_append, List.length_cons]
    omega
theorem quote_len {y : Nat} {t : List UInt8} {r : List Nat} (h : runesL t = some r) : (quoteL y t).length ≤ 8 * r.length + 2 := by
  have h1 := esc_flat y r
  unfold quoteL
  rw [h]
  simp only [Option.getD_some, List.length_cons, List.length_append, List.length_nil]
  omega
theorem cname_len (c : Nat) : (cnameL c).length ≤ 20 := by
  have h := utf_len c
  have hx : (hexT c).length ≤ 2 := by unfold hexT; split <;> simp
  unfold cnameL
  repeat' split
  all_goals first | omega | (simp only [List.length_cons, List.length_nil]; omega)
theorem itoa_len {x : Int} (h : (limbs x.natAbs).length ≤ 48) : (itoa x).length ≤ 288002 := by
  have hf := (Fits_iff x).1 h
  have hd := dec_bound hf (by decide)
  by_cases hn : x < 0
  · obtain ⟨u, rfl⟩ : ∃ u : Nat, x = -(u : Int) := ⟨x.natAbs, by omega⟩
    rw [Lib.itoa_neg u (by omega), List.length_cons]
    have e : (-(u : Int)).natAbs = u := by omega
    rw [e] at hd
    omega
  · obtain ⟨u, rfl⟩ : ∃ u : Nat, x = (u : Int) := ⟨x.toNat, by omega⟩
    rw [Lib.itoa_nonneg]
    have e : ((u : Int)).natAbs = u := by omega
    rw [e] at hd
    omega
theorem join_len (f : Raw → List UInt8) : ∀ l : List Raw, (∀ i (h : i < l.length), (f l[i]).length + 4 ≤ 300000 * nodeR l[i]) → (joinB (l.map f)).length ≤ 300000 * nodeL l ∧ (tailJ (l.map f)).length ≤ 300000 * nodeL l
  | [], _ => ⟨Nat.zero_le _, Nat.zero_le _⟩
  | x :: l, h => by
    have h1 := (join_len f l (fun i hi => h (i + 1) (by simpa using hi))).2
    have h2 : (f x).length + 4 ≤ 300000 * nodeR x := h 0 (by simp)
    have e : tailJ ((x :: l).map f) = 32 :: f x ++ tailJ (l.map f) := rfl
    have e2 : joinB ((x :: l).map f) = f x ++ tailJ (l.map f) := rfl
    rw [e, e2, nodeL]
    simp only [List.length_append, List.length_cons]
    omega
theorem leaf_room (pl : Bool) {r : Raw} (hk : r.k ≠ 7) (h : (showR pl r).length + 4 ≤ 300000) : (showR pl r).length + 4 ≤ 300000 * nodeR r ∧ (restR pl r).length ≤ 300000 * nodeR r := by
  have hn := nodeR_eq r
  have h2 : (restR pl r).length ≤ (showR pl r).length + 4 := by
    by_cases h0 : r.k = 0
    · rw [rest_nil pl h0]; simp
    · rw [rest_dot pl hk h0]; simp only [List.length_cons, List.length_append, List.length_nil]; omega
  omega
theorem show_room (pl : Bool) {r : Raw} (h : Alike.WellR r) : (showR pl r).length + 4 ≤ 300000 * nodeR r ∧ (restR pl r).length ≤ 300000 * nodeR r := by
  induction h with
  | @atom k h =>
    refine leaf_room pl (show k ≠ 7 by omega) ?_
    rw [showR_eq]
    rcases h with rfl | rfl | rfl | rfl | rfl <;> simp [selfT, Raw.k]
  | @chr c h =>
    refine leaf_room pl (show (3 : Int) ≠ 7 by decide) ?_
    have h1 := utf_len c
    have h2 := cname_len c
    cases pl with
    | true => show (utfB c).length + 4 ≤ _; omega
    | false => show (35 :: 92 :: cnameL c).length + 4 ≤ _; simp only [List.length_cons]; omega
  | @int x h =>
    refine leaf_room pl (show (4 : Int) ≠ 7 by decide) ?_
    have h1 := itoa_len h
    show (itoa (sval (decide (x < 0)) (limbs x.natAbs))).length + 4 ≤ _
    rw [sval_limbs]
    omega
  | @str t r h hr =>
    refine leaf_room pl (show (5 : Int) ≠ 7 by decide) ?_
    have h1 := quote_len (y := 34) h
    have h2 := (runes_bytes _ _ _ (Nat.le_refl _) h).1
    have h3 := flat_len r
    rw [h2] at h3
    cases pl with
    | true => show t.data.toList.length + 4 ≤ _; omega
    | false => show (quoteL 34 t.data.toList).length + 4 ≤ _; omega
  | @sym t r h hr h0 =>
    refine leaf_room pl (show (6 : Int) ≠ 7 by decide) ?_
    have h1 := quote_len (y := 124) h
    have h2 := (runes_bytes _ _ _ (Nat.le_refl _) h).1
    have h3 := flat_len r
    rw [h2] at h3
    show (if (pl || bareV t.data.toList) = true then t.data.toList else quoteL 124 t.data.toList).length + 4 ≤ _
    split <;> omega
  | @pair a d _ _ ha hd =>
    have e1 := show_pair pl (r := .mk 7 0 false [] ⟨#[]⟩ [a, d]) (a := a) (d := d) rfl rfl
    have e2 := rest_pair pl (r := .mk 7 0 false [] ⟨#[]⟩ [a, d]) (a := a) (d := d) rfl rfl
    rw [e1, e2, nodeR, nodeL, nodeL, nodeL]
    simp only [List.length_append, List.length_cons]
    omega
  | @vec l hl _ ih =>
    have e1 : showR pl (.mk 8 0 false [] ⟨#[]⟩ l) = 35 :: 40 :: (joinB (l.map (showR pl)) ++ [41]) := show_vec pl (r := .mk 8 0 false [] ⟨#[]⟩ l) rfl
    have e2 := rest_dot pl (r := .mk 8 0 false [] ⟨#[]⟩ l) (by show (8 : Int) ≠ 7; decide) (by show (8 : Int) ≠ 0; decide)
    have hj := (join_len (showR pl) l (fun i hi => (ih i hi).1)).1
    rw [e2, e1, nodeR]
    simp only [List.length_append, List.length_cons, List.length_nil]
    omega
/-- What is not heavy. -/
structure LightR (r : Raw) : Prop where
  small : SmallR r
  node : nodeR r ≤ 2000
theorem light_of {r : Raw} (h : heavyR r = false) : LightR r := by
  unfold heavyR at h
  have h0 : 0 ≤ weighR r 2000 := by
    have := of_decide_eq_false h
    omega
  have h1 := weighR_node r 2000 (by decide) h0
  exact ⟨h1.2, by omega⟩
theorem nodeL_len : ∀ l : List Raw, l.length ≤ nodeL l
  | [] => Nat.zero_le _
  | x :: l => by
    have h := nodeL_len l
    have hx := nodeR_eq x
    rw [nodeL, List.length_cons]
    omega
theorem nodeL_item : ∀ (l : List Raw) (i : Nat) (h : i < l.length), nodeR l[i] ≤ nodeL l
  | x :: l, 0, h => by rw [nodeL]; simp only [List.getElem_cons_zero]; omega
  | x :: l, i + 1, h => by
    have h2 := nodeL_item l i (by simpa using h)
    rw [nodeL]
    simp only [List.getElem_cons_succ]
    omega
theorem LightR.at {w : World} {r : Raw} {p : PV} (h : LightR r) (hx : RawX w r p) : RawAt (fun _ => True) (fun _ => True) w r p := by
  induction hx with
  | @mk r p num len mcap big vs row ch ih =>
    obtain ⟨hs, hn⟩ := h
    cases hs with
    | mk ht hm hc =>
      have e := nodeR_eq r
      have hl := nodeL_len r.l
      have hmag := num.row.1
      refine .mk ⟨num.row, num.low, num.cap, by omega⟩ (fun _ _ _ _ => trivial) len mcap (by omega) vs (fun h0 => ?_) (fun i hi => ih i hi ⟨hc i hi, ?_⟩)
      · obtain ⟨b, off, e1, e2⟩ := row h0
        exact ⟨b, off, e1, trivial, e2⟩
      · have := nodeL_item r.l i hi
        omega
theorem LightR.depth {r : Raw} (h : LightR r) : depthR r ≤ 4000000000000000000 := by
  have h1 := depth_node r
  have h2 := h.node
  omega
theorem LightR.room {r : Raw} (h : LightR r) (pl : Bool) (hp : plainB r = true) : (showR pl r).length ≤ 600000000 := by
  have h1 := (show_room pl (Alike.well_of r hp)).1
  have h2 := h.node
  omega
end Go.Proofs.YtonnikipeokkaaaGreatDoor

namespace Go.Proofs.YtonnikipeokkaaaGreatDoor
open Go.RowKit Go.Lib

abbrev abR : Raw := .mk 6 0 false [] ⟨#[97, 32, 98]⟩ []
theorem ab_may : mayR abR = true := by kernel_rfl
theorem ab_show : showR false abR = [124, 97, 32, 98, 124] := by kernel_rfl
theorem ab_disp : showR true abR = [97, 32, 98] := by kernel_rfl
theorem ab_small : SmallR abR := .mk (show (3 : Nat) ≤ 1000000 by decide) (show (0 : Nat) ≤ 9000 by decide) (fun _ h => absurd h (Nat.not_lt_zero _))
theorem ab_depth : depthR abR ≤ 4000000000000000000 := by
  unfold abR
  rw [depthR, depthL]
  decide
theorem ab_at (w : World) : RawAt (fun _ => True) (fun _ => True) w abR PV.none :=
  .mk (none_limbs w) (fun h => absurd h (Nat.lt_irrefl _)) rfl (Nat.le_refl _) (show 0 * 88 ≤ 140737488351232 by omega) (fun _ => PV.none) (fun h => absurd h (Nat.lt_irrefl _)) (fun _ h => absurd h (Nat.not_lt_zero _))
theorem ab_write (w : World) (hT : TabT w) (h6 : 6 < w.heap.size) : Calls Tryz.prog 30 #[.agg #[.int .i64 6, .int .i32 0, .bool false, .slice none 0 0, .string ⟨#[97, 32, 98]⟩, .slice none 0 0]] w (fun e w' => e = .returned (.tuple #[.string ⟨#[124, 97, 32, 98, 124]⟩, .int .i64 0]) ∧ Keep (fun _ => False) w w') := by
  have h := write_any (ab_at w) ab_small ab_depth hT h6 (fun _ => by rw [ab_show]; decide)
  refine h.mono ?_
  rintro e w' ⟨rfl, k⟩
  refine ⟨?_, k⟩
  unfold textV textN
  rw [if_pos ab_may, if_pos ab_may, ab_show]
theorem ab_display (w : World) (hT : TabT w) (h6 : 6 < w.heap.size) : Calls Tryz.prog 31 #[.agg #[.int .i64 6, .int .i32 0, .bool false, .slice none 0 0, .string ⟨#[97, 32, 98]⟩, .slice none 0 0]] w (fun e w' => e = .returned (.tuple #[.string ⟨#[97, 32, 98]⟩, .int .i64 0]) ∧ Keep (fun _ => False) w w') := by
  have h := disp_any (ab_at w) ab_small ab_depth hT h6 (fun _ => by rw [ab_disp]; decide)
  refine h.mono ?_
  rintro e w' ⟨rfl, k⟩
  refine ⟨?_, k⟩
  unfold textV textN
  rw [if_pos ab_may, if_pos ab_may, ab_disp]
set_option maxRecDepth 100000 in
set_option maxHeartbeats 8000000 in
theorem shawake_any (w : World) (hT : TabT w) (h6 : 6 < w.heap.size) : Calls Tryz.prog 28 #[] w (BoolPost true w) := by
  have HW := Lib.hid (fun (W : World) (K : Keep (fun _ => False) w W) => ab_write W (hT.keep K) (Nat.lt_of_lt_of_le h6 K.size))
  have HD := Lib.hid (fun (W : World) (K : Keep (fun _ => False) w W) => ab_display W (hT.keep K) (Nat.lt_of_lt_of_le h6 K.size))
  clear hT h6
  go_enter Tryz.func28, Tryz.ntmps28
  go_wp2_with fail
  refine (HW.out _ (Keep.refl _ _)).mono ?_
  rintro e w1 ⟨rfl, k1⟩
  have HK1 := Lib.hid k1
  clear k1
  go_wp2_with fail
  refine (HD.out _ HK1.out).mono ?_
  rintro e w2 ⟨rfl, k2⟩
  have HK2 := Lib.hid (HK1.out.trans k2)
  clear k2
  go_wp2_with fail
  go_ret
  exact ⟨rfl, HK2.out⟩
end Go.Proofs.YtonnikipeokkaaaGreatDoor

namespace Go.Proofs.YtonnikipeokkaaaGreatDoor
open Go.RowKit Go.Lib

theorem plainL_of : ∀ l : List Raw, (∀ i (h : i < l.length), plainB l[i] = true) → plainL l = true
  | [], _ => by rw [plainL]
  | x :: l, h => by
    rw [plainL, Bool.and_eq_true]
    exact ⟨h 0 (by simp), plainL_of l (fun i hi => h (i + 1) (by simpa using hi))⟩
theorem plain_vec {l : List Raw} (h : ∀ i (h : i < l.length), plainB l[i] = true) (hl : l.length ≤ 62) : plainB (vecR l) = true := by
  rw [vecR, plainB, if_neg (by decide), if_neg (by decide), if_neg (by decide), if_neg (by decide), if_neg (by decide), if_neg (by decide), if_pos rfl, plainL_of l h, decide_eq_true hl]
  rfl
theorem plain_pair {a d : Raw} (ha : plainB a = true) (hd : plainB d = true) : plainB (pairR a d) = true := by
  rw [pairR, plainB, if_neg (by decide), if_neg (by decide), if_neg (by decide), if_neg (by decide), if_neg (by decide), if_pos rfl, plainL, plainL, plainL, ha, hd]
  rfl
theorem plain_list : ∀ l : List Raw, (∀ i (h : i < l.length), plainB l[i] = true) → plainB (listR l .nil) = true
  | [], _ => rfl
  | x :: l, h => plain_pair (h 0 (by simp)) (plain_list l (fun i hi => h (i + 1) (by simpa using hi)))
theorem small_pair {a d : Raw} (ha : SmallR a) (hd : SmallR d) : SmallR (pairR a d) :=
  .mk (show (0 : Nat) ≤ 1000000 by decide) (show (0 : Nat) ≤ 9000 by decide) (fun i hi => by
    match i, hi with
    | 0, _ => exact ha
    | 1, _ => exact hd)
theorem small_list : ∀ l : List Raw, (∀ i (h : i < l.length), SmallR l[i]) → SmallR (listR l .nil)
  | [], _ => .mk (show (0 : Nat) ≤ 1000000 by decide) (show (0 : Nat) ≤ 9000 by decide) (fun _ h => absurd h (Nat.not_lt_zero _))
  | x :: l, h => small_pair (h 0 (by simp)) (small_list l (fun i hi => h (i + 1) (by simpa using hi)))
theorem small_vec {l : List Raw} (h : ∀ i (h : i < l.length), SmallR l[i]) : SmallR (vecR l) :=
  .mk (show (0 : Nat) ≤ 1000000 by decide) (show (0 : Nat) ≤ 9000 by decide) h
/-- What the law's loop has seen of an item. -/
structure ItemOk (x : Raw) : Prop where
  light : LightR x
  may : mayR x = true
  deep : depthR x ≤ 60
theorem may_mk {r : Raw} (h : plainB r = true) (d : depthR r ≤ 64) : mayR r = true := by
  unfold mayR
  rw [h, decide_eq_true d]
  rfl
section
variable {l : List Raw} (h : ∀ i (h : i < l.length), ItemOk l[i]) (hl : l.length ≤ 60)
include h
theorem list_deep : depthR (listR l .nil) ≤ 64 := by
  cases l with
  | nil =>
    show depthR .nil ≤ 64
    unfold Raw.nil
    rw [depthR, depthL]
    decide
  | cons x l =>
    refine Nat.le_trans (depth_list (x :: l) .nil 61 (List.cons_ne_nil _ _) (fun y hy => ?_) ?_) (by decide)
    · obtain ⟨i, hi, rfl⟩ := List.getElem_of_mem hy
      have := (h i hi).deep
      omega
    · unfold Raw.nil
      rw [depthR, depthL]
      decide
theorem vec_deep : depthR (vecR l) ≤ 64 :=
  Nat.le_trans (depth_vec l 61 (fun y hy => by
    obtain ⟨i, hi, rfl⟩ := List.getElem_of_mem hy
    have := (h i hi).deep
    omega) (by decide)) (by decide)
theorem list_may : mayR (listR l .nil) = true := may_mk (plain_list l (fun i hi => may_plain (h i hi).may)) (list_deep h)
include hl
theorem vec_may : mayR (vecR l) = true := may_mk (plain_vec (fun i hi => may_plain (h i hi).may) (by omega)) (vec_deep h)
end
theorem list_text (pl : Bool) (l : List Raw) : showR pl (listR l .nil) = 40 :: (joinB (l.map (showR pl)) ++ [41]) := by
  cases l with
  | nil => rfl
  | cons x l => exact show_list pl x l
theorem vec_text (pl : Bool) (l : List Raw) : showR pl (vecR l) = 35 :: 40 :: (joinB (l.map (showR pl)) ++ [41]) := show_vec pl rfl
theorem tail_room (pl : Bool) : ∀ l : List Raw, (∀ i (h : i < l.length), ItemOk l[i]) → (tailJ (l.map (showR pl))).length ≤ 600000001 * l.length
  | [], _ => Nat.zero_le _
  | x :: l, h => by
    have h1 := tail_room pl l (fun i hi => h (i + 1) (by simpa using hi))
    have h0 := h 0 (by simp)
    have h2 : (showR pl x).length ≤ 600000000 := h0.light.room pl (may_plain h0.may)
    have e : tailJ ((x :: l).map (showR pl)) = 32 :: showR pl x ++ tailJ (l.map (showR pl)) := rfl
    rw [e]
    simp only [List.length_append, List.length_cons]
    omega
theorem join_room (pl : Bool) (l : List Raw) (h : ∀ i (h : i < l.length), ItemOk l[i]) : (joinB (l.map (showR pl))).length ≤ 600000001 * l.length := by
  cases l with
  | nil => exact Nat.zero_le _
  | cons x l =>
    have h1 := tail_room pl (x :: l) h
    have e : tailJ ((x :: l).map (showR pl)) = 32 :: joinB ((x :: l).map (showR pl)) := rfl
    rw [e] at h1
    simp only [List.length_cons] at h1 ⊢
    omega
/-- One more item behind a join. -/
theorem join_snoc : ∀ (l : List (List UInt8)) (a : List UInt8), joinB (l ++ [a]) = if l = [] then a else joinB l ++ 32 :: a
  | [], a => by show a ++ [] = a; simp
  | x :: l, a => by
    rw [if_neg (List.cons_ne_nil _ _)]
    show x ++ tailJ (l ++ [a]) = (x ++ tailJ l) ++ 32 :: a
    unfold tailJ
    rw [List.flatMap_append]
    simp
theorem join_take {l : List Raw} {i : Nat} (hi : i < l.length) (pl : Bool) : joinB ((l.take (i + 1)).map (showR pl)) = if i = 0 then showR pl l[i] else joinB ((l.take i).map (showR pl)) ++ 32 :: showR pl l[i] := by
  rw [List.take_succ_eq_append_getElem hi, List.map_append]
  show joinB ((l.take i).map (showR pl) ++ [showR pl l[i]]) = _
  rw [join_snoc]
  by_cases h : i = 0
  · subst h
    rw [if_pos rfl, if_pos (by simp)]
  · rw [if_neg h, if_neg]
    intro e
    have h2 := congrArg List.length e
    rw [List.length_map, List.length_take, List.length_nil] at h2
    omega
end Go.Proofs.YtonnikipeokkaaaGreatDoor

namespace Go.Proofs.YtonnikipeokkaaaGreatDoor
open Go.RowKit Go.Lib

/-- What the loop stands on. -/
structure PaS (w : World) (l : List Raw) (i : Nat) (s1 s2 : ByteArray) (wr : World) : Prop where
  K : Keep (fun _ => False) w wr
  le : i ≤ l.length
  ok : ∀ j (h : j < l.length), j < i → ItemOk l[j]
  e1 : s1.data.toList = joinB ((l.take i).map (showR false))
  e2 : s2.data.toList = joinB ((l.take i).map (showR true))
theorem text_list {r : Raw} (pl : Bool) (h : mayR r = true) : (textV pl r).data.toList = showR pl r := by
  unfold textV
  rw [if_pos h]
theorem size_list (s : ByteArray) : s.size = s.data.toList.length := by rw [Array.length_toList]; rfl
theorem szBlank : (⟨#[32]⟩ : ByteArray).size = 1 := rfl
theorem PaS.room {w : World} {l : List Raw} {i : Nat} {s1 s2 : ByteArray} {wr : World} (h : PaS w l i s1 s2 wr) (hl : l.length ≤ 60) : s1.size ≤ 40000000000 ∧ s2.size ≤ 40000000000 := by
  have hlt : (l.take i).length ≤ 60 := by rw [List.length_take]; omega
  have hok : ∀ j (hj : j < (l.take i).length), ItemOk (l.take i)[j] := fun j hj => by
    rw [List.length_take] at hj
    rw [List.getElem_take]
    exact h.ok j (by omega) (by omega)
  have q1 := join_room false (l.take i) hok
  have q2 := join_room true (l.take i) hok
  rw [size_list, size_list, h.e1, h.e2]
  omega
theorem join_step {l : List Raw} {i : Nat} (hi : i < l.length) (pl : Bool) (s t : ByteArray) (e : s.data.toList = joinB ((l.take i).map (showR pl))) (ht : t.data.toList = showR pl l[i]) :
    (i = 0 → (s ++ t).data.toList = joinB ((l.take (i + 1)).map (showR pl))) ∧ (i ≠ 0 → (s ++ ⟨#[32]⟩ ++ t).data.toList = joinB ((l.take (i + 1)).map (showR pl))) := by
  constructor
  · rintro rfl
    rw [join_take hi, if_pos rfl, ← ht]
    have e0 : s.data.toList = [] := e
    rw [ByteArray.data_append, Array.toList_append, e0]
    rfl
  · intro h
    rw [join_take hi, if_neg h, ← ht, ← e]
    rw [ByteArray.data_append, ByteArray.data_append, Array.toList_append, Array.toList_append]
    simp
theorem paren_text {T s : ByteArray} (h : T.data.toList = 40 :: (s.data.toList ++ [41])) : (T.toList == (⟨#[40]⟩ ++ s ++ ⟨#[41]⟩ : ByteArray).toList) = true := by
  refine eq_list _ ?_
  rw [h, Lib.toList_data, ByteArray.data_append, ByteArray.data_append, Array.toList_append, Array.toList_append]
  simp
theorem vecp_text {T s : ByteArray} (h : T.data.toList = 35 :: 40 :: (s.data.toList ++ [41])) : (T.toList == (⟨#[35, 40]⟩ ++ s ++ ⟨#[41]⟩ : ByteArray).toList) = true := by
  refine eq_list _ ?_
  rw [h, Lib.toList_data, ByteArray.data_append, ByteArray.data_append, Array.toList_append, Array.toList_append]
  simp
theorem szP : (⟨#[40]⟩ : ByteArray).size = 1 ∧ (⟨#[41]⟩ : ByteArray).size = 1 ∧ (⟨#[35, 40]⟩ : ByteArray).size = 2 := ⟨rfl, rfl, rfl⟩
set_option maxRecDepth 100000 in
set_option maxHeartbeats 16000000 in
theorem lawParts (A : Option Addr) (n c : Nat) (l : List Raw) (vs : Nat → PV) (w : World) (hx : RowX w A n c l vs) (hT : TabT w) (h6 : 6 < w.heap.size) : Calls Tryz.prog 12 #[.slice A n c] w (BoolPost true w) := by
  have HAW := Lib.hid (fun (W : World) (K : Keep (fun _ => False) w W) => shawake_any W (hT.keep K) (Nat.lt_of_lt_of_le h6 K.size))
  have hnm : n ≤ 9223372036854775807 := by have h1 := hx.cap; have h2 := hx.max; unfold maxLen at h2; omega
  by_cases hbig : 60 < n
  · have l1 : decide ((60 : Int) < (n : Int)) = true := decide_eq_true (by omega)
    have l2 : decide (60 < n) = true := decide_eq_true hbig
    clear hx hT h6 hbig
    go_enter Tryz.func12, Tryz.ntmps12
    go_wp2_with fail
    refine (HAW.out _ (Keep.refl _ _)).mono ?_
    rintro e w1 ⟨rfl, k9⟩
    have HK9 := Lib.hid ((Keep.refl _ _).trans k9)
    clear k9
    go_wp2_with fail
    go_ret
    exact ⟨rfl, HK9.out⟩
  · have l1 : decide ((60 : Int) < (n : Int)) = false := decide_eq_false (by omega)
    have l2 : decide (60 < n) = false := decide_eq_false hbig
    have HLN := Lib.hid hx.len
    have HROW := Lib.hid hx.row
    have HH := Lib.hid (fun i (hi : i < l.length) (W : World) (K : Keep (fun _ => False) w W) => heavyX_any (hx.ch i hi) W K)
    have HM := Lib.hid (fun i (hi : i < l.length) (hg : heavyR l[i] = false) (W : World) (K : Keep (fun _ => False) w W) => rmayD_any (((light_of hg).at (hx.ch i hi)).keep0 K) (light_of hg).small (light_of hg).depth)
    have HD := Lib.hid (fun i (hi : i < l.length) (hg : heavyR l[i] = false) (W : World) (K : Keep (fun _ => False) w W) => depth_any ((light_of hg).at (hx.ch i hi)) (light_of hg).depth W K)
    have HW := Lib.hid (fun i (hi : i < l.length) (hg : heavyR l[i] = false) (hm : mayR l[i] = true) (W : World) (K : Keep (fun _ => False) w W) => (show Calls Tryz.prog 30 #[rawV l[i] (vs i)] W (fun e w' => e = .returned (.tuple #[.string (textV false l[i]), .int .i64 0]) ∧ Keep (fun _ => False) W w') from
      (write_any (((light_of hg).at (hx.ch i hi)).keep0 K) (light_of hg).small (light_of hg).depth (hT.keep K) (Nat.lt_of_lt_of_le h6 K.size) (fun hm => Nat.le_trans ((light_of hg).room false (may_plain hm)) (by decide))).mono (fun e w' h => ⟨h.1.trans (by unfold textN; rw [if_pos hm]), h.2⟩)))
    have HY := Lib.hid (fun i (hi : i < l.length) (hg : heavyR l[i] = false) (hm : mayR l[i] = true) (W : World) (K : Keep (fun _ => False) w W) => (show Calls Tryz.prog 31 #[rawV l[i] (vs i)] W (fun e w' => e = .returned (.tuple #[.string (textV true l[i]), .int .i64 0]) ∧ Keep (fun _ => False) W w') from
      (disp_any (((light_of hg).at (hx.ch i hi)).keep0 K) (light_of hg).small (light_of hg).depth (hT.keep K) (Nat.lt_of_lt_of_le h6 K.size) (fun hm => Nat.le_trans ((light_of hg).room true (may_plain hm)) (by decide))).mono (fun e w' h => ⟨h.1.trans (by unfold textN; rw [if_pos hm]), h.2⟩)))
    have HX := Lib.hid hx
    have HT := Lib.hid hT
    have H6 := Lib.hid h6
    have HST := Lib.hid (show PaS w l 0 ⟨#[]⟩ ⟨#[]⟩ w from ⟨Keep.refl _ _, Nat.zero_le _, fun _ _ h => absurd h (Nat.not_lt_zero _), rfl, rfl⟩)
    have hn60 : n ≤ 60 := by omega
    clear hx hT h6 hbig hnm
    go_enter Tryz.func12, Tryz.ntmps12
    go_wp2_with fail
    go_loopw [3, 4, 5] (fun a b iv wr => ∃ (s1 s2 : ByteArray) (i : Nat), a = .string s1 ∧ b = .string s2 ∧ iv = .int .i64 (i : Int) ∧ PaS w l i s1 s2 wr) (fun _ _ iv _ => n - (intOf iv).toNat)
    case atStart => exact ⟨⟨#[]⟩, ⟨#[]⟩, 0, rfl, rfl, rfl, HST.out⟩
    case round =>
      obtain ⟨s1, s2, i, rfl, rfl, rfl, hst⟩ := hrel
      have HS := Lib.hid hst
      have hn2 := hn60
      clear hst
      have hi0 : (0 : Int) ≤ (i : Int) := Int.natCast_nonneg _
      by_cases hlt : i < n
      · have hi1 : i < l.length := by rw [HLN.out]; exact hlt
        have m1 : decide ((i : Int) < (n : Int)) = true := decide_eq_true (by omega)
        have m2 : decide (i < n) = true := decide_eq_true hlt
        have j1 : (i : Int) < (n : Int) := by omega
        obtain ⟨g, o, rfl, hrw⟩ := HROW.out (by omega)
        have HIC := Lib.hid (fun (W : World) (K : Keep (fun _ => False) w W) => (hrw i hi1).keep K id)
        have HC1 := Lib.hid (HH.out i hi1)
        have HC2 := Lib.hid (HM.out i hi1)
        have HC3 := Lib.hid (HD.out i hi1)
        have HC4 := Lib.hid (HW.out i hi1)
        have HC5 := Lib.hid (HY.out i hi1)
        have HOK := Lib.hid (fun (hg : heavyR l[i] = false) (hm : mayR l[i] = true) (hd : depthR l[i] ≤ 60) => (show ItemOk l[i] from ⟨light_of hg, hm, hd⟩))
        have HJ1 := Lib.hid (fun (hm : mayR l[i] = true) => join_step hi1 false s1 (textV false l[i]) HS.out.e1 (text_list false hm))
        have HJ2 := Lib.hid (fun (hm : mayR l[i] = true) => join_step hi1 true s2 (textV true l[i]) HS.out.e2 (text_list true hm))
        have HZ := Lib.hid (fun (hg : heavyR l[i] = false) (hm : mayR l[i] = true) => (show (textV false l[i]).size ≤ 600000000 ∧ (textV true l[i]).size ≤ 600000000 from by
          rw [size_list, size_list, text_list false hm, text_list true hm]
          exact ⟨(light_of hg).room false (may_plain hm), (light_of hg).room true (may_plain hm)⟩))
        have HRM := Lib.hid (HS.out.room (by rw [HLN.out]; exact hn60))
        have HNX := Lib.hid (fun (hg : heavyR l[i] = false) (hm : mayR l[i] = true) (hd : depthR l[i] ≤ 60) (u1 u2 : ByteArray) (W : World) (K : Keep (fun _ => False) w W) (q1 : u1.data.toList = joinB ((l.take (i + 1)).map (showR false))) (q2 : u2.data.toList = joinB ((l.take (i + 1)).map (showR true))) =>
          (show PaS w l (i + 1) u1 u2 W from ⟨K, hi1, fun j hj hji => by
            by_cases e : j = i
            · subst e; exact ⟨light_of hg, hm, hd⟩
            · exact HS.out.ok j hj (by omega), q1, q2⟩))
        obtain ⟨v, hv⟩ : ∃ v, v = vs i := ⟨_, rfl⟩
        obtain ⟨x, hx⟩ : ∃ x, x = l[i]'hi1 := ⟨_, rfl⟩
        rw [← hx, ← hv] at HC1 HC2 HC3 HC4 HC5 HIC
        rw [← hx] at HOK HJ1 HJ2 HZ HNX
        clear hx hv hrw
        generalize textV false x = t1 at HC4 HJ1 HZ
        generalize textV true x = t2 at HC5 HJ2 HZ
        generalize heavyR x = g1 at HC1 HC2 HC3 HC4 HC5 HOK HZ HNX
        generalize mayR x = g2 at HC2 HC4 HC5 HOK HJ1 HJ2 HZ HNX
        generalize depthR x = dp at HC3 HOK HNX
        have HK0 := Lib.hid HS.out.K
        obtain ⟨r0, r1, r2, r3, r4, r5⟩ := (HIC.out _ HK0.out).cells
        go_wp2_with fail
        refine (HC1.out _ HK0.out).mono ?_
        rintro e w1 ⟨rfl, k9⟩
        have HK1 := Lib.hid (HK0.out.trans k9)
        clear k9
        clear r0 r1 r2 r3 r4 r5
        obtain ⟨r0, r1, r2, r3, r4, r5⟩ := (HIC.out _ HK1.out).cells
        cases g1 with
        | true =>
          go_wp2_with fail
          refine (HAW.out _ (HK1.out)).mono ?_
          rintro e w2 ⟨rfl, k9⟩
          have HK9 := Lib.hid ((HK1.out).trans k9)
          clear k9
          go_wp2_with fail
          go_ret
          exact ⟨rfl, HK9.out⟩
        | false =>
          go_wp2_with fail
          refine (HC2.out (by simp) _ HK1.out).mono ?_
          rintro e w2 ⟨rfl, k9⟩
          have HK2 := Lib.hid (HK1.out.trans k9)
          clear k9
          clear r0 r1 r2 r3 r4 r5
          obtain ⟨r0, r1, r2, r3, r4, r5⟩ := (HIC.out _ HK2.out).cells
          cases g2 with
          | false =>
            go_wp2_with fail
            refine (HAW.out _ (HK2.out)).mono ?_
            rintro e w3 ⟨rfl, k9⟩
            have HK9 := Lib.hid ((HK2.out).trans k9)
            clear k9
            go_wp2_with fail
            go_ret
            exact ⟨rfl, HK9.out⟩
          | true =>
            go_wp2_with fail
            refine (HC3.out (by simp) _ HK2.out).mono ?_
            rintro e w3 ⟨rfl, k9⟩
            have HK3 := Lib.hid (HK2.out.trans k9)
            clear k9
            clear r0 r1 r2 r3 r4 r5
            obtain ⟨r0, r1, r2, r3, r4, r5⟩ := (HIC.out _ HK3.out).cells
            by_cases hdp : 60 < dp
            · have p1 : decide ((60 : Int) < (dp : Int)) = true := decide_eq_true (by omega)
              have p2 : decide (60 < dp) = true := decide_eq_true hdp
              clear hdp
              go_wp2_with fail
              refine (HAW.out _ (HK3.out)).mono ?_
              rintro e w4 ⟨rfl, k9⟩
              have HK9 := Lib.hid ((HK3.out).trans k9)
              clear k9
              go_wp2_with fail
              go_ret
              exact ⟨rfl, HK9.out⟩
            · have p1 : decide ((60 : Int) < (dp : Int)) = false := decide_eq_false (by omega)
              have p2 : decide (60 < dp) = false := decide_eq_false hdp
              have HDP := Lib.hid (show dp ≤ 60 by omega)
              clear hdp
              go_wp2_with fail
              refine (HC4.out (by simp) (by simp) _ HK3.out).mono ?_
              rintro e w4 ⟨rfl, k9⟩
              have HK4 := Lib.hid (HK3.out.trans k9)
              clear k9
              clear r0 r1 r2 r3 r4 r5
              obtain ⟨r0, r1, r2, r3, r4, r5⟩ := (HIC.out _ HK4.out).cells
              go_wp2_with fail
              refine (HC5.out (by simp) (by simp) _ HK4.out).mono ?_
              rintro e w5 ⟨rfl, k9⟩
              have HK5 := Lib.hid (HK4.out.trans k9)
              clear k9
              clear r0 r1 r2 r3 r4 r5
              obtain ⟨r0, r1, r2, r3, r4, r5⟩ := (HIC.out _ HK5.out).cells
              have hz := HZ.out (by simp) (by simp)
              have hr := HRM.out
              have HZ2 := Lib.hid hz
              have HR2 := Lib.hid hr
              clear hz hr r0 r1 r2 r3 r4 r5
              by_cases h0 : i = 0
              · have z1 : decide ((0 : Int) < (i : Int)) = false := decide_eq_false (by omega)
                have z2 : decide (0 < i) = false := decide_eq_false (by omega)
                have hadd1 := run_string_add_sum (P := Tryz.prog) w5 s1 t1 (by have := HZ2.out; have := HR2.out; omega)
                have hadd2 := run_string_add_sum (P := Tryz.prog) w5 s2 t2 (by have := HZ2.out; have := HR2.out; omega)
                have HN9 := Lib.hid (HNX.out (by simp) (by simp) HDP.out _ _ w5 HK5.out ((HJ1.out (by simp)).1 h0) ((HJ2.out (by simp)).1 h0))
                clear h0
                go_wp2_with fail
                go_roundw
                case rel => exact ⟨_, _, i + 1, rfl, rfl, by go_num, HN9.out⟩
                case measure => simp only [intOf]; omega
              · have z1 : decide ((0 : Int) < (i : Int)) = true := decide_eq_true (by omega)
                have z2 : decide (0 < i) = true := decide_eq_true (by omega)
                have hb1 := run_string_add_sum (P := Tryz.prog) w5 s1 ⟨#[32]⟩ (by have := HR2.out; rw [szBlank]; omega)
                have hb2 := run_string_add_sum (P := Tryz.prog) w5 s2 ⟨#[32]⟩ (by have := HR2.out; rw [szBlank]; omega)
                have hadd1 := run_string_add_sum (P := Tryz.prog) w5 (s1 ++ ⟨#[32]⟩) t1 (by have := HZ2.out; have := HR2.out; rw [ByteArray.size_append, szBlank]; omega)
                have hadd2 := run_string_add_sum (P := Tryz.prog) w5 (s2 ++ ⟨#[32]⟩) t2 (by have := HZ2.out; have := HR2.out; rw [ByteArray.size_append, szBlank]; omega)
                have HN9 := Lib.hid (HNX.out (by simp) (by simp) HDP.out _ _ w5 HK5.out ((HJ1.out (by simp)).2 h0) ((HJ2.out (by simp)).2 h0))
                clear h0
                go_wp2_with fail
                go_roundw
                case rel => exact ⟨_, _, i + 1, rfl, rfl, by go_num, HN9.out⟩
                case measure => simp only [intOf]; omega
      · have m1 : decide ((i : Int) < (n : Int)) = false := decide_eq_false (by omega)
        have m2 : decide (i < n) = false := decide_eq_false hlt
        have hle := HS.out.le
        rw [HLN.out] at hle
        have hin : i = l.length := by rw [HLN.out]; omega
        have HOK := Lib.hid (fun j (hj : j < l.length) => HS.out.ok j hj (by omega))
        have HE1 : Hid (s1.data.toList = joinB (l.map (showR false))) := Lib.hid (by have := HS.out.e1; rwa [List.take_of_length_le (by omega)] at this)
        have HE2 : Hid (s2.data.toList = joinB (l.map (showR true))) := Lib.hid (by have := HS.out.e2; rwa [List.take_of_length_le (by omega)] at this)
        have HRM := Lib.hid (HS.out.room (by rw [HLN.out]; exact hn60))
        have HLI := Lib.hid (rlistX_any (fun _ => True) l vs A n c wr HLN.out HX.out.cap (by omega) (fun h0 => by
          obtain ⟨g, o, e, hr⟩ := HROW.out h0
          exact ⟨g, o, e, fun j hj => (hr j hj).keep HS.out.K id⟩) (fun j hj => ((HOK.out j hj).light.at (HX.out.ch j hj)).keep0 HS.out.K))
        clear hle hin
        go_wp2_with fail
        refine HLI.out.mono ?_
        rintro e w1 ⟨pl, rfl, hd1, k1⟩
        obtain ⟨d, hd⟩ : ∃ d, d = listR l .nil := ⟨_, rfl⟩
        rw [← hd] at hd1 ⊢
        have hl60 : l.length ≤ 60 := by rw [HLN.out]; exact hn60
        have hmd : mayR d = true := by rw [hd]; exact list_may HOK.out
        have hsd : SmallR d := by rw [hd]; exact small_list l (fun i hi => (HOK.out i hi).light.small)
        have hdd : depthR d ≤ 4000000000000000000 := Nat.le_trans (by rw [hd]; exact list_deep HOK.out) (by decide : (64 : Nat) ≤ 4000000000000000000)
        have hrd : ∀ b, (showR b d).length ≤ 1000000000000 := fun b => by
          have h1 := join_room b l HOK.out
          rw [hd, list_text]
          simp only [List.length_cons, List.length_append, List.length_nil]
          omega
        have hmv : mayR (vecR l) = true := vec_may HOK.out hl60
        have hsv : SmallR (vecR l) := small_vec (fun i hi => (HOK.out i hi).light.small)
        have hdv : depthR (vecR l) ≤ 4000000000000000000 := Nat.le_trans (vec_deep HOK.out) (by decide : (64 : Nat) ≤ 4000000000000000000)
        have hrv : (showR false (vecR l)).length ≤ 1000000000000 := by
          have h1 := join_room false l HOK.out
          rw [vec_text]
          simp only [List.length_cons, List.length_append, List.length_nil]
          omega
        have hva : RawAt (fun _ => True) (fun _ => True) w (vecR l) ⟨none, 0, 0, A, n, c⟩ := .mk (none_limbs w) (fun h => absurd h (Nat.lt_irrefl _)) HLN.out HX.out.cap (by show n * 88 ≤ _; omega) vs (fun h0 => by
          obtain ⟨g, o, e, hr⟩ := HROW.out h0
          exact ⟨g, o, e, trivial, hr⟩) (fun j hj => (HOK.out j hj).light.at (HX.out.ch j hj))
        have HP1 := Lib.hid (paren_text (T := textV false d) (s := s1) (by rw [text_list false hmd, hd, list_text, HE1.out]))
        have HP2 := Lib.hid (paren_text (T := textV true d) (s := s2) (by rw [text_list true hmd, hd, list_text, HE2.out]))
        have HP3 := Lib.hid (vecp_text (T := textV false (vecR l)) (s := s1) (by rw [text_list false hmv, vec_text, HE1.out]))
        have HD1 := Lib.hid hd1
        have HK1 := Lib.hid (HS.out.K.trans k1)
        have HT1 := Lib.hid (HT.out.keep HK1.out)
        have H61 : Hid (6 < w1.heap.size) := Lib.hid (Nat.lt_of_lt_of_le H6.out HK1.out.size)
        have HW1 := Lib.hid (fun (W : World) (K : Keep (fun _ => False) w1 W) => (show Calls Tryz.prog 30 #[rawV d pl] W (fun e w' => e = .returned (.tuple #[.string (textV false d), .int .i64 0]) ∧ Keep (fun _ => False) W w') from
          (write_any (HD1.out.keep0 K) hsd hdd (HT1.out.keep K) (Nat.lt_of_lt_of_le H61.out K.size) (fun _ => hrd false)).mono (fun e w' h => ⟨h.1.trans (by unfold textN; rw [if_pos hmd]), h.2⟩)))
        have HW2 := Lib.hid (fun (W : World) (K : Keep (fun _ => False) w1 W) => (show Calls Tryz.prog 31 #[rawV d pl] W (fun e w' => e = .returned (.tuple #[.string (textV true d), .int .i64 0]) ∧ Keep (fun _ => False) W w') from
          (disp_any (HD1.out.keep0 K) hsd hdd (HT1.out.keep K) (Nat.lt_of_lt_of_le H61.out K.size) (fun _ => hrd true)).mono (fun e w' h => ⟨h.1.trans (by unfold textN; rw [if_pos hmd]), h.2⟩)))
        have HW3 := Lib.hid (fun (W : World) (K : Keep (fun _ => False) w1 W) => (show Calls Tryz.prog 30 #[.agg #[.int .i64 8, .int .i32 0, .bool false, .slice none 0 0, .string ⟨#[]⟩, .slice A n c]] W (fun e w' => e = .returned (.tuple #[.string (textV false (vecR l)), .int .i64 0]) ∧ Keep (fun _ => False) W w') from
          (write_any (hva.keep0 (HK1.out.trans K)) hsv hdv (HT1.out.keep K) (Nat.lt_of_lt_of_le H61.out K.size) (fun _ => hrv)).mono (fun e w' h => ⟨h.1.trans (by unfold textN; rw [if_pos hmv]), h.2⟩)))
        generalize textV false d = t1 at HW1 HP1
        generalize textV true d = t2 at HW2 HP2
        generalize textV false (vecR l) = t3 at HW3 HP3
        have HKA := Lib.hid (show Keep (fun _ => False) w1 ((w1.alloc (.cells #[.int .i64 d.k, .int .i32 d.c, .bool d.neg, .slice pl.A pl.n pl.cp, .string d.t, .slice pl.B pl.m pl.cap] 27)).alloc (.cells #[.int .i64 8, .int .i32 0, .bool false, .slice none 0 0, .string ⟨#[]⟩, .slice A n c] 27)) from ((Keep.refl _ _).alloc _).alloc _)
        have HBD : Hid (((w1.alloc (.cells #[.int .i64 d.k, .int .i32 d.c, .bool d.neg, .slice pl.A pl.n pl.cp, .string d.t, .slice pl.B pl.m pl.cap] 27)).alloc (.cells #[.int .i64 8, .int .i32 0, .bool false, .slice none 0 0, .string ⟨#[]⟩, .slice A n c] 27)).heap[w1.heap.size]? = some (.cells #[.int .i64 d.k, .int .i32 d.c, .bool d.neg, .slice pl.A pl.n pl.cp, .string d.t, .slice pl.B pl.m pl.cap] 27 (0, 0))) := Lib.hid (((Keep.refl (fun _ => False) _).alloc _).heap (heap_alloc_new w1 _) id)
        have HBV : Hid (((w1.alloc (.cells #[.int .i64 d.k, .int .i32 d.c, .bool d.neg, .slice pl.A pl.n pl.cp, .string d.t, .slice pl.B pl.m pl.cap] 27)).alloc (.cells #[.int .i64 8, .int .i32 0, .bool false, .slice none 0 0, .string ⟨#[]⟩, .slice A n c] 27)).heap[w1.heap.size + 1]? = some (.cells #[.int .i64 8, .int .i32 0, .bool false, .slice none 0 0, .string ⟨#[]⟩, .slice A n c] 27 (0, 0))) := Lib.hid (by have h := heap_alloc_new (w1.alloc (.cells #[.int .i64 d.k, .int .i32 d.c, .bool d.neg, .slice pl.A pl.n pl.cp, .string d.t, .slice pl.B pl.m pl.cap] 27)) (.cells #[.int .i64 8, .int .i32 0, .bool false, .slice none 0 0, .string ⟨#[]⟩, .slice A n c] 27); rwa [World.size_alloc] at h)
        clear hd1 k1 hd hmd hsd hdd hrd hmv hsv hdv hrv hva hl60
        obtain ⟨a0, a1, a2, a3, a4, a5⟩ := dat_cells HBD.out
        obtain ⟨b0, b1, b2, b3, b4, b5⟩ := dat_cells HBV.out
        go_wp2_with fail
        have HKZ : Hid (Keep (fun _ => False) ((w1.alloc (.cells #[.int .i64 d.k, .int .i32 d.c, .bool d.neg, .slice pl.A pl.n pl.cp, .string d.t, .slice pl.B pl.m pl.cap] 27)).alloc (.cells #[.int .i64 8, .int .i32 0, .bool false, .slice none 0 0, .string ⟨#[]⟩, .slice A n c] 27)) ((w1.alloc (.cells #[.int .i64 d.k, .int .i32 d.c, .bool d.neg, .slice pl.A pl.n pl.cp, .string d.t, .slice pl.B pl.m pl.cap] 27)).alloc (.cells #[.int .i64 8, .int .i32 0, .bool false, .slice none 0 0, .string ⟨#[]⟩, .slice A n c] 27))) := Lib.hid (Keep.refl _ _)
        generalize (w1.alloc (.cells #[.int .i64 d.k, .int .i32 d.c, .bool d.neg, .slice pl.A pl.n pl.cp, .string d.t, .slice pl.B pl.m pl.cap] 27)).alloc (.cells #[.int .i64 8, .int .i32 0, .bool false, .slice none 0 0, .string ⟨#[]⟩, .slice A n c] 27) = w2 at *
        generalize w1.heap.size + 1 = B2 at *
        generalize w1.heap.size = B1 at *
        have HM1 := Lib.hid (fun (W : World) (K : Keep (fun _ => False) w2 W) => HW1.out W (HKA.out.trans K))
        have HM2 := Lib.hid (fun (W : World) (K : Keep (fun _ => False) w2 W) => HW2.out W (HKA.out.trans K))
        have HM3 := Lib.hid (fun (W : World) (K : Keep (fun _ => False) w2 W) => HW3.out W (HKA.out.trans K))
        refine (HM1.out _ HKZ.out).mono ?_
        rintro e w3 ⟨rfl, k9⟩
        have HKY := Lib.hid (HKZ.out.trans k9)
        clear k9 a0 a1 a2 a3 a4 a5 b0 b1 b2 b3 b4 b5
        obtain ⟨a0, a1, a2, a3, a4, a5⟩ := dat_cells (HKY.out.heap HBD.out id)
        obtain ⟨b0, b1, b2, b3, b4, b5⟩ := dat_cells (HKY.out.heap HBV.out id)
        go_wp2_with fail
        refine (HM2.out _ HKY.out).mono ?_
        rintro e w4 ⟨rfl, k9⟩
        have HKX := Lib.hid (HKY.out.trans k9)
        clear k9 a0 a1 a2 a3 a4 a5 b0 b1 b2 b3 b4 b5
        obtain ⟨a0, a1, a2, a3, a4, a5⟩ := dat_cells (HKX.out.heap HBD.out id)
        obtain ⟨b0, b1, b2, b3, b4, b5⟩ := dat_cells (HKX.out.heap HBV.out id)
        go_wp2_with fail
        refine (HM3.out _ HKX.out).mono ?_
        rintro e w5 ⟨rfl, k9⟩
        have HKW := Lib.hid (HKX.out.trans k9)
        clear k9 a0 a1 a2 a3 a4 a5 b0 b1 b2 b3 b4 b5
        obtain ⟨a0, a1, a2, a3, a4, a5⟩ := dat_cells (HKW.out.heap HBD.out id)
        obtain ⟨b0, b1, b2, b3, b4, b5⟩ := dat_cells (HKW.out.heap HBV.out id)
        have hr := HRM.out
        have hadd1 := run_string_add_sum (P := Tryz.prog) w5 ⟨#[40]⟩ s1 (by rw [szP.1]; omega)
        have hadd2 := run_string_add_sum (P := Tryz.prog) w5 (⟨#[40]⟩ ++ s1) ⟨#[41]⟩ (by rw [ByteArray.size_append, szP.1, szP.2.1]; omega)
        have hadd3 := run_string_add_sum (P := Tryz.prog) w5 ⟨#[40]⟩ s2 (by rw [szP.1]; omega)
        have hadd4 := run_string_add_sum (P := Tryz.prog) w5 (⟨#[40]⟩ ++ s2) ⟨#[41]⟩ (by rw [ByteArray.size_append, szP.1, szP.2.1]; omega)
        have hadd5 := run_string_add_sum (P := Tryz.prog) w5 ⟨#[35, 40]⟩ s1 (by rw [szP.2.2]; omega)
        have hadd6 := run_string_add_sum (P := Tryz.prog) w5 (⟨#[35, 40]⟩ ++ s1) ⟨#[41]⟩ (by rw [ByteArray.size_append, szP.2.2, szP.2.1]; omega)
        have q1 := HP1.out
        have q2 := HP2.out
        have q3 := HP3.out
        have HKV := Lib.hid (HK1.out.trans (HKA.out.trans HKW.out))
        clear hr a0 a1 a2 a3 a4 a5 b0 b1 b2 b3 b4 b5
        go_wp2_with fail
        refine (HAW.out _ HKV.out).mono ?_
        rintro e w6 ⟨rfl, k9⟩
        have HK9 := Lib.hid (HKV.out.trans k9)
        clear k9
        go_wp2_with fail
        go_ret
        exact ⟨rfl, HK9.out⟩
end Go.Proofs.YtonnikipeokkaaaGreatDoor
