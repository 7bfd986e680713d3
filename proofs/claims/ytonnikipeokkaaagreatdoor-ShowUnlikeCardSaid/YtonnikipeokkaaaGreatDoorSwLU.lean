/-
  The program's text, Write and Display.
  What a light datum's text may take: plain Lean.
  The awake of the laws of show.
  The law ShowUnlike: the walk.
-/
import Derived.Test.YtonnikipeokkaaaGreatDoorSwK
import Derived.Test.YtonnikipeokkaaaGreatDoorSwT
import Derived.Test.YtonnikipeokkaaaGreatDoorSwC
namespace Go.Proofs.YtonnikipeokkaaaGreatDoor
open Go.RowKit Go.Lib

/-- What Write and Display tell: the text, or nothing, and whether it may not be written. -/
def textV (pl : Bool) (r : Raw) : ByteArray := ⟨(if mayR r = true then showR pl r else []).toArray⟩
def textN (r : Raw) : Int := if mayR r = true then 0 else 1
def TextP (pl : Bool) (r : Raw) (w : World) (e : Ending) (w' : World) : Prop := e = .returned (.tuple #[.string (textV pl r), .int .i64 (textN r)]) ∧ Keep (fun _ => False) w w'
theorem may_plain {r : Raw} (h : mayR r = true) : plainB r = true := by
  unfold mayR at h
  rw [Bool.and_eq_true] at h
  exact h.1
abbrev shO (pl : Bool) : Obj := .cells #[.pointer none, .slice none 0 0, .bool pl] 135
theorem shower_new (pl : Bool) {N P : Nat → Prop} {w : World} {r : Raw} {p : PV} (h : RawAt N P w r p) (hT : TabT w) (h6 : 6 < w.heap.size) (hm : mayR r = true) (hlen : (showR pl r).length ≤ 1000000000000) (W : World) (K : Keep (fun _ => False) w W) :
    Calls Tryz.prog 78 #[.pointer (some ⟨W.heap.size, 0, none⟩), rawV r p] (W.alloc (shO pl)) (WrP (W.alloc (shO pl)) W.heap.size pl (showR pl r) none) := by
  have K2 : Keep (fun _ => False) w (W.alloc (shO pl)) := K.alloc _
  have hs := K.size
  have hl : ∀ x, x < w.heap.size → Off W.heap.size none x := fun x hx hg => by
    rcases hg with rfl | hg
    · omega
    · cases hg
  have D : RawAt (Off W.heap.size none) (Off W.heap.size none) (W.alloc (shO pl)) r p := (h.mono (fun x hx _ => hl x hx) (fun x hx _ => hl x hx)).keep0 K2
  have E : EnvS w.heap.size (W.alloc (shO pl)) W.heap.size pl [] none := ⟨h6, (TS.start hT).keep K2 (fun _ h => h.elim), (fun x hx => by
    rcases hx with rfl | hg
    · exact hs
    · cases hg), ShAt.new W pl⟩
  exact (show_any (Alike.well_of r (may_plain hm))).1 w.heap.size _ W.heap.size pl [] none p E D (by simpa using hlen)
set_option maxRecDepth 100000 in
set_option maxHeartbeats 8000000 in
theorem text48_any (pl : Bool) {N P : Nat → Prop} {w : World} {r : Raw} {p : PV} (h : RawAt N P w r p) (hS : SmallR r) (hD : depthR r ≤ 4000000000000000000) (hT : TabT w) (h6 : 6 < w.heap.size) (hlen : mayR r = true → (showR pl r).length ≤ 1000000000000) :
    Calls Tryz.prog 48 #[rawV r p, .bool pl] w (TextP pl r w) := by
  have HMY := Lib.hid (fun (W : World) (K : Keep (fun _ => False) w W) => pmay_any (h.keep0 K) hS hD (hT.keep K).1)
  have HSN := Lib.hid (fun (W : World) (K : Keep (fun _ => False) w W) (hm : mayR r = true) => shower_new pl h hT h6 hm (hlen hm) W K)
  have HTV : Hid (textV pl r = ⟨(if mayR r = true then showR pl r else []).toArray⟩) := Lib.hid rfl
  have HTN : Hid (textN r = if mayR r = true then 0 else 1) := Lib.hid rfl
  unfold TextP
  generalize textV pl r = tv at HTV ⊢
  generalize textN r = tn at HTN ⊢
  generalize mayR r = m at HMY HSN HTV HTN
  generalize showR pl r = T at HSN HTV
  have hb1 : (w.alloc (.cells #[.int .i64 r.k, .int .i32 r.c, .bool r.neg, .slice p.A p.n p.cp, .string r.t, .slice p.B p.m p.cap] 27)).heap[w.heap.size]? = some (.cells #[.int .i64 r.k, .int .i32 r.c, .bool r.neg, .slice p.A p.n p.cp, .string r.t, .slice p.B p.m p.cap] 27 (0, 0)) := heap_alloc_new w _
  have HB1 := Lib.hid hb1
  have HK1 := Lib.hid (show Keep (fun _ => False) w (w.alloc (.cells #[.int .i64 r.k, .int .i32 r.c, .bool r.neg, .slice p.A p.n p.cp, .string r.t, .slice p.B p.m p.cap] 27)) from (Keep.refl _ _).alloc _)
  obtain ⟨a0, a1, a2, a3, a4, a5⟩ := dat_cells hb1
  clear hb1 h hS hD hT h6 hlen
  go_enter Tryz.func48, Tryz.ntmps48
  go_wp2_with fail
  generalize w.alloc (.cells #[.int .i64 r.k, .int .i32 r.c, .bool r.neg, .slice p.A p.n p.cp, .string r.t, .slice p.B p.m p.cap] 27) = w1 at *
  generalize w.heap.size = B1 at *
  refine (HMY.out _ HK1.out).mono ?_
  rintro e w2 ⟨rfl, k2⟩
  have HB2 := Lib.hid (k2.heap HB1.out (by simp))
  have HK2 := Lib.hid (HK1.out.trans k2)
  clear a0 a1 a2 a3 a4 a5 k2
  cases m with
  | false =>
    go_wp2_with fail
    refine bodyPost_ret (v := .tuple #[.string tv, .int .i64 tn]) ?_ rfl ⟨rfl, HK2.out⟩
    rw [HTV.out, HTN.out]
    simp [results, Tryz.results48, go_sem]
  | true =>
    have hbx : (w2.alloc (shO pl)).heap[B1]? = _ := ((Keep.refl (fun _ => False) w2).alloc (shO pl)).heap HB2.out id
    have HK3 := Lib.hid (HK2.out.alloc (shO pl))
    have HS3 := Lib.hid (HSN.out w2 HK2.out rfl)
    have HB0 := Lib.hid HK2.out.size
    obtain ⟨a0, a1, a2, a3, a4, a5⟩ := dat_cells hbx
    clear hbx
    go_wp2_with fail
    refine HS3.out.mono ?_
    rintro e w4 ⟨rfl, g4, hsh, hng, k4⟩
    have HT4 := Lib.hid (sh_text w4 _ pl _ _ hsh)
    have HNG := Lib.hid hng
    have HK4 := Lib.hid k4
    clear hsh hng k4 a0 a1 a2 a3 a4 a5
    go_wp2_with fail
    refine HT4.out.mono ?_
    rintro e w5 ⟨rfl, k5⟩
    have HK5 := Lib.hid k5
    clear k5
    go_wp2_with fail
    refine bodyPost_ret (v := .tuple #[.string tv, .int .i64 tn]) ?_ rfl ⟨rfl, ?_⟩
    · rw [HTV.out, HTN.out]
      simp [results, Tryz.results48, go_sem]
    · have hb := HB0.out
      refine (HK3.out.into HK4.out (fun i hi => ?_)).into HK5.out (fun i hi => ?_)
      · rcases hi with rfl | hi
        · exact hb
        · cases hi
      · rcases hi with rfl | hi
        · exact hb
        · rcases HNG.out with rfl | ⟨k, rfl, hk⟩
          · cases hi
          · injection hi with hi
            have h3 := HK3.out.size
            omega
set_option maxRecDepth 100000 in
set_option maxHeartbeats 8000000 in
/-- Write. -/
theorem write_any {N P : Nat → Prop} {w : World} {r : Raw} {p : PV} (h : RawAt N P w r p) (hS : SmallR r) (hD : depthR r ≤ 4000000000000000000) (hT : TabT w) (h6 : 6 < w.heap.size) (hlen : mayR r = true → (showR false r).length ≤ 1000000000000) :
    Calls Tryz.prog 30 #[rawV r p] w (TextP false r w) := by
  have HK1 := Lib.hid (show Keep (fun _ => False) w (w.alloc (.cells #[.int .i64 r.k, .int .i32 r.c, .bool r.neg, .slice p.A p.n p.cp, .string r.t, .slice p.B p.m p.cap] 27)) from (Keep.refl _ _).alloc _)
  have HC := Lib.hid (text48_any false (h.keep0 HK1.out) hS hD (hT.keep HK1.out) (Nat.lt_of_lt_of_le h6 HK1.out.size) hlen)
  have hb1 : (w.alloc (.cells #[.int .i64 r.k, .int .i32 r.c, .bool r.neg, .slice p.A p.n p.cp, .string r.t, .slice p.B p.m p.cap] 27)).heap[w.heap.size]? = some (.cells #[.int .i64 r.k, .int .i32 r.c, .bool r.neg, .slice p.A p.n p.cp, .string r.t, .slice p.B p.m p.cap] 27 (0, 0)) := heap_alloc_new w _
  obtain ⟨a0, a1, a2, a3, a4, a5⟩ := dat_cells hb1
  unfold TextP at *
  generalize textV false r = tv at HC ⊢
  generalize textN r = tn at HC ⊢
  clear hb1 h hS hD hT h6 hlen
  go_enter Tryz.func30, Tryz.ntmps30
  go_wp2_with fail
  refine HC.out.mono ?_
  rintro e w2 ⟨rfl, k2⟩
  have HK2 := Lib.hid (HK1.out.trans k2)
  clear k2 a0 a1 a2 a3 a4 a5
  go_wp2_with fail
  refine bodyPost_ret (v := .tuple #[.string tv, .int .i64 tn]) ?_ rfl ⟨rfl, HK2.out⟩
  simp [results, Tryz.results30, go_sem]
set_option maxRecDepth 100000 in
set_option maxHeartbeats 8000000 in
/-- Display. -/
theorem disp_any {N P : Nat → Prop} {w : World} {r : Raw} {p : PV} (h : RawAt N P w r p) (hS : SmallR r) (hD : depthR r ≤ 4000000000000000000) (hT : TabT w) (h6 : 6 < w.heap.size) (hlen : mayR r = true → (showR true r).length ≤ 1000000000000) :
    Calls Tryz.prog 31 #[rawV r p] w (TextP true r w) := by
  have HK1 := Lib.hid (show Keep (fun _ => False) w (w.alloc (.cells #[.int .i64 r.k, .int .i32 r.c, .bool r.neg, .slice p.A p.n p.cp, .string r.t, .slice p.B p.m p.cap] 27)) from (Keep.refl _ _).alloc _)
  have HC := Lib.hid (text48_any true (h.keep0 HK1.out) hS hD (hT.keep HK1.out) (Nat.lt_of_lt_of_le h6 HK1.out.size) hlen)
  have hb1 : (w.alloc (.cells #[.int .i64 r.k, .int .i32 r.c, .bool r.neg, .slice p.A p.n p.cp, .string r.t, .slice p.B p.m p.cap] 27)).heap[w.heap.size]? = some (.cells #[.int .i64 r.k, .int .i32 r.c, .bool r.neg, .slice p.A p.n p.cp, .string r.t, .slice p.B p.m p.cap] 27 (0, 0)) := heap_alloc_new w _
  obtain ⟨a0, a1, a2, a3, a4, a5⟩ := dat_cells hb1
  unfold TextP at *
  generalize textV true r = tv at HC ⊢
  generalize textN r = tn at HC ⊢
  clear hb1 h hS hD hT h6 hlen
  go_enter Tryz.func31, Tryz.ntmps31
  go_wp2_with fail
  refine HC.out.mono ?_
  rintro e w2 ⟨rfl, k2⟩
  have HK2 := Lib.hid (HK1.out.trans k2)
  clear k2 a0 a1 a2 a3 a4 a5
  go_wp2_with fail
  refine bodyPost_ret (v := .tuple #[.string tv, .int .i64 tn]) ?_ rfl ⟨rfl, HK2.out⟩
  simp [results, Tryz.results31, go_sem]
end Go.Proofs.YtonnikipeokkaaaGreatDoor

namespace Go.Proofs.YtonnikipeokkaaaGreatDoor
open Go.RowKit Go.Lib

mutual
/-- A datum's nodes. -/
def nodeR : Raw → Nat
  | .mk _ _ _ _ _ l => 1 + nodeL l
def nodeL : List Raw → Nat
  | [] => 0
  | x :: l => nodeR x + nodeL l
end
theorem nodeR_eq (r : Raw) : nodeR r = 1 + nodeL r.l := by
  cases r with
  | mk k c neg mag t l => rw [nodeR]; rfl
mutual
theorem weighR_node : ∀ (r : Raw) (n : Int), 0 ≤ n → 0 ≤ weighR r n → (nodeR r : Int) + weighR r n ≤ n ∧ SmallR r
  | .mk k c neg mag t l, n, hn, h => by
    rw [weighR] at h
    by_cases hc : 3000 < t.size ∨ 300 < mag.length
    · rw [if_pos hc] at h
      exact absurd h (by decide)
    · rw [if_neg hc] at h
      have hw := weighL_le l (n - 1) (by omega)
      have h2 := weighL_node l (n - 1) (by omega) h
      refine ⟨?_, .mk (by show t.size ≤ 1000000; omega) (by show mag.length ≤ 9000; omega) h2.2⟩
      rw [weighR, if_neg hc, nodeR]
      omega
theorem weighL_node : ∀ (l : List Raw) (n : Int), -1 ≤ n → 0 ≤ weighL l n → (nodeL l : Int) + weighL l n ≤ n ∧ ∀ i (hi : i < l.length), SmallR l[i]
  | [], n, hn, h => by
    rw [weighL, nodeL]
    exact ⟨by omega, fun i hi => absurd hi (Nat.not_lt_zero _)⟩
  | x :: l, n, hn, h => by
    rw [weighL] at h
    by_cases h0 : 0 ≤ n
    · rw [if_pos h0] at h
      have hx := weighR_le x n h0
      have hx0 : 0 ≤ weighR x n := by
        have := weighL_le l (weighR x n) hx.1
        omega
      have h1 := weighR_node x n h0 hx0
      have h2 := weighL_node l (weighR x n) hx.1 h
      refine ⟨?_, fun i hi => ?_⟩
      · rw [weighL, if_pos h0, nodeL]
        omega
      · cases i with
        | zero => exact h1.2
        | succ i => exact h2.2 i (by simpa using hi)
    · rw [if_neg h0] at h
      omega
end
mutual
theorem depth_node : ∀ r : Raw, depthR r ≤ nodeR r
  | .mk k c neg mag t l => by
    have h := depthL_node k l
    rw [depthR, nodeR]
    split <;> omega
theorem depthL_node : ∀ (k : Int) (l : List Raw), depthL k l ≤ 1 + nodeL l
  | _, [] => by rw [depthL]; omega
  | k, x :: l => by
    have h1 := depth_node x
    have h2 := depthL_node k l
    rw [depthL, nodeL]
    split <;> omega
end
theorem esc_len (y c : Nat) : (escQ y c).length ≤ 8 := by
  have h := utf_len c
  have hx : (hexT c).length ≤ 2 := by unfold hexT; split <;> simp
  unfold escQ
  split
  · simp only [List.length_cons]; omega
  split
  · simp
  split
  · simp
  split
  · simp
  split
  · simp only [List.length_cons, List.length_append, List.length_nil]; omega
  · omega
theorem esc_flat (y : Nat) : ∀ r : List Nat, (r.flatMap (escQ y)).length ≤ 8 * r.length
  | [] => Nat.zero_le _
  | c :: r => by
    have h1 := esc_flat y r
    have h2 := esc_len y c
    rw [List.flatMap_cons, List.length_append, List.length_cons]
    omega
theorem quote_len {y : Nat} {t : List UInt8} {r : List Nat} (h : runesL t = some r) : (quoteL y t).length ≤ 8 * r.length + 2 := by
  have h1 := esc_flat y r
  unfold quoteL
  rw [h]
  simp only [Option.getD_some, List.length_cons, List.length_append, List.length_nil]
  omega
theorem cname_len (c : Nat) : (cnameL c).length ≤ 20 := by
  have h := utf_len c
  have hx : (hexT c).length ≤ 2 := by unfold hexT; split <;> simp
  unfold cnameL
  repeat' split
  all_goals first | omega | (simp only [List.length_cons, List.length_nil]; omega)
theorem itoa_len {x : Int} (h : (limbs x.natAbs).length ≤ 48) : (itoa x).length ≤ 288002 := by
  have hf := (Fits_iff x).1 h
  have hd := dec_bound hf (by decide)
  by_cases hn : x < 0
  · obtain ⟨u, rfl⟩ : ∃ u : Nat, x = -(u : Int) := ⟨x.natAbs, by omega⟩
    rw [Lib.itoa_neg u (by omega), List.length_cons]
    have e : (-(u : Int)).natAbs = u := by omega
    rw [e] at hd
    omega
  · obtain ⟨u, rfl⟩ : ∃ u : Nat, x = (u : Int) := ⟨x.toNat, by omega⟩
    rw [Lib.itoa_nonneg]
    have e : ((u : Int)).natAbs = u := by omega
    rw [e] at hd
    omega
theorem join_len (f : Raw → List UInt8) : ∀ l : List Raw, (∀ i (h : i < l.length), (f l[i]).length + 4 ≤ 300000 * nodeR l[i]) → (joinB (l.map f)).length ≤ 300000 * nodeL l ∧ (tailJ (l.map f)).length ≤ 300000 * nodeL l
  | [], _ => ⟨Nat.zero_le _, Nat.zero_le _⟩
  | x :: l, h => by
    have h1 := (join_len f l (fun i hi => h (i + 1) (by simpa using hi))).2
    have h2 : (f x).length + 4 ≤ 300000 * nodeR x := h 0 (by simp)
    have e : tailJ ((x :: l).map f) = 32 :: f x ++ tailJ (l.map f) := rfl
    have e2 : joinB ((x :: l).map f) = f x ++ tailJ (l.map f) := rfl
    rw [e, e2, nodeL]
    simp only [List.length_append, List.length_cons]
    omega
theorem leaf_room (pl : Bool) {r : Raw} (hk : r.k ≠ 7) (h : (showR pl r).length + 4 ≤ 300000) : (showR pl r).length + 4 ≤ 300000 * nodeR r ∧ (restR pl r).length ≤ 300000 * nodeR r := by
  have hn := nodeR_eq r
  have h2 : (restR pl r).length ≤ (showR pl r).length + 4 := by
    by_cases h0 : r.k = 0
    · rw [rest_nil pl h0]; simp
    · rw [rest_dot pl hk h0]; simp only [List.length_cons, List.length_append, List.length_nil]; omega
  omega
theorem show_room (pl : Bool) {r : Raw} (h : Alike.WellR r) : (showR pl r).length + 4 ≤ 300000 * nodeR r ∧ (restR pl r).length ≤ 300000 * nodeR r := by
  induction h with
  | @atom k h =>
    refine leaf_room pl (show k ≠ 7 by omega) ?_
    rw [showR_eq]
    rcases h with rfl | rfl | rfl | rfl | rfl <;> simp [selfT, Raw.k]
  | @chr c h =>
    refine leaf_room pl (show (3 : Int) ≠ 7 by decide) ?_
    have h1 := utf_len c
    have h2 := cname_len c
    cases pl with
    | true => show (utfB c).length + 4 ≤ _; omega
    | false => show (35 :: 92 :: cnameL c).length + 4 ≤ _; simp only [List.length_cons]; omega
  | @int x h =>
    refine leaf_room pl (show (4 : Int) ≠ 7 by decide) ?_
    have h1 := itoa_len h
    show (itoa (sval (decide (x < 0)) (limbs x.natAbs))).length + 4 ≤ _
    rw [sval_limbs]
    omega
  | @str t r h hr =>
    refine leaf_room pl (show (5 : Int) ≠ 7 by decide) ?_
    have h1 := quote_len (y := 34) h
    have h2 := (runes_bytes _ _ _ (Nat.le_refl _) h).1
    have h3 := flat_len r
    rw [h2] at h3
    cases pl with
    | true => show t.data.toList.length + 4 ≤ _; omega
    | false => show (quoteL 34 t.data.toList).length + 4 ≤ _; omega
  | @sym t r h hr h0 =>
    refine leaf_room pl (show (6 : Int) ≠ 7 by decide) ?_
    have h1 := quote_len (y := 124) h
    have h2 := (runes_bytes _ _ _ (Nat.le_refl _) h).1
    have h3 := flat_len r
    rw [h2] at h3
    show (if (pl || bareV t.data.toList) = true then t.data.toList else quoteL 124 t.data.toList).length + 4 ≤ _
    split <;> omega
  | @pair a d _ _ ha hd =>
    have e1 := show_pair pl (r := .mk 7 0 false [] ⟨#[]⟩ [a, d]) (a := a) (d := d) rfl rfl
    have e2 := rest_pair pl (r := .mk 7 0 false [] ⟨#[]⟩ [a, d]) (a := a) (d := d) rfl rfl
    rw [e1, e2, nodeR, nodeL, nodeL, nodeL]
    simp only [List.length_append, List.length_cons]
    omega
  | @vec l hl _ ih =>
    have e1 : showR pl (.mk 8 0 false [] ⟨#[]⟩ l) = 35 :: 40 :: (joinB (l.map (showR pl)) ++ [41]) := show_vec pl (r := .mk 8 0 false [] ⟨#[]⟩ l) rfl
    have e2 := rest_dot pl (r := .mk 8 0 false [] ⟨#[]⟩ l) (by show (8 : Int) ≠ 7; decide) (by show (8 : Int) ≠ 0; decide)
    have hj := (join_len (showR pl) l (fun i hi => (ih i hi).1)).1
    rw [e2, e1, nodeR]
    simp only [List.length_append, List.length_cons, List.length_nil]
    omega
/-- What is not heavy. -/
structure LightR (r : Raw) : Prop where
  small : SmallR r
  node : nodeR r ≤ 2000
theorem light_of {r : Raw} (h : heavyR r = false) : LightR r := by
  unfold heavyR at h
  have h0 : 0 ≤ weighR r 2000 := by
    have := of_decide_eq_false h
    omega
  have h1 := weighR_node r 2000 (by decide) h0
  exact ⟨h1.2, by omega⟩
theorem nodeL_len : ∀ l : List Raw, l.length ≤ nodeL l
  | [] => Nat.zero_le _
  | x :: l => by
    have h := nodeL_len l
    have hx := nodeR_eq x
    rw [nodeL, List.length_cons]
    omega
theorem nodeL_item : ∀ (l : List Raw) (i : Nat) (h : i < l.length), nodeR l[i] ≤ nodeL l
  | x :: l, 0, h => by rw [nodeL]; simp only [List.getElem_cons_zero]; omega
  | x :: l, i + 1, h => by
    have h2 := nodeL_item l i (by simpa using h)
    rw [nodeL]
    simp only [List.getElem_cons_succ]
    omega
theorem LightR.at {w : World} {r : Raw} {p : PV} (h : LightR r) (hx : RawX w r p) : RawAt (fun _ => True) (fun _ => True) w r p := by
  induction hx with
  | @mk r p num len mcap big vs row ch ih =>
    obtain ⟨hs, hn⟩ := h
    cases hs with
    | mk ht hm hc =>
      have e := nodeR_eq r
      have hl := nodeL_len r.l
      have hmag := num.row.1
      refine .mk ⟨num.row, num.low, num.cap, by omega⟩ (fun _ _ _ _ => trivial) len mcap (by omega) vs (fun h0 => ?_) (fun i hi => ih i hi ⟨hc i hi, ?_⟩)
      · obtain ⟨b, off, e1, e2⟩ := row h0
        exact ⟨b, off, e1, trivial, e2⟩
      · have := nodeL_item r.l i hi
        omega
theorem LightR.depth {r : Raw} (h : LightR r) : depthR r ≤ 4000000000000000000 := by
  have h1 := depth_node r
  have h2 := h.node
  omega
theorem LightR.room {r : Raw} (h : LightR r) (pl : Bool) (hp : plainB r = true) : (showR pl r).length ≤ 600000000 := by
  have h1 := (show_room pl (Alike.well_of r hp)).1
  have h2 := h.node
  omega
end Go.Proofs.YtonnikipeokkaaaGreatDoor

namespace Go.Proofs.YtonnikipeokkaaaGreatDoor
open Go.RowKit Go.Lib

abbrev abR : Raw := .mk 6 0 false [] ⟨#[97, 32, 98]⟩ []
theorem ab_may : mayR abR = true := by kernel_rfl
theorem ab_show : showR false abR = [124, 97, 32, 98, 124] := by kernel_rfl
theorem ab_disp : showR true abR = [97, 32, 98] := by kernel_rfl
theorem ab_small : SmallR abR := .mk (show (3 : Nat) ≤ 1000000 by decide) (show (0 : Nat) ≤ 9000 by decide) (fun _ h => absurd h (Nat.not_lt_zero _))
theorem ab_depth : depthR abR ≤ 4000000000000000000 := by
  unfold abR
  rw [depthR, depthL]
  decide
theorem ab_at (w : World) : RawAt (fun _ => True) (fun _ => True) w abR PV.none :=
  .mk (none_limbs w) (fun h => absurd h (Nat.lt_irrefl _)) rfl (Nat.le_refl _) (show 0 * 88 ≤ 140737488351232 by omega) (fun _ => PV.none) (fun h => absurd h (Nat.lt_irrefl _)) (fun _ h => absurd h (Nat.not_lt_zero _))
theorem ab_write (w : World) (hT : TabT w) (h6 : 6 < w.heap.size) : Calls Tryz.prog 30 #[.agg #[.int .i64 6, .int .i32 0, .bool false, .slice none 0 0, .string ⟨#[97, 32, 98]⟩, .slice none 0 0]] w (fun e w' => e = .returned (.tuple #[.string ⟨#[124, 97, 32, 98, 124]⟩, .int .i64 0]) ∧ Keep (fun _ => False) w w') := by
  have h := write_any (ab_at w) ab_small ab_depth hT h6 (fun _ => by rw [ab_show]; decide)
  refine h.mono ?_
  rintro e w' ⟨rfl, k⟩
  refine ⟨?_, k⟩
  unfold textV textN
  rw [if_pos ab_may, if_pos ab_may, ab_show]
theorem ab_display (w : World) (hT : TabT w) (h6 : 6 < w.heap.size) : Calls Tryz.prog 31 #[.agg #[.int .i64 6, .int .i32 0, .bool false, .slice none 0 0, .string ⟨#[97, 32, 98]⟩, .slice none 0 0]] w (fun e w' => e = .returned (.tuple #[.string ⟨#[97, 32, 98]⟩, .int .i64 0]) ∧ Keep (fun _ => False) w w') := by
  have h := disp_any (ab_at w) ab_small ab_depth hT h6 (fun _ => by rw [ab_disp]; decide)
  refine h.mono ?_
  rintro e w' ⟨rfl, k⟩
  refine ⟨?_, k⟩
  unfold textV textN
  rw [if_pos ab_may, if_pos ab_may, ab_disp]
set_option maxRecDepth 100000 in
set_option maxHeartbeats 8000000 in
theorem shawake_any (w : World) (hT : TabT w) (h6 : 6 < w.heap.size) : Calls Tryz.prog 28 #[] w (BoolPost true w) := by
  have HW := Lib.hid (fun (W : World) (K : Keep (fun _ => False) w W) => ab_write W (hT.keep K) (Nat.lt_of_lt_of_le h6 K.size))
  have HD := Lib.hid (fun (W : World) (K : Keep (fun _ => False) w W) => ab_display W (hT.keep K) (Nat.lt_of_lt_of_le h6 K.size))
  clear hT h6
  go_enter Tryz.func28, Tryz.ntmps28
  go_wp2_with fail
  refine (HW.out _ (Keep.refl _ _)).mono ?_
  rintro e w1 ⟨rfl, k1⟩
  have HK1 := Lib.hid k1
  clear k1
  go_wp2_with fail
  refine (HD.out _ HK1.out).mono ?_
  rintro e w2 ⟨rfl, k2⟩
  have HK2 := Lib.hid (HK1.out.trans k2)
  clear k2
  go_wp2_with fail
  go_ret
  exact ⟨rfl, HK2.out⟩
end Go.Proofs.YtonnikipeokkaaaGreatDoor

namespace Go.Proofs.YtonnikipeokkaaaGreatDoor
open Go.RowKit Go.Lib

/-- What the law's answer says: written alike or not, as they are the same or not. -/
theorem alike_text {a b : Raw} (ha : mayR a = true) (hb : mayR b = true) : textV false a = textV false b ↔ a = b := by
  constructor
  · intro e
    unfold textV at e
    rw [if_pos ha, if_pos hb] at e
    have e2 : (showR false a).toArray = (showR false b).toArray := by injection e
    exact Alike.show_inj (may_plain ha) (may_plain hb) (by simpa using congrArg Array.toList e2)
  · rintro rfl
    rfl
structure TwoAt (w : World) (x y : Raw) (p q : PV) (B1 B2 : Nat) (W : World) : Prop where
  K : Keep (fun _ => False) w W
  h1 : W.heap[B1]? = some (.cells #[.int .i64 x.k, .int .i32 x.c, .bool x.neg, .slice p.A p.n p.cp, .string x.t, .slice p.B p.m p.cap] 27 (0, 0))
  h2 : W.heap[B2]? = some (.cells #[.int .i64 y.k, .int .i32 y.c, .bool y.neg, .slice q.A q.n q.cp, .string y.t, .slice q.B q.m q.cap] 27 (0, 0))
theorem TwoAt.keep {w W W' : World} {x y : Raw} {p q : PV} {B1 B2 : Nat} (h : TwoAt w x y p q B1 B2 W) (k : Keep (fun _ => False) W W') : TwoAt w x y p q B1 B2 W' := ⟨h.K.trans k, k.heap h.h1 id, k.heap h.h2 id⟩
set_option maxRecDepth 100000 in
set_option maxHeartbeats 8000000 in
theorem lawUnlike (x : Raw) (p : PV) (y : Raw) (q : PV) (w : World) (hx : RawX w x p) (hy : RawX w y q) (hT : TabT w) (h6 : 6 < w.heap.size) : Calls Tryz.prog 11 #[rawV x p, rawV y q] w (BoolPost true w) := by
  have HAW := Lib.hid (fun (W : World) (K : Keep (fun _ => False) w W) => shawake_any W (hT.keep K) (Nat.lt_of_lt_of_le h6 K.size))
  have HH1 := Lib.hid (fun (W : World) (K : Keep (fun _ => False) w W) => heavyX_any hx W K)
  have HH2 := Lib.hid (fun (W : World) (K : Keep (fun _ => False) w W) => heavyX_any hy W K)
  have HM1 := Lib.hid (fun (hg : heavyR x = false) (W : World) (K : Keep (fun _ => False) w W) => rmayD_any (((light_of hg).at hx).keep0 K) (light_of hg).small (light_of hg).depth)
  have HM2 := Lib.hid (fun (hg : heavyR y = false) (W : World) (K : Keep (fun _ => False) w W) => rmayD_any (((light_of hg).at hy).keep0 K) (light_of hg).small (light_of hg).depth)
  have HW1 := Lib.hid (fun (hg : heavyR x = false) (hm : mayR x = true) (W : World) (K : Keep (fun _ => False) w W) => (show Calls Tryz.prog 30 #[rawV x p] W (fun e w' => e = .returned (.tuple #[.string (textV false x), .int .i64 0]) ∧ Keep (fun _ => False) W w') from
    (write_any (((light_of hg).at hx).keep0 K) (light_of hg).small (light_of hg).depth (hT.keep K) (Nat.lt_of_lt_of_le h6 K.size) (fun hm => Nat.le_trans ((light_of hg).room false (may_plain hm)) (by decide))).mono (fun e w' h => ⟨h.1.trans (by unfold textN; rw [if_pos hm]), h.2⟩)))
  have HW2 := Lib.hid (fun (hg : heavyR y = false) (hm : mayR y = true) (W : World) (K : Keep (fun _ => False) w W) => (show Calls Tryz.prog 30 #[rawV y q] W (fun e w' => e = .returned (.tuple #[.string (textV false y), .int .i64 0]) ∧ Keep (fun _ => False) W w') from
    (write_any (((light_of hg).at hy).keep0 K) (light_of hg).small (light_of hg).depth (hT.keep K) (Nat.lt_of_lt_of_le h6 K.size) (fun hm => Nat.le_trans ((light_of hg).room false (may_plain hm)) (by decide))).mono (fun e w' h => ⟨h.1.trans (by unfold textN; rw [if_pos hm]), h.2⟩)))
  have HSM := Lib.hid (fun (hg : heavyR x = false) (hg2 : heavyR y = false) (W : World) (K : Keep (fun _ => False) w W) => rsame_any ((light_of hg).at hx) y q W K (((light_of hg2).at hy).keep0 K))
  have HAL := Lib.hid (fun (ha : mayR x = true) (hb : mayR y = true) => alike_text ha hb)
  generalize textV false x = t1 at HW1 HAL
  generalize textV false y = t2 at HW2 HAL
  obtain ⟨s, hs⟩ : ∃ s, s = eqR x y := ⟨_, rfl⟩
  rw [← hs] at HSM
  have HEQ : Hid (s = true ↔ x = y) := Lib.hid (by rw [hs]; exact eqR_true)
  clear hs
  generalize heavyR x = g1 at HH1 HM1 HW1 HSM
  generalize heavyR y = g2 at HH2 HM2 HW2 HSM
  generalize mayR x = m1 at HM1 HW1 HAL
  generalize mayR y = m2 at HM2 HW2 HAL
  have K2 : Keep (fun _ => False) w ((w.alloc (.cells #[.int .i64 x.k, .int .i32 x.c, .bool x.neg, .slice p.A p.n p.cp, .string x.t, .slice p.B p.m p.cap] 27)).alloc (.cells #[.int .i64 y.k, .int .i32 y.c, .bool y.neg, .slice q.A q.n q.cp, .string y.t, .slice q.B q.m q.cap] 27)) := ((Keep.refl _ _).alloc _).alloc _
  have hS : TwoAt w x y p q w.heap.size (w.heap.size + 1) ((w.alloc (.cells #[.int .i64 x.k, .int .i32 x.c, .bool x.neg, .slice p.A p.n p.cp, .string x.t, .slice p.B p.m p.cap] 27)).alloc (.cells #[.int .i64 y.k, .int .i32 y.c, .bool y.neg, .slice q.A q.n q.cp, .string y.t, .slice q.B q.m q.cap] 27)) :=
    ⟨K2, ((Keep.refl (fun _ => False) _).alloc _).heap (heap_alloc_new w _) id, by have h := heap_alloc_new (w.alloc (.cells #[.int .i64 x.k, .int .i32 x.c, .bool x.neg, .slice p.A p.n p.cp, .string x.t, .slice p.B p.m p.cap] 27)) (.cells #[.int .i64 y.k, .int .i32 y.c, .bool y.neg, .slice q.A q.n q.cp, .string y.t, .slice q.B q.m q.cap] 27); rwa [World.size_alloc] at h⟩
  have HS := Lib.hid hS
  obtain ⟨a0, a1, a2, a3, a4, a5⟩ := dat_cells hS.h1
  obtain ⟨b0, b1, b2, b3, b4, b5⟩ := dat_cells hS.h2
  clear hS K2 hx hy hT h6
  go_enter Tryz.func11, Tryz.ntmps11
  go_wp2_with fail
  generalize (w.alloc (.cells #[.int .i64 x.k, .int .i32 x.c, .bool x.neg, .slice p.A p.n p.cp, .string x.t, .slice p.B p.m p.cap] 27)).alloc (.cells #[.int .i64 y.k, .int .i32 y.c, .bool y.neg, .slice q.A q.n q.cp, .string y.t, .slice q.B q.m q.cap] 27) = w2 at *
  generalize w.heap.size + 1 = B2 at *
  generalize w.heap.size = B1 at *
  refine (HH1.out _ HS.out.K).mono ?_
  rintro e w3 ⟨rfl, k9⟩
  have HS3 := Lib.hid (HS.out.keep k9)
  clear k9
  clear a0 a1 a2 a3 a4 a5 b0 b1 b2 b3 b4 b5
  obtain ⟨a0, a1, a2, a3, a4, a5⟩ := dat_cells HS3.out.h1
  obtain ⟨b0, b1, b2, b3, b4, b5⟩ := dat_cells HS3.out.h2
  cases g1 with
  | true =>
    go_wp2_with fail
    refine (HAW.out _ HS3.out.K).mono ?_
    rintro e w4 ⟨rfl, k9⟩
    have HK9 := Lib.hid (HS3.out.K.trans k9)
    clear k9
    go_wp2_with fail
    go_ret
    exact ⟨rfl, HK9.out⟩
  | false =>
    go_wp2_with fail
    refine (HH2.out _ HS3.out.K).mono ?_
    rintro e w4 ⟨rfl, k9⟩
    have HS4 := Lib.hid (HS3.out.keep k9)
    clear k9
    clear a0 a1 a2 a3 a4 a5 b0 b1 b2 b3 b4 b5
    obtain ⟨a0, a1, a2, a3, a4, a5⟩ := dat_cells HS4.out.h1
    obtain ⟨b0, b1, b2, b3, b4, b5⟩ := dat_cells HS4.out.h2
    cases g2 with
    | true =>
      go_wp2_with fail
      refine (HAW.out _ HS4.out.K).mono ?_
      rintro e w5 ⟨rfl, k9⟩
      have HK9 := Lib.hid (HS4.out.K.trans k9)
      clear k9
      go_wp2_with fail
      go_ret
      exact ⟨rfl, HK9.out⟩
    | false =>
      go_wp2_with fail
      refine (HM1.out (by simp) _ HS4.out.K).mono ?_
      rintro e w5 ⟨rfl, k9⟩
      have HS5 := Lib.hid (HS4.out.keep k9)
      clear k9
      clear a0 a1 a2 a3 a4 a5 b0 b1 b2 b3 b4 b5
      obtain ⟨a0, a1, a2, a3, a4, a5⟩ := dat_cells HS5.out.h1
      obtain ⟨b0, b1, b2, b3, b4, b5⟩ := dat_cells HS5.out.h2
      cases m1 with
      | false =>
        go_wp2_with fail
        refine (HAW.out _ HS5.out.K).mono ?_
        rintro e w6 ⟨rfl, k9⟩
        have HK9 := Lib.hid (HS5.out.K.trans k9)
        clear k9
        go_wp2_with fail
        go_ret
        exact ⟨rfl, HK9.out⟩
      | true =>
        go_wp2_with fail
        refine (HM2.out (by simp) _ HS5.out.K).mono ?_
        rintro e w6 ⟨rfl, k9⟩
        have HS6 := Lib.hid (HS5.out.keep k9)
        clear k9
        clear a0 a1 a2 a3 a4 a5 b0 b1 b2 b3 b4 b5
        obtain ⟨a0, a1, a2, a3, a4, a5⟩ := dat_cells HS6.out.h1
        obtain ⟨b0, b1, b2, b3, b4, b5⟩ := dat_cells HS6.out.h2
        cases m2 with
        | false =>
          go_wp2_with fail
          refine (HAW.out _ HS6.out.K).mono ?_
          rintro e w7 ⟨rfl, k9⟩
          have HK9 := Lib.hid (HS6.out.K.trans k9)
          clear k9
          go_wp2_with fail
          go_ret
          exact ⟨rfl, HK9.out⟩
        | true =>
          go_wp2_with fail
          refine (HW1.out (by simp) (by simp) _ HS6.out.K).mono ?_
          rintro e w7 ⟨rfl, k9⟩
          have HS7 := Lib.hid (HS6.out.keep k9)
          clear k9
          clear a0 a1 a2 a3 a4 a5 b0 b1 b2 b3 b4 b5
          obtain ⟨a0, a1, a2, a3, a4, a5⟩ := dat_cells HS7.out.h1
          obtain ⟨b0, b1, b2, b3, b4, b5⟩ := dat_cells HS7.out.h2
          go_wp2_with fail
          refine (HW2.out (by simp) (by simp) _ HS7.out.K).mono ?_
          rintro e w8 ⟨rfl, k9⟩
          have HS8 := Lib.hid (HS7.out.keep k9)
          clear k9
          clear a0 a1 a2 a3 a4 a5 b0 b1 b2 b3 b4 b5
          obtain ⟨a0, a1, a2, a3, a4, a5⟩ := dat_cells HS8.out.h1
          obtain ⟨b0, b1, b2, b3, b4, b5⟩ := dat_cells HS8.out.h2
          have hal : t1 = t2 ↔ s = true := (HAL.out (by simp) (by simp)).trans HEQ.out.symm
          have e1 : (t1.toList == t2.toList) = s := by
            cases s with
            | true => rw [hal.2 rfl]; simp
            | false =>
              refine beq_eq_false_iff_ne.2 (fun h => ?_)
              have h2 : t1 = t2 := by
                rw [Lib.toList_data, Lib.toList_data] at h
                cases t1
                cases t2
                exact congrArg ByteArray.mk (Array.toList_inj.1 h)
              cases hal.1 h2
          have HE1 := Lib.hid e1
          clear hal e1
          go_wp2_with fail
          refine (HSM.out (by simp) (by simp) _ HS8.out.K).mono ?_
          rintro e w9 ⟨rfl, k9⟩
          have HS9 := Lib.hid (HS8.out.keep k9)
          clear k9
          clear a0 a1 a2 a3 a4 a5 b0 b1 b2 b3 b4 b5
          have e1 := HE1.out
          have e2 : ((t1.toList == t2.toList) == s) = true := by rw [e1]; simp
          go_wp2_with fail
          refine (HAW.out _ HS9.out.K).mono ?_
          rintro e w10 ⟨rfl, k9⟩
          have HK9 := Lib.hid (HS9.out.K.trans k9)
          clear k9
          go_wp2_with fail
          go_ret
          exact ⟨rfl, HK9.out⟩
end Go.Proofs.YtonnikipeokkaaaGreatDoor
