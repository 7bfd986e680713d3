/-
  The document's May: may a datum be?  And: what is read may be.
-/
import Derived.Test.YtonnikipeokkaaaGreatDoorPnPlain
import Derived.Test.YtonnikipeokkaaaGreatDoorPnDepth
namespace Go.Proofs.YtonnikipeokkaaaGreatDoor
open Go.RowKit Go.Lib

/-- May a datum be? -/
def mayR (r : Raw) : Bool := plainB r && decide (depthR r ≤ 64)
set_option maxRecDepth 100000 in
set_option maxHeartbeats 4000000 in
theorem rmayD_any {N P : Nat → Prop} {w : World} {r : Raw} {p : PV} (h : RawAt N P w r p) (hS : SmallR r) (hD : depthR r ≤ 4000000000000000000) : Calls Tryz.prog 22 #[rawV r p] w (BoolPost (mayR r) w) := by
  have HP := Lib.hid (fun (W : World) (K : Keep (fun _ => False) w W) => plain_any h hS W K)
  have HD := Lib.hid (fun (W : World) (K : Keep (fun _ => False) w W) => depth_any h hD W K)
  have hmay : mayR r = (plainB r && decide (depthR r ≤ 64)) := rfl
  obtain ⟨m, hm⟩ : ∃ m, m = mayR r := ⟨_, rfl⟩
  rw [← hm] at hmay ⊢
  clear hm
  generalize plainB r = b at HP hmay
  generalize depthR r = d at HD hmay
  have HM := Lib.hid hmay
  have hb1 : (w.alloc (.cells #[.int .i64 r.k, .int .i32 r.c, .bool r.neg, .slice p.A p.n p.cp, .string r.t, .slice p.B p.m p.cap] 27)).heap[w.heap.size]? = some (.cells #[.int .i64 r.k, .int .i32 r.c, .bool r.neg, .slice p.A p.n p.cp, .string r.t, .slice p.B p.m p.cap] 27 (0, 0)) := heap_alloc_new w _
  have HB1 := Lib.hid hb1
  have HK1 := Lib.hid (show Keep (fun _ => False) w (w.alloc (.cells #[.int .i64 r.k, .int .i32 r.c, .bool r.neg, .slice p.A p.n p.cp, .string r.t, .slice p.B p.m p.cap] 27)) from (Keep.refl _ _).alloc _)
  obtain ⟨a0, a1, a2, a3, a4, a5⟩ := dat_cells hb1
  clear hb1 h hS hD hmay
  go_enter Tryz.func22, Tryz.ntmps22
  go_wp2_with fail
  generalize w.alloc (.cells #[.int .i64 r.k, .int .i32 r.c, .bool r.neg, .slice p.A p.n p.cp, .string r.t, .slice p.B p.m p.cap] 27) = w1 at *
  refine (HP.out _ HK1.out).mono ?_
  rintro e w2 ⟨rfl, k2⟩
  have HB2 := Lib.hid (k2.heap HB1.out (by simp))
  have HK2 := Lib.hid (HK1.out.trans k2)
  clear a0 a1 a2 a3 a4 a5 k2
  obtain ⟨a0, a1, a2, a3, a4, a5⟩ := dat_cells HB2.out
  cases b with
  | false =>
    go_wp2_with fail
    go_ret
    exact ⟨by rw [HM.out]; rfl, HK2.out⟩
  | true =>
    go_wp2_with fail
    refine (HD.out _ HK2.out).mono ?_
    rintro e w3 ⟨rfl, k3⟩
    have HK3 := Lib.hid (HK2.out.trans k3)
    clear a0 a1 a2 a3 a4 a5 k3
    go_wp2_with fail
    go_ret
    exact ⟨by rw [HM.out, Bool.true_and]; go_num, HK3.out⟩
/-! ### what is read may be -/
theorem bare_self (c1 c2 c4 c8 : Bool) {r : Raw} (h1 : c1 = true ∨ r.c = 0) (h2 : c2 = true ∨ (r.neg = false ∧ r.mag = [])) (h4 : c4 = true ∨ r.t = ⟨#[]⟩) (h8 : c8 = true ∨ r.l = []) : bareB c1 c2 c4 c8 r = true := by
  unfold bareB
  rw [Bool.and_eq_true, Bool.and_eq_true, Bool.and_eq_true]
  refine ⟨?_, ?_, ?_, ?_⟩
  · rcases h1 with h | h
    · rw [h]; rfl
    · rw [decide_eq_true h, Bool.or_true]
  · rcases h2 with h | h
    · rw [h]; rfl
    · rw [h.1, decide_eq_true h.2]; simp
  · rcases h4 with h | h
    · rw [h]; rfl
    · rw [decide_eq_true h, Bool.or_true]
  · rcases h8 with h | h
    · rw [h]; rfl
    · rw [decide_eq_true h, Bool.or_true]
theorem runes_size : ∀ (m : Nat) (l : List UInt8) (r : List Nat), l.length ≤ m → runesL l = some r → l.length ≤ 4 * r.length := by
  intro m
  induction m with
  | zero => intro l r h _; omega
  | succ m ih =>
    intro l r h hr
    by_cases hl : l = []
    · rw [hl]; simp
    · rw [runesL_step _ hl] at hr
      split at hr
      · cases hr
      · cases hx : runesL (l.drop (decodeL l).2) with
        | none => rw [hx] at hr; cases hr
        | some u =>
          rw [hx] at hr
          injection hr with hr
          subst hr
          have h4 := decodeL_four l
          have hw := decodeL_wd hl
          have h5 := ih _ u (by rw [List.length_drop]; omega) hx
          rw [List.length_drop] at h5
          simp only [List.length_cons]
          omega
theorem zsz : (⟨#[]⟩ : ByteArray).size ≤ 1000000 := by decide
theorem nsz : ([] : List Nat).length ≤ 9000 := by decide
theorem GoodR.small {r : Raw} (h : GoodR r) : SmallR r := by
  have nl : ∀ {k c : Int} {neg : Bool} {mag : List Nat} {t : ByteArray}, ∀ i (hi : i < (Raw.mk k c neg mag t []).l.length), SmallR (Raw.mk k c neg mag t []).l[i] := fun i hi => absurd hi (Nat.not_lt_zero _)
  induction h with
  | atom h => exact .mk zsz nsz nl
  | chr h => exact .mk zsz nsz nl
  | int h => exact .mk zsz (Nat.le_trans h (by decide)) nl
  | str h hr =>
    refine .mk ?_ nsz nl
    have := runes_size _ _ _ (Nat.le_refl _) h
    rw [show ∀ t : ByteArray, (Raw.mk 5 0 false [] t []).t = t from fun _ => rfl]
    rw [← Lib.size_eq] at this
    omega
  | sym h hr =>
    refine .mk ?_ nsz nl
    have := runes_size _ _ _ (Nat.le_refl _) h
    rw [show ∀ t : ByteArray, (Raw.mk 6 0 false [] t []).t = t from fun _ => rfl]
    rw [← Lib.size_eq] at this
    omega
  | pair _ _ iha ihd =>
    refine .mk zsz nsz (fun i hi => ?_)
    match i, hi with
    | 0, _ => exact iha
    | 1, _ => exact ihd
    | i + 2, hi => exact absurd hi (by simp [Raw.l])
  | vec hl h ih => exact .mk zsz nsz ih
theorem GoodR.plain {r : Raw} (h : GoodR r) : plainB r = true := by
  induction h with
  | atom h =>
    rw [plainB, if_pos (by rcases h with h | h | h <;> simp [h])]
    exact bare_self _ _ _ _ (.inr rfl) (.inr ⟨rfl, rfl⟩) (.inr rfl) (.inr rfl)
  | chr h =>
    rw [plainB, if_neg (by simp), if_pos rfl, bare_self _ _ _ _ (.inl rfl) (.inr ⟨rfl, rfl⟩) (.inr rfl) (.inr rfl)]
    unfold charI
    simp [h]
  | @int x h =>
    rw [plainB, if_neg (by simp), if_neg (by simp), if_pos rfl, bare_self _ _ _ _ (.inr rfl) (.inl rfl) (.inr rfl) (.inr rfl)]
    unfold mayB
    simp only [sval_limbs]
    refine decide_eq_true ⟨h, trivial, ?_⟩
    rw [show lval (limbs x.natAbs) = x.natAbs from val_digs BB2 _]
  | str h hr =>
    rw [plainB, if_neg (by simp), if_neg (by simp), if_neg (by simp), if_pos rfl, bare_self _ _ _ _ (.inr rfl) (.inr ⟨rfl, rfl⟩) (.inl rfl) (.inr rfl)]
    unfold textB
    simp only [h]
    simp [hr]
  | sym h hr h0 =>
    rw [plainB, if_neg (by simp), if_neg (by simp), if_neg (by simp), if_neg (by simp), if_pos rfl, bare_self _ _ _ _ (.inr rfl) (.inr ⟨rfl, rfl⟩) (.inl rfl) (.inr rfl)]
    unfold textB
    simp only [h]
    simp [hr, h0]
  | @pair a d _ _ iha ihd =>
    rw [plainB, if_neg (by simp), if_neg (by simp), if_neg (by simp), if_neg (by simp), if_neg (by simp), if_pos rfl, bare_self _ _ _ _ (.inr rfl) (.inr ⟨rfl, rfl⟩) (.inr rfl) (.inl rfl)]
    rw [plainL, plainL, plainL, iha, ihd]
    rfl
  | @vec l hl h ih =>
    rw [plainB, if_neg (by simp), if_neg (by simp), if_neg (by simp), if_neg (by simp), if_neg (by simp), if_neg (by simp), if_pos rfl, bare_self _ _ _ _ (.inr rfl) (.inr ⟨rfl, rfl⟩) (.inr rfl) (.inl rfl)]
    rw [decide_eq_true hl, plainL_true.2 ih]
    rfl
theorem mayR_good {r : Raw} (h : GoodR r) (hd : depthR r ≤ 64) : mayR r = true := by
  unfold mayR
  rw [h.plain, decide_eq_true hd]
  rfl
end Go.Proofs.YtonnikipeokkaaaGreatDoor
