/-
  List of data of any kind.  (Turned from rlist_any.)
-/
import Derived.Test.YtonnikipeokkaaaGreatDoorPaDoc
namespace Go.Proofs.YtonnikipeokkaaaGreatDoor
open Go.RowKit Go.Lib

theorem RawAt.pairX {N Q : Nat → Prop} {w : World} {a d : Raw} {pa pd : PV} {b : Nat} (ha : RawAt N Q w a pa) (hd : RawAt N Q w d pd) (hb : w.heap[b]? = some (.cells #[.int .i64 a.k, .int .i32 a.c, .bool a.neg, .slice pa.A pa.n pa.cp, .string a.t, .slice pa.B pa.m pa.cap, .int .i64 d.k, .int .i32 d.c, .bool d.neg, .slice pd.A pd.n pd.cp, .string d.t, .slice pd.B pd.m pd.cap] 27 (0, 0))) (hQ : Q b) :
    RawAt N Q w (pairR a d) ⟨none, 0, 0, some ⟨b, 0, none⟩, 2, 2⟩ := by
  refine .mk (none_limbs w) (fun h => absurd h (Nat.lt_irrefl _)) rfl (Nat.le_refl _) (by show 2 * 88 ≤ _; omega) (fun i => if i = 0 then pa else pd) (fun _ => ⟨b, 0, rfl, hQ, pair_items hb⟩) (fun i hi => ?_)
  match i, hi with
  | 0, _ => exact ha
  | 1, _ => exact hd
structure LiX (Q : Nat → Prop) (w : World) (rs : List Raw) (i B : Nat) (d : Raw) (pd : PV) (wr : World) : Prop where
  le : i ≤ rs.length
  eqd : d = listR (rs.drop i) .nil
  at_ : RawAt Q Q wr d pd
  h2 : wr.heap[B]? = some (.cells #[.int .i64 0, .int .i32 0, .bool false, .slice none 0 0, .string ⟨#[]⟩, .slice none 0 0] 27 (0, 0))
  h3 : wr.heap[B + 1]? = some (.cells #[.int .i64 d.k, .int .i32 d.c, .bool d.neg, .slice pd.A pd.n pd.cp, .string d.t, .slice pd.B pd.m pd.cap] 27 (0, 0))
  K : Keep (fun _ => False) w wr
theorem LiX.drew {Q : Nat → Prop} {w : World} {rs : List Raw} {i B : Nat} {d : Raw} {pd : PV} {wr : World} (h : LiX Q w rs i B d pd wr) : LiX Q w rs i B d pd wr.drew := ⟨h.le, h.eqd, h.at_.keep0 ((Keep.refl _ _).drew), h.h2, h.h3, h.K.drew⟩
def ListPoX (P : Nat → Prop) (d : Raw) (w : World) (e : Ending) (w' : World) : Prop := ∃ p : PV, e = .returned (rawV d p) ∧ RawAt (OrNew P w.heap.size) (OrNew P w.heap.size) w' d p ∧ Keep (fun _ => False) w w'
set_option maxRecDepth 100000 in
set_option maxHeartbeats 4000000 in
theorem rlistX_any (P : Nat → Prop) (rs : List Raw) (vs : Nat → PV) (A : Option Addr) (n cap : Nat) (w : World) (hn : rs.length = n) (_hcap : n ≤ cap) (hbig : n ≤ 9223372036854775807)
    (hrow : 0 < n → ∃ b off, A = some ⟨b, off, none⟩ ∧ ∀ i (h : i < rs.length), ItemC w b off i rs[i] (vs i)) (hch : ∀ i (h : i < rs.length), RawAt P P w rs[i] (vs i)) :
    Calls Tryz.prog 26 #[.slice A n cap] w (ListPoX P (listR rs .nil) w) := by
  have HN := Lib.hid hn
  have HROW := Lib.hid hrow
  have HCH := Lib.hid (fun i (h : i < rs.length) => (hch i h).mono (M := OrNew P w.heap.size) (Q := OrNew P w.heap.size) (fun b lt hP => .inl ⟨hP, lt⟩) (fun b lt hP => .inl ⟨hP, lt⟩))
  have HST := Lib.hid (show LiX (OrNew P w.heap.size) w rs n w.heap.size .nil PV.none ((w.alloc (.cells #[.int .i64 0, .int .i32 0, .bool false, .slice none 0 0, .string ⟨#[]⟩, .slice none 0 0] 27)).alloc (.cells #[.int .i64 0, .int .i32 0, .bool false, .slice none 0 0, .string ⟨#[]⟩, .slice none 0 0] 27)) from ⟨by omega, by rw [List.drop_of_length_le (by omega)]; rfl, RawAt.nil _ _ _, bx_old (heap_alloc_new w _) _, by have := heap_alloc_new (w.alloc (.cells #[.int .i64 0, .int .i32 0, .bool false, .slice none 0 0, .string ⟨#[]⟩, .slice none 0 0] 27)) (.cells #[.int .i64 0, .int .i32 0, .bool false, .slice none 0 0, .string ⟨#[]⟩, .slice none 0 0] 27); rwa [World.size_alloc] at this, ((Keep.refl _ _).alloc _).alloc _⟩)
  clear hn hrow hch
  go_enter Tryz.func26, Tryz.ntmps26
  go_wp2_with fail
  generalize ((w.alloc (.cells #[.int .i64 0, .int .i32 0, .bool false, .slice none 0 0, .string ⟨#[]⟩, .slice none 0 0] 27)).alloc (.cells #[.int .i64 0, .int .i32 0, .bool false, .slice none 0 0, .string ⟨#[]⟩, .slice none 0 0] 27)) = w1 at *
  go_loopw [4] (fun iv wr => ∃ (i : Nat) (d : Raw) (pd : PV), iv = .int .i64 ((i : Int) - 1) ∧ LiX (OrNew P w.heap.size) w rs i w.heap.size d pd wr) (fun iv _ => (intOf iv + 1).toNat)
  case atStart => exact ⟨n, .nil, PV.none, by first | rfl | go_num, HST.out⟩
  case round =>
    obtain ⟨i, d, pd, rfl, hst⟩ := hrel
    have HS := Lib.hid hst
    have hle := hst.le
    have HB := Lib.hid (show w.heap.size + 1 < wr.heap.size from heap_lt hst.h3)
    clear hst
    generalize hB0 : w.heap.size = B at *
    obtain ⟨⟨c0, c1, c2, c3, c4, c5⟩, f0, f1, f2, f3, f4, f5⟩ := six_cells HS.out.h3
    cases i with
    | zero =>
      have l1 : decide ((0 : Int) ≤ ((0 : Nat) : Int) - 1) = false := by decide
      obtain ⟨⟨a0, a1, a2, a3, a4, a5⟩, g0, g1, g2, g3, g4, g5⟩ := six_cells HS.out.h2
      have HE := Lib.hid (six_keep HS.out.K (Nat.le_of_eq hB0) (.int .i64 d.k) (.int .i32 d.c) (.bool d.neg) (.slice pd.A pd.n pd.cp) (.string d.t) (.slice pd.B pd.m pd.cap))
      have HR := Lib.hid (six_cells (six_row HS.out.h2 (.int .i64 d.k) (.int .i32 d.c) (.bool d.neg) (.slice pd.A pd.n pd.cp) (.string d.t) (.slice pd.B pd.m pd.cap))).1
      go_wp2_with fail
      refine bodyPost_ret (v := rawV d pd) ?_ rfl ?_
      · obtain ⟨e0, e1, e2, e3, e4, e5⟩ := HR.out
        simp [results, Tryz.results26, go_sem, e0, e1, e2, e3, e4, e5]
      · refine ⟨pd, ?_, ?_, HE.out⟩
        · have := HS.out.eqd
          rw [List.drop_zero] at this
          rw [this]
        · have := HS.out.eqd
          rw [List.drop_zero] at this
          rw [← this, hB0]
          refine HS.out.at_.keep (six_self _ _ _ _ _ _ _ _) ?_
          rintro b rfl
          constructor <;> (rintro (⟨_, h⟩ | h) <;> omega)
    | succ i =>
      have hi : i < rs.length := by omega
      have e1 : (((i + 1 : Nat) : Int) - 1) = (i : Int) := by omega
      rw [e1]
      have l1 : decide ((0 : Int) ≤ (i : Int)) = true := decide_eq_true (by omega)
      obtain ⟨g, o, eA, hrw⟩ := HROW.out (by rw [← HN.out]; omega)
      subst eA
      have hic := (hrw i hi).keep HS.out.K id
      obtain ⟨x, hx⟩ : ∃ x, x = rs[i] := ⟨_, rfl⟩
      obtain ⟨v, hv⟩ : ∃ v, v = vs i := ⟨_, rfl⟩
      have HX := Lib.hid (show RawAt (OrNew P B) (OrNew P B) wr x v from by rw [hx, hv]; exact (HCH.out i hi).keep0 HS.out.K)
      have HD := Lib.hid (show pairR x d = listR (rs.drop i) .nil from by rw [hx, HS.out.eqd, list_drop hi])
      rw [← hx, ← hv] at hic
      obtain ⟨r0, r1, r2, r3, r4, r5⟩ := hic.cells
      have hi0 : (0 : Int) ≤ (i : Int) := Int.natCast_nonneg _
      have hi1 : (i : Int) < (n : Int) := by have := HN.out; omega
      obtain ⟨⟨a0, a1, a2, a3, a4, a5⟩, g0, g1, g2, g3, g4, g5⟩ := six_cells (bx_old HS.out.h3 (.cells #[.int .i64 x.k, .int .i32 x.c, .bool x.neg, .slice v.A v.n v.cp, .string x.t, .slice v.B v.m v.cap, .int .i64 d.k, .int .i32 d.c, .bool d.neg, .slice pd.A pd.n pd.cp, .string d.t, .slice pd.B pd.m pd.cap] 27))
      have HNEW := Lib.hid (show LiX (OrNew P B) w rs i B (pairR x d) ⟨none, 0, 0, some ⟨wr.heap.size, 0, none⟩, 2, 2⟩ (sixSet (wr.alloc (.cells #[.int .i64 x.k, .int .i32 x.c, .bool x.neg, .slice v.A v.n v.cp, .string x.t, .slice v.B v.m v.cap, .int .i64 d.k, .int .i32 d.c, .bool d.neg, .slice pd.A pd.n pd.cp, .string d.t, .slice pd.B pd.m pd.cap] 27)) (B + 1) (.int .i64 7) (.int .i32 0) (.bool false) (.slice none 0 0) (.string ⟨#[]⟩) (.slice (some ⟨wr.heap.size, 0, none⟩) 2 2)).drew from LiX.drew (by
        have k2 : Keep (fun _ => False) wr (wr.alloc (.cells #[.int .i64 x.k, .int .i32 x.c, .bool x.neg, .slice v.A v.n v.cp, .string x.t, .slice v.B v.m v.cap, .int .i64 d.k, .int .i32 d.c, .bool d.neg, .slice pd.A pd.n pd.cp, .string d.t, .slice pd.B pd.m pd.cap] 27)) := (Keep.refl _ _).alloc _
        have h3 : ((wr.alloc (.cells #[.int .i64 x.k, .int .i32 x.c, .bool x.neg, .slice v.A v.n v.cp, .string x.t, .slice v.B v.m v.cap, .int .i64 d.k, .int .i32 d.c, .bool d.neg, .slice pd.A pd.n pd.cp, .string d.t, .slice pd.B pd.m pd.cap] 27))).heap[B + 1]? = _ := k2.heap HS.out.h3 id
        have hp := RawAt.pairX (HX.out.keep0 k2) (HS.out.at_.keep0 k2) (show ((wr.alloc (.cells #[.int .i64 x.k, .int .i32 x.c, .bool x.neg, .slice v.A v.n v.cp, .string x.t, .slice v.B v.m v.cap, .int .i64 d.k, .int .i32 d.c, .bool d.neg, .slice pd.A pd.n pd.cp, .string d.t, .slice pd.B pd.m pd.cap] 27))).heap[wr.heap.size]? = _ from heap_alloc_new wr _) (.inr (by have := HB.out; omega))
        refine ⟨by omega, HD.out, hp.keep (six_self _ _ _ _ _ _ _ _) ?_, six_oth (k2.heap HS.out.h2 id) (by omega) _ _ _ _ _ _, six_row h3 _ _ _ _ _ _, six_keep (HS.out.K.trans k2) (by omega) _ _ _ _ _ _⟩
        rintro b rfl
        constructor <;> (rintro (⟨_, h⟩ | h) <;> omega)))
      clear hic hrw hx hv e1
      go_wp2_with fail
      go_big_region
      go_wp2_with fail
      go_roundw
      case rel => exact ⟨i, _, _, by go_num, HNEW.out⟩
      case measure => simp only [intOf]; omega
end Go.Proofs.YtonnikipeokkaaaGreatDoor
