/-
  The law ParseEither: where an error stands, and the walk.
-/
import Derived.Test.YtonnikipeokkaaaGreatDoorPaLaw
import Derived.Test.YtonnikipeokkaaaGreatDoorPnMay
namespace Go.Proofs.YtonnikipeokkaaaGreatDoor
open Go.RowKit Go.Lib

theorem next_err_le {l : List UInt8} {i : Int} {p c : Nat} (h : nextV l i = .error (p, c)) : p ≤ l.length := by
  unfold nextV at h
  split at h
  · injection h with h; injection h with h _; omega
  split at h
  · injection h with h; injection h with h _; omega
  · have := (lexAt_err (by omega) h).1
    omega
/-- Where what is open began. -/
def Goal.beg : Goal → Nat
  | .frm j _ _ => j
  | .lst o _ _ _ _ _ _ => o
  | .vec o _ _ _ => o
theorem Rd.place {l : List UInt8} {g : Goal} {r : Got} (h : Rd l g r) : g.pos ≤ l.length → g.beg ≤ l.length → ∀ p c, r = .error (p, c) → p ≤ l.length := by
  have hO : ∀ {i : Int} {k : Nat} {u : Tk}, nextV l i = .ok (k, u) → k + u.len ≤ l.length := fun n => (nextV_tok n).2.2.1
  induction h with
  | datum h => intro _ _ p c e; cases e
  | deep h hd => intro _ hb p c e; injection e with e; injection e with e _; subst e; exact hb
  | opn h hd n ih => intro hp hb; exact ih hp hb
  | vct h hs hd n ih => intro hp hb; exact ih hp hb
  | markLex h hd n => intro _ hb p c e; injection e with e; injection e with e _; subst e; exact next_err_le n
  | markEnd h hd n hu => intro _ hb p c e; injection e with e; injection e with e _; subst e; exact hb
  | markBad h hd n hu => intro _ hb p c e; injection e with e; injection e with e _; subst e; have := hO n; omega
  | markErr h hd n hu m ih => intro _ hb p c e; have := hO n; exact ih this (by simp only [Goal.beg]; omega) p c e
  | markOk h hd n hu m ih => intro _ _ p c e; cases e
  | lstLex n => intro _ hb p c e; injection e with e; injection e with e _; subst e; exact next_err_le n
  | lstEnd n hu => intro _ hb p c e; injection e with e; injection e with e _; subst e; exact hb
  | lstBad n hu hb => intro _ _ p c e; injection e with e; injection e with e _; subst e; have := hO n; omega
  | lstOk n hu hb hd => intro _ _ p c e; cases e
  | dotBad n hu hb => intro _ _ p c e; injection e with e; injection e with e _; subst e; have := hO n; omega
  | dotOk n hu h0 hi m ih => intro _ hb; exact ih (hO n) hb
  | full n hu hb => intro _ _ p c e; injection e with e; injection e with e _; subst e; have := hO n; omega
  | itemErr n hu hb m ih => intro _ _ p c e; have := hO n; exact ih this (by simp only [Goal.beg]; omega) p c e
  | itemOk n hu hb m g ih ih2 => intro _ hb; have h2 := m.ends (hO n) _ _ rfl; exact ih2 h2.2 hb
  | tailOk n hu hb m g ih ih2 => intro _ hb; have h2 := m.ends (hO n) _ _ rfl; exact ih2 h2.2 hb
  | vecLex n => intro _ hb p c e; injection e with e; injection e with e _; subst e; exact next_err_le n
  | vecEnd n hu => intro _ hb p c e; injection e with e; injection e with e _; subst e; exact hb
  | vecBad n hu hb => intro _ _ p c e; injection e with e; injection e with e _; subst e; have := hO n; omega
  | vecOk n hu hb => intro _ _ p c e; cases e
  | vecDot n hu => intro _ _ p c e; injection e with e; injection e with e _; subst e; have := hO n; omega
  | vecBig n hu hb => intro _ _ p c e; injection e with e; injection e with e _; subst e; have := hO n; omega
  | vecErr n hu hb m ih => intro _ _ p c e; have := hO n; exact ih this (by simp only [Goal.beg]; omega) p c e
  | vecItem n hu hb m g ih ih2 => intro _ hb; have h2 := m.ends (hO n) _ _ rfl; exact ih2 h2.2 hb
theorem OneR.place {l : List UInt8} {i : Int} {p c : Nat} (h : OneR l i (.error (p, c))) : p ≤ l.length := by
  cases h with
  | lex n => exact next_err_le n
  | none n hk => have := (nextV_tok n).2.2.1; omega
  | bad n hk => have := (nextV_tok n).2.2.1; omega
  | frm n hk m =>
    have := (nextV_tok n).2.2.1
    exact m.place this (by simp only [Goal.beg]; omega) _ _ rfl
theorem OneR.code0 {l : List UInt8} {i : Int} {p c : Nat} (h : OneR l i (.error (p, c))) : c ≠ 0 := by
  rcases h.code with h | h <;> omega
set_option maxRecDepth 100000 in
set_option maxHeartbeats 4000000 in
theorem lawPEither (s : ByteArray) (at_ : Int) (w : World) (hT : Tabs w) : Calls Tryz.prog 6 #[.string s, .int .i64 at_] w (BoolPost true w) := by
  obtain ⟨r, hr⟩ := OneR.ex s.data.toList at_
  have hz : s.data.toList.length = s.size := (Lib.size_eq s).symm
  have h1 := fun (W : World) (K : Keep (fun _ => False) w W) => pOne_any s at_ r hr W (hT.keep K)
  have HAW := Lib.hid (fun (W : World) (K : Keep (fun _ => False) w W) => pawake_any W (hT.keep K))
  cases r with
  | ok x =>
    obtain ⟨d, n⟩ := x
    obtain ⟨e1, e2⟩ := hr.ends
    have hg := hr.good
    have HM := Lib.hid (fun (W : World) (p : PV) (h : DatAt (fun b => w.heap.size ≤ b) W d p) => (show Calls Tryz.prog 22 #[rawV d p] W (BoolPost true W) from by rw [← mayR_good hg.1 hg.2]; exact rmayD_any h hg.1.small (by have := hg.2; omega)))
    have H1 := Lib.hid h1
    have q1 : at_ < (n : Int) := e1
    have q2 : (n : Int) ≤ (s.size : Int) := by omega
    clear h1 hT hr e1 e2 hg hz
    go_enter Tryz.func6, Tryz.ntmps6
    go_wp2_with fail
    refine (H1.out _ (Keep.refl _ _)).mono ?_
    rintro e w2 ⟨p, rfl, hd, k2⟩
    have HB2 := Lib.hid (heap_alloc_new w2 (.cells (rawC d p) 27))
    have HD2 := Lib.hid (hd.keep0 ((Keep.refl _ _).alloc (.cells (rawC d p) 27)))
    have HK2 := Lib.hid (k2.alloc (.cells (rawC d p) 27))
    clear hd k2
    try dsimp only
    go_wp2_with fail
    generalize w2.alloc (.cells (rawC d p) 27) = w3 at *
    refine (HM.out _ _ HD2.out).mono ?_
    rintro e w4 ⟨rfl, k4⟩
    have HK4 := Lib.hid (HK2.out.trans k4)
    clear k4
    try dsimp only
    go_wp2_with fail
    refine (HAW.out _ HK4.out).mono ?_
    rintro e w7 ⟨rfl, k7⟩
    have HK7 := Lib.hid (HK4.out.trans k7)
    clear k7
    try dsimp only
    go_wp2_with fail
    go_ret
    exact ⟨rfl, HK7.out⟩
  | error x =>
    obtain ⟨q, c⟩ := x
    have e1 := hr.place
    have e2 := hr.code0
    have H1 := Lib.hid h1
    have q1 : ((c : Int) == 0) = false := beq_eq_false_iff_ne.2 (by omega)
    have q2 : (q : Int) ≤ (s.size : Int) := by omega
    have q3 : (0 : Int) ≤ (q : Int) := by omega
    clear h1 hT hr e1 e2 hz
    go_enter Tryz.func6, Tryz.ntmps6
    go_wp2_with fail
    refine (H1.out _ (Keep.refl _ _)).mono ?_
    rintro e w2 ⟨rfl, k2⟩
    have HK2 := Lib.hid (k2.alloc (.cells (rawC .nil PV.none) 27))
    have HC := Lib.hid (rsame_any (RawAt.nil (fun _ => True) (fun _ => True) (w2.alloc (.cells (rawC .nil PV.none) 27))) .nil PV.none _ (Keep.refl _ _) (RawAt.nil (fun _ => True) (fun _ => True) _))
    rw [eqR_self] at HC
    clear k2
    try dsimp only
    go_wp2_with fail
    refine HC.out.mono ?_
    rintro e w4 ⟨rfl, k4⟩
    have HK4 := Lib.hid (HK2.out.trans k4)
    clear k4
    try dsimp only
    go_wp2_with fail
    refine (HAW.out _ HK4.out).mono ?_
    rintro e w7 ⟨rfl, k7⟩
    have HK7 := Lib.hid (HK4.out.trans k7)
    clear k7
    try dsimp only
    go_wp2_with fail
    go_ret
    exact ⟨rfl, HK7.out⟩
end Go.Proofs.YtonnikipeokkaaaGreatDoor
