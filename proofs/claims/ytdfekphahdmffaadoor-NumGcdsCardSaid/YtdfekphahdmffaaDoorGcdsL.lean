/-
  A list of numbers that came in; the list copied, and the values: what the law NumGcds holds on its road.
-/
import Derived.Test.YtdfekphahdmffaaDoorNuLong
import Derived.Test.YtdfekphahdmffaaDoorNuGcd
import Derived.Test.YtdfekphahdmffaaDoorRfGcd
import Derived.Deep.Slices
import Derived.Deep.Fields
namespace Go.Proofs.YtdfekphahdmffaaDoor
open Go.ChangeShapes Go.WideShapes Go.ChangeAt Go.RowKit Go.Joins Go.Deep

/-- A list of numbers lies there, each however long. -/
def NumsX (w : World) (A : Option Addr) (ns : Nat → NumV) (len : Nat) : Prop :=
  ∀ j, j < len → ∃ b off, A = some ⟨b, off, none⟩ ∧ b < w.heap.size ∧ w.cell? ⟨b, off + j * 2, none⟩ = some (.bool (ns j).neg) ∧ w.cell? ⟨b, off + j * 2 + 1, none⟩ = some (.slice (ns j).A (ns j).n (ns j).c) ∧ LimbsX w (ns j).A (ns j).n (ns j).c (ns j).l
theorem NumsX.toAt {w : World} {A : Option Addr} {ns : Nat → NumV} {len : Nat} (h : NumsX w A ns len) (hm : ∀ j, j < len → (ns j).n ≤ 100000) : NumsAt w A ns len := fun j hj => by
  obtain ⟨b, off, e, hb, h0, h1, hl⟩ := h j hj
  exact ⟨b, off, e, hb, h0, h1, hl.toAt (hm j hj)⟩
section
variable {H : Type} {enc : TypeId × Value → H} {P : Program} {w : World} {base : Nat} {spare : Nat → Bool} {held : Bool}
theorem field_read {e : TypeId} {fs : Array Field} {fuel : Nat} {a : Addr} {cs : List Value} {x : DataW H × List MemPlace} (he : P.underlying e = some (.struct fs)) (hone : oneCellFields P fs = true)
    (hc : w.cells? base a fs.size = some cs) (h : DataW.trod enc P w base spare held fuel e cs = some x) (j : Nat) (f : Field) (hj : fs[j]? = some f) :
    ∃ (v : Value) (y : DataW H × List MemPlace) (n : Nat), w.cell? (a.add j) = some v ∧ DataW.trod enc P w base spare held n f.type [v] = some y := by
  obtain ⟨ys, n, _, _, _, _, hf⟩ := DataW.trod_struct he h
  obtain ⟨_, hlen, hat⟩ := World.cells?_some hc
  obtain ⟨hoff, hcells⟩ := hone_of hone j f hj
  have hjs : j < fs.size := (Array.getElem?_eq_some_iff.1 hj).1
  have hjc : j < cs.length := by omega
  have hr := hf j f hj
  rw [hoff, hcells, show (cs.drop j).take 1 = [cs[j]] from by rw [List.drop_eq_getElem_cons hjc]; rfl] at hr
  cases hy : ys[j]? with
  | none => rw [hy] at hr; exact absurd hr (by
      have : j < ys.length := by omega
      rw [List.getElem?_eq_getElem this] at hy; cases hy)
  | some y => exact ⟨cs[j], y, n, by rw [hat j hjs, List.getElem?_eq_getElem hjc], hr.trans hy⟩
end
section
variable {H : Type} {enc : TypeId × Value → H} {w : World} {spare : Nat → Bool} {held : Bool}
set_option maxRecDepth 100000 in
theorem open_nums {A : Option Addr} {len cap : Nat} {d : DataW H} {p : List MemPlace} (h : DataW.Trod enc Tryd.prog w 0 spare held 48 (.slice A len cap) d p) :
    ∃ ns : Nat → NumV, NumsX w A ns len ∧ len ≤ maxLen := by
  obtain ⟨fuel, hf⟩ := h
  rcases open_slice Tryd.underlying48 hf with ⟨hcs, _⟩ | ⟨a, len', cap', m, n, D, Pl, hcs, hb, hl, hm, hmm, hx, hi⟩
  · simp [Value.cells] at hcs
    obtain ⟨rfl, rfl, rfl⟩ := hcs
    exact ⟨fun _ => ⟨false, none, 0, 0, []⟩, fun j hj => absurd hj (by omega), by unfold maxLen; omega⟩
  · simp [Value.cells] at hcs
    obtain ⟨rfl, rfl, rfl⟩ := hcs
    have hlm : len ≤ m := by rw [hmm]; split <;> omega
    have key : ∀ j, j < len → ∃ x : NumV, ∃ b off, a = ⟨b, off, none⟩ ∧ b < w.heap.size ∧ w.cell? ⟨b, off + j * 2, none⟩ = some (.bool x.neg) ∧ w.cell? ⟨b, off + j * 2 + 1, none⟩ = some (.slice x.A x.n x.c) ∧ LimbsX w x.A x.n x.c x.l := by
      intro j hj
      have hs : a.spot = none := by
        obtain ⟨cs, hc, ht⟩ := hi 0 (by omega)
        rw [cells25] at hc
        have rd := field_read (enc := enc) (P := Tryd.prog) (w := w) (base := 0) Tryd.underlying25 (by kernel_rfl) hc ht
        obtain ⟨v0, y0, n0, c0, t0⟩ := rd 0 _ rfl
        rw [Nat.zero_mul] at c0
        exact World.cell?_spot c0
      obtain ⟨cs, hc, ht⟩ := hi j (by omega)
      rw [cells25] at hc
      have rd := field_read (enc := enc) (P := Tryd.prog) (w := w) (base := 0) Tryd.underlying25 (by kernel_rfl) hc ht
      obtain ⟨v0, y0, n0, c0, t0⟩ := rd 0 _ rfl
      obtain ⟨v1, y1, n1, c1, t1⟩ := rd 1 _ rfl
      obtain ⟨b0, e0, _⟩ := DataW.trod_bool Tryd.underlying4 t0
      simp only [List.cons.injEq, and_true] at e0
      subst e0
      obtain ⟨b, off, spot⟩ := a
      simp only at hs
      subst hs
      have ad : ∀ i, (Addr.add ⟨b, off, none⟩ (j * 2)).add i = ⟨b, off + j * 2 + i, none⟩ := fun i => by rw [Addr.add_mid, Addr.add_mid]
      rw [ad] at c0 c1
      rcases open_ints Tryd.underlying23 Tryd.underlying63 cells63 t1 with ⟨e1, _⟩ | ⟨a2, len2, cap2, zs, e1, _, hl2, hm2, hz2, _, hc2, hw2⟩
      · simp only [List.cons.injEq, and_true] at e1
        subst e1
        exact ⟨⟨b0, none, 0, 0, []⟩, b, off, rfl, World.block_lt_of_cell? w _ c1, by simpa using c0, c1, ⟨RowAt.nil _ _ _, Low.nil _, Nat.le_refl _, Nat.zero_le _⟩⟩
      · simp only [List.cons.injEq, and_true] at e1
        subst e1
        obtain ⟨l, hL⟩ := limbsX_of_ints (w := w) hl2 (by rw [hz2]; split <;> omega) hc2 hw2 (Nat.le_trans hl2 hm2)
        exact ⟨⟨b0, some a2, len2, cap2, l⟩, b, off, rfl, World.block_lt_of_cell? w _ c1, by simpa using c0, c1, hL⟩
    refine ⟨fun j => if hj : j < len then (key j hj).choose else ⟨false, none, 0, 0, []⟩, fun j hj => ?_, by omega⟩
    simp only [dif_pos hj]
    obtain ⟨b, off, e, r⟩ := (key j hj).choose_spec
    exact ⟨b, off, by rw [e], r⟩
end
end Go.Proofs.YtdfekphahdmffaaDoor

namespace Go.Proofs.YtdfekphahdmffaaDoor
open Go.RowKit

def cellN (x : NumV) : List Value := [.bool x.neg, .slice x.A x.n x.c]
def cellV (x : ValV) : List Value := [.bool x.neg, .slice x.A x.n x.c]
theorem own_ne {w : World} {b1 b2 k1 k2 n1 n2 : Nat} {e1 e2 : TypeId} {v1 v2 : Value} {xs1 xs2 : List Value} (h1 : w.ownsRow b1 e1 k1 v1 n1 xs1) (h2 : w.ownsRow b2 e2 k2 v2 n2 xs2) (hne : e1 ≠ e2) : ∀ g, v1.ownBlock = some g → ¬ some g = v2.ownBlock := by
  intro g hg hg2
  rcases h1.2 with ⟨hv, _⟩ | ⟨g1, cap1, cur1, hv1, _, hh1, _⟩
  · rw [hv] at hg; cases hg
  · rcases h2.2 with ⟨hv, _⟩ | ⟨g2, cap2, cur2, hv2, _, hh2, _⟩
    · rw [hv] at hg2; cases hg2
    · rw [hv1] at hg
      rw [hv2] at hg2
      have e1' : g1 = g := by simpa [Value.ownBlock] using hg
      have e2' : g = g2 := by simpa [Value.ownBlock] using hg2
      subst e1' e2'
      rw [hh1] at hh2
      simp at hh2
      exact hne hh2.2
theorem own_base {w : World} {base k n : Nat} {e : TypeId} {v : Value} {xs : List Value} (h : w.ownsRow base e k v n xs) : ∀ g, some g = v.ownBlock → base ≤ g := by
  intro g hg
  rcases h.2 with ⟨hv, _⟩ | ⟨g1, cap1, cur1, hv1, hb, _⟩
  · rw [hv] at hg; cases hg
  · rw [hv1] at hg
    have : g = g1 := by simpa [Value.ownBlock] using hg
    omega
/-- What the first loop holds: the copies, and the values. -/
structure GSt (w : World) (ns : Nat → NumV) (cs : List NumV) (vs : List ValV) (wv vv : Value) (wr : World) : Prop where
  wo : wr.ownsRow w.heap.size 25 2 wv cs.length (cs.flatMap cellN)
  vo : wr.ownsRow w.heap.size 34 2 vv vs.length (vs.flatMap cellV)
  lw : ∀ j x, cs[j]? = some x → x.neg = (ns j).neg ∧ x.l = (ns j).l ∧ x.n ≤ 60 ∧ Low BB x.l ∧ OwnR 63 .u32 wr w.heap.size x.A x.n x.c x.l
  lv : ∀ j x, vs[j]? = some x → x.neg = decide (sval (ns j).neg (ns j).l < 0) ∧ x.m = (sval (ns j).neg (ns j).l).natAbs ∧ x.n ≤ 1920 ∧ OwnR 5 .u8 wr w.heap.size x.A x.n x.c (bits2 x.m)
  K : Keep (fun _ => False) w wr
namespace GSt
variable {w wr w5 w6 : World} {ns : Nat → NumV} {cs : List NumV} {vs : List ValV} {wv vv wv' vv' : Value}
theorem keep (h : GSt w ns cs vs wv vv wr) (k : Keep (fun _ => False) wr w5) : GSt w ns cs vs wv vv w5 :=
  ⟨row_kept h.wo k (fun _ _ => id), row_kept h.vo k (fun _ _ => id), fun j x hx => by
    obtain ⟨a, b, c, d, o⟩ := h.lw j x hx
    exact ⟨a, b, c, d, o.keep0 k⟩, fun j x hx => by
    obtain ⟨a, b, c, o⟩ := h.lv j x hx
    exact ⟨a, b, c, o.keep0 k⟩, h.K.trans k⟩
theorem addW (h : GSt w ns cs vs wv vv w5) {x : NumV} (h1 : x.neg = (ns cs.length).neg) (h2 : x.l = (ns cs.length).l) (h3 : x.n ≤ 60) (h4 : Low BB x.l) (own : OwnR 63 .u32 w5 w.heap.size x.A x.n x.c x.l)
    (ho : w6.ownsRow w.heap.size 25 2 wv' (cs.length + 1) (cs.flatMap cellN ++ cellN x)) (hg : w5.grownBy w6 wv.ownBlock) : GSt w ns (cs ++ [x]) vs wv' vv w6 := by
  have KG := Keep.of_grown hg
  refine ⟨by simpa [List.flatMap_append] using ho, row_kept h.vo KG (own_ne h.vo h.wo (by decide)), fun j y hy => ?_, fun j y hy => ?_, h.K.into KG (fun i hi => own_base h.wo i hi)⟩
  · rcases Nat.lt_or_ge j cs.length with hj | hj
    · rw [List.getElem?_append_left hj] at hy
      obtain ⟨a, b, c, d, o⟩ := h.lw j y hy
      exact ⟨a, b, c, d, o.keep KG (fun b' off e => own_ne o h.wo (by decide) b' (by rw [e]; rfl))⟩
    · rw [List.getElem?_append_right hj] at hy
      have hj0 : j - cs.length = 0 := by
        rcases Nat.eq_zero_or_pos (j - cs.length) with e | e
        · exact e
        · rw [List.getElem?_eq_none (by simp only [List.length_cons, List.length_nil]; omega)] at hy; cases hy
      rw [hj0] at hy
      obtain rfl : x = y := by simpa using hy
      obtain rfl : j = cs.length := by omega
      exact ⟨h1, h2, h3, h4, own.keep KG (fun b' off e => own_ne own h.wo (by decide) b' (by rw [e]; rfl))⟩
  · obtain ⟨a, b, c, o⟩ := h.lv j y hy
    exact ⟨a, b, c, o.keep KG (fun b' off e => own_ne o h.wo (by decide) b' (by rw [e]; rfl))⟩
theorem addV (h : GSt w ns cs vs wv vv w5) {x : ValV} (h1 : x.neg = decide (sval (ns vs.length).neg (ns vs.length).l < 0)) (h2 : x.m = (sval (ns vs.length).neg (ns vs.length).l).natAbs) (h3 : x.n ≤ 1920) (own : OwnR 5 .u8 w5 w.heap.size x.A x.n x.c (bits2 x.m))
    (ho : w6.ownsRow w.heap.size 34 2 vv' (vs.length + 1) (vs.flatMap cellV ++ cellV x)) (hg : w5.grownBy w6 vv.ownBlock) : GSt w ns cs (vs ++ [x]) wv vv' w6 := by
  have KG := Keep.of_grown hg
  refine ⟨row_kept h.wo KG (own_ne h.wo h.vo (by decide)), by simpa [List.flatMap_append] using ho, fun j y hy => ?_, fun j y hy => ?_, h.K.into KG (fun i hi => own_base h.vo i hi)⟩
  · obtain ⟨a, b, c, d, o⟩ := h.lw j y hy
    exact ⟨a, b, c, d, o.keep KG (fun b' off e => own_ne o h.vo (by decide) b' (by rw [e]; rfl))⟩
  · rcases Nat.lt_or_ge j vs.length with hj | hj
    · rw [List.getElem?_append_left hj] at hy
      obtain ⟨a, b, c, o⟩ := h.lv j y hy
      exact ⟨a, b, c, o.keep KG (fun b' off e => own_ne o h.vo (by decide) b' (by rw [e]; rfl))⟩
    · rw [List.getElem?_append_right hj] at hy
      have hj0 : j - vs.length = 0 := by
        rcases Nat.eq_zero_or_pos (j - vs.length) with e | e
        · exact e
        · rw [List.getElem?_eq_none (by simp only [List.length_cons, List.length_nil]; omega)] at hy; cases hy
      rw [hj0] at hy
      obtain rfl : x = y := by simpa using hy
      obtain rfl : j = vs.length := by omega
      exact ⟨h1, h2, h3, own.keep KG (fun b' off e => own_ne own h.vo (by decide) b' (by rw [e]; rfl))⟩
end GSt
theorem flat_at {α : Type} (f : α → List Value) (u v : α → Value) (hf : ∀ x, f x = [u x, v x]) : ∀ (l : List α) (j : Nat) (x : α), l[j]? = some x → (l.flatMap f)[j * 2]? = some (u x) ∧ (l.flatMap f)[j * 2 + 1]? = some (v x)
  | [], j, x, h => by simp at h
  | y :: l, 0, x, h => by
    obtain rfl : y = x := by simpa using h
    rw [List.flatMap_cons, hf]
    exact ⟨rfl, rfl⟩
  | y :: l, j + 1, x, h => by
    have := flat_at f u v hf l j x (by simpa using h)
    rw [List.flatMap_cons, hf, show (j + 1) * 2 = j * 2 + 2 from by omega, show j * 2 + 2 + 1 = j * 2 + 1 + 2 from by omega]
    simpa using this
/-- One of the copies, in memory. -/
theorem GSt.copy_at {w wr : World} {ns : Nat → NumV} {cs : List NumV} {vs : List ValV} {wv vv : Value} (h : GSt w ns cs vs wv vv wr) {j : Nat} {x : NumV} (hx : cs[j]? = some x) : ∃ g c, wv = .slice (some ⟨g, 0, none⟩) cs.length c ∧ g < wr.heap.size ∧ wr.cell? ⟨g, j * 2, none⟩ = some (.bool x.neg) ∧ wr.cell? ⟨g, j * 2 + 1, none⟩ = some (.slice x.A x.n x.c) ∧ LimbsAt wr x.A x.n x.c (ns j).l ∧ x.neg = (ns j).neg := by
  have hj : j < cs.length := (List.getElem?_eq_some_iff.1 hx).1
  obtain ⟨h1, h2, h3, h4, o⟩ := h.lw j x hx
  rcases h.wo.2 with ⟨hv, h0⟩ | ⟨g, cap, cur, hv, hg, hh, q1, q2, q3, q4⟩
  · omega
  · obtain ⟨f0, f1⟩ := flat_at cellN (fun x => .bool x.neg) (fun x => .slice x.A x.n x.c) (fun _ => rfl) cs j x hx
    have fl : (cs.flatMap cellN).length = cs.length * 2 := by simpa using h.wo.1
    rw [← q4] at f0 f1
    refine ⟨g, cap, hv, heap_lt hh, ?_, ?_, by rw [← h2]; exact o.toLimbs h4 (by omega), h1⟩
    · rw [World.cell?, hh]
      rw [List.getElem?_take] at f0
      split at f0
      · simpa using f0
      · cases f0
    · rw [World.cell?, hh]
      rw [List.getElem?_take] at f1
      split at f1
      · simpa using f1
      · cases f1
/-- The values as a function. -/
def vsF (vs : List ValV) (j : Nat) : ValV := vs.getD j ⟨false, none, 0, 0, 0⟩
theorem own_form {w : World} {base k n : Nat} {e : TypeId} {v : Value} {xs : List Value} (h : w.ownsRow base e k v n xs) : ∃ P c, v = .slice P n c := by
  rcases h.2 with ⟨hv, h0⟩ | ⟨g, cap, cur, hv, _⟩
  · subst h0; exact ⟨none, 0, hv⟩
  · exact ⟨_, _, hv⟩
theorem GSt.vals {w wr : World} {ns : Nat → NumV} {cs : List NumV} {vs : List ValV} {wv : Value} {P : Option Addr} {n c : Nat} (h : GSt w ns cs vs wv (.slice P n c) wr) : ValsAt wr P (vsF vs) vs.length ∧ (∀ j, j < vs.length → (vsF vs j).n ≤ 2000) ∧ (∀ j, j < vs.length → (vsF vs j).m = lval (ns j).l) := by
  have key : ∀ j, j < vs.length → vs[j]? = some (vsF vs j) := fun j hj => by
    unfold vsF
    rw [List.getD_eq_getElem?_getD, List.getElem?_eq_getElem hj]
    rfl
  refine ⟨fun j hj => ?_, fun j hj => ?_, fun j hj => ?_⟩
  · obtain ⟨h1, h2, h3, o⟩ := h.lv j _ (key j hj)
    rcases h.vo.2 with ⟨hv, h0⟩ | ⟨g, cap, cur, hv, hg, hh, q1, q2, q3, q4⟩
    · omega
    · injection hv with e1 e2 e3
      subst e1
      obtain ⟨f0, f1⟩ := flat_at cellV (fun x => .bool x.neg) (fun x => .slice x.A x.n x.c) (fun _ => rfl) vs j _ (key j hj)
      rw [← q4] at f0 f1
      refine ⟨g, 0, rfl, heap_lt hh, ?_, ?_, o.toBits (digs_low two2 _) (by omega)⟩
      · rw [World.cell?, hh, Nat.zero_add]
        rw [List.getElem?_take] at f0
        split at f0
        · simpa using f0
        · cases f0
      · rw [World.cell?, hh, Nat.zero_add]
        rw [List.getElem?_take] at f1
        split at f1
        · simpa using f1
        · cases f1
  · have := (h.lv j _ (key j hj)).2.2.1
    omega
  · rw [(h.lv j _ (key j hj)).2.1, sval_abs]
theorem vgcd_eq {ns : Nat → NumV} {vs : Nat → ValV} : ∀ k, (∀ j, j < k → (vs j).m = lval (ns j).l) → vgcd vs k = gcdTo ns k
  | 0, _ => rfl
  | k + 1, h => by
    show Nat.gcd (vgcd vs k) (vs k).m = Nat.gcd (gcdTo ns k) (lval (ns k).l)
    rw [vgcd_eq k (fun j hj => h j (by omega)), h k (Nat.lt_succ_self k)]
theorem GSt.start (w : World) (ns : Nat → NumV) : GSt w ns [] [] (.slice none 0 0) (.slice none 0 0) w :=
  ⟨World.ownsRow_nil _ _ _ _, World.ownsRow_nil _ _ _ _, fun j x h => by simp at h, fun j x h => by simp at h, Keep.refl _ _⟩
theorem NumsX.at_ {w wr : World} {A : Option Addr} {len : Nat} {ns : Nat → NumV} (h : NumsX w A ns len) (k : Keep (fun _ => False) w wr) {j : Nat} (hj : j < len) : ∃ b off, A = some ⟨b, off, none⟩ ∧ b < wr.heap.size ∧ wr.cell? ⟨b, off + j * 2, none⟩ = some (.bool (ns j).neg) ∧ wr.cell? ⟨b, off + j * 2 + 1, none⟩ = some (.slice (ns j).A (ns j).n (ns j).c) ∧ LimbsX wr (ns j).A (ns j).n (ns j).c (ns j).l := by
  obtain ⟨b, off, e, hb, h0, h1, hl⟩ := h j hj
  have f := fun i => k.cell (p := ⟨b, i, none⟩) hb (by simp)
  exact ⟨b, off, e, Nat.lt_of_lt_of_le hb k.size, (f _).trans h0, (f _).trans h1, hl.keep0 k⟩
theorem NumsAt.keepN {w wr : World} {A : Option Addr} {len : Nat} {ns : Nat → NumV} (h : NumsAt w A ns len) (k : Keep (fun _ => False) w wr) : NumsAt wr A ns len := fun _ hj => h.at_ k hj
theorem info25 : (Tryd.prog.info? 25).map (fun i => (i.zero, i.size, i.bytes)) = some (some (.agg #[.bool false, .slice none 0 0]), 2, 32) := by kernel_rfl
theorem info34 : (Tryd.prog.info? 34).map (fun i => (i.zero, i.size, i.bytes)) = some (some (.agg #[.bool false, .slice none 0 0]), 2, 32) := by kernel_rfl
theorem new_two (w5 : World) (u v : Value) (t : TypeId) : ∀ j x, ([u, v] : List Value)[j]? = some x → (w5.alloc (.cells #[u, v] t)).cell? ((⟨w5.heap.size, 0, none⟩ : Addr).add j) = some x := by
  intro j x hx
  have hb := heap_alloc_new w5 (.cells #[u, v] t)
  rw [Addr.add_mid, cell_of_row _ _ _ _ _ _ hb, Nat.zero_add]
  simpa using hx
end Go.Proofs.YtdfekphahdmffaaDoor
