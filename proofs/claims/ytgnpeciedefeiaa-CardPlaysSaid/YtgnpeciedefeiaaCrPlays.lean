/-
  morainelaw09: does, stands, CardPlays.
-/
import Derived.Test.YtgnpeciedefeiaaCrRef
import Derived.Test.YtgnpeciedefeiaaSpDoes
import Derived.Deep.DeepCutAuto
import Derived.Deep.RegionHeld3
import Derived.BigQuiet
namespace Go.Proofs.Ytgnpeciedefeiaa
open Go.RowKit

theorem CdAt.keepR9 {w w' : World} {c s p g base m r q : Nat} {S S' : SpV} {L : List Nat} (h : CdAt w c s p g S) (R : R9At w base m r q S' L) (k : Keep (RefS8 r w base) w w') : CdAt w' c s p g S := by
  refine ⟨k.heap h.head ?_, h.sp.keepR R.sp k⟩
  rintro (rfl | ⟨_, c', t, z, e, ht⟩)
  · obtain ⟨d, hd⟩ := R.sp.head
    rw [h.head] at hd
    injection hd with hd
    injection hd with _ hd
    exact absurd hd (by decide)
  · rw [h.head] at e
    injection e with e
    injection e with _ e _
    subst e
    revert ht; decide
theorem mineS_type {w : World} {s p g b : Nat} {S : SpV} {cc : Array Value} {t : TypeId} (h : SpAt w s p g S) (hb : w.heap[b]? = some (.cells cc t (0, 0))) (ht : t ≠ 83 ∧ t ≠ 57 ∧ t ≠ 110) : ¬ MineS s p g b := by
  rintro (rfl | rfl | rfl)
  · obtain ⟨x, hx⟩ := h.head
    rw [hx] at hb
    injection hb with hb
    injection hb with _ hb
    exact ht.1 hb.symm
  · obtain ⟨x, hx⟩ := h.mem.head
    rw [hx] at hb
    injection hb with hb
    injection hb with _ hb
    exact ht.2.1 hb.symm
  · obtain ⟨⟨x, hx⟩, _⟩ := h.mem.segs
    rw [hx] at hb
    injection hb with hb
    injection hb with _ hb
    exact ht.2.2 hb.symm
theorem R9At.keepS9 {w w' : World} {c s p g base m r q : Nat} {S S' : SpV} {L : List Nat} (R : R9At w base m r q S' L) (h : CdAt w c s p g S) (k : Keep (MineS s p g) w w') : R9At w' base m r q S' L :=
  ⟨R.bm, k.heap R.head (mineS_type h.sp R.head (by decide)), h.sp.keepS R.sp k⟩

/-- Both, and the call. -/
structure Two9 (w : World) (base c s p g m r q b : Nat) (S S' : SpV) (L : List Nat) (x : ActV) : Prop where
  h : CdAt w c s p g S
  R : R9At w base m r q S' L
  X : X9At w b x
namespace Two9
variable {w w' : World} {base c s p g m r q b : Nat} {S S' S2 : SpV} {L L2 : List Nat} {x : ActV}
theorem keep0 (T : Two9 w base c s p g m r q b S S' L x) (k : Keep (fun _ => False) w w') : Two9 w' base c s p g m r q b S S' L x := ⟨T.h.keep0 k, T.R.keep0 k, T.X.keep k (by simp)⟩
theorem left (T : Two9 w base c s p g m r q b S S' L x) (k : Keep (MineS s p g) w w') (h' : CdAt w' c s p g S2) : Two9 w' base c s p g m r q b S2 S' L x :=
  ⟨h', T.R.keepS9 T.h k, T.X.keep k (mineS_type T.h.sp T.X (by decide))⟩
theorem right (T : Two9 w base c s p g m r q b S S' L x) (k : Keep (RefS8 r w base) w w') (R' : R9At w' base m r q S2 L2) : Two9 w' base c s p g m r q b S S2 L2 x :=
  ⟨T.h.keepR9 T.R k, R', T.X.keep k (by
    have hX := T.X
    unfold X9At at hX
    rintro (rfl | ⟨_, c', t, z, e, ht⟩)
    · obtain ⟨d, hd⟩ := T.R.sp.head
      rw [hX] at hd
      injection hd with hd
      injection hd with _ hd
      exact absurd hd (by decide)
    · rw [hX] at e
      injection e with e
      injection e with _ e _
      subst e
      revert ht; decide)⟩
theorem cells (T : Two9 w base c s p g m r q b S S' L x) : w.cell? ⟨b, 0, none⟩ = some (.int .i64 x.op) ∧ w.cell? ⟨b, 1, none⟩ = some (.int .i64 x.a) ∧ w.cell? ⟨b, 2, none⟩ = some (.int .i64 x.b) ∧ w.cell? ⟨b, 3, none⟩ = some (.int .i64 x.c) ∧ w.cell? ⟨b, 4, none⟩ = some (.int .u64 x.w) ∧ w.cell? ⟨c, 0, none⟩ = some (.pointer (some ⟨s, 0, none⟩)) ∧ w.cell? ⟨s, 0, none⟩ = some (.pointer (some ⟨p, 0, none⟩)) ∧ w.cell? ⟨m, 0, none⟩ = some (.pointer (some ⟨r, 0, none⟩)) ∧ w.cell? ⟨r, 0, none⟩ = some (.pointer (some ⟨q, 0, none⟩)) := by
  obtain ⟨x0, x1, x2, x3, x4⟩ := T.X.cells
  exact ⟨x0, x1, x2, x3, x4, T.h.ptr, T.h.sp.ptr, T.R.ptr, T.R.qptr⟩
end Two9

def Does9Post (base c s p g m r q : Nat) (S : SpV) (w : World) (e : Ending) (w' : World) : Prop :=
  ∃ (S' : SpV) (L' : List Nat), e = .returned (.bool true) ∧ CdAt w' c s p g S' ∧ R9At w' base m r q S' L' ∧ S'.Ok ∧ S'.M.count ≤ S.M.count + 1 ∧ S'.M.lim = S.M.lim ∧ Keep (Both8 s p g r w base) w w'
theorem R9At.like {w : World} {base m r q : Nat} {S S' : SpV} {L : List Nat} (h : R9At w base m r q S L) (e : S'.Like S) : R9At w base m r q S' L := ⟨h.bm, h.head, R8Raw.like h.sp e⟩

set_option maxRecDepth 100000 in
set_option maxHeartbeats 8000000 in
theorem does9_alloc (base c s p g m r q : Nat) (S : SpV) (L : List Nat) (x : ActV) (w : World) (h : CdAt w c s p g S) (R : R9At w base m r q S L) (ok : S.Ok) (hc : S.M.count ≤ 1000000) (xok : x.Ok) (e0 : (x.op == 0) = true) :
    Calls Try.prog 53 #[.pointer (some ⟨c, 0, none⟩), .pointer (some ⟨m, 0, none⟩), actArg x] w (Does9Post base c s p g m r q S w) := by
  have hXn := X9At.new w x
  have kx : Keep (fun _ => False) w (w.alloc (.cells #[.int .i64 x.op, .int .i64 x.a, .int .i64 x.b, .int .i64 x.c, .int .u64 x.w] 92)) := (Keep.refl _ _).alloc _
  have K : Keep (Both8 s p g r w base) w (w.alloc (.cells #[.int .i64 x.op, .int .i64 x.a, .int .i64 x.b, .int .i64 x.c, .int .u64 x.w] 92)) := kx.mono (fun _ _ h => h.elim)
  have T : Two9 (w.alloc (.cells #[.int .i64 x.op, .int .i64 x.a, .int .i64 x.b, .int .i64 x.c, .int .u64 x.w] 92)) base c s p g m r q w.heap.size S S L x := ⟨h.keep0 kx, R.keep0 kx, hXn⟩
  have hl := R.sp.ref.len9 ok.mem
  have HQ := Lib.hid (fun (w' : World) (T' : Two9 w' base c s p g m r q w.heap.size S S L x) => (show ∃ A cap, w'.cell? ⟨q, 1, none⟩ = some (.slice A L.length cap) from by
    obtain ⟨_, v, wv, RN⟩ := T'.R.sp.ref
    obtain ⟨A, cap, rfl⟩ := RN.shape
    exact ⟨A, cap, RN.cells.2⟩))
  obtain ⟨A0, cap0, q1⟩ := HQ.out _ T
  have HT := Lib.hid T
  obtain ⟨x0, x1, x2, x3, x4, c0, s0, m0, r0⟩ := T.cells
  have XOK := Lib.hid xok
  have xa1 := xok.a1
  clear hXn kx T h R xok
  go_enter Try.func53, Try.ntmps53
  go_wp2_with fail
  generalize w.heap.size = xb at HT x0 x1 x2 x3 x4 HQ ⊢
  generalize w.alloc (.cells #[.int .i64 x.op, .int .i64 x.a, .int .i64 x.b, .int .i64 x.c, .int .u64 x.w] 92) = wA at HT K x0 x1 x2 x3 x4 c0 s0 m0 r0 q1 ⊢
  clear q1
  have kd : Keep (fun _ => False) wA wA.drew := (Keep.refl _ _).drew
  have Td := HT.out.keep0 kd
  replace K := K.drew
  clear kd
  go_region_held3 (fun w' => w'.cell? ⟨xb, 0, none⟩ = some (.int .i64 x.op) ∧ w'.cell? ⟨xb, 1, none⟩ = some (.int .i64 x.a) ∧ w'.cell? ⟨xb, 2, none⟩ = some (.int .i64 x.b) ∧ w'.cell? ⟨xb, 3, none⟩ = some (.int .i64 x.c) ∧ w'.cell? ⟨xb, 4, none⟩ = some (.int .u64 x.w) ∧ w'.cell? ⟨c, 0, none⟩ = some (.pointer (some ⟨s, 0, none⟩)) ∧ w'.cell? ⟨s, 0, none⟩ = some (.pointer (some ⟨p, 0, none⟩)) ∧ w'.cell? ⟨m, 0, none⟩ = some (.pointer (some ⟨r, 0, none⟩)) ∧ w'.cell? ⟨r, 0, none⟩ = some (.pointer (some ⟨q, 0, none⟩)))
    (first | exact ⟨x0, x1, x2, x3, x4, c0, s0, m0, r0⟩ | exact Two9.cells (base := base) (g := g) (by assumption))
    ((go_at_call 35; refine (alloc_any (s := s) (p := p) (g := g) (S := S) (CdAt.sp (c := c) (Two9.h (base := base) (c := c) (s := s) (p := p) (g := g) (m := m) (r := r) (q := q) (b := xb) (x := x) (by assumption))) ok hc _ _ _).mono ?_; rintro e wb ⟨S1, a1, f1, rfl, h1, k1, ok1, hc1, hl1, hR1⟩; have T1 := Two9.left (base := base) (c := c) (m := m) (r := r) (q := q) (b := xb) (S := S) (S' := S) (L := L) (x := x) (by assumption) k1 (CdAt.into (c := c) (Two9.h (base := base) (c := c) (s := s) (p := p) (g := g) (m := m) (r := r) (q := q) (b := xb) (x := x) (by assumption)) k1 h1)))
  all_goals
    have K1 := K.both81 k1
    have HR1 := Lib.hid hR1
    have Td2 := T1.keep0 ((Keep.refl (fun _ => False) wb).drew)
    have HC1 := Lib.hid hc1
    have HL1 := Lib.hid hl1
    have K2 := K1.drew
    clear hR1 hc1 hl1 x0 x1 x2 x3 x4 c0 s0 m0 r0 h1
    obtain ⟨x0, x1, x2, x3, x4, c0, s0, m0, r0⟩ := T1.cells
    go_wp2_with fail
    go_region_held3 (fun w' => w'.cell? ⟨xb, 0, none⟩ = some (.int .i64 x.op) ∧ w'.cell? ⟨xb, 1, none⟩ = some (.int .i64 x.a) ∧ w'.cell? ⟨xb, 2, none⟩ = some (.int .i64 x.b) ∧ w'.cell? ⟨xb, 3, none⟩ = some (.int .i64 x.c) ∧ w'.cell? ⟨xb, 4, none⟩ = some (.int .u64 x.w) ∧ w'.cell? ⟨c, 0, none⟩ = some (.pointer (some ⟨s, 0, none⟩)) ∧ w'.cell? ⟨s, 0, none⟩ = some (.pointer (some ⟨p, 0, none⟩)) ∧ w'.cell? ⟨m, 0, none⟩ = some (.pointer (some ⟨r, 0, none⟩)) ∧ w'.cell? ⟨r, 0, none⟩ = some (.pointer (some ⟨q, 0, none⟩)))
      (first | exact ⟨x0, x1, x2, x3, x4, c0, s0, m0, r0⟩ | exact Two9.cells (base := base) (g := g) (by assumption))
      ((go_at_call 75; refine (ralloc8_any (base := base) (r := r) (q := q) (S := S) (L := L) (R9At.sp (m := m) (Two9.R (base := base) (c := c) (s := s) (p := p) (g := g) (m := m) (r := r) (q := q) (b := xb) (x := x) (by assumption))) ok _ _ _).mono ?_; rintro e wc ⟨S2, L2, a2, f2, rfl, r2, k2, hR2⟩; have T2 := Two9.right (c := c) (s := s) (p := p) (g := g) (m := m) (b := xb) (S := S1) (S' := S) (L := L) (x := x) (by assumption) k2 (R9At.into (m := m) (Two9.R (base := base) (c := c) (s := s) (p := p) (g := g) (m := m) (r := r) (q := q) (b := xb) (x := x) (by assumption)) k2 r2)))
    all_goals
      obtain ⟨rfl, rfl, rfl⟩ := AllocR.det HR1.out hR2
      have K3 := K2.both82 k2
      clear hR2 x0 x1 x2 x3 x4 c0 s0 m0 r0 r2
      go_wp2_with fail
      go_ret
      exact ⟨S1, L2, rfl, T2.h, T2.R, ok1, HC1.out, HL1.out, K3⟩

set_option maxRecDepth 100000 in
set_option maxHeartbeats 8000000 in
theorem does9_store1 (base c s p g m r q : Nat) (S : SpV) (L : List Nat) (x : ActV) (w : World) (h : CdAt w c s p g S) (R : R9At w base m r q S L) (ok : S.Ok) (_hc : S.M.count ≤ 1000000) (xok : x.Ok) (e0 : (x.op == 0) = false) (e1 : (x.op == 1) = true) :
    Calls Try.prog 53 #[.pointer (some ⟨c, 0, none⟩), .pointer (some ⟨m, 0, none⟩), actArg x] w (Does9Post base c s p g m r q S w) := by
  have hXn := X9At.new w x
  have kx : Keep (fun _ => False) w (w.alloc (.cells #[.int .i64 x.op, .int .i64 x.a, .int .i64 x.b, .int .i64 x.c, .int .u64 x.w] 92)) := (Keep.refl _ _).alloc _
  have K : Keep (Both8 s p g r w base) w (w.alloc (.cells #[.int .i64 x.op, .int .i64 x.a, .int .i64 x.b, .int .i64 x.c, .int .u64 x.w] 92)) := kx.mono (fun _ _ h => h.elim)
  have T : Two9 (w.alloc (.cells #[.int .i64 x.op, .int .i64 x.a, .int .i64 x.b, .int .i64 x.c, .int .u64 x.w] 92)) base c s p g m r q w.heap.size S S L x := ⟨h.keep0 kx, R.keep0 kx, hXn⟩
  have hl := R.sp.ref.len9 ok.mem
  have HQ := Lib.hid (fun (w' : World) (T' : Two9 w' base c s p g m r q w.heap.size S S L x) => (show ∃ A cap, w'.cell? ⟨q, 1, none⟩ = some (.slice A L.length cap) from by
    obtain ⟨_, v, wv, RN⟩ := T'.R.sp.ref
    obtain ⟨A, cap, rfl⟩ := RN.shape
    exact ⟨A, cap, RN.cells.2⟩))
  obtain ⟨A0, cap0, q1⟩ := HQ.out _ T
  have HT := Lib.hid T
  obtain ⟨x0, x1, x2, x3, x4, c0, s0, m0, r0⟩ := T.cells
  have XOK := Lib.hid xok
  have xa1 := xok.a1
  clear hXn kx T h R xok
  have hsum : (64 : Int) * (L.length : Int) = ((64 * L.length : Nat) : Int) := by omega
  have HSUM := Lib.hid hsum
  clear hsum
  go_enter Try.func53, Try.ntmps53
  go_wp2_with fail
  generalize w.heap.size = xb at HT x0 x1 x2 x3 x4 HQ ⊢
  generalize w.alloc (.cells #[.int .i64 x.op, .int .i64 x.a, .int .i64 x.b, .int .i64 x.c, .int .u64 x.w] 92) = wA at HT K x0 x1 x2 x3 x4 c0 s0 m0 r0 q1 ⊢
  rw [HSUM.out]
  refine (word9_any x XOK.out (64 * L.length) (by omega) _).mono ?_
  rintro e wb ⟨u, hu, rfl, k5⟩
  have T5 := HT.out.keep0 k5
  have K5 := K.trans (k5.mono (fun _ _ h => h.elim))
  have HU := Lib.hid hu
  clear k5 hu K q1
  clear x0 x1 x2 x3 x4 c0 s0 m0 r0
  obtain ⟨x0, x1, x2, x3, x4, c0, s0, m0, r0⟩ := T5.cells
  go_wp2_with fail
  refine (gen_any T5.h ok u HU.out).mono ?_
  rintro e wc ⟨k6, hg1⟩
  have T6 := T5.keep0 k6
  have K6 := K5.trans (k6.mono (fun _ _ h => h.elim))
  have hg2 : ∃ (gv : Int) (b : Bool), e = .returned (.tuple #[.int .i64 gv, .bool b]) ∧ ∀ (w1 w2 : World) (e2 : Ending), GenPost S.M u w1 e2 w2 → e2 = .returned (.tuple #[.int .i64 gv, .bool b]) ∧ Keep (fun _ => False) w1 w2 := by
    rcases hg1 with ⟨gv, rfl, hg⟩ | ⟨rfl, hg⟩
    · refine ⟨gv, true, rfl, ?_⟩
      rintro w1 w2 e2 ⟨k, ⟨g2, rfl, h2⟩ | ⟨rfl, h2⟩⟩
      · rw [hg] at h2
        injection h2 with h2
        subst h2
        exact ⟨rfl, k⟩
      · rw [hg] at h2; cases h2
    · refine ⟨0, false, rfl, ?_⟩
      rintro w1 w2 e2 ⟨k, ⟨g2, rfl, h2⟩ | ⟨rfl, h2⟩⟩
      · rw [hg] at h2; cases h2
      · exact ⟨rfl, k⟩
  obtain ⟨gv, gb, rfl, hdet⟩ := hg2
  have HD := Lib.hid hdet
  clear hdet hg1 k6 T5 K5
  clear x0 x1 x2 x3 x4 c0 s0 m0 r0
  obtain ⟨x0, x1, x2, x3, x4, c0, s0, m0, r0⟩ := T6.cells
  go_wp2_with fail
  refine (rgen_any T6.R ok u HU.out).mono ?_
  intro e wd hpost
  obtain ⟨rfl, k7⟩ := HD.out _ _ _ hpost
  have T7 := T6.keep0 k7
  have K7 := (K6.trans (k7.mono (fun _ _ h => h.elim))).drew
  have T8 := T7.keep0 ((Keep.refl (fun _ => False) wd).drew)
  have hu := HU.out
  clear hpost k7 T6 K6 HD
  clear x0 x1 x2 x3 x4 c0 s0 m0 r0
  obtain ⟨x0, x1, x2, x3, x4, c0, s0, m0, r0⟩ := T7.cells
  go_wp2_with fail
  go_region_held3 (fun w' => w'.cell? ⟨xb, 0, none⟩ = some (.int .i64 x.op) ∧ w'.cell? ⟨xb, 1, none⟩ = some (.int .i64 x.a) ∧ w'.cell? ⟨xb, 2, none⟩ = some (.int .i64 x.b) ∧ w'.cell? ⟨xb, 3, none⟩ = some (.int .i64 x.c) ∧ w'.cell? ⟨xb, 4, none⟩ = some (.int .u64 x.w) ∧ w'.cell? ⟨c, 0, none⟩ = some (.pointer (some ⟨s, 0, none⟩)) ∧ w'.cell? ⟨s, 0, none⟩ = some (.pointer (some ⟨p, 0, none⟩)) ∧ w'.cell? ⟨m, 0, none⟩ = some (.pointer (some ⟨r, 0, none⟩)) ∧ w'.cell? ⟨r, 0, none⟩ = some (.pointer (some ⟨q, 0, none⟩)))
    (first | exact ⟨x0, x1, x2, x3, x4, c0, s0, m0, r0⟩ | exact Two9.cells (base := base) (g := g) (by assumption))
    (first
      | (go_at_call 46; refine (store_any (s := s) (p := p) (g := g) (S := S) (Two9.h (base := base) (c := c) (s := s) (p := p) (g := g) (m := m) (r := r) (q := q) (b := xb) (x := x) (by assumption)) ok _ u xa1 hu).mono ?_; rintro e wb ⟨M1, f1, rfl, h1, k1, ok1, hc1, hl1, hR1⟩; (first | have T1 := Two9.left (base := base) (c := c) (m := m) (r := r) (q := q) (b := xb) (S := S) (S' := S) (L := L) (x := x) (by assumption) k1 h1 | have T1 := Two9.left (base := base) (c := c) (m := m) (r := r) (q := q) (b := xb) (S := S) (S' := { S with M := M2 }) (L := L) (x := x) (by assumption) k1 h1))
      | (go_at_call 85; refine (rstore_any (base := base) (m := m) (r := r) (q := q) (S := S) (L := L) (Two9.R (base := base) (c := c) (s := s) (p := p) (g := g) (m := m) (r := r) (q := q) (b := xb) (x := x) (by assumption)) ok _ u xa1 hu).mono ?_; rintro e wc ⟨M2, f2, rfl, r2, k2, hR2⟩; (first | have T2 := Two9.right (c := c) (s := s) (p := p) (g := g) (m := m) (b := xb) (S := S) (S' := S) (L := L) (x := x) (by assumption) k2 r2 | have T2 := Two9.right (c := c) (s := s) (p := p) (g := g) (m := m) (b := xb) (S := { S with M := M1 }) (S' := S) (L := L) (x := x) (by assumption) k2 r2)))
  all_goals
    obtain ⟨rfl, rfl⟩ := StoreR.det hR1 hR2
    have HOK := Lib.hid ok1
    have HC := Lib.hid hc1
    have HL := Lib.hid hl1
    (first | have HK := (K7.both81 k1).both82 k2 | have HK := (K7.both82 k2).both81 k1)
    clear hR1 hR2 hc1 hl1 x0 x1 x2 x3 x4 c0 s0 m0 r0 r2 h1
    go_wp2_with fail
    go_ret
    refine ⟨{ S with M := M1 }, L, by simp, Two9.h (base := base) (m := m) (r := r) (q := q) (b := xb) (x := x) (by assumption), Two9.R (c := c) (s := s) (p := p) (g := g) (b := xb) (x := x) (by assumption), HOK.out, by have := HC.out; show M1.count ≤ _; omega, HL.out, HK⟩

set_option maxRecDepth 100000 in
set_option maxHeartbeats 8000000 in
theorem does9_store2 (base c s p g m r q : Nat) (S : SpV) (L : List Nat) (x : ActV) (w : World) (h : CdAt w c s p g S) (R : R9At w base m r q S L) (ok : S.Ok) (_hc : S.M.count ≤ 1000000) (xok : x.Ok) (e0 : (x.op == 0) = false) (e1 : (x.op == 1) = false) (e2 : (x.op == 2) = true) :
    Calls Try.prog 53 #[.pointer (some ⟨c, 0, none⟩), .pointer (some ⟨m, 0, none⟩), actArg x] w (Does9Post base c s p g m r q S w) := by
  have hXn := X9At.new w x
  have kx : Keep (fun _ => False) w (w.alloc (.cells #[.int .i64 x.op, .int .i64 x.a, .int .i64 x.b, .int .i64 x.c, .int .u64 x.w] 92)) := (Keep.refl _ _).alloc _
  have K : Keep (Both8 s p g r w base) w (w.alloc (.cells #[.int .i64 x.op, .int .i64 x.a, .int .i64 x.b, .int .i64 x.c, .int .u64 x.w] 92)) := kx.mono (fun _ _ h => h.elim)
  have T : Two9 (w.alloc (.cells #[.int .i64 x.op, .int .i64 x.a, .int .i64 x.b, .int .i64 x.c, .int .u64 x.w] 92)) base c s p g m r q w.heap.size S S L x := ⟨h.keep0 kx, R.keep0 kx, hXn⟩
  have hl := R.sp.ref.len9 ok.mem
  have HQ := Lib.hid (fun (w' : World) (T' : Two9 w' base c s p g m r q w.heap.size S S L x) => (show ∃ A cap, w'.cell? ⟨q, 1, none⟩ = some (.slice A L.length cap) from by
    obtain ⟨_, v, wv, RN⟩ := T'.R.sp.ref
    obtain ⟨A, cap, rfl⟩ := RN.shape
    exact ⟨A, cap, RN.cells.2⟩))
  obtain ⟨A0, cap0, q1⟩ := HQ.out _ T
  have HT := Lib.hid T
  obtain ⟨x0, x1, x2, x3, x4, c0, s0, m0, r0⟩ := T.cells
  have XOK := Lib.hid xok
  have xa1 := xok.a1
  clear hXn kx T h R xok
  have hsum : (64 : Int) * (L.length : Int) = ((64 * L.length : Nat) : Int) := by omega
  have HSUM := Lib.hid hsum
  clear hsum
  go_enter Try.func53, Try.ntmps53
  go_wp2_with fail
  generalize w.heap.size = xb at HT x0 x1 x2 x3 x4 HQ ⊢
  generalize w.alloc (.cells #[.int .i64 x.op, .int .i64 x.a, .int .i64 x.b, .int .i64 x.c, .int .u64 x.w] 92) = wA at HT K x0 x1 x2 x3 x4 c0 s0 m0 r0 q1 ⊢
  rw [HSUM.out]
  refine (word9_any x XOK.out (64 * L.length) (by omega) _).mono ?_
  rintro e wb ⟨u, hu, rfl, k5⟩
  have T5 := HT.out.keep0 k5
  have K5 := K.trans (k5.mono (fun _ _ h => h.elim))
  have HU := Lib.hid hu
  clear k5 hu K q1
  clear x0 x1 x2 x3 x4 c0 s0 m0 r0
  obtain ⟨x0, x1, x2, x3, x4, c0, s0, m0, r0⟩ := T5.cells
  go_wp2_with fail
  refine (gen_any T5.h ok u HU.out).mono ?_
  rintro e wc ⟨k6, hg1⟩
  have T6 := T5.keep0 k6
  have K6 := K5.trans (k6.mono (fun _ _ h => h.elim))
  have hg2 : ∃ (gv : Int) (b : Bool), e = .returned (.tuple #[.int .i64 gv, .bool b]) ∧ ∀ (w1 w2 : World) (e2 : Ending), GenPost S.M u w1 e2 w2 → e2 = .returned (.tuple #[.int .i64 gv, .bool b]) ∧ Keep (fun _ => False) w1 w2 := by
    rcases hg1 with ⟨gv, rfl, hg⟩ | ⟨rfl, hg⟩
    · refine ⟨gv, true, rfl, ?_⟩
      rintro w1 w2 e2 ⟨k, ⟨g2, rfl, h2⟩ | ⟨rfl, h2⟩⟩
      · rw [hg] at h2
        injection h2 with h2
        subst h2
        exact ⟨rfl, k⟩
      · rw [hg] at h2; cases h2
    · refine ⟨0, false, rfl, ?_⟩
      rintro w1 w2 e2 ⟨k, ⟨g2, rfl, h2⟩ | ⟨rfl, h2⟩⟩
      · rw [hg] at h2; cases h2
      · exact ⟨rfl, k⟩
  obtain ⟨gv, gb, rfl, hdet⟩ := hg2
  have HD := Lib.hid hdet
  clear hdet hg1 k6 T5 K5
  clear x0 x1 x2 x3 x4 c0 s0 m0 r0
  obtain ⟨x0, x1, x2, x3, x4, c0, s0, m0, r0⟩ := T6.cells
  go_wp2_with fail
  refine (rgen_any T6.R ok u HU.out).mono ?_
  intro e wd hpost
  obtain ⟨rfl, k7⟩ := HD.out _ _ _ hpost
  have T7 := T6.keep0 k7
  have K7 := (K6.trans (k7.mono (fun _ _ h => h.elim))).drew
  have T8 := T7.keep0 ((Keep.refl (fun _ => False) wd).drew)
  have hu := HU.out
  clear hpost k7 T6 K6 HD
  clear x0 x1 x2 x3 x4 c0 s0 m0 r0
  obtain ⟨x0, x1, x2, x3, x4, c0, s0, m0, r0⟩ := T7.cells
  go_wp2_with fail
  go_region_held3 (fun w' => w'.cell? ⟨xb, 0, none⟩ = some (.int .i64 x.op) ∧ w'.cell? ⟨xb, 1, none⟩ = some (.int .i64 x.a) ∧ w'.cell? ⟨xb, 2, none⟩ = some (.int .i64 x.b) ∧ w'.cell? ⟨xb, 3, none⟩ = some (.int .i64 x.c) ∧ w'.cell? ⟨xb, 4, none⟩ = some (.int .u64 x.w) ∧ w'.cell? ⟨c, 0, none⟩ = some (.pointer (some ⟨s, 0, none⟩)) ∧ w'.cell? ⟨s, 0, none⟩ = some (.pointer (some ⟨p, 0, none⟩)) ∧ w'.cell? ⟨m, 0, none⟩ = some (.pointer (some ⟨r, 0, none⟩)) ∧ w'.cell? ⟨r, 0, none⟩ = some (.pointer (some ⟨q, 0, none⟩)))
    (first | exact ⟨x0, x1, x2, x3, x4, c0, s0, m0, r0⟩ | exact Two9.cells (base := base) (g := g) (by assumption))
    (first
      | (go_at_call 46; refine (store_any (s := s) (p := p) (g := g) (S := S) (Two9.h (base := base) (c := c) (s := s) (p := p) (g := g) (m := m) (r := r) (q := q) (b := xb) (x := x) (by assumption)) ok _ u xa1 hu).mono ?_; rintro e wb ⟨M1, f1, rfl, h1, k1, ok1, hc1, hl1, hR1⟩; (first | have T1 := Two9.left (base := base) (c := c) (m := m) (r := r) (q := q) (b := xb) (S := S) (S' := S) (L := L) (x := x) (by assumption) k1 h1 | have T1 := Two9.left (base := base) (c := c) (m := m) (r := r) (q := q) (b := xb) (S := S) (S' := { S with M := M2 }) (L := L) (x := x) (by assumption) k1 h1))
      | (go_at_call 85; refine (rstore_any (base := base) (m := m) (r := r) (q := q) (S := S) (L := L) (Two9.R (base := base) (c := c) (s := s) (p := p) (g := g) (m := m) (r := r) (q := q) (b := xb) (x := x) (by assumption)) ok _ u xa1 hu).mono ?_; rintro e wc ⟨M2, f2, rfl, r2, k2, hR2⟩; (first | have T2 := Two9.right (c := c) (s := s) (p := p) (g := g) (m := m) (b := xb) (S := S) (S' := S) (L := L) (x := x) (by assumption) k2 r2 | have T2 := Two9.right (c := c) (s := s) (p := p) (g := g) (m := m) (b := xb) (S := { S with M := M1 }) (S' := S) (L := L) (x := x) (by assumption) k2 r2)))
  all_goals
    obtain ⟨rfl, rfl⟩ := StoreR.det hR1 hR2
    have HOK := Lib.hid ok1
    have HC := Lib.hid hc1
    have HL := Lib.hid hl1
    (first | have HK := (K7.both81 k1).both82 k2 | have HK := (K7.both82 k2).both81 k1)
    clear hR1 hR2 hc1 hl1 x0 x1 x2 x3 x4 c0 s0 m0 r0 r2 h1
    go_wp2_with fail
    go_ret
    refine ⟨{ S with M := M1 }, L, by simp, Two9.h (base := base) (m := m) (r := r) (q := q) (b := xb) (x := x) (by assumption), Two9.R (c := c) (s := s) (p := p) (g := g) (b := xb) (x := x) (by assumption), HOK.out, by have := HC.out; show M1.count ≤ _; omega, HL.out, HK⟩

set_option maxRecDepth 100000 in
set_option maxHeartbeats 8000000 in
theorem does9_again (base c s p g m r q : Nat) (S : SpV) (L : List Nat) (x : ActV) (w : World) (h : CdAt w c s p g S) (R : R9At w base m r q S L) (ok : S.Ok) (_hc : S.M.count ≤ 1000000) (xok : x.Ok) (e0 : (x.op == 0) = false) (e1 : (x.op == 1) = false) (e2 : (x.op == 2) = false) (e3 : (x.op == 3) = true) :
    Calls Try.prog 53 #[.pointer (some ⟨c, 0, none⟩), .pointer (some ⟨m, 0, none⟩), actArg x] w (Does9Post base c s p g m r q S w) := by
  have hXn := X9At.new w x
  have kx : Keep (fun _ => False) w (w.alloc (.cells #[.int .i64 x.op, .int .i64 x.a, .int .i64 x.b, .int .i64 x.c, .int .u64 x.w] 92)) := (Keep.refl _ _).alloc _
  have K : Keep (Both8 s p g r w base) w (w.alloc (.cells #[.int .i64 x.op, .int .i64 x.a, .int .i64 x.b, .int .i64 x.c, .int .u64 x.w] 92)) := kx.mono (fun _ _ h => h.elim)
  have T : Two9 (w.alloc (.cells #[.int .i64 x.op, .int .i64 x.a, .int .i64 x.b, .int .i64 x.c, .int .u64 x.w] 92)) base c s p g m r q w.heap.size S S L x := ⟨h.keep0 kx, R.keep0 kx, hXn⟩
  have hl := R.sp.ref.len9 ok.mem
  have HQ := Lib.hid (fun (w' : World) (T' : Two9 w' base c s p g m r q w.heap.size S S L x) => (show ∃ A cap, w'.cell? ⟨q, 1, none⟩ = some (.slice A L.length cap) from by
    obtain ⟨_, v, wv, RN⟩ := T'.R.sp.ref
    obtain ⟨A, cap, rfl⟩ := RN.shape
    exact ⟨A, cap, RN.cells.2⟩))
  obtain ⟨A0, cap0, q1⟩ := HQ.out _ T
  have HT := Lib.hid T
  obtain ⟨x0, x1, x2, x3, x4, c0, s0, m0, r0⟩ := T.cells
  have XOK := Lib.hid xok
  have xa1 := xok.a1
  clear hXn kx T h R xok
  go_enter Try.func53, Try.ntmps53
  go_wp2_with fail
  generalize w.heap.size = xb at HT x0 x1 x2 x3 x4 HQ ⊢
  generalize w.alloc (.cells #[.int .i64 x.op, .int .i64 x.a, .int .i64 x.b, .int .i64 x.c, .int .u64 x.w] 92) = wA at HT K x0 x1 x2 x3 x4 c0 s0 m0 r0 q1 ⊢
  clear q1
  have kd : Keep (fun _ => False) wA wA.drew := (Keep.refl _ _).drew
  have Td := HT.out.keep0 kd
  replace K := K.drew
  clear kd
  go_region_held3 (fun w' => w'.cell? ⟨xb, 0, none⟩ = some (.int .i64 x.op) ∧ w'.cell? ⟨xb, 1, none⟩ = some (.int .i64 x.a) ∧ w'.cell? ⟨xb, 2, none⟩ = some (.int .i64 x.b) ∧ w'.cell? ⟨xb, 3, none⟩ = some (.int .i64 x.c) ∧ w'.cell? ⟨xb, 4, none⟩ = some (.int .u64 x.w) ∧ w'.cell? ⟨c, 0, none⟩ = some (.pointer (some ⟨s, 0, none⟩)) ∧ w'.cell? ⟨s, 0, none⟩ = some (.pointer (some ⟨p, 0, none⟩)) ∧ w'.cell? ⟨m, 0, none⟩ = some (.pointer (some ⟨r, 0, none⟩)) ∧ w'.cell? ⟨r, 0, none⟩ = some (.pointer (some ⟨q, 0, none⟩)))
    (first | exact ⟨x0, x1, x2, x3, x4, c0, s0, m0, r0⟩ | exact Two9.cells (base := base) (g := g) (by assumption))
    (first
      | (go_at_call 41; refine (again_any (s := s) (p := p) (g := g) (S := S) (Two9.h (base := base) (c := c) (s := s) (p := p) (g := g) (m := m) (r := r) (q := q) (b := xb) (x := x) (by assumption)) ok _ _).mono ?_; rintro e wb ⟨M1, f1, rfl, h1, k1, ok1, hc1, hl1, hR1⟩; (first | have T1 := Two9.left (base := base) (c := c) (m := m) (r := r) (q := q) (b := xb) (S := S) (S' := S) (L := L) (x := x) (by assumption) k1 h1 | have T1 := Two9.left (base := base) (c := c) (m := m) (r := r) (q := q) (b := xb) (S := S) (S' := { S with M := M2 }) (L := L) (x := x) (by assumption) k1 h1))
      | (go_at_call 86; refine (ragain_any (base := base) (m := m) (r := r) (q := q) (S := S) (L := L) (Two9.R (base := base) (c := c) (s := s) (p := p) (g := g) (m := m) (r := r) (q := q) (b := xb) (x := x) (by assumption)) ok _ _).mono ?_; rintro e wc ⟨M2, f2, rfl, r2, k2, hR2⟩; (first | have T2 := Two9.right (c := c) (s := s) (p := p) (g := g) (m := m) (b := xb) (S := S) (S' := S) (L := L) (x := x) (by assumption) k2 r2 | have T2 := Two9.right (c := c) (s := s) (p := p) (g := g) (m := m) (b := xb) (S := { S with M := M1 }) (S' := S) (L := L) (x := x) (by assumption) k2 r2)))
  all_goals
    obtain ⟨rfl, rfl⟩ := AgainR.det hR1 hR2
    have HOK := Lib.hid ok1
    have HC := Lib.hid hc1
    have HL := Lib.hid hl1
    (first | have HK := (K.both81 k1).both82 k2 | have HK := (K.both82 k2).both81 k1)
    clear hR1 hR2 hc1 hl1 x0 x1 x2 x3 x4 c0 s0 m0 r0 r2 h1
    go_wp2_with fail
    go_ret
    refine ⟨{ S with M := M1 }, L, by simp, Two9.h (base := base) (m := m) (r := r) (q := q) (b := xb) (x := x) (by assumption), Two9.R (c := c) (s := s) (p := p) (g := g) (b := xb) (x := x) (by assumption), HOK.out, by have := HC.out; first | omega | (show M1.count ≤ _; omega), HL.out, HK⟩

set_option maxRecDepth 100000 in
set_option maxHeartbeats 8000000 in
theorem does9_write (base c s p g m r q : Nat) (S : SpV) (L : List Nat) (x : ActV) (w : World) (h : CdAt w c s p g S) (R : R9At w base m r q S L) (ok : S.Ok) (_hc : S.M.count ≤ 1000000) (xok : x.Ok) (e0 : (x.op == 0) = false) (e1 : (x.op == 1) = false) (e2 : (x.op == 2) = false) (e3 : (x.op == 3) = false) (e4 : (x.op == 4) = true) :
    Calls Try.prog 53 #[.pointer (some ⟨c, 0, none⟩), .pointer (some ⟨m, 0, none⟩), actArg x] w (Does9Post base c s p g m r q S w) := by
  have hXn := X9At.new w x
  have kx : Keep (fun _ => False) w (w.alloc (.cells #[.int .i64 x.op, .int .i64 x.a, .int .i64 x.b, .int .i64 x.c, .int .u64 x.w] 92)) := (Keep.refl _ _).alloc _
  have K : Keep (Both8 s p g r w base) w (w.alloc (.cells #[.int .i64 x.op, .int .i64 x.a, .int .i64 x.b, .int .i64 x.c, .int .u64 x.w] 92)) := kx.mono (fun _ _ h => h.elim)
  have T : Two9 (w.alloc (.cells #[.int .i64 x.op, .int .i64 x.a, .int .i64 x.b, .int .i64 x.c, .int .u64 x.w] 92)) base c s p g m r q w.heap.size S S L x := ⟨h.keep0 kx, R.keep0 kx, hXn⟩
  have hl := R.sp.ref.len9 ok.mem
  have HQ := Lib.hid (fun (w' : World) (T' : Two9 w' base c s p g m r q w.heap.size S S L x) => (show ∃ A cap, w'.cell? ⟨q, 1, none⟩ = some (.slice A L.length cap) from by
    obtain ⟨_, v, wv, RN⟩ := T'.R.sp.ref
    obtain ⟨A, cap, rfl⟩ := RN.shape
    exact ⟨A, cap, RN.cells.2⟩))
  obtain ⟨A0, cap0, q1⟩ := HQ.out _ T
  have HT := Lib.hid T
  obtain ⟨x0, x1, x2, x3, x4, c0, s0, m0, r0⟩ := T.cells
  have XOK := Lib.hid xok
  have xa1 := xok.a1
  clear hXn kx T h R xok
  have xw0 := XOK.out.w0
  have xw1 := XOK.out.w1
  go_enter Try.func53, Try.ntmps53
  go_wp2_with fail
  generalize w.heap.size = xb at HT x0 x1 x2 x3 x4 HQ ⊢
  generalize w.alloc (.cells #[.int .i64 x.op, .int .i64 x.a, .int .i64 x.b, .int .i64 x.c, .int .u64 x.w] 92) = wA at HT K x0 x1 x2 x3 x4 c0 s0 m0 r0 q1 ⊢
  clear q1
  have kd : Keep (fun _ => False) wA wA.drew := (Keep.refl _ _).drew
  have Td := HT.out.keep0 kd
  replace K := K.drew
  clear kd
  go_region_held3 (fun w' => w'.cell? ⟨xb, 0, none⟩ = some (.int .i64 x.op) ∧ w'.cell? ⟨xb, 1, none⟩ = some (.int .i64 x.a) ∧ w'.cell? ⟨xb, 2, none⟩ = some (.int .i64 x.b) ∧ w'.cell? ⟨xb, 3, none⟩ = some (.int .i64 x.c) ∧ w'.cell? ⟨xb, 4, none⟩ = some (.int .u64 x.w) ∧ w'.cell? ⟨c, 0, none⟩ = some (.pointer (some ⟨s, 0, none⟩)) ∧ w'.cell? ⟨s, 0, none⟩ = some (.pointer (some ⟨p, 0, none⟩)) ∧ w'.cell? ⟨m, 0, none⟩ = some (.pointer (some ⟨r, 0, none⟩)) ∧ w'.cell? ⟨r, 0, none⟩ = some (.pointer (some ⟨q, 0, none⟩)))
    (first | exact ⟨x0, x1, x2, x3, x4, c0, s0, m0, r0⟩ | exact Two9.cells (base := base) (g := g) (by assumption))
    (first
      | (go_at_call 20; refine (swrite_any (s := s) (p := p) (g := g) (S := S) (CdAt.sp (c := c) (Two9.h (base := base) (c := c) (s := s) (p := p) (g := g) (m := m) (r := r) (q := q) (b := xb) (x := x) (by assumption))) ok _ _ xa1 xw0 xw1).mono ?_; rintro e wb ⟨M1, f1, rfl, h1, k1, ok1, hc1, hl1, hR1⟩; (first | have T1 := Two9.left (base := base) (c := c) (m := m) (r := r) (q := q) (b := xb) (S := S) (S' := S) (L := L) (x := x) (by assumption) k1 (CdAt.into (c := c) (Two9.h (base := base) (c := c) (s := s) (p := p) (g := g) (m := m) (r := r) (q := q) (b := xb) (x := x) (by assumption)) k1 h1) | have T1 := Two9.left (base := base) (c := c) (m := m) (r := r) (q := q) (b := xb) (S := S) (S' := { S with M := M2 }) (L := L) (x := x) (by assumption) k1 (CdAt.into (c := c) (Two9.h (base := base) (c := c) (s := s) (p := p) (g := g) (m := m) (r := r) (q := q) (b := xb) (x := x) (by assumption)) k1 h1)))
      | (go_at_call 66; refine (rwrite8_any (base := base) (r := r) (q := q) (S := S) (L := L) (R9At.sp (m := m) (Two9.R (base := base) (c := c) (s := s) (p := p) (g := g) (m := m) (r := r) (q := q) (b := xb) (x := x) (by assumption))) ok _ _ xa1).mono ?_; rintro e wc ⟨M2, f2, rfl, r2, k2, hR2⟩; (first | have T2 := Two9.right (c := c) (s := s) (p := p) (g := g) (m := m) (b := xb) (S := S) (S' := S) (L := L) (x := x) (by assumption) k2 (R9At.into (m := m) (S' := { S with M := M2 }) (Two9.R (base := base) (c := c) (s := s) (p := p) (g := g) (m := m) (r := r) (q := q) (b := xb) (x := x) (by assumption)) k2 r2) | have T2 := Two9.right (c := c) (s := s) (p := p) (g := g) (m := m) (b := xb) (S := { S with M := M1 }) (S' := S) (L := L) (x := x) (by assumption) k2 (R9At.into (m := m) (S' := { S with M := M2 }) (Two9.R (base := base) (c := c) (s := s) (p := p) (g := g) (m := m) (r := r) (q := q) (b := xb) (x := x) (by assumption)) k2 r2))))
  all_goals
    obtain ⟨rfl, rfl⟩ := WriteR.det hR1 hR2
    have HOK := Lib.hid ok1
    have HC := Lib.hid hc1
    have HL := Lib.hid hl1
    (first | have HK := (K.both81 k1).both82 k2 | have HK := (K.both82 k2).both81 k1)
    clear hR1 hR2 hc1 hl1 x0 x1 x2 x3 x4 c0 s0 m0 r0 r2 h1
    go_wp2_with fail
    go_ret
    refine ⟨{ S with M := M1 }, L, by simp, Two9.h (base := base) (m := m) (r := r) (q := q) (b := xb) (x := x) (by assumption), Two9.R (c := c) (s := s) (p := p) (g := g) (b := xb) (x := x) (by assumption), HOK.out, by have := HC.out; first | omega | (show M1.count ≤ _; omega), HL.out, HK⟩

set_option maxRecDepth 100000 in
set_option maxHeartbeats 8000000 in
theorem does9_give (base c s p g m r q : Nat) (S : SpV) (L : List Nat) (x : ActV) (w : World) (h : CdAt w c s p g S) (R : R9At w base m r q S L) (ok : S.Ok) (_hc : S.M.count ≤ 1000000) (xok : x.Ok) (e0 : (x.op == 0) = false) (e1 : (x.op == 1) = false) (e2 : (x.op == 2) = false) (e3 : (x.op == 3) = false) (e4 : (x.op == 4) = false) (e5 : (x.op == 5) = true) :
    Calls Try.prog 53 #[.pointer (some ⟨c, 0, none⟩), .pointer (some ⟨m, 0, none⟩), actArg x] w (Does9Post base c s p g m r q S w) := by
  have hXn := X9At.new w x
  have kx : Keep (fun _ => False) w (w.alloc (.cells #[.int .i64 x.op, .int .i64 x.a, .int .i64 x.b, .int .i64 x.c, .int .u64 x.w] 92)) := (Keep.refl _ _).alloc _
  have K : Keep (Both8 s p g r w base) w (w.alloc (.cells #[.int .i64 x.op, .int .i64 x.a, .int .i64 x.b, .int .i64 x.c, .int .u64 x.w] 92)) := kx.mono (fun _ _ h => h.elim)
  have T : Two9 (w.alloc (.cells #[.int .i64 x.op, .int .i64 x.a, .int .i64 x.b, .int .i64 x.c, .int .u64 x.w] 92)) base c s p g m r q w.heap.size S S L x := ⟨h.keep0 kx, R.keep0 kx, hXn⟩
  have hl := R.sp.ref.len9 ok.mem
  have HQ := Lib.hid (fun (w' : World) (T' : Two9 w' base c s p g m r q w.heap.size S S L x) => (show ∃ A cap, w'.cell? ⟨q, 1, none⟩ = some (.slice A L.length cap) from by
    obtain ⟨_, v, wv, RN⟩ := T'.R.sp.ref
    obtain ⟨A, cap, rfl⟩ := RN.shape
    exact ⟨A, cap, RN.cells.2⟩))
  obtain ⟨A0, cap0, q1⟩ := HQ.out _ T
  have HT := Lib.hid T
  obtain ⟨x0, x1, x2, x3, x4, c0, s0, m0, r0⟩ := T.cells
  have XOK := Lib.hid xok
  have xa1 := xok.a1
  clear hXn kx T h R xok
  go_enter Try.func53, Try.ntmps53
  go_wp2_with fail
  generalize w.heap.size = xb at HT x0 x1 x2 x3 x4 HQ ⊢
  generalize w.alloc (.cells #[.int .i64 x.op, .int .i64 x.a, .int .i64 x.b, .int .i64 x.c, .int .u64 x.w] 92) = wA at HT K x0 x1 x2 x3 x4 c0 s0 m0 r0 q1 ⊢
  clear q1
  have kd : Keep (fun _ => False) wA wA.drew := (Keep.refl _ _).drew
  have Td := HT.out.keep0 kd
  replace K := K.drew
  clear kd
  go_region_held3 (fun w' => w'.cell? ⟨xb, 0, none⟩ = some (.int .i64 x.op) ∧ w'.cell? ⟨xb, 1, none⟩ = some (.int .i64 x.a) ∧ w'.cell? ⟨xb, 2, none⟩ = some (.int .i64 x.b) ∧ w'.cell? ⟨xb, 3, none⟩ = some (.int .i64 x.c) ∧ w'.cell? ⟨xb, 4, none⟩ = some (.int .u64 x.w) ∧ w'.cell? ⟨c, 0, none⟩ = some (.pointer (some ⟨s, 0, none⟩)) ∧ w'.cell? ⟨s, 0, none⟩ = some (.pointer (some ⟨p, 0, none⟩)) ∧ w'.cell? ⟨m, 0, none⟩ = some (.pointer (some ⟨r, 0, none⟩)) ∧ w'.cell? ⟨r, 0, none⟩ = some (.pointer (some ⟨q, 0, none⟩)))
    (first | exact ⟨x0, x1, x2, x3, x4, c0, s0, m0, r0⟩ | exact Two9.cells (base := base) (g := g) (by assumption))
    (first
      | (go_at_call 36; refine (give8_any (s := s) (p := p) (g := g) (S := S) (CdAt.sp (c := c) (Two9.h (base := base) (c := c) (s := s) (p := p) (g := g) (m := m) (r := r) (q := q) (b := xb) (x := x) (by assumption))) ok _).mono ?_; rintro e wb ⟨S1, f1, rfl, h1, k1, ok1, hc1, hl1, hR1⟩; (first | have T1 := Two9.left (base := base) (c := c) (m := m) (r := r) (q := q) (b := xb) (S := S) (S' := S) (L := L) (x := x) (by assumption) k1 (CdAt.into (c := c) (Two9.h (base := base) (c := c) (s := s) (p := p) (g := g) (m := m) (r := r) (q := q) (b := xb) (x := x) (by assumption)) k1 h1) | have T1 := Two9.left (base := base) (c := c) (m := m) (r := r) (q := q) (b := xb) (S := S) (S' := S2) (L := L2) (x := x) (by assumption) k1 (CdAt.into (c := c) (Two9.h (base := base) (c := c) (s := s) (p := p) (g := g) (m := m) (r := r) (q := q) (b := xb) (x := x) (by assumption)) k1 h1)))
      | (go_at_call 76; refine (rgive8_any (base := base) (r := r) (q := q) (S := S) (L := L) (R9At.sp (m := m) (Two9.R (base := base) (c := c) (s := s) (p := p) (g := g) (m := m) (r := r) (q := q) (b := xb) (x := x) (by assumption))) ok _).mono ?_; rintro e wc ⟨S2, L2, f2, rfl, r2, k2, hR2⟩; (first | have T2 := Two9.right (c := c) (s := s) (p := p) (g := g) (m := m) (b := xb) (S := S) (S' := S) (L := L) (x := x) (by assumption) k2 (R9At.into (m := m) (Two9.R (base := base) (c := c) (s := s) (p := p) (g := g) (m := m) (r := r) (q := q) (b := xb) (x := x) (by assumption)) k2 r2) | have T2 := Two9.right (c := c) (s := s) (p := p) (g := g) (m := m) (b := xb) (S := S1) (S' := S) (L := L) (x := x) (by assumption) k2 (R9At.into (m := m) (Two9.R (base := base) (c := c) (s := s) (p := p) (g := g) (m := m) (r := r) (q := q) (b := xb) (x := x) (by assumption)) k2 r2))))
  all_goals
    obtain ⟨rfl, lk⟩ := Give8R.det hR1 hR2
    have HOK := Lib.hid ok1
    have HC := Lib.hid hc1
    have HL := Lib.hid hl1
    (first | have HK := (K.both81 k1).both82 k2 | have HK := (K.both82 k2).both81 k1)
    clear hR1 hR2 hc1 hl1 x0 x1 x2 x3 x4 c0 s0 m0 r0 r2 h1
    go_wp2_with fail
    go_ret
    refine ⟨S1, L2, by simp, Two9.h (base := base) (m := m) (r := r) (q := q) (b := xb) (x := x) (by assumption), R9At.like (S := S2) (by first | exact T2.R | exact T1.R) lk, HOK.out, by have := HC.out; first | omega | (show M1.count ≤ _; omega), HL.out, HK⟩

set_option maxRecDepth 100000 in
set_option maxHeartbeats 8000000 in
theorem does9_other (base c s p g m r q : Nat) (S : SpV) (L : List Nat) (x : ActV) (w : World) (h : CdAt w c s p g S) (R : R9At w base m r q S L) (ok : S.Ok) (_hc : S.M.count ≤ 1000000) (xok : x.Ok) (e0 : (x.op == 0) = false) (e1 : (x.op == 1) = false) (e2 : (x.op == 2) = false) (e3 : (x.op == 3) = false) (e4 : (x.op == 4) = false) (e5 : (x.op == 5) = false) :
    Calls Try.prog 53 #[.pointer (some ⟨c, 0, none⟩), .pointer (some ⟨m, 0, none⟩), actArg x] w (Does9Post base c s p g m r q S w) := by
  have hXn := X9At.new w x
  have kx : Keep (fun _ => False) w (w.alloc (.cells #[.int .i64 x.op, .int .i64 x.a, .int .i64 x.b, .int .i64 x.c, .int .u64 x.w] 92)) := (Keep.refl _ _).alloc _
  have K : Keep (Both8 s p g r w base) w (w.alloc (.cells #[.int .i64 x.op, .int .i64 x.a, .int .i64 x.b, .int .i64 x.c, .int .u64 x.w] 92)) := kx.mono (fun _ _ h => h.elim)
  have T : Two9 (w.alloc (.cells #[.int .i64 x.op, .int .i64 x.a, .int .i64 x.b, .int .i64 x.c, .int .u64 x.w] 92)) base c s p g m r q w.heap.size S S L x := ⟨h.keep0 kx, R.keep0 kx, hXn⟩
  have hl := R.sp.ref.len9 ok.mem
  have HQ := Lib.hid (fun (w' : World) (T' : Two9 w' base c s p g m r q w.heap.size S S L x) => (show ∃ A cap, w'.cell? ⟨q, 1, none⟩ = some (.slice A L.length cap) from by
    obtain ⟨_, v, wv, RN⟩ := T'.R.sp.ref
    obtain ⟨A, cap, rfl⟩ := RN.shape
    exact ⟨A, cap, RN.cells.2⟩))
  obtain ⟨A0, cap0, q1⟩ := HQ.out _ T
  have HT := Lib.hid T
  obtain ⟨x0, x1, x2, x3, x4, c0, s0, m0, r0⟩ := T.cells
  have XOK := Lib.hid xok
  have xa1 := xok.a1
  clear hXn kx T h R xok
  go_enter Try.func53, Try.ntmps53
  go_wp2_with fail
  generalize w.heap.size = xb at HT x0 x1 x2 x3 x4 HQ ⊢
  generalize w.alloc (.cells #[.int .i64 x.op, .int .i64 x.a, .int .i64 x.b, .int .i64 x.c, .int .u64 x.w] 92) = wA at HT K x0 x1 x2 x3 x4 c0 s0 m0 r0 q1 ⊢
  go_ret
  exact ⟨S, L, rfl, HT.out.h, HT.out.R, ok, by omega, rfl, K⟩

theorem does9_any (base c s p g m r q : Nat) (S : SpV) (L : List Nat) (x : ActV) (w : World) (h : CdAt w c s p g S) (R : R9At w base m r q S L) (ok : S.Ok) (hc : S.M.count ≤ 1000000) (xok : x.Ok) :
    Calls Try.prog 53 #[.pointer (some ⟨c, 0, none⟩), .pointer (some ⟨m, 0, none⟩), actArg x] w (Does9Post base c s p g m r q S w) := by
  by_cases o0 : x.op = 0
  · exact does9_alloc base c s p g m r q S L x w h R ok hc xok (by simpa using o0)
  · by_cases o1 : x.op = 1
    · exact does9_store1 base c s p g m r q S L x w h R ok hc xok (by simpa using o0) (by simpa using o1)
    · by_cases o2 : x.op = 2
      · exact does9_store2 base c s p g m r q S L x w h R ok hc xok (by simpa using o0) (by simpa using o1) (by simpa using o2)
      · by_cases o3 : x.op = 3
        · exact does9_again base c s p g m r q S L x w h R ok hc xok (by simpa using o0) (by simpa using o1) (by simpa using o2) (by simpa using o3)
        · by_cases o4 : x.op = 4
          · exact does9_write base c s p g m r q S L x w h R ok hc xok (by simpa using o0) (by simpa using o1) (by simpa using o2) (by simpa using o3) (by simpa using o4)
          · by_cases o5 : x.op = 5
            · exact does9_give base c s p g m r q S L x w h R ok hc xok (by simpa using o0) (by simpa using o1) (by simpa using o2) (by simpa using o3) (by simpa using o4) (by simpa using o5)
            · exact does9_other base c s p g m r q S L x w h R ok hc xok (by simpa using o0) (by simpa using o1) (by simpa using o2) (by simpa using o3) (by simpa using o4) (by simpa using o5)
end Go.Proofs.Ytgnpeciedefeiaa

namespace Go.Proofs.Ytgnpeciedefeiaa
open Go.RowKit

/-- Of one that is taken, and just where the block of the answer lies. -/
def SegS9 (s : Sg) (w : World) (e : Ending) (w' : World) : Prop := ∃ o, e = .returned (.tuple #[.agg #[.int .i64 s.gen, .int .i64 s.kind, .int .i64 s.n, .int .i64 s.c0, .int .i64 s.c1, .int .i64 s.c2, .int .i64 s.c3], .bool true]) ∧ w.alloc o = w'
set_option maxHeartbeats 400000 in
theorem seg_yes_s9 (p g : Nat) (M : MemV) (k : Nat) (w : World) (h : MemAt w p g M) (hl : M.lim ≤ 1024) (hk : k < M.lim) (ht : 0 < (M.sg k).taken) :
    Calls Try.prog 17 #[.pointer (some ⟨p, 0, none⟩), .int .i64 (k : Int)] w (SegS9 (M.sg k) w) := by
  have q0 := h.segs.2 k hk 0 (by omega)
  have q1 := h.segs.2 k hk 1 (by omega)
  have q2 := h.segs.2 k hk 2 (by omega)
  have q3 := h.segs.2 k hk 3 (by omega)
  have q4 := h.segs.2 k hk 4 (by omega)
  have q5 := h.segs.2 k hk 5 (by omega)
  have q6 := h.segs.2 k hk 6 (by omega)
  simp only [Sg.cell, Nat.add_zero] at q0 q1 q2 q3 q4 q5 q6
  have hg := h.segs.lt
  have hg1 : ¬ g = w.heap.size := by omega
  have hg2 : ¬ w.heap.size = g := by omega
  go_enter Try.func17, Try.ntmps17
  go_wp2_with (go_at_call 54; refine (at_yes p g M k _ _ (h.keep ((Keep.refl (fun _ => False) w).alloc _) (by simp) (by simp)) hl rfl hk ht).mono ?_; rintro e w' ⟨rfl, rfl⟩)
  exact bodyPost_ret (v := .tuple #[.agg #[.int .i64 (M.sg k).gen, .int .i64 (M.sg k).kind, .int .i64 (M.sg k).n, .int .i64 (M.sg k).c0, .int .i64 (M.sg k).c1, .int .i64 (M.sg k).c2, .int .i64 (M.sg k).c3], .bool true]) (by simp [results, Try.results17, go_sem]) rfl ⟨_, rfl, rfl⟩
theorem satA9 (w : World) (o : Obj) (s : Sg) : SAt ((w.alloc o).alloc (.cells #[.int .i64 s.gen, .int .i64 s.kind, .int .i64 s.n, .int .i64 s.c0, .int .i64 s.c1, .int .i64 s.c2, .int .i64 s.c3] 37)).drew (w.heap.size + 1) s := by
  have := heap_alloc_new (w.alloc o) (.cells #[.int .i64 s.gen, .int .i64 s.kind, .int .i64 s.n, .int .i64 s.c0, .int .i64 s.c1, .int .i64 s.c2, .int .i64 s.c3] 37)
  show ((w.alloc o).alloc _).heap[w.heap.size + 1]? = _
  simpa using this
theorem satB9 (w : World) (o : Obj) (s : Sg) : SAt ((w.alloc (.cells #[.int .i64 s.gen, .int .i64 s.kind, .int .i64 s.n, .int .i64 s.c0, .int .i64 s.c1, .int .i64 s.c2, .int .i64 s.c3] 37)).alloc o).drew w.heap.size s := by
  show ((w.alloc _).alloc o).heap[w.heap.size]? = _
  rw [Below.heap_alloc _ _ _ (by simp)]
  exact heap_alloc_new w _

set_option maxRecDepth 100000 in
set_option maxHeartbeats 16000000 in
theorem stands9_any {w : World} {base c s p g m r q : Nat} {S : SpV} {L : List Nat} (h : CdAt w c s p g S) (R : R9At w base m r q S L) (ok : S.Ok) :
    Calls Try.prog 52 #[.pointer (some ⟨c, 0, none⟩), .pointer (some ⟨m, 0, none⟩)] w (SamePost w) := by
  have hl := R.sp.ref.len9 ok.mem
  have l1024 := ok.mem.l1024
  have T := R.sp.ref.1
  have HT := Lib.hid T
  have HH := Lib.hid h
  have HR := Lib.hid R
  clear T h R
  go_enter Try.func52, Try.ntmps52
  go_wp2_with fail
  go_loopw [5] (fun i wr => ∃ k : Nat, k ≤ L.length ∧ i = .int .i64 k ∧ Keep (fun _ => False) w wr) (fun i _ => L.length - (intOf i).toNat)
  case atStart => exact ⟨0, Nat.zero_le _, rfl, Keep.refl _ _⟩
  case round =>
    obtain ⟨k, hk, rfl, K⟩ := hrel
    have hr := HR.out.keep0 K
    have c0 := hr.ptr
    have s0 := hr.qptr
    by_cases hlt : k < L.length
    · obtain ⟨t, ht⟩ : ∃ t, t = L.getD k 0 := ⟨_, rfl⟩
      obtain ⟨gv, cap, A', cap2, q1, hgv, y0, y1, y2, y3, y4, y5, y6, y7, y8, hw⟩ := hr.sp.ref.rows9 hlt ht
      have htm := HT.out.mem (getD_mem hlt)
      rw [← ht] at htm
      have HTM := Lib.hid htm
      have hcn := cntOf_eq ok.mem htm.1
      have n64 := (ok.mem.sg t htm.1).n64
      obtain ⟨nw, hnw⟩ : ∃ nw, nw = cntOf S.M t := ⟨_, rfl⟩
      rw [← hnw] at y8 hcn hw
      obtain ⟨sg, hs⟩ : ∃ sg, sg = S.M.sg t := ⟨_, rfl⟩
      rw [← hs] at y1 y2 y3 y4 y5 y6 y7 hcn n64 hw
      have hn64 : nw ≤ 64 := by omega
      have ht1024 : t ≤ 1024 := by have := htm.1; omega
      have HS := Lib.hid hs
      have HCN := Lib.hid hcn
      have HW := Lib.hid (fun (w' : World) (K' : Keep (fun _ => False) wr w') (j : Nat) (hj : j < nw) => (show ∃ g2, A' = some ⟨g2, 0, none⟩ ∧ w'.cell? ⟨g2, j, none⟩ = some (.int .u64 (sg.words j)) from by
        obtain ⟨g2, e, hg2, hc⟩ := hw j hj
        exact ⟨g2, e, (K'.cell (p := ⟨g2, j, none⟩) hg2 (by simp)).trans hc⟩))
      have ii0 : (0 : Int) ≤ (k : Int) := by omega
      have ii1 : (k : Int) < (L.length : Int) := by omega
      clear ht hnw hs hr htm hcn n64 hw
      go_upto_region 5 with (fail)
      have k4 : Keep (fun _ => False) wr (wr.alloc (.cells #[.int .i64 (t : Int), .int .i64 sg.gen, .int .i64 sg.kind, .int .i64 sg.n, .int .i64 sg.c0, .int .i64 sg.c1, .int .i64 sg.c2, .int .i64 sg.c3, .slice A' nw cap2] 125)) := (Keep.refl _ _).alloc _
      have hX : RowAt9 (wr.alloc (.cells #[.int .i64 (t : Int), .int .i64 sg.gen, .int .i64 sg.kind, .int .i64 sg.n, .int .i64 sg.c0, .int .i64 sg.c1, .int .i64 sg.c2, .int .i64 sg.c3, .slice A' nw cap2] 125)) wr.heap.size t sg (.slice A' nw cap2) := heap_alloc_new _ _
      clear c0 s0 q1 hgv y0 y1 y2 y3 y4 y5 y6 y7 y8
      generalize wr.heap.size = xr at hX ⊢
      generalize wr.alloc (.cells #[.int .i64 (t : Int), .int .i64 sg.gen, .int .i64 sg.kind, .int .i64 sg.n, .int .i64 sg.c0, .int .i64 sg.c1, .int .i64 sg.c2, .int .i64 sg.c3, .slice A' nw cap2] 125) = w4 at k4 hX ⊢
      have K4 := K.trans k4
      have HX := Lib.hid hX
      have x0 := hX.cells.1
      have h4 := HH.out.keep0 K4
      have H4 := Lib.hid h4
      have c0 := h4.ptr
      have s0 := h4.sp.ptr
      clear hX h4
      go_cut [7, 8] (fun b o wx => ∃ xb : Nat, b = .pointer (some ⟨xb, 0, none⟩) ∧ o = .bool true ∧ SAt wx xb sg ∧ Keep (fun _ => False) w4 wx)
      case first =>
        have e1 := World.new_ne w4 _ x0
        have e2 := World.new_ne w4 _ c0
        have e3 := World.new_ne w4 _ s0
        go_region_held3 (fun w' => w'.cell? ⟨c, 0, none⟩ = some (.pointer (some ⟨s, 0, none⟩)) ∧ w'.cell? ⟨s, 0, none⟩ = some (.pointer (some ⟨p, 0, none⟩)) ∧ w'.cell? ⟨xr, 0, none⟩ = some (.int .i64 (t : Int))) (go_keep)
          ((go_at_call 17; refine (seg_yes_s9 p g S.M t _ ?_ l1024 HTM.out.1 HTM.out.2).mono ?_; (exact H4.out.sp.mem.keep (S := fun _ => False) (by repeat (first | exact Keep.refl _ _ | with_reducible apply Keep.drew | with_reducible apply Keep.alloc)) id id); rw [← HS.out]; rintro e w5 ⟨oo, rfl, rfl⟩))
        all_goals (go_wp2_with fail)
        all_goals go_meet
        all_goals refine ⟨_, rfl, rfl, ?_, (((Keep.refl _ _).alloc _).alloc _).drew⟩
        all_goals (first | exact satA9 _ _ _ | exact satB9 _ _ _)
      case rest =>
        obtain ⟨xb, rfl, rfl, hS, Kx⟩ := hcut
        have K5 := K4.trans Kx
        have k5 := k4.trans Kx
        have hX5 : RowAt9 _ xr t sg (.slice A' nw cap2) := Kx.heap HX.out (by simp)
        obtain ⟨y0, y1, y2, y3, y4, y5, y6, y7, y8⟩ := hX5.cells
        obtain ⟨s0, s1, s2, s3, s4, s5, s6⟩ := hS.cells
        have hneq := fun w' => neq37 sg.gen sg.kind sg.n sg.c0 sg.c1 sg.c2 sg.c3 w'
        have heq35 := fun w' => eq35 sg.c0 sg.c1 sg.c2 sg.c3 w'
        have HX5 := Lib.hid hX5
        clear hX5 hS c0 x0
        go_wp2_with fail
        clear hneq heq35 y0 y1 y2 y3 y4 y5 y6 y7 y8 s0 s1 s2 s3 s4 s5 s6 Kx
        go_loopw [9] (fun jv wx => ∃ j : Nat, j ≤ nw ∧ jv = .int .i64 j ∧ Keep (fun _ => False) wc wx) (fun jv _ => nw - (intOf jv).toNat)
        case atStart => exact ⟨0, Nat.zero_le _, rfl, Keep.refl _ _⟩
        case round =>
          obtain ⟨j, hj, rfl, Kj⟩ := hrel
          have hXj : RowAt9 _ xr t sg (.slice A' nw cap2) := Kj.heap HX5.out (by simp)
          obtain ⟨y0, _, _, _, _, _, _, _, y8⟩ := hXj.cells
          have HXj := Lib.hid hXj
          have K6 := K5.trans Kj
          have k6 := k5.trans Kj
          clear hXj
          by_cases hjn : j < nw
          · have h6 := HH.out.keep0 K6
            have c0 := h6.ptr
            have s0 := h6.sp.ptr
            have hwr1 : IntKind.i64.wrap (64 * (t : Int)) = 64 * (t : Int) := by simp [IntKind.wrap, IntKind.signed, IntKind.bits]; omega
            have hwr2 : IntKind.i64.wrap (64 * (t : Int) + (j : Int)) = 64 * (t : Int) + (j : Int) := by simp [IntKind.wrap, IntKind.signed, IntKind.bits]; omega
            have HRd := Lib.hid (fun (w' : World) (K' : Keep (fun _ => False) w w') => (show Calls Try.prog 21 #[.pointer (some ⟨p, 0, none⟩), .int .i64 (64 * (t : Int) + (j : Int))] w' fun e w'' => e = .returned (.tuple #[.int .u64 (sg.words j), .int .i64 0]) ∧ w' = w'' from by
              rw [HS.out]
              exact read_at p g S.M t j (64 * (t : Int) + (j : Int)) w' (HH.out.keep0 K').sp.mem ok.mem (by omega) HTM.out.1 HTM.out.2 (by have := HCN.out; rw [HS.out] at this; omega)))
            clear h6
            go_wp2_with fail
            go_quiet ((go_at_call 21; exact Calls.quiet_of_same ((HRd.out _ (by first | exact K6 | exact K6.drewN _)).mono fun _ _ ⟨he, hw⟩ => ⟨he, hw.symm⟩)))
            clear hwr1 hwr2 HRd y0 y8 c0 s0
            have Kj2 := Kj.drewN nq
            have k7 := k6.drewN nq
            have hX7 : RowAt9 (wr.drewN nq) xr t sg (.slice A' nw cap2) := ((Keep.refl (fun _ => False) wr).drewN nq).heap HXj.out (by simp)
            generalize wr.drewN nq = w12 at Kj2 k7 hX7 ⊢
            obtain ⟨_, _, _, _, _, _, _, _, y8⟩ := hX7.cells
            obtain ⟨g2, rfl, hw2⟩ := HW.out _ k7 j hjn
            clear hX7
            go_wp2_with fail
            go_roundw
            case rel => first | exact ⟨j + 1, by omega, by go_num, Kj2⟩ | ((repeat apply Exists.intro); exact ⟨⟨j + 1, by omega, by go_num, Kj2⟩, rfl⟩)
            case measure => simp [intOf]; omega
          · obtain rfl : j = nw := by omega
            go_wp2_with fail
            go_roundw
            case rel => first | exact ⟨k + 1, by omega, by go_num, K6⟩ | ((repeat apply Exists.intro); exact ⟨⟨k + 1, by omega, by go_num, K6⟩, rfl⟩)
            case measure => simp [intOf]; omega
    · obtain rfl : k = L.length := by omega
      obtain ⟨gv, A1, cap1, q0, q1⟩ : ∃ (gv : Unit) (A : Option Addr) (cap : Nat), wr.cell? ⟨q, 0, none⟩ = some (.int .i64 (S.M.lim : Int)) ∧ wr.cell? ⟨q, 1, none⟩ = some (.slice A L.length cap) := by
        obtain ⟨_, v, wv, RN⟩ := hr.sp.ref
        obtain ⟨A, cap, rfl⟩ := RN.shape
        exact ⟨(), A, cap, RN.cells.1, RN.cells.2⟩
      have hqb := World.block_lt_of_cell? wr _ q0
      have HQ := Lib.hid (fun (w' : World) (K' : Keep (fun _ => False) wr w') => (show w'.cell? ⟨q, 0, none⟩ = some (.int .i64 (S.M.lim : Int)) ∧ w'.cell? ⟨q, 1, none⟩ = some (.slice A1 L.length cap1) from ⟨(K'.cell (p := ⟨q, 0, none⟩) hqb (by simp)).trans q0, (K'.cell (p := ⟨q, 1, none⟩) hqb (by simp)).trans q1⟩))
      clear hqb q0 hr
      go_wp2_with fail
      clear q1 c0 s0
      generalize wr = wy at K HQ ⊢
      go_loopw [12] (fun gv wx => ∃ gg : Int, -1 ≤ gg ∧ gg ≤ 6 ∧ gv = .int .i64 gg ∧ Keep (fun _ => False) wy wx) (fun gv _ => (7 - intOf gv).toNat)
      case atStart => exact ⟨-1, by omega, by omega, rfl, Keep.refl _ _⟩
      case round =>
        obtain ⟨gg, hg1, hg2, rfl, Ky⟩ := hrel
        have K8 := K.trans Ky
        by_cases hi7 : gg ≤ 5
        · go_wp2_with fail
          refine (dirty_any (HH.out.keep0 K8) ok HT.out gg).mono ?_
          rintro e w9 ⟨A9, c9, rfl, C9, _, k9⟩
          have K9 := K8.trans k9
          have HC9 := Lib.hid C9
          clear C9
          go_wp2_with fail
          refine (rdirty_any (HR.out.keep0 K9) ok gg).mono ?_
          rintro e w10 ⟨A10, c10, rfl, C10, _, k10⟩
          have hdl : (dirtyL S.M gg L).length ≤ 1000000 := by have := dirtyL_len S.M gg L; omega
          have HC10 := Lib.hid C10
          have HDL := Lib.hid hdl
          have HK9 := Lib.hid (k9.trans k10)
          have HC := Lib.hid (HC9.out.keep0 k10)
          clear C10 hdl k9 k10
          go_wp2_with fail
          refine (same_yes A9 A10 _ c9 c10 _ _ HC.out HC10.out HDL.out).mono ?_
          rintro e w11 ⟨rfl, k11⟩
          have K11 := (Ky.trans HK9.out).trans k11
          go_wp2_with fail
          go_roundw
          case rel => exact ⟨gg + 1, by omega, by omega, rfl, K11⟩
          case measure => simp [intOf]; omega
        · have hi6 : decide (gg ≤ 5) = false := by simpa using hi7
          have hgg : gg = 6 := by omega
          have hfree : (S.M.lim : Int) - (L.length : Int) = S.M.free := by
            have hall := count_all S.M ok.mem.t0 S.M.lim (Nat.le_refl _)
            have hfr := ok.mem.fr
            have hlen := HT.out.len
            omega
          have hwrap : IntKind.i64.wrap ((S.M.lim : Int) - (L.length : Int)) = S.M.free := by rw [← hfree]; simp [IntKind.wrap, IntKind.signed, IntKind.bits]; omega
          have h8 := HH.out.keep0 K8
          have R8 := HR.out.keep0 K8
          have c0 := h8.ptr
          have s0 := h8.sp.ptr
          have m0 := R8.ptr
          have r0 := R8.qptr
          obtain ⟨q0, q1⟩ := HQ.out _ Ky
          have HFR := Lib.hid (fun (w' : World) (K' : Keep (fun _ => False) w w') => free_any p g S.M w' (HH.out.keep0 K').sp.mem)
          have HK8 := Lib.hid K8
          clear hfree h8 R8 hi7 hgg hg1 hg2
          go_wp2_with fail
          go_quiet ((go_at_call 15; exact Calls.quiet_of_same ((HFR.out _ (by first | exact HK8.out | exact HK8.out.drewN _)).mono fun _ _ ⟨he, hw⟩ => ⟨he, hw.symm⟩)))
          go_wp2_with fail
          go_ret
          exact ⟨rfl, HK8.out.drewN _⟩
end Go.Proofs.Ytgnpeciedefeiaa

namespace Go.Proofs.Ytgnpeciedefeiaa
open Go.RowKit

set_option maxRecDepth 100000 in
set_option maxHeartbeats 8000000 in
theorem cardPlays_yes (lim : Nat) (A : Option Addr) (len cap : Nat) (acts : Nat → ActV) (w : World) (h8 : 8 ≤ lim) (h1024 : lim ≤ 1024) (hA : ActsAt w A len acts) (hlen : len ≤ 300) :
    Calls Try.prog 12 #[.int .i64 lim, .slice A len cap] w fun e w' => e = .returned (.bool true) ∧ Keep (fun _ => False) w w' := by
  have HA := Lib.hid hA
  clear hA
  go_enter Try.func12, Try.ntmps12
  go_wp2_with fail
  refine (new9_yes lim _ _ rfl h8 h1024).mono ?_
  rintro e w1 ⟨c, s, p, g, rfl, hcc, hs, hp, hgg, h1, k1⟩
  go_wp2_with fail
  refine (rnew9_some lim w.heap.size _ _ rfl h8 h1024 k1.size).mono ?_
  rintro e w2 ⟨m, r, q, rfl, hm, hr, R2, k2⟩
  have h2 := h1.keep0 k2
  have K2 := k1.trans k2
  have hm' : w.heap.size ≤ m := Nat.le_trans k1.size hm
  have hr' : w.heap.size ≤ r := Nat.le_trans k1.size hr
  clear h1 k1 k2 hm hr
  go_wp2_with fail
  refine (stands9_any h2 R2 (SpV.Ok.new h8 h1024)).mono ?_
  rintro e w3 ⟨rfl, k3⟩
  have h3 := h2.keep0 k3
  have R3 := R2.keep0 k3
  have K3 := K2.trans k3
  clear h2 R2 K2 k3
  go_wp2_with fail
  go_loopw [5, 8] (fun mv i wr => ∃ (j c s p g : Nat) (S : SpV) (L : List Nat), j ≤ len ∧ i = .int .i64 j ∧ mv = .pointer (some ⟨c, 0, none⟩) ∧ w.heap.size ≤ c ∧ w.heap.size ≤ s ∧ w.heap.size ≤ p ∧ w.heap.size ≤ g ∧ S.Ok ∧ S.M.count ≤ j ∧ CdAt wr c s p g S ∧ R9At wr w.heap.size m r q S L ∧ Keep (fun _ => False) w wr) (fun _ i _ => len - (intOf i).toNat)
  case atStart => exact ⟨0, c, s, p, g, _, _, Nat.zero_le _, rfl, rfl, hcc, hs, hp, hgg, SpV.Ok.new h8 h1024, Int.le_refl 0, h3, R3, K3⟩
  case round =>
    clear h3 R3 K3 hcc hs hp hgg
    obtain ⟨j, c, s, p, g, S, L, hj, rfl, rfl, hcc, hs, hp, hgg, ok, hc, h, R, k⟩ := hrel
    have HC := Lib.hid hc
    clear hc
    by_cases hlt : j < len
    · obtain ⟨b, off, rfl, hb, xok, y0, y1, y2, y3, y4⟩ := HA.out.at_ k hlt
      have HY := Lib.hid (fun (w' : World) (K' : Keep (fun _ => False) w w') => HA.out.at_ K' hlt)
      obtain ⟨x, hxx⟩ : ∃ x, x = acts j := ⟨_, rfl⟩
      rw [← hxx] at xok y0 y1 y2 y3 y4 HY
      have XOK := Lib.hid xok
      clear hxx xok
      have hcl : S.M.count ≤ 1000000 := by have := HC.out; omega
      have Hcl := Lib.hid hcl
      have hl0 := h.lt
      have hsl := h.sp.lt
      have hpl := h.sp.mem.lt
      have hgl := h.sp.mem.segs.lt
      clear hcl
      by_cases o6 : x.op = 6
      · have e6 : (x.op == 6) = true := by simpa using o6
        clear o6
        go_wp2_with fail
        refine (copy9_any h ok).mono ?_
        rintro e w4 ⟨c', s', p', g', rfl, hc', hs', hp', hg', h4, o4, k4⟩
        have n0 : ¬ MineS s p g c' := by rintro (h | h | h) <;> omega
        have n1 : ¬ MineS s p g s' := by rintro (h | h | h) <;> omega
        have n2 : ¬ MineS s p g p' := by rintro (h | h | h) <;> omega
        have n3 : ¬ MineS s p g g' := by rintro (h | h | h) <;> omega
        replace k := k.trans k4
        replace R := R.keep0 k4
        have c0 := o4.ptr
        clear h k4
        go_wp2_with fail
        refine (alloc_any o4.sp ok Hcl.out _ _ _).mono ?_
        rintro e w5 ⟨S5, a5, f5, rfl, o5, k5, ok5, _, _, _⟩
        replace h4 := h4.keep k5 n0 n1 n2 n3
        replace R := R.keepS9 o4 k5
        replace k := k.into k5 (mineS_from hs hp hgg)
        have o5' := o4.into k5 o5
        clear k5 o4 c0 o5
        go_wp2_with fail
        refine (store_any o5' ok5 0 99 (by omega) (by omega)).mono ?_
        rintro e w6 ⟨M6, f6, rfl, o6, k6, ok6, _, _, _⟩
        replace h4 := h4.keep k6 n0 n1 n2 n3
        replace R := R.keepS9 o5' k6
        replace k := k.into k6 (mineS_from hs hp hgg)
        have c0 := o6.ptr
        have s0 := o6.sp.ptr
        clear k6 o5' ok5
        go_wp2_with fail
        refine (mark_all p g M6 _ _ _ _ o6.sp.mem ok6.mem).mono ?_
        rintro e w7 ⟨M7, f7, rfl, m7, k7, _, _, _, _⟩
        have k7' := k7.mineS (s := s)
        replace h4 := h4.keep k7' n0 n1 n2 n3
        replace R := R.keepS9 o6 k7'
        replace k := k.into k7' (mineS_from hs hp hgg)
        clear k7 k7' o6 ok6 m7 y0 y1 y2 y3 y4 c0 s0
        obtain ⟨b', off', e', hb', _, y0, y1, y2, y3, y4⟩ := HY.out _ k
        injection e' with e'
        injection e' with ea eb _
        subst ea eb
        go_wp2_with fail
        refine (does9_any w.heap.size c' s' p' g' m r q S L x _ h4 R ok Hcl.out XOK.out).mono ?_
        rintro e w8 ⟨S8, L8, rfl, h8', R8, ok8, hc8, hl8, K8⟩
        have HC8 := Lib.hid hc8
        replace k := k.into K8 (both8_from (by omega) (by omega) (by omega) hr' (Nat.le_refl _))
        clear hc8 hl8 K8 h4 R y0 y1 y2 y3 y4
        go_wp2_with fail
        go_roundw
        case rel => exact ⟨j + 1, c', s', p', g', S8, L8, by omega, by go_num, rfl, by omega, by omega, by omega, by omega, ok8, by have := HC8.out; have := HC.out; omega, h8', R8, k⟩
        case measure => simp [intOf]; omega
      · have e6 : (x.op == 6) = false := by simpa using o6
        clear o6
        go_wp2_with fail
        refine (does9_any w.heap.size c s p g m r q S L x _ h R ok Hcl.out XOK.out).mono ?_
        rintro e w8 ⟨S8, L8, rfl, h8', R8, ok8, hc8, hl8, K8⟩
        have HC8 := Lib.hid hc8
        replace k := k.into K8 (both8_from hs hp hgg hr' (Nat.le_refl _))
        clear hc8 hl8 K8 h R y0 y1 y2 y3 y4
        go_wp2_with fail
        go_roundw
        case rel => exact ⟨j + 1, c, s, p, g, S8, L8, by omega, by go_num, rfl, hcc, hs, hp, hgg, ok8, by have := HC8.out; have := HC.out; omega, h8', R8, k⟩
        case measure => simp [intOf]; omega
    · obtain rfl : j = len := by omega
      go_wp2_with fail
      refine (stands9_any h R ok).mono ?_
      rintro e w9 ⟨rfl, k9⟩
      go_wp2_with fail
      refine (awake9 _).mono ?_
      rintro e w10 ⟨rfl, k10⟩
      go_wp2_with fail
      go_ret
      exact ⟨rfl, (k.trans k9).trans k10⟩

set_option maxRecDepth 100000 in
set_option maxHeartbeats 800000 in
theorem cardPlays_any (limit : Int) (A : Option Addr) (len cap : Nat) (acts : Nat → ActV) (w : World) (hA : ActsAt w A len acts) (hmax : len ≤ maxLen) :
    Calls Try.prog 12 #[.int .i64 limit, .slice A len cap] w fun e w' => e = .returned (.bool true) ∧ Keep (fun _ => False) w w' := by
  unfold maxLen at hmax
  by_cases b : 300 < len
  · clear hA
    go_enter Try.func12, Try.ntmps12
    go_wp2_with fail
    refine (awake9 _).mono ?_
    rintro e w2 ⟨rfl, k2⟩
    go_wp2_with fail
    go_ret
    exact ⟨rfl, k2⟩
  · by_cases h : limit < 8 ∨ 1024 < limit
    · have H := Lib.hid h
      have hb : decide ((300 : Int) < (len : Int)) = false := decide_eq_false (by omega)
      clear h hA b
      go_enter Try.func12, Try.ntmps12
      go_wp2_with fail
      refine (new9_no _ _ H.out).mono ?_
      rintro e w1 ⟨rfl, rfl⟩
      go_wp2_with fail
      refine (rnew9_none _ _ H.out).mono ?_
      rintro e w1 ⟨rfl, rfl⟩
      go_wp2_with fail
      refine (awake9 _).mono ?_
      rintro e w2 ⟨rfl, k2⟩
      go_wp2_with fail
      go_ret
      exact ⟨rfl, k2⟩
    · obtain ⟨lim, rfl⟩ : ∃ lim : Nat, limit = lim := ⟨limit.toNat, by omega⟩
      exact cardPlays_yes lim A len cap acts w (by omega) (by omega) hA (by omega)
end Go.Proofs.Ytgnpeciedefeiaa
