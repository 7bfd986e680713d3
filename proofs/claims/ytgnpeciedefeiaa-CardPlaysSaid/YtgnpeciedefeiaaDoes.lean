/-
  morainelaw07.does: one call of both memories, and what they answer is the same.
-/
import Derived.Test.YtgnpeciedefeiaaRefGive
import Derived.Test.YtgnpeciedefeiaaRefBump
import Derived.Test.YtgnpeciedefeiaaRefWrite
import Derived.Deep.RegionHeld3
namespace Go.Proofs.Ytgnpeciedefeiaa
open Go.RowKit

theorem GiveR.det {M : MemV} {s f f2 : Int} {M1 M2 : MemV} (h : GiveR M s f M1) (h2 : GiveR M s f2 M2) : f = f2 ∧ M1 = M2 := by
  rcases h with ⟨a, rfl, rfl⟩ | ⟨k, rfl, hk, ht, rfl, rfl⟩
  · rcases h2 with ⟨_, rfl, rfl⟩ | ⟨k, rfl, hk, ht, _⟩
    · exact ⟨rfl, rfl⟩
    · exact absurd (MemV.has_iff.2 ⟨k, rfl, hk, ht⟩) a
  · rcases h2 with ⟨a, _⟩ | ⟨k', e, _, _, rfl, rfl⟩
    · exact absurd (MemV.has_iff.2 ⟨k, rfl, hk, ht⟩) a
    · obtain rfl : k = k' := by omega
      exact ⟨rfl, rfl⟩
theorem WriteR.det {M : MemV} {s u f f2 : Int} {M1 M2 : MemV} (h : WriteR M s u f M1) (h2 : WriteR M s u f2 M2) : f = f2 ∧ M1 = M2 := by
  rcases h with ⟨a, rfl, rfl⟩ | ⟨k, rfl, hk, ht, hn, rfl, rfl⟩
  · rcases h2 with ⟨_, rfl, rfl⟩ | ⟨k, rfl, hk, ht, hn, _⟩
    · exact ⟨rfl, rfl⟩
    · exact absurd (MemV.used_iff.2 ⟨k, rfl, hk, ht, hn⟩) a
  · rcases h2 with ⟨a, _⟩ | ⟨k', e, _, _, _, rfl, rfl⟩
    · exact absurd (MemV.used_iff.2 ⟨k, rfl, hk, ht, hn⟩) a
    · obtain rfl : k = k' := by omega
      exact ⟨rfl, rfl⟩
theorem ReadR.det {M : MemV} {s u u2 f f2 : Int} (h : ReadR M s u f) (h2 : ReadR M s u2 f2) : u = u2 ∧ f = f2 := by
  rcases h with ⟨a, rfl, rfl⟩ | ⟨k, rfl, hk, ht, hn, rfl, rfl⟩
  · rcases h2 with ⟨_, rfl, rfl⟩ | ⟨k, rfl, hk, ht, hn, _⟩
    · exact ⟨rfl, rfl⟩
    · exact absurd (MemV.used_iff.2 ⟨k, rfl, hk, ht, hn⟩) a
  · rcases h2 with ⟨a, _⟩ | ⟨k', e, _, _, _, rfl, rfl⟩
    · exact absurd (MemV.used_iff.2 ⟨k, rfl, hk, ht, hn⟩) a
    · obtain rfl : k = k' := by omega
      exact ⟨rfl, rfl⟩
theorem MarkR.det {M : MemV} {s c m f f2 : Int} {M1 M2 : MemV} (h : MarkR M s c m f M1) (h2 : MarkR M s c m f2 M2) : f = f2 ∧ M1 = M2 := by
  rcases h with ⟨a, rfl, rfl⟩ | ⟨a, b, rfl, rfl⟩ | ⟨k, d, rfl, hk, ht, rfl, h1, h2', h3, rfl, rfl⟩
  · rcases h2 with ⟨_, rfl, rfl⟩ | ⟨a', _⟩ | ⟨k, d, rfl, hk, ht, _⟩
    · exact ⟨rfl, rfl⟩
    · exact absurd a' a
    · exact absurd (MemV.has_iff.2 ⟨k, rfl, hk, ht⟩) a
  · rcases h2 with ⟨a', _⟩ | ⟨_, _, rfl, rfl⟩ | ⟨k, d, rfl, hk, ht, rfl, h1, h2', h3, _⟩
    · exact absurd a a'
    · exact ⟨rfl, rfl⟩
    · omega
  · rcases h2 with ⟨a', _⟩ | ⟨_, b, _⟩ | ⟨k', d', e, _, _, e2, _, _, _, rfl, rfl⟩
    · exact absurd (MemV.has_iff.2 ⟨k, rfl, hk, ht⟩) a'
    · omega
    · obtain rfl : k = k' := by omega
      obtain rfl : d = d' := by omega
      exact ⟨rfl, rfl⟩
theorem BumpR.det {M : MemV} {s n a a2 f f2 : Int} {M1 M2 : MemV} (h : BumpR M s n a f M1) (h2 : BumpR M s n a2 f2 M2) : a = a2 ∧ f = f2 ∧ M1 = M2 := by
  rcases h with ⟨h0, rfl, rfl, rfl⟩ | ⟨h0, h1, rfl, rfl, rfl⟩ | ⟨k, rfl, hk, ht, h1, h3, rfl, rfl, rfl⟩ | ⟨k, rfl, hk, ht, h1, h3, rfl, rfl, rfl⟩
  · rcases h2 with ⟨_, rfl, rfl, rfl⟩ | ⟨g0, _⟩ | ⟨k, rfl, hk, ht, _⟩ | ⟨k, rfl, hk, ht, _⟩
    · exact ⟨rfl, rfl, rfl⟩
    · exact absurd g0 h0
    · exact absurd (MemV.has_iff.2 ⟨k, rfl, hk, ht⟩) h0
    · exact absurd (MemV.has_iff.2 ⟨k, rfl, hk, ht⟩) h0
  · rcases h2 with ⟨g0, _⟩ | ⟨_, _, rfl, rfl, rfl⟩ | ⟨k, rfl, hk, ht, g1, _⟩ | ⟨k, rfl, hk, ht, g1, _⟩
    · exact absurd h0 g0
    · exact ⟨rfl, rfl, rfl⟩
    · omega
    · omega
  · rcases h2 with ⟨g0, _⟩ | ⟨_, g1, _⟩ | ⟨k', e, _, _, _, _, rfl, rfl, rfl⟩ | ⟨k', e, _, _, _, g3, _⟩
    · exact absurd (MemV.has_iff.2 ⟨k, rfl, hk, ht⟩) g0
    · omega
    · exact ⟨rfl, rfl, rfl⟩
    · obtain rfl : k = k' := by omega
      omega
  · rcases h2 with ⟨g0, _⟩ | ⟨_, g1, _⟩ | ⟨k', e, _, _, _, g3, _⟩ | ⟨k', e, _, _, _, _, rfl, rfl, rfl⟩
    · exact absurd (MemV.has_iff.2 ⟨k, rfl, hk, ht⟩) g0
    · omega
    · obtain rfl : k = k' := by omega
      omega
    · obtain rfl : k = k' := by omega
      exact ⟨rfl, rfl, rfl⟩
theorem TakeR.det {M : MemV} {s n a a2 f f2 : Int} {M1 M2 : MemV} (h : TakeR M s n a f M1) (h2 : TakeR M s n a2 f2 M2) : a = a2 ∧ f = f2 ∧ M1 = M2 := by
  rcases h with ⟨h0, rfl, rfl, rfl⟩ | ⟨h0, h1, rfl, rfl, rfl⟩ | ⟨k, h0, h1, hk, hz, hl, rfl, rfl, rfl⟩
  · rcases h2 with ⟨_, rfl, rfl, rfl⟩ | ⟨g0, _⟩ | ⟨k, g0, _⟩
    · exact ⟨rfl, rfl, rfl⟩
    · exact absurd h0 g0
    · exact absurd h0 g0
  · rcases h2 with ⟨g0, _⟩ | ⟨_, _, rfl, rfl, rfl⟩ | ⟨k, g0, g1, _⟩
    · exact absurd g0 h0
    · exact ⟨rfl, rfl, rfl⟩
    · omega
  · rcases h2 with ⟨g0, _⟩ | ⟨_, g1, _⟩ | ⟨k', g0, g1, gk, gz, gl, rfl, rfl, rfl⟩
    · exact absurd g0 h0
    · omega
    · obtain rfl : k = k' := by
        rcases Nat.lt_trichotomy k k' with h | h | h
        · have := gl k h; omega
        · exact h
        · have := hl k' h; omega
      exact ⟨rfl, rfl, rfl⟩

/-- The blocks of both. -/
def Both (p g : Nat) (w : World) (base b : Nat) : Prop := Mine p g b ∨ RefS w base b
theorem Keep.both1 {p g base : Nat} {w a b : World} (h : Keep (Both p g w base) w a) (k : Keep (Mine p g) a b) : Keep (Both p g w base) w b := h.join k (fun _ _ h => .inl h)
theorem Keep.both2 {p g base : Nat} {w a b : World} (h : Keep (Both p g w base) w a) (k : Keep (RefS a base) a b) : Keep (Both p g w base) w b := h.join k (fun i hi hs => by
  by_cases hb : Both p g w base i
  · exact hb
  · obtain ⟨h0, c, t, z, e, ht⟩ := hs
    rw [h.block i hi hb] at e
    exact .inr ⟨h0, c, t, z, e, ht⟩)

def DoesPost (base p g q : Nat) (M : MemV) (w : World) (e : Ending) (w' : World) : Prop :=
  ∃ (M' : MemV) (L' : List Nat), e = .returned (.bool true) ∧ MemAt w' p g M' ∧ RefAt w' base q M' L' ∧ M'.Ok ∧ M'.count ≤ M.count + 1 ∧ M'.lim = M.lim ∧ Keep (Both p g w base) w w'

set_option maxRecDepth 100000 in
set_option maxHeartbeats 8000000 in
theorem does_any (base p g q : Nat) (M : MemV) (L : List Nat) (x : ActV) (w : World) (m : MemAt w p g M) (R : RefAt w base q M L) (ok : M.Ok) (hc : M.count ≤ 1000000) (xok : x.Ok) :
    Calls Try.prog 27 #[.pointer (some ⟨p, 0, none⟩), .pointer (some ⟨q, 0, none⟩), .agg #[.int .i64 x.op, .int .i64 x.a, .int .i64 x.b, .int .i64 x.c, .int .u64 x.w]] w (DoesPost base p g q M w) := by
  have X := XAt.new w x
  have kx : Keep (fun _ => False) w (w.alloc (.cells #[.int .i64 x.op, .int .i64 x.a, .int .i64 x.b, .int .i64 x.c, .int .u64 x.w] 31)) := (Keep.refl _ _).alloc _
  have hpl := m.lt
  have hgl := m.segs.lt
  have nX : ¬ Mine p g w.heap.size := by rintro (h | h) <;> omega
  replace m := m.keep kx (by simp) (by simp)
  replace R := R.keep0 kx
  have K : Keep (Both p g w base) w (w.alloc (.cells #[.int .i64 x.op, .int .i64 x.a, .int .i64 x.b, .int .i64 x.c, .int .u64 x.w] 31)) := kx.mono (fun _ _ h => h.elim)
  obtain ⟨x0, x1, x2, x3, x4⟩ := X.cells
  have xa1 := xok.a1
  have w0 := xok.w0
  have w1 := xok.w1
  clear kx
  by_cases o0 : x.op = 0
  · have e0 : (x.op == 0) = true := by simpa using o0
    clear o0
    go_enter Try.func27, Try.ntmps27
    go_wp2_with fail
    refine (take_all p g M _ _ _ m ok hc).mono ?_
    rintro e w4 ⟨M1, a1, f1, rfl, m4, k4, ok4, hc4, hl4, hR1⟩
    replace R := R.keep k4 (notMine m)
    replace X := X.keep k4 nX
    replace K := K.both1 k4
    have HR1 := Lib.hid hR1
    have HC4 := Lib.hid hc4
    have HL4 := Lib.hid hl4
    clear x0 x1 x2 x3 x4 m hR1 k4 hc4 hl4
    obtain ⟨x0, x1, x2, x3, x4⟩ := X.cells
    go_wp2_with fail
    refine (take_ref R ok _ _).mono ?_
    rintro e w5 ⟨M2, L2, a2, f2, rfl, R5, k5, hR2⟩
    obtain ⟨rfl, rfl, rfl⟩ := TakeR.det HR1.out hR2
    have m5 := m4.keep k5 m4.notRef.1 m4.notRef.2
    replace K := K.both2 k5
    clear x0 x1 x2 x3 x4 m4 hR2 k5 R X
    go_wp2_with fail
    go_ret
    exact ⟨M1, _, rfl, m5, R5, ok4, HC4.out, HL4.out, K⟩
  · have e0 : (x.op == 0) = false := by simpa using o0
    by_cases o1 : x.op = 1
    · have e1 : (x.op == 1) = true := by simpa using o1
      clear o0 o1
      go_enter Try.func27, Try.ntmps27
      go_wp2_with fail
      generalize w.alloc (.cells #[.int .i64 x.op, .int .i64 x.a, .int .i64 x.b, .int .i64 x.c, .int .u64 x.w] 31) = wA at m R X K x0 x1 x2 x3 x4 ⊢
      have kd : Keep (fun _ => False) wA wA.drew := (Keep.refl _ _).drew
      replace m := m.keep kd (by simp) (by simp)
      replace R := R.keep0 kd
      replace X := X.keep kd (by simp)
      replace K := K.drew
      clear kd x0 x1 x2 x3 x4
      obtain ⟨x0, x1, x2, x3, x4⟩ := X.cells
      go_region_held3 (fun w' => w'.cell? ⟨w.heap.size, 1, none⟩ = some (.int .i64 x.a))
        (first | exact (XAt.cells (x := x) (by assumption)).2.1)
        (first
          | (go_at_call 18; refine (give_all p g M _ _ (by assumption) ok).mono ?_; rintro e wb ⟨M1, f1, rfl, m1, k1, ok1, hc1, hl1, hR1⟩; have X1 := XAt.keep (x := x) (by assumption) k1 nX; obtain ⟨y0, y1, y2, y3, y4⟩ := X1.cells; (first | have r1 := RefAt.keep (M := M) (L := L) (base := base) (q := q) (by assumption) k1 (notMine (M := M) (by assumption)) | have r1 := RefAt.keep (M := M2) (L := L2) (base := base) (q := q) (by assumption) k1 (notMine (M := M) (by assumption))))
          | (go_at_call 64; refine (give_ref (base := base) (q := q) (M := M) (L := L) (by assumption) ok _).mono ?_; rintro e wc ⟨M2, L2, f2, rfl, r2, k2, hR2⟩; have X2 := XAt.keep (x := x) (by assumption) k2 (XAt.notRef (x := x) (by assumption)); obtain ⟨z0, z1, z2, z3, z4⟩ := X2.cells; (first | have m2 := MemAt.keep (M := M) (p := p) (g := g) (by assumption) k2 (MemAt.notRef (M := M) (g := g) (by assumption)).1 (MemAt.notRef (M := M) (p := p) (by assumption)).2 | have m2 := MemAt.keep (M := M1) (p := p) (g := g) (by assumption) k2 (MemAt.notRef (M := M1) (g := g) (by assumption)).1 (MemAt.notRef (M := M1) (p := p) (by assumption)).2)))
      all_goals
        obtain ⟨rfl, rfl⟩ := GiveR.det hR1 hR2
        go_wp2_with fail
        go_ret
        refine ⟨M1, L2, by simp, by assumption, by assumption, ok1, by omega, hl1, ?_⟩
        first
          | exact (K.both1 k1).both2 k2
          | exact (K.both2 k2).both1 k1
    · have e1 : (x.op == 1) = false := by simpa using o1
      by_cases o2 : x.op = 2
      · have e2 : (x.op == 2) = true := by simpa using o2
        clear o0 o1 o2
        go_enter Try.func27, Try.ntmps27
        go_wp2_with fail
        refine (bump_all p g M _ _ _ m ok).mono ?_
        rintro e w4 ⟨M1, a1, f1, rfl, m4, k4, ok4, hc4, hl4, hR1⟩
        replace R := R.keep k4 (notMine m)
        replace X := X.keep k4 nX
        replace K := K.both1 k4
        have HR1 := Lib.hid hR1
        have HC4 := Lib.hid hc4
        have HL4 := Lib.hid hl4
        clear x0 x1 x2 x3 x4 m hR1 k4 hc4 hl4
        obtain ⟨x0, x1, x2, x3, x4⟩ := X.cells
        go_wp2_with fail
        refine (bump_ref R ok _ _).mono ?_
        rintro e w5 ⟨M2, a2, f2, rfl, R5, k5, hR2⟩
        obtain ⟨rfl, rfl, rfl⟩ := BumpR.det HR1.out hR2
        have m5 := m4.keep k5 m4.notRef.1 m4.notRef.2
        replace K := K.both2 k5
        clear x0 x1 x2 x3 x4 m4 hR2 k5 R X
        go_wp2_with fail
        go_ret
        exact ⟨M1, _, rfl, m5, R5, ok4, by rw [HC4.out]; omega, HL4.out, K⟩
      · have e2 : (x.op == 2) = false := by simpa using o2
        by_cases o3 : x.op = 3
        · have e3 : (x.op == 3) = true := by simpa using o3
          clear o0 o1 o2 o3
          go_enter Try.func27, Try.ntmps27
          go_wp2_with fail
          generalize w.alloc (.cells #[.int .i64 x.op, .int .i64 x.a, .int .i64 x.b, .int .i64 x.c, .int .u64 x.w] 31) = wA at m R X K x0 x1 x2 x3 x4 ⊢
          have kd : Keep (fun _ => False) wA wA.drew := (Keep.refl _ _).drew
          replace m := m.keep kd (by simp) (by simp)
          replace R := R.keep0 kd
          replace X := X.keep kd (by simp)
          replace K := K.drew
          clear kd x0 x1 x2 x3 x4
          obtain ⟨x0, x1, x2, x3, x4⟩ := X.cells
          go_region_held3 (fun w' => w'.cell? ⟨w.heap.size, 1, none⟩ = some (.int .i64 x.a) ∧ w'.cell? ⟨w.heap.size, 4, none⟩ = some (.int .u64 x.w))
            (first | exact ⟨(XAt.cells (x := x) (by assumption)).2.1, (XAt.cells (x := x) (by assumption)).2.2.2.2⟩)
            (first
              | (go_at_call 20; refine (write_all p g M _ _ _ (by assumption) ok xa1 w0 w1).mono ?_; rintro e wb ⟨M1, f1, rfl, m1, k1, ok1, hc1, hl1, hR1⟩; have X1 := XAt.keep (x := x) (by assumption) k1 nX; obtain ⟨y0, y1, y2, y3, y4⟩ := X1.cells; (first | have r1 := RefAt.keep (M := M) (L := L) (base := base) (q := q) (by assumption) k1 (notMine (M := M) (by assumption)) | have r1 := RefAt.keep (M := M2) (L := L) (base := base) (q := q) (by assumption) k1 (notMine (M := M) (by assumption))))
              | (go_at_call 66; refine (write_ref (base := base) (q := q) (M := M) (L := L) (by assumption) ok _ _ xa1).mono ?_; rintro e wc ⟨M2, f2, rfl, r2, k2, hR2⟩; have X2 := XAt.keep (x := x) (by assumption) k2 (XAt.notRef (x := x) (by assumption)); obtain ⟨z0, z1, z2, z3, z4⟩ := X2.cells; (first | have m2 := MemAt.keep (M := M) (p := p) (g := g) (by assumption) k2 (MemAt.notRef (M := M) (g := g) (by assumption)).1 (MemAt.notRef (M := M) (p := p) (by assumption)).2 | have m2 := MemAt.keep (M := M1) (p := p) (g := g) (by assumption) k2 (MemAt.notRef (M := M1) (g := g) (by assumption)).1 (MemAt.notRef (M := M1) (p := p) (by assumption)).2)))
          all_goals
            obtain ⟨rfl, rfl⟩ := WriteR.det hR1 hR2
            go_wp2_with fail
            go_ret
            refine ⟨M1, L, by simp, by assumption, by assumption, ok1, by omega, hl1, ?_⟩
            first
              | exact (K.both1 k1).both2 k2
              | exact (K.both2 k2).both1 k1
        · have e3 : (x.op == 3) = false := by simpa using o3
          by_cases o4 : x.op = 4
          · have e4 : (x.op == 4) = true := by simpa using o4
            clear o0 o1 o2 o3 o4
            go_enter Try.func27, Try.ntmps27
            go_wp2_with fail
            refine (read_all p g M _ _ m ok xa1).mono ?_
            rintro e w4 ⟨u1, f1, rfl, rfl, hR1⟩
            have HR1 := Lib.hid hR1
            clear hR1
            go_wp2_with fail
            refine (read_ref R ok _ xa1).mono ?_
            rintro e w5 ⟨u2, f2, rfl, rfl, hR2⟩
            obtain ⟨rfl, rfl⟩ := ReadR.det HR1.out hR2
            clear hR2
            go_wp2_with fail
            go_ret
            exact ⟨M, L, rfl, m, R, ok, by omega, rfl, K⟩
          · have e4 : (x.op == 4) = false := by simpa using o4
            by_cases o5 : x.op = 5
            · have e5 : (x.op == 5) = true := by simpa using o5
              clear o0 o1 o2 o3 o4 o5
              go_enter Try.func27, Try.ntmps27
              go_wp2_with fail
              generalize w.alloc (.cells #[.int .i64 x.op, .int .i64 x.a, .int .i64 x.b, .int .i64 x.c, .int .u64 x.w] 31) = wA at m R X K x0 x1 x2 x3 x4 ⊢
              have kd : Keep (fun _ => False) wA wA.drew := (Keep.refl _ _).drew
              replace m := m.keep kd (by simp) (by simp)
              replace R := R.keep0 kd
              replace X := X.keep kd (by simp)
              replace K := K.drew
              clear kd x0 x1 x2 x3 x4
              obtain ⟨x0, x1, x2, x3, x4⟩ := X.cells
              go_region_held3 (fun w' => w'.cell? ⟨w.heap.size, 1, none⟩ = some (.int .i64 x.a) ∧ w'.cell? ⟨w.heap.size, 2, none⟩ = some (.int .i64 x.b) ∧ w'.cell? ⟨w.heap.size, 3, none⟩ = some (.int .i64 x.c))
                (first | exact ⟨(XAt.cells (x := x) (by assumption)).2.1, (XAt.cells (x := x) (by assumption)).2.2.1, (XAt.cells (x := x) (by assumption)).2.2.2.1⟩)
                (first
                  | (go_at_call 28; refine (mark_all p g M _ _ _ _ (by assumption) ok).mono ?_; rintro e wb ⟨M1, f1, rfl, m1, k1, ok1, hc1, hl1, hR1⟩; have X1 := XAt.keep (x := x) (by assumption) k1 nX; obtain ⟨y0, y1, y2, y3, y4⟩ := X1.cells; (first | have r1 := RefAt.keep (M := M) (L := L) (base := base) (q := q) (by assumption) k1 (notMine (M := M) (by assumption)) | have r1 := RefAt.keep (M := M2) (L := L) (base := base) (q := q) (by assumption) k1 (notMine (M := M) (by assumption))))
                  | (go_at_call 68; refine (mark_ref (base := base) (q := q) (M := M) (L := L) (by assumption) ok _ _ _).mono ?_; rintro e wc ⟨M2, f2, rfl, r2, k2, hR2⟩; have X2 := XAt.keep (x := x) (by assumption) k2 (XAt.notRef (x := x) (by assumption)); obtain ⟨z0, z1, z2, z3, z4⟩ := X2.cells; (first | have m2 := MemAt.keep (M := M) (p := p) (g := g) (by assumption) k2 (MemAt.notRef (M := M) (g := g) (by assumption)).1 (MemAt.notRef (M := M) (p := p) (by assumption)).2 | have m2 := MemAt.keep (M := M1) (p := p) (g := g) (by assumption) k2 (MemAt.notRef (M := M1) (g := g) (by assumption)).1 (MemAt.notRef (M := M1) (p := p) (by assumption)).2)))
              all_goals
                obtain ⟨rfl, rfl⟩ := MarkR.det hR1 hR2
                go_wp2_with fail
                go_ret
                refine ⟨M1, L, by simp, by assumption, by assumption, ok1, by omega, hl1, ?_⟩
                first
                  | exact (K.both1 k1).both2 k2
                  | exact (K.both2 k2).both1 k1
            · have e5 : (x.op == 5) = false := by simpa using o5
              clear o0 o1 o2 o3 o4 o5
              go_enter Try.func27, Try.ntmps27
              go_wp2_with fail
              go_ret
              exact ⟨M, L, rfl, m, R, ok, by omega, rfl, K⟩
end Go.Proofs.Ytgnpeciedefeiaa
