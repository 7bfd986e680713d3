/-
  Cards (package card), as a space; what none, Gen, younger answer.
-/
import Derived.Test.YtgnpeciedefeiaaSpBoth
import Derived.Test.YtgnpeciedefeiaaWord
import Derived.WalkLawsBesides
namespace Go.Proofs.Ytgnpeciedefeiaa
open Go.RowKit

/-- The cards of the space S lie at block c, the space at s, its memory at p and g. -/
structure CdAt (w : World) (c s p g : Nat) (S : SpV) : Prop where
  head : w.heap[c]? = some (.cells #[.pointer (some ⟨s, 0, none⟩)] 80 (0, 0))
  sp : SpAt w s p g S
theorem CdAt.ptr {w : World} {c s p g : Nat} {S : SpV} (h : CdAt w c s p g S) : w.cell? ⟨c, 0, none⟩ = some (.pointer (some ⟨s, 0, none⟩)) := by
  rw [cell_of_row w c 0 _ _ _ h.head]; rfl
theorem CdAt.lt {w : World} {c s p g : Nat} {S : SpV} (h : CdAt w c s p g S) : c < w.heap.size := heap_lt h.head
theorem CdAt.keep {T : Nat → Prop} {w w' : World} {c s p g : Nat} {S : SpV} (h : CdAt w c s p g S) (k : Keep T w w') (hc : ¬ T c) (hs : ¬ T s) (hp : ¬ T p) (hg : ¬ T g) : CdAt w' c s p g S :=
  ⟨k.heap h.head hc, h.sp.keep k hs hp hg⟩
theorem CdAt.keep0 {w w' : World} {c s p g : Nat} {S : SpV} (h : CdAt w c s p g S) (k : Keep (fun _ => False) w w') : CdAt w' c s p g S := h.keep k id id id id
theorem CdAt.notMine {w : World} {c s p g : Nat} {S : SpV} (h : CdAt w c s p g S) : ¬ MineS s p g c := by
  have key : ∀ (cc : Array Value) (t : TypeId), w.heap[c]? = some (.cells cc t (0, 0)) → t ≠ 80 → False := by
    intro cc t hc ht
    have := h.head
    rw [hc] at this
    injection this with this
    injection this with _ this
    exact ht this
  rintro (rfl | rfl | rfl)
  · obtain ⟨x, hx⟩ := h.sp.head
    exact key _ 83 hx (by decide)
  · obtain ⟨x, hx⟩ := h.sp.mem.head
    exact key _ 57 hx (by decide)
  · obtain ⟨⟨x, hx⟩, _⟩ := h.sp.mem.segs
    exact key _ 110 hx (by decide)
/-- Another space in the place of its space. -/
theorem CdAt.into {w w' : World} {c s p g : Nat} {S S' : SpV} (h : CdAt w c s p g S) (k : Keep (MineS s p g) w w') (h' : SpAt w' s p g S') : CdAt w' c s p g S' := ⟨k.heap h.head h.notMine, h'⟩
/-- The blocks of cards. -/
abbrev MineC (c s p g : Nat) : Nat → Prop := fun b => b = c ∨ MineS s p g b

set_option maxHeartbeats 400000 in
theorem cnone_no {w : World} {c s : Nat} {v : Addr} (h : w.cell? ⟨c, 0, none⟩ = some (.pointer (some ⟨s, 0, none⟩))) (h2 : w.cell? ⟨s, 0, none⟩ = some (.pointer (some v))) :
    Calls Try.prog 77 #[.pointer (some ⟨c, 0, none⟩)] w fun e w' => e = .returned (.bool false) ∧ w = w' := by
  go_enter Try.func77, Try.ntmps77
  go_wp2
  go_ret
  exact ⟨rfl, rfl⟩

/-- Is it a reference? -/
def isRef (u : Nat) : Prop := (u % 8 = 1 ∨ u % 8 = 2 ∨ u % 8 = 3) ∧ u / 8 < 65536
instance (u : Nat) : Decidable (isRef u) := by unfold isRef; infer_instance
/-- Is that segment there? -/
def MemV.hasN (M : MemV) (k : Nat) : Bool := decide (k < M.lim) && decide (0 < (M.sg k).taken)
theorem hasN_iff {M : MemV} {k : Nat} : M.hasN k = true ↔ M.has (k : Int) := by
  rw [MemV.has_iff]
  unfold MemV.hasN
  rw [Bool.and_eq_true, decide_eq_true_eq, decide_eq_true_eq]
  constructor
  · rintro ⟨h1, h2⟩; exact ⟨k, rfl, h1, h2⟩
  · rintro ⟨k', e, h1, h2⟩
    obtain rfl : k = k' := by omega
    exact ⟨h1, h2⟩
/-- The generation that a word points to. -/
def genOf (M : MemV) (u : Nat) : Option Int := if isRef u ∧ M.hasN (u / 8 / 64) = true then some (M.sg (u / 8 / 64)).gen else none
def GenPost (M : MemV) (u : Nat) (w : World) (e : Ending) (w' : World) : Prop :=
  Keep (fun _ => False) w w' ∧ ((∃ g, e = .returned (.tuple #[.int .i64 g, .bool true]) ∧ genOf M u = some g) ∨ (e = .returned (.tuple #[.int .i64 0, .bool false]) ∧ genOf M u = none))

set_option maxRecDepth 10000 in
set_option maxHeartbeats 4000000 in
theorem gen_any {w : World} {c s p g : Nat} {S : SpV} (h : CdAt w c s p g S) (ok : S.Ok) (u : Nat) (hu : u ≤ 18446744073709551615) :
    Calls Try.prog 48 #[.pointer (some ⟨c, 0, none⟩), .int .u64 (u : Int)] w (GenPost S.M u w) := by
  have l1024 := ok.mem.l1024
  have Hu := Lib.hid hu
  clear hu
  by_cases ha : isAddr u
  · have HA := Lib.hid ha
    by_cases h6 : u % 8 = 6
    · have hn : genOf S.M u = none := by
        unfold genOf isRef
        rw [if_neg]
        omega
      have Hn := Lib.hid hn
      have H6 := Lib.hid h6
      clear hn ha h6
      go_enter Try.func48, Try.ntmps48
      go_wp2_with fail
      refine (addr_yes u _ Hu.out HA.out).mono ?_
      rintro e w1 ⟨rfl, k1⟩
      have h1 := h.keep0 k1
      go_wp2_with fail
      refine (cnone_no h1.ptr h1.sp.ptr).mono ?_
      rintro e w2 ⟨rfl, rfl⟩
      go_wp2_with fail
      refine (tag_any u 6 _ Hu.out H6.out).mono ?_
      rintro e w2 ⟨rfl, rfl⟩
      go_wp2_with fail
      go_ret2
      exact ⟨k1, .inr ⟨rfl, Hn.out⟩⟩
    · have ht : ((u % 8 : Nat) : Int) ≠ 6 := by omega
      have hb : (((u % 8 : Nat) : Int) == 6) = false := by simpa using ht
      obtain ⟨t, htt⟩ : ∃ t, t = u % 8 := ⟨_, rfl⟩
      rw [← htt] at hb
      have Ht := Lib.hid htt
      have hr : isRef u := by
        unfold isAddr at ha
        unfold isRef
        omega
      obtain ⟨a, haa⟩ : ∃ a, a = u / 8 := ⟨_, rfl⟩
      have haL : a < 65536 := by have := hr.2; omega
      have Ha := Lib.hid haa
      have HR := Lib.hid hr
      clear ha h6 ht htt hr haa
      by_cases hh : S.M.hasN (a / 64) = true
      · have hg : genOf S.M u = some (S.M.sg (a / 64)).gen := by
          unfold genOf
          rw [if_pos ⟨HR.out, by rw [← Ha.out]; exact hh⟩, ← Ha.out]
        have hk : a / 64 < S.M.lim ∧ 0 < (S.M.sg (a / 64)).taken := by
          unfold MemV.hasN at hh
          simpa using hh
        have Hg := Lib.hid hg
        have Hk := Lib.hid hk
        clear hg hh hk
        go_enter Try.func48, Try.ntmps48
        go_wp2_with fail
        refine (addr_yes u _ Hu.out HA.out).mono ?_
        rw [← Ha.out]
        rintro e w1 ⟨rfl, k1⟩
        have h1 := h.keep0 k1
        have c0 := h1.ptr
        have s0 := h1.sp.ptr
        go_wp2_with fail
        refine (cnone_no c0 s0).mono ?_
        rintro e w2 ⟨rfl, rfl⟩
        go_wp2_with fail
        refine (tag_any u t _ Hu.out Ht.out.symm).mono ?_
        rintro e w2 ⟨rfl, rfl⟩
        go_wp2_with fail
        refine (seg_yes2 p g S.M (a / 64) _ _ h1.sp.mem l1024 (by omega) Hk.out.1 Hk.out.2).mono ?_
        rintro e w3 ⟨rfl, k3⟩
        go_wp2_with fail
        go_ret2
        exact ⟨(k1.trans k3).alloc _, .inl ⟨_, rfl, Hg.out⟩⟩
      · have hg : genOf S.M u = none := by
          unfold genOf
          rw [if_neg]
          rintro ⟨_, h⟩
          rw [← Ha.out] at h
          exact hh h
        have hno : ¬ S.M.has ((a : Int) / 64) := by
          rw [show (a : Int) / 64 = ((a / 64 : Nat) : Int) from by omega, ← hasN_iff]
          exact hh
        have Hg := Lib.hid hg
        have Hno := Lib.hid hno
        clear hg hh hno
        go_enter Try.func48, Try.ntmps48
        go_wp2_with fail
        refine (addr_yes u _ Hu.out HA.out).mono ?_
        rw [← Ha.out]
        rintro e w1 ⟨rfl, k1⟩
        have h1 := h.keep0 k1
        have c0 := h1.ptr
        have s0 := h1.sp.ptr
        go_wp2_with fail
        refine (cnone_no c0 s0).mono ?_
        rintro e w2 ⟨rfl, rfl⟩
        go_wp2_with fail
        refine (tag_any u t _ Hu.out Ht.out.symm).mono ?_
        rintro e w2 ⟨rfl, rfl⟩
        go_wp2_with fail
        refine (seg_no2 p g S.M _ _ h1.sp.mem l1024 ok.mem.t0 Hno.out).mono ?_
        rintro e w3 ⟨rfl, k3⟩
        go_wp2_with fail
        go_ret2
        exact ⟨(k1.trans k3).alloc _, .inr ⟨rfl, Hg.out⟩⟩
  · have hn : genOf S.M u = none := by
      unfold genOf
      rw [if_neg]
      rintro ⟨⟨h1, h2⟩, _⟩
      exact ha ⟨by omega, h2⟩
    have Hn := Lib.hid hn
    have HA := Lib.hid ha
    clear hn ha
    go_enter Try.func48, Try.ntmps48
    go_wp2_with fail
    refine (addr_no u _ Hu.out HA.out).mono ?_
    rintro e w1 ⟨rfl, k1⟩
    have h1 := h.keep0 k1
    go_wp2_with fail
    refine (cnone_no h1.ptr h1.sp.ptr).mono ?_
    rintro e w2 ⟨rfl, rfl⟩
    go_wp2_with fail
    go_ret2
    exact ⟨k1, .inr ⟨rfl, Hn.out⟩⟩

/-- A mark that knows of a word, too. -/
def youngV (M : MemV) (s : Sg) (u : Nat) (mark : Int) : Int :=
  match genOf M u with
  | some g => if s.kind ≠ 3 ∧ g < s.gen then min mark g else mark
  | none => mark
/-- What is told of a segment, as an argument. -/
abbrev sgArg (s : Sg) : Value := .agg #[.int .i64 s.gen, .int .i64 s.kind, .int .i64 s.n, .int .i64 s.c0, .int .i64 s.c1, .int .i64 s.c2, .int .i64 s.c3]
def YoungPost (x : Int) (w : World) (e : Ending) (w' : World) : Prop := e = .returned (.int .i64 x) ∧ Keep (fun _ => False) w w'

set_option maxRecDepth 10000 in
set_option maxHeartbeats 4000000 in
theorem younger_any {w : World} {c s p g : Nat} {S : SpV} (h : CdAt w c s p g S) (ok : S.Ok) (t : Sg) (u : Nat) (mark : Int) (hu : u ≤ 18446744073709551615) :
    Calls Try.prog 79 #[.pointer (some ⟨c, 0, none⟩), sgArg t, .int .u64 (u : Int), .int .i64 mark] w (YoungPost (youngV S.M t u mark) w) := by
  have kx : Keep (fun _ => False) w (w.alloc (.cells #[.int .i64 t.gen, .int .i64 t.kind, .int .i64 t.n, .int .i64 t.c0, .int .i64 t.c1, .int .i64 t.c2, .int .i64 t.c3] 37)) := (Keep.refl _ _).alloc _
  have hx : (w.alloc (.cells #[.int .i64 t.gen, .int .i64 t.kind, .int .i64 t.n, .int .i64 t.c0, .int .i64 t.c1, .int .i64 t.c2, .int .i64 t.c3] 37)).heap[w.heap.size]? = some (.cells #[.int .i64 t.gen, .int .i64 t.kind, .int .i64 t.n, .int .i64 t.c0, .int .i64 t.c1, .int .i64 t.c2, .int .i64 t.c3] 37 (0, 0)) := heap_alloc_new _ _
  have h1 := h.keep0 kx
  have HX := Lib.hid hx
  have hy : ∀ v, genOf S.M u = v → youngV S.M t u mark = match v with | some g => if t.kind ≠ 3 ∧ g < t.gen then min mark g else mark | none => mark := by
    intro v hv
    unfold youngV
    rw [hv]
  have HY := Lib.hid hy
  clear hx hy h
  go_enter Try.func79, Try.ntmps79
  go_wp2_with fail
  refine (gen_any h1 ok u hu).mono ?_
  rintro e w2 ⟨k2, ⟨g', rfl, hg⟩ | ⟨rfl, hg⟩⟩
  · have Hg := Lib.hid (HY.out _ hg)
    have b0 := k2.heap HX.out (by simp)
    have x0 : w2.cell? ⟨w.heap.size, 0, none⟩ = some (.int .i64 t.gen) := by rw [cell_of_row w2 _ _ _ _ _ b0]; rfl
    have x1 : w2.cell? ⟨w.heap.size, 1, none⟩ = some (.int .i64 t.kind) := by rw [cell_of_row w2 _ _ _ _ _ b0]; rfl
    clear hg b0
    by_cases c1 : t.kind = 3
    · have e1 : (t.kind != 3) = false := by simpa using c1
      have C1 := Lib.hid c1
      clear c1
      go_wp2_with fail
      go_ret
      refine ⟨?_, kx.trans k2⟩
      rw [Hg.out]
      dsimp only
      rw [if_neg (fun h => h.1 C1.out)]
      rfl
    · have e1 : (t.kind != 3) = true := by simpa using c1
      have C1 := Lib.hid c1
      clear c1
      by_cases c2 : g' < t.gen
      · go_wp2_with fail
        go_ret
        refine ⟨?_, kx.trans k2⟩
        rw [Hg.out]
        dsimp only
        rw [if_pos ⟨C1.out, c2⟩]
        rfl
      · have e2 : decide (g' < t.gen) = false := by simpa using c2
        go_wp2_with fail
        go_ret
        refine ⟨?_, kx.trans k2⟩
        rw [Hg.out]
        dsimp only
        rw [if_neg (by omega)]
        rfl
  · have Hg := Lib.hid (HY.out _ hg)
    clear hg
    go_wp2_with fail
    go_ret
    refine ⟨?_, kx.trans k2⟩
    rw [Hg.out]
    rfl
end Go.Proofs.Ytgnpeciedefeiaa
