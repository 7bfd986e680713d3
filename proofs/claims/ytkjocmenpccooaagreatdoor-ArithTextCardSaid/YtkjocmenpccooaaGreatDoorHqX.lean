/-
  The road of a law: numbers' data in boxes of their own.
-/
import Derived.Test.YtkjocmenpccooaaGreatDoorHqR
namespace Go.Proofs.YtkjocmenpccooaaGreatDoor
open Go.RowKit

/-- A box with a number's datum. -/
structure Bx where
  B : Nat
  x : Int
  q : Bool
  A : Option Addr
  n : Nat
  c : Nat
def Bx.vs (b : Bx) : List Value := [.int .i64 4, .int .i32 0, .bool b.q, .slice b.A b.n b.c, .string ⟨#[]⟩, .slice none 0 0]
/-- The datum by itself. -/
structure Bx.Is (W : World) (b : Bx) : Prop where
  q : b.q = decide (b.x < 0)
  l : LimbsAt W b.A b.n b.c (limbs b.x.natAbs)
  f : Fits b.x
structure Bx.At (W : World) (b : Bx) : Prop where
  row : W.heap[b.B]? = some (.cells #[.int .i64 4, .int .i32 0, .bool b.q, .slice b.A b.n b.c, .string ⟨#[]⟩, .slice none 0 0] 27 (0, 0))
  is : b.Is W
theorem Bx.Is.keep {W W' : World} {b : Bx} (h : b.Is W) (k : Keep (fun _ => False) W W') : b.Is W' := ⟨h.q, h.l.keep0 k, h.f⟩
theorem Bx.At.keep {W W' : World} {b : Bx} (h : b.At W) (k : Keep (fun _ => False) W W') : b.At W' := ⟨k.heap h.row id, h.is.keep k⟩
structure Road (w0 W : World) (L : List Bx) : Prop where
  K : Keep (fun _ => False) w0 W
  bs : ∀ b ∈ L, b.At W
theorem Road.keep {w0 W W' : World} {L : List Bx} (h : Road w0 W L) (k : Keep (fun _ => False) W W') : Road w0 W' L := ⟨h.K.trans k, fun b hb => (h.bs b hb).keep k⟩
theorem Road.cells {w0 W : World} {L : List Bx} (h : Road w0 W L) (b : Bx) (hb : b ∈ L) :
    W.cell? ⟨b.B, 0, none⟩ = some (.int .i64 4) ∧ W.cell? ⟨b.B, 1, none⟩ = some (.int .i32 0) ∧ W.cell? ⟨b.B, 2, none⟩ = some (.bool b.q) ∧ W.cell? ⟨b.B, 3, none⟩ = some (.slice b.A b.n b.c) ∧ W.cell? ⟨b.B, 4, none⟩ = some (.string ⟨#[]⟩) ∧ W.cell? ⟨b.B, 5, none⟩ = some (.slice none 0 0) := (six_cells (h.bs b hb).row).1
/-- One more box. -/
theorem Road.new {w0 W : World} {L : List Bx} (h : Road w0 W L) {x : Int} {q : Bool} {A : Option Addr} {n c : Nat} (hx : q = decide (x < 0) ∧ LimbsAt W A n c (limbs x.natAbs) ∧ Fits x) :
    Road w0 (W.alloc (datC 4 q A n c ⟨#[]⟩)) (⟨W.heap.size, x, q, A, n, c⟩ :: L) :=
  have K1 : Keep (fun _ => False) W (W.alloc (datC 4 q A n c ⟨#[]⟩)) := (Keep.refl _ _).alloc _
  ⟨h.K.alloc _, fun b hb => by
    rcases List.mem_cons.1 hb with rfl | hb
    · exact ⟨heap_alloc_new W _, hx.1, hx.2.1.keep0 K1, hx.2.2⟩
    · exact (h.bs b hb).keep K1⟩
/-- A box of what is no number. -/
theorem Road.other {w0 W : World} {L : List Bx} (h : Road w0 W L) (o : Obj) : Road w0 (W.alloc o) L := h.keep ((Keep.refl _ _).alloc _)
def Bx.d (b : Bx) : ND := ⟨b.q, limbs b.x.natAbs, ⟨b.A, b.n, b.c⟩⟩
theorem Bx.Is.ok {W : World} {b : Bx} (h : b.Is W) : b.d.Ok ∧ b.d.x = b.x ∧ b.d.At W := by
  have e : b.d = ND.of b.x ⟨b.A, b.n, b.c⟩ := by unfold Bx.d ND.of; rw [h.q]
  exact ⟨by rw [e]; exact ND.of_ok _ _ h.f (by have h1 := h.l.len; have h2 := h.f; unfold Fits at h2; show b.n ≤ 48; omega), by rw [e]; exact ND.of_x _ _, fun _ => h.l⟩
theorem args_is {W : World} {cs : Array Value} {tg : Nat × Nat} {R : Nat} (l : List Bx) (rest : List Value) (hr : W.heap[R]? = some (.cells cs 27 tg)) (hc : cs.toList = l.flatMap Bx.vs ++ rest) (hl : ∀ b ∈ l, b.Is W) :
    ArgsR W (some ⟨R, 0, none⟩) (l.map Bx.x) := by
  have e : l.map Bx.x = (l.map Bx.d).map ND.x := by
    rw [List.map_map]
    exact List.map_congr_left (fun b hb => ((hl b hb).ok.2.1).symm)
  rw [e]
  refine DatR.args (DatR.of (l.map Bx.d) rest hr ?_ ?_) ?_
  · rw [hc, List.flatMap_map]
    rfl
  · intro d hd
    obtain ⟨b, hb, rfl⟩ := List.mem_map.1 hd
    exact (hl b hb).ok.2.2
  · intro d hd
    obtain ⟨b, hb, rfl⟩ := List.mem_map.1 hd
    exact (hl b hb).ok.1
/-- The row that a call's arguments are laid in. -/
theorem Road.args {w0 W : World} {L : List Bx} (h : Road w0 W L) (l : List Bx) (cs : Array Value) (hc : cs.toList = l.flatMap Bx.vs) (hl : ∀ b ∈ l, b ∈ L) (R : Nat) (hR : R = W.heap.size) :
    ArgsR (W.alloc (.cells cs 27)) (some ⟨R, 0, none⟩) (l.map Bx.x) := by
  subst hR
  exact args_is l [] (heap_alloc_new W _) (by rw [List.append_nil]; exact hc) (fun b hb => ((h.bs b (hl b hb)).is).keep ((Keep.refl _ _).alloc _))
theorem same_is {W : World} (b b' : Bx) (h : b.Is W) (h' : b'.Is W) (t : Bool) (ht : t = decide (b.x = b'.x)) :
    Calls Tryz.prog 10 #[datV 4 b.q b.A b.n b.c ⟨#[]⟩, datV 4 b'.q b'.A b'.n b'.c ⟨#[]⟩] W (BoolPost t W) := by
  obtain ⟨o, e, a⟩ := h.ok
  obtain ⟨o', e', a'⟩ := h'.ok
  exact same_nd b.d b'.d a a' o o' t (by rw [e, e']; exact ht)
/-- Same of two boxes' data. -/
theorem Road.same {w0 W : World} {L : List Bx} (h : Road w0 W L) (b b' : Bx) (hb : b ∈ L) (hb' : b' ∈ L) (t : Bool) (ht : t = decide (b.x = b'.x)) :
    Calls Tryz.prog 10 #[datV 4 b.q b.A b.n b.c ⟨#[]⟩, datV 4 b'.q b'.A b'.n b'.c ⟨#[]⟩] W (BoolPost t W) := same_is b b' (h.bs b hb).is (h.bs b' hb').is t ht
/-- What run hands back, opened. -/
theorem RunEnd.good {v : Int} {w w' : World} {e : Ending} (h : RunEnd 4 0 v w e w') : ∃ q A n c, e = .returned (.tuple #[datV 4 q A n c ⟨#[]⟩, .int .i64 0]) ∧ Keep (fun _ => False) w w' ∧ (q = decide (v < 0) ∧ LimbsAt w' A n c (limbs v.natAbs) ∧ Fits v) := by
  unfold RunEnd at h
  rw [if_pos rfl] at h
  obtain ⟨k, q, A, n, c, rfl, hv⟩ := h
  exact ⟨q, A, n, c, rfl, k, hv rfl⟩
theorem RunEnd.any {kd er v : Int} {w w' : World} {e : Ending} (h : RunEnd kd er v w e w') : ∃ k q A n c, e = .returned (.tuple #[datV k q A n c ⟨#[]⟩, .int .i64 er]) ∧ Keep (fun _ => False) w w' ∧ (er = 0 → k = kd ∧ (kd = 4 → q = decide (v < 0) ∧ LimbsAt w' A n c (limbs v.natAbs) ∧ Fits v)) := by
  unfold RunEnd at h
  by_cases he : er = 0
  · rw [if_pos he] at h
    obtain ⟨k, q, A, n, c, rfl, hv⟩ := h
    exact ⟨kd, q, A, n, c, by rw [he], k, fun _ => ⟨rfl, hv⟩⟩
  · rw [if_neg he] at h
    obtain ⟨k, q, A, n, c, rfl, hv⟩ := h
    exact ⟨0, q, A, n, c, rfl, k, fun h => absurd h he⟩
/-- A small number, made. -/
theorem fix_lit (w : World) (neg : Bool) (u : Nat) (ui x : Int) (hui : ui = u) (hu : 0 < u) (hu2 : u < 4294967296) (hx : x = if neg then -(u : Int) else (u : Int)) :
    Calls Tryz.prog 13 #[.int .u32 ui, .bool neg] w (fun e w' => ∃ A, e = .returned (datV 4 neg A 1 1 ⟨#[]⟩) ∧ (neg = decide (x < 0) ∧ LimbsAt w' A 1 1 (limbs x.natAbs) ∧ Fits x) ∧ Keep (fun _ => False) w w') := by
  subst hui
  refine (fix_any13 w neg u hu hu2).mono ?_
  rintro e w' ⟨A, rfl, L, k⟩
  obtain ⟨o, e⟩ := small_nd u hu hu2 neg A
  rw [← hx] at e
  obtain ⟨f1, f2, f3⟩ := o.facts
  rw [e] at f1 f2 f3
  exact ⟨A, rfl, ⟨f2, by rw [← f3]; exact L, f1⟩, k⟩
/-- Three boxes of two cells. -/
theorem pair_cells {w : World} {B t : Nat} {x0 x1 : Value} (h : w.heap[B]? = some (.cells #[x0, x1] t (0, 0))) : w.cell? ⟨B, 0, none⟩ = some x0 ∧ w.cell? ⟨B, 1, none⟩ = some x1 := by
  refine ⟨?_, ?_⟩
  all_goals rw [cell_of_row w _ _ _ _ _ h]; rfl
/-- A datum as it came in, in a box. -/
def ND.Box (W : World) (B : Nat) (d : ND) : Prop := W.heap[B]? = some (.cells #[.int .i64 4, .int .i32 0, .bool d.q, .slice d.v.A d.v.n d.v.c, .string ⟨#[]⟩, .slice none 0 0] 27 (0, 0)) ∧ d.At W
theorem ND.Box.keep {W W' : World} {B : Nat} {d : ND} (h : d.Box W B) (k : Keep (fun _ => False) W W') : d.Box W' B := ⟨k.heap h.1 id, h.2.keep0 k⟩
/-- It may be an argument. -/
theorem ND.Box.good {W : World} {B : Nat} {d : ND} (h : d.Box W B) (o : d.Ok) : (⟨B, d.x, d.q, d.v.A, d.v.n, d.v.c⟩ : Bx).At W :=
  ⟨h.1, o.facts.2.1, by rw [← o.facts.2.2]; exact h.2 (Nat.le_trans o.1 (by decide)), o.facts.1⟩
end Go.Proofs.YtkjocmenpccooaaGreatDoor
