/-
  The laws of lex: tokens in a row.
-/
import Derived.Test.YtonnikipeokkaaaDoorM4
import Derived.StillTailTactics
namespace Go.Proofs.YtonnikipeokkaaaDoor
open Go.RowKit Go.Lib

theorem Keep.below0 {w w' : World} (h : Keep (fun _ => False) w w') : Below w.heap.size w w' := ⟨h.os, h.tape, h.output, h.size, fun k hk => h.block k hk (by simp)⟩
theorem TvAll.get {w : World} : ∀ {ps : List (Nat × Tk)} {vs : List TV} (i : Nat) (p : Nat × Tk), TvAll w ps vs → ps[i]? = some p → ∃ v, vs[i]? = some v ∧ TvIs w p v
  | p :: _, v :: _, 0, q, h, e => by
    simp at e
    subst e
    exact ⟨v, rfl, h.1⟩
  | _ :: _, _ :: _, i + 1, q, h, e => TvAll.get i q h.2 (by simpa using e)
  | [], _, i, _, _, e => by simp at e
  | _ :: _, [], _, _, h, _ => h.elim
theorem flat_at : ∀ (vs : List TV) (i : Nat) (v : TV), vs[i]? = some v → ∀ f, f < 10 → (vs.flatMap TV.cells)[10 * i + f]? = v.cells[f]?
  | v :: vs, 0, u, e, f, hf => by
    simp at e
    subst e
    rw [List.flatMap_cons, Nat.mul_zero, Nat.zero_add, List.getElem?_append_left (by unfold TV.cells; exact hf)]
  | v :: vs, i + 1, u, e, f, hf => by
    rw [List.flatMap_cons, List.getElem?_append_right (by unfold TV.cells; simp only [List.length_cons, List.length_nil]; omega)]
    have : 10 * (i + 1) + f - v.cells.length = 10 * i + f := by unfold TV.cells; simp only [List.length_cons, List.length_nil]; omega
    rw [this]
    exact flat_at vs i u (by simpa using e) f hf
  | [], i, u, e, _, _ => by simp at e
/-- A token's cells in a row. -/
theorem row_tok {w : World} {base n c g : Nat} {vs : List TV} (h : w.ownsRow base 33 10 (.slice (some ⟨g, 0, none⟩) n c) n (vs.flatMap TV.cells)) {i : Nat} {v : TV} (hv : vs[i]? = some v) : ∀ f (u : Value), v.cells[f]? = some u → w.cell? ⟨g, i * 10 + f, none⟩ = some u := by
  intro f u hu
  have hf : f < 10 := by
    have := (List.getElem?_eq_some_iff.1 hu).1
    exact this
  have h2 := flat_at vs i v hv f hf
  rw [hu] at h2
  have := World.ownsRow.cellAt h (10 * i + f) (by
    have := (List.getElem?_eq_some_iff.1 h2).1
    rw [h.1] at this
    exact this)
  rw [Nat.mul_comm i 10, this, h2]
theorem row_some {w : World} {base n c : Nat} {A : Option Addr} {xs : List Value} (h : w.ownsRow base 33 10 (.slice A n c) n xs) (hn : 0 < n) : ∃ g, A = some ⟨g, 0, none⟩ := by
  rcases h.2 with ⟨hv, h0⟩ | ⟨g, cap, cur, hv, _⟩
  · omega
  · injection hv with e1 _ _
    exact ⟨g, e1⟩
/-- At a round of the law. -/
structure LaSt (l : List UInt8) (ts : List (Nat × Tk)) (p c i pos : Nat) (done rest : List (Nat × Tk)) (w1 wr : World) : Prop where
  cnt : i = done.length
  eqs : ts = done ++ rest
  toks : Toks l pos rest p c
  K : Keep (fun _ => False) w1 wr
  le : i ≤ pos
  pl : pos ≤ l.length
theorem Toks.count {l : List UInt8} (hl : l.length ≤ 4096) {i : Nat} {ts : List (Nat × Tk)} {p c : Nat} (h : Toks l i ts p c) (hi : i ≤ l.length) : ts.length + i ≤ l.length := by
  induction h with
  | bad => simpa using hi
  | fin => simpa using hi
  | cons h hk n ih =>
    obtain ⟨g1, g2⟩ := nextV_on h hk
    have := ih g2
    rw [List.length_cons]; omega
theorem Toks.place {l : List UInt8} (hl : l.length ≤ 4096) {i : Nat} {ts : List (Nat × Tk)} {p c : Nat} (h : Toks l i ts p c) (hi : i ≤ l.length) : p ≤ l.length := by
  induction h with
  | bad h =>
    rw [nextV_eq hl hi] at h
    have := (lexAt_err hi h).1
    omega
  | fin => exact Nat.zero_le _
  | cons h hk n ih => exact ih (nextV_on h hk).2
theorem tkNF_row {w : World} {j : Nat} {t : Tk} {v : TV} (h : TvIs w (j, t) v) : v.kind = (tkNF j t).kind ∧ v.at_ = (tkNF j t).at1 ∧ v.en = (tkNF j t).en ∧ v.sq = (tkNF j t).sq ∧ v.k = (tkNF j t).k ∧ v.c = (tkNF j t).c ∧ v.neg = (tkNF j t).neg ∧ v.x = (tkNF j t).x ∧ LimbsAt w v.A v.n v.cp (tkNF j t).l := by
  obtain ⟨f1, f2, f3, f4, hlf⟩ := h
  obtain ⟨f5, f6, f7, f8, hl⟩ := hlf.form
  exact ⟨f1, f2, f3, f4, f5, f6, f7, f8, hl⟩
/-- The cells of a token, and that its number lies there. -/
structure TokC (w : World) (f : NF) (g o : Nat) (A : Option Addr) (n cp : Nat) : Prop where
  c0 : w.cell? ⟨g, o, none⟩ = some (.int .i64 f.kind)
  c1 : w.cell? ⟨g, o + 1, none⟩ = some (.int .i64 f.at1)
  c2 : w.cell? ⟨g, o + 2, none⟩ = some (.int .i64 f.en)
  c3 : w.cell? ⟨g, o + 3, none⟩ = some (.bool f.sq)
  c4 : w.cell? ⟨g, o + 4, none⟩ = some (.int .i64 f.k)
  c5 : w.cell? ⟨g, o + 5, none⟩ = some (.int .i32 f.c)
  c6 : w.cell? ⟨g, o + 6, none⟩ = some (.bool f.neg)
  c7 : w.cell? ⟨g, o + 7, none⟩ = some (.slice A n cp)
  c8 : w.cell? ⟨g, o + 8, none⟩ = some (.string f.x)
  c9 : w.cell? ⟨g, o + 9, none⟩ = some (.slice none 0 0)
  lim : LimbsAt w A n cp f.l
theorem TokC.keep {w w' : World} {f : NF} {g o : Nat} {A : Option Addr} {n cp : Nat} (h : TokC w f g o A n cp) (K : Keep (fun _ => False) w w') : TokC w' f g o A n cp := by
  have key : ∀ i u, w.cell? ⟨g, i, none⟩ = some u → w'.cell? ⟨g, i, none⟩ = some u := fun i u h => (K.cell (World.block_lt_of_cell? w _ h) id).trans h
  exact ⟨key _ _ h.c0, key _ _ h.c1, key _ _ h.c2, key _ _ h.c3, key _ _ h.c4, key _ _ h.c5, key _ _ h.c6, key _ _ h.c7, key _ _ h.c8, key _ _ h.c9, h.lim.keep0 K⟩
theorem TokC.cells {w : World} {f : NF} {g o : Nat} {A : Option Addr} {n cp : Nat} (h : TokC w f g o A n cp) : w.cell? ⟨g, o, none⟩ = some (.int .i64 f.kind) ∧ w.cell? ⟨g, o + 1, none⟩ = some (.int .i64 f.at1) ∧ w.cell? ⟨g, o + 2, none⟩ = some (.int .i64 f.en) ∧ w.cell? ⟨g, o + 3, none⟩ = some (.bool f.sq) ∧ w.cell? ⟨g, o + 4, none⟩ = some (.int .i64 f.k) ∧ w.cell? ⟨g, o + 5, none⟩ = some (.int .i32 f.c) ∧ w.cell? ⟨g, o + 6, none⟩ = some (.bool f.neg) ∧ w.cell? ⟨g, o + 7, none⟩ = some (.slice A n cp) ∧ w.cell? ⟨g, o + 8, none⟩ = some (.string f.x) ∧ w.cell? ⟨g, o + 9, none⟩ = some (.slice none 0 0) :=
  ⟨h.c0, h.c1, h.c2, h.c3, h.c4, h.c5, h.c6, h.c7, h.c8, h.c9⟩
/-- A token in a block of its own. -/
theorem TokC.box (w : World) (f : NF) {A : Option Addr} {n cp : Nat} (hl : LimbsAt w A n cp f.l) : TokC (w.alloc (.cells #[.int .i64 f.kind, .int .i64 f.at1, .int .i64 f.en, .bool f.sq, .int .i64 f.k, .int .i32 f.c, .bool f.neg, .slice A n cp, .string f.x, .slice none 0 0] 33)) f w.heap.size 0 A n cp := by
  obtain ⟨⟨c0, c1, c2, c3, c4, c5, c6, c7, c8, c9⟩, _⟩ := tok_cells (heap_alloc_new w (.cells #[.int .i64 f.kind, .int .i64 f.at1, .int .i64 f.en, .bool f.sq, .int .i64 f.k, .int .i32 f.c, .bool f.neg, .slice A n cp, .string f.x, .slice none 0 0] 33))
  exact ⟨c0, c1, c2, c3, c4, c5, c6, c7, c8, c9, hl.keep0 ((Keep.refl _ _).alloc _)⟩
theorem TokC.row {w : World} {base n c g : Nat} {ts : List (Nat × Tk)} {vs : List TV} (h : w.ownsRow base 33 10 (.slice (some ⟨g, 0, none⟩) n c) n (vs.flatMap TV.cells)) (ha : TvAll w ts vs) {i : Nat} {j : Nat} {t : Tk} (hi : ts[i]? = some (j, t)) : ∃ A n cp, TokC w (tkNF j t) g (i * 10) A n cp := by
  obtain ⟨v, hv, his⟩ := ha.get i (j, t) hi
  obtain ⟨e1, e2, e3, e4, e5, e6, e7, e8, hl⟩ := tkNF_row his
  have hr := row_tok h hv
  refine ⟨v.A, v.n, v.cp, ?_, ?_, ?_, ?_, ?_, ?_, ?_, ?_, ?_, ?_, hl⟩
  · rw [← e1]; exact hr 0 _ rfl
  · rw [← e2]; exact hr 1 _ rfl
  · rw [← e3]; exact hr 2 _ rfl
  · rw [← e4]; exact hr 3 _ rfl
  · rw [← e5]; exact hr 4 _ rfl
  · rw [← e6]; exact hr 5 _ rfl
  · rw [← e7]; exact hr 6 _ rfl
  · exact hr 7 _ rfl
  · rw [← e8]; exact hr 8 _ rfl
  · exact hr 9 _ rfl
end Go.Proofs.YtonnikipeokkaaaDoor
