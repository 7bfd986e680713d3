/-
  The law of lex and its document: all tokens.
-/
import Derived.Test.YtonnikipeokkaaaGreatDoorLwLaw
import Derived.StillTailTactics
namespace Go.Proofs.YtonnikipeokkaaaGreatDoor
open Go.RowKit Go.Lib

theorem TvAll.get {w : World} : ∀ {ps : List (Nat × Tk)} {vs : List TV} (i : Nat) (p : Nat × Tk), TvAll w ps vs → ps[i]? = some p → ∃ v, vs[i]? = some v ∧ TvIs w p v
  | p :: _, v :: _, 0, q, h, e => by
    simp at e
    subst e
    exact ⟨v, rfl, h.1⟩
  | _ :: _, _ :: _, i + 1, q, h, e => TvAll.get i q h.2 (by simpa using e)
  | [], _, i, _, _, e => by simp at e
  | _ :: _, [], _, _, h, _ => h.elim
theorem flat_at : ∀ (vs : List TV) (i : Nat) (v : TV), vs[i]? = some v → ∀ f, f < 10 → (vs.flatMap TV.cells)[10 * i + f]? = v.cells[f]?
  | v :: vs, 0, u, e, f, hf => by
    simp at e
    subst e
    rw [List.flatMap_cons, Nat.mul_zero, Nat.zero_add, List.getElem?_append_left (by unfold TV.cells; exact hf)]
  | v :: vs, i + 1, u, e, f, hf => by
    rw [List.flatMap_cons, List.getElem?_append_right (by unfold TV.cells; simp only [List.length_cons, List.length_nil]; omega)]
    have : 10 * (i + 1) + f - v.cells.length = 10 * i + f := by unfold TV.cells; simp only [List.length_cons, List.length_nil]; omega
    rw [this]
    exact flat_at vs i u (by simpa using e) f hf
  | [], i, u, e, _, _ => by simp at e
/-- A token's cells in a row. -/
theorem row_tok {w : World} {base n c g : Nat} {vs : List TV} (h : w.ownsRow base 29 10 (.slice (some ⟨g, 0, none⟩) n c) n (vs.flatMap TV.cells)) {i : Nat} {v : TV} (hv : vs[i]? = some v) : ∀ f (u : Value), v.cells[f]? = some u → w.cell? ⟨g, 10 * i + f, none⟩ = some u := by
  intro f u hu
  have hf : f < 10 := by
    have := (List.getElem?_eq_some_iff.1 hu).1
    exact this
  have h2 := flat_at vs i v hv f hf
  rw [hu] at h2
  have := World.ownsRow.cellAt h (10 * i + f) (by
    have := (List.getElem?_eq_some_iff.1 h2).1
    rw [h.1] at this
    exact this)
  rw [this, h2]
theorem row_some {w : World} {base n c : Nat} {A : Option Addr} {xs : List Value} (h : w.ownsRow base 29 10 (.slice A n c) n xs) (hn : 0 < n) : ∃ g, A = some ⟨g, 0, none⟩ := by
  rcases h.2 with ⟨hv, h0⟩ | ⟨g, cap, cur, hv, _⟩
  · omega
  · injection hv with e1 _ _
    exact ⟨g, e1⟩
/-- At a round of the law. -/
structure LaSt (l : List UInt8) (ts : List (Nat × Tk)) (p c i pos : Nat) (done rest : List (Nat × Tk)) (w1 wr : World) : Prop where
  cnt : i = done.length
  eqs : ts = done ++ rest
  toks : Toks l pos rest p c
  K : Keep (fun _ => False) w1 wr
  le : i ≤ pos
set_option maxRecDepth 100000 in
set_option maxHeartbeats 4000000 in
theorem lawAll_any (s : ByteArray) (w : World) (hT : Tabs w) : Calls Tryz.prog 4 #[.string s] w (BoolPost true w) := by
  obtain ⟨ts, p, c, hts⟩ := Toks.ex s.data.toList s.data.toList.length 0 (by omega) (Nat.zero_le _)
  have HAL := Lib.hid (all_any s ts p c w hT hts)
  have HNX := Lib.hid (fun (i : Nat) (w : World) => (rNext_any s (i : Int) w).mono (fun _ _ h => NextPost.form h))
  have HS := Lib.hid (fun (kind at1 en : Int) (sq : Bool) (k c : Int) (neg : Bool) (x : ByteArray) (l : List Nat) (A A' : Option Addr) (n cp n' cp' : Nat) (w : World) (h : LimbsAt w A n cp l) (h' : LimbsAt w A' n' cp' l) => rsame_tok kind at1 en sq k c neg A A' n cp n' cp' x l w h h')
  have HAW := Lib.hid (fun (w : World) hT => awake_any w hT)
  have HT := Lib.hid hT
  have HZ := Lib.hid (show s.data.toList.length = s.size from (Lib.size_eq s).symm)
  obtain ⟨l, hl⟩ : ∃ l, l = s.data.toList := ⟨_, rfl⟩
  rw [← hl] at hts HNX HZ
  have HTS := Lib.hid hts
  clear hl hts hT
  go_enter Tryz.func4, Tryz.ntmps4
  go_wp2_with fail
  refine (HAL.out).mono ?_
  rintro e w1 ⟨vs, A, cap, rfl, hall, hown, K1⟩
  have HALL := Lib.hid hall
  have HOWN := Lib.hid hown
  have HK1 := Lib.hid K1
  have hcapn := own_cap hown
  obtain ⟨n, hn⟩ : ∃ n, n = ts.length := ⟨_, rfl⟩
  obtain ⟨pp, hpp⟩ : ∃ z : Int, z = (p : Int) := ⟨_, rfl⟩
  obtain ⟨cc, hcc⟩ : ∃ z : Int, z = (c : Int) := ⟨_, rfl⟩
  rw [← hn] at HOWN hcapn
  rw [← hn, ← hpp, ← hcc]
  have HN := Lib.hid hn
  have HPP := Lib.hid hpp
  have HCC := Lib.hid hcc
  clear hall hown K1 hn hpp hcc
  go_wp2_with fail
  go_loopw [6, 7] (fun pv iv wr => ∃ (pos i : Nat) (done rest : List (Nat × Tk)), pv = .int .i64 (pos : Int) ∧ iv = .int .i64 (i : Int) ∧ LaSt l ts p c i pos done rest w1 wr) (fun pv _ _ => s.size - (intOf pv).toNat)
  case atStart => exact ⟨0, 0, [], ts, rfl, rfl, rfl, rfl, HTS.out, Keep.refl _ _, Nat.le_refl _⟩
  case round =>
    obtain ⟨pos, i, done, rest, rfl, rfl, hst⟩ := hrel
    have HST := Lib.hid hst
    clear hst
    go_wp2_with fail
    refine (HNX.out pos _).mono ?_
    intro e w2 hres
    obtain ⟨hn, hr⟩ | ⟨j, t, hn, hk, hr, hp, hc⟩ | ⟨j, t, us, hn, hk, hr, hto⟩ := HST.out.toks.inv
    · rw [hn] at hres
      obtain ⟨A2, n2, cp2, he, hl2, k2⟩ := hres
      have hcne := nextV_code hn
      have he : e = .returned (.tuple #[tokV 0 0 0 false 0 0 false A2 n2 cp2 ⟨#[]⟩, .int .i64 pp, .int .i64 cc]) := by rw [he, HPP.out, HCC.out]; rfl
      subst he
      have c0 : (cc != 0) = true := by rw [HCC.out]; simp; omega
      have HI := HST.out.cnt
      have i0 : ((i : Int) == (n : Int)) = true := by
        have h2 := HN.out
        rw [HST.out.eqs, hr, List.append_nil] at h2
        rw [HI, h2]; simp
      have p0 : (pp == pp) = true := by simp
      have q0 : (cc == cc) = true := by simp
      have HK4 := Lib.hid ((HK1.out.trans (HST.out.K.trans k2)).alloc (.cells #[.int .i64 0, .int .i64 0, .int .i64 0, .bool false, .int .i64 0, .int .i32 0, .bool false, .slice A2 n2 cp2, .string ⟨#[]⟩, .slice none 0 0] 29))
      clear hn hr hcne hl2 k2 HI
      try dsimp only
      go_wp2_with fail
      refine (HAW.out _ (HT.out.keep HK4.out)).mono ?_
      rintro e w6 ⟨rfl, k6⟩
      have HK6 := Lib.hid (HK4.out.trans k6)
      clear k6
      try dsimp only
      go_wp2_with fail
      go_ret
      exact ⟨rfl, HK6.out⟩
    · rw [hn] at hres
      obtain ⟨A2, n2, cp2, he, hl2, k2⟩ := hres
      obtain ⟨f, hf⟩ : ∃ f, f = tkNF j t := ⟨_, rfl⟩
      have he : e = .returned (.tuple #[tokV 0 f.at1 f.en f.sq f.k f.c f.neg A2 n2 cp2 f.x, .int .i64 0, .int .i64 0]) := by
        rw [he, hf]
        have : (tkNF j t).kind = 0 := by unfold tkNF; simp only; omega
        show Ending.returned (.tuple #[tokV (tkNF j t).kind (tkNF j t).at1 (tkNF j t).en (tkNF j t).sq (tkNF j t).k (tkNF j t).c (tkNF j t).neg A2 n2 cp2 (tkNF j t).x, .int .i64 (tkNF j t).p, .int .i64 (tkNF j t).q]) = _
        rw [this]; rfl
      obtain ⟨kind, at1, en, sq, k, c2, neg, x, lf, p2, q2⟩ := f
      subst he
      have i0 : ((i : Int) == (n : Int)) = true := by
        have h2 := HN.out
        rw [HST.out.eqs, hr, List.append_nil] at h2
        rw [HST.out.cnt, h2]; simp
      have p0 : (pp == 0) = true := by rw [HPP.out, hp]; rfl
      have q0 : (cc == 0) = true := by rw [HCC.out, hc]; rfl
      have HK4 := Lib.hid ((HK1.out.trans (HST.out.K.trans k2)).alloc (.cells #[.int .i64 0, .int .i64 at1, .int .i64 en, .bool sq, .int .i64 k, .int .i32 c2, .bool neg, .slice A2 n2 cp2, .string x, .slice none 0 0] 29))
      clear hn hr hl2 k2 hf hp hc hk
      try dsimp only
      go_wp2_with fail
      refine (HAW.out _ (HT.out.keep HK4.out)).mono ?_
      rintro e w6 ⟨rfl, k6⟩
      have HK6 := Lib.hid (HK4.out.trans k6)
      clear k6
      try dsimp only
      go_wp2_with fail
      go_ret
      exact ⟨rfl, HK6.out⟩
    · rw [hn] at hres
      obtain ⟨A2, n2, cp2, he, hl2, k2⟩ := hres
      have hvi : ts[i]? = some (j, t) := by
        rw [HST.out.eqs, HST.out.cnt, hr]; simp
      obtain ⟨v, hv, his⟩ := HALL.out.get i (j, t) hvi
      have hilt : i < n := by
        have := (List.getElem?_eq_some_iff.1 hvi).1
        rw [HN.out]; exact this
      obtain ⟨g, rfl⟩ := row_some HOWN.out (by omega)
      have hcell := row_tok HOWN.out hv
      obtain ⟨vk, vat, ven, vsq, vk2, vc, vneg, A1, n1, cp1, vx⟩ := v
      obtain ⟨f1, f2, f3, f4, hlf⟩ := his
      obtain ⟨f5, f6, f7, f8, hl1⟩ := hlf.form
      simp only at f1 f2 f3 f4 f5 f6 f7 f8 hl1
      obtain ⟨f, hf⟩ : ∃ f, f = tkNF j t := ⟨_, rfl⟩
      have e1 : f.kind = vk := by rw [hf]; exact f1.symm
      have e2 : f.at1 = vat := by rw [hf]; exact f2.symm
      have e3 : f.en = ven := by rw [hf]; exact f3.symm
      have e4 : f.sq = vsq := by rw [hf]; exact f4.symm
      have e5 : f.k = vk2 := by rw [hf]; exact f5.symm
      have e6 : f.c = vc := by rw [hf]; exact f6.symm
      have e7 : f.neg = vneg := by rw [hf]; exact f7.symm
      have e8 : f.x = vx := by rw [hf]; exact f8.symm
      have e9 : f.p = 0 ∧ f.q = 0 := by rw [hf]; exact ⟨rfl, rfl⟩
      have e10 : leafL t.d = f.l := by rw [hf]; rfl
      have e11 : f.en = ((j + t.len : Nat) : Int) := by rw [hf]; rfl
      have e12 : (f.kind == 0) = false := by rw [hf]; unfold tkNF; simp; omega
      have he : e = .returned (.tuple #[tokV f.kind f.at1 f.en f.sq f.k f.c f.neg A2 n2 cp2 f.x, .int .i64 0, .int .i64 0]) := by
        rw [he, hf]; rfl
      have hl2 : LimbsAt w2 A2 n2 cp2 f.l := by rw [hf]; exact hl2
      rw [e10] at hl1
      obtain ⟨kind, at1, en, sq, k, c2, neg, x, lf, p2, q2⟩ := f
      simp only at e1 e2 e3 e4 e5 e6 e7 e8 e11 e12 hl1 hl2 he
      subst e1 e2 e3 e4 e5 e6 e7 e8 he
      have HEN := Lib.hid e11
      have hon := nextV_on hn hk
      have HON := Lib.hid hon
      have hi4 : i ≤ 4096 := by have := HST.out.le; have := nextV_len hn; omega
      have hb4 : (w2.alloc (.cells #[.int .i64 kind, .int .i64 at1, .int .i64 en, .bool sq, .int .i64 k, .int .i32 c2, .bool neg, .slice A2 n2 cp2, .string x, .slice none 0 0] 29)).heap[w2.heap.size]? = some (.cells #[.int .i64 kind, .int .i64 at1, .int .i64 en, .bool sq, .int .i64 k, .int .i32 c2, .bool neg, .slice A2 n2 cp2, .string x, .slice none 0 0] 29 (0, 0)) := heap_alloc_new w2 _
      have K24 := HST.out.K.trans (k2.alloc (.cells #[.int .i64 kind, .int .i64 at1, .int .i64 en, .bool sq, .int .i64 k, .int .i32 c2, .bool neg, .slice A2 n2 cp2, .string x, .slice none 0 0] 29))
      have HK4 := Lib.hid (HK1.out.trans K24)
      have HL1 := Lib.hid (hl1.keep0 K24)
      have HL2 := Lib.hid (hl2.keep0 ((Keep.refl _ _).alloc (.cells #[.int .i64 kind, .int .i64 at1, .int .i64 en, .bool sq, .int .i64 k, .int .i32 c2, .bool neg, .slice A2 n2 cp2, .string x, .slice none 0 0] 29)))
      have HROW := Lib.hid (row_tok (tkrow_keep HOWN.out K24) hv)
      have HB4 := Lib.hid hb4
      have HNX2 := Lib.hid (show LaSt l ts p c (i + 1) (j + t.len) (done ++ [(j, t)]) us w1 (w2.alloc (.cells #[.int .i64 kind, .int .i64 at1, .int .i64 en, .bool sq, .int .i64 k, .int .i32 c2, .bool neg, .slice A2 n2 cp2, .string x, .slice none 0 0] 29)) from ⟨by rw [HST.out.cnt]; simp, by rw [HST.out.eqs, hr]; simp, hto, K24, by have := HST.out.le; omega⟩)
      have ig : decide ((n : Int) ≤ (i : Int)) = false := decide_eq_false (by omega)
      have ig2 : decide (n ≤ i) = false := decide_eq_false (by omega)
      clear hn hk hr hto hl2 k2 hf hvi hv hcell f1 f2 f3 f4 f5 f6 f7 f8 hlf hl1 e9 e10 e11 hon hb4 K24
      try dsimp only
      go_wp2_with fail
      generalize w2.alloc (.cells #[.int .i64 kind, .int .i64 at1, .int .i64 en, .bool sq, .int .i64 k, .int .i32 c2, .bool neg, .slice A2 n2 cp2, .string x, .slice none 0 0] 29) = w4 at *
      have r0 : w4.cell? ⟨g, i * 10, none⟩ = some (.int .i64 kind) := by have := HROW.out 0 _ rfl; rwa [Nat.mul_comm] at this
      have r1 : w4.cell? ⟨g, i * 10 + 1, none⟩ = some (.int .i64 at1) := by have := HROW.out 1 _ rfl; rwa [Nat.mul_comm] at this
      have r2 : w4.cell? ⟨g, i * 10 + 2, none⟩ = some (.int .i64 en) := by have := HROW.out 2 _ rfl; rwa [Nat.mul_comm] at this
      have r3 : w4.cell? ⟨g, i * 10 + 3, none⟩ = some (.bool sq) := by have := HROW.out 3 _ rfl; rwa [Nat.mul_comm] at this
      have r4 : w4.cell? ⟨g, i * 10 + 4, none⟩ = some (.int .i64 k) := by have := HROW.out 4 _ rfl; rwa [Nat.mul_comm] at this
      have r5 : w4.cell? ⟨g, i * 10 + 5, none⟩ = some (.int .i32 c2) := by have := HROW.out 5 _ rfl; rwa [Nat.mul_comm] at this
      have r6 : w4.cell? ⟨g, i * 10 + 6, none⟩ = some (.bool neg) := by have := HROW.out 6 _ rfl; rwa [Nat.mul_comm] at this
      have r7 : w4.cell? ⟨g, i * 10 + 7, none⟩ = some (.slice A1 n1 cp1) := by have := HROW.out 7 _ rfl; rwa [Nat.mul_comm] at this
      have r8 : w4.cell? ⟨g, i * 10 + 8, none⟩ = some (.string x) := by have := HROW.out 8 _ rfl; rwa [Nat.mul_comm] at this
      have r9 : w4.cell? ⟨g, i * 10 + 9, none⟩ = some (.slice none 0 0) := by have := HROW.out 9 _ rfl; rwa [Nat.mul_comm] at this
      obtain ⟨⟨d0, d1, d2, d3, d4, d5, d6, d7, d8, d9⟩, _⟩ := tok_cells HB4.out
      have HC := Lib.hid (fun (w' : World) (K : Keep (fun _ => False) w4 w') => (show w'.cell? ⟨g, i * 10, none⟩ = some (.int .i64 kind) ∧ w'.cell? ⟨g, i * 10 + 1, none⟩ = some (.int .i64 at1) ∧ w'.cell? ⟨g, i * 10 + 2, none⟩ = some (.int .i64 en) ∧ w'.cell? ⟨g, i * 10 + 3, none⟩ = some (.bool sq) ∧ w'.cell? ⟨g, i * 10 + 4, none⟩ = some (.int .i64 k) ∧ w'.cell? ⟨g, i * 10 + 5, none⟩ = some (.int .i32 c2) ∧ w'.cell? ⟨g, i * 10 + 6, none⟩ = some (.bool neg) ∧ w'.cell? ⟨g, i * 10 + 7, none⟩ = some (.slice A1 n1 cp1) ∧ w'.cell? ⟨g, i * 10 + 8, none⟩ = some (.string x) ∧ w'.cell? ⟨g, i * 10 + 9, none⟩ = some (.slice none 0 0) ∧ w'.cell? ⟨w2.heap.size, 0, none⟩ = some (.int .i64 kind) ∧ w'.cell? ⟨w2.heap.size, 1, none⟩ = some (.int .i64 at1) ∧ w'.cell? ⟨w2.heap.size, 2, none⟩ = some (.int .i64 en) ∧ w'.cell? ⟨w2.heap.size, 3, none⟩ = some (.bool sq) ∧ w'.cell? ⟨w2.heap.size, 4, none⟩ = some (.int .i64 k) ∧ w'.cell? ⟨w2.heap.size, 5, none⟩ = some (.int .i32 c2) ∧ w'.cell? ⟨w2.heap.size, 6, none⟩ = some (.bool neg) ∧ w'.cell? ⟨w2.heap.size, 7, none⟩ = some (.slice A2 n2 cp2) ∧ w'.cell? ⟨w2.heap.size, 8, none⟩ = some (.string x) ∧ w'.cell? ⟨w2.heap.size, 9, none⟩ = some (.slice none 0 0) ∧ Keep (fun _ => False) w4 w' from ⟨(K.cell (World.block_lt_of_cell? w4 _ r0) id).trans r0, (K.cell (World.block_lt_of_cell? w4 _ r1) id).trans r1, (K.cell (World.block_lt_of_cell? w4 _ r2) id).trans r2, (K.cell (World.block_lt_of_cell? w4 _ r3) id).trans r3, (K.cell (World.block_lt_of_cell? w4 _ r4) id).trans r4, (K.cell (World.block_lt_of_cell? w4 _ r5) id).trans r5, (K.cell (World.block_lt_of_cell? w4 _ r6) id).trans r6, (K.cell (World.block_lt_of_cell? w4 _ r7) id).trans r7, (K.cell (World.block_lt_of_cell? w4 _ r8) id).trans r8, (K.cell (World.block_lt_of_cell? w4 _ r9) id).trans r9, (K.cell (World.block_lt_of_cell? w4 _ d0) id).trans d0, (K.cell (World.block_lt_of_cell? w4 _ d1) id).trans d1, (K.cell (World.block_lt_of_cell? w4 _ d2) id).trans d2, (K.cell (World.block_lt_of_cell? w4 _ d3) id).trans d3, (K.cell (World.block_lt_of_cell? w4 _ d4) id).trans d4, (K.cell (World.block_lt_of_cell? w4 _ d5) id).trans d5, (K.cell (World.block_lt_of_cell? w4 _ d6) id).trans d6, (K.cell (World.block_lt_of_cell? w4 _ d7) id).trans d7, (K.cell (World.block_lt_of_cell? w4 _ d8) id).trans d8, (K.cell (World.block_lt_of_cell? w4 _ d9) id).trans d9, K⟩))
      have Kd : Keep (fun _ => False) w4 w4.drew := (Keep.refl _ _).drew
      clear r0 r1 r2 r3 r4 r5 r6 r7 r8 r9 d0 d1 d2 d3 d4 d5 d6 d7 d8 d9
      have hi0 : (0 : Int) ≤ (i : Int) := Int.natCast_nonneg _
      have hi1 : (i : Int) < (n : Int) := by omega
      go_region_held3 (fun w' => w'.cell? ⟨g, i * 10, none⟩ = some (.int .i64 kind) ∧ w'.cell? ⟨g, i * 10 + 1, none⟩ = some (.int .i64 at1) ∧ w'.cell? ⟨g, i * 10 + 2, none⟩ = some (.int .i64 en) ∧ w'.cell? ⟨g, i * 10 + 3, none⟩ = some (.bool sq) ∧ w'.cell? ⟨g, i * 10 + 4, none⟩ = some (.int .i64 k) ∧ w'.cell? ⟨g, i * 10 + 5, none⟩ = some (.int .i32 c2) ∧ w'.cell? ⟨g, i * 10 + 6, none⟩ = some (.bool neg) ∧ w'.cell? ⟨g, i * 10 + 7, none⟩ = some (.slice A1 n1 cp1) ∧ w'.cell? ⟨g, i * 10 + 8, none⟩ = some (.string x) ∧ w'.cell? ⟨g, i * 10 + 9, none⟩ = some (.slice none 0 0) ∧ w'.cell? ⟨w2.heap.size, 0, none⟩ = some (.int .i64 kind) ∧ w'.cell? ⟨w2.heap.size, 1, none⟩ = some (.int .i64 at1) ∧ w'.cell? ⟨w2.heap.size, 2, none⟩ = some (.int .i64 en) ∧ w'.cell? ⟨w2.heap.size, 3, none⟩ = some (.bool sq) ∧ w'.cell? ⟨w2.heap.size, 4, none⟩ = some (.int .i64 k) ∧ w'.cell? ⟨w2.heap.size, 5, none⟩ = some (.int .i32 c2) ∧ w'.cell? ⟨w2.heap.size, 6, none⟩ = some (.bool neg) ∧ w'.cell? ⟨w2.heap.size, 7, none⟩ = some (.slice A2 n2 cp2) ∧ w'.cell? ⟨w2.heap.size, 8, none⟩ = some (.string x) ∧ w'.cell? ⟨w2.heap.size, 9, none⟩ = some (.slice none 0 0) ∧ Keep (fun _ => False) w4 w')
        (first | exact HC.out _ Kd | exact HC.out _ (by assumption))
        ((go_at_call 15; go_split_ands; (with_reducible refine (HS.out kind at1 en sq k c2 neg x lf A1 A2 n1 cp1 n2 cp2 _ (HL1.out.keep0 (by assumption)) (HL2.out.keep0 (by assumption))).mono ?_); rintro e w5 ⟨rfl, k5⟩; have K5 := Keep.trans (by assumption) k5))
      have d2 : w5.cell? ⟨w2.heap.size, 2, none⟩ = some (.int .i64 en) := (HC.out _ K5).2.2.2.2.2.2.2.2.2.2.2.2.1
      have HNX3 := Lib.hid (show LaSt l ts p c (i + 1) (j + t.len) (done ++ [(j, t)]) us w1 w5 from ⟨HNX2.out.cnt, HNX2.out.eqs, HNX2.out.toks, HNX2.out.K.trans K5, HNX2.out.le⟩)
      clear k5 K5 Kd
      try dsimp only
      go_wp2_with fail
      go_roundw
      case rel => exact ⟨j + t.len, i + 1, _, _, by rw [HEN.out], by go_num, HNX3.out⟩
      case measure => rw [HEN.out]; have := HZ.out; have := HON.out; simp only [intOf]; omega
end Go.Proofs.YtonnikipeokkaaaGreatDoor
