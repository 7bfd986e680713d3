/-
  lex: All.
-/
import Derived.Test.YtonnikipeokkaaaGreatDoorLxTop
import Derived.Maps.AppendAt
namespace Go.Proofs.YtonnikipeokkaaaGreatDoor
open Go.RowKit Go.Lib

theorem info29 : (Tryz.prog.info? 29).map (fun i => (i.zero, i.size, i.bytes)) = some (some (.agg #[.int .i64 0, .int .i64 0, .int .i64 0, .bool false, .int .i64 0, .int .i32 0, .bool false, .slice none 0 0, .string ⟨#[]⟩, .slice none 0 0]), 10, 120) := by kernel_rfl
/-- A token's cells. -/
structure TV where
  kind : Int
  at_ : Int
  en : Int
  sq : Bool
  k : Int
  c : Int
  neg : Bool
  A : Option Addr
  n : Nat
  cp : Nat
  x : ByteArray
def TV.cells (v : TV) : List Value := [.int .i64 v.kind, .int .i64 v.at_, .int .i64 v.en, .bool v.sq, .int .i64 v.k, .int .i32 v.c, .bool v.neg, .slice v.A v.n v.cp, .string v.x, .slice none 0 0]
/-- The cells of a token that was read at a place. -/
def TvIs (w : World) (p : Nat × Tk) (v : TV) : Prop := v.kind = (p.2.kind : Int) ∧ v.at_ = (p.1 : Int) ∧ v.en = ((p.1 + p.2.len : Nat) : Int) ∧ v.sq = p.2.sq ∧ LeafAt w p.2.d v.k v.c v.neg v.A v.n v.cp v.x
def TvAll (w : World) : List (Nat × Tk) → List TV → Prop
  | [], [] => True
  | p :: ps, v :: vs => TvIs w p v ∧ TvAll w ps vs
  | _, _ => False
theorem LeafAt.grown {w w' : World} {d : Leaf} {k c : Int} {neg : Bool} {A : Option Addr} {n cp : Nat} {t : ByteArray} {S : Nat → Prop} (h : LeafAt w d k c neg A n cp t) (K : Keep S w w') (hs : ∀ b, S b → ∀ X, w.heap[b]? ≠ some (.cells X 126 (0, 0))) : LeafAt w' d k c neg A n cp t := by
  cases d
  case int x => exact ⟨h.1, h.2.1, h.2.2.1, h.2.2.2.1.keep K hs, h.2.2.2.2⟩
  all_goals exact h
theorem TvAll.keep {w w' : World} {S : Nat → Prop} (K : Keep S w w') (hs : ∀ b, S b → ∀ X, w.heap[b]? ≠ some (.cells X 126 (0, 0))) : ∀ {ps : List (Nat × Tk)} {vs : List TV}, TvAll w ps vs → TvAll w' ps vs
  | [], [], _ => trivial
  | _p :: _ps, _v :: _vs, h => ⟨⟨h.1.1, h.1.2.1, h.1.2.2.1, h.1.2.2.2.1, h.1.2.2.2.2.grown K hs⟩, TvAll.keep K hs h.2⟩
  | [], _ :: _, h => h.elim
  | _ :: _, [], h => h.elim
theorem TvAll.keep0 {w w' : World} (K : Keep (fun _ => False) w w') {ps : List (Nat × Tk)} {vs : List TV} (h : TvAll w ps vs) : TvAll w' ps vs := h.keep K (fun _ h => h.elim)
theorem TvAll.snoc {w : World} {p : Nat × Tk} {v : TV} (hp : TvIs w p v) : ∀ {ps : List (Nat × Tk)} {vs : List TV}, TvAll w ps vs → TvAll w (ps ++ [p]) (vs ++ [v])
  | [], [], _ => ⟨hp, trivial⟩
  | _ :: _, _ :: _, h => ⟨h.1, TvAll.snoc hp h.2⟩
  | [], _ :: _, h => h.elim
  | _ :: _, [], h => h.elim
theorem TvAll.len {w : World} : ∀ {ps : List (Nat × Tk)} {vs : List TV}, TvAll w ps vs → vs.length = ps.length
  | [], [], _ => rfl
  | _ :: _, _ :: _, h => by rw [List.length_cons, List.length_cons, TvAll.len h.2]
  | [], _ :: _, h => h.elim
  | _ :: _, [], h => h.elim
/-- An owned row of tokens lies in no block of limbs. -/
theorem tkrow_off {w : World} {base n c : Nat} {A : Option Addr} {xs : List Value} (h : w.ownsRow base 29 10 (.slice A n c) n xs) : ∀ b, (Value.slice A n c).ownBlock = some b → base ≤ b ∧ b < w.heap.size ∧ ∀ X, w.heap[b]? ≠ some (.cells X 126 (0, 0)) := by
  intro b hb
  rcases h.2 with ⟨hv, h0⟩ | ⟨g, cap, cur, hv, hg, hh, h1, h2⟩
  · injection hv with e1 _ _
    subst e1
    cases hb
  · injection hv with e1 _ _
    subst e1
    injection hb with hb
    subst hb
    refine ⟨hg, heap_lt hh, fun X hX => ?_⟩
    rw [hh] at hX
    injection hX with hX
    injection hX with _ hX
    cases hX
theorem tkrow_slice {w : World} {base k : Nat} {v : Value} {xs : List Value} (h : w.ownsRow base 29 10 v (k + 1) xs) : ∃ A c, v = .slice A (k + 1) c := by
  rcases h.2 with ⟨hv, h0⟩ | ⟨g, cap, cur, hv, _⟩
  · omega
  · exact ⟨_, _, hv⟩
theorem tkrow_keep {w w' : World} {base n c : Nat} {A : Option Addr} {xs : List Value} (h : w.ownsRow base 29 10 (.slice A n c) n xs) (K : Keep (fun _ => False) w w') : w'.ownsRow base 29 10 (.slice A n c) n xs := by
  refine ⟨h.1, ?_⟩
  rcases h.2 with ⟨hv, h0⟩ | ⟨g, cap, cur, hv, hg, hh, h1, h2⟩
  · exact .inl ⟨hv, h0⟩
  · exact .inr ⟨g, cap, cur, hv, hg, K.heap hh id, h1, h2⟩
theorem Toks.inv {l : List UInt8} {i p c : Nat} {ts : List (Nat × Tk)} (h : Toks l i ts p c) :
    (nextV l i = .error (p, c) ∧ ts = []) ∨ (∃ j t, nextV l i = .ok (j, t) ∧ t.kind = 0 ∧ ts = [] ∧ p = 0 ∧ c = 0) ∨
    ∃ j t us, nextV l i = .ok (j, t) ∧ t.kind ≠ 0 ∧ ts = (j, t) :: us ∧ Toks l (j + t.len) us p c := by
  cases h with
  | bad h => exact .inl ⟨h, rfl⟩
  | fin h hk => exact .inr (.inl ⟨_, _, h, hk, rfl, rfl, rfl⟩)
  | cons h hk n => exact .inr (.inr ⟨_, _, _, h, hk, rfl, n⟩)
theorem nextV_code {l : List UInt8} {i : Int} {p c : Nat} (h : nextV l i = .error (p, c)) : c ≠ 0 := by
  unfold nextV at h
  split at h
  · injection h with h; injection h with h1 h2; omega
  split at h
  · injection h with h; injection h with h1 h2; omega
  · have := (lexAt_err (by omega) h).2
    omega
theorem nextV_len {l : List UInt8} {i j : Nat} {t : Tk} (h : nextV l i = .ok (j, t)) : l.length ≤ 4096 ∧ i ≤ l.length := by
  unfold nextV at h
  split at h
  · cases h
  split at h
  · cases h
  · omega
theorem nextV_on {l : List UInt8} {i j : Nat} {t : Tk} (h : nextV l i = .ok (j, t)) (hk : t.kind ≠ 0) : i < j + t.len ∧ j + t.len ≤ l.length := by
  obtain ⟨h1, h2⟩ := nextV_len h
  rw [nextV_eq h1 h2] at h
  obtain ⟨a, b, _, d⟩ := lexAt_ok h2 h
  rcases d with ⟨_, d⟩ | ⟨_, _, d, _⟩
  · rw [d] at hk; exact absurd rfl hk
  · omega
/-- Every text has its tokens. -/
theorem Toks.ex (l : List UInt8) : ∀ (n i : Nat), l.length ≤ i + n → i ≤ l.length → ∃ ts p c, Toks l i ts p c := by
  intro n
  induction n with
  | zero =>
    intro i h1 h2
    cases hn : nextV l i with
    | error r => obtain ⟨p, c⟩ := r; exact ⟨[], p, c, .bad hn⟩
    | ok r =>
      obtain ⟨j, t⟩ := r
      by_cases hk : t.kind = 0
      · exact ⟨[], 0, 0, .fin hn hk⟩
      · have := nextV_on hn hk; omega
  | succ n ih =>
    intro i h1 h2
    cases hn : nextV l i with
    | error r => obtain ⟨p, c⟩ := r; exact ⟨[], p, c, .bad hn⟩
    | ok r =>
      obtain ⟨j, t⟩ := r
      by_cases hk : t.kind = 0
      · exact ⟨[], 0, 0, .fin hn hk⟩
      · obtain ⟨g1, g2⟩ := nextV_on hn hk
        obtain ⟨ts, p, c, h⟩ := ih (j + t.len) (by omega) g2
        exact ⟨_, p, c, .cons hn hk h⟩
/-- What All answers. -/
def AllPost (ts : List (Nat × Tk)) (p c : Nat) (w : World) (e : Ending) (w' : World) : Prop :=
  ∃ (vs : List TV) (A : Option Addr) (cap : Nat), e = .returned (.tuple #[.slice A ts.length cap, .int .i64 (p : Int), .int .i64 (c : Int)]) ∧ TvAll w' ts vs ∧ w'.ownsRow w.heap.size 29 10 (.slice A ts.length cap) ts.length (vs.flatMap TV.cells) ∧ Keep (fun _ => False) w w'
/-- At a round. -/
structure AllSt (w : World) (l : List UInt8) (ts : List (Nat × Tk)) (p c i n : Nat) (done rest : List (Nat × Tk)) (vs : List TV) (A : Option Addr) (cap : Nat) (wr : World) : Prop where
  cnt : n = done.length
  eqs : ts = done ++ rest
  toks : Toks l i rest p c
  own : wr.ownsRow w.heap.size 29 10 (.slice A n cap) n (vs.flatMap TV.cells)
  all : TvAll wr done vs
  K : Keep (fun _ => False) w wr
  le : n ≤ i
theorem AllSt.fin {w : World} {l : List UInt8} {ts : List (Nat × Tk)} {p c i n : Nat} {done : List (Nat × Tk)} {vs : List TV} {A : Option Addr} {cap : Nat} {wr w2 : World} (h : AllSt w l ts p c i n done [] vs A cap wr) (K : Keep (fun _ => False) wr w2) : AllPost ts p c w (.returned (.tuple #[.slice A n cap, .int .i64 (p : Int), .int .i64 (c : Int)])) w2 := by
  have e : ts = done := by rw [h.eqs, List.append_nil]
  subst e
  have hn := h.cnt
  subst hn
  exact ⟨vs, A, cap, rfl, h.all.keep0 K, tkrow_keep h.own K, h.K.trans K⟩
theorem AllSt.more {w : World} {l : List UInt8} {ts : List (Nat × Tk)} {p c i n : Nat} {done us : List (Nat × Tk)} {vs : List TV} {A : Option Addr} {cap : Nat} {wr w2 w3 : World} {j : Nat} {t : Tk} (h : AllSt w l ts p c i n done ((j, t) :: us) vs A cap wr) (hn : nextV l i = .ok (j, t)) (hk : t.kind ≠ 0) (hT : Toks l (j + t.len) us p c) (K : Keep (fun _ => False) wr w2) {v : TV} (hv : TvIs w2 (j, t) v) {v' : Value}
    (hown : w3.ownsRow w.heap.size 29 10 v' (n + 1) (vs.flatMap TV.cells ++ v.cells)) (hgrow : w2.grownBy w3 (Value.slice A n cap).ownBlock) :
    ∃ A' c', v' = .slice A' (n + 1) c' ∧ AllSt w l ts p c (j + t.len) (n + 1) (done ++ [(j, t)]) us (vs ++ [v]) A' c' w3 := by
  have hrow := tkrow_off (tkrow_keep h.own K)
  obtain ⟨A', c', rfl⟩ := tkrow_slice hown
  have KG : Keep (fun b => (Value.slice A n cap).ownBlock = some b) w2 w3 := (Keep.refl _ _).grown hgrow (fun k hk => .inl hk)
  have := nextV_on hn hk
  refine ⟨A', c', rfl, by rw [List.length_append, h.cnt]; rfl, by rw [h.eqs]; simp, hT, ?_, ?_, (h.K.trans K).grown hgrow (fun k hk => .inr (hrow k hk).1), by have := h.le; omega⟩
  · rw [List.flatMap_append]
    simpa using hown
  · exact TvAll.snoc ⟨hv.1, hv.2.1, hv.2.2.1, hv.2.2.2.1, hv.2.2.2.2.grown KG (fun b hb => (hrow b hb).2.2)⟩ ((h.all.keep0 K).keep KG (fun b hb => (hrow b hb).2.2))
theorem new_cells {w : World} {B : Nat} {x0 x1 x2 x3 x4 x5 x6 x7 x8 x9 : Value} (h : w.heap[B]? = some (.cells #[x0, x1, x2, x3, x4, x5, x6, x7, x8, x9] 29 (0, 0))) : ∀ j u, [x0, x1, x2, x3, x4, x5, x6, x7, x8, x9][j]? = some u → w.cell? ((⟨B, 0, none⟩ : Addr).add j) = some u := by
  intro j u hu
  rw [Addr.add_lit, Nat.zero_add, cell_of_row w _ _ _ _ _ h, ← hu]
  simp
set_option maxRecDepth 100000 in
set_option maxHeartbeats 4000000 in
theorem all_any (s : ByteArray) (ts : List (Nat × Tk)) (p c : Nat) (w : World) (hT : Tabs w) (h : Toks s.data.toList 0 ts p c) :
    Calls Tryz.prog 17 #[.string s] w (AllPost ts p c w) := by
  have hz : s.data.toList.length = s.size := (Lib.size_eq s).symm
  have HT := Lib.hid hT
  have HNX := Lib.hid (fun (i : Nat) (w : World) hT => lexNext_any s (i : Int) w hT)
  obtain ⟨l, hl⟩ : ∃ l, l = s.data.toList := ⟨_, rfl⟩
  rw [← hl] at hz HNX h
  have HZ := Lib.hid hz
  have HH := Lib.hid h
  clear hl hz h hT
  obtain ⟨i29, h29, hz0, hz1, hz2⟩ := info_parts info29
  go_enter Tryz.func17, Tryz.ntmps17
  go_wp2_with fail
  go_loopw [2, 5] (fun ov av wr => ∃ (i n : Nat) (done rest : List (Nat × Tk)) (vs : List TV) (A : Option Addr) (cap : Nat), ov = .slice A n cap ∧ av = .int .i64 (i : Int) ∧ AllSt w l ts p c i n done rest vs A cap wr) (fun _ av _ => s.size - (intOf av).toNat)
  case atStart => exact ⟨0, 0, [], ts, [], none, 0, rfl, rfl, rfl, rfl, HH.out, ⟨rfl, .inl ⟨rfl, rfl⟩⟩, trivial, Keep.refl _ _, Nat.le_refl _⟩
  case round =>
    obtain ⟨i, n, done, rest, vs, A, cap, rfl, rfl, hst⟩ := hrel
    have HS := Lib.hid hst
    have HTR := Lib.hid (HT.out.keep hst.K)
    clear hst
    go_wp2_with fail
    refine (HNX.out i _ HTR.out).mono ?_
    intro e w2 hres
    obtain ⟨hn, hr⟩ | ⟨j, t, hn, hk, hr, hp, hc⟩ | ⟨j, t, us, hn, hk, hr, hto⟩ := HS.out.toks.inv
    · rw [hn] at hres
      obtain ⟨rfl, k2⟩ := hres
      have hc := nextV_code hn
      have k3 := k2.alloc (.cells #[.int .i64 0, .int .i64 0, .int .i64 0, .bool false, .int .i64 0, .int .i32 0, .bool false, .slice none 0 0, .string ⟨#[]⟩, .slice none 0 0] 29)
      subst hr
      have HF := Lib.hid (HS.out.fin k3)
      obtain ⟨cc, hcc⟩ : ∃ z : Int, z = (c : Int) := ⟨_, rfl⟩
      rw [← hcc] at HF ⊢
      have hne : (cc != 0) = true := by rw [hcc]; simp; omega
      clear hn hc k2 k3 hcc
      go_wp2_with fail
      exact bodyPost_ret (v := .tuple #[.slice A n cap, .int .i64 (p : Int), .int .i64 cc]) (by simp [results, Tryz.results17, go_sem]) rfl HF.out
    · rw [hn] at hres
      obtain ⟨k, c2, neg, A2, n2, cp2, x, he, hlf, k2⟩ := hres
      obtain ⟨te, hte⟩ : ∃ z : Int, z = ((j + t.len : Nat) : Int) := ⟨_, rfl⟩
      obtain ⟨ts', hts⟩ : ∃ z : Bool, z = t.sq := ⟨_, rfl⟩
      rw [hk, ← hte, ← hts] at he
      have he : e = .returned (.tuple #[tokV 0 (j : Int) te ts' k c2 neg A2 n2 cp2 x, .int .i64 0, .int .i64 0]) := he
      subst he
      have k3 := k2.alloc (.cells #[.int .i64 0, .int .i64 (j : Int), .int .i64 te, .bool ts', .int .i64 k, .int .i32 c2, .bool neg, .slice A2 n2 cp2, .string x, .slice none 0 0] 29)
      subst hr hp hc
      have HF := Lib.hid (HS.out.fin k3)
      clear hn hk k2 k3 hlf hte hts
      go_wp2_with fail
      exact bodyPost_ret (v := .tuple #[.slice A n cap, .int .i64 0, .int .i64 0]) (by simp [results, Tryz.results17, go_sem]) rfl HF.out
    · rw [hn] at hres
      obtain ⟨k, c2, neg, A2, n2, cp2, x, he, hlf, k2⟩ := hres
      obtain ⟨tk, htk⟩ : ∃ z : Int, z = (t.kind : Int) := ⟨_, rfl⟩
      obtain ⟨te, hte⟩ : ∃ z : Int, z = ((j + t.len : Nat) : Int) := ⟨_, rfl⟩
      obtain ⟨ts', hts⟩ : ∃ z : Bool, z = t.sq := ⟨_, rfl⟩
      rw [← htk, ← hte, ← hts] at he
      subst he
      have hk0 : (tk == 0) = false := by rw [htk]; simp; omega
      subst hr
      have C1 : Array Value := #[.int .i64 tk, .int .i64 (j : Int), .int .i64 te, .bool ts', .int .i64 k, .int .i32 c2, .bool neg, .slice A2 n2 cp2, .string x, .slice none 0 0]
      have k3 := (k2.alloc (.cells #[.int .i64 tk, .int .i64 (j : Int), .int .i64 te, .bool ts', .int .i64 k, .int .i32 c2, .bool neg, .slice A2 n2 cp2, .string x, .slice none 0 0] 29)).alloc (.cells #[.int .i64 tk, .int .i64 (j : Int), .int .i64 te, .bool ts', .int .i64 k, .int .i32 c2, .bool neg, .slice A2 n2 cp2, .string x, .slice none 0 0] 29)
      have HIS := Lib.hid (show TvIs ((w2.alloc (.cells #[.int .i64 tk, .int .i64 (j : Int), .int .i64 te, .bool ts', .int .i64 k, .int .i32 c2, .bool neg, .slice A2 n2 cp2, .string x, .slice none 0 0] 29)).alloc (.cells #[.int .i64 tk, .int .i64 (j : Int), .int .i64 te, .bool ts', .int .i64 k, .int .i32 c2, .bool neg, .slice A2 n2 cp2, .string x, .slice none 0 0] 29)) (j, t) ⟨tk, j, te, ts', k, c2, neg, A2, n2, cp2, x⟩ from ⟨htk, rfl, hte, hts, hlf.keep (((Keep.refl _ _).alloc _).alloc _)⟩)
      have HK3 := Lib.hid k3
      have HOWN := Lib.hid (tkrow_keep HS.out.own k3)
      have hlt := HS.out.own
      have HN := Lib.hid hn
      have HKD := Lib.hid hk
      have HTO := Lib.hid hto
      have HTE := Lib.hid hte
      have hon := nextV_on hn hk
      have hln := (nextV_len hn).1
      have hile := HS.out.le
      have hb1 : ((w2.alloc (.cells #[.int .i64 tk, .int .i64 (j : Int), .int .i64 te, .bool ts', .int .i64 k, .int .i32 c2, .bool neg, .slice A2 n2 cp2, .string x, .slice none 0 0] 29)).alloc (.cells #[.int .i64 tk, .int .i64 (j : Int), .int .i64 te, .bool ts', .int .i64 k, .int .i32 c2, .bool neg, .slice A2 n2 cp2, .string x, .slice none 0 0] 29)).heap[w2.heap.size]? = some (.cells #[.int .i64 tk, .int .i64 (j : Int), .int .i64 te, .bool ts', .int .i64 k, .int .i32 c2, .bool neg, .slice A2 n2 cp2, .string x, .slice none 0 0] 29 (0, 0)) := by
        rw [Below.heap_alloc _ _ _ (by simp)]; exact heap_alloc_new w2 _
      have hb2 : ((w2.alloc (.cells #[.int .i64 tk, .int .i64 (j : Int), .int .i64 te, .bool ts', .int .i64 k, .int .i32 c2, .bool neg, .slice A2 n2 cp2, .string x, .slice none 0 0] 29)).alloc (.cells #[.int .i64 tk, .int .i64 (j : Int), .int .i64 te, .bool ts', .int .i64 k, .int .i32 c2, .bool neg, .slice A2 n2 cp2, .string x, .slice none 0 0] 29)).heap[w2.heap.size + 1]? = some (.cells #[.int .i64 tk, .int .i64 (j : Int), .int .i64 te, .bool ts', .int .i64 k, .int .i32 c2, .bool neg, .slice A2 n2 cp2, .string x, .slice none 0 0] 29 (0, 0)) := by
        have := heap_alloc_new (w2.alloc (.cells #[.int .i64 tk, .int .i64 (j : Int), .int .i64 te, .bool ts', .int .i64 k, .int .i32 c2, .bool neg, .slice A2 n2 cp2, .string x, .slice none 0 0] 29)) (.cells #[.int .i64 tk, .int .i64 (j : Int), .int .i64 te, .bool ts', .int .i64 k, .int .i32 c2, .bool neg, .slice A2 n2 cp2, .string x, .slice none 0 0] 29)
        rwa [World.size_alloc] at this
      have HB1 := Lib.hid hb1
      have HNEW := Lib.hid (new_cells hb2)
      have HROW := Lib.hid (tkrow_off HS.out.own)
      have HLT := Lib.hid (show wr.heap.size ≤ w2.heap.size from k2.size)
      have HBASE := Lib.hid (show w.heap.size ≤ ((w2.alloc (.cells #[.int .i64 tk, .int .i64 (j : Int), .int .i64 te, .bool ts', .int .i64 k, .int .i32 c2, .bool neg, .slice A2 n2 cp2, .string x, .slice none 0 0] 29)).alloc (.cells #[.int .i64 tk, .int .i64 (j : Int), .int .i64 te, .bool ts', .int .i64 k, .int .i32 c2, .bool neg, .slice A2 n2 cp2, .string x, .slice none 0 0] 29)).heap.size from (HS.out.K.trans k3).size)
      have hn4 : n ≤ 4096 := by omega
      clear hn hk hto k2 k3 hlf hte hts htk hb1 hb2 C1
      go_wp2_with (at_builtin; refine wpList_append_own_at _ rfl (.tmp 26) (.tmp 28) 36 rfl w.heap.size 29 i29 (.agg #[.int .i64 0, .int .i64 0, .int .i64 0, .bool false, .int .i64 0, .int .i32 0, .bool false, .slice none 0 0, .string ⟨#[]⟩, .slice none 0 0]) 10 120 Tryz.underlying36 h29 hz0 hz1 hz2 rfl (by decide) _ _ _ rfl HOWN.out ⟨w2.heap.size + 1, 0, none⟩ 1 1 [.int .i64 tk, .int .i64 (j : Int), .int .i64 te, .bool ts', .int .i64 k, .int .i32 c2, .bool neg, .slice A2 n2 cp2, .string x, .slice none 0 0] rfl rfl HNEW.out ?a1 ?a2 ?a3 HBASE.out ?_)
      case a1 => intro u hu; simp only [List.mem_cons, List.not_mem_nil, or_false] at hu; rcases hu with rfl | rfl | rfl | rfl | rfl | rfl | rfl | rfl | rfl | rfl <;> rfl
      case a2 => unfold maxLen; omega
      case a3 => omega
      intro v' w6 hown hgrow _ _
      have hcell : w6.cell? ⟨w2.heap.size, 2, none⟩ = some (.int .i64 te) := by
        have KG : Keep (fun b => (Value.slice A n cap).ownBlock = some b) _ w6 := (Keep.refl _ _).grown hgrow (fun k hk => .inl hk)
        have := KG.heap HB1.out (fun hb => by have := (HROW.out _ hb).2.1; have := HLT.out; omega)
        rw [cell_of_row w6 _ _ _ _ _ this]; rfl
      obtain ⟨A3, c3, rfl, HM⟩ := HS.out.more HN.out HKD.out HTO.out HK3.out HIS.out hown hgrow
      have HMM := Lib.hid HM
      clear hown hgrow HM
      go_wp2_with fail
      go_roundw
      case rel => exact ⟨j + t.len, n + 1, _, _, _, A3, c3, rfl, by rw [HTE.out], HMM.out⟩
      case measure => rw [HTE.out]; have := HZ.out; simp only [intOf]; omega
end Go.Proofs.YtonnikipeokkaaaGreatDoor
