/-
  Cards: what Again does (a range over the words of a card).
-/
import Derived.Test.YtgnpeciedefeiaaCdWords
import Derived.RangeFuncFrom
import Derived.Deep.RegionHeld3
namespace Go.Proofs.Ytgnpeciedefeiaa
open Go.RowKit Go.Shelf

attribute [local go_sem] Oper.semAt_some

/-- What a card's mark ought to be. -/
def oughtV (M : MemV) (s : Sg) (d : Nat) : Int := (wordsW s d).foldl (fun m u => youngV M s u.1 m) 5
theorem fold_lo {M : MemV} (ok : M.Ok) (s : Sg) : ∀ (l : List U64) (m : Int), 0 ≤ m → m ≤ 5 → 0 ≤ l.foldl (fun m u => youngV M s u.1 m) m ∧ l.foldl (fun m u => youngV M s u.1 m) m ≤ 5
  | [], m, h0, h5 => ⟨h0, h5⟩
  | x :: l, m, h0, h5 => by
    have := youngV_lo ok s x.1 h0 h5
    exact fold_lo ok s l _ this.1 this.2
theorem oughtV_lo {M : MemV} (ok : M.Ok) (s : Sg) (d : Nat) : 0 ≤ oughtV M s d ∧ oughtV M s d ≤ 5 := fold_lo ok s _ 5 (by omega) (by omega)
def AgainR (M : MemV) (seg card f : Int) (M' : MemV) : Prop :=
  (¬ M.has seg ∧ f = 19 ∧ M' = M) ∨ (∃ k : Nat, seg = k ∧ k < M.lim ∧ 0 < (M.sg k).taken ∧ (card < 0 ∨ 4 ≤ card) ∧ f = 1 ∧ M' = M) ∨
  ∃ k d : Nat, seg = k ∧ k < M.lim ∧ 0 < (M.sg k).taken ∧ card = d ∧ d < 4 ∧ f = 0 ∧ M' = M.put k ((M.sg k).mark d (oughtV M (M.sg k) d))
theorem AgainR.det {M : MemV} {seg card f f2 : Int} {M1 M2 : MemV} (h : AgainR M seg card f M1) (h2 : AgainR M seg card f2 M2) : f = f2 ∧ M1 = M2 := by
  rcases h with ⟨hn, rfl, rfl⟩ | ⟨k, rfl, hk, ht, hc, rfl, rfl⟩ | ⟨k, d, rfl, hk, ht, rfl, hd, rfl, rfl⟩
  · rcases h2 with ⟨_, rfl, rfl⟩ | ⟨k, rfl, hk, ht, _⟩ | ⟨k, d, rfl, hk, ht, _⟩
    · exact ⟨rfl, rfl⟩
    · exact absurd (MemV.has_iff.2 ⟨k, rfl, hk, ht⟩) hn
    · exact absurd (MemV.has_iff.2 ⟨k, rfl, hk, ht⟩) hn
  · rcases h2 with ⟨hn, _⟩ | ⟨_, _, _, _, _, rfl, rfl⟩ | ⟨_, d, _, _, _, e, hd, _⟩
    · exact absurd (MemV.has_iff.2 ⟨k, rfl, hk, ht⟩) hn
    · exact ⟨rfl, rfl⟩
    · omega
  · rcases h2 with ⟨hn, _⟩ | ⟨_, _, _, _, hc, _⟩ | ⟨k', d', e, _, _, e2, _, rfl, rfl⟩
    · exact absurd (MemV.has_iff.2 ⟨k, rfl, hk, ht⟩) hn
    · omega
    · obtain rfl : k = k' := by omega
      obtain rfl : d = d' := by omega
      exact ⟨rfl, rfl⟩
def AgainPost (c s p g : Nat) (S : SpV) (seg card : Int) (w : World) (e : Ending) (w' : World) : Prop :=
  ∃ (M' : MemV) (f : Int), e = .returned (.int .i64 f) ∧ CdAt w' c s p g { S with M := M' } ∧ Keep (MineS s p g) w w' ∧ ({ S with M := M' } : SpV).Ok ∧ M'.count = S.M.count ∧ M'.lim = S.M.lim ∧ AgainR S.M seg card f M'

def WordsPost (c : Nat) (t d : Int) (w : World) (e : Ending) (w' : World) : Prop :=
  ∃ b1 b2 b3 : Nat, e = .returned (.func (.func 94) #[] #[.pointer (some ⟨b1, 0, none⟩), .pointer (some ⟨b2, 0, none⟩), .pointer (some ⟨b3, 0, none⟩)]) ∧ w.heap.size ≤ b1 ∧ w.heap.size ≤ b2 ∧ w.heap.size ≤ b3 ∧
    w'.cell? ⟨b1, 0, none⟩ = some (.pointer (some ⟨c, 0, none⟩)) ∧ w'.cell? ⟨b2, 0, none⟩ = some (.int .i64 t) ∧ w'.cell? ⟨b3, 0, none⟩ = some (.int .i64 d) ∧ Keep (fun _ => False) w w'
theorem words_any (c : Nat) (t d : Int) (w : World) : Calls Try.prog 78 #[.pointer (some ⟨c, 0, none⟩), .int .i64 t, .int .i64 d] w (WordsPost c t d w) := by
  go_enter Try.func78, Try.ntmps78
  go_wp2
  go_ret
  refine ⟨_, _, _, rfl, Nat.le_refl _, Nat.le_succ _, by omega, ?_, ?_, ?_, (((Keep.refl _ _).alloc _).alloc _).alloc _⟩
  · rw [World.cell?_alloc_lt _ _ _ (by simp; omega), World.cell?_alloc_lt _ _ _ (by simp), World.cell?_alloc_new]; rfl
  · rw [World.cell?_alloc_lt _ _ _ (by simp)]
    have := World.cell?_alloc_new (w.alloc (.cells #[.pointer (some ⟨c, 0, none⟩)] 77)) #[.int .i64 t] 3 0
    rw [World.size_alloc] at this
    exact this
  · have := World.cell?_alloc_new ((w.alloc (.cells #[.pointer (some ⟨c, 0, none⟩)] 77)).alloc (.cells #[.int .i64 t] 3)) #[.int .i64 d] 3 0
    rw [World.size_alloc, World.size_alloc] at this
    exact this

theorem keep_of_below {w w' : World} (h : Below w.heap.size w w') : Keep (fun _ => False) w w' := ⟨h.os, h.tape, h.output, h.size, fun k hk _ => h.block k hk⟩
theorem words_stops (n : Nat) (hn : 1 ≤ n) (b1 b2 b3 mb c s p g t d : Nat) (S : SpV) (ok : S.Ok) (ht : t < S.M.lim) (htk : 0 < (S.M.sg t).taken) (hd : d < 4) (w : World)
    (hne : b1 ≠ mb ∧ b2 ≠ mb ∧ b3 ≠ mb ∧ c ≠ mb ∧ s ≠ mb ∧ p ≠ mb ∧ g ≠ mb) (h1 : w.cell? ⟨b1, 0, none⟩ = some (.pointer (some ⟨c, 0, none⟩))) (h2 : w.cell? ⟨b2, 0, none⟩ = some (.int .i64 (t : Int))) (h3 : w.cell? ⟨b3, 0, none⟩ = some (.int .i64 (d : Int))) (h : CdAt w c s p g S) :
    SeqStopsK Fence.wide n Try.prog 94 #[.pointer (some ⟨b1, 0, none⟩), .pointer (some ⟨b2, 0, none⟩), .pointer (some ⟨b3, 0, none⟩)] (fun x : U64 => #[.int .u64 (x.1 : Int)]) (KpM w.heap.size mb) (fun ys => ys = wordsW (S.M.sg t) d) (fun _ => True) (cntW (S.M.sg t) d) w := fun l J Jx W hW hJ _ hY h0 => by
  have l1 := World.block_lt_of_cell? w _ h1
  have l2 := World.block_lt_of_cell? w _ h2
  have l3 := World.block_lt_of_cell? w _ h3
  have K := keep_of_below hW
  exact words1_in n hn l b1 b2 b3 w.heap.size mb c s p g t d S ok ht htk hd J Jx ⟨l1, l2, l3, h.lt, h.sp.lt, h.sp.mem.lt, h.sp.mem.segs.lt⟩ hne hY W hJ
    ((K.cell (p := ⟨b1, 0, none⟩) l1 (by simp)).trans h1) ((K.cell (p := ⟨b2, 0, none⟩) l2 (by simp)).trans h2) ((K.cell (p := ⟨b3, 0, none⟩) l3 (by simp)).trans h3) (h.keep0 K) h0
theorem keepsOthers_of {w w' : World} (K : Keep (fun _ => False) w w') : KeepsOthers w w' := ⟨K.size, fun k o hk _ => K.heap hk (by simp)⟩

set_option maxRecDepth 100000 in
set_option maxHeartbeats 8000000 in
theorem again_yes {w : World} {c s p g : Nat} {S : SpV} (h : CdAt w c s p g S) (ok : S.Ok) (t d : Nat) (ht : t < S.M.lim) (htk : 0 < (S.M.sg t).taken) (hd : d < 4) :
    Calls Try.prog 41 #[.pointer (some ⟨c, 0, none⟩), .int .i64 (t : Int), .int .i64 (d : Int)] w (AgainPost c s p g S t d w) := by
  have l1024 := ok.mem.l1024
  have H := Lib.hid h
  refine (callsIn_wide (n := 5)).1 ?_
  refine callsIn_of_wp_marks Try.func41 rfl trivial ?_ rfl
  refine wpIn_wide.2 ?_
  simp only [Try.ntmps41, List.size_toArray, List.length_cons, List.length_nil, Nat.reduceAdd, Nat.reduceSub, Array.replicate_succ, Array.replicate_zero, List.push_toArray, List.append_toArray, List.nil_append, List.cons_append]
  have K1 : Keep (fun _ => False) w (w.alloc (.cells #[.pointer (some ⟨c, 0, none⟩)] 77)) := (Keep.refl _ _).alloc _
  have h1 := h.keep0 K1
  have c0 := h1.ptr
  have s0 := h1.sp.ptr
  clear h
  go_wp2_with fail
  refine (cnone_no c0 s0).mono ?_
  rintro e w1 ⟨rfl, rfl⟩
  go_wp2_with fail
  refine (seg_yes2 p g S.M t _ _ h1.sp.mem l1024 rfl ht htk).mono ?_
  rintro e w3 ⟨rfl, k3⟩
  go_upto_region 9 with (fail)
  obtain ⟨w5, hw5⟩ : ∃ w5, w5 = (w3.alloc (.cells #[.int .i64 (S.M.sg t).gen, .int .i64 (S.M.sg t).kind, .int .i64 (S.M.sg t).n, .int .i64 (S.M.sg t).c0, .int .i64 (S.M.sg t).c1, .int .i64 (S.M.sg t).c2, .int .i64 (S.M.sg t).c3] 37)).alloc (.cells #[.int .i64 5] 3) := ⟨_, rfl⟩
  have hz3 : w.heap.size < w3.heap.size := by have := k3.size; simp at this; omega
  have k5 : Keep (fun _ => False) w3 w5 := by rw [hw5]; exact ((Keep.refl _ _).alloc _).alloc _
  have B1 : w5.heap[w.heap.size]? = some (.cells #[.pointer (some ⟨c, 0, none⟩)] 77 (0, 0)) := k5.heap (k3.heap (heap_alloc_new w _) (by simp)) (by simp)
  have B2 : SAt w5 w3.heap.size (S.M.sg t) := by
    rw [hw5]
    show ((w3.alloc _).alloc _).heap[w3.heap.size]? = _
    rw [Below.heap_alloc _ _ _ (by simp)]
    exact heap_alloc_new w3 _
  have B3 : w5.heap[w3.heap.size + 1]? = some (.cells #[.int .i64 5] 3 (0, 0)) := by
    rw [hw5]
    have := heap_alloc_new (w3.alloc (.cells #[.int .i64 (S.M.sg t).gen, .int .i64 (S.M.sg t).kind, .int .i64 (S.M.sg t).n, .int .i64 (S.M.sg t).c0, .int .i64 (S.M.sg t).c1, .int .i64 (S.M.sg t).c2, .int .i64 (S.M.sg t).c3] 37)) (.cells #[.int .i64 5] 3)
    rwa [World.size_alloc] at this
  rw [← hw5]
  have K5 : Keep (fun _ => False) w w5 := (K1.trans k3).trans k5
  clear hw5 k5 k3 c0 s0 h1 K1
  obtain ⟨cb, hcb⟩ : ∃ cb, cb = w.heap.size := ⟨_, rfl⟩
  obtain ⟨sb, hsb⟩ : ∃ sb, sb = w3.heap.size := ⟨_, rfl⟩
  obtain ⟨mb, hmb⟩ : ∃ mb, mb = w3.heap.size + 1 := ⟨_, rfl⟩
  rw [← hcb] at B1 hz3 ⊢
  rw [← hsb] at B2 hz3 hmb ⊢
  rw [← hsb] at B3
  rw [← hmb] at B3 ⊢
  have x1 : w5.cell? ⟨cb, 0, none⟩ = some (.pointer (some ⟨c, 0, none⟩)) := by rw [cell_of_row w5 _ _ _ _ _ B1]; rfl
  have Hcb := Lib.hid hcb
  have Hsz := Lib.hid hz3
  have Hmb := Lib.hid hmb
  clear hcb hsb hmb hz3
  go_wp2_with fail
  refine (words_any c t d _).mono ?_
  rintro e w6 ⟨b1, b2, b3, rfl, l1, l2, l3, y1, y2, y3, k6⟩
  have h6 := H.out.keep0 (K5.trans k6)
  have C1 := k6.heap B1 (by simp)
  have C2 : SAt w6 sb (S.M.sg t) := k6.heap B2 (by simp)
  have C3 := k6.heap B3 (by simp)
  have K6 := K5.trans k6
  have lm : mb < w5.heap.size := heap_lt B3
  have lc : w.heap.size ≤ mb ∧ cb ≠ mb ∧ sb ≠ mb := by have := Hcb.out; have := Hsz.out; have := Hmb.out; omega
  have n4 : c ≠ mb ∧ s ≠ mb ∧ p ≠ mb ∧ g ≠ mb := ⟨by have := H.out.lt; omega, by have := H.out.sp.lt; omega, by have := H.out.sp.mem.lt; omega, by have := H.out.sp.mem.segs.lt; omega⟩
  clear x1 B1 B2 B3 K5
  go_wp2_with fail
  refine (wpIn_wide (n := 5)).1 ?_
  refine wpIn_rangeFunc_ownF (F := Fence.wide) (n := 5) rfl (by omega) (gf := 94) (lb := #[.pointer (some ⟨b1, 0, none⟩), .pointer (some ⟨b2, 0, none⟩), .pointer (some ⟨b3, 0, none⟩)]) rfl trivial (Go.Proofs.enters_of Try.func94 (by kernel_rfl) rfl)
    (words_stops 4 (by omega) b1 b2 b3 mb c s p g t d S ok ht htk hd w6 ⟨by omega, by omega, by omega, n4⟩ y1 y2 y3 h6)
    (fun a b => Keep.trans a b) (fun W l o o' hl _ _ _ => (Keep.refl _ W).grown (grownBy_putObj' W l o') (fun k e => by cases e; exact .inl (.inl hl))) (Below.refl _ _) (fun _ => rfl)
    (fun pre W => W.heap[mb]? = some (.cells #[.int .i64 (pre.foldl (fun m u => youngV S.M (S.M.sg t) u.1 m) 5)] 3 (0, 0)) ∧ Keep (fun b => b = mb) w6 W)
    (fun _ _ _ => False)
    (fun q A B row hs hg hr => ⟨(hg.block mb (heap_lt hs.1) (fun e => by have := (hr mb e.symm).1; have := k6.size; omega)).trans hs.1, hs.2.grown hg (fun k e => .inr (hr k e).1)⟩)
    (fun _ _ _ _ _ hs _ _ => hs)
    ⟨C3, Keep.refl _ _⟩ ?a1 ?assign ?body ?done ?stop
  case assign =>
    intro l x W K hK
    gi_wp2
    exact hK
  case stop =>
    rintro D cc pre W _ _ h _
    exact h.elim
  case body =>
    rintro l pre x W ⟨hm, hK⟩ _
    have hW := h6.keep hK n4.1 n4.2.1 n4.2.2.1 n4.2.2.2
    have x1 : W.cell? ⟨cb, 0, none⟩ = some (.pointer (some ⟨c, 0, none⟩)) := by rw [cell_of_row W _ _ _ _ _ (hK.heap C1 (by omega))]; rfl
    have S2 : SAt W sb (S.M.sg t) := hK.heap C2 (by omega)
    obtain ⟨s0, s1, s2, s3, s4, s5, s6⟩ := S2.cells
    obtain ⟨m, hmm⟩ : ∃ m, m = pre.foldl (fun m (u : U64) => youngV S.M (S.M.sg t) u.1 m) 5 := ⟨_, rfl⟩
    rw [← hmm] at hm
    have m1 : W.cell? ⟨mb, 0, none⟩ = some (.int .i64 m) := by rw [cell_of_row W _ _ _ _ _ hm]; rfl
    have Hmm := Lib.hid hmm
    have HM := Lib.hid hm
    have HK := Lib.hid hK
    clear hmm hm hK S2
    gi_wp2_with (refine ⟨trivial, ?_⟩; gi_at_call 79; refine (CallsIn.inRound l (callsIn_wide.2 (younger_any hW ok (S.M.sg t) x.1 _ x.2))).mono ?_; rintro e w7 ⟨rfl, k7⟩; have f7 : w7.frozen? ⟨mb, 0, none⟩ = false := (by simp [World.frozen?, k7.heap HM.out (by simp)]); have m7 : w7.cell? ⟨mb, 0, none⟩ = some (.int .i64 m) := (by rw [cell_of_row w7 _ _ _ _ _ (k7.heap HM.out (by simp))]; rfl))
    refine ⟨(keepsOthers_of k7).trans (KeepsOthers.setCell _ _ _), (k7.mono (fun _ _ h => h.elim)).setCell (p := ⟨mb, 0, none⟩) (.inl (.inr rfl)) _, ?_, (HK.out.trans (k7.mono (fun _ _ h => h.elim))).setCell (p := ⟨mb, 0, none⟩) (.inl rfl) _⟩
    rw [List.foldl_append, ← Hmm.out]
    simp [World.setCell, Array.getElem?_modify, k7.heap HM.out (by simp)]
  case done =>
    rintro D ys W hD rfl ⟨hm, hK⟩ hKd
    have hW := h6.keep hK n4.1 n4.2.1 n4.2.2.1 n4.2.2.2
    have x1 : W.cell? ⟨cb, 0, none⟩ = some (.pointer (some ⟨c, 0, none⟩)) := by rw [cell_of_row W _ _ _ _ _ (hK.heap C1 (by omega))]; rfl
    obtain ⟨m, hmm⟩ : ∃ m, m = oughtV S.M (S.M.sg t) d := ⟨_, rfl⟩
    have hm2 : W.heap[mb]? = some (.cells #[.int .i64 m] 3 (0, 0)) := by rw [hmm]; exact hm
    have m1 : W.cell? ⟨mb, 0, none⟩ = some (.int .i64 m) := by rw [cell_of_row W _ _ _ _ _ hm2]; rfl
    have c0 := hW.ptr
    have s0 := hW.sp.ptr
    have Hmm := Lib.hid hmm
    have HKd := Lib.hid hKd
    have HK := Lib.hid hK
    have HW := Lib.hid hW
    clear hm hm2 hmm hKd hK hW
    go_wp2_with fail
    have hml := oughtV_lo ok.mem (S.M.sg t) d
    rw [← Hmm.out] at hml
    obtain ⟨hm0, hm5⟩ := hml
    have hcm : ¬ Mine p g c := fun e => HW.out.notMine (.inr e)
    have hcbm : ¬ Mine p g cb := by
      have := H.out.sp.mem.lt
      have := H.out.sp.mem.segs.lt
      have := Hcb.out
      rintro (e | e) <;> omega
    have hmbm : ¬ Mine p g mb := by rintro (e | e) <;> omega
    have HALL := Lib.hid (fun (w' : World) (K : Keep (Mine p g) W w') => (show w'.cell? ⟨cb, 0, none⟩ = some (.pointer (some ⟨c, 0, none⟩)) ∧ w'.cell? ⟨c, 0, none⟩ = some (.pointer (some ⟨s, 0, none⟩)) ∧ w'.cell? ⟨s, 0, none⟩ = some (.pointer (some ⟨p, 0, none⟩)) ∧ w'.cell? ⟨mb, 0, none⟩ = some (.int .i64 m) from
      ⟨(K.cell (p := ⟨cb, 0, none⟩) (World.block_lt_of_cell? W _ x1) hcbm).trans x1, (K.cell (p := ⟨c, 0, none⟩) HW.out.lt hcm).trans c0, (K.cell (p := ⟨s, 0, none⟩) HW.out.sp.lt HW.out.sp.notMine).trans s0, (K.cell (p := ⟨mb, 0, none⟩) (World.block_lt_of_cell? W _ m1) hmbm).trans m1⟩))
    have Kd : Keep (Mine p g) W W.drew := (Keep.refl _ _).drew
    go_region_held3 (fun w' => w'.cell? ⟨cb, 0, none⟩ = some (.pointer (some ⟨c, 0, none⟩)) ∧ w'.cell? ⟨c, 0, none⟩ = some (.pointer (some ⟨s, 0, none⟩)) ∧ w'.cell? ⟨s, 0, none⟩ = some (.pointer (some ⟨p, 0, none⟩)) ∧ w'.cell? ⟨mb, 0, none⟩ = some (.int .i64 m))
      (first | exact HALL.out _ Kd | exact HALL.out _ (by assumption))
      ((go_at_call 28; refine (mark_yes p g S.M t d _ _ _ _ ((HW.out.keep0 ((Keep.refl (fun _ => False) W).drew)).sp.mem) l1024 rfl ht htk rfl hd hm0 hm5).mono ?_; rintro e w9 ⟨rfl, m9, k9⟩; have K9 : Keep (Mine p g) W w9 := Kd.trans k9))
    go_wp2_with fail
    have hDm : ¬ Mine p g D := by
      have := H.out.sp.mem.lt
      have := H.out.sp.mem.segs.lt
      have := k6.size
      rintro (e | e) <;> omega
    have hK9 := K9.heap HKd.out hDm
    have h9 : CdAt w9 c s p g { S with M := S.M.put t ((S.M.sg t).mark d m) } := by
      have hd' := HW.out.keep0 ((Keep.refl (fun _ => False) W).drew)
      exact hd'.into k9.mineS (hd'.sp.keepM k9 m9)
    have k10 : Keep (fun b => w.heap.size ≤ b) w9 (w9.putObj D (.deferred none)) := (Keep.refl _ _).grown (grownBy_putObj' w9 D _) (fun k e => by
      cases e
      have := k6.size
      exact .inl (by show w.heap.size ≤ D; omega))
    have okm : (S.M.put t ((S.M.sg t).mark d m)).Ok := ok.mem.put ht ((ok.mem.sg t ht).mark hm0 hm5) rfl htk
    refine ⟨by simp, .inl ⟨_, _, rfl, run_takeDeferred hK9, ?_⟩⟩
    refine ⟨_, results_tmp rfl _ _ _, ?_⟩
    have hcl := H.out.lt
    have hsl := H.out.sp.lt
    have hpl := H.out.sp.mem.lt
    have hgl := H.out.sp.mem.segs.lt
    have h10 := h9.keep k10 (by omega) (by omega) (by omega) (by omega)
    have KF : Keep (MineS s p g) w (w9.putObj D (.deferred none)) := by
      have T : Keep (fun b => MineS s p g b ∨ w.heap.size ≤ b) w (w9.putObj D (.deferred none)) :=
        (((K6.mono (fun _ _ h => h.elim)).trans (HK.out.mono (fun _ _ h => .inr (by rw [h]; exact lc.1)))).trans (K9.mono (fun _ _ h => .inl (.inr h)))).trans (k10.mono (fun _ _ h => .inr h))
      exact T.mono (fun k hk h => h.elim id (fun h => by omega))
    refine ⟨S.M.put t ((S.M.sg t).mark d m), 0, rfl, h10, KF, ok.put (k := t) okm rfl rfl rfl, rfl, rfl, .inr (.inr ⟨t, d, rfl, ht, htk, rfl, hd, rfl, ?_⟩)⟩
    rw [Hmm.out]

set_option maxRecDepth 100000 in
set_option maxHeartbeats 4000000 in
theorem again_any {w : World} {c s p g : Nat} {S : SpV} (h : CdAt w c s p g S) (ok : S.Ok) (seg card : Int) :
    Calls Try.prog 41 #[.pointer (some ⟨c, 0, none⟩), .int .i64 seg, .int .i64 card] w (AgainPost c s p g S seg card w) := by
  have l1024 := ok.mem.l1024
  by_cases hh : S.M.has seg
  · obtain ⟨t, rfl, ht, htk⟩ := MemV.has_iff.1 hh
    by_cases hb : card < 0 ∨ 4 ≤ card
    · have HB := Lib.hid hb
      have Hh := Lib.hid hh
      clear hh hb
      refine (callsIn_wide (n := 5)).1 ?_
      refine callsIn_of_wp_marks Try.func41 rfl trivial ?_ rfl
      refine wpIn_wide.2 ?_
      simp only [Try.ntmps41, List.size_toArray, List.length_cons, List.length_nil, Nat.reduceAdd, Nat.reduceSub, Array.replicate_succ, Array.replicate_zero, List.push_toArray, List.append_toArray, List.nil_append, List.cons_append]
      have K1 : Keep (fun _ => False) w (w.alloc (.cells #[.pointer (some ⟨c, 0, none⟩)] 77)) := (Keep.refl _ _).alloc _
      have h1 := h.keep0 K1
      have c0 := h1.ptr
      have s0 := h1.sp.ptr
      have fin : ∀ w', Keep (fun _ => False) w w' → AgainPost c s p g S t card w (.returned (.int .i64 1)) w' := fun w' K => ⟨S.M, 1, rfl, h.keep0 K, K.mono (fun _ _ h => h.elim), ok, rfl, rfl, .inr (.inl ⟨t, rfl, ht, htk, HB.out, rfl, rfl⟩)⟩
      have FIN := Lib.hid fin
      clear h fin
      by_cases a1 : card < 0
      · go_wp2_with fail
        refine (cnone_no c0 s0).mono ?_
        rintro e w1 ⟨rfl, rfl⟩
        go_wp2_with fail
        refine (seg_yes2 p g S.M t _ _ h1.sp.mem l1024 rfl ht htk).mono ?_
        rintro e w3 ⟨rfl, k3⟩
        go_wp2_with fail
        refine ⟨_, results_tmp rfl _ _ _, ?_⟩
        exact FIN.out _ ((K1.trans k3).alloc (.cells #[.int .i64 (S.M.sg t).gen, .int .i64 (S.M.sg t).kind, .int .i64 (S.M.sg t).n, .int .i64 (S.M.sg t).c0, .int .i64 (S.M.sg t).c1, .int .i64 (S.M.sg t).c2, .int .i64 (S.M.sg t).c3] 37))
      · have a2 : 4 ≤ card := by have := HB.out; omega
        go_wp2_with fail
        refine (cnone_no c0 s0).mono ?_
        rintro e w1 ⟨rfl, rfl⟩
        go_wp2_with fail
        refine (seg_yes2 p g S.M t _ _ h1.sp.mem l1024 rfl ht htk).mono ?_
        rintro e w3 ⟨rfl, k3⟩
        go_wp2_with fail
        refine ⟨_, results_tmp rfl _ _ _, ?_⟩
        exact FIN.out _ ((K1.trans k3).alloc (.cells #[.int .i64 (S.M.sg t).gen, .int .i64 (S.M.sg t).kind, .int .i64 (S.M.sg t).n, .int .i64 (S.M.sg t).c0, .int .i64 (S.M.sg t).c1, .int .i64 (S.M.sg t).c2, .int .i64 (S.M.sg t).c3] 37))
    · obtain ⟨d, rfl⟩ := Int.eq_ofNat_of_zero_le (by omega : 0 ≤ card)
      exact again_yes h ok t d ht htk (by omega)
  · have Hh := Lib.hid hh
    clear hh
    refine (callsIn_wide (n := 5)).1 ?_
    refine callsIn_of_wp_marks Try.func41 rfl trivial ?_ rfl
    refine wpIn_wide.2 ?_
    simp only [Try.ntmps41, List.size_toArray, List.length_cons, List.length_nil, Nat.reduceAdd, Nat.reduceSub, Array.replicate_succ, Array.replicate_zero, List.push_toArray, List.append_toArray, List.nil_append, List.cons_append]
    have K1 : Keep (fun _ => False) w (w.alloc (.cells #[.pointer (some ⟨c, 0, none⟩)] 77)) := (Keep.refl _ _).alloc _
    have h1 := h.keep0 K1
    have c0 := h1.ptr
    have s0 := h1.sp.ptr
    have fin : ∀ w', Keep (fun _ => False) w w' → AgainPost c s p g S seg card w (.returned (.int .i64 19)) w' := fun w' K => ⟨S.M, 19, rfl, h.keep0 K, K.mono (fun _ _ h => h.elim), ok, rfl, rfl, .inl ⟨Hh.out, rfl, rfl⟩⟩
    have FIN := Lib.hid fin
    clear h fin
    go_wp2_with fail
    refine (cnone_no c0 s0).mono ?_
    rintro e w1 ⟨rfl, rfl⟩
    go_wp2_with fail
    refine (seg_no2 p g S.M _ _ h1.sp.mem l1024 ok.mem.t0 Hh.out).mono ?_
    rintro e w3 ⟨rfl, k3⟩
    go_wp2_with fail
    refine ⟨_, results_tmp rfl _ _ _, ?_⟩
    exact FIN.out _ ((K1.trans k3).alloc (.cells #[.int .i64 0, .int .i64 0, .int .i64 0, .int .i64 0, .int .i64 0, .int .i64 0, .int .i64 0] 37))
end Go.Proofs.Ytgnpeciedefeiaa
