/-
  morainelaw09.points and has; the plain law of CardVain.
-/
import Derived.Test.YtgnpeciedefeiaaCdPlayed
import Derived.Laws.StructEq
namespace Go.Proofs.Ytgnpeciedefeiaa
open Go.RowKit

/-- Does a word point to a generation of g or below? -/
def hitU (M : MemV) (g : Int) (u : Nat) : Bool := match genOf M u with | some h => decide (h ≤ g) | none => false
/-- Does one of a card's words? -/
def pointsB (M : MemV) (s : Sg) (d : Nat) (g : Int) : Bool := decide (s.kind ≠ 3) && (wordsW s d).any fun u => hitU M g u.1
theorem pointsB_true {M : MemV} {s : Sg} {d k : Nat} {g : Int} (h3 : s.kind ≠ 3) (hk : k < cntW s d) (hh : hitU M g (wordF s d k).1 = true) : pointsB M s d g = true := by
  unfold pointsB wordsW upto
  rw [Bool.and_eq_true, List.any_eq_true]
  exact ⟨by simpa using h3, _, List.mem_map.2 ⟨k, List.mem_range.2 hk, rfl⟩, hh⟩
theorem pointsB_false {M : MemV} {s : Sg} {d : Nat} {g : Int} (h : s.kind = 3 ∨ ∀ k, k < cntW s d → hitU M g (wordF s d k).1 = false) : pointsB M s d g = false := by
  unfold pointsB
  rcases h with h | h
  · simp [h]
  · have : ((wordsW s d).any fun u => hitU M g u.1) = false := by
      rw [List.any_eq_false]
      intro u hu
      obtain ⟨k, hk, rfl⟩ := List.mem_map.1 hu
      simpa using h k (List.mem_range.1 hk)
    rw [this, Bool.and_false]

def PointsPost (b : Bool) (w : World) (e : Ending) (w' : World) : Prop := e = .returned (.bool b) ∧ Keep (fun _ => False) w w'

set_option maxRecDepth 100000 in
set_option maxHeartbeats 4000000 in
theorem points_any {w : World} {c s p g : Nat} {S : SpV} (h : CdAt w c s p g S) (ok : S.Ok) (t d : Nat) (ht : t < S.M.lim) (htk : 0 < (S.M.sg t).taken) (hd : d < 4) (gg : Int) :
    Calls Try.prog 43 #[.pointer (some ⟨c, 0, none⟩), sgArg (S.M.sg t), .int .i64 (t : Int), .int .i64 (d : Int), .int .i64 gg] w (PointsPost (pointsB S.M (S.M.sg t) d gg) w) := by
  have so := ok.mem.sg t ht
  have n0 := so.n0
  have n64 := so.n64
  have l1024 := ok.mem.l1024
  have hS0 : SAt (w.alloc (.cells #[.int .i64 (S.M.sg t).gen, .int .i64 (S.M.sg t).kind, .int .i64 (S.M.sg t).n, .int .i64 (S.M.sg t).c0, .int .i64 (S.M.sg t).c1, .int .i64 (S.M.sg t).c2, .int .i64 (S.M.sg t).c3] 37)) w.heap.size (S.M.sg t) := heap_alloc_new _ _
  have k0 : Keep (fun _ => False) w (w.alloc (.cells #[.int .i64 (S.M.sg t).gen, .int .i64 (S.M.sg t).kind, .int .i64 (S.M.sg t).n, .int .i64 (S.M.sg t).c0, .int .i64 (S.M.sg t).c1, .int .i64 (S.M.sg t).c2, .int .i64 (S.M.sg t).c3] 37)) := (Keep.refl _ _).alloc _
  have hw0 : ∀ k, 0 ≤ (S.M.sg t).words k ∧ (S.M.sg t).words k ≤ 18446744073709551615 := so.w0
  have HW := Lib.hid hw0
  have HH := Lib.hid h
  have ht1024 : t ≤ 1024 := by omega
  have HS0 := Lib.hid hS0
  clear hw0 so h hS0
  go_enter Try.func43, Try.ntmps43
  go_wp2_with fail
  generalize w.heap.size = xb at HS0 ⊢
  generalize w.alloc (.cells #[.int .i64 (S.M.sg t).gen, .int .i64 (S.M.sg t).kind, .int .i64 (S.M.sg t).n, .int .i64 (S.M.sg t).c0, .int .i64 (S.M.sg t).c1, .int .i64 (S.M.sg t).c2, .int .i64 (S.M.sg t).c3] 37) = w1 at HS0 k0 ⊢
  go_loopw [11] (fun i wr => ∃ k : Nat, k ≤ cntW (S.M.sg t) d ∧ i = .int .i64 ((16 : Int) * d + k) ∧ Keep (fun _ => False) w1 wr ∧ ∀ j, j < k → hitU S.M gg (wordF (S.M.sg t) d j).1 = false) (fun i _ => 80 - (intOf i).toNat)
  case atStart => exact ⟨0, Nat.zero_le _, by simp, Keep.refl _ _, fun j hj => absurd hj (by omega)⟩
  case round =>
    obtain ⟨k, hkc, rfl, K, hlow⟩ := hrel
    have HL := Lib.hid hlow
    clear hlow
    have hS : SAt wr xb (S.M.sg t) := K.heap HS0.out (by simp)
    obtain ⟨x0, x1, x2, x3, x4, x5, x6⟩ := hS.cells
    clear hS
    have hkc' : (k : Int) ≤ 16 ∧ (16 : Int) * d + k ≤ 16 * d + 16 := by unfold cntW at hkc; omega
    obtain ⟨k16, a16⟩ := hkc'
    by_cases h3 : (S.M.sg t).kind = 3
    · have e3 : ((S.M.sg t).kind == 3) = true := by simpa using h3
      have fin : PointsPost (pointsB S.M (S.M.sg t) d gg) w (.returned (.bool false)) wr := ⟨by rw [pointsB_false (.inl h3)], k0.trans K⟩
      have FIN := Lib.hid fin
      clear hkc h3 fin
      by_cases a1 : k = 16
      · subst a1
        go_wp2_with fail
        go_ret
        exact FIN.out
      · have a2 : (16 : Int) * d + k < 16 * d + 16 := by omega
        by_cases a3 : (16 : Int) * d + k < (S.M.sg t).n
        · go_wp2_with fail
          go_ret
          exact FIN.out
        · go_wp2_with fail
          go_ret
          exact FIN.out
    · have e3 : ((S.M.sg t).kind == 3) = false := by simpa using h3
      have H3 := Lib.hid h3
      clear h3
      by_cases hk : k < cntW (S.M.sg t) d
      · have a2 : (16 : Int) * d + k < 16 * d + 16 := by unfold cntW at hk; omega
        have a3 : (16 : Int) * d + k < (S.M.sg t).n := by unfold cntW at hk; omega
        have hr := HH.out.keep0 (k0.trans K)
        have c0 := hr.ptr
        have s0 := hr.sp.ptr
        have hv : (((wordF (S.M.sg t) d k).1 : Nat) : Int) = (S.M.sg t).words (d * 16 + k) := u64_val (HW.out _).1 (HW.out _).2
        have hrd := (read_at p g S.M t (d * 16 + k) ((64 : Int) * (t : Int) + ((16 : Int) * (d : Int) + (k : Int))) wr hr.sp.mem ok.mem (by omega) ht htk (by omega)).mono (R' := fun e w'' => e = .returned (.tuple #[.int .u64 (((wordF (S.M.sg t) d k).1 : Nat) : Int), .int .i64 0]) ∧ wr = w'') (fun e w'' ⟨he, hw⟩ => ⟨by rw [he, hv], hw⟩)
        have HRD := Lib.hid hrd
        have HR := Lib.hid hr
        have HK := Lib.hid hk
        obtain ⟨u, huu⟩ : ∃ u : Nat, u = (wordF (S.M.sg t) d k).1 := ⟨_, rfl⟩
        have hul : u ≤ 18446744073709551615 := by rw [huu]; exact (wordF (S.M.sg t) d k).2
        have HUL := Lib.hid hul
        have HV3 := Lib.hid huu.symm
        rw [← huu] at HRD
        clear hul
        clear hkc hr hv hrd hk huu
        go_wp2_with fail
        refine HRD.out.mono ?_
        rintro e w2 ⟨rfl, rfl⟩
        clear HRD
        go_wp2_with fail
        refine (gen_any HR.out ok u HUL.out).mono ?_
        rintro e w3 ⟨k3, hr3⟩
        have HK3 := Lib.hid (K.trans k3)
        clear k3 K
        rcases hr3 with ⟨z, rfl, hz⟩ | ⟨rfl, hz⟩
        · have hh : hitU S.M gg (wordF (S.M.sg t) d k).1 = decide (z ≤ gg) := by rw [HV3.out]; unfold hitU; rw [hz]
          have HHH := Lib.hid hh
          clear hh hz
          by_cases hzg : z ≤ gg
          · go_wp2_with fail
            go_ret
            exact ⟨by rw [pointsB_true H3.out HK.out (by rw [HHH.out]; simpa using hzg)]; rfl, k0.trans HK3.out⟩
          · have hzg2 : gg < z := by omega
            go_wp2_with fail
            exact ⟨⟨k + 1, HK.out, by go_num, HK3.out, fun j hj => by
              by_cases e : j < k
              · exact HL.out j e
              · obtain rfl : j = k := by omega
                rw [HHH.out]
                simpa using hzg⟩, by simp [intOf]; omega⟩
        · have hh : hitU S.M gg (wordF (S.M.sg t) d k).1 = false := by rw [HV3.out]; unfold hitU; rw [hz]
          have HHH := Lib.hid hh
          clear hh hz
          go_wp2_with fail
          exact ⟨⟨k + 1, HK.out, by go_num, HK3.out, fun j hj => by
            by_cases e : j < k
            · exact HL.out j e
            · obtain rfl : j = k := by omega
              exact HHH.out⟩, by simp [intOf]; omega⟩
      · have hkc2 : k = cntW (S.M.sg t) d := by omega
        have fin : PointsPost (pointsB S.M (S.M.sg t) d gg) w (.returned (.bool false)) wr := ⟨by rw [pointsB_false (.inr (fun j hj => HL.out j (by omega)))], k0.trans K⟩
        have FIN := Lib.hid fin
        have hor : k = 16 ∨ (k < 16 ∧ (S.M.sg t).n ≤ 16 * (d : Int) + k) := by unfold cntW at hkc2; omega
        clear hkc hkc2 fin hk
        rcases hor with rfl | ⟨k15, hn⟩
        · go_wp2_with fail
          go_ret
          exact FIN.out
        · go_wp2_with fail
          go_ret
          exact FIN.out

/-- Two cards' cells, are they the same? -/
theorem eq90_any (x y u v : Int) (w : World) : (binOp .eql 90 (.agg #[.int .i64 x, .int .i64 y]) (.agg #[.int .i64 u, .int .i64 v])).run Try.prog w = .ok (.bool (decide (x = u) && decide (y = v))) w := by
  have hs : Try.prog.stoodInHeld 90 = false := by kernel_rfl
  have hf : Try.prog.underlying 90 = some (.struct (Try.prog.fieldsOf 90)) := by kernel_rfl
  rw [run_eql_struct, run_equalIn_agg w 9999 90 _ _ hf hs]
  simp [Program.fieldsOf, Try.underlying90, go_sem]
  by_cases h1 : x = u <;> by_cases h2 : y = v <;> simp [h1, h2]
set_option maxHeartbeats 1000000 in
theorem has_any (A : Option Addr) (n cap : Nat) (l : List (Nat × Nat)) (x : Nat × Nat) (w : World) (h : CardsAt w A n l) (hn : n ≤ 1000000) :
    Calls Try.prog 44 #[.slice A n cap, .agg #[.int .i64 (x.1 : Int), .int .i64 (x.2 : Int)]] w (PointsPost (decide (x ∈ l)) w) := by
  have k0 : Keep (fun _ => False) w (w.alloc (.cells #[.int .i64 (x.1 : Int), .int .i64 (x.2 : Int)] 90)) := (Keep.refl _ _).alloc _
  have x0 : (w.alloc (.cells #[.int .i64 (x.1 : Int), .int .i64 (x.2 : Int)] 90)).heap[w.heap.size]? = some (.cells #[.int .i64 (x.1 : Int), .int .i64 (x.2 : Int)] 90 (0, 0)) := heap_alloc_new _ _
  have H := Lib.hid (h.keep0 k0)
  have HX := Lib.hid x0
  have hll := h.1
  have HLL := Lib.hid hll
  clear h x0 hll
  go_enter Try.func44, Try.ntmps44
  go_wp2_with fail
  generalize w.heap.size = xb at HX ⊢
  generalize w.alloc (.cells #[.int .i64 (x.1 : Int), .int .i64 (x.2 : Int)] 90) = w1 at H HX k0 ⊢
  go_loopw [5] (fun i wr => ∃ k : Nat, k ≤ n ∧ i = .int .i64 k ∧ Keep (fun _ => False) w1 wr ∧ ∀ j, j < k → l.getD j (0, 0) ≠ x) (fun i _ => n - (intOf i).toNat)
  case atStart => exact ⟨0, Nat.zero_le _, rfl, Keep.refl _ _, fun j hj => absurd hj (by omega)⟩
  case round =>
    obtain ⟨k, hk, rfl, K, hlow⟩ := hrel
    have HL := Lib.hid hlow
    clear hlow
    by_cases hlt : k < n
    · obtain ⟨b, off, rfl, hb, y0, y1⟩ := (H.out.keep0 K).2 k hlt
      have x0 : wr.cell? ⟨xb, 0, none⟩ = some (.int .i64 (x.1 : Int)) := by rw [cell_of_row wr _ _ _ _ _ (K.heap HX.out (by simp))]; rfl
      have x1 : wr.cell? ⟨xb, 1, none⟩ = some (.int .i64 (x.2 : Int)) := by rw [cell_of_row wr _ _ _ _ _ (K.heap HX.out (by simp))]; rfl
      have hin : l.getD k (0, 0) ∈ l := by
        rw [List.getD_eq_getElem?_getD, List.getElem?_eq_getElem (by rw [HLL.out]; exact hlt)]
        exact List.getElem_mem _
      have HI := Lib.hid hin
      obtain ⟨y, hy⟩ : ∃ y, y = l.getD k (0, 0) := ⟨_, rfl⟩
      rw [← hy] at y0 y1
      have HY := Lib.hid hy
      have heq := fun w' => eq90_any (y.1 : Int) (y.2 : Int) (x.1 : Int) (x.2 : Int) w'
      clear hy hin
      by_cases hxy : y = x
      · have hd : (decide ((y.1 : Int) = (x.1 : Int)) && decide ((y.2 : Int) = (x.2 : Int))) = true := by rw [hxy]; simp
        rw [hd] at heq
        have HXY := Lib.hid hxy
        clear hxy hd
        go_wp2_with fail
        go_quiet (fail)
        go_wp2_with fail
        go_ret
        refine ⟨?_, k0.trans (K.drewN _)⟩
        have : x ∈ l := by rw [← HXY.out, HY.out]; exact HI.out
        simp [this]
      · have hd : (decide ((y.1 : Int) = (x.1 : Int)) && decide ((y.2 : Int) = (x.2 : Int))) = false := by
          rw [Bool.and_eq_false_iff, decide_eq_false_iff_not, decide_eq_false_iff_not]
          rcases y with ⟨a, b⟩
          rcases x with ⟨c, d⟩
          simp only [Prod.mk.injEq, not_and] at hxy
          by_cases e : a = c
          · exact .inr (by have := hxy e; simp only; omega)
          · exact .inl (by simp only; omega)
        rw [hd] at heq
        have HXY := Lib.hid hxy
        clear hxy hd
        go_wp2_with fail
        go_quiet (fail)
        go_wp2_with fail
        exact ⟨⟨k + 1, by omega, by go_num, K.drewN _, fun j hj => by
          by_cases e : j < k
          · exact HL.out j e
          · obtain rfl : j = k := by omega
            rw [← HY.out]
            exact HXY.out⟩, by simp [intOf]; omega⟩
    · obtain rfl : k = n := by omega
      have hno : ¬ x ∈ l := by
        intro hm
        obtain ⟨j, hj, e⟩ := List.getElem_of_mem hm
        have := HL.out j (by rw [← HLL.out]; exact hj)
        rw [List.getD_eq_getElem?_getD, List.getElem?_eq_getElem hj] at this
        exact this e
      have HNO := Lib.hid hno
      clear hno
      go_wp2_with fail
      go_ret
      refine ⟨?_, k0.trans K⟩
      have := HNO.out
      simp [this]
end Go.Proofs.Ytgnpeciedefeiaa

namespace Go.Proofs.Ytgnpeciedefeiaa
open Go.RowKit

/-- Alike but for the marks. -/
structure LikeM (M N : MemV) : Prop where
  lim : N.lim = M.lim
  gen : ∀ t, (N.sg t).gen = (M.sg t).gen
  kind : ∀ t, (N.sg t).kind = (M.sg t).kind
  n : ∀ t, (N.sg t).n = (M.sg t).n
  taken : ∀ t, (N.sg t).taken = (M.sg t).taken
  words : ∀ t, (N.sg t).words = (M.sg t).words
theorem LikeM.refl (M : MemV) : LikeM M M := ⟨rfl, fun _ => rfl, fun _ => rfl, fun _ => rfl, fun _ => rfl, fun _ => rfl⟩
theorem LikeM.mark {M N : MemV} (h : LikeM M N) (t d : Nat) (m : Int) : LikeM M (N.put t ((N.sg t).mark d m)) := by
  refine ⟨h.lim, fun i => ?_, fun i => ?_, fun i => ?_, fun i => ?_, fun i => ?_⟩
  all_goals
    by_cases e : i = t
    · subst e
      rw [put_sg]
      first | exact h.gen _ | exact h.kind _ | exact h.n _ | exact h.taken _ | exact h.words _
    · simp only [MemV.put, if_neg e]
      first | exact h.gen _ | exact h.kind _ | exact h.n _ | exact h.taken _ | exact h.words _
theorem LikeM.genOf {M N : MemV} (h : LikeM M N) (u : Nat) : genOf N u = genOf M u := by
  unfold Go.Proofs.Ytgnpeciedefeiaa.genOf MemV.hasN
  rw [h.lim, h.taken, h.gen]
theorem LikeM.wordsW {M N : MemV} (h : LikeM M N) (t d : Nat) : wordsW (N.sg t) d = wordsW (M.sg t) d := by
  unfold Go.Proofs.Ytgnpeciedefeiaa.wordsW cntW
  have : wordF (N.sg t) d = wordF (M.sg t) d := by funext i; unfold wordF; rw [h.words]
  rw [this, h.n]
theorem LikeM.young {M N : MemV} (h : LikeM M N) (t : Nat) (u : Nat) (m : Int) : youngV N (N.sg t) u m = youngV M (M.sg t) u m := by
  unfold youngV
  rw [h.genOf, h.kind, h.gen]
theorem LikeM.ought {M N : MemV} (h : LikeM M N) (t d : Nat) : oughtV N (N.sg t) d = oughtV M (M.sg t) d := by
  unfold oughtV
  rw [h.wordsW]
  congr 1
  funext m u
  exact h.young t u.1 m
theorem LikeM.hit {M N : MemV} (h : LikeM M N) (g : Int) (u : Nat) : hitU N g u = hitU M g u := by unfold hitU; rw [h.genOf]
theorem LikeM.points {M N : MemV} (h : LikeM M N) (t d : Nat) (g : Int) : pointsB N (N.sg t) d g = pointsB M (M.sg t) d g := by
  unfold pointsB
  rw [h.wordsW, h.kind]
  congr 2
  funext u
  exact h.hit g u.1

theorem fold_le {M : MemV} (s : Sg) (g : Int) (hg : g < s.gen) (h3 : s.kind ≠ 3) : ∀ (l : List U64) (m : Int), l.foldl (fun m u => youngV M s u.1 m) m ≤ g ↔ (m ≤ g ∨ l.any (fun u => hitU M g u.1) = true)
  | [], m => by simp
  | u :: l, m => by
    rw [List.foldl_cons, fold_le s g hg h3 l, List.any_cons, Bool.or_eq_true]
    have key : youngV M s u.1 m ≤ g ↔ (m ≤ g ∨ hitU M g u.1 = true) := by
      unfold youngV hitU
      cases hz : genOf M u.1 with
      | none => simp
      | some z =>
        simp only [decide_eq_true_eq]
        by_cases hc : s.kind ≠ 3 ∧ z < s.gen
        · rw [if_pos hc]; omega
        · rw [if_neg hc]
          have : ¬ z < s.gen := fun e => hc ⟨h3, e⟩
          omega
    rw [key, or_assoc]
theorem fold_data {M : MemV} (s : Sg) (h3 : s.kind = 3) : ∀ (l : List U64) (m : Int), l.foldl (fun m u => youngV M s u.1 m) m = m
  | [], _ => rfl
  | u :: l, m => by
    rw [List.foldl_cons, fold_data s h3 l]
    unfold youngV
    cases genOf M u.1 with
    | none => rfl
    | some z => exact if_neg (fun h => h.1 h3)
/-- Where a mark is what it ought to be, dirty is that a word points so low. -/
theorem dirty_points {M : MemV} {t d : Nat} {g : Int} (h : (M.sg t).card d = oughtV M (M.sg t) d) (hg : g ≤ 4) : dirtyB M g t d = (decide (g < (M.sg t).gen) && pointsB M (M.sg t) d g) := by
  unfold dirtyB
  by_cases hlt : g < (M.sg t).gen
  · congr 1
    rw [h]
    unfold oughtV pointsB
    by_cases h3 : (M.sg t).kind = 3
    · rw [fold_data _ h3, decide_eq_false (by omega)]
      simp [h3]
    · rw [Bool.eq_iff_iff, decide_eq_true_eq, fold_le _ g hlt h3]
      simp only [Bool.and_eq_true, decide_eq_true_eq]
      constructor
      · rintro (h | h)
        · omega
        · exact ⟨h3, h⟩
      · rintro ⟨_, h⟩
        exact .inr h
  · rw [decide_eq_false hlt]; rfl
theorem mem_dirtyL {M : MemV} {g : Int} {L : List Nat} {t d : Nat} : (t, d) ∈ dirtyL M g L ↔ t ∈ L ∧ d < 4 ∧ dirtyB M g t d = true := by
  unfold dirtyL dirtyS
  simp only [List.mem_flatMap, List.mem_map, List.mem_filter, List.mem_range, Prod.mk.injEq]
  constructor
  · rintro ⟨a, ha, b, ⟨hb, hd⟩, rfl, rfl⟩
    exact ⟨ha, hb, hd⟩
  · rintro ⟨ha, hb, hd⟩
    exact ⟨t, ha, d, ⟨hb, hd⟩, rfl, rfl⟩

/-- The first cards are marked as they ought to be. -/
def Marked (M0 M : MemV) (L : List Nat) (i k : Nat) : Prop :=
  LikeM M0 M ∧ ∀ t d, d < 4 → (t ∈ L.take i ∨ (t = L.getD i 0 ∧ d < k)) → (M.sg t).card d = oughtV M0 (M0.sg t) d
theorem Marked.step {M0 M : MemV} {L : List Nat} {i k : Nat} (h : Marked M0 M L i k) (hk : k < 4) {t : Nat} (ht : t = L.getD i 0) : Marked M0 (M.put t ((M.sg t).mark k (oughtV M (M.sg t) k))) L i (k + 1) := by
  refine ⟨h.1.mark t k _, fun t' d hd ho => ?_⟩
  by_cases e : t' = t
  · subst e
    rw [put_sg]
    by_cases ed : d = k
    · subst ed
      rw [mark_self _ _ _ hd]
      exact h.1.ought _ _
    · rw [mark_other _ _ _ _ hk hd ed]
      exact h.2 _ d hd (ho.imp id (fun ⟨a, b⟩ => ⟨a, by omega⟩))
  · have : ((M.put t ((M.sg t).mark k (oughtV M (M.sg t) k))).sg t') = M.sg t' := by simp only [MemV.put, if_neg e]
    rw [this]
    refine h.2 _ d hd (ho.imp id (fun ⟨a, _⟩ => absurd (a.trans ht.symm) e))
theorem Marked.next {M0 M : MemV} {L : List Nat} {i : Nat} (h : Marked M0 M L i 4) (hi : i < L.length) : Marked M0 M L (i + 1) 0 := by
  refine ⟨h.1, fun t d hd ho => h.2 t d hd ?_⟩
  rcases ho with ho | ⟨_, ho⟩
  · rw [List.take_succ_eq_append_getElem hi, List.mem_append] at ho
    rcases ho with ho | ho
    · exact .inl ho
    · refine .inr ⟨?_, hd⟩
      rw [List.getD_eq_getElem?_getD, List.getElem?_eq_getElem hi]
      simpa using ho
  · omega
end Go.Proofs.Ytgnpeciedefeiaa
