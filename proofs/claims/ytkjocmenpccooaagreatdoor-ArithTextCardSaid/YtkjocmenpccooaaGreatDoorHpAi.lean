/-
  The laws' run: data built, a primitive applied, its answer a datum again.
-/
import Derived.Test.YtkjocmenpccooaaGreatDoorHpAh
namespace Go.Proofs.YtkjocmenpccooaaGreatDoor
open Go.RowKit

theorem LimbsAt.off6 {w : World} {B : Nat} {k k2 : Int} {q : Bool} {A A' A2 : Option Addr} {n c n' c' n2 c2 : Nat} {t : ByteArray} {l : List Nat} (h : LimbsAt w A n c l) (hb : w.heap[B]? = some (.cells #[.int .i64 k, .int .i32 k2, .bool q, .slice A' n' c', .string t, .slice A2 n2 c2] 27 (0, 0))) (y0 y1 y2 y3 y4 y5 : Value) : LimbsAt (sixSet w B y0 y1 y2 y3 y4 y5) A n c l := by
  refine ⟨h.row.keep (six_self w B y0 y1 y2 y3 y4 y5) (fun hn b off e hbb => ?_), h.low, h.cap, h.max⟩
  obtain ⟨b', off', e', _, hc⟩ := h.row.2 0 hn
  rw [e] at e'
  injection e' with e'
  injection e' with e1 e2
  subst e1 e2
  have hbb' : b = B := hbb
  subst hbb'
  rw [cell_of_row _ _ _ _ _ _ hb] at hc
  match off, hc with
  | 0, hc => simp at hc
  | 1, hc => simp at hc
  | 2, hc => simp at hc
  | 3, hc => simp at hc
  | 4, hc => simp at hc
  | 5, hc => simp at hc
  | k + 6, hc => simp at hc
/-- A row of numbers' data. -/
def ArgsR (w : World) (A : Option Addr) (xs : List Int) : Prop :=
  ∀ i (h : i < xs.length), ∃ b off A' n' c', A = some ⟨b, off, none⟩ ∧ b < w.heap.size ∧ w.cell? ⟨b, off + i * 6, none⟩ = some (.int .i64 4) ∧ w.cell? ⟨b, off + i * 6 + 1, none⟩ = some (.int .i32 0) ∧ w.cell? ⟨b, off + i * 6 + 2, none⟩ = some (.bool (decide (xs[i] < 0))) ∧ w.cell? ⟨b, off + i * 6 + 3, none⟩ = some (.slice A' n' c') ∧ w.cell? ⟨b, off + i * 6 + 4, none⟩ = some (.string ⟨#[]⟩) ∧ w.cell? ⟨b, off + i * 6 + 5, none⟩ = some (.slice none 0 0) ∧ LimbsAt w A' n' c' (limbs (xs[i]).natAbs) ∧ Fits xs[i]
theorem mayB_limbs (x : Int) (hf : Fits x) : mayB (decide (x < 0)) (limbs x.natAbs) = true := by
  unfold mayB
  rw [sval_limbs]
  refine decide_eq_true ⟨hf, rfl, ?_⟩
  rw [show lval (limbs x.natAbs) = x.natAbs from val_digs BB2 _]
/-- What run hands back. -/
def RunPost (kd er v : Int) (w : World) (e : Ending) (w' : World) : Prop :=
  Keep (fun _ => False) w w' ∧ ∃ q A n c, e = .returned (.tuple #[datV kd q A n c ⟨#[]⟩, .int .i64 er]) ∧ (kd = 4 → q = decide (v < 0) ∧ LimbsAt w' A n c (limbs v.natAbs) ∧ Fits v)
def RunEnd (kd er v : Int) (w : World) (e : Ending) (w' : World) : Prop := if er = 0 then RunPost kd 0 v w e w' else RunPost 0 er 0 w e w'
/-- What a primitive leaves for run. -/
def PrimPost (h : Nat) (kd er v : Int) (w : World) (e : Ending) (w2 : World) : Prop :=
  Keep (fun _ => False) w w2 ∧ ∃ u : Int, e = .returned (.tuple #[.int .u64 u, .int .i64 er]) ∧ (er = 0 → Calls Tryz.prog 19 #[.pointer (some ⟨h, 0, none⟩), .int .u64 u] w2 (RunPost kd 0 v w2))
/-- An argument, and what its word stands for. -/
def ItmC (w : World) (A : Option Addr) (i : Nat) (D : MemV → Nat → Prop) : Prop :=
  ∃ b off x0 x1 x2 x3 x4 x5, A = some ⟨b, off, none⟩ ∧ b < w.heap.size ∧ w.cell? ⟨b, off + i * 6, none⟩ = some x0 ∧ w.cell? ⟨b, off + i * 6 + 1, none⟩ = some x1 ∧ w.cell? ⟨b, off + i * 6 + 2, none⟩ = some x2 ∧ w.cell? ⟨b, off + i * 6 + 3, none⟩ = some x3 ∧ w.cell? ⟨b, off + i * 6 + 4, none⟩ = some x4 ∧ w.cell? ⟨b, off + i * 6 + 5, none⟩ = some x5 ∧
    ∀ (wr : World) (h c s p g : Nat) (S : SpV), Keep (fun _ => False) w wr → HpAt wr h c s p g S → 0 < S.M.free → S.M.count < 1000 → Calls Tryz.prog 17 #[.pointer (some ⟨h, 0, none⟩), .agg #[x0, x1, x2, x3, x4, x5]] wr (LaidPost h c s p g S D wr)
/-- While the arguments are built: w1 is the world behind obj.New. -/
structure RunSt (w w1 : World) (h c s p g : Nat) (D : Nat → MemV → Nat → Prop) (i : Nat) (S : SpV) (us : List Nat) (R : Option Addr) (rc : Nat) (wr : World) : Prop where
  K : Keep (MineS s p g) w1 wr
  K0 : Keep (fun _ => False) w wr
  len : us.length = i
  own : OwnR 48 .u64 wr w1.heap.size R i rc us
  hp : HpAt wr h c s p g S
  d : ∀ j, j < i → D j S.M (us.getD j 0)
  fr : 90 ≤ S.M.free + i
  ct : S.M.count ≤ 100 + i
set_option maxRecDepth 100000 in
set_option maxHeartbeats 8000000 in
theorem run_gen (w : World) (k : Int) (A : Option Addr) (n cp : Nat) (D : Nat → MemV → Nat → Prop) (hD : ∀ j M M' u, D j M u → Ext M M' → D j M' u) (hA : ∀ i, i < n → ItmC w A i (D i)) (hn : n ≤ 10) (kd er v : Int)
    (HP : ∀ (w0 w1 : World) (h c s p g : Nat) (S : SpV) (R : Option Addr) (rc : Nat) (us : List Nat), w0.heap.size ≤ h → w0.heap.size ≤ c → w0.heap.size ≤ s → w0.heap.size ≤ p → w0.heap.size ≤ g → HpAt w1 h c s p g S → RowAt .u64 w1 R n us → (∀ j, j < n → D j S.M (us.getD j 0)) → 0 < S.M.free → S.M.count < 1000 → Keep (fun _ => False) w0 w1 →
      Calls Tryz.prog 18 #[.pointer (some ⟨h, 0, none⟩), .int .i64 k, .slice R n rc] w1 (PrimPost h kd er v w0)) :
    Calls Tryz.prog 9 #[.int .i64 k, .slice A n cp] w (RunEnd kd er v w) := by
  obtain ⟨i48, h48, u0, u1, u2⟩ := info_parts info48
  have hb := heap_alloc_new w (datC 0 false none 0 0 ⟨#[]⟩)
  have K0 : Keep (fun _ => False) w (w.alloc (datC 0 false none 0 0 ⟨#[]⟩)) := (Keep.refl _ _).alloc _
  have HN := Lib.hid (hnew_any (w.alloc (datC 0 false none 0 0 ⟨#[]⟩)))
  have HB := Lib.hid hb
  have HK0 := Lib.hid K0
  have HS0 := Lib.hid (World.size_alloc w (datC 0 false none 0 0 ⟨#[]⟩))
  have HDX := Lib.hid hD
  have HAR := Lib.hid hA
  have HPP := Lib.hid HP
  have hn' := hn
  clear hb K0 hA HP hn hD
  go_enter Tryz.func9, Tryz.ntmps9
  go_wp2_with fail
  refine HN.out.mono ?_
  rintro e w1 ⟨h, c, s, p, g, rfl, lh, lc, ls, lp, lg, hp, k1⟩
  have HLE := Lib.hid (And.intro lh (And.intro lc (And.intro ls (And.intro lp lg))))
  have HH := Lib.hid hp
  have HK1 := Lib.hid k1
  have HB1 := Lib.hid (k1.heap HB.out id)
  clear lh lc ls lp lg hp k1
  obtain ⟨w0, hw0⟩ : ∃ w0, w0 = w.alloc (datC 0 false none 0 0 ⟨#[]⟩) := ⟨_, rfl⟩
  rw [← hw0] at HK0 HS0 HB HK1 HLE
  clear hw0 HN
  go_wp2_with fail
  go_loopw [8, 9] (fun lv iv wr => ∃ (i : Nat) (S : SpV) (us : List Nat) (R : Option Addr) (rc : Nat), i ≤ n ∧ lv = .slice R i rc ∧ iv = .int .i64 (i : Int) ∧ RunSt w0 w1 h c s p g D i S us R rc wr) (fun _ iv _ => n - (intOf iv).toNat)
  case atStart => exact ⟨0, _, [], none, 0, Nat.zero_le _, rfl, rfl, Keep.refl _ _, HK1.out, rfl, ⟨rfl, .inl ⟨rfl, rfl⟩⟩, HH.out, fun j hj => absurd hj (Nat.not_lt_zero _), by decide, by decide⟩
  case round =>
    obtain ⟨i, S, us, R, rc, hi, rfl, rfl, hst⟩ := hrel
    have HS := Lib.hid hst
    clear hst
    by_cases h4 : i < n
    · have l1 : decide ((i : Int) < (n : Int)) = true := decide_eq_true (by omega)
      have l2 : decide (i < n) = true := decide_eq_true h4
      obtain ⟨b, off, x0, x1, x2, x3, x4, x5, hAe, hbl, d0, d1, d2, d3, d4, d5, hit⟩ := HAR.out i h4
      have KW := HK0.out.trans HS.out.K0
      subst hAe
      replace d0 := (KW.cell (p := ⟨b, off + i * 6, none⟩) hbl id).trans d0
      replace d1 := (KW.cell (p := ⟨b, off + i * 6 + 1, none⟩) hbl id).trans d1
      replace d2 := (KW.cell (p := ⟨b, off + i * 6 + 2, none⟩) hbl id).trans d2
      replace d3 := (KW.cell (p := ⟨b, off + i * 6 + 3, none⟩) hbl id).trans d3
      replace d4 := (KW.cell (p := ⟨b, off + i * 6 + 4, none⟩) hbl id).trans d4
      replace d5 := (KW.cell (p := ⟨b, off + i * 6 + 5, none⟩) hbl id).trans d5
      have HC := Lib.hid (hit wr h c s p g S KW HS.out.hp (by have := HS.out.fr; omega) (by have := HS.out.ct; omega))
      clear hit hbl KW
      go_wp2_with fail
      refine HC.out.mono ?_
      rintro e w3 ⟨S', u, rfl, hp', k3, hd, hext, h8, h9⟩
      have HP3 := Lib.hid hp'
      have HK3 := Lib.hid k3
      have HD3 := Lib.hid (And.intro hd (And.intro hext (And.intro h8 h9)))
      have HO3 := Lib.hid (HS.out.own.keep k3 (fun b off e => mine_old HH.out (HS.out.own.fresh b off e).1))
      have HROW := Lib.hid (ho1 (u := u) HO3.out)
      have HSZ := Lib.hid (show w1.heap.size ≤ (w3.alloc (.cells #[.int .u64 (u : Int)] 48)).heap.size from Nat.le_trans (HS.out.K.trans k3).size (by simp))
      clear hp' k3 hd hext h8 h9 d0 d1 d2 d3 d4 d5
      go_wp2_with (at_builtin; refine wpList_append_own _ rfl (.tmp 43) (.tmp 45) 46 rfl w1.heap.size 48 i48 (.int .u64 0) 1 8 Tryz.underlying46 h48 u0 u1 u2 rfl (by decide) _ _ _ rfl HROW.out ⟨w3.heap.size, 0, none⟩ 1 1 [.int .u64 u] rfl rfl (one_new w3 48 _) ?a1 ?a2 ?a3 HSZ.out ?_)
      case a1 =>
        intro y hy
        simp only [List.mem_cons, List.not_mem_nil, or_false] at hy
        subst hy
        rfl
      case a2 => unfold maxLen; omega
      case a3 => omega
      intro v' w5 hown hgrow _
      have hown2 : w5.ownsRow w1.heap.size 48 1 v' (i + 1) ((us ++ [u]).map fun x : Nat => Value.int .u64 (x : Int)) := by rw [List.map_append]; exact hown
      obtain ⟨R5, rc5, rfl, own⟩ := own_slice hown2
      have KG : Keep (MineS s p g) w1 w5 := ((HS.out.K.trans HK3.out).alloc (.cells #[.int .u64 (u : Int)] 48)).grown hgrow (fun k hk => .inr (World.ownsRow.lt HO3.out k hk).1)
      have KE : Keep (fun k => w1.heap.size ≤ k) w3 w5 := ((Keep.refl _ _).alloc (.cells #[.int .u64 (u : Int)] 48)).grown hgrow (fun k hk => .inl (World.ownsRow.lt HO3.out k hk).1)
      have HST := Lib.hid (show RunSt w0 w1 h c s p g D (i + 1) S' (us ++ [u]) R5 rc5 w5 from by
        have hlt := HH.out.lts
        refine ⟨KG, ?_, by rw [List.length_append, HS.out.len]; rfl, own, HP3.out.keep KE (by omega) (by omega) (by omega) (by omega) (by omega), ?_, ?_, ?_⟩
        · refine HK1.out.intoS KG ?_
          have hl := HLE.out
          rintro b (e | e | e) <;> omega
        · intro j hj
          rcases Nat.lt_or_ge j i with hji | hji
          · have := HDX.out j _ _ _ (HS.out.d j hji) HD3.out.2.1
            rwa [show (us ++ [u]).getD j 0 = us.getD j 0 from by
              rw [List.getD_eq_getElem?_getD, List.getD_eq_getElem?_getD, List.getElem?_append_left (by rw [HS.out.len]; exact hji)]]
          · obtain rfl : j = i := by omega
            rw [show (us ++ [u]).getD j 0 = u from by
              rw [List.getD_eq_getElem?_getD, List.getElem?_append_right (by rw [HS.out.len]; exact Nat.le_refl _), HS.out.len, Nat.sub_self]; rfl]
            exact HD3.out.1
        · have := HS.out.fr; have := HD3.out.2.2.1; omega
        · have := HS.out.ct; have := HD3.out.2.2.2; omega)
      clear hown hgrow hown2 own KG KE
      go_wp2_with fail
      go_roundw
      case rel => exact ⟨i + 1, S', us ++ [u], R5, rc5, h4, rfl, by go_num, HST.out⟩
      case measure => simp only [intOf]; omega
    · have hie : i = n := by omega
      subst hie
      have l1 : decide ((i : Int) < (i : Int)) = false := decide_eq_false (by omega)
      have HAP := Lib.hid (HPP.out w0 wr h c s p g S R rc us HLE.out.1 HLE.out.2.1 HLE.out.2.2.1 HLE.out.2.2.2.1 HLE.out.2.2.2.2 HS.out.hp HS.out.own.row HS.out.d (by have := HS.out.fr; omega) (by have := HS.out.ct; omega) HS.out.K0)
      go_wp2_with fail
      refine HAP.out.mono ?_
      rintro e w6 ⟨k6, u, rfl, hdat⟩
      have HK6 := Lib.hid k6
      have HDT := Lib.hid hdat
      have hb6 := k6.heap HB.out id
      obtain ⟨⟨e0, e1, e2, e3, e4, e5⟩, f0, f1, f2, f3, f4, f5⟩ := six_cells hb6
      clear hdat k6
      by_cases he : er = 0
      · have HD2 := Lib.hid (HDT.out he)
        subst he
        clear e0 e1 e2 e3 e4 e5 f0 f1 f2 f3 f4 f5 hb6
        go_wp2_with fail
        refine HD2.out.mono ?_
        rintro e w7 ⟨k7, q, A7, n7, c7, rfl, hv⟩
        have hb7 := bx_old (k7.heap (HK6.out.heap HB.out id) id) (datC kd q A7 n7 c7 ⟨#[]⟩)
        have hbn := heap_alloc_new w7 (datC kd q A7 n7 c7 ⟨#[]⟩)
        have HK7 := Lib.hid (((HK0.out.trans HK6.out).trans k7).alloc (datC kd q A7 n7 c7 ⟨#[]⟩))
        have HV := Lib.hid hv
        have HB7 := Lib.hid hb7
        obtain ⟨⟨d0, d1, d2, d3, d4, d5⟩, _⟩ := six_cells hbn
        obtain ⟨⟨e0, e1, e2, e3, e4, e5⟩, f0, f1, f2, f3, f4, f5⟩ := six_cells hb7
        have HCC := Lib.hid (six_cells (six_row hb7 (.int .i64 kd) (.int .i32 0) (.bool q) (.slice A7 n7 c7) (.string ⟨#[]⟩) (.slice none 0 0))).1
        clear k7 hv hb7 hbn
        go_wp2_with fail
        refine bodyPost_ret (v := .tuple #[datV kd q A7 n7 c7 ⟨#[]⟩, .int .i64 0]) ?_ rfl ?_
        · obtain ⟨e0, e1, e2, e3, e4, e5⟩ := HCC.out
          simp [results, Tryz.results9, go_sem, e0, e1, e2, e3, e4, e5]
        · unfold RunEnd
          rw [if_pos rfl]
          refine ⟨six_keep HK7.out (Nat.le_refl _) _ _ _ _ _ _, q, A7, n7, c7, rfl, fun h4 => ?_⟩
          obtain ⟨v1, v2, v3⟩ := HV.out h4
          exact ⟨v1, (v2.keep0 ((Keep.refl _ _).alloc _)).off6 HB7.out _ _ _ _ _ _, v3⟩
      · have l3 : (er == 0) = false := by simpa using he
        have l4 : (er != 0) = true := by simpa using he
        have HE := Lib.hid he
        have HCC := Lib.hid (six_cells (six_row hb6 (.int .i64 0) (.int .i32 0) (.bool false) (.slice none 0 0) (.string ⟨#[]⟩) (.slice none 0 0))).1
        clear he hb6
        go_wp2_with fail
        refine bodyPost_ret (v := .tuple #[datV 0 false none 0 0 ⟨#[]⟩, .int .i64 er]) ?_ rfl ?_
        · obtain ⟨e0, e1, e2, e3, e4, e5⟩ := HCC.out
          simp [results, Tryz.results9, go_sem, e0, e1, e2, e3, e4, e5]
        · unfold RunEnd
          rw [if_neg HE.out]
          exact ⟨six_keep (HK0.out.trans HK6.out) (Nat.le_refl _) _ _ _ _ _ _, false, none, 0, 0, rfl, fun h4 => absurd h4 (by decide)⟩
theorem ArgsR.item {w : World} {A : Option Addr} {xs : List Int} (h : ArgsR w A xs) (i : Nat) (hi : i < xs.length) : ItmC w A i (fun M u => DenH M u (xs.getD i 0)) := by
  obtain ⟨b, off, A5, n5, c5, hAe, hbl, d0, d1, d2, d3, d4, d5, hl, hf⟩ := h i hi
  refine ⟨b, off, _, _, _, _, _, _, hAe, hbl, d0, d1, d2, d3, d4, d5, fun wr h c s p g S K H hfr hct => ?_⟩
  have := heap_int H _ A5 n5 c5 _ (hl.keep0 K) (mayB_limbs _ hf) hfr hct
  rw [sval_limbs] at this
  rwa [List.getD_eq_getElem?_getD, List.getElem?_eq_getElem hi]
theorem run_any (w : World) (k : Int) (A : Option Addr) (n cp : Nat) (xs : List Int) (hxs : xs.length = n) (hA : ArgsR w A xs) (hn : n ≤ 10) (kd er v : Int)
    (HP : ∀ (w0 w1 : World) (h c s p g : Nat) (S : SpV) (R : Option Addr) (rc : Nat) (us : List Nat), w0.heap.size ≤ h → w0.heap.size ≤ c → w0.heap.size ≤ s → w0.heap.size ≤ p → w0.heap.size ≤ g → HpAt w1 h c s p g S → RowAt .u64 w1 R n us → (∀ j, j < n → DenH S.M (us.getD j 0) (xs.getD j 0)) → 0 < S.M.free → S.M.count < 1000 → Keep (fun _ => False) w0 w1 →
      Calls Tryz.prog 18 #[.pointer (some ⟨h, 0, none⟩), .int .i64 k, .slice R n rc] w1 (PrimPost h kd er v w0)) :
    Calls Tryz.prog 9 #[.int .i64 k, .slice A n cp] w (RunEnd kd er v w) :=
  run_gen w k A n cp (fun j M u => DenH M u (xs.getD j 0)) (fun _ _ _ _ d e => d.ext e) (fun i hi => hA.item i (by omega)) hn kd er v HP
end Go.Proofs.YtkjocmenpccooaaGreatDoor
