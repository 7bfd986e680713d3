/-
  arith.numbers: the walk.
-/
import Derived.Test.YtkjocmenpccooaaGreatDoorHpG
namespace Go.Proofs.YtkjocmenpccooaaGreatDoor
open Go.RowKit

theorem two_new (w : World) (e : TypeId) (x y : Value) : ∀ j u, [x, y][j]? = some u → (w.alloc (.cells #[x, y] e)).cell? ((⟨w.heap.size, 0, none⟩ : Addr).add j) = some u := by
  intro j u hu
  rw [Addr.add_lit, cell_of_row _ _ _ _ _ _ (heap_alloc_new w _), Nat.zero_add]
  match j, hu with
  | 0, hu => exact hu
  | 1, hu => exact hu
  | j + 2, hu => simp at hu
set_option maxRecDepth 100000 in
set_option maxHeartbeats 8000000 in
theorem numbers_any {w : World} {h c s p g : Nat} {S : SpV} (H : HpAt w h c s p g S) (A : Option Addr) (n cp : Nat) (us : List Nat) (hr : RowAt .u64 w A n us) (xs : List Int) (hxl : xs.length = n) (hd : ∀ i, i < n → DenH S.M (us.getD i 0) (xs.getD i 0) ∧ Fits (xs.getD i 0)) (hn : n ≤ 1000) :
    Calls Tryz.prog 36 #[.pointer (some ⟨h, 0, none⟩), .slice A n cp] w (fun e w' => ∃ A' c', e = .returned (.tuple #[.slice A' n c', .int .i64 0]) ∧ NumsR w' A' xs ∧ n ≤ c' ∧ Keep (fun _ => False) w w') := by
  obtain ⟨i24, h24, u0, u1, u2⟩ := info_parts info24
  have HR := Lib.hid hr
  have HD := Lib.hid hd
  have HXL := Lib.hid hxl
  have HN := Lib.hid (fun (w2 : World) (K : Keep (fun _ => False) w w2) (x : Int) (u : Nat) (D : DenH S.M u x) => hnum_any (H.keep0 K) x u D)
  unfold HNumPost at HN
  have hn' := hn
  clear H hr hd hn hxl
  go_enter Tryz.func36, Tryz.ntmps36
  go_wp2_with fail
  go_loopw [6, 13] (fun lv iv wr => ∃ (i rc : Nat) (R : Option Addr) (ys : List (Int × NV)), i ≤ n ∧ ys.length = i ∧ ys.map Prod.fst = xs.take i ∧ lv = .slice R i rc ∧ NumsO wr w.heap.size (.slice R i rc) ys ∧ iv = .int .i64 (i : Int) ∧ Keep (fun _ => False) w wr) (fun _ iv _ => n - (intOf iv).toNat)
  case atStart => exact ⟨0, 0, none, [], Nat.zero_le _, rfl, rfl, rfl, ⟨World.ownsRow_nil _ _ _ _, fun y hy => absurd hy (by simp)⟩, rfl, Keep.refl _ _⟩
  case round =>
    obtain ⟨i, rc, R, ys, hi, hyl, hyx, rfl, ho, rfl, kr⟩ := hrel
    have HO := Lib.hid ho
    have HKR := Lib.hid kr
    have HYL := Lib.hid hyl
    have HYX := Lib.hid hyx
    clear hyl hyx
    by_cases h4 : i < n
    · have l1 : decide ((i : Int) < (n : Int)) = true := decide_eq_true (by omega)
      have l2 : decide (i < n) = true := decide_eq_true h4
      obtain ⟨b, off, hAe, hb, hcell⟩ := (HR.out.keep0 kr).2 i h4
      obtain ⟨D, F⟩ := HD.out i h4
      obtain ⟨u, hu⟩ : ∃ u, u = us.getD i 0 := ⟨_, rfl⟩
      obtain ⟨x, hx⟩ : ∃ x, x = xs.getD i 0 := ⟨_, rfl⟩
      rw [← hu] at hcell D
      rw [← hx] at D F
      have HF := Lib.hid F
      have HX := Lib.hid hx
      have HNU := Lib.hid (HN.out wr kr x u D)
      subst hAe
      clear ho kr hb hu hx D F
      go_wp2_with fail
      refine HNU.out.mono ?_
      rintro e w2 ⟨A2, n2, c2, rfl, own, k2⟩
      obtain ⟨q, hq⟩ : ∃ q, q = decide (x < 0) := ⟨_, rfl⟩
      rw [← hq]
      have HQ := Lib.hid hq
      have HK4 := Lib.hid ((k2.alloc (.cells #[.bool q, .slice A2 n2 c2] 24)).alloc (.cells #[.bool q, .slice A2 n2 c2] 24))
      have HO4 := Lib.hid (HO.out.keep0 HK4.out)
      have HOWN := Lib.hid ((own.mono (Nat.zero_le _)).keep0 (((Keep.refl _ _).alloc (.cells #[.bool q, .slice A2 n2 c2] 24)).alloc (.cells #[.bool q, .slice A2 n2 c2] 24)))
      have HROW := Lib.hid (show ((w2.alloc (.cells #[.bool q, .slice A2 n2 c2] 24)).alloc (.cells #[.bool q, .slice A2 n2 c2] 24)).ownsRow w.heap.size 24 2 (.slice R i rc) i (ys.flatMap nC) from by have := HO4.out.own; rwa [HYL.out] at this)
      have HBS := Lib.hid (show w.heap.size ≤ ((w2.alloc (.cells #[.bool q, .slice A2 n2 c2] 24)).alloc (.cells #[.bool q, .slice A2 n2 c2] 24)).heap.size from Nat.le_trans HKR.out.size HK4.out.size)
      clear own k2 hq
      go_wp2_with (at_builtin; refine wpList_append_own _ rfl (.tmp 25) (.tmp 27) 74 rfl w.heap.size 24 i24 (.agg #[.bool false, .slice none 0 0]) 2 32 Tryz.underlying74 h24 u0 u1 u2 rfl (by decide) _ _ _ rfl HROW.out ⟨w2.heap.size + 1, 0, none⟩ 1 1 [.bool q, .slice A2 n2 c2] rfl rfl ?a0 ?a1 ?a2 ?a3 HBS.out ?_)
      case a0 =>
        have := two_new (w2.alloc (.cells #[.bool q, .slice A2 n2 c2] 24)) 24 (.bool q) (.slice A2 n2 c2)
        rwa [World.size_alloc] at this
      case a1 =>
        intro z hz
        simp only [List.mem_cons, List.not_mem_nil, or_false] at hz
        rcases hz with rfl | rfl <;> rfl
      case a2 => unfold maxLen; omega
      case a3 => omega
      intro v' w5 hown hgrow _
      have HS := Lib.hid (HO4.out.snoc (y := (x, ⟨A2, n2, c2⟩)) HOWN.out HF.out (by rw [HYL.out]; unfold nC; rw [← HQ.out]; exact hown) hgrow)
      obtain ⟨R5, rc5, rfl, _⟩ := HS.out.read
      rw [show (ys ++ [(x, (⟨A2, n2, c2⟩ : NV))]).length = i + 1 from by rw [List.length_append, HYL.out]; rfl] at HS
      have HK5 := Lib.hid ((HKR.out.trans HK4.out).grown hgrow (fun k hk => .inr (World.ownsRow.lt HROW.out k hk).1))
      clear hown hgrow
      go_wp2_with fail
      go_roundw
      case rel =>
        refine ⟨i + 1, rc5, R5, ys ++ [(x, ⟨A2, n2, c2⟩)], h4, by rw [List.length_append, HYL.out]; rfl, ?_, by rw [List.length_append, HYL.out]; rfl, HS.out, by go_num, HK5.out⟩
        have hl : i < xs.length := by rw [HXL.out]; exact h4
        rw [List.map_append, HYX.out, List.take_succ_eq_append_getElem hl, HX.out, List.getD_eq_getElem?_getD, List.getElem?_eq_getElem hl]
        rfl
      case measure => simp only [intOf]; omega
    · have hie : i = n := by omega
      subst hie
      have l1 : decide ((i : Int) < (i : Int)) = false := decide_eq_false (by omega)
      obtain ⟨R2, rc2, he, hrd, hle⟩ := ho.read
      injection he with e1 _ e3
      subst e1 e3
      rw [HYX.out, show xs.take i = xs from by rw [← HXL.out]; exact List.take_length] at hrd
      have HRD := Lib.hid hrd
      have HLE := Lib.hid (show i ≤ rc from by rw [HYL.out] at hle; exact hle)
      clear ho kr hrd hle
      go_wp2_with fail
      go_ret2
      exact ⟨R, rc, rfl, HRD.out, HLE.out, HKR.out⟩
set_option maxRecDepth 100000 in
set_option maxHeartbeats 8000000 in
theorem numbers_bad {w : World} {h c s p g : Nat} {S : SpV} (H : HpAt w h c s p g S) (A : Option Addr) (n cp : Nat) (us : List Nat) (hr : RowAt .u64 w A n us) (xs : List Int) (m : Nat) (hxl : xs.length = m) (hmn : m < n) (hd : ∀ i, i < m → DenH S.M (us.getD i 0) (xs.getD i 0) ∧ Fits (xs.getD i 0)) (hn : n ≤ 1000) (hbad : ∀ w2, Keep (fun _ => False) w w2 → Calls Tryz.prog 33 #[.pointer (some ⟨h, 0, none⟩), .int .u64 ((us.getD m 0 : Nat) : Int)] w2 (fun e w' => e = .returned (.tuple #[numArg false none 0 0, .int .i64 3]) ∧ Keep (fun _ => False) w2 w')) :
    Calls Tryz.prog 36 #[.pointer (some ⟨h, 0, none⟩), .slice A n cp] w (fun e w' => e = .returned (.tuple #[.slice none 0 0, .int .i64 3]) ∧ Keep (fun _ => False) w w') := by
  obtain ⟨i24, h24, u0, u1, u2⟩ := info_parts info24
  have HR := Lib.hid hr
  have HD := Lib.hid hd
  have HXL := Lib.hid hxl
  have HN := Lib.hid (fun (w2 : World) (K : Keep (fun _ => False) w w2) (x : Int) (u : Nat) (D : DenH S.M u x) => hnum_any (H.keep0 K) x u D)
  unfold HNumPost at HN
  have hn' := hn
  have HBAD := Lib.hid hbad
  clear H hr hd hn hxl hbad
  go_enter Tryz.func36, Tryz.ntmps36
  go_wp2_with fail
  go_loopw [6, 13] (fun lv iv wr => ∃ (i rc : Nat) (R : Option Addr) (ys : List (Int × NV)), i ≤ m ∧ ys.length = i ∧ ys.map Prod.fst = xs.take i ∧ lv = .slice R i rc ∧ NumsO wr w.heap.size (.slice R i rc) ys ∧ iv = .int .i64 (i : Int) ∧ Keep (fun _ => False) w wr) (fun _ iv _ => n - (intOf iv).toNat)
  case atStart => exact ⟨0, 0, none, [], Nat.zero_le _, rfl, rfl, rfl, ⟨World.ownsRow_nil _ _ _ _, fun y hy => absurd hy (by simp)⟩, rfl, Keep.refl _ _⟩
  case round =>
    obtain ⟨i, rc, R, ys, hi, hyl, hyx, rfl, ho, rfl, kr⟩ := hrel
    have HO := Lib.hid ho
    have HKR := Lib.hid kr
    have HYL := Lib.hid hyl
    have HYX := Lib.hid hyx
    clear hyl hyx
    by_cases h4 : i < m
    · have h5 : i < n := by omega
      have l1 : decide ((i : Int) < (n : Int)) = true := decide_eq_true (by omega)
      have l2 : decide (i < n) = true := decide_eq_true h5
      obtain ⟨b, off, hAe, hb, hcell⟩ := (HR.out.keep0 kr).2 i h5
      obtain ⟨D, F⟩ := HD.out i h4
      obtain ⟨u, hu⟩ : ∃ u, u = us.getD i 0 := ⟨_, rfl⟩
      obtain ⟨x, hx⟩ : ∃ x, x = xs.getD i 0 := ⟨_, rfl⟩
      rw [← hu] at hcell D
      rw [← hx] at D F
      have HF := Lib.hid F
      have HX := Lib.hid hx
      have HNU := Lib.hid (HN.out wr kr x u D)
      subst hAe
      clear ho kr hb hu hx D F
      go_wp2_with fail
      refine HNU.out.mono ?_
      rintro e w2 ⟨A2, n2, c2, rfl, own, k2⟩
      obtain ⟨q, hq⟩ : ∃ q, q = decide (x < 0) := ⟨_, rfl⟩
      rw [← hq]
      have HQ := Lib.hid hq
      have HK4 := Lib.hid ((k2.alloc (.cells #[.bool q, .slice A2 n2 c2] 24)).alloc (.cells #[.bool q, .slice A2 n2 c2] 24))
      have HO4 := Lib.hid (HO.out.keep0 HK4.out)
      have HOWN := Lib.hid ((own.mono (Nat.zero_le _)).keep0 (((Keep.refl _ _).alloc (.cells #[.bool q, .slice A2 n2 c2] 24)).alloc (.cells #[.bool q, .slice A2 n2 c2] 24)))
      have HROW := Lib.hid (show ((w2.alloc (.cells #[.bool q, .slice A2 n2 c2] 24)).alloc (.cells #[.bool q, .slice A2 n2 c2] 24)).ownsRow w.heap.size 24 2 (.slice R i rc) i (ys.flatMap nC) from by have := HO4.out.own; rwa [HYL.out] at this)
      have HBS := Lib.hid (show w.heap.size ≤ ((w2.alloc (.cells #[.bool q, .slice A2 n2 c2] 24)).alloc (.cells #[.bool q, .slice A2 n2 c2] 24)).heap.size from Nat.le_trans HKR.out.size HK4.out.size)
      clear own k2 hq
      go_wp2_with (at_builtin; refine wpList_append_own _ rfl (.tmp 25) (.tmp 27) 74 rfl w.heap.size 24 i24 (.agg #[.bool false, .slice none 0 0]) 2 32 Tryz.underlying74 h24 u0 u1 u2 rfl (by decide) _ _ _ rfl HROW.out ⟨w2.heap.size + 1, 0, none⟩ 1 1 [.bool q, .slice A2 n2 c2] rfl rfl ?a0 ?a1 ?a2 ?a3 HBS.out ?_)
      case a0 =>
        have := two_new (w2.alloc (.cells #[.bool q, .slice A2 n2 c2] 24)) 24 (.bool q) (.slice A2 n2 c2)
        rwa [World.size_alloc] at this
      case a1 =>
        intro z hz
        simp only [List.mem_cons, List.not_mem_nil, or_false] at hz
        rcases hz with rfl | rfl <;> rfl
      case a2 => unfold maxLen; omega
      case a3 => omega
      intro v' w5 hown hgrow _
      have HS := Lib.hid (HO4.out.snoc (y := (x, ⟨A2, n2, c2⟩)) HOWN.out HF.out (by rw [HYL.out]; unfold nC; rw [← HQ.out]; exact hown) hgrow)
      obtain ⟨R5, rc5, rfl, _⟩ := HS.out.read
      rw [show (ys ++ [(x, (⟨A2, n2, c2⟩ : NV))]).length = i + 1 from by rw [List.length_append, HYL.out]; rfl] at HS
      have HK5 := Lib.hid ((HKR.out.trans HK4.out).grown hgrow (fun k hk => .inr (World.ownsRow.lt HROW.out k hk).1))
      clear hown hgrow
      go_wp2_with fail
      go_roundw
      case rel =>
        refine ⟨i + 1, rc5, R5, ys ++ [(x, ⟨A2, n2, c2⟩)], h4, by rw [List.length_append, HYL.out]; rfl, ?_, by rw [List.length_append, HYL.out]; rfl, HS.out, by go_num, HK5.out⟩
        have hl : i < xs.length := by rw [HXL.out]; exact h4
        rw [List.map_append, HYX.out, List.take_succ_eq_append_getElem hl, HX.out, List.getD_eq_getElem?_getD, List.getElem?_eq_getElem hl]
        rfl
      case measure => simp only [intOf]; omega
    · have hie : i = m := by omega
      subst hie
      have l1 : decide ((i : Int) < (n : Int)) = true := decide_eq_true (by omega)
      have l2 : decide (i < n) = true := decide_eq_true hmn
      obtain ⟨b, off, hAe, hb, hcell⟩ := (HR.out.keep0 kr).2 i hmn
      have HBB := Lib.hid (HBAD.out wr kr)
      obtain ⟨u, hu⟩ : ∃ u, u = us.getD i 0 := ⟨_, rfl⟩
      rw [← hu] at hcell HBB
      subst hAe
      clear ho kr hb hu
      go_wp2_with fail
      refine HBB.out.mono ?_
      rintro e w2 ⟨rfl, k2⟩
      have HK2 := Lib.hid ((HKR.out.trans k2).alloc (.cells #[.bool false, .slice none 0 0] 24))
      clear k2
      go_wp2_with fail
      go_ret2
      exact ⟨rfl, HK2.out⟩
set_option maxHeartbeats 1000000 in
theorem truth_any (b : Bool) (w : World) : Calls Tryz.prog 34 #[.bool b] w (fun e w' => e = .returned (.int .u64 (if b then 12 else 4)) ∧ w = w') := by
  cases b
  all_goals
    go_enter Tryz.func34, Tryz.ntmps34
    go_wp2_with fail
    go_ret
    exact ⟨rfl, rfl⟩
end Go.Proofs.YtkjocmenpccooaaGreatDoor
