/-
  Things on the heap: Int.
-/
import Derived.Test.YtkjocmenpccooaaGreatDoorHpM
namespace Go.Proofs.YtkjocmenpccooaaGreatDoor
open Go.RowKit

/-- The word u stands for the number x. -/
def DenH (M : MemV) (u : Nat) (x : Int) : Prop :=
  (Small x ∧ u = fixW x) ∨ (¬ Small x ∧ Fits x ∧ ∃ a, a < 65536 ∧ u = a * 8 + 3 ∧ At M 3 a (headW 3 (limbs x.natAbs).length (if x < 0 then 1 else 0) :: limbs x.natAbs))
theorem DenH.ext {M M' : MemV} {u : Nat} {x : Int} (h : DenH M u x) (k : Ext M M') : DenH M' u x := by
  rcases h with h | ⟨h1, h2, a, h3, h4, h5⟩
  · exact .inl h
  · exact .inr ⟨h1, h2, a, h3, h4, k.2 _ _ _ h5⟩
theorem DenH.lt {M : MemV} {u : Nat} {x : Int} (h : DenH M u x) : u ≤ 18446744073709551615 := by
  rcases h with ⟨_, rfl⟩ | ⟨_, _, a, h3, rfl, _⟩
  · have := fixW_lt x; omega
  · omega
/-- What a call answers that puts a thing on the heap. -/
def LaidPost (h c s p g : Nat) (S : SpV) (D : MemV → Nat → Prop) (w : World) (e : Ending) (w' : World) : Prop :=
  ∃ (S' : SpV) (u : Nat), e = .returned (.tuple #[.int .u64 (u : Int), .int .i64 0]) ∧ HpAt w' h c s p g S' ∧ Keep (MineS s p g) w w' ∧ D S'.M u ∧ Ext S.M S'.M ∧ S.M.free - 1 ≤ S'.M.free ∧ S'.M.count ≤ S.M.count + 1
theorem limbs_ne {x : Int} (h : ¬ Small x) : 1 ≤ (limbs x.natAbs).length := by
  rcases Nat.eq_zero_or_pos (limbs x.natAbs).length with e | e
  · exfalso
    have e2 := List.eq_nil_of_length_eq_zero e
    have := sval_limbs x
    rw [e2] at this
    apply h
    rw [← this]
    unfold Small
    rw [show sval (decide (x < 0)) [] = 0 from by cases decide (x < 0) <;> rfl]
    decide
  · exact e
theorem one_new (w : World) (e : TypeId) (x : Value) : ∀ j u, [x][j]? = some u → (w.alloc (.cells #[x] e)).cell? ((⟨w.heap.size, 0, none⟩ : Addr).add j) = some u := by
  intro j u hu
  cases j with
  | zero =>
    rw [Addr.add_lit]
    rw [cell_of_row _ _ _ _ _ _ (heap_alloc_new w _)]
    exact hu
  | succ j => simp at hu
theorem ho1 {w : World} {base n c u : Nat} {A : Option Addr} {l : List Nat} (h : OwnR 48 .u64 w base A n c l) : (w.alloc (.cells #[.int .u64 (u : Int)] 48)).ownsRow base 48 1 (.slice A n c) n (l.map fun x : Nat => Value.int .u64 (x : Int)) := h.keep0 ((Keep.refl _ _).alloc _)
set_option maxRecDepth 100000 in
set_option maxHeartbeats 8000000 in
theorem int_any {w : World} {h c s p g : Nat} {S : SpV} (H : HpAt w h c s p g S) (neg : Bool) (A : Option Addr) (n cp : Nat) (l : List Nat) (L : LimbsAt w A n cp l) (x : Int) (hx : x = sval neg l) (hft : Fits x) (hf : 0 < S.M.free) (hc : S.M.count < 1000) :
    Calls Tryz.prog 27 #[.pointer (some ⟨h, 0, none⟩), numArg neg A n cp] w (LaidPost h c s p g S (fun M u => DenH M u x) w) := by
  obtain ⟨i48, h48, u0, u1, u2⟩ := info_parts info48
  have K1 : Keep (fun _ => False) w (w.alloc (.cells #[.bool neg, .slice A n cp] 24)) := (Keep.refl _ _).alloc _
  have HH := Lib.hid H
  have HK1 := Lib.hid K1
  have HNM := Lib.hid (norm_any neg A n cp l _ (L.keep0 K1))
  rw [← hx] at HNM
  have HFT := Lib.hid hft
  have HF := Lib.hid hf
  have HC := Lib.hid hc
  clear K1 H L hx hft hf hc
  go_enter Tryz.func27, Tryz.ntmps27
  go_wp2_with fail
  refine HNM.out.mono ?_
  rintro e w2 ⟨k2, ⟨hno, _⟩ | ⟨A2, n2, c2, _, rfl, own⟩⟩
  · exact absurd HFT.out hno
  have HL2 := Lib.hid (own.num HFT.out)
  have HLEN := Lib.hid own.len
  have HK2 := Lib.hid (HK1.out.trans k2)
  clear own k2
  obtain ⟨q, hq⟩ : ∃ q, q = decide (x < 0) := ⟨_, rfl⟩
  rw [← hq]
  have HQ := Lib.hid hq
  clear hq
  have hbx := heap_alloc_new w2 (.cells #[.bool q, .slice A2 n2 c2] 24)
  have HK3 := Lib.hid (HK2.out.alloc (.cells #[.bool q, .slice A2 n2 c2] 24))
  have HL3 := Lib.hid (HL2.out.keep0 ((Keep.refl _ _).alloc (.cells #[.bool q, .slice A2 n2 c2] 24)))
  have HFX := Lib.hid (fix_any q A2 n2 c2 _ _ HL3.out)
  rw [show sval q (limbs x.natAbs) = x from by rw [HQ.out]; exact sval_limbs x] at HFX
  have b0 : (w2.alloc (.cells #[.bool q, .slice A2 n2 c2] 24)).cell? ⟨w2.heap.size, 0, none⟩ = some (.bool q) := by rw [cell_of_row _ _ _ _ _ _ hbx]; rfl
  have b1 : (w2.alloc (.cells #[.bool q, .slice A2 n2 c2] 24)).cell? ⟨w2.heap.size, 1, none⟩ = some (.slice A2 n2 c2) := by rw [cell_of_row _ _ _ _ _ _ hbx]; rfl
  have HBX := Lib.hid hbx
  clear hbx
  go_wp2_with fail
  generalize w2.alloc (.cells #[.bool q, .slice A2 n2 c2] 24) = w3 at *
  generalize w2.heap.size = B at *
  refine HFX.out.mono ?_
  rintro e w4 ⟨rfl, k4⟩
  have HK4 := Lib.hid (HK3.out.trans k4)
  have HBX4 := Lib.hid (k4.heap HBX.out id)
  have HL4 := Lib.hid (HL3.out.keep0 k4)
  clear k4 b0 b1
  by_cases hs : Small x
  · rw [if_pos hs, decide_eq_true hs]
    have HS := Lib.hid hs
    have HW := Lib.hid (wfix_any x w4 hs.1 hs.2)
    clear hs
    go_wp2_with fail
    refine HW.out.mono ?_
    rintro e w5 ⟨rfl, rfl⟩
    go_wp2_with fail
    go_ret2
    exact ⟨S, _, rfl, HH.out.keep0 HK4.out, HK4.out.mono (fun _ _ h => h.elim), .inl ⟨HS.out, rfl⟩, Ext.refl _, by omega, by omega⟩
  · rw [if_neg hs, decide_eq_false hs]
    have HS := Lib.hid hs
    have b0 : w4.cell? ⟨B, 0, none⟩ = some (.bool q) := by rw [cell_of_row _ _ _ _ _ _ HBX4.out]; rfl
    have b1 : w4.cell? ⟨B, 1, none⟩ = some (.slice A2 n2 c2) := by rw [cell_of_row _ _ _ _ _ _ HBX4.out]; rfl
    clear hs
    go_wp2_with fail
    go_loopw [10, 35] (fun lv iv wr => ∃ (i c' : Nat) (A' : Option Addr), i ≤ n2 ∧ lv = .slice A' i c' ∧ iv = .int .i64 (i : Int) ∧ OwnR 48 .u64 wr w4.heap.size A' i c' ((limbs x.natAbs).take i) ∧ Keep (fun _ => False) w4 wr) (fun _ iv _ => n2 - (intOf iv).toNat)
    case atStart => exact ⟨0, 0, none, Nat.zero_le _, rfl, rfl, OwnR.nil _ _ _ _, Keep.refl _ _⟩
    case round =>
      obtain ⟨i, c', A', hi, rfl, rfl, ho, kr⟩ := hrel
      have HO := Lib.hid ho
      have HKR := Lib.hid kr
      have r1 : wr.cell? ⟨B, 0, none⟩ = some (.bool q) := (kr.cell (World.block_lt_of_cell? w4 _ b0) id).trans b0
      clear ho
      have hmx : n2 ≤ 100000 := HL4.out.max
      by_cases h4 : i < n2
      · have l1 : decide ((i : Int) < (n2 : Int)) = true := decide_eq_true (by omega)
        have l2 : decide (i < n2) = true := decide_eq_true h4
        obtain ⟨bb, off, hAe, hb, hcell⟩ := (HL4.out.keep0 kr).row.2 i h4
        obtain ⟨u, hu⟩ : ∃ u, u = (limbs x.natAbs).getD i 0 := ⟨_, rfl⟩
        rw [← hu] at hcell
        have hub : u < 4294967296 := by rw [hu]; exact HL4.out.low.getD (by decide) i
        have HU := Lib.hid hu
        subst hAe
        have HOK := Lib.hid (ho1 HO.out (u := u))
        clear hu hb
        go_wp2_with (at_builtin; refine wpList_append_own _ rfl (.tmp 39) (.tmp 42) 46 rfl w4.heap.size 48 i48 (.int .u64 0) 1 8 Tryz.underlying46 h48 u0 u1 u2 rfl (by decide) _ _ _ rfl HOK.out ⟨wr.heap.size, 0, none⟩ 1 1 [.int .u64 u] rfl rfl (one_new wr 48 _) ?a1 ?a2 ?a3 ?a4 ?_)
        case a1 =>
          intro y hy
          simp only [List.mem_cons, List.not_mem_nil, or_false] at hy
          subst hy
          rfl
        case a2 => unfold maxLen; have := HL4.out.max; omega
        case a3 => have := HL4.out.max; omega
        case a4 => have := HKR.out.size; simp; omega
        intro v' w5 hown hgrow _
        have K5 : Keep (fun _ => False) w4 w5 := (HKR.out.alloc (.cells #[.int .u64 (u : Int)] 48)).grown hgrow (fun k hk => .inr (World.ownsRow.lt HO.out k hk).1)
        have hown2 : w5.ownsRow w4.heap.size 48 1 v' (i + 1) (((limbs x.natAbs).take (i + 1)).map fun x : Nat => Value.int .u64 (x : Int)) := by
          have hl : i < (limbs x.natAbs).length := by rw [HLEN.out]; exact h4
          have e : (limbs x.natAbs).take (i + 1) = (limbs x.natAbs).take i ++ [u] := by
            rw [List.take_succ_eq_append_getElem hl, HU.out, List.getD_eq_getElem?_getD, List.getElem?_eq_getElem hl]
            rfl
          rw [e, List.map_append, List.map_take]
          exact hown
        obtain ⟨A5, c5, rfl, own⟩ := own_slice hown2
        have HO5 := Lib.hid own
        have HK5 := Lib.hid K5
        clear hown hgrow hown2 own K5
        go_wp2_with fail
        go_roundw
        case rel => exact ⟨i + 1, c5, A5, h4, rfl, by go_num, HO5.out, HK5.out⟩
        case measure => simp only [intOf]; omega
      · have hie : i = n2 := by omega
        subst hie
        have l1 : decide ((i : Int) < (i : Int)) = false := decide_eq_false (by omega)
        have hft : (limbs x.natAbs).take i = limbs x.natAbs := by rw [← HLEN.out]; exact List.take_length
        have hown := HO.out
        rw [hft] at hown
        have h1 : 1 ≤ i := by have := limbs_ne HS.out; rw [HLEN.out] at this; exact this
        obtain ⟨bb, off, hAe, _, _⟩ := hown.row.2 0 (by omega)
        subst hAe
        have HMK := Lib.hid (fun (more : Nat) (hm : more < 281474976710656) => make_any (HH.out.keep0 (HK4.out.trans HKR.out)) 3 more (.inr rfl) hm ⟨bb, off, none⟩ i c' (limbs x.natAbs) hown.row ⟨h1, by have := HFT.out; unfold Fits at this; rw [HLEN.out] at this; omega⟩ (fun j hj => by
          have := HL4.out.low _ (List.getElem_mem hj)
          unfold BB at this
          omega) HF.out HC.out)
        have HKW := Lib.hid (HK4.out.trans HKR.out)
        clear hown hft
        cases q with
        | true =>
          go_wp2_with fail
          refine (HMK.out 1 (by decide)).mono ?_
          rintro e w6 ⟨S', a, rfl, h3, k3, at3, ext, fr, ct, al⟩
          go_wp2_with fail
          go_ret2
          refine ⟨S', _, rfl, h3, (HKW.out.mono (fun _ _ h => h.elim)).trans k3, .inr ⟨HS.out, HFT.out, a, al, rfl, ?_⟩, ext, fr, ct⟩
          rw [if_pos (of_decide_eq_true HQ.out.symm), HLEN.out]
          exact at3
        | false =>
          go_wp2_with fail
          refine (HMK.out 0 (by decide)).mono ?_
          rintro e w6 ⟨S', a, rfl, h3, k3, at3, ext, fr, ct, al⟩
          go_wp2_with fail
          go_ret2
          refine ⟨S', _, rfl, h3, (HKW.out.mono (fun _ _ h => h.elim)).trans k3, .inr ⟨HS.out, HFT.out, a, al, rfl, ?_⟩, ext, fr, ct⟩
          rw [if_neg (of_decide_eq_false HQ.out.symm), HLEN.out]
          exact at3
end Go.Proofs.YtkjocmenpccooaaGreatDoor
