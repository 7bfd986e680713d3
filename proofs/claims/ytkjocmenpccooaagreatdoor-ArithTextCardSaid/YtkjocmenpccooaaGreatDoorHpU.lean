/-
  Things on the heap, read again: Num.
-/
import Derived.Test.YtkjocmenpccooaaGreatDoorHpN
import Derived.Test.YtkjocmenpccooaaGreatDoorN4
namespace Go.Proofs.YtkjocmenpccooaaGreatDoor
open Go.RowKit

/-- What Num answers. -/
def HNumPost (x : Int) (w : World) (e : Ending) (w' : World) : Prop :=
  ∃ (A : Option Addr) (n c : Nat), e = .returned (.tuple #[numArg (decide (x < 0)) A n c, .int .i64 0]) ∧ OwnR 39 .u32 w' w.heap.size A n c (limbs x.natAbs) ∧ Keep (fun _ => False) w w'
theorem old_box (w : World) : (w.alloc (.cells #[.bool false, .slice none 0 0] 24)).heap[w.heap.size]? = some (.cells #[.bool false, .slice none 0 0] 24 (0, 0)) := heap_alloc_new w _
set_option maxRecDepth 100000 in
set_option maxHeartbeats 4000000 in
theorem hnum_fix {w : World} {h : Nat} (x : Int) (hx : Small x) : Calls Tryz.prog 33 #[.pointer (some ⟨h, 0, none⟩), .int .u64 ((fixW x : Nat) : Int)] w (HNumPost x w) := by
  have HI := Lib.hid (fun w => wint_fix x w hx.1 hx.2)
  have HO := Lib.hid (fun w => of_any x w (by have := hx.1; omega) (by have := hx.2; omega))
  have hb := Lib.hid (old_box w)
  have HK1 := Lib.hid (show Keep (fun _ => False) w (w.alloc (.cells #[.bool false, .slice none 0 0] 24)) from (Keep.refl _ _).alloc _)
  generalize ((fixW x : Nat) : Int) = u at *
  clear hx
  go_enter Tryz.func33, Tryz.ntmps33
  go_wp2_with fail
  generalize w.alloc (.cells #[.bool false, .slice none 0 0] 24) = w1 at *
  refine (HI.out _).mono ?_
  rintro e w2 ⟨rfl, rfl⟩
  go_wp2_with fail
  refine (HO.out _).mono ?_
  rintro e w3 ⟨k3, A, n, c, rfl, own⟩
  have hb3 := k3.heap hb.out id
  have HOWN := Lib.hid own
  have HK3 := Lib.hid (HK1.out.trans k3)
  have HB3 := Lib.hid hb3
  have HC := Lib.hid (two_cells hb3 (.bool (decide (x < 0))) (.slice A n c))
  have c0 : w3.cell? ⟨w.heap.size, 0, none⟩ = some (.bool false) := by rw [cell_of_row _ _ _ _ _ _ hb3]; rfl
  have c1 : w3.cell? ⟨w.heap.size, 1, none⟩ = some (.slice none 0 0) := by rw [cell_of_row _ _ _ _ _ _ hb3]; rfl
  have f0 : w3.frozen? ⟨w.heap.size, 0, none⟩ = false := by simp [World.frozen?, hb3]
  have f1 : w3.frozen? ⟨w.heap.size, 1, none⟩ = false := by simp [World.frozen?, hb3]
  have HLT := Lib.hid (heap_lt hb.out)
  clear k3 own hb3
  obtain ⟨q, hq⟩ : ∃ q, q = decide (x < 0) := ⟨_, rfl⟩
  rw [← hq] at HC ⊢
  have HQ := Lib.hid hq
  clear hq
  go_wp2_with fail
  refine bodyPost_ret (v := .tuple #[numArg q A n c, .int .i64 0]) ?_ rfl ⟨A, n, c, by rw [HQ.out], (two_own HOWN.out HLT.out (.bool q) (.slice A n c)).mono (by have := HK1.out.size; omega), two_keep HK3.out (Nat.le_refl _) (.bool q) (.slice A n c)⟩
  obtain ⟨e0, e1⟩ := HC.out
  simp [results, Tryz.results33, go_sem, e0, e1]
set_option maxRecDepth 100000 in
set_option maxHeartbeats 4000000 in
/-- No number. -/
theorem hnum_no {w : World} {h c s p g : Nat} {S : SpV} (H : HpAt w h c s p g S) (u : Nat) (hu : u ≤ 18446744073709551615) (ht : u % 8 ≠ 0) {a k n more : Int} {ok : Bool} (HO : ∀ w2, Keep (fun _ => False) w w2 → Calls Tryz.prog 104 #[.pointer (some ⟨h, 0, none⟩), .int .u64 (u : Int)] w2 (ObjPost a k n more ok w2)) (hk : ok = false ∨ (k != 3) = true) :
    Calls Tryz.prog 33 #[.pointer (some ⟨h, 0, none⟩), .int .u64 (u : Int)] w (fun e w' => e = .returned (.tuple #[numArg false none 0 0, .int .i64 3]) ∧ Keep (fun _ => False) w w') := by
  have HI := Lib.hid (fun w => wint_no u w hu ht)
  have HW := Lib.hid (fun w2 K => words_no 3 (HO w2 K) hk)
  have hb := Lib.hid (old_box w)
  have HK1 := Lib.hid (show Keep (fun _ => False) w (w.alloc (.cells #[.bool false, .slice none 0 0] 24)) from (Keep.refl _ _).alloc _)
  clear H hu ht HO hk
  go_enter Tryz.func33, Tryz.ntmps33
  go_wp2_with fail
  generalize w.alloc (.cells #[.bool false, .slice none 0 0] 24) = w1 at *
  refine (HI.out _).mono ?_
  rintro e w2 ⟨rfl, rfl⟩
  go_wp2_with fail
  refine (HW.out _ HK1.out).mono ?_
  rintro e w3 ⟨rfl, k3⟩
  have hb3 := k3.heap hb.out id
  have HK3 := Lib.hid (HK1.out.trans k3)
  have HC := Lib.hid (two_cells hb3 (.bool false) (.slice none 0 0))
  have c0 : w3.cell? ⟨w.heap.size, 0, none⟩ = some (.bool false) := by rw [cell_of_row _ _ _ _ _ _ hb3]; rfl
  have c1 : w3.cell? ⟨w.heap.size, 1, none⟩ = some (.slice none 0 0) := by rw [cell_of_row _ _ _ _ _ _ hb3]; rfl
  have f0 : w3.frozen? ⟨w.heap.size, 0, none⟩ = false := by simp [World.frozen?, hb3]
  have f1 : w3.frozen? ⟨w.heap.size, 1, none⟩ = false := by simp [World.frozen?, hb3]
  clear k3 hb3
  go_wp2_with fail
  refine bodyPost_ret (v := .tuple #[numArg false none 0 0, .int .i64 3]) ?_ rfl ⟨rfl, two_keep HK3.out (Nat.le_refl _) (.bool false) (.slice none 0 0)⟩
  obtain ⟨e0, e1⟩ := HC.out
  simp [results, Tryz.results33, go_sem, e0, e1]
theorem info39' : (Tryz.prog.info? 39).map (fun i => (i.zero, i.size, i.bytes)) = some (some (.int .u32 0), 1, 4) := info63
theorem ho2 {w : World} {base n c : Nat} {u : Nat} {A : Option Addr} {l : List Nat} (h : OwnR 39 .u32 w base A n c l) : (w.alloc (.cells #[.int .u32 (u : Int)] 39)).ownsRow base 39 1 (.slice A n c) n (l.map fun x : Nat => Value.int .u32 (x : Int)) := h.keep0 ((Keep.refl _ _).alloc _)
/-- At a round of Num: the number's box is B2. -/
structure HnSt (w4 : World) (B2 : Nat) (q : Bool) (l : List Nat) (i : Nat) (A : Option Addr) (c : Nat) (wr : World) : Prop where
  box : wr.heap[B2]? = some (.cells #[.bool q, .slice A i c] 24 (0, 0))
  own : OwnR 39 .u32 wr w4.heap.size A i c (l.take i)
  K : Keep (fun b => b = B2) w4 wr
theorem HnSt.next {w4 : World} {B2 : Nat} {q : Bool} {l : List Nat} {i : Nat} {A : Option Addr} {c : Nat} {wr w5 : World} (h : HnSt w4 B2 q l i A c wr) (hB : B2 < w4.heap.size) (o : Obj) (hi : i < l.length) {v' : Value}
    (hown : w5.ownsRow w4.heap.size 39 1 v' (i + 1) (((l.take i).map fun x : Nat => Value.int .u32 (x : Int)) ++ [Value.int .u32 ((l.getD i 0 : Nat) : Int)])) (hg : (wr.alloc o).grownBy w5 (Value.slice A i c).ownBlock) :
    ∃ A' c', v' = .slice A' (i + 1) c' ∧ w5.heap[B2]? = some (.cells #[.bool q, .slice A i c] 24 (0, 0)) ∧ HnSt w4 B2 q l (i + 1) A' c' (w5.setCell ⟨B2, 1, none⟩ (.slice A' (i + 1) c')) := by
  have hown2 : w5.ownsRow w4.heap.size 39 1 v' (i + 1) ((l.take (i + 1)).map fun x : Nat => Value.int .u32 (x : Int)) := by
    rw [List.take_succ_eq_append_getElem hi, List.map_append]
    rw [List.getD_eq_getElem?_getD, List.getElem?_eq_getElem hi, Option.getD_some] at hown
    exact hown
  obtain ⟨A', c', rfl, own⟩ := own_slice hown2
  have KG : Keep (fun b => (Value.slice A i c).ownBlock = some b) wr w5 := ((Keep.refl _ _).alloc _).grown hg (fun k hk => .inl hk)
  have hb5 : w5.heap[B2]? = some (.cells #[.bool q, .slice A i c] 24 (0, 0)) := KG.heap h.box (fun e => by have := (World.ownsRow.lt h.own B2 e).1; omega)
  have KS : Keep (fun b => b = B2) w5 (w5.setCell ⟨B2, 1, none⟩ (.slice A' (i + 1) c')) := Keep.setCell (S := fun b => b = B2) (p := ⟨B2, 1, none⟩) (Keep.refl _ _) (.inl rfl) _
  refine ⟨A', c', rfl, hb5, ⟨by simp [World.setCell, Array.getElem?_modify, hb5], own.keep KS (fun b off e hb => ?_), ?_⟩⟩
  · have := (own.fresh b off e).1
    omega
  · refine ⟨KS.os.trans (KG.os.trans h.K.os), KS.tape.trans (KG.tape.trans h.K.tape), KS.output.trans (KG.output.trans h.K.output), Nat.le_trans h.K.size (Nat.le_trans KG.size KS.size), fun k hk hn => ?_⟩
    have hk2 := Nat.lt_of_lt_of_le hk h.K.size
    rw [KS.block k (Nat.lt_of_lt_of_le hk2 KG.size) hn, KG.block k hk2 (fun e => by have := (World.ownsRow.lt h.own k e).1; omega)]
    exact h.K.block k hk hn
set_option maxRecDepth 100000 in
set_option maxHeartbeats 8000000 in
theorem hnum_big {w : World} {h c s p g : Nat} {S : SpV} (H : HpAt w h c s p g S) (x : Int) (u a : Nat) (hft : Fits x) (hu : u = a * 8 + 3) (ha : a < 65536) (A : At S.M 3 a (headW 3 (limbs x.natAbs).length (if x < 0 then 1 else 0) :: limbs x.natAbs)) :
    Calls Tryz.prog 33 #[.pointer (some ⟨h, 0, none⟩), .int .u64 (u : Int)] w (HNumPost x w) := by
  obtain ⟨i39, h39, u0, u1, u2⟩ := info_parts info39'
  obtain ⟨m, hm⟩ : ∃ m : Nat, m = if x < 0 then 1 else 0 := ⟨_, rfl⟩
  have hm1 : m ≤ 1 := by rw [hm]; split <;> omega
  rw [← hm] at A
  have HI := Lib.hid (fun w => wint_no u w (by omega) (by omega))
  have HW := Lib.hid (fun (w2 : World) (K : Keep (fun _ => False) w w2) => words_any (H.keep0 K) u a 3 m (limbs x.natAbs) hu ha (.inr rfl) (by omega) (Nat.le_trans hft (by decide)) A)
  have HM := Lib.hid (fun (w2 : World) (K : Keep (fun _ => False) w w2) => more_any (object_any (H.keep0 K) u a 3 m (limbs x.natAbs) hu ha (.inr rfl) (by omega) (Nat.le_trans hft (by decide)) A))
  obtain ⟨q, hq⟩ : ∃ q, q = decide (x < 0) := ⟨_, rfl⟩
  have hmq : ((m : Int) == 1) = q := by
    rw [hm, hq]
    by_cases h0 : x < 0
    · rw [if_pos h0, decide_eq_true h0]; rfl
    · rw [if_neg h0, decide_eq_false h0]; rfl
  have hm2 : decide ((1 : Int) < (m : Int)) = false := decide_eq_false (by omega)
  generalize (m : Int) = mm at *
  have hb := Lib.hid (old_box w)
  have HK1 := Lib.hid (show Keep (fun _ => False) w (w.alloc (.cells #[.bool false, .slice none 0 0] 24)) from (Keep.refl _ _).alloc _)
  have HQ := Lib.hid hq
  have HFT := Lib.hid hft
  have hl48 : (limbs x.natAbs).length ≤ 48 := hft
  clear H hft hu ha A hm hm1 hq
  go_enter Tryz.func33, Tryz.ntmps33
  go_wp2_with fail
  generalize w.alloc (.cells #[.bool false, .slice none 0 0] 24) = w1 at *
  refine (HI.out _).mono ?_
  rintro e w2 ⟨rfl, rfl⟩
  go_wp2_with fail
  refine (HW.out _ HK1.out).mono ?_
  rintro e w2 ⟨AW, n, cw, rfl, ow, k2⟩
  have HOW := Lib.hid ow
  have HK2 := Lib.hid (HK1.out.trans k2)
  have HB2 := Lib.hid (k2.heap hb.out id)
  have hn : (limbs x.natAbs).length = n := ow.len
  clear k2 ow
  go_wp2_with fail
  refine (HM.out _ HK2.out).mono ?_
  rintro e w3 ⟨rfl, k3⟩
  have HOW3 := Lib.hid (HOW.out.keep0 k3)
  have HK3 := Lib.hid (HK2.out.trans k3)
  have HB3 := Lib.hid (k3.heap HB2.out id)
  clear k3
  have hbx := heap_alloc_new w3 (.cells #[.bool q, .slice none 0 0] 24)
  have HST : Hid (HnSt (w3.alloc (.cells #[.bool q, .slice none 0 0] 24)) w3.heap.size q (limbs x.natAbs) 0 none 0 (w3.alloc (.cells #[.bool q, .slice none 0 0] 24))) := Lib.hid ⟨hbx, OwnR.nil _ _ _ _, Keep.refl _ _⟩
  have HK4 := Lib.hid (HK3.out.alloc (.cells #[.bool q, .slice none 0 0] 24))
  have HOW4 := Lib.hid (HOW3.out.keep0 ((Keep.refl _ _).alloc (.cells #[.bool q, .slice none 0 0] 24)))
  have HB4 := Lib.hid (((Keep.refl (fun _ => False) w3).alloc (.cells #[.bool q, .slice none 0 0] 24)).heap HB3.out id)
  have HLT := Lib.hid (show w3.heap.size < (w3.alloc (.cells #[.bool q, .slice none 0 0] 24)).heap.size from by simp)
  have HNE := Lib.hid (show w.heap.size ≠ w3.heap.size from Nat.ne_of_lt (heap_lt HB3.out))
  have HBS := Lib.hid HK3.out.size
  have HAW := Lib.hid (fun b off (e : AW = some ⟨b, off, none⟩) => Nat.ne_of_lt (HOW3.out.fresh b off e).2)
  clear hbx
  go_wp2_with fail
  generalize w3.alloc (.cells #[.bool q, .slice none 0 0] 24) = w4 at *
  generalize w3.heap.size = B at *
  go_loopw [37] (fun iv wr => ∃ (i c' : Nat) (A' : Option Addr), i ≤ n ∧ iv = .int .i64 (i : Int) ∧ HnSt w4 B q (limbs x.natAbs) i A' c' wr) (fun iv _ => n - (intOf iv).toNat)
  case atStart => exact ⟨0, 0, none, Nat.zero_le _, rfl, HST.out⟩
  case round =>
    obtain ⟨i, c', A', hi, rfl, hst⟩ := hrel
    have HS := Lib.hid hst
    clear hst
    by_cases h4 : i < n
    · have l1 : decide ((i : Int) < (n : Int)) = true := decide_eq_true (by omega)
      have l2 : decide (i < n) = true := decide_eq_true h4
      obtain ⟨bb, off, hAe, hbb, hcell⟩ := HOW4.out.row.2 i h4
      have hcell2 : wr.cell? ⟨bb, off + i, none⟩ = some (.int .u64 (((limbs x.natAbs).getD i 0 : Nat) : Int)) := (HS.out.K.cell (p := ⟨bb, off + i, none⟩) hbb (HAW.out bb off hAe)).trans hcell
      obtain ⟨y, hy⟩ : ∃ y, y = (limbs x.natAbs).getD i 0 := ⟨_, rfl⟩
      rw [← hy] at hcell2
      have hylt : y < 4294967296 := by rw [hy]; exact (digs_low BB2 x.natAbs).getD (by decide) i
      have hyw : IntKind.u32.wrap (y : Int) = (y : Int) := by rw [IntKind.wrap_u32]; omega
      have b1 : wr.cell? ⟨B, 1, none⟩ = some (.slice A' i c') := by rw [cell_of_row _ _ _ _ _ _ HS.out.box]; rfl
      have HY := Lib.hid hy
      have HOK := Lib.hid (ho2 HS.out.own (u := y))
      subst hAe
      clear hbb hcell hy
      go_wp2_with (at_builtin; refine wpList_append_own _ rfl (.tmp 42) (.tmp 45) 22 rfl w4.heap.size 39 i39 (.int .u32 0) 1 4 Tryz.underlying22 h39 u0 u1 u2 rfl (by decide) _ _ _ rfl HOK.out ⟨wr.heap.size, 0, none⟩ 1 1 [.int .u32 y] rfl rfl (one_new wr 39 _) ?a1 ?a2 ?a3 ?a4 ?_)
      case a1 =>
        intro z hz
        simp only [List.mem_cons, List.not_mem_nil, or_false] at hz
        subst hz
        rfl
      case a2 => unfold maxLen; omega
      case a3 => omega
      case a4 => have := HS.out.K.size; simp; omega
      intro v' w5 hown hgrow _
      obtain ⟨A5, c5, rfl, hb5, hst5⟩ := HS.out.next HLT.out _ (by rw [hn]; exact h4) (by rw [← HY.out, List.map_take]; exact hown) hgrow
      have HS5 := Lib.hid hst5
      have f1 : w5.frozen? ⟨B, 1, none⟩ = false := by simp [World.frozen?, hb5]
      have b1 : w5.cell? ⟨B, 1, none⟩ = some (.slice A' i c') := by rw [cell_of_row _ _ _ _ _ _ hb5]; rfl
      clear hown hgrow hst5 hb5
      go_wp2_with fail
      go_roundw
      case rel => exact ⟨i + 1, c5, A5, h4, by go_num, HS5.out⟩
      case measure => simp only [intOf]; omega
    · have hie : i = n := by omega
      subst hie
      have l1 : decide ((i : Int) < (i : Int)) = false := decide_eq_false (by omega)
      have hbox := HS.out.box
      have hown := HS.out.own
      rw [show (limbs x.natAbs).take i = limbs x.natAbs from by rw [← hn]; exact List.take_length] at hown
      have hlm : LimbsAt wr A' i c' (limbs x.natAbs) := hown.num HFT.out
      have b0 : wr.cell? ⟨B, 0, none⟩ = some (.bool q) := by rw [cell_of_row _ _ _ _ _ _ hbox]; rfl
      have b1 : wr.cell? ⟨B, 1, none⟩ = some (.slice A' i c') := by rw [cell_of_row _ _ _ _ _ _ hbox]; rfl
      have HMY := Lib.hid (may_any q A' i c' _ wr hlm)
      rw [show mayB q (limbs x.natAbs) = true from by
        unfold mayB
        refine decide_eq_true ?_
        have e : sval q (limbs x.natAbs) = x := by rw [HQ.out]; exact sval_limbs x
        rw [e]
        refine ⟨HFT.out, HQ.out, ?_⟩
        rw [← sval_abs q, e]] at HMY
      have HOWN := Lib.hid hown
      have KF : Keep (fun _ => False) w wr := by
        refine ⟨HS.out.K.os.trans HK4.out.os, HS.out.K.tape.trans HK4.out.tape, HS.out.K.output.trans HK4.out.output, Nat.le_trans HK4.out.size HS.out.K.size, fun k hk _ => ?_⟩
        rw [HS.out.K.block k (Nat.lt_of_lt_of_le hk HK4.out.size) (fun e => by have := HBS.out; omega)]
        exact HK4.out.block k hk id
      have HKF := Lib.hid KF
      have hb5 := HS.out.K.heap HB4.out HNE.out
      have HB5 := Lib.hid hb5
      clear hbox hown hlm KF hb5
      go_wp2_with fail
      refine HMY.out.mono ?_
      rintro e w6 ⟨rfl, k6⟩
      have HK6 := Lib.hid (HKF.out.trans k6)
      have HOWN6 := Lib.hid (HOWN.out.keep0 k6)
      have hb6 := k6.heap HB5.out id
      have b06 : w6.cell? ⟨B, 0, none⟩ = some (.bool q) := (k6.cell (World.block_lt_of_cell? wr _ b0) id).trans b0
      have b16 : w6.cell? ⟨B, 1, none⟩ = some (.slice A' i c') := (k6.cell (World.block_lt_of_cell? wr _ b1) id).trans b1
      have HB6 := Lib.hid hb6
      clear k6 b0 b1 hb6
      go_wp2_with fail
      refine (HM.out _ HK6.out).mono ?_
      rintro e w7 ⟨rfl, k7⟩
      have HK7 := Lib.hid (HK6.out.trans k7)
      have HOWN7 := Lib.hid (HOWN6.out.keep0 k7)
      have hb7 := k7.heap HB6.out id
      have b0 : w7.cell? ⟨B, 0, none⟩ = some (.bool q) := (k7.cell (World.block_lt_of_cell? w6 _ b06) id).trans b06
      have b1 : w7.cell? ⟨B, 1, none⟩ = some (.slice A' i c') := (k7.cell (World.block_lt_of_cell? w6 _ b16) id).trans b16
      have c0 : w7.cell? ⟨w.heap.size, 0, none⟩ = some (.bool false) := by rw [cell_of_row _ _ _ _ _ _ hb7]; rfl
      have c1 : w7.cell? ⟨w.heap.size, 1, none⟩ = some (.slice none 0 0) := by rw [cell_of_row _ _ _ _ _ _ hb7]; rfl
      have f0 : w7.frozen? ⟨w.heap.size, 0, none⟩ = false := by simp [World.frozen?, hb7]
      have f1 : w7.frozen? ⟨w.heap.size, 1, none⟩ = false := by simp [World.frozen?, hb7]
      have HC := Lib.hid (two_cells hb7 (.bool q) (.slice A' i c'))
      have HLT2 := Lib.hid (show w.heap.size < w4.heap.size from by have := HBS.out; have := HLT.out; omega)
      clear k7 b06 b16 hb7
      go_wp2_with fail
      refine bodyPost_ret (v := .tuple #[numArg q A' i c', .int .i64 0]) ?_ rfl ⟨A', i, c', by rw [HQ.out], (two_own HOWN7.out HLT2.out (.bool q) (.slice A' i c')).mono (by have := HLT2.out; omega), two_keep HK7.out (Nat.le_refl _) (.bool q) (.slice A' i c')⟩
      obtain ⟨e0, e1⟩ := HC.out
      simp [results, Tryz.results33, go_sem, e0, e1]
/-- A number's word, read. -/
theorem hnum_any {w : World} {h c s p g : Nat} {S : SpV} (H : HpAt w h c s p g S) (x : Int) (u : Nat) (D : DenH S.M u x) : Calls Tryz.prog 33 #[.pointer (some ⟨h, 0, none⟩), .int .u64 (u : Int)] w (HNumPost x w) := by
  rcases D with ⟨hs, rfl⟩ | ⟨_, hf, a, ha, hu, A⟩
  · exact hnum_fix x hs
  · exact hnum_big H x u a hf hu ha A
end Go.Proofs.YtkjocmenpccooaaGreatDoor
