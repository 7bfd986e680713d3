/-
  The law of lex: two texts.
-/
import Derived.Test.YtonnikipeokkaaaDoorDlBase
import Derived.Deep.RegionHeld3
import Derived.IntWalk
import Derived.LoopN
namespace Go.Proofs.YtonnikipeokkaaaDoor
open Go.RowKit Go.Lib

set_option maxRecDepth 100000 in
set_option maxHeartbeats 4000000 in
theorem moved_any (kind at_ en : Int) (sq : Bool) (k c : Int) (neg : Bool) (A A' : Option Addr) (n cp n' cp' : Nat) (t : ByteArray) (l : List Nat) (by_ : Int) (w : World) (h : LimbsAt w A n cp l) (h' : LimbsAt w A' n' cp' l)
    (g1 : 0 ≤ at_) (g2 : at_ ≤ 100000) (g3 : 0 ≤ en) (g4 : en ≤ 100000) (g5 : 0 ≤ by_) (g6 : by_ ≤ 100000) :
    Calls Tryd.prog 11 #[tokV kind at_ en sq k c neg A n cp t, tokV kind (at_ + by_) (en + by_) sq k c neg A' n' cp' t, .int .i64 by_] w (BoolPost true w) := by
  have hb1 : ((w.alloc (.cells #[.int .i64 kind, .int .i64 at_, .int .i64 en, .bool sq, .int .i64 k, .int .i32 c, .bool neg, .slice A n cp, .string t, .slice none 0 0] 33)).alloc (.cells #[.int .i64 kind, .int .i64 (at_ + by_), .int .i64 (en + by_), .bool sq, .int .i64 k, .int .i32 c, .bool neg, .slice A' n' cp', .string t, .slice none 0 0] 33)).heap[w.heap.size]? = some (.cells #[.int .i64 kind, .int .i64 at_, .int .i64 en, .bool sq, .int .i64 k, .int .i32 c, .bool neg, .slice A n cp, .string t, .slice none 0 0] 33 (0, 0)) := by
    rw [Below.heap_alloc _ _ _ (by simp)]; exact heap_alloc_new w _
  have hb2 : ((w.alloc (.cells #[.int .i64 kind, .int .i64 at_, .int .i64 en, .bool sq, .int .i64 k, .int .i32 c, .bool neg, .slice A n cp, .string t, .slice none 0 0] 33)).alloc (.cells #[.int .i64 kind, .int .i64 (at_ + by_), .int .i64 (en + by_), .bool sq, .int .i64 k, .int .i32 c, .bool neg, .slice A' n' cp', .string t, .slice none 0 0] 33)).heap[w.heap.size + 1]? = some (.cells #[.int .i64 kind, .int .i64 (at_ + by_), .int .i64 (en + by_), .bool sq, .int .i64 k, .int .i32 c, .bool neg, .slice A' n' cp', .string t, .slice none 0 0] 33 (0, 0)) := by
    have := heap_alloc_new (w.alloc (.cells #[.int .i64 kind, .int .i64 at_, .int .i64 en, .bool sq, .int .i64 k, .int .i32 c, .bool neg, .slice A n cp, .string t, .slice none 0 0] 33)) (.cells #[.int .i64 kind, .int .i64 (at_ + by_), .int .i64 (en + by_), .bool sq, .int .i64 k, .int .i32 c, .bool neg, .slice A' n' cp', .string t, .slice none 0 0] 33)
    rwa [World.size_alloc] at this
  have HK := Lib.hid (show Keep (fun _ => False) w ((w.alloc (.cells #[.int .i64 kind, .int .i64 at_, .int .i64 en, .bool sq, .int .i64 k, .int .i32 c, .bool neg, .slice A n cp, .string t, .slice none 0 0] 33)).alloc (.cells #[.int .i64 kind, .int .i64 (at_ + by_), .int .i64 (en + by_), .bool sq, .int .i64 k, .int .i32 c, .bool neg, .slice A' n' cp', .string t, .slice none 0 0] 33)) from ((Keep.refl _ _).alloc _).alloc _)
  have HS := Lib.hid (fun (w1 : World) (k1 : Keep (fun _ => False) w w1) => rsame_tok kind (at_ + by_) (en + by_) sq k c neg A A' n cp n' cp' t l w1 (h.keep0 k1) (h'.keep0 k1))
  obtain ⟨⟨a0, a1, a2, a3, a4, a5, a6, a7, a8, a9⟩, f0, f1, f2, f3, f4, f5, f6, f7, f8, f9⟩ := tok_cells hb1
  obtain ⟨⟨b0, b1, b2, b3, b4, b5, b6, b7, b8, b9⟩, _⟩ := tok_cells hb2
  clear hb1 hb2 h h'
  go_enter Tryd.func11, Tryd.ntmps11
  go_wp2_with fail
  refine (HS.out _ (((Keep.refl _ _).alloc _).alloc _)).mono ?_
  rintro e w2 ⟨rfl, k2⟩
  have HK2 := Lib.hid (Keep.trans (((Keep.refl (fun _ => False) w).alloc _).alloc _) k2)
  clear a0 a1 a2 a3 a4 a5 a6 a7 a8 a9 b0 b1 b2 b3 b4 b5 b6 b7 b8 b9 f0 f1 f2 f3 f4 f5 f6 f7 f8 f9 k2
  go_wp2_with fail
  go_ret
  exact ⟨rfl, HK2.out⟩
/-- How the tokens of both stand in the tokens of the whole. -/
structure PartsF (ts ms fs : List (Nat × Tk)) (off : Nat) : Prop where
  len : fs.length = ts.length + ms.length
  fst : ∀ (i : Nat) (x : Nat × Tk), ts[i]? = some x → fs[i]? = some x
  snd : ∀ (i : Nat) (x : Nat × Tk), ms[i]? = some x → fs[ts.length + i]? = some (shT off x)
theorem PartsF.mk1 (ts us : List (Nat × Tk)) (off : Nat) : PartsF ts us (ts ++ us.map (shT off)) off :=
  ⟨by simp, fun i x h => by rw [List.getElem?_append_left (List.getElem?_eq_some_iff.1 h).1]; exact h, fun i x h => by rw [List.getElem?_append_right (by omega)]; simp [h]⟩
theorem PartsF.mk2 (ts : List (Nat × Tk)) (off : Nat) : PartsF ts [] ts off :=
  ⟨by simp, fun i x h => h, fun i x h => by simp at h⟩
set_option maxRecDepth 100000 in
set_option maxHeartbeats 4000000 in
theorem lawParts_any (s0 s1 : ByteArray) (w : World) (hT : Tabs w) : Calls Tryd.prog 4 #[.string s0, .string s1] w (BoolPost true w) := by
  have HAW := Lib.hid (fun (w : World) hT => awake_any w hT)
  have HS := Lib.hid (fun (kind at1 en : Int) (sq : Bool) (k c : Int) (neg : Bool) (x : ByteArray) (l : List Nat) (A A' : Option Addr) (n cp n' cp' : Nat) (w : World) (h : LimbsAt w A n cp l) (h' : LimbsAt w A' n' cp' l) => rsame_tok kind at1 en sq k c neg A A' n cp n' cp' x l w h h')
  have HT := Lib.hid hT
  have HKR := Lib.hid (Keep.refl (fun _ => False) w)
  by_cases ha : 2000 < s0.size
  · have q0 : decide ((2000 : Int) < (s0.size : Int)) = true := decide_eq_true (by omega)
    have q1 : decide (2000 < s0.size) = true := decide_eq_true ha
    clear ha hT
    go_enter Tryd.func4, Tryd.ntmps4
    go_wp2_with fail
    refine (HAW.out _ (HT.out.keep HKR.out)).mono ?_
    rintro e w9 ⟨rfl, k9⟩
    have HK9 := Lib.hid (HKR.out.trans k9)
    clear k9
    try dsimp only
    go_wp2_with fail
    go_ret
    exact ⟨rfl, HK9.out⟩
  have q0 : decide ((2000 : Int) < (s0.size : Int)) = false := decide_eq_false (by omega)
  have q1 : decide (2000 < s0.size) = false := decide_eq_false ha
  by_cases hb : 2000 < s1.size
  · have q2 : decide ((2000 : Int) < (s1.size : Int)) = true := decide_eq_true (by omega)
    have q3 : decide (2000 < s1.size) = true := decide_eq_true hb
    clear ha hb hT
    go_enter Tryd.func4, Tryd.ntmps4
    go_wp2_with fail
    refine (HAW.out _ (HT.out.keep HKR.out)).mono ?_
    rintro e w9 ⟨rfl, k9⟩
    have HK9 := Lib.hid (HKR.out.trans k9)
    clear k9
    try dsimp only
    go_wp2_with fail
    go_ret
    exact ⟨rfl, HK9.out⟩
  have q2 : decide ((2000 : Int) < (s1.size : Int)) = false := decide_eq_false (by omega)
  have q3 : decide (2000 < s1.size) = false := decide_eq_false hb
  obtain ⟨ts, p, c, hts⟩ := Toks.ex s0.data.toList s0.data.toList.length 0 (by omega) (Nat.zero_le _)
  obtain ⟨us, q, d, hus⟩ := Toks.ex s1.data.toList s1.data.toList.length 0 (by omega) (Nat.zero_le _)
  have HAL1 := Lib.hid (fun (w : World) hT => all_any s0 ts p c w hT hts)
  have HAL2 := Lib.hid (fun (w : World) hT => all_any s1 us q d w hT hus)
  have HZ0 := Lib.hid (show s0.data.toList.length = s0.size from (Lib.size_eq s0).symm)
  have HZ1 := Lib.hid (show s1.data.toList.length = s1.size from (Lib.size_eq s1).symm)
  have nn1 : ¬ 9223372036854775807 < s0.size + 1 := by omega
  have nn2 : ¬ 9223372036854775807 < s0.size + 1 + s1.size := by omega
  have HA := Lib.hid ha
  have HB := Lib.hid hb
  have HTS := Lib.hid hts
  have HUS := Lib.hid hus
  have HSB := Lib.hid (show s1.data.toList.length ≤ 4096 by rw [← Lib.size_eq]; omega)
  have HNA4 := Lib.hid (show ts.length ≤ 4096 from by have := hts.count (by rw [← Lib.size_eq]; omega) (Nat.zero_le _); rw [← Lib.size_eq] at this; omega)
  have HNB4 := Lib.hid (show us.length ≤ 4096 from by have := hus.count (by rw [← Lib.size_eq]; omega) (Nat.zero_le _); rw [← Lib.size_eq] at this; omega)
  have HP4 := Lib.hid (show p ≤ 4096 from by have := hts.place (by rw [← Lib.size_eq]; omega) (Nat.zero_le _); rw [← Lib.size_eq] at this; omega)
  have HQ4 := Lib.hid (show q ≤ 4096 from by have := hus.place (by rw [← Lib.size_eq]; omega) (Nat.zero_le _); rw [← Lib.size_eq] at this; omega)
  clear ha hb hts hus hT
  go_enter Tryd.func4, Tryd.ntmps4
  go_wp2_with fail
  refine (HAL1.out _ HT.out).mono ?_
  rintro e w1 ⟨vs1, R1, cap1, rfl, hall1, hown1, k1⟩
  have HALL1 := Lib.hid hall1
  have HOWN1 := Lib.hid hown1
  have HK1 := Lib.hid k1
  have HC1 := Lib.hid (own_cap hown1)
  clear hall1 hown1 k1
  try dsimp only
  go_wp2_with fail
  refine (HAL2.out _ (HT.out.keep HK1.out)).mono ?_
  rintro e w2 ⟨vs2, R2, cap2, rfl, hall2, hown2, k2⟩
  have HALL2 := Lib.hid hall2
  have HOWN2 := Lib.hid hown2
  have HK2 := Lib.hid k2
  have HC2 := Lib.hid (own_cap hown2)
  clear hall2 hown2 k2
  try dsimp only
  go_wp2_with fail
  have hcat : (s0 ++ ⟨#[10]⟩ ++ s1).data.toList = s0.data.toList ++ 10 :: s1.data.toList := by simp
  have hlen : (s0.data.toList ++ 10 :: s1.data.toList).length ≤ 4096 := by
    have := HA.out; have := HB.out; have := HZ0.out; have := HZ1.out
    rw [List.length_append, List.length_cons]; omega
  have HCAT := Lib.hid hcat
  have HLEN := Lib.hid hlen
  clear hcat hlen
  obtain ⟨cc, hcc⟩ : ∃ z : Int, z = (c : Int) := ⟨_, rfl⟩
  obtain ⟨pp, hpp⟩ : ∃ z : Int, z = (p : Int) := ⟨_, rfl⟩
  obtain ⟨dd, hdd⟩ : ∃ z : Int, z = (d : Int) := ⟨_, rfl⟩
  obtain ⟨qq, hqq⟩ : ∃ z : Int, z = (q : Int) := ⟨_, rfl⟩
  obtain ⟨na, hna⟩ : ∃ n, n = ts.length := ⟨_, rfl⟩
  obtain ⟨nb, hnb⟩ : ∃ n, n = us.length := ⟨_, rfl⟩
  rw [← hna, ← hnb, ← hcc, ← hpp, ← hdd, ← hqq]
  rw [← hna] at HOWN1 HC1 HNA4
  rw [← hnb] at HOWN2 HC2 HNB4
  have HCC := Lib.hid hcc
  have HPP := Lib.hid hpp
  have HDD := Lib.hid hdd
  have HQQ := Lib.hid hqq
  have HNA := Lib.hid hna
  have HNB := Lib.hid hnb
  clear hcc hpp hdd hqq hna hnb
  have HKT := Lib.hid (HK1.out.trans HK2.out)
  by_cases h11 : c = 11
  · obtain ⟨fs, r, g, hfs⟩ := Toks.ex (s0 ++ ⟨#[10]⟩ ++ s1).data.toList (s0 ++ ⟨#[10]⟩ ++ s1).data.toList.length 0 (by omega) (Nat.zero_le _)
    have HAL3 := Lib.hid (fun (w : World) hT => all_any (s0 ++ ⟨#[10]⟩ ++ s1) fs r g w hT hfs)
    have e0 : (cc == 11) = true := by rw [HCC.out, h11]; rfl
    clear hfs h11
    refine (HAL3.out _ (HT.out.keep HKT.out)).mono ?_
    rintro e w3 ⟨vs3, R3, cap3, rfl, _, _, k3⟩
    have HK3 := Lib.hid (HKT.out.trans k3)
    clear k3
    try dsimp only
    go_wp2_with fail
    refine (HAW.out _ (HT.out.keep HK3.out)).mono ?_
    rintro e w9 ⟨rfl, k9⟩
    have HK9 := Lib.hid (HK3.out.trans k9)
    clear k9
    try dsimp only
    go_wp2_with fail
    go_ret
    exact ⟨rfl, HK9.out⟩
  have e0 : (cc == 11) = false := by rw [HCC.out]; simp; omega
  have htwo := Toks.two HLEN.out HTS.out (Nat.zero_le _) h11 HUS.out
  rw [← HCAT.out] at htwo
  by_cases hc0 : c = 0
  · rw [if_pos hc0] at htwo
    obtain ⟨fs, hfs⟩ : ∃ fs, fs = ts ++ us.map (shT (s0.data.toList.length + 1)) := ⟨_, rfl⟩
    have HPF := Lib.hid (show PartsF ts us fs (s0.data.toList.length + 1) from by rw [hfs]; exact PartsF.mk1 _ _ _)
    rw [← hfs] at htwo
    obtain ⟨r, hr⟩ : ∃ r, r = (if d = 0 then 0 else s0.data.toList.length + 1 + q) := ⟨_, rfl⟩
    rw [← hr] at htwo
    have HAL3 := Lib.hid (fun (w : World) hT => all_any (s0 ++ ⟨#[10]⟩ ++ s1) fs r d w hT htwo)
    obtain ⟨rr, hrr⟩ : ∃ z : Int, z = (r : Int) := ⟨_, rfl⟩
    have e1 : (cc != 0) = false := by rw [HCC.out, hc0]; rfl
    have HR := Lib.hid (And.intro hr hrr)
    clear htwo hfs hc0 h11 hr
    refine (HAL3.out _ (HT.out.keep HKT.out)).mono ?_
    rintro e w3 ⟨vs3, R3, cap3, rfl, hall3, hown3, k3⟩
    obtain ⟨nf, hnf⟩ : ∃ n, n = fs.length := ⟨_, rfl⟩
    rw [← hnf, ← hrr, ← HDD.out]
    rw [← hnf] at hown3
    have HLF := Lib.hid (show nf = na + nb by rw [hnf, HPF.out.len, HNA.out, HNB.out])
    have HALL3 := Lib.hid hall3
    have HOWN3 := Lib.hid hown3
    have HC3 := Lib.hid (own_cap hown3)
    have HK3 := Lib.hid (HKT.out.trans k3)
    have HK13 := Lib.hid (HK2.out.trans k3)
    have HK23 := Lib.hid k3
    have l0 : decide ((nf : Int) < (na : Int)) = false := decide_eq_false (by have := HLF.out; omega)
    have l1 : decide (nf < na) = false := decide_eq_false (by have := HLF.out; omega)
    clear hall3 hown3 k3 hnf hrr
    have y1 : 0 ≤ pp := by rw [HPP.out]; omega
    have y2 : pp ≤ 4096 := by rw [HPP.out]; have := HP4.out; omega
    have y3 : 0 ≤ qq := by rw [HQQ.out]; omega
    have y4 : qq ≤ 4096 := by rw [HQQ.out]; have := HQ4.out; omega
    have y5 : s0.size ≤ 2000 := by have := HA.out; omega
    try dsimp only
    go_wp2_with fail
    go_loopw [14] (fun iv wr => ∃ i : Nat, iv = .int .i64 (i : Int) ∧ i ≤ na ∧ Keep (fun _ => False) w3 wr) (fun iv _ => na - (Lib.intOf iv).toNat)
    case atStart => exact ⟨0, rfl, Nat.zero_le _, Keep.refl _ _⟩
    case round =>
      obtain ⟨i, rfl, hle, hkr⟩ := hrel
      have HKR := Lib.hid hkr
      clear hkr
      by_cases hlt : i < na
      · have m1 : decide (i < na) = true := decide_eq_true hlt
        have m2 : decide ((i : Int) < (na : Int)) = true := decide_eq_true (by omega)
        obtain ⟨⟨j, t⟩, hx⟩ : ∃ x, ts[i]? = some x := ⟨ts[i]'(by rw [← HNA.out]; exact hlt), List.getElem?_eq_getElem _⟩
        have hx3 := HPF.out.fst i _ hx
        obtain ⟨g1, rfl⟩ := row_some HOWN1.out (by omega)
        obtain ⟨g3, rfl⟩ := row_some HOWN3.out (by have := HLF.out; omega)
        obtain ⟨A1, n1, cp1, t1⟩ := TokC.row HOWN1.out HALL1.out hx
        obtain ⟨A3, n3, cp3, t3⟩ := TokC.row HOWN3.out HALL3.out hx3
        have t1 := t1.keep (HK13.out.trans HKR.out)
        have t3 := t3.keep HKR.out
        obtain ⟨f, hf⟩ : ∃ f, f = tkNF j t := ⟨_, rfl⟩
        rw [← hf] at t1 t3
        clear hf hx hx3
        obtain ⟨kind, at1, en, sq, k, c2, neg, x, lf, p2, q5⟩ := f
        have HL1 := Lib.hid t1.lim
        have HL3 := Lib.hid t3.lim
        obtain ⟨r0, r1, r2, r3, r4, r5, r6, r7, r8, r9⟩ := t1.cells
        obtain ⟨s0, s1, s2, s3, s4, s5, s6, s7, s8, s9⟩ := t3.cells
        dsimp only at r0 r1 r2 r3 r4 r5 r6 r7 r8 r9 s0 s1 s2 s3 s4 s5 s6 s7 s8 s9
        have HCL := Lib.hid (fun (w' : World) (K : Keep (fun _ => False) wr w') => (show w'.cell? ⟨g1, i * 10, none⟩ = some (.int .i64 kind) ∧ w'.cell? ⟨g1, i * 10 + 1, none⟩ = some (.int .i64 at1) ∧ w'.cell? ⟨g1, i * 10 + 2, none⟩ = some (.int .i64 en) ∧ w'.cell? ⟨g1, i * 10 + 3, none⟩ = some (.bool sq) ∧ w'.cell? ⟨g1, i * 10 + 4, none⟩ = some (.int .i64 k) ∧ w'.cell? ⟨g1, i * 10 + 5, none⟩ = some (.int .i32 c2) ∧ w'.cell? ⟨g1, i * 10 + 6, none⟩ = some (.bool neg) ∧ w'.cell? ⟨g1, i * 10 + 7, none⟩ = some (.slice A1 n1 cp1) ∧ w'.cell? ⟨g1, i * 10 + 8, none⟩ = some (.string x) ∧ w'.cell? ⟨g1, i * 10 + 9, none⟩ = some (.slice none 0 0) ∧ w'.cell? ⟨g3, i * 10, none⟩ = some (.int .i64 kind) ∧ w'.cell? ⟨g3, i * 10 + 1, none⟩ = some (.int .i64 at1) ∧ w'.cell? ⟨g3, i * 10 + 2, none⟩ = some (.int .i64 en) ∧ w'.cell? ⟨g3, i * 10 + 3, none⟩ = some (.bool sq) ∧ w'.cell? ⟨g3, i * 10 + 4, none⟩ = some (.int .i64 k) ∧ w'.cell? ⟨g3, i * 10 + 5, none⟩ = some (.int .i32 c2) ∧ w'.cell? ⟨g3, i * 10 + 6, none⟩ = some (.bool neg) ∧ w'.cell? ⟨g3, i * 10 + 7, none⟩ = some (.slice A3 n3 cp3) ∧ w'.cell? ⟨g3, i * 10 + 8, none⟩ = some (.string x) ∧ w'.cell? ⟨g3, i * 10 + 9, none⟩ = some (.slice none 0 0) ∧ Keep (fun _ => False) wr w' from ⟨(K.cell (World.block_lt_of_cell? wr _ r0) id).trans r0, (K.cell (World.block_lt_of_cell? wr _ r1) id).trans r1, (K.cell (World.block_lt_of_cell? wr _ r2) id).trans r2, (K.cell (World.block_lt_of_cell? wr _ r3) id).trans r3, (K.cell (World.block_lt_of_cell? wr _ r4) id).trans r4, (K.cell (World.block_lt_of_cell? wr _ r5) id).trans r5, (K.cell (World.block_lt_of_cell? wr _ r6) id).trans r6, (K.cell (World.block_lt_of_cell? wr _ r7) id).trans r7, (K.cell (World.block_lt_of_cell? wr _ r8) id).trans r8, (K.cell (World.block_lt_of_cell? wr _ r9) id).trans r9, (K.cell (World.block_lt_of_cell? wr _ s0) id).trans s0, (K.cell (World.block_lt_of_cell? wr _ s1) id).trans s1, (K.cell (World.block_lt_of_cell? wr _ s2) id).trans s2, (K.cell (World.block_lt_of_cell? wr _ s3) id).trans s3, (K.cell (World.block_lt_of_cell? wr _ s4) id).trans s4, (K.cell (World.block_lt_of_cell? wr _ s5) id).trans s5, (K.cell (World.block_lt_of_cell? wr _ s6) id).trans s6, (K.cell (World.block_lt_of_cell? wr _ s7) id).trans s7, (K.cell (World.block_lt_of_cell? wr _ s8) id).trans s8, (K.cell (World.block_lt_of_cell? wr _ s9) id).trans s9, K⟩))
        have Kd : Keep (fun _ => False) wr wr.drew := (Keep.refl _ _).drew
        have hi0 : (0 : Int) ≤ (i : Int) := Int.natCast_nonneg _
        have j1 : (i : Int) < (na : Int) := by omega
        have j3 : (i : Int) < (nf : Int) := by have := HLF.out; omega
        have hi4 : i ≤ 4096 := by have := HNA4.out; omega
        clear t1 t3 r0 r1 r2 r3 r4 r5 r6 r7 r8 r9 s0 s1 s2 s3 s4 s5 s6 s7 s8 s9
        go_wp2_with fail
        go_region_held3 (fun w' => w'.cell? ⟨g1, i * 10, none⟩ = some (.int .i64 kind) ∧ w'.cell? ⟨g1, i * 10 + 1, none⟩ = some (.int .i64 at1) ∧ w'.cell? ⟨g1, i * 10 + 2, none⟩ = some (.int .i64 en) ∧ w'.cell? ⟨g1, i * 10 + 3, none⟩ = some (.bool sq) ∧ w'.cell? ⟨g1, i * 10 + 4, none⟩ = some (.int .i64 k) ∧ w'.cell? ⟨g1, i * 10 + 5, none⟩ = some (.int .i32 c2) ∧ w'.cell? ⟨g1, i * 10 + 6, none⟩ = some (.bool neg) ∧ w'.cell? ⟨g1, i * 10 + 7, none⟩ = some (.slice A1 n1 cp1) ∧ w'.cell? ⟨g1, i * 10 + 8, none⟩ = some (.string x) ∧ w'.cell? ⟨g1, i * 10 + 9, none⟩ = some (.slice none 0 0) ∧ w'.cell? ⟨g3, i * 10, none⟩ = some (.int .i64 kind) ∧ w'.cell? ⟨g3, i * 10 + 1, none⟩ = some (.int .i64 at1) ∧ w'.cell? ⟨g3, i * 10 + 2, none⟩ = some (.int .i64 en) ∧ w'.cell? ⟨g3, i * 10 + 3, none⟩ = some (.bool sq) ∧ w'.cell? ⟨g3, i * 10 + 4, none⟩ = some (.int .i64 k) ∧ w'.cell? ⟨g3, i * 10 + 5, none⟩ = some (.int .i32 c2) ∧ w'.cell? ⟨g3, i * 10 + 6, none⟩ = some (.bool neg) ∧ w'.cell? ⟨g3, i * 10 + 7, none⟩ = some (.slice A3 n3 cp3) ∧ w'.cell? ⟨g3, i * 10 + 8, none⟩ = some (.string x) ∧ w'.cell? ⟨g3, i * 10 + 9, none⟩ = some (.slice none 0 0) ∧ Keep (fun _ => False) wr w')
          (first | exact HCL.out _ Kd | exact HCL.out _ (by assumption))
          ((go_at_call 9; go_split_ands; (with_reducible refine (HS.out kind at1 en sq k c2 neg x lf A1 A3 n1 cp1 n3 cp3 _ (HL1.out.keep0 (by assumption)) (HL3.out.keep0 (by assumption))).mono ?_); rintro e w5 ⟨rfl, k5⟩; have K5 := Keep.trans (by assumption) k5))
        have HN := Lib.hid (HKR.out.trans K5)
        clear k5 K5 Kd
        try dsimp only
        go_wp2_with fail
        go_roundw
        case rel => exact ⟨i + 1, by go_num, hlt, HN.out⟩
        case measure => simp only [Lib.intOf]; omega
      · have m1 : decide (i < na) = false := decide_eq_false hlt
        have m2 : decide ((i : Int) < (na : Int)) = false := decide_eq_false (by omega)
        have u0 : ((nf : Int) != (na : Int) + (nb : Int)) = false := by have := HLF.out; simp; omega
        have u1 : (dd != dd) = false := by simp
        have na4 := HNA4.out
        have nb4 := HNB4.out
        rcases Nat.eq_zero_or_pos d with hd0 | hd0
        · have u2 : (dd != 0) = false := by rw [HDD.out, hd0]; rfl
          clear hd0
          go_wp2_with fail
          go_loopw [15] (fun iv wr => ∃ i : Nat, iv = .int .i64 (i : Int) ∧ i ≤ nb ∧ Keep (fun _ => False) w3 wr) (fun iv _ => nb - (Lib.intOf iv).toNat)
          case atStart => exact ⟨0, rfl, Nat.zero_le _, HKR.out⟩
          case round =>
            clear hlt hle m1 m2 HKR
            obtain ⟨i, rfl, hle, hkr⟩ := hrel
            have HKR := Lib.hid hkr
            clear hkr
            by_cases hlt : i < nb
            · have m1 : decide (i < nb) = true := decide_eq_true hlt
              have m2 : decide ((i : Int) < (nb : Int)) = true := decide_eq_true (by omega)
              obtain ⟨⟨j, t⟩, hx⟩ : ∃ x, us[i]? = some x := ⟨us[i]'(by rw [← HNB.out]; exact hlt), List.getElem?_eq_getElem _⟩
              have hx3 := HPF.out.snd i _ hx
              rw [← HNA.out] at hx3
              obtain ⟨g2, rfl⟩ := row_some HOWN2.out (by omega)
              obtain ⟨g3, rfl⟩ := row_some HOWN3.out (by have := HLF.out; omega)
              obtain ⟨A2, n2, cp2, t2⟩ := TokC.row HOWN2.out HALL2.out hx
              obtain ⟨A3, n3, cp3, t3⟩ := TokC.row HOWN3.out HALL3.out hx3
              have t2 := t2.keep (HK23.out.trans HKR.out)
              have t3 := t3.keep HKR.out
              have hmem := Toks.mem HSB.out HUS.out (Nat.zero_le _) (j, t) (List.mem_of_getElem? hx)
              simp only at hmem
              obtain ⟨f, hf⟩ : ∃ f, f = tkNF j t := ⟨_, rfl⟩
              have hf3 : tkNF (s0.data.toList.length + 1 + j) t = ⟨f.kind, f.at1 + ((s0.size : Int) + 1), f.en + ((s0.size : Int) + 1), f.sq, f.k, f.c, f.neg, f.x, f.l, f.p, f.q⟩ := by
                rw [hf, HZ0.out]
                unfold tkNF
                have e1 : (((s0.size + 1 + j : Nat) : Int)) = (j : Int) + ((s0.size : Int) + 1) := by omega
                have e2 : (((s0.size + 1 + j + t.len : Nat) : Int)) = ((j + t.len : Nat) : Int) + ((s0.size : Int) + 1) := by omega
                simp only [e1, e2]
              rw [← hf] at t2
              simp only [shT] at t3
              rw [hf3] at t3
              have b1 : 0 ≤ f.at1 ∧ f.at1 ≤ 100000 := by rw [hf]; show 0 ≤ (j : Int) ∧ (j : Int) ≤ 100000; have := HSB.out; omega
              have b2 : 0 ≤ f.en ∧ f.en ≤ 100000 := by rw [hf]; show 0 ≤ ((j + t.len : Nat) : Int) ∧ ((j + t.len : Nat) : Int) ≤ 100000; have := HSB.out; omega
              clear hf hf3 hx hx3 hmem
              obtain ⟨kind, at1, en, sq, k, c2, neg, x, lf, p2, q5⟩ := f
              have HL2 := Lib.hid t2.lim
              have HL3 := Lib.hid t3.lim
              have HMV := Lib.hid (fun (w : World) (h : LimbsAt w A2 n2 cp2 lf) (h' : LimbsAt w A3 n3 cp3 lf) => moved_any kind at1 en sq k c2 neg A2 A3 n2 cp2 n3 cp3 x lf ((s0.size : Int) + 1) w h h' b1.1 b1.2 b2.1 b2.2 (by omega) (by have := HA.out; omega))
              obtain ⟨r0, r1, r2, r3, r4, r5, r6, r7, r8, r9⟩ := t2.cells
              obtain ⟨z0, z1, z2, z3, z4, z5, z6, z7, z8, z9⟩ := t3.cells
              dsimp only at r0 r1 r2 r3 r4 r5 r6 r7 r8 r9 z0 z1 z2 z3 z4 z5 z6 z7 z8 z9
              have HCL := Lib.hid (fun (w' : World) (K : Keep (fun _ => False) wr w') => (show w'.cell? ⟨g2, i * 10, none⟩ = some (.int .i64 kind) ∧ w'.cell? ⟨g2, i * 10 + 1, none⟩ = some (.int .i64 at1) ∧ w'.cell? ⟨g2, i * 10 + 2, none⟩ = some (.int .i64 en) ∧ w'.cell? ⟨g2, i * 10 + 3, none⟩ = some (.bool sq) ∧ w'.cell? ⟨g2, i * 10 + 4, none⟩ = some (.int .i64 k) ∧ w'.cell? ⟨g2, i * 10 + 5, none⟩ = some (.int .i32 c2) ∧ w'.cell? ⟨g2, i * 10 + 6, none⟩ = some (.bool neg) ∧ w'.cell? ⟨g2, i * 10 + 7, none⟩ = some (.slice A2 n2 cp2) ∧ w'.cell? ⟨g2, i * 10 + 8, none⟩ = some (.string x) ∧ w'.cell? ⟨g2, i * 10 + 9, none⟩ = some (.slice none 0 0) ∧ w'.cell? ⟨g3, (na + i) * 10, none⟩ = some (.int .i64 kind) ∧ w'.cell? ⟨g3, (na + i) * 10 + 1, none⟩ = some (.int .i64 (at1 + ((s0.size : Int) + 1))) ∧ w'.cell? ⟨g3, (na + i) * 10 + 2, none⟩ = some (.int .i64 (en + ((s0.size : Int) + 1))) ∧ w'.cell? ⟨g3, (na + i) * 10 + 3, none⟩ = some (.bool sq) ∧ w'.cell? ⟨g3, (na + i) * 10 + 4, none⟩ = some (.int .i64 k) ∧ w'.cell? ⟨g3, (na + i) * 10 + 5, none⟩ = some (.int .i32 c2) ∧ w'.cell? ⟨g3, (na + i) * 10 + 6, none⟩ = some (.bool neg) ∧ w'.cell? ⟨g3, (na + i) * 10 + 7, none⟩ = some (.slice A3 n3 cp3) ∧ w'.cell? ⟨g3, (na + i) * 10 + 8, none⟩ = some (.string x) ∧ w'.cell? ⟨g3, (na + i) * 10 + 9, none⟩ = some (.slice none 0 0) ∧ Keep (fun _ => False) wr w' from ⟨(K.cell (World.block_lt_of_cell? wr _ r0) id).trans r0, (K.cell (World.block_lt_of_cell? wr _ r1) id).trans r1, (K.cell (World.block_lt_of_cell? wr _ r2) id).trans r2, (K.cell (World.block_lt_of_cell? wr _ r3) id).trans r3, (K.cell (World.block_lt_of_cell? wr _ r4) id).trans r4, (K.cell (World.block_lt_of_cell? wr _ r5) id).trans r5, (K.cell (World.block_lt_of_cell? wr _ r6) id).trans r6, (K.cell (World.block_lt_of_cell? wr _ r7) id).trans r7, (K.cell (World.block_lt_of_cell? wr _ r8) id).trans r8, (K.cell (World.block_lt_of_cell? wr _ r9) id).trans r9, (K.cell (World.block_lt_of_cell? wr _ z0) id).trans z0, (K.cell (World.block_lt_of_cell? wr _ z1) id).trans z1, (K.cell (World.block_lt_of_cell? wr _ z2) id).trans z2, (K.cell (World.block_lt_of_cell? wr _ z3) id).trans z3, (K.cell (World.block_lt_of_cell? wr _ z4) id).trans z4, (K.cell (World.block_lt_of_cell? wr _ z5) id).trans z5, (K.cell (World.block_lt_of_cell? wr _ z6) id).trans z6, (K.cell (World.block_lt_of_cell? wr _ z7) id).trans z7, (K.cell (World.block_lt_of_cell? wr _ z8) id).trans z8, (K.cell (World.block_lt_of_cell? wr _ z9) id).trans z9, K⟩))
              have Kd : Keep (fun _ => False) wr wr.drew := (Keep.refl _ _).drew
              have hi0 : (0 : Int) ≤ (i : Int) := Int.natCast_nonneg _
              have j1 : (i : Int) < (nb : Int) := by omega
              have j3 : (na : Int) + (i : Int) < (nf : Int) := by have := HLF.out; omega
              have j4 : (0 : Int) ≤ (na : Int) + (i : Int) := by omega
              have hi4 : i ≤ 4096 := by have := HNB4.out; omega
              have wr1 : IntKind.i64.wrap ((na : Int) + (i : Int)) = (na : Int) + (i : Int) := IntWalk.i64_in _ (by have := HNA4.out; omega)
              have wr2 : IntKind.i64.wrap ((s0.size : Int) + 1) = (s0.size : Int) + 1 := IntWalk.i64_in _ (by have := HA.out; omega)
              have wr3 : ((na : Int) + (i : Int)).toNat = na + i := by omega
              clear b1 b2 t2 t3 r0 r1 r2 r3 r4 r5 r6 r7 r8 r9 z0 z1 z2 z3 z4 z5 z6 z7 z8 z9
              go_wp2_with fail
              go_region_held3 (fun w' => w'.cell? ⟨g2, i * 10, none⟩ = some (.int .i64 kind) ∧ w'.cell? ⟨g2, i * 10 + 1, none⟩ = some (.int .i64 at1) ∧ w'.cell? ⟨g2, i * 10 + 2, none⟩ = some (.int .i64 en) ∧ w'.cell? ⟨g2, i * 10 + 3, none⟩ = some (.bool sq) ∧ w'.cell? ⟨g2, i * 10 + 4, none⟩ = some (.int .i64 k) ∧ w'.cell? ⟨g2, i * 10 + 5, none⟩ = some (.int .i32 c2) ∧ w'.cell? ⟨g2, i * 10 + 6, none⟩ = some (.bool neg) ∧ w'.cell? ⟨g2, i * 10 + 7, none⟩ = some (.slice A2 n2 cp2) ∧ w'.cell? ⟨g2, i * 10 + 8, none⟩ = some (.string x) ∧ w'.cell? ⟨g2, i * 10 + 9, none⟩ = some (.slice none 0 0) ∧ w'.cell? ⟨g3, (na + i) * 10, none⟩ = some (.int .i64 kind) ∧ w'.cell? ⟨g3, (na + i) * 10 + 1, none⟩ = some (.int .i64 (at1 + ((s0.size : Int) + 1))) ∧ w'.cell? ⟨g3, (na + i) * 10 + 2, none⟩ = some (.int .i64 (en + ((s0.size : Int) + 1))) ∧ w'.cell? ⟨g3, (na + i) * 10 + 3, none⟩ = some (.bool sq) ∧ w'.cell? ⟨g3, (na + i) * 10 + 4, none⟩ = some (.int .i64 k) ∧ w'.cell? ⟨g3, (na + i) * 10 + 5, none⟩ = some (.int .i32 c2) ∧ w'.cell? ⟨g3, (na + i) * 10 + 6, none⟩ = some (.bool neg) ∧ w'.cell? ⟨g3, (na + i) * 10 + 7, none⟩ = some (.slice A3 n3 cp3) ∧ w'.cell? ⟨g3, (na + i) * 10 + 8, none⟩ = some (.string x) ∧ w'.cell? ⟨g3, (na + i) * 10 + 9, none⟩ = some (.slice none 0 0) ∧ Keep (fun _ => False) wr w')
                (first | exact HCL.out _ Kd | exact HCL.out _ (by assumption))
                ((go_at_call 11; go_split_ands; (with_reducible refine (HMV.out _ (HL2.out.keep0 (by assumption)) (HL3.out.keep0 (by assumption))).mono ?_); rintro e w5 ⟨rfl, k5⟩; have K5 := Keep.trans (by assumption) k5))
              have HN := Lib.hid (HKR.out.trans K5)
              clear k5 K5 Kd wr1 wr2 wr3
              try dsimp only
              go_wp2_with fail
              go_roundw
              case rel => exact ⟨i + 1, by go_num, hlt, HN.out⟩
              case measure => simp only [Lib.intOf]; omega
            · have m1 : decide (i < nb) = false := decide_eq_false hlt
              have m2 : decide ((i : Int) < (nb : Int)) = false := decide_eq_false (by omega)
              have HKE := Lib.hid (HK3.out.trans HKR.out)
              go_wp2_with fail
              refine (HAW.out _ (HT.out.keep HKE.out)).mono ?_
              rintro e w9 ⟨rfl, k9⟩
              have HK9 := Lib.hid (HKE.out.trans k9)
              clear k9
              try dsimp only
              go_wp2_with fail
              go_ret
              exact ⟨rfl, HK9.out⟩
        · have u2 : (dd != 0) = true := by rw [HDD.out]; simp; omega
          have hbq := HQ4.out
          have hbs := HA.out
          have u3 : (rr != qq + (s0.size : Int) + 1) = false := by
            have h1 := HR.out.1
            rw [if_neg (by omega), HZ0.out] at h1
            rw [HR.out.2, h1, HQQ.out]
            simp; omega
          clear hd0
          go_wp2_with fail
          go_loopw [15] (fun iv wr => ∃ i : Nat, iv = .int .i64 (i : Int) ∧ i ≤ nb ∧ Keep (fun _ => False) w3 wr) (fun iv _ => nb - (Lib.intOf iv).toNat)
          case atStart => exact ⟨0, rfl, Nat.zero_le _, HKR.out⟩
          case round =>
            clear hlt hle m1 m2 HKR
            obtain ⟨i, rfl, hle, hkr⟩ := hrel
            have HKR := Lib.hid hkr
            clear hkr
            by_cases hlt : i < nb
            · have m1 : decide (i < nb) = true := decide_eq_true hlt
              have m2 : decide ((i : Int) < (nb : Int)) = true := decide_eq_true (by omega)
              obtain ⟨⟨j, t⟩, hx⟩ : ∃ x, us[i]? = some x := ⟨us[i]'(by rw [← HNB.out]; exact hlt), List.getElem?_eq_getElem _⟩
              have hx3 := HPF.out.snd i _ hx
              rw [← HNA.out] at hx3
              obtain ⟨g2, rfl⟩ := row_some HOWN2.out (by omega)
              obtain ⟨g3, rfl⟩ := row_some HOWN3.out (by have := HLF.out; omega)
              obtain ⟨A2, n2, cp2, t2⟩ := TokC.row HOWN2.out HALL2.out hx
              obtain ⟨A3, n3, cp3, t3⟩ := TokC.row HOWN3.out HALL3.out hx3
              have t2 := t2.keep (HK23.out.trans HKR.out)
              have t3 := t3.keep HKR.out
              have hmem := Toks.mem HSB.out HUS.out (Nat.zero_le _) (j, t) (List.mem_of_getElem? hx)
              simp only at hmem
              obtain ⟨f, hf⟩ : ∃ f, f = tkNF j t := ⟨_, rfl⟩
              have hf3 : tkNF (s0.data.toList.length + 1 + j) t = ⟨f.kind, f.at1 + ((s0.size : Int) + 1), f.en + ((s0.size : Int) + 1), f.sq, f.k, f.c, f.neg, f.x, f.l, f.p, f.q⟩ := by
                rw [hf, HZ0.out]
                unfold tkNF
                have e1 : (((s0.size + 1 + j : Nat) : Int)) = (j : Int) + ((s0.size : Int) + 1) := by omega
                have e2 : (((s0.size + 1 + j + t.len : Nat) : Int)) = ((j + t.len : Nat) : Int) + ((s0.size : Int) + 1) := by omega
                simp only [e1, e2]
              rw [← hf] at t2
              simp only [shT] at t3
              rw [hf3] at t3
              have b1 : 0 ≤ f.at1 ∧ f.at1 ≤ 100000 := by rw [hf]; show 0 ≤ (j : Int) ∧ (j : Int) ≤ 100000; have := HSB.out; omega
              have b2 : 0 ≤ f.en ∧ f.en ≤ 100000 := by rw [hf]; show 0 ≤ ((j + t.len : Nat) : Int) ∧ ((j + t.len : Nat) : Int) ≤ 100000; have := HSB.out; omega
              clear hf hf3 hx hx3 hmem
              obtain ⟨kind, at1, en, sq, k, c2, neg, x, lf, p2, q5⟩ := f
              have HL2 := Lib.hid t2.lim
              have HL3 := Lib.hid t3.lim
              have HMV := Lib.hid (fun (w : World) (h : LimbsAt w A2 n2 cp2 lf) (h' : LimbsAt w A3 n3 cp3 lf) => moved_any kind at1 en sq k c2 neg A2 A3 n2 cp2 n3 cp3 x lf ((s0.size : Int) + 1) w h h' b1.1 b1.2 b2.1 b2.2 (by omega) (by have := HA.out; omega))
              obtain ⟨r0, r1, r2, r3, r4, r5, r6, r7, r8, r9⟩ := t2.cells
              obtain ⟨z0, z1, z2, z3, z4, z5, z6, z7, z8, z9⟩ := t3.cells
              dsimp only at r0 r1 r2 r3 r4 r5 r6 r7 r8 r9 z0 z1 z2 z3 z4 z5 z6 z7 z8 z9
              have HCL := Lib.hid (fun (w' : World) (K : Keep (fun _ => False) wr w') => (show w'.cell? ⟨g2, i * 10, none⟩ = some (.int .i64 kind) ∧ w'.cell? ⟨g2, i * 10 + 1, none⟩ = some (.int .i64 at1) ∧ w'.cell? ⟨g2, i * 10 + 2, none⟩ = some (.int .i64 en) ∧ w'.cell? ⟨g2, i * 10 + 3, none⟩ = some (.bool sq) ∧ w'.cell? ⟨g2, i * 10 + 4, none⟩ = some (.int .i64 k) ∧ w'.cell? ⟨g2, i * 10 + 5, none⟩ = some (.int .i32 c2) ∧ w'.cell? ⟨g2, i * 10 + 6, none⟩ = some (.bool neg) ∧ w'.cell? ⟨g2, i * 10 + 7, none⟩ = some (.slice A2 n2 cp2) ∧ w'.cell? ⟨g2, i * 10 + 8, none⟩ = some (.string x) ∧ w'.cell? ⟨g2, i * 10 + 9, none⟩ = some (.slice none 0 0) ∧ w'.cell? ⟨g3, (na + i) * 10, none⟩ = some (.int .i64 kind) ∧ w'.cell? ⟨g3, (na + i) * 10 + 1, none⟩ = some (.int .i64 (at1 + ((s0.size : Int) + 1))) ∧ w'.cell? ⟨g3, (na + i) * 10 + 2, none⟩ = some (.int .i64 (en + ((s0.size : Int) + 1))) ∧ w'.cell? ⟨g3, (na + i) * 10 + 3, none⟩ = some (.bool sq) ∧ w'.cell? ⟨g3, (na + i) * 10 + 4, none⟩ = some (.int .i64 k) ∧ w'.cell? ⟨g3, (na + i) * 10 + 5, none⟩ = some (.int .i32 c2) ∧ w'.cell? ⟨g3, (na + i) * 10 + 6, none⟩ = some (.bool neg) ∧ w'.cell? ⟨g3, (na + i) * 10 + 7, none⟩ = some (.slice A3 n3 cp3) ∧ w'.cell? ⟨g3, (na + i) * 10 + 8, none⟩ = some (.string x) ∧ w'.cell? ⟨g3, (na + i) * 10 + 9, none⟩ = some (.slice none 0 0) ∧ Keep (fun _ => False) wr w' from ⟨(K.cell (World.block_lt_of_cell? wr _ r0) id).trans r0, (K.cell (World.block_lt_of_cell? wr _ r1) id).trans r1, (K.cell (World.block_lt_of_cell? wr _ r2) id).trans r2, (K.cell (World.block_lt_of_cell? wr _ r3) id).trans r3, (K.cell (World.block_lt_of_cell? wr _ r4) id).trans r4, (K.cell (World.block_lt_of_cell? wr _ r5) id).trans r5, (K.cell (World.block_lt_of_cell? wr _ r6) id).trans r6, (K.cell (World.block_lt_of_cell? wr _ r7) id).trans r7, (K.cell (World.block_lt_of_cell? wr _ r8) id).trans r8, (K.cell (World.block_lt_of_cell? wr _ r9) id).trans r9, (K.cell (World.block_lt_of_cell? wr _ z0) id).trans z0, (K.cell (World.block_lt_of_cell? wr _ z1) id).trans z1, (K.cell (World.block_lt_of_cell? wr _ z2) id).trans z2, (K.cell (World.block_lt_of_cell? wr _ z3) id).trans z3, (K.cell (World.block_lt_of_cell? wr _ z4) id).trans z4, (K.cell (World.block_lt_of_cell? wr _ z5) id).trans z5, (K.cell (World.block_lt_of_cell? wr _ z6) id).trans z6, (K.cell (World.block_lt_of_cell? wr _ z7) id).trans z7, (K.cell (World.block_lt_of_cell? wr _ z8) id).trans z8, (K.cell (World.block_lt_of_cell? wr _ z9) id).trans z9, K⟩))
              have Kd : Keep (fun _ => False) wr wr.drew := (Keep.refl _ _).drew
              have hi0 : (0 : Int) ≤ (i : Int) := Int.natCast_nonneg _
              have j1 : (i : Int) < (nb : Int) := by omega
              have j3 : (na : Int) + (i : Int) < (nf : Int) := by have := HLF.out; omega
              have j4 : (0 : Int) ≤ (na : Int) + (i : Int) := by omega
              have hi4 : i ≤ 4096 := by have := HNB4.out; omega
              have wr1 : IntKind.i64.wrap ((na : Int) + (i : Int)) = (na : Int) + (i : Int) := IntWalk.i64_in _ (by have := HNA4.out; omega)
              have wr2 : IntKind.i64.wrap ((s0.size : Int) + 1) = (s0.size : Int) + 1 := IntWalk.i64_in _ (by have := HA.out; omega)
              have wr3 : ((na : Int) + (i : Int)).toNat = na + i := by omega
              clear b1 b2 t2 t3 r0 r1 r2 r3 r4 r5 r6 r7 r8 r9 z0 z1 z2 z3 z4 z5 z6 z7 z8 z9
              go_wp2_with fail
              go_region_held3 (fun w' => w'.cell? ⟨g2, i * 10, none⟩ = some (.int .i64 kind) ∧ w'.cell? ⟨g2, i * 10 + 1, none⟩ = some (.int .i64 at1) ∧ w'.cell? ⟨g2, i * 10 + 2, none⟩ = some (.int .i64 en) ∧ w'.cell? ⟨g2, i * 10 + 3, none⟩ = some (.bool sq) ∧ w'.cell? ⟨g2, i * 10 + 4, none⟩ = some (.int .i64 k) ∧ w'.cell? ⟨g2, i * 10 + 5, none⟩ = some (.int .i32 c2) ∧ w'.cell? ⟨g2, i * 10 + 6, none⟩ = some (.bool neg) ∧ w'.cell? ⟨g2, i * 10 + 7, none⟩ = some (.slice A2 n2 cp2) ∧ w'.cell? ⟨g2, i * 10 + 8, none⟩ = some (.string x) ∧ w'.cell? ⟨g2, i * 10 + 9, none⟩ = some (.slice none 0 0) ∧ w'.cell? ⟨g3, (na + i) * 10, none⟩ = some (.int .i64 kind) ∧ w'.cell? ⟨g3, (na + i) * 10 + 1, none⟩ = some (.int .i64 (at1 + ((s0.size : Int) + 1))) ∧ w'.cell? ⟨g3, (na + i) * 10 + 2, none⟩ = some (.int .i64 (en + ((s0.size : Int) + 1))) ∧ w'.cell? ⟨g3, (na + i) * 10 + 3, none⟩ = some (.bool sq) ∧ w'.cell? ⟨g3, (na + i) * 10 + 4, none⟩ = some (.int .i64 k) ∧ w'.cell? ⟨g3, (na + i) * 10 + 5, none⟩ = some (.int .i32 c2) ∧ w'.cell? ⟨g3, (na + i) * 10 + 6, none⟩ = some (.bool neg) ∧ w'.cell? ⟨g3, (na + i) * 10 + 7, none⟩ = some (.slice A3 n3 cp3) ∧ w'.cell? ⟨g3, (na + i) * 10 + 8, none⟩ = some (.string x) ∧ w'.cell? ⟨g3, (na + i) * 10 + 9, none⟩ = some (.slice none 0 0) ∧ Keep (fun _ => False) wr w')
                (first | exact HCL.out _ Kd | exact HCL.out _ (by assumption))
                ((go_at_call 11; go_split_ands; (with_reducible refine (HMV.out _ (HL2.out.keep0 (by assumption)) (HL3.out.keep0 (by assumption))).mono ?_); rintro e w5 ⟨rfl, k5⟩; have K5 := Keep.trans (by assumption) k5))
              have HN := Lib.hid (HKR.out.trans K5)
              clear k5 K5 Kd wr1 wr2 wr3
              try dsimp only
              go_wp2_with fail
              go_roundw
              case rel => exact ⟨i + 1, by go_num, hlt, HN.out⟩
              case measure => simp only [Lib.intOf]; omega
            · have m1 : decide (i < nb) = false := decide_eq_false hlt
              have m2 : decide ((i : Int) < (nb : Int)) = false := decide_eq_false (by omega)
              have HKE := Lib.hid (HK3.out.trans HKR.out)
              go_wp2_with fail
              refine (HAW.out _ (HT.out.keep HKE.out)).mono ?_
              rintro e w9 ⟨rfl, k9⟩
              have HK9 := Lib.hid (HKE.out.trans k9)
              clear k9
              try dsimp only
              go_wp2_with fail
              go_ret
              exact ⟨rfl, HK9.out⟩
  · rw [if_neg hc0] at htwo
    obtain ⟨fs, hfs⟩ : ∃ fs, fs = ts := ⟨_, rfl⟩
    have HPF := Lib.hid (show PartsF ts [] fs (s0.data.toList.length + 1) from by rw [hfs]; exact PartsF.mk2 _ _)
    rw [← hfs] at htwo
    have HAL3 := Lib.hid (fun (w : World) hT => all_any (s0 ++ ⟨#[10]⟩ ++ s1) fs p c w hT htwo)
    have e1 : (cc != 0) = true := by rw [HCC.out]; simp; omega
    clear htwo hfs h11
    refine (HAL3.out _ (HT.out.keep HKT.out)).mono ?_
    rintro e w3 ⟨vs3, R3, cap3, rfl, hall3, hown3, k3⟩
    obtain ⟨nf, hnf⟩ : ∃ n, n = fs.length := ⟨_, rfl⟩
    rw [← hnf, ← HPP.out, ← HCC.out]
    rw [← hnf] at hown3
    have HLF := Lib.hid (show nf = na by rw [hnf, HPF.out.len, HNA.out]; rfl)
    have HALL3 := Lib.hid hall3
    have HOWN3 := Lib.hid hown3
    have HC3 := Lib.hid (own_cap hown3)
    have HK3 := Lib.hid (HKT.out.trans k3)
    have HK13 := Lib.hid (HK2.out.trans k3)
    have HK23 := Lib.hid k3
    have l0 : decide ((nf : Int) < (na : Int)) = false := decide_eq_false (by have := HLF.out; omega)
    have l1 : decide (nf < na) = false := decide_eq_false (by have := HLF.out; omega)
    clear hall3 hown3 k3 hnf
    have y1 : 0 ≤ pp := by rw [HPP.out]; omega
    have y2 : pp ≤ 4096 := by rw [HPP.out]; have := HP4.out; omega
    have y3 : 0 ≤ qq := by rw [HQQ.out]; omega
    have y4 : qq ≤ 4096 := by rw [HQQ.out]; have := HQ4.out; omega
    have y5 : s0.size ≤ 2000 := by have := HA.out; omega
    try dsimp only
    go_wp2_with fail
    go_loopw [14] (fun iv wr => ∃ i : Nat, iv = .int .i64 (i : Int) ∧ i ≤ na ∧ Keep (fun _ => False) w3 wr) (fun iv _ => na - (Lib.intOf iv).toNat)
    case atStart => exact ⟨0, rfl, Nat.zero_le _, Keep.refl _ _⟩
    case round =>
      obtain ⟨i, rfl, hle, hkr⟩ := hrel
      have HKR := Lib.hid hkr
      clear hkr
      by_cases hlt : i < na
      · have m1 : decide (i < na) = true := decide_eq_true hlt
        have m2 : decide ((i : Int) < (na : Int)) = true := decide_eq_true (by omega)
        obtain ⟨⟨j, t⟩, hx⟩ : ∃ x, ts[i]? = some x := ⟨ts[i]'(by rw [← HNA.out]; exact hlt), List.getElem?_eq_getElem _⟩
        have hx3 := HPF.out.fst i _ hx
        obtain ⟨g1, rfl⟩ := row_some HOWN1.out (by omega)
        obtain ⟨g3, rfl⟩ := row_some HOWN3.out (by have := HLF.out; omega)
        obtain ⟨A1, n1, cp1, t1⟩ := TokC.row HOWN1.out HALL1.out hx
        obtain ⟨A3, n3, cp3, t3⟩ := TokC.row HOWN3.out HALL3.out hx3
        have t1 := t1.keep (HK13.out.trans HKR.out)
        have t3 := t3.keep HKR.out
        obtain ⟨f, hf⟩ : ∃ f, f = tkNF j t := ⟨_, rfl⟩
        rw [← hf] at t1 t3
        clear hf hx hx3
        obtain ⟨kind, at1, en, sq, k, c2, neg, x, lf, p2, q5⟩ := f
        have HL1 := Lib.hid t1.lim
        have HL3 := Lib.hid t3.lim
        obtain ⟨r0, r1, r2, r3, r4, r5, r6, r7, r8, r9⟩ := t1.cells
        obtain ⟨s0, s1, s2, s3, s4, s5, s6, s7, s8, s9⟩ := t3.cells
        dsimp only at r0 r1 r2 r3 r4 r5 r6 r7 r8 r9 s0 s1 s2 s3 s4 s5 s6 s7 s8 s9
        have HCL := Lib.hid (fun (w' : World) (K : Keep (fun _ => False) wr w') => (show w'.cell? ⟨g1, i * 10, none⟩ = some (.int .i64 kind) ∧ w'.cell? ⟨g1, i * 10 + 1, none⟩ = some (.int .i64 at1) ∧ w'.cell? ⟨g1, i * 10 + 2, none⟩ = some (.int .i64 en) ∧ w'.cell? ⟨g1, i * 10 + 3, none⟩ = some (.bool sq) ∧ w'.cell? ⟨g1, i * 10 + 4, none⟩ = some (.int .i64 k) ∧ w'.cell? ⟨g1, i * 10 + 5, none⟩ = some (.int .i32 c2) ∧ w'.cell? ⟨g1, i * 10 + 6, none⟩ = some (.bool neg) ∧ w'.cell? ⟨g1, i * 10 + 7, none⟩ = some (.slice A1 n1 cp1) ∧ w'.cell? ⟨g1, i * 10 + 8, none⟩ = some (.string x) ∧ w'.cell? ⟨g1, i * 10 + 9, none⟩ = some (.slice none 0 0) ∧ w'.cell? ⟨g3, i * 10, none⟩ = some (.int .i64 kind) ∧ w'.cell? ⟨g3, i * 10 + 1, none⟩ = some (.int .i64 at1) ∧ w'.cell? ⟨g3, i * 10 + 2, none⟩ = some (.int .i64 en) ∧ w'.cell? ⟨g3, i * 10 + 3, none⟩ = some (.bool sq) ∧ w'.cell? ⟨g3, i * 10 + 4, none⟩ = some (.int .i64 k) ∧ w'.cell? ⟨g3, i * 10 + 5, none⟩ = some (.int .i32 c2) ∧ w'.cell? ⟨g3, i * 10 + 6, none⟩ = some (.bool neg) ∧ w'.cell? ⟨g3, i * 10 + 7, none⟩ = some (.slice A3 n3 cp3) ∧ w'.cell? ⟨g3, i * 10 + 8, none⟩ = some (.string x) ∧ w'.cell? ⟨g3, i * 10 + 9, none⟩ = some (.slice none 0 0) ∧ Keep (fun _ => False) wr w' from ⟨(K.cell (World.block_lt_of_cell? wr _ r0) id).trans r0, (K.cell (World.block_lt_of_cell? wr _ r1) id).trans r1, (K.cell (World.block_lt_of_cell? wr _ r2) id).trans r2, (K.cell (World.block_lt_of_cell? wr _ r3) id).trans r3, (K.cell (World.block_lt_of_cell? wr _ r4) id).trans r4, (K.cell (World.block_lt_of_cell? wr _ r5) id).trans r5, (K.cell (World.block_lt_of_cell? wr _ r6) id).trans r6, (K.cell (World.block_lt_of_cell? wr _ r7) id).trans r7, (K.cell (World.block_lt_of_cell? wr _ r8) id).trans r8, (K.cell (World.block_lt_of_cell? wr _ r9) id).trans r9, (K.cell (World.block_lt_of_cell? wr _ s0) id).trans s0, (K.cell (World.block_lt_of_cell? wr _ s1) id).trans s1, (K.cell (World.block_lt_of_cell? wr _ s2) id).trans s2, (K.cell (World.block_lt_of_cell? wr _ s3) id).trans s3, (K.cell (World.block_lt_of_cell? wr _ s4) id).trans s4, (K.cell (World.block_lt_of_cell? wr _ s5) id).trans s5, (K.cell (World.block_lt_of_cell? wr _ s6) id).trans s6, (K.cell (World.block_lt_of_cell? wr _ s7) id).trans s7, (K.cell (World.block_lt_of_cell? wr _ s8) id).trans s8, (K.cell (World.block_lt_of_cell? wr _ s9) id).trans s9, K⟩))
        have Kd : Keep (fun _ => False) wr wr.drew := (Keep.refl _ _).drew
        have hi0 : (0 : Int) ≤ (i : Int) := Int.natCast_nonneg _
        have j1 : (i : Int) < (na : Int) := by omega
        have j3 : (i : Int) < (nf : Int) := by have := HLF.out; omega
        have hi4 : i ≤ 4096 := by have := HNA4.out; omega
        clear t1 t3 r0 r1 r2 r3 r4 r5 r6 r7 r8 r9 s0 s1 s2 s3 s4 s5 s6 s7 s8 s9
        go_wp2_with fail
        go_region_held3 (fun w' => w'.cell? ⟨g1, i * 10, none⟩ = some (.int .i64 kind) ∧ w'.cell? ⟨g1, i * 10 + 1, none⟩ = some (.int .i64 at1) ∧ w'.cell? ⟨g1, i * 10 + 2, none⟩ = some (.int .i64 en) ∧ w'.cell? ⟨g1, i * 10 + 3, none⟩ = some (.bool sq) ∧ w'.cell? ⟨g1, i * 10 + 4, none⟩ = some (.int .i64 k) ∧ w'.cell? ⟨g1, i * 10 + 5, none⟩ = some (.int .i32 c2) ∧ w'.cell? ⟨g1, i * 10 + 6, none⟩ = some (.bool neg) ∧ w'.cell? ⟨g1, i * 10 + 7, none⟩ = some (.slice A1 n1 cp1) ∧ w'.cell? ⟨g1, i * 10 + 8, none⟩ = some (.string x) ∧ w'.cell? ⟨g1, i * 10 + 9, none⟩ = some (.slice none 0 0) ∧ w'.cell? ⟨g3, i * 10, none⟩ = some (.int .i64 kind) ∧ w'.cell? ⟨g3, i * 10 + 1, none⟩ = some (.int .i64 at1) ∧ w'.cell? ⟨g3, i * 10 + 2, none⟩ = some (.int .i64 en) ∧ w'.cell? ⟨g3, i * 10 + 3, none⟩ = some (.bool sq) ∧ w'.cell? ⟨g3, i * 10 + 4, none⟩ = some (.int .i64 k) ∧ w'.cell? ⟨g3, i * 10 + 5, none⟩ = some (.int .i32 c2) ∧ w'.cell? ⟨g3, i * 10 + 6, none⟩ = some (.bool neg) ∧ w'.cell? ⟨g3, i * 10 + 7, none⟩ = some (.slice A3 n3 cp3) ∧ w'.cell? ⟨g3, i * 10 + 8, none⟩ = some (.string x) ∧ w'.cell? ⟨g3, i * 10 + 9, none⟩ = some (.slice none 0 0) ∧ Keep (fun _ => False) wr w')
          (first | exact HCL.out _ Kd | exact HCL.out _ (by assumption))
          ((go_at_call 9; go_split_ands; (with_reducible refine (HS.out kind at1 en sq k c2 neg x lf A1 A3 n1 cp1 n3 cp3 _ (HL1.out.keep0 (by assumption)) (HL3.out.keep0 (by assumption))).mono ?_); rintro e w5 ⟨rfl, k5⟩; have K5 := Keep.trans (by assumption) k5))
        have HN := Lib.hid (HKR.out.trans K5)
        clear k5 K5 Kd
        try dsimp only
        go_wp2_with fail
        go_roundw
        case rel => exact ⟨i + 1, by go_num, hlt, HN.out⟩
        case measure => simp only [Lib.intOf]; omega
      · have m1 : decide (i < na) = false := decide_eq_false hlt
        have m2 : decide ((i : Int) < (na : Int)) = false := decide_eq_false (by omega)
        have u0 : ((nf : Int) != (na : Int)) = false := by have := HLF.out; simp; omega
        have u1 : (cc != cc) = false := by simp
        have u3 : (pp != pp - (s0.size : Int) - 1 + (s0.size : Int) + 1) = false := by simp; omega
        have na4 := HNA4.out
        have hbp := HP4.out
        have hbs := HA.out
        have HKE := Lib.hid (HK3.out.trans HKR.out)
        go_wp2_with fail
        refine wp_loop_rounds 1 ?_
        rw [rounds_succ]
        go_wp2_with fail
        refine (HAW.out _ (HT.out.keep HKE.out)).mono ?_
        rintro e w9 ⟨rfl, k9⟩
        have HK9 := Lib.hid (HKE.out.trans k9)
        clear k9
        try dsimp only
        go_wp2_with fail
        go_ret
        exact ⟨rfl, HK9.out⟩
end Go.Proofs.YtonnikipeokkaaaDoor
