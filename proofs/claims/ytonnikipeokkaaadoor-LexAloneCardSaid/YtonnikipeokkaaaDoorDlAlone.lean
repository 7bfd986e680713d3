/-
  The law of lex: a token's bytes alone.
-/
import Derived.Test.YtonnikipeokkaaaDoorDlParts
namespace Go.Proofs.YtonnikipeokkaaaDoor
open Go.RowKit Go.Lib

theorem moved_eq (kind at_ en at2 en2 : Int) (sq : Bool) (k c : Int) (neg : Bool) (A A' : Option Addr) (n cp n' cp' : Nat) (t : ByteArray) (l : List Nat) (by_ : Int) (w : World) (h : LimbsAt w A n cp l) (h' : LimbsAt w A' n' cp' l)
    (g1 : 0 ≤ at_) (g2 : at_ ≤ 100000) (g3 : 0 ≤ en) (g4 : en ≤ 100000) (g5 : 0 ≤ by_) (g6 : by_ ≤ 100000) (e1 : at2 = at_ + by_) (e2 : en2 = en + by_) :
    Calls Tryd.prog 11 #[tokV kind at_ en sq k c neg A n cp t, tokV kind at2 en2 sq k c neg A' n' cp' t, .int .i64 by_] w (BoolPost true w) := by
  subst e1; subst e2
  exact moved_any kind at_ en sq k c neg A A' n cp n' cp' t l by_ w h h' g1 g2 g3 g4 g5 g6
set_option maxRecDepth 100000 in
set_option maxHeartbeats 4000000 in
theorem lawAlone_any (s : ByteArray) (w : World) (hT : Tabs w) : Calls Tryd.prog 5 #[.string s] w (BoolPost true w) := by
  obtain ⟨ts, p, c, hts⟩ := Toks.ex s.data.toList s.data.toList.length 0 (by omega) (Nat.zero_le _)
  have HAL := Lib.hid (all_any s ts p c w hT hts)
  have HALL_ := Lib.hid (fun (s : ByteArray) (ts : List (Nat × Tk)) (w : World) (hT : Tabs w) (h : Toks s.data.toList 0 ts 0 0) => all_any s ts 0 0 w hT h)
  have HAW := Lib.hid (fun (w : World) hT => awake_any w hT)
  have HT := Lib.hid hT
  have HZ := Lib.hid (show s.data.toList.length = s.size from (Lib.size_eq s).symm)
  obtain ⟨l, hl⟩ : ∃ l, l = s.data.toList := ⟨_, rfl⟩
  rw [← hl] at hts HZ
  have HTS := Lib.hid hts
  have HL := Lib.hid hl
  clear hl hts hT
  go_enter Tryd.func5, Tryd.ntmps5
  go_wp2_with fail
  refine (HAL.out).mono ?_
  rintro e w1 ⟨vs, A, cap, rfl, hall, hown, K1⟩
  have HALL := Lib.hid hall
  have HOWN := Lib.hid hown
  have HK1 := Lib.hid K1
  have hcapn := own_cap hown
  obtain ⟨n, hn⟩ : ∃ n, n = ts.length := ⟨_, rfl⟩
  obtain ⟨pp, hpp⟩ : ∃ z : Int, z = (p : Int) := ⟨_, rfl⟩
  obtain ⟨cc, hcc⟩ : ∃ z : Int, z = (c : Int) := ⟨_, rfl⟩
  rw [← hn] at HOWN hcapn
  rw [← hn, ← hpp, ← hcc]
  have HN := Lib.hid hn
  clear hall hown K1 hn hpp hcc
  by_cases hbig : 200 < n
  · have b0 : decide ((200 : Int) < (n : Int)) = true := decide_eq_true (by omega)
    have b1 : decide (200 < n) = true := decide_eq_true hbig
    go_wp2_with fail
    refine (HAW.out _ (HT.out.keep HK1.out)).mono ?_
    rintro e w9 ⟨rfl, k9⟩
    have HK9 := Lib.hid (HK1.out.trans k9)
    clear k9
    try dsimp only
    go_wp2_with fail
    go_ret
    exact ⟨rfl, HK9.out⟩
  have b0 : decide ((200 : Int) < (n : Int)) = false := decide_eq_false (by omega)
  have b1 : decide (200 < n) = false := decide_eq_false hbig
  go_wp2_with fail
  go_loopw [6] (fun iv wr => ∃ i : Nat, iv = .int .i64 (i : Int) ∧ i ≤ n ∧ Keep (fun _ => False) w1 wr) (fun iv _ => n - (Lib.intOf iv).toNat)
  case atStart => exact ⟨0, rfl, Nat.zero_le _, Keep.refl _ _⟩
  case round =>
    obtain ⟨i, rfl, hle, hkr⟩ := hrel
    have HKR := Lib.hid hkr
    clear hkr
    by_cases hlt : i < n
    · have m1 : decide (i < n) = true := decide_eq_true hlt
      have m2 : decide ((i : Int) < (n : Int)) = true := decide_eq_true (by omega)
      obtain ⟨⟨j, t⟩, hx⟩ : ∃ x, ts[i]? = some x := ⟨ts[i]'(by rw [← HN.out]; exact hlt), List.getElem?_eq_getElem _⟩
      obtain ⟨hl4, hmem⟩ : l.length ≤ 4096 ∧ True := ⟨by
        rcases HTS.out.inv with ⟨_, h⟩ | ⟨_, _, _, _, h, _⟩ | ⟨j', t', us', h, _⟩
        · rw [h] at hx; simp at hx
        · rw [h] at hx; simp at hx
        · exact (nextV_len h).1, trivial⟩
      have hmem := Toks.mem hl4 HTS.out (Nat.zero_le _) (j, t) (List.mem_of_getElem? hx)
      simp only at hmem
      obtain ⟨g, rfl⟩ := row_some HOWN.out (by omega)
      obtain ⟨A1, n1, cp1, htc⟩ := TokC.row HOWN.out HALL.out hx
      have htc := htc.keep HKR.out
      obtain ⟨ee, hee⟩ : ∃ ee, ee = j + t.len := ⟨_, rfl⟩
      obtain ⟨tl, htl⟩ : ∃ tl, tl = t.len := ⟨_, rfl⟩
      have hje : j ≤ ee := by omega
      have hes : ee ≤ s.size := by rw [← HZ.out]; omega
      have hs4 : s.size ≤ 4096 := by rw [← HZ.out]; exact hl4
      have HTE := Lib.hid (show ee = tl + j by omega)
      have HTOK := Lib.hid hmem.2.1
      have hxl : (l.drop j).length ≤ 4096 := by rw [List.length_drop]; omega
      have HW0 := Lib.hid (show (s.extract j ee).data.toList = (l.drop j).take t.len from by rw [Lib.extract_data, HL.out, hee, show j + t.len - j = t.len by omega])
      have HT1 := Lib.hid (Toks.alone hxl hmem.2.1)
      have HWZ := Lib.hid (show (s.extract j ee).size = tl from by rw [Lib.size_eq, HW0.out, List.length_take, List.length_drop]; omega)
      obtain ⟨f, hf⟩ : ∃ f, f = tkNF j t := ⟨_, rfl⟩
      have hf1 : f.at1 = (j : Int) := by rw [hf]; rfl
      have hf2 : f.en = (ee : Int) := by rw [hf, hee]; rfl
      have HF0 := Lib.hid (show tkNF 0 t = ⟨f.kind, 0, (tl : Int), f.sq, f.k, f.c, f.neg, f.x, f.l, 0, 0⟩ from by rw [hf, htl]; unfold tkNF; simp)
      have HF1 := Lib.hid (show tkNF 1 t = ⟨f.kind, 1, ((1 + t.len : Nat) : Int), f.sq, f.k, f.c, f.neg, f.x, f.l, 0, 0⟩ from by rw [hf]; unfold tkNF; rfl)
      rw [← hf] at htc
      have HTL := Lib.hid htl
      have hi4 : i ≤ 4096 := by omega
      clear hmem hl4 hx hf hee htl hxl
      obtain ⟨kind, at1, en, sq, k, c2, neg, x, lf, p2, q5⟩ := f
      simp only at hf1 hf2
      subst hf1; subst hf2
      have HLIM := Lib.hid htc.lim
      obtain ⟨r0, r1, r2, r3, r4, r5, r6, r7, r8, r9⟩ := htc.cells
      dsimp only at r0 r1 r2 r3 r4 r5 r6 r7 r8 r9
      have HB := Lib.hid (TokC.box wr ⟨kind, j, ee, sq, k, c2, neg, x, lf, 0, 0⟩ HLIM.out)
      have q1 : decide ((j : Int) < 0) = false := decide_eq_false (by omega)
      have q2 : decide ((s.size : Int) < (ee : Int)) = false := decide_eq_false (by omega)
      have q3 : decide ((ee : Int) < (j : Int)) = false := decide_eq_false (by omega)
      have q4 : decide (s.size < ee) = false := decide_eq_false (by omega)
      have q5 : decide (ee < j) = false := decide_eq_false (by omega)
      have hi0 : (0 : Int) ≤ (i : Int) := Int.natCast_nonneg _
      have hi1 : (i : Int) < (n : Int) := by omega
      clear htc
      have HK2 := Lib.hid (show Keep (fun _ => False) wr (wr.alloc (.cells #[.int .i64 kind, .int .i64 (j : Int), .int .i64 (ee : Int), .bool sq, .int .i64 k, .int .i32 c2, .bool neg, .slice A1 n1 cp1, .string x, .slice none 0 0] 33)) from (Keep.refl _ _).alloc _)
      go_wp2_with fail
      clear r0 r1 r2 r3 r4 r5 r6 r7 r8 r9
      generalize wr.alloc (.cells #[.int .i64 kind, .int .i64 (j : Int), .int .i64 (ee : Int), .bool sq, .int .i64 k, .int .i32 c2, .bool neg, .slice A1 n1 cp1, .string x, .slice none 0 0] 33) = w2 at *
      generalize wr.heap.size = B7 at *
      generalize s.extract j ee = ws at *
      refine (HALL_.out ws [(0, t)] _ (((HT.out.keep HK1.out).keep HKR.out).keep HK2.out) (by rw [HW0.out]; exact HT1.out)).mono ?_
      rintro e w3 ⟨vs3, Am, capm, he, hall3, hown3, k3⟩
      have he : e = .returned (.tuple #[.slice Am 1 capm, .int .i64 0, .int .i64 0]) := he
      subst he
      obtain ⟨gm, rfl⟩ := row_some hown3 (by simp)
      obtain ⟨A5, n5, cp5, hrow3⟩ := TokC.row hown3 hall3 (i := 0) (j := 0) (t := t) rfl
      rw [HF0.out] at hrow3
      have hcm : 1 ≤ capm := own_cap hown3
      have K3 := Lib.hid k3
      have HK3 := Lib.hid (HK2.out.trans k3)
      clear hall3 hown3 k3
      have HB3 := Lib.hid (HB.out.keep K3.out)
      have HR3 := Lib.hid (hrow3)
      clear hrow3
      obtain ⟨r0, r1, r2, r3, r4, r5, r6, r7, r8, r9⟩ := HR3.out.cells
      obtain ⟨d0, d1, d2, d3, d4, d5, d6, d7, d8, d9⟩ := HB3.out.cells
      simp only [Nat.zero_add, Nat.zero_mul] at r0 r1 r2 r3 r4 r5 r6 r7 r8 r9 d0 d1 d2 d3 d4 d5 d6 d7 d8 d9
      have HCL := Lib.hid (fun (w' : World) (K : Keep (fun _ => False) w3 w') => (show w'.cell? ⟨gm, 0, none⟩ = some (.int .i64 kind) ∧ w'.cell? ⟨gm, 1, none⟩ = some (.int .i64 0) ∧ w'.cell? ⟨gm, 2, none⟩ = some (.int .i64 (tl : Int)) ∧ w'.cell? ⟨gm, 3, none⟩ = some (.bool sq) ∧ w'.cell? ⟨gm, 4, none⟩ = some (.int .i64 k) ∧ w'.cell? ⟨gm, 5, none⟩ = some (.int .i32 c2) ∧ w'.cell? ⟨gm, 6, none⟩ = some (.bool neg) ∧ w'.cell? ⟨gm, 7, none⟩ = some (.slice A5 n5 cp5) ∧ w'.cell? ⟨gm, 8, none⟩ = some (.string x) ∧ w'.cell? ⟨gm, 9, none⟩ = some (.slice none 0 0) ∧ w'.cell? ⟨B7, 0, none⟩ = some (.int .i64 kind) ∧ w'.cell? ⟨B7, 1, none⟩ = some (.int .i64 (j : Int)) ∧ w'.cell? ⟨B7, 2, none⟩ = some (.int .i64 (ee : Int)) ∧ w'.cell? ⟨B7, 3, none⟩ = some (.bool sq) ∧ w'.cell? ⟨B7, 4, none⟩ = some (.int .i64 k) ∧ w'.cell? ⟨B7, 5, none⟩ = some (.int .i32 c2) ∧ w'.cell? ⟨B7, 6, none⟩ = some (.bool neg) ∧ w'.cell? ⟨B7, 7, none⟩ = some (.slice A1 n1 cp1) ∧ w'.cell? ⟨B7, 8, none⟩ = some (.string x) ∧ w'.cell? ⟨B7, 9, none⟩ = some (.slice none 0 0) ∧ Keep (fun _ => False) w3 w' from ⟨(K.cell (World.block_lt_of_cell? w3 _ r0) id).trans r0, (K.cell (World.block_lt_of_cell? w3 _ r1) id).trans r1, (K.cell (World.block_lt_of_cell? w3 _ r2) id).trans r2, (K.cell (World.block_lt_of_cell? w3 _ r3) id).trans r3, (K.cell (World.block_lt_of_cell? w3 _ r4) id).trans r4, (K.cell (World.block_lt_of_cell? w3 _ r5) id).trans r5, (K.cell (World.block_lt_of_cell? w3 _ r6) id).trans r6, (K.cell (World.block_lt_of_cell? w3 _ r7) id).trans r7, (K.cell (World.block_lt_of_cell? w3 _ r8) id).trans r8, (K.cell (World.block_lt_of_cell? w3 _ r9) id).trans r9, (K.cell (World.block_lt_of_cell? w3 _ d0) id).trans d0, (K.cell (World.block_lt_of_cell? w3 _ d1) id).trans d1, (K.cell (World.block_lt_of_cell? w3 _ d2) id).trans d2, (K.cell (World.block_lt_of_cell? w3 _ d3) id).trans d3, (K.cell (World.block_lt_of_cell? w3 _ d4) id).trans d4, (K.cell (World.block_lt_of_cell? w3 _ d5) id).trans d5, (K.cell (World.block_lt_of_cell? w3 _ d6) id).trans d6, (K.cell (World.block_lt_of_cell? w3 _ d7) id).trans d7, (K.cell (World.block_lt_of_cell? w3 _ d8) id).trans d8, (K.cell (World.block_lt_of_cell? w3 _ d9) id).trans d9, K⟩))
      have Kd : Keep (fun _ => False) w3 w3.drew := (Keep.refl _ _).drew
      clear r0 r1 r2 r3 r4 r5 r6 r7 r8 r9 d0 d1 d2 d3 d4 d5 d6 d7 d8 d9
      have z0 : ((1 : Int) != 1) = false := by decide
      have z1 : ((0 : Int) != 0) = false := by decide
      have HMV := Lib.hid (fun (w : World) (h : LimbsAt w A5 n5 cp5 lf) (h' : LimbsAt w A1 n1 cp1 lf) => moved_eq kind 0 tl j ee sq k c2 neg A5 A1 n5 cp5 n1 cp1 x lf j w h h' (by omega) (by omega) (by omega) (by have := HTE.out; omega) (by omega) (by omega) (by omega) (by have := HTE.out; omega))
      try dsimp only
      go_wp2_with fail
      go_region_held3 (fun w' => w'.cell? ⟨gm, 0, none⟩ = some (.int .i64 kind) ∧ w'.cell? ⟨gm, 1, none⟩ = some (.int .i64 0) ∧ w'.cell? ⟨gm, 2, none⟩ = some (.int .i64 (tl : Int)) ∧ w'.cell? ⟨gm, 3, none⟩ = some (.bool sq) ∧ w'.cell? ⟨gm, 4, none⟩ = some (.int .i64 k) ∧ w'.cell? ⟨gm, 5, none⟩ = some (.int .i32 c2) ∧ w'.cell? ⟨gm, 6, none⟩ = some (.bool neg) ∧ w'.cell? ⟨gm, 7, none⟩ = some (.slice A5 n5 cp5) ∧ w'.cell? ⟨gm, 8, none⟩ = some (.string x) ∧ w'.cell? ⟨gm, 9, none⟩ = some (.slice none 0 0) ∧ w'.cell? ⟨B7, 0, none⟩ = some (.int .i64 kind) ∧ w'.cell? ⟨B7, 1, none⟩ = some (.int .i64 (j : Int)) ∧ w'.cell? ⟨B7, 2, none⟩ = some (.int .i64 (ee : Int)) ∧ w'.cell? ⟨B7, 3, none⟩ = some (.bool sq) ∧ w'.cell? ⟨B7, 4, none⟩ = some (.int .i64 k) ∧ w'.cell? ⟨B7, 5, none⟩ = some (.int .i32 c2) ∧ w'.cell? ⟨B7, 6, none⟩ = some (.bool neg) ∧ w'.cell? ⟨B7, 7, none⟩ = some (.slice A1 n1 cp1) ∧ w'.cell? ⟨B7, 8, none⟩ = some (.string x) ∧ w'.cell? ⟨B7, 9, none⟩ = some (.slice none 0 0) ∧ Keep (fun _ => False) w3 w')
        (first | exact HCL.out _ Kd | exact HCL.out _ (by assumption))
        ((go_at_call 11; go_split_ands; (with_reducible refine (HMV.out _ (HR3.out.lim.keep0 (by assumption)) (HB3.out.lim.keep0 (by assumption))).mono ?_); rintro e w4 ⟨rfl, k4⟩; have K4 := Keep.trans (by assumption) k4))
      have HK4 := Lib.hid (HK3.out.trans K4)
      have HB4 := Lib.hid (HB3.out.keep K4)
      clear k4 K4 Kd HCL HMV HR3 HB3
      by_cases hbw : 4000 < tl
      · have v0 : decide ((4000 : Int) < (ws.size : Int)) = true := decide_eq_true (by rw [HWZ.out]; omega)
        have v1 : decide (4000 < ws.size) = true := decide_eq_true (by rw [HWZ.out]; exact hbw)
        have HN5 := Lib.hid (HKR.out.trans HK4.out)
        try dsimp only
        go_wp2_with fail
        go_roundw
        case rel => exact ⟨i + 1, by go_num, hlt, HN5.out⟩
        case measure => simp only [Lib.intOf]; omega
      have v0 : decide ((4000 : Int) < (ws.size : Int)) = false := decide_eq_false (by rw [HWZ.out]; omega)
      have v1 : decide (4000 < ws.size) = false := decide_eq_false (by rw [HWZ.out]; exact hbw)
      have v2 : ¬ 9223372036854775807 < 1 + ws.size := by rw [HWZ.out]; omega
      have v3 : ¬ 9223372036854775807 < 1 + ws.size + 10 := by rw [HWZ.out]; omega
      have HT2 := Lib.hid (Toks.tail (show t.len ≤ 4000 by rw [← HTL.out]; omega) HTOK.out)
      have HCAT := Lib.hid (show (⟨#[32]⟩ ++ ws ++ ⟨#[32, 35, 124, 32, 59, 32, 124, 35, 32, 59]⟩ : ByteArray).data.toList = 32 :: ((l.drop j).take t.len ++ tailB) from by simp [HW0.out, tailB])
      try dsimp only
      go_wp2_with fail
      refine (HALL_.out _ [(1, t)] _ (((HT.out.keep HK1.out).keep HKR.out).keep HK4.out) (by rw [HCAT.out]; exact HT2.out)).mono ?_
      rintro e w5 ⟨vs5, An, capn, he, hall5, hown5, k5⟩
      have he : e = .returned (.tuple #[.slice An 1 capn, .int .i64 0, .int .i64 0]) := he
      subst he
      obtain ⟨gn, rfl⟩ := row_some hown5 (by simp)
      obtain ⟨A6, n6, cp6, hrow5⟩ := TokC.row hown5 hall5 (i := 0) (j := 1) (t := t) rfl
      rw [HF1.out] at hrow5
      have hcn : 1 ≤ capn := own_cap hown5
      have HK5 := Lib.hid (HK4.out.trans k5)
      have HB5 := Lib.hid (HB4.out.keep k5)
      have HR5 := Lib.hid hrow5
      clear hall5 hown5 k5 hrow5
      obtain ⟨r0, r1, r2, r3, r4, r5, r6, r7, r8, r9⟩ := HR5.out.cells
      obtain ⟨d0, d1, d2, d3, d4, d5, d6, d7, d8, d9⟩ := HB5.out.cells
      simp only [Nat.zero_add, Nat.zero_mul] at r0 r1 r2 r3 r4 r5 r6 r7 r8 r9 d0 d1 d2 d3 d4 d5 d6 d7 d8 d9
      have HCL := Lib.hid (fun (w' : World) (K : Keep (fun _ => False) w5 w') => (show w'.cell? ⟨gn, 0, none⟩ = some (.int .i64 kind) ∧ w'.cell? ⟨gn, 1, none⟩ = some (.int .i64 1) ∧ w'.cell? ⟨gn, 4, none⟩ = some (.int .i64 k) ∧ w'.cell? ⟨gn, 5, none⟩ = some (.int .i32 c2) ∧ w'.cell? ⟨gn, 6, none⟩ = some (.bool neg) ∧ w'.cell? ⟨gn, 7, none⟩ = some (.slice A6 n6 cp6) ∧ w'.cell? ⟨gn, 8, none⟩ = some (.string x) ∧ w'.cell? ⟨gn, 9, none⟩ = some (.slice none 0 0) ∧ w'.cell? ⟨B7, 0, none⟩ = some (.int .i64 kind) ∧ w'.cell? ⟨B7, 1, none⟩ = some (.int .i64 (j : Int)) ∧ w'.cell? ⟨B7, 2, none⟩ = some (.int .i64 (ee : Int)) ∧ w'.cell? ⟨B7, 3, none⟩ = some (.bool sq) ∧ w'.cell? ⟨B7, 4, none⟩ = some (.int .i64 k) ∧ w'.cell? ⟨B7, 5, none⟩ = some (.int .i32 c2) ∧ w'.cell? ⟨B7, 6, none⟩ = some (.bool neg) ∧ w'.cell? ⟨B7, 7, none⟩ = some (.slice A1 n1 cp1) ∧ w'.cell? ⟨B7, 8, none⟩ = some (.string x) ∧ w'.cell? ⟨B7, 9, none⟩ = some (.slice none 0 0) ∧ Keep (fun _ => False) w5 w' from ⟨(K.cell (World.block_lt_of_cell? w5 _ r0) id).trans r0, (K.cell (World.block_lt_of_cell? w5 _ r1) id).trans r1, (K.cell (World.block_lt_of_cell? w5 _ r4) id).trans r4, (K.cell (World.block_lt_of_cell? w5 _ r5) id).trans r5, (K.cell (World.block_lt_of_cell? w5 _ r6) id).trans r6, (K.cell (World.block_lt_of_cell? w5 _ r7) id).trans r7, (K.cell (World.block_lt_of_cell? w5 _ r8) id).trans r8, (K.cell (World.block_lt_of_cell? w5 _ r9) id).trans r9, (K.cell (World.block_lt_of_cell? w5 _ d0) id).trans d0, (K.cell (World.block_lt_of_cell? w5 _ d1) id).trans d1, (K.cell (World.block_lt_of_cell? w5 _ d2) id).trans d2, (K.cell (World.block_lt_of_cell? w5 _ d3) id).trans d3, (K.cell (World.block_lt_of_cell? w5 _ d4) id).trans d4, (K.cell (World.block_lt_of_cell? w5 _ d5) id).trans d5, (K.cell (World.block_lt_of_cell? w5 _ d6) id).trans d6, (K.cell (World.block_lt_of_cell? w5 _ d7) id).trans d7, (K.cell (World.block_lt_of_cell? w5 _ d8) id).trans d8, (K.cell (World.block_lt_of_cell? w5 _ d9) id).trans d9, K⟩))
      have Kd : Keep (fun _ => False) w5 w5.drew := (Keep.refl _ _).drew
      have HSD := Lib.hid (fun (w : World) (h : LimbsAt w A6 n6 cp6 lf) (h' : LimbsAt w A1 n1 cp1 lf) => rsame_dat k c2 neg A6 A1 n6 cp6 n1 cp1 x lf w h h')
      have z2 : (kind != kind) = false := by simp
      clear r0 r1 r2 r3 r4 r5 r6 r7 r8 r9 d0 d1 d2 d3 d4 d5 d6 d7 d8 d9
      try dsimp only
      go_wp2_with fail
      go_region_held3 (fun w' => w'.cell? ⟨gn, 0, none⟩ = some (.int .i64 kind) ∧ w'.cell? ⟨gn, 1, none⟩ = some (.int .i64 1) ∧ w'.cell? ⟨gn, 4, none⟩ = some (.int .i64 k) ∧ w'.cell? ⟨gn, 5, none⟩ = some (.int .i32 c2) ∧ w'.cell? ⟨gn, 6, none⟩ = some (.bool neg) ∧ w'.cell? ⟨gn, 7, none⟩ = some (.slice A6 n6 cp6) ∧ w'.cell? ⟨gn, 8, none⟩ = some (.string x) ∧ w'.cell? ⟨gn, 9, none⟩ = some (.slice none 0 0) ∧ w'.cell? ⟨B7, 0, none⟩ = some (.int .i64 kind) ∧ w'.cell? ⟨B7, 1, none⟩ = some (.int .i64 (j : Int)) ∧ w'.cell? ⟨B7, 2, none⟩ = some (.int .i64 (ee : Int)) ∧ w'.cell? ⟨B7, 3, none⟩ = some (.bool sq) ∧ w'.cell? ⟨B7, 4, none⟩ = some (.int .i64 k) ∧ w'.cell? ⟨B7, 5, none⟩ = some (.int .i32 c2) ∧ w'.cell? ⟨B7, 6, none⟩ = some (.bool neg) ∧ w'.cell? ⟨B7, 7, none⟩ = some (.slice A1 n1 cp1) ∧ w'.cell? ⟨B7, 8, none⟩ = some (.string x) ∧ w'.cell? ⟨B7, 9, none⟩ = some (.slice none 0 0) ∧ Keep (fun _ => False) w5 w')
        (first | exact HCL.out _ Kd | exact HCL.out _ (by assumption))
        ((go_at_call 12; go_split_ands; (with_reducible refine (HSD.out _ (HR5.out.lim.keep0 (by assumption)) (HB5.out.lim.keep0 (by assumption))).mono ?_); rintro e w6 ⟨rfl, k6⟩; have K6 := Keep.trans (by assumption) k6))
      have HN6 := Lib.hid (HKR.out.trans (HK5.out.trans K6))
      clear k6 K6 Kd HCL
      try dsimp only
      go_wp2_with fail
      go_roundw
      case rel => exact ⟨i + 1, by go_num, hlt, HN6.out⟩
      case measure => simp only [Lib.intOf]; omega
    · have m1 : decide (i < n) = false := decide_eq_false hlt
      have m2 : decide ((i : Int) < (n : Int)) = false := decide_eq_false (by omega)
      have HKE := Lib.hid (HK1.out.trans HKR.out)
      go_wp2_with fail
      refine (HAW.out _ (HT.out.keep HKE.out)).mono ?_
      rintro e w9 ⟨rfl, k9⟩
      have HK9 := Lib.hid (HKE.out.trans k9)
      clear k9
      try dsimp only
      go_wp2_with fail
      go_ret
      exact ⟨rfl, HK9.out⟩
end Go.Proofs.YtonnikipeokkaaaDoor
