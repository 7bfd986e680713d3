/-
  The law ParseMarks: the walk.  (Printed by gen_pmarks.py.)
-/
import Derived.Test.YtonnikipeokkaaaGreatDoorPrwM
namespace Go.Proofs.YtonnikipeokkaaaGreatDoor
open Go.RowKit Go.Lib

/-- What a call of One answers, field by field. -/
def OneC (d : Raw) (n q c : Int) (W : World) (e : Ending) (w' : World) : Prop := ∃ p : PV, e = .returned (.tuple #[rawV d p, .int .i64 n, .int .i64 q, .int .i64 c]) ∧ DatAt (fun b => W.heap.size ≤ b) w' d p ∧ Keep (fun _ => False) W w'
def mkT (i : Nat) : ByteArray := if i = 0 then ⟨#[39]⟩ else if i = 1 then ⟨#[96]⟩ else if i = 2 then ⟨#[44]⟩ else ⟨#[44, 64]⟩
def mkW (i : Nat) : ByteArray := ⟨(markW (4 + i)).toArray⟩
theorem sz40 : (⟨#[40]⟩ : ByteArray).size = 1 := rfl
theorem sz91 : (⟨#[91]⟩ : ByteArray).size = 1 := rfl
theorem sz41 : (⟨#[10, 41]⟩ : ByteArray).size = 2 := rfl
theorem sz93 : (⟨#[10, 93]⟩ : ByteArray).size = 2 := rfl
theorem head_at (s : ByteArray) (h : 0 < s.size) : s.data.toList.head? = some 64 ↔ (s.data.toList.getD 0 0).toNat = 64 := by
  have hz := Lib.size_eq s
  cases hl : s.data.toList with
  | nil => rw [hl, List.length_nil] at hz; omega
  | cons a l =>
    simp only [List.head?_cons, List.getD_cons_zero, Option.some.injEq]
    exact ⟨fun e => by rw [e]; rfl, fun e => UInt8.toNat_inj.1 e⟩
theorem head_no (s : ByteArray) (h : ¬ 0 < s.size) : s.data.toList.head? ≠ some 64 := by
  have hz := Lib.size_eq s
  cases hl : s.data.toList with
  | nil => simp
  | cons a l => rw [hl] at hz; simp at hz; omega
theorem sz32 : (⟨#[32]⟩ : ByteArray).size = 1 := rfl
/-- Behind the making of what is wanted. -/
def Wanted (mr : Raw) (w6 : World) (v : Value) (wx : World) : Prop := ∃ (b : Nat) (p6 : PV), v = .pointer (some ⟨b, 0, none⟩) ∧ wx.heap[b]? = some (.cells (rawC mr p6) 27 (0, 0)) ∧ DatAt (fun _ => True) wx mr p6 ∧ Keep (fun _ => False) w6 wx
theorem Wanted.new {mr : Raw} {w6 w7 : World} {p6 : PV} {Q : Nat → Prop} (h : DatAt Q w7 mr p6) (k : Keep (fun _ => False) w6 w7) : Wanted mr w6 (.pointer (some ⟨w7.heap.size, 0, none⟩)) (w7.alloc (.cells (rawC mr p6) 27)) :=
  ⟨_, p6, rfl, heap_alloc_new _ _, (h.keep0 ((Keep.refl _ _).alloc _)).mono (fun _ _ _ => trivial), k.alloc _⟩
theorem Wanted.old {mr : Raw} {w6 w7 : World} {p6 : PV} {b B : Nat} (h : DatAt (fun x => x < w6.heap.size ∨ B ≤ x) w7 mr p6) (k : Keep (fun _ => False) w6 w7) (hb : w7.heap[b]? = some (.cells #[.int .i64 0, .int .i32 0, .bool false, .slice none 0 0, .string ⟨#[]⟩, .slice none 0 0] 27 (0, 0))) (h1 : w6.heap.size ≤ b) (h2 : b < B) :
    Wanted mr w6 (.pointer (some ⟨b, 0, none⟩)) (sixSet w7 b (.int .i64 mr.k) (.int .i32 mr.c) (.bool mr.neg) (.slice p6.A p6.n p6.cp) (.string mr.t) (.slice p6.B p6.m p6.cap)) :=
  ⟨b, p6, rfl, six_row hb _ _ _ _ _ _, (h.keep (six_self w7 b _ _ _ _ _ _) (by
    rintro x rfl
    refine ⟨fun h => ?_, not_T126 hb (by decide)⟩
    rcases h with h | h <;> omega)).mono (fun _ _ _ => trivial), six_keep k h1 _ _ _ _ _ _⟩
set_option maxRecDepth 100000 in
set_option maxHeartbeats 8000000 in
theorem marks_long (s : ByteArray) (w : World) (HAW : Hid (∀ W : World, Keep (fun _ => False) w W → Calls Tryz.prog 21 #[] W (BoolPost true W))) (h1 : (3000 : Int) < (s.size : Int)) : Calls Tryz.prog 9 #[.string s] w (BoolPost true w) := by
  go_enter Tryz.func9, Tryz.ntmps9
  go_wp2_with fail
  refine (HAW.out _ (Keep.refl _ _)).mono ?_
  rintro e w9 ⟨rfl, k9⟩
  have HK9 := Lib.hid k9
  clear k9
  try dsimp only
  go_wp2_with fail
  go_ret
  exact ⟨rfl, HK9.out⟩
set_option maxRecDepth 100000 in
set_option maxHeartbeats 40000000 in
theorem marks_w (s : ByteArray) (w : World) (d : Raw) (n q c : Int) (HSZ : Hid (s.size ≤ 3000)) (h1 : decide ((3000 : Int) < (s.size : Int)) = false)
    (H1 : Hid (∀ W : World, Keep (fun _ => False) w W → Calls Tryz.prog 18 #[.string s, .int .i64 0] W (OneC d n q c W)))
    (HM : Hid (∀ (i : Nat) (_ : i < 4) (mm : ByteArray) (_ : mm = if i = 2 ∧ s.data.toList.head? = some 64 then mkT i ++ ⟨#[32]⟩ else mkT i), ∃ (d2 : Raw) (n2 q2 c2 : Int), (∀ W : World, Keep (fun _ => False) w W → Calls Tryz.prog 18 #[.string (mm ++ s), .int .i64 0] W (OneC d2 n2 q2 c2 W)) ∧ (c = 0 → (c2 = 0 ∧ d2 = markR (4 + i) d) ∨ c2 = 10))) 
    (HAW : Hid (∀ W : World, Keep (fun _ => False) w W → Calls Tryz.prog 21 #[] W (BoolPost true W)))
    (ds : List Raw) (qa ca : Int) (HALL : Hid (∀ W : World, Keep (fun _ => False) w W → Calls Tryz.prog 23 #[.string s] W (fun e w' => ∃ (A : Option Addr) (cap : Nat) (vs : Nat → PV), e = .returned (.tuple #[.slice A ds.length cap, .int .i64 qa, .int .i64 ca]) ∧ RowAtD (T126 w') (fun b => W.heap.size ≤ b) w' A ds.length ds vs ∧ Keep (fun _ => False) W w' ∧ ds.length ≤ 4096 ∧ ds.length ≤ cap)))
    (HBR : Hid (ca = 0 → ∃ (dd : Raw) (f na pa nb pb : Int), (∀ W : World, Keep (fun _ => False) w W → Calls Tryz.prog 18 #[.string (⟨#[40]⟩ ++ s ++ ⟨#[10, 41]⟩), .int .i64 0] W (OneC dd na pa f W)) ∧ (∀ W : World, Keep (fun _ => False) w W → Calls Tryz.prog 18 #[.string (⟨#[91]⟩ ++ s ++ ⟨#[10, 93]⟩), .int .i64 0] W (OneC dd nb pb f W)) ∧ (f = 0 ∧ dd = listR ds .nil ∨ f = 10))) :
    Calls Tryz.prog 9 #[.string s] w (BoolPost true w) := by
  go_enter Tryz.func9, Tryz.ntmps9
  go_wp2_with fail
  refine (H1.out _ (Keep.refl _ _)).mono ?_
  rintro e w2 ⟨p, rfl, hd, k2⟩
  have HD2 := Lib.hid hd
  have HX2 := Lib.hid k2
  clear hd k2
  try dsimp only
  go_wp2_with fail
  have HB3 := Lib.hid (show (((w2.alloc (.cells (rawC d p) 27)).alloc (.cells #[.string ⟨#[39]⟩, .string ⟨#[96]⟩, .string ⟨#[44]⟩, .string ⟨#[44, 64]⟩] 9)).alloc (.cells #[.string ⟨#[113, 117, 111, 116, 101]⟩, .string ⟨#[113, 117, 97, 115, 105, 113, 117, 111, 116, 101]⟩, .string ⟨#[117, 110, 113, 117, 111, 116, 101]⟩, .string ⟨#[117, 110, 113, 117, 111, 116, 101, 45, 115, 112, 108, 105, 99, 105, 110, 103]⟩] 9)).heap[w2.heap.size]? = some (.cells (rawC d p) 27 (0, 0)) from bx_old (bx_old (heap_alloc_new _ _) _) _)
  have HBM := Lib.hid (show (((w2.alloc (.cells (rawC d p) 27)).alloc (.cells #[.string ⟨#[39]⟩, .string ⟨#[96]⟩, .string ⟨#[44]⟩, .string ⟨#[44, 64]⟩] 9)).alloc (.cells #[.string ⟨#[113, 117, 111, 116, 101]⟩, .string ⟨#[113, 117, 97, 115, 105, 113, 117, 111, 116, 101]⟩, .string ⟨#[117, 110, 113, 117, 111, 116, 101]⟩, .string ⟨#[117, 110, 113, 117, 111, 116, 101, 45, 115, 112, 108, 105, 99, 105, 110, 103]⟩] 9)).heap[w2.heap.size + 1]? = some (.cells #[.string ⟨#[39]⟩, .string ⟨#[96]⟩, .string ⟨#[44]⟩, .string ⟨#[44, 64]⟩] 9 (0, 0)) from bx_old (by have := heap_alloc_new (w2.alloc (.cells (rawC d p) 27)) (.cells #[.string ⟨#[39]⟩, .string ⟨#[96]⟩, .string ⟨#[44]⟩, .string ⟨#[44, 64]⟩] 9); rwa [World.size_alloc] at this) _)
  have HBW := Lib.hid (show (((w2.alloc (.cells (rawC d p) 27)).alloc (.cells #[.string ⟨#[39]⟩, .string ⟨#[96]⟩, .string ⟨#[44]⟩, .string ⟨#[44, 64]⟩] 9)).alloc (.cells #[.string ⟨#[113, 117, 111, 116, 101]⟩, .string ⟨#[113, 117, 97, 115, 105, 113, 117, 111, 116, 101]⟩, .string ⟨#[117, 110, 113, 117, 111, 116, 101]⟩, .string ⟨#[117, 110, 113, 117, 111, 116, 101, 45, 115, 112, 108, 105, 99, 105, 110, 103]⟩] 9)).heap[w2.heap.size + 1 + 1]? = some (.cells #[.string (mkW 0), .string (mkW 1), .string (mkW 2), .string (mkW 3)] 9 (0, 0)) from by
    have := heap_alloc_new ((w2.alloc (.cells (rawC d p) 27)).alloc (.cells #[.string ⟨#[39]⟩, .string ⟨#[96]⟩, .string ⟨#[44]⟩, .string ⟨#[44, 64]⟩] 9)) (.cells #[.string ⟨#[113, 117, 111, 116, 101]⟩, .string ⟨#[113, 117, 97, 115, 105, 113, 117, 111, 116, 101]⟩, .string ⟨#[117, 110, 113, 117, 111, 116, 101]⟩, .string ⟨#[117, 110, 113, 117, 111, 116, 101, 45, 115, 112, 108, 105, 99, 105, 110, 103]⟩] 9)
    rw [World.size_alloc, World.size_alloc] at this
    exact this)
  have HK3 := Lib.hid (show Keep (fun _ => False) w2 (((w2.alloc (.cells (rawC d p) 27)).alloc (.cells #[.string ⟨#[39]⟩, .string ⟨#[96]⟩, .string ⟨#[44]⟩, .string ⟨#[44, 64]⟩] 9)).alloc (.cells #[.string ⟨#[113, 117, 111, 116, 101]⟩, .string ⟨#[113, 117, 97, 115, 105, 113, 117, 111, 116, 101]⟩, .string ⟨#[117, 110, 113, 117, 111, 116, 101]⟩, .string ⟨#[117, 110, 113, 117, 111, 116, 101, 45, 115, 112, 108, 105, 99, 105, 110, 103]⟩] 9)) from (((Keep.refl _ _).alloc _).alloc _).alloc _)
  generalize (((w2.alloc (.cells (rawC d p) 27)).alloc (.cells #[.string ⟨#[39]⟩, .string ⟨#[96]⟩, .string ⟨#[44]⟩, .string ⟨#[44, 64]⟩] 9)).alloc (.cells #[.string ⟨#[113, 117, 111, 116, 101]⟩, .string ⟨#[113, 117, 97, 115, 105, 113, 117, 111, 116, 101]⟩, .string ⟨#[117, 110, 113, 117, 111, 116, 101]⟩, .string ⟨#[117, 110, 113, 117, 111, 116, 101, 45, 115, 112, 108, 105, 99, 105, 110, 103]⟩] 9)) = w3 at *
  generalize w2.heap.size = B at HB3 HBM HBW ⊢
  have HD3 := Lib.hid (HD2.out.keep0 HK3.out)
  have HKW := Lib.hid (HX2.out.trans HK3.out)
  clear HD2 HX2 HK3
  go_loopw [9, 10, 11, 12, 13, 14, 15] (fun iv _ _ _ _ _ _ wr => ∃ i : Nat, i ≤ 4 ∧ iv = .int .i64 (i : Int) ∧ Keep (fun _ => False) w3 wr) (fun iv _ _ _ _ _ _ _ => 4 - (intOf iv).toNat)
  case atStart => exact ⟨0, Nat.zero_le _, rfl, Keep.refl _ _⟩
  case round =>
    obtain ⟨i, hi, rfl, kr⟩ := hrel
    have HKR := Lib.hid kr
    have hbm := kr.heap HBM.out id
    have hbw := kr.heap HBW.out id
    have HB4 := Lib.hid (kr.heap HB3.out id)
    have HD4 := Lib.hid (HD3.out.keep0 kr)
    clear kr
    by_cases h4 : i < 4
    · have cm : wr.cell? ⟨B + 1, i, none⟩ = some (.string (mkT i)) := by
        rw [cell_of_row wr _ _ _ _ _ hbm]
        match i, h4 with
        | 0, _ | 1, _ | 2, _ | 3, _ => rfl
      have cw : wr.cell? ⟨B + 1 + 1, i, none⟩ = some (.string (mkW i)) := by
        rw [cell_of_row wr _ _ _ _ _ hbw]
        match i, h4 with
        | 0, _ | 1, _ | 2, _ | 3, _ => rfl
      have l1 : (i : Int) < 4 := by omega
      have l2 : (0 : Int) ≤ (i : Int) := by omega
      have HI := Lib.hid h4
      obtain ⟨mt, hmt⟩ : ∃ m, m = mkT i := ⟨_, rfl⟩
      obtain ⟨mw, hmw⟩ : ∃ m, m = mkW i := ⟨_, rfl⟩
      rw [← hmt] at cm
      rw [← hmw] at cw
      have HMT := Lib.hid hmt
      have HMW := Lib.hid hmw
      have HMS := Lib.hid (show mt.size ≤ 2 from by
        rw [hmt]
        match i, h4 with
        | 0, _ | 1, _ | 2, _ | 3, _ => decide)
      clear hbm hbw h4 hmt hmw hi
      by_cases h2 : i = 2
      · have e2 : ((i : Int) == 2) = true := beq_iff_eq.2 (by omega)
        by_cases hs0 : 0 < s.size
        · have g1 : (0 : Int) < (s.size : Int) := by omega
          obtain ⟨d0, hd0⟩ : ∃ d, d = (s.data.toList.getD 0 0).toNat := ⟨_, rfl⟩
          have hx : (Instr.index 9 (.string s) (.int .i64 0)).run Tryz.prog wr = .ok (.int .u8 (d0 : Int)) wr := idx_run s 0 hs0 d0 hd0 wr
          by_cases h64 : d0 = 64
          · have e64 : ((d0 : Int) == 64) = true := beq_iff_eq.2 (by omega)
            obtain ⟨d2, n2, q2, c2, hO, hC⟩ := HM.out i HI.out (mt ++ ⟨#[32]⟩) (by rw [if_pos ⟨h2, (head_at s hs0).2 (hd0.symm.trans h64)⟩, HMT.out])
            have hadd0 := run_string_add_sum (P := Tryz.prog) wr mt ⟨#[32]⟩ (by have := HMS.out; rw [sz32]; omega)
            have hadd := run_string_add_sum (P := Tryz.prog) wr (mt ++ ⟨#[32]⟩) s (by have := HSZ.out; have := HMS.out; rw [ByteArray.size_append, sz32]; omega)
            clear h2 hd0 h64
            have HO := Lib.hid hO
            have HCC := Lib.hid hC
            clear hO hC
            try dsimp only
            go_wp2_with fail
            refine (HO.out _ (HKW.out.trans HKR.out)).mono ?_
            rintro e w5 ⟨p2, rfl, hd5, k5⟩
            have HB6 := Lib.hid (heap_alloc_new w5 (.cells (rawC d2 p2) 27))
            have HD6 := Lib.hid (hd5.keep0 ((Keep.refl _ _).alloc (.cells (rawC d2 p2) 27)))
            have HK6 := Lib.hid (HKR.out.trans (k5.alloc (.cells (rawC d2 p2) 27)))
            have HD46 := Lib.hid (HD4.out.keep0 (k5.alloc (.cells (rawC d2 p2) 27)))
            have HB46 := Lib.hid ((k5.alloc (.cells (rawC d2 p2) 27)).heap HB4.out id)
            have cw6 := ((k5.alloc (.cells (rawC d2 p2) 27)).cell (World.block_lt_of_cell? wr _ cw) id).trans cw
            clear cm cw hd5 k5 HB4 HD4 hadd0 hadd hx e64
            try dsimp only
            go_upto_region 13 with (fail)
            generalize w5.alloc (.cells (rawC d2 p2) 27) = w6 at *
            generalize w5.heap.size = B5 at HB6 ⊢
            obtain ⟨⟨b0, b1, b2, b3, b4, b5⟩, _⟩ := six_cells HB46.out
            obtain ⟨mr, hmr⟩ : ∃ mr, mr = markR (4 + i) d := ⟨_, rfl⟩
            have HMR := Lib.hid hmr
            clear hmr
            go_cut [15] from 71 to 78 (fun v15 wx => Wanted mr w6 v15 wx)
            case first =>
              have HLIST := Lib.hid (fun (b : Nat) (W7 : World) (K : Keep (fun _ => False) w6 W7) (hb : W7.heap[b]? = some (.cells #[.int .i64 6, .int .i32 0, .bool false, .slice none 0 0, .string mw, .slice none 0 0, .int .i64 d.k, .int .i32 d.c, .bool d.neg, .slice p.A p.n p.cp, .string d.t, .slice p.B p.m p.cap] 27 (0, 0))) => (show Calls Tryz.prog 26 #[.slice (some ⟨b, 0, none⟩) 2 2] W7 (fun e w' => ∃ p6 : PV, e = .returned (rawV mr p6) ∧ DatAt (fun x => x < w6.heap.size ∨ W7.heap.size ≤ x) w' mr p6 ∧ Keep (fun _ => False) W7 w') from by
                have hb2 : W7.heap[b]? = some (.cells #[.int .i64 (leafR (.sym (markW (4 + i)))).k, .int .i32 (leafR (.sym (markW (4 + i)))).c, .bool (leafR (.sym (markW (4 + i)))).neg, .slice PV.none.A PV.none.n PV.none.cp, .string (leafR (.sym (markW (4 + i)))).t, .slice PV.none.B PV.none.m PV.none.cap, .int .i64 d.k, .int .i32 d.c, .bool d.neg, .slice p.A p.n p.cp, .string d.t, .slice p.B p.m p.cap] 27 (0, 0)) := by rw [hb, HMW.out]; rfl
                have hl : DatAt (fun x => x < w6.heap.size) W7 (leafR (.sym (markW (4 + i)))) PV.none := (DatAt.leaf (d := .sym (markW (4 + i))) ⟨rfl, rfl, rfl, rfl, rfl, rfl, rfl⟩).1
                refine (rlist_any (fun x => x < w6.heap.size) [leafR (.sym (markW (4 + i))), d] (fun j => if j = 0 then PV.none else p) (some ⟨b, 0, none⟩) 2 2 W7 rfl (Nat.le_refl _) (by omega) (fun _ => ⟨_, _, rfl, pair_items hb2⟩) (pair_ch hl (DatAt.keep0 (DatAt.mono HD46.out (fun b lt _ => lt)) K))).mono ?_
                rintro e w' ⟨p6, rfl, h6, k6⟩
                refine ⟨p6, by rw [HMR.out]; rfl, ?_, k6⟩
                rw [HMR.out]
                refine h6.mono (fun x _ h => ?_)
                rcases h with h | h
                · exact .inl h.1
                · exact .inr (by omega)))
              have KA : Keep (fun _ => False) w6 (w6.alloc (.cells #[.int .i64 6, .int .i32 0, .bool false, .slice none 0 0, .string mw, .slice none 0 0, .int .i64 d.k, .int .i32 d.c, .bool d.neg, .slice p.A p.n p.cp, .string d.t, .slice p.B p.m p.cap] 27)).drew := ((Keep.refl _ _).alloc _).drew
              have KB : Keep (fun _ => False) w6 ((w6.alloc (.cells #[.int .i64 6, .int .i32 0, .bool false, .slice none 0 0, .string mw, .slice none 0 0, .int .i64 d.k, .int .i32 d.c, .bool d.neg, .slice p.A p.n p.cp, .string d.t, .slice p.B p.m p.cap] 27)).alloc (.cells #[.int .i64 0, .int .i32 0, .bool false, .slice none 0 0, .string ⟨#[]⟩, .slice none 0 0] 27)).drew := (((Keep.refl _ _).alloc _).alloc _).drew
              have KC : Keep (fun _ => False) w6 ((w6.alloc (.cells #[.int .i64 0, .int .i32 0, .bool false, .slice none 0 0, .string ⟨#[]⟩, .slice none 0 0] 27)).alloc (.cells #[.int .i64 6, .int .i32 0, .bool false, .slice none 0 0, .string mw, .slice none 0 0, .int .i64 d.k, .int .i32 d.c, .bool d.neg, .slice p.A p.n p.cp, .string d.t, .slice p.B p.m p.cap] 27)).drew := (((Keep.refl _ _).alloc _).alloc _).drew
              have HA := Lib.hid (HLIST.out w6.heap.size _ KA (heap_alloc_new w6 (.cells #[.int .i64 6, .int .i32 0, .bool false, .slice none 0 0, .string mw, .slice none 0 0, .int .i64 d.k, .int .i32 d.c, .bool d.neg, .slice p.A p.n p.cp, .string d.t, .slice p.B p.m p.cap] 27)))
              have HBb := Lib.hid (HLIST.out w6.heap.size _ KB (bx_old (heap_alloc_new w6 (.cells #[.int .i64 6, .int .i32 0, .bool false, .slice none 0 0, .string mw, .slice none 0 0, .int .i64 d.k, .int .i32 d.c, .bool d.neg, .slice p.A p.n p.cp, .string d.t, .slice p.B p.m p.cap] 27)) _))
              have HCc := Lib.hid (HLIST.out (w6.heap.size + 1) _ KC (by have := heap_alloc_new (w6.alloc (.cells #[.int .i64 0, .int .i32 0, .bool false, .slice none 0 0, .string ⟨#[]⟩, .slice none 0 0] 27)) (.cells #[.int .i64 6, .int .i32 0, .bool false, .slice none 0 0, .string mw, .slice none 0 0, .int .i64 d.k, .int .i32 d.c, .bool d.neg, .slice p.A p.n p.cp, .string d.t, .slice p.B p.m p.cap] 27); rw [World.size_alloc] at this; exact this))
              have KZ : Keep (fun _ => False) w6 (w6.alloc (.cells #[.int .i64 0, .int .i32 0, .bool false, .slice none 0 0, .string ⟨#[]⟩, .slice none 0 0] 27)) := (Keep.refl _ _).alloc _
              have cwz := (KZ.cell (World.block_lt_of_cell? w6 _ cw6) id).trans cw6
              obtain ⟨⟨bz0, bz1, bz2, bz3, bz4, bz5⟩, _⟩ := six_cells (KZ.heap HB46.out id)
              have HZB := Lib.hid (show ((w6.alloc (.cells #[.int .i64 6, .int .i32 0, .bool false, .slice none 0 0, .string mw, .slice none 0 0, .int .i64 d.k, .int .i32 d.c, .bool d.neg, .slice p.A p.n p.cp, .string d.t, .slice p.B p.m p.cap] 27)).alloc (.cells #[.int .i64 0, .int .i32 0, .bool false, .slice none 0 0, .string ⟨#[]⟩, .slice none 0 0] 27)).drew.heap[w6.heap.size + 1]? = some (.cells #[.int .i64 0, .int .i32 0, .bool false, .slice none 0 0, .string ⟨#[]⟩, .slice none 0 0] 27 (0, 0)) from by have := heap_alloc_new (w6.alloc (.cells #[.int .i64 6, .int .i32 0, .bool false, .slice none 0 0, .string mw, .slice none 0 0, .int .i64 d.k, .int .i32 d.c, .bool d.neg, .slice p.A p.n p.cp, .string d.t, .slice p.B p.m p.cap] 27)) (.cells #[.int .i64 0, .int .i32 0, .bool false, .slice none 0 0, .string ⟨#[]⟩, .slice none 0 0] 27); rw [World.size_alloc] at this; exact this)
              have HZC := Lib.hid (show ((w6.alloc (.cells #[.int .i64 0, .int .i32 0, .bool false, .slice none 0 0, .string ⟨#[]⟩, .slice none 0 0] 27)).alloc (.cells #[.int .i64 6, .int .i32 0, .bool false, .slice none 0 0, .string mw, .slice none 0 0, .int .i64 d.k, .int .i32 d.c, .bool d.neg, .slice p.A p.n p.cp, .string d.t, .slice p.B p.m p.cap] 27)).drew.heap[w6.heap.size]? = some (.cells #[.int .i64 0, .int .i32 0, .bool false, .slice none 0 0, .string ⟨#[]⟩, .slice none 0 0] 27 (0, 0)) from bx_old (heap_alloc_new w6 (.cells #[.int .i64 0, .int .i32 0, .bool false, .slice none 0 0, .string ⟨#[]⟩, .slice none 0 0] 27)) _)
              have hs2 : ((w6.alloc (.cells #[.int .i64 6, .int .i32 0, .bool false, .slice none 0 0, .string mw, .slice none 0 0, .int .i64 d.k, .int .i32 d.c, .bool d.neg, .slice p.A p.n p.cp, .string d.t, .slice p.B p.m p.cap] 27)).alloc (.cells #[.int .i64 0, .int .i32 0, .bool false, .slice none 0 0, .string ⟨#[]⟩, .slice none 0 0] 27)).drew.heap.size = w6.heap.size + 1 + 1 := by show ((w6.alloc (.cells #[.int .i64 6, .int .i32 0, .bool false, .slice none 0 0, .string mw, .slice none 0 0, .int .i64 d.k, .int .i32 d.c, .bool d.neg, .slice p.A p.n p.cp, .string d.t, .slice p.B p.m p.cap] 27)).alloc (.cells #[.int .i64 0, .int .i32 0, .bool false, .slice none 0 0, .string ⟨#[]⟩, .slice none 0 0] 27)).heap.size = _; rw [World.size_alloc, World.size_alloc]
              have hs3 : ((w6.alloc (.cells #[.int .i64 0, .int .i32 0, .bool false, .slice none 0 0, .string ⟨#[]⟩, .slice none 0 0] 27)).alloc (.cells #[.int .i64 6, .int .i32 0, .bool false, .slice none 0 0, .string mw, .slice none 0 0, .int .i64 d.k, .int .i32 d.c, .bool d.neg, .slice p.A p.n p.cp, .string d.t, .slice p.B p.m p.cap] 27)).drew.heap.size = w6.heap.size + 1 + 1 := by show ((w6.alloc (.cells #[.int .i64 0, .int .i32 0, .bool false, .slice none 0 0, .string ⟨#[]⟩, .slice none 0 0] 27)).alloc (.cells #[.int .i64 6, .int .i32 0, .bool false, .slice none 0 0, .string mw, .slice none 0 0, .int .i64 d.k, .int .i32 d.c, .bool d.neg, .slice p.A p.n p.cp, .string d.t, .slice p.B p.m p.cap] 27)).heap.size = _; rw [World.size_alloc, World.size_alloc]
              have HS23 := Lib.hid (And.intro hs2 hs3)
              clear hs2 hs3
              go_region_with (go_at_call 26; first
                | (with_reducible refine HA.out.mono ?_; rintro e w7 ⟨p6, rfl, hd6, k7⟩; have HW := Lib.hid (Wanted.new hd6 (KA.trans k7)))
                | (with_reducible refine HBb.out.mono ?_; rintro e w7 ⟨p6, rfl, hd6, k7⟩; have HW := Lib.hid (Wanted.old hd6 (KB.trans k7) (k7.heap HZB.out id) (by omega) (by rw [HS23.out.1]; omega)); obtain ⟨⟨z0, z1, z2, z3, z4, z5⟩, y0, y1, y2, y3, y4, y5⟩ := six_cells (k7.heap HZB.out id))
                | (with_reducible refine HCc.out.mono ?_; rintro e w7 ⟨p6, rfl, hd6, k7⟩; have HW := Lib.hid (Wanted.old hd6 (KC.trans k7) (k7.heap HZC.out id) (by omega) (by rw [HS23.out.2]; omega)); obtain ⟨⟨z0, z1, z2, z3, z4, z5⟩, y0, y1, y2, y3, y4, y5⟩ := six_cells (k7.heap HZC.out id)))
              all_goals (go_wp2_with fail)
              all_goals go_meet
              all_goals exact HW.out
            case rest =>
              obtain ⟨b, p6, rfl, hb, hdw, Kx⟩ := hcut
              have HB6x := Lib.hid (Kx.heap HB6.out id)
              have HKx := Lib.hid (HK6.out.trans Kx)
              have HD6x := Lib.hid (HD6.out.keep0 Kx)
              have HDW := Lib.hid hdw
              obtain ⟨⟨x0, x1, x2, x3, x4, x5⟩, _⟩ := six_cells HB6x.out
              obtain ⟨⟨y0, y1, y2, y3, y4, y5⟩, _⟩ := six_cells hb
              clear b0 b1 b2 b3 b4 b5 cw6 hdw hb Kx
              by_cases hc : c = 0
              · rcases HCC.out hc with ⟨hc2, hd2⟩ | hc2
                · have HS := Lib.hid (show Calls Tryz.prog 20 #[rawV d2 p2, rawV mr p6] wc (BoolPost true wc) from by rw [← eqR_true.2 (show d2 = mr by rw [HMR.out]; exact hd2)]; exact rsame_any HD6x.out mr p6 _ (Keep.refl _ _) HDW.out)
                  subst hc hc2
                  clear hd2
                  try dsimp only
                  go_wp2_with fail
                  refine HS.out.mono ?_
                  rintro e w8 ⟨rfl, k8⟩
                  have HK8 := Lib.hid (HKx.out.trans k8)
                  clear k8 x0 x1 x2 x3 x4 x5 y0 y1 y2 y3 y4 y5
                  try dsimp only
                  go_wp2_with fail
                  go_roundw
                  case rel => exact ⟨i + 1, by have := HI.out; omega, by go_num, HK8.out⟩
                  case measure => have := HI.out; simp only [intOf]; omega
                · subst hc hc2
                  clear x0 x1 x2 x3 x4 x5 y0 y1 y2 y3 y4 y5
                  try dsimp only
                  go_wp2_with fail
                  go_roundw
                  case rel => exact ⟨i + 1, by have := HI.out; omega, by go_num, HKx.out⟩
                  case measure => have := HI.out; simp only [intOf]; omega
              · have hcb : (c == 0) = false := beq_eq_false_iff_ne.2 hc
                clear hc x0 x1 x2 x3 x4 x5 y0 y1 y2 y3 y4 y5
                try dsimp only
                go_wp2_with fail
                go_roundw
                case rel => exact ⟨i + 1, by have := HI.out; omega, by go_num, HKx.out⟩
                case measure => have := HI.out; simp only [intOf]; omega
          · have e64 : ((d0 : Int) == 64) = false := beq_eq_false_iff_ne.2 (by omega)
            obtain ⟨d2, n2, q2, c2, hO, hC⟩ := HM.out i HI.out mt (by rw [if_neg (fun h => h64 (hd0.trans ((head_at s hs0).1 h.2)))]; exact HMT.out)
            have hadd := run_string_add_sum (P := Tryz.prog) wr mt s (by have := HSZ.out; have := HMS.out; omega)
            clear h2 hd0 h64
            have HO := Lib.hid hO
            have HCC := Lib.hid hC
            clear hO hC
            try dsimp only
            go_wp2_with fail
            refine (HO.out _ (HKW.out.trans HKR.out)).mono ?_
            rintro e w5 ⟨p2, rfl, hd5, k5⟩
            have HB6 := Lib.hid (heap_alloc_new w5 (.cells (rawC d2 p2) 27))
            have HD6 := Lib.hid (hd5.keep0 ((Keep.refl _ _).alloc (.cells (rawC d2 p2) 27)))
            have HK6 := Lib.hid (HKR.out.trans (k5.alloc (.cells (rawC d2 p2) 27)))
            have HD46 := Lib.hid (HD4.out.keep0 (k5.alloc (.cells (rawC d2 p2) 27)))
            have HB46 := Lib.hid ((k5.alloc (.cells (rawC d2 p2) 27)).heap HB4.out id)
            have cw6 := ((k5.alloc (.cells (rawC d2 p2) 27)).cell (World.block_lt_of_cell? wr _ cw) id).trans cw
            clear cm cw hd5 k5 HB4 HD4 hadd hx e64
            try dsimp only
            go_upto_region 13 with (fail)
            generalize w5.alloc (.cells (rawC d2 p2) 27) = w6 at *
            generalize w5.heap.size = B5 at HB6 ⊢
            obtain ⟨⟨b0, b1, b2, b3, b4, b5⟩, _⟩ := six_cells HB46.out
            obtain ⟨mr, hmr⟩ : ∃ mr, mr = markR (4 + i) d := ⟨_, rfl⟩
            have HMR := Lib.hid hmr
            clear hmr
            go_cut [15] from 71 to 78 (fun v15 wx => Wanted mr w6 v15 wx)
            case first =>
              have HLIST := Lib.hid (fun (b : Nat) (W7 : World) (K : Keep (fun _ => False) w6 W7) (hb : W7.heap[b]? = some (.cells #[.int .i64 6, .int .i32 0, .bool false, .slice none 0 0, .string mw, .slice none 0 0, .int .i64 d.k, .int .i32 d.c, .bool d.neg, .slice p.A p.n p.cp, .string d.t, .slice p.B p.m p.cap] 27 (0, 0))) => (show Calls Tryz.prog 26 #[.slice (some ⟨b, 0, none⟩) 2 2] W7 (fun e w' => ∃ p6 : PV, e = .returned (rawV mr p6) ∧ DatAt (fun x => x < w6.heap.size ∨ W7.heap.size ≤ x) w' mr p6 ∧ Keep (fun _ => False) W7 w') from by
                have hb2 : W7.heap[b]? = some (.cells #[.int .i64 (leafR (.sym (markW (4 + i)))).k, .int .i32 (leafR (.sym (markW (4 + i)))).c, .bool (leafR (.sym (markW (4 + i)))).neg, .slice PV.none.A PV.none.n PV.none.cp, .string (leafR (.sym (markW (4 + i)))).t, .slice PV.none.B PV.none.m PV.none.cap, .int .i64 d.k, .int .i32 d.c, .bool d.neg, .slice p.A p.n p.cp, .string d.t, .slice p.B p.m p.cap] 27 (0, 0)) := by rw [hb, HMW.out]; rfl
                have hl : DatAt (fun x => x < w6.heap.size) W7 (leafR (.sym (markW (4 + i)))) PV.none := (DatAt.leaf (d := .sym (markW (4 + i))) ⟨rfl, rfl, rfl, rfl, rfl, rfl, rfl⟩).1
                refine (rlist_any (fun x => x < w6.heap.size) [leafR (.sym (markW (4 + i))), d] (fun j => if j = 0 then PV.none else p) (some ⟨b, 0, none⟩) 2 2 W7 rfl (Nat.le_refl _) (by omega) (fun _ => ⟨_, _, rfl, pair_items hb2⟩) (pair_ch hl (DatAt.keep0 (DatAt.mono HD46.out (fun b lt _ => lt)) K))).mono ?_
                rintro e w' ⟨p6, rfl, h6, k6⟩
                refine ⟨p6, by rw [HMR.out]; rfl, ?_, k6⟩
                rw [HMR.out]
                refine h6.mono (fun x _ h => ?_)
                rcases h with h | h
                · exact .inl h.1
                · exact .inr (by omega)))
              have KA : Keep (fun _ => False) w6 (w6.alloc (.cells #[.int .i64 6, .int .i32 0, .bool false, .slice none 0 0, .string mw, .slice none 0 0, .int .i64 d.k, .int .i32 d.c, .bool d.neg, .slice p.A p.n p.cp, .string d.t, .slice p.B p.m p.cap] 27)).drew := ((Keep.refl _ _).alloc _).drew
              have KB : Keep (fun _ => False) w6 ((w6.alloc (.cells #[.int .i64 6, .int .i32 0, .bool false, .slice none 0 0, .string mw, .slice none 0 0, .int .i64 d.k, .int .i32 d.c, .bool d.neg, .slice p.A p.n p.cp, .string d.t, .slice p.B p.m p.cap] 27)).alloc (.cells #[.int .i64 0, .int .i32 0, .bool false, .slice none 0 0, .string ⟨#[]⟩, .slice none 0 0] 27)).drew := (((Keep.refl _ _).alloc _).alloc _).drew
              have KC : Keep (fun _ => False) w6 ((w6.alloc (.cells #[.int .i64 0, .int .i32 0, .bool false, .slice none 0 0, .string ⟨#[]⟩, .slice none 0 0] 27)).alloc (.cells #[.int .i64 6, .int .i32 0, .bool false, .slice none 0 0, .string mw, .slice none 0 0, .int .i64 d.k, .int .i32 d.c, .bool d.neg, .slice p.A p.n p.cp, .string d.t, .slice p.B p.m p.cap] 27)).drew := (((Keep.refl _ _).alloc _).alloc _).drew
              have HA := Lib.hid (HLIST.out w6.heap.size _ KA (heap_alloc_new w6 (.cells #[.int .i64 6, .int .i32 0, .bool false, .slice none 0 0, .string mw, .slice none 0 0, .int .i64 d.k, .int .i32 d.c, .bool d.neg, .slice p.A p.n p.cp, .string d.t, .slice p.B p.m p.cap] 27)))
              have HBb := Lib.hid (HLIST.out w6.heap.size _ KB (bx_old (heap_alloc_new w6 (.cells #[.int .i64 6, .int .i32 0, .bool false, .slice none 0 0, .string mw, .slice none 0 0, .int .i64 d.k, .int .i32 d.c, .bool d.neg, .slice p.A p.n p.cp, .string d.t, .slice p.B p.m p.cap] 27)) _))
              have HCc := Lib.hid (HLIST.out (w6.heap.size + 1) _ KC (by have := heap_alloc_new (w6.alloc (.cells #[.int .i64 0, .int .i32 0, .bool false, .slice none 0 0, .string ⟨#[]⟩, .slice none 0 0] 27)) (.cells #[.int .i64 6, .int .i32 0, .bool false, .slice none 0 0, .string mw, .slice none 0 0, .int .i64 d.k, .int .i32 d.c, .bool d.neg, .slice p.A p.n p.cp, .string d.t, .slice p.B p.m p.cap] 27); rw [World.size_alloc] at this; exact this))
              have KZ : Keep (fun _ => False) w6 (w6.alloc (.cells #[.int .i64 0, .int .i32 0, .bool false, .slice none 0 0, .string ⟨#[]⟩, .slice none 0 0] 27)) := (Keep.refl _ _).alloc _
              have cwz := (KZ.cell (World.block_lt_of_cell? w6 _ cw6) id).trans cw6
              obtain ⟨⟨bz0, bz1, bz2, bz3, bz4, bz5⟩, _⟩ := six_cells (KZ.heap HB46.out id)
              have HZB := Lib.hid (show ((w6.alloc (.cells #[.int .i64 6, .int .i32 0, .bool false, .slice none 0 0, .string mw, .slice none 0 0, .int .i64 d.k, .int .i32 d.c, .bool d.neg, .slice p.A p.n p.cp, .string d.t, .slice p.B p.m p.cap] 27)).alloc (.cells #[.int .i64 0, .int .i32 0, .bool false, .slice none 0 0, .string ⟨#[]⟩, .slice none 0 0] 27)).drew.heap[w6.heap.size + 1]? = some (.cells #[.int .i64 0, .int .i32 0, .bool false, .slice none 0 0, .string ⟨#[]⟩, .slice none 0 0] 27 (0, 0)) from by have := heap_alloc_new (w6.alloc (.cells #[.int .i64 6, .int .i32 0, .bool false, .slice none 0 0, .string mw, .slice none 0 0, .int .i64 d.k, .int .i32 d.c, .bool d.neg, .slice p.A p.n p.cp, .string d.t, .slice p.B p.m p.cap] 27)) (.cells #[.int .i64 0, .int .i32 0, .bool false, .slice none 0 0, .string ⟨#[]⟩, .slice none 0 0] 27); rw [World.size_alloc] at this; exact this)
              have HZC := Lib.hid (show ((w6.alloc (.cells #[.int .i64 0, .int .i32 0, .bool false, .slice none 0 0, .string ⟨#[]⟩, .slice none 0 0] 27)).alloc (.cells #[.int .i64 6, .int .i32 0, .bool false, .slice none 0 0, .string mw, .slice none 0 0, .int .i64 d.k, .int .i32 d.c, .bool d.neg, .slice p.A p.n p.cp, .string d.t, .slice p.B p.m p.cap] 27)).drew.heap[w6.heap.size]? = some (.cells #[.int .i64 0, .int .i32 0, .bool false, .slice none 0 0, .string ⟨#[]⟩, .slice none 0 0] 27 (0, 0)) from bx_old (heap_alloc_new w6 (.cells #[.int .i64 0, .int .i32 0, .bool false, .slice none 0 0, .string ⟨#[]⟩, .slice none 0 0] 27)) _)
              have hs2 : ((w6.alloc (.cells #[.int .i64 6, .int .i32 0, .bool false, .slice none 0 0, .string mw, .slice none 0 0, .int .i64 d.k, .int .i32 d.c, .bool d.neg, .slice p.A p.n p.cp, .string d.t, .slice p.B p.m p.cap] 27)).alloc (.cells #[.int .i64 0, .int .i32 0, .bool false, .slice none 0 0, .string ⟨#[]⟩, .slice none 0 0] 27)).drew.heap.size = w6.heap.size + 1 + 1 := by show ((w6.alloc (.cells #[.int .i64 6, .int .i32 0, .bool false, .slice none 0 0, .string mw, .slice none 0 0, .int .i64 d.k, .int .i32 d.c, .bool d.neg, .slice p.A p.n p.cp, .string d.t, .slice p.B p.m p.cap] 27)).alloc (.cells #[.int .i64 0, .int .i32 0, .bool false, .slice none 0 0, .string ⟨#[]⟩, .slice none 0 0] 27)).heap.size = _; rw [World.size_alloc, World.size_alloc]
              have hs3 : ((w6.alloc (.cells #[.int .i64 0, .int .i32 0, .bool false, .slice none 0 0, .string ⟨#[]⟩, .slice none 0 0] 27)).alloc (.cells #[.int .i64 6, .int .i32 0, .bool false, .slice none 0 0, .string mw, .slice none 0 0, .int .i64 d.k, .int .i32 d.c, .bool d.neg, .slice p.A p.n p.cp, .string d.t, .slice p.B p.m p.cap] 27)).drew.heap.size = w6.heap.size + 1 + 1 := by show ((w6.alloc (.cells #[.int .i64 0, .int .i32 0, .bool false, .slice none 0 0, .string ⟨#[]⟩, .slice none 0 0] 27)).alloc (.cells #[.int .i64 6, .int .i32 0, .bool false, .slice none 0 0, .string mw, .slice none 0 0, .int .i64 d.k, .int .i32 d.c, .bool d.neg, .slice p.A p.n p.cp, .string d.t, .slice p.B p.m p.cap] 27)).heap.size = _; rw [World.size_alloc, World.size_alloc]
              have HS23 := Lib.hid (And.intro hs2 hs3)
              clear hs2 hs3
              go_region_with (go_at_call 26; first
                | (with_reducible refine HA.out.mono ?_; rintro e w7 ⟨p6, rfl, hd6, k7⟩; have HW := Lib.hid (Wanted.new hd6 (KA.trans k7)))
                | (with_reducible refine HBb.out.mono ?_; rintro e w7 ⟨p6, rfl, hd6, k7⟩; have HW := Lib.hid (Wanted.old hd6 (KB.trans k7) (k7.heap HZB.out id) (by omega) (by rw [HS23.out.1]; omega)); obtain ⟨⟨z0, z1, z2, z3, z4, z5⟩, y0, y1, y2, y3, y4, y5⟩ := six_cells (k7.heap HZB.out id))
                | (with_reducible refine HCc.out.mono ?_; rintro e w7 ⟨p6, rfl, hd6, k7⟩; have HW := Lib.hid (Wanted.old hd6 (KC.trans k7) (k7.heap HZC.out id) (by omega) (by rw [HS23.out.2]; omega)); obtain ⟨⟨z0, z1, z2, z3, z4, z5⟩, y0, y1, y2, y3, y4, y5⟩ := six_cells (k7.heap HZC.out id)))
              all_goals (go_wp2_with fail)
              all_goals go_meet
              all_goals exact HW.out
            case rest =>
              obtain ⟨b, p6, rfl, hb, hdw, Kx⟩ := hcut
              have HB6x := Lib.hid (Kx.heap HB6.out id)
              have HKx := Lib.hid (HK6.out.trans Kx)
              have HD6x := Lib.hid (HD6.out.keep0 Kx)
              have HDW := Lib.hid hdw
              obtain ⟨⟨x0, x1, x2, x3, x4, x5⟩, _⟩ := six_cells HB6x.out
              obtain ⟨⟨y0, y1, y2, y3, y4, y5⟩, _⟩ := six_cells hb
              clear b0 b1 b2 b3 b4 b5 cw6 hdw hb Kx
              by_cases hc : c = 0
              · rcases HCC.out hc with ⟨hc2, hd2⟩ | hc2
                · have HS := Lib.hid (show Calls Tryz.prog 20 #[rawV d2 p2, rawV mr p6] wc (BoolPost true wc) from by rw [← eqR_true.2 (show d2 = mr by rw [HMR.out]; exact hd2)]; exact rsame_any HD6x.out mr p6 _ (Keep.refl _ _) HDW.out)
                  subst hc hc2
                  clear hd2
                  try dsimp only
                  go_wp2_with fail
                  refine HS.out.mono ?_
                  rintro e w8 ⟨rfl, k8⟩
                  have HK8 := Lib.hid (HKx.out.trans k8)
                  clear k8 x0 x1 x2 x3 x4 x5 y0 y1 y2 y3 y4 y5
                  try dsimp only
                  go_wp2_with fail
                  go_roundw
                  case rel => exact ⟨i + 1, by have := HI.out; omega, by go_num, HK8.out⟩
                  case measure => have := HI.out; simp only [intOf]; omega
                · subst hc hc2
                  clear x0 x1 x2 x3 x4 x5 y0 y1 y2 y3 y4 y5
                  try dsimp only
                  go_wp2_with fail
                  go_roundw
                  case rel => exact ⟨i + 1, by have := HI.out; omega, by go_num, HKx.out⟩
                  case measure => have := HI.out; simp only [intOf]; omega
              · have hcb : (c == 0) = false := beq_eq_false_iff_ne.2 hc
                clear hc x0 x1 x2 x3 x4 x5 y0 y1 y2 y3 y4 y5
                try dsimp only
                go_wp2_with fail
                go_roundw
                case rel => exact ⟨i + 1, by have := HI.out; omega, by go_num, HKx.out⟩
                case measure => have := HI.out; simp only [intOf]; omega
        · have g1 : decide ((0 : Int) < (s.size : Int)) = false := decide_eq_false (by omega)
          have g2 : decide (0 < s.size) = false := decide_eq_false hs0
          obtain ⟨d2, n2, q2, c2, hO, hC⟩ := HM.out i HI.out mt (by rw [if_neg (fun h => head_no s hs0 h.2)]; exact HMT.out)
          have hadd := run_string_add_sum (P := Tryz.prog) wr mt s (by have := HSZ.out; have := HMS.out; omega)
          clear h2 hs0
          have HO := Lib.hid hO
          have HCC := Lib.hid hC
          clear hO hC
          try dsimp only
          go_wp2_with fail
          refine (HO.out _ (HKW.out.trans HKR.out)).mono ?_
          rintro e w5 ⟨p2, rfl, hd5, k5⟩
          have HB6 := Lib.hid (heap_alloc_new w5 (.cells (rawC d2 p2) 27))
          have HD6 := Lib.hid (hd5.keep0 ((Keep.refl _ _).alloc (.cells (rawC d2 p2) 27)))
          have HK6 := Lib.hid (HKR.out.trans (k5.alloc (.cells (rawC d2 p2) 27)))
          have HD46 := Lib.hid (HD4.out.keep0 (k5.alloc (.cells (rawC d2 p2) 27)))
          have HB46 := Lib.hid ((k5.alloc (.cells (rawC d2 p2) 27)).heap HB4.out id)
          have cw6 := ((k5.alloc (.cells (rawC d2 p2) 27)).cell (World.block_lt_of_cell? wr _ cw) id).trans cw
          clear cm cw hd5 k5 HB4 HD4 hadd
          try dsimp only
          go_upto_region 13 with (fail)
          generalize w5.alloc (.cells (rawC d2 p2) 27) = w6 at *
          generalize w5.heap.size = B5 at HB6 ⊢
          obtain ⟨⟨b0, b1, b2, b3, b4, b5⟩, _⟩ := six_cells HB46.out
          obtain ⟨mr, hmr⟩ : ∃ mr, mr = markR (4 + i) d := ⟨_, rfl⟩
          have HMR := Lib.hid hmr
          clear hmr
          go_cut [15] from 71 to 78 (fun v15 wx => Wanted mr w6 v15 wx)
          case first =>
            have HLIST := Lib.hid (fun (b : Nat) (W7 : World) (K : Keep (fun _ => False) w6 W7) (hb : W7.heap[b]? = some (.cells #[.int .i64 6, .int .i32 0, .bool false, .slice none 0 0, .string mw, .slice none 0 0, .int .i64 d.k, .int .i32 d.c, .bool d.neg, .slice p.A p.n p.cp, .string d.t, .slice p.B p.m p.cap] 27 (0, 0))) => (show Calls Tryz.prog 26 #[.slice (some ⟨b, 0, none⟩) 2 2] W7 (fun e w' => ∃ p6 : PV, e = .returned (rawV mr p6) ∧ DatAt (fun x => x < w6.heap.size ∨ W7.heap.size ≤ x) w' mr p6 ∧ Keep (fun _ => False) W7 w') from by
              have hb2 : W7.heap[b]? = some (.cells #[.int .i64 (leafR (.sym (markW (4 + i)))).k, .int .i32 (leafR (.sym (markW (4 + i)))).c, .bool (leafR (.sym (markW (4 + i)))).neg, .slice PV.none.A PV.none.n PV.none.cp, .string (leafR (.sym (markW (4 + i)))).t, .slice PV.none.B PV.none.m PV.none.cap, .int .i64 d.k, .int .i32 d.c, .bool d.neg, .slice p.A p.n p.cp, .string d.t, .slice p.B p.m p.cap] 27 (0, 0)) := by rw [hb, HMW.out]; rfl
              have hl : DatAt (fun x => x < w6.heap.size) W7 (leafR (.sym (markW (4 + i)))) PV.none := (DatAt.leaf (d := .sym (markW (4 + i))) ⟨rfl, rfl, rfl, rfl, rfl, rfl, rfl⟩).1
              refine (rlist_any (fun x => x < w6.heap.size) [leafR (.sym (markW (4 + i))), d] (fun j => if j = 0 then PV.none else p) (some ⟨b, 0, none⟩) 2 2 W7 rfl (Nat.le_refl _) (by omega) (fun _ => ⟨_, _, rfl, pair_items hb2⟩) (pair_ch hl (DatAt.keep0 (DatAt.mono HD46.out (fun b lt _ => lt)) K))).mono ?_
              rintro e w' ⟨p6, rfl, h6, k6⟩
              refine ⟨p6, by rw [HMR.out]; rfl, ?_, k6⟩
              rw [HMR.out]
              refine h6.mono (fun x _ h => ?_)
              rcases h with h | h
              · exact .inl h.1
              · exact .inr (by omega)))
            have KA : Keep (fun _ => False) w6 (w6.alloc (.cells #[.int .i64 6, .int .i32 0, .bool false, .slice none 0 0, .string mw, .slice none 0 0, .int .i64 d.k, .int .i32 d.c, .bool d.neg, .slice p.A p.n p.cp, .string d.t, .slice p.B p.m p.cap] 27)).drew := ((Keep.refl _ _).alloc _).drew
            have KB : Keep (fun _ => False) w6 ((w6.alloc (.cells #[.int .i64 6, .int .i32 0, .bool false, .slice none 0 0, .string mw, .slice none 0 0, .int .i64 d.k, .int .i32 d.c, .bool d.neg, .slice p.A p.n p.cp, .string d.t, .slice p.B p.m p.cap] 27)).alloc (.cells #[.int .i64 0, .int .i32 0, .bool false, .slice none 0 0, .string ⟨#[]⟩, .slice none 0 0] 27)).drew := (((Keep.refl _ _).alloc _).alloc _).drew
            have KC : Keep (fun _ => False) w6 ((w6.alloc (.cells #[.int .i64 0, .int .i32 0, .bool false, .slice none 0 0, .string ⟨#[]⟩, .slice none 0 0] 27)).alloc (.cells #[.int .i64 6, .int .i32 0, .bool false, .slice none 0 0, .string mw, .slice none 0 0, .int .i64 d.k, .int .i32 d.c, .bool d.neg, .slice p.A p.n p.cp, .string d.t, .slice p.B p.m p.cap] 27)).drew := (((Keep.refl _ _).alloc _).alloc _).drew
            have HA := Lib.hid (HLIST.out w6.heap.size _ KA (heap_alloc_new w6 (.cells #[.int .i64 6, .int .i32 0, .bool false, .slice none 0 0, .string mw, .slice none 0 0, .int .i64 d.k, .int .i32 d.c, .bool d.neg, .slice p.A p.n p.cp, .string d.t, .slice p.B p.m p.cap] 27)))
            have HBb := Lib.hid (HLIST.out w6.heap.size _ KB (bx_old (heap_alloc_new w6 (.cells #[.int .i64 6, .int .i32 0, .bool false, .slice none 0 0, .string mw, .slice none 0 0, .int .i64 d.k, .int .i32 d.c, .bool d.neg, .slice p.A p.n p.cp, .string d.t, .slice p.B p.m p.cap] 27)) _))
            have HCc := Lib.hid (HLIST.out (w6.heap.size + 1) _ KC (by have := heap_alloc_new (w6.alloc (.cells #[.int .i64 0, .int .i32 0, .bool false, .slice none 0 0, .string ⟨#[]⟩, .slice none 0 0] 27)) (.cells #[.int .i64 6, .int .i32 0, .bool false, .slice none 0 0, .string mw, .slice none 0 0, .int .i64 d.k, .int .i32 d.c, .bool d.neg, .slice p.A p.n p.cp, .string d.t, .slice p.B p.m p.cap] 27); rw [World.size_alloc] at this; exact this))
            have KZ : Keep (fun _ => False) w6 (w6.alloc (.cells #[.int .i64 0, .int .i32 0, .bool false, .slice none 0 0, .string ⟨#[]⟩, .slice none 0 0] 27)) := (Keep.refl _ _).alloc _
            have cwz := (KZ.cell (World.block_lt_of_cell? w6 _ cw6) id).trans cw6
            obtain ⟨⟨bz0, bz1, bz2, bz3, bz4, bz5⟩, _⟩ := six_cells (KZ.heap HB46.out id)
            have HZB := Lib.hid (show ((w6.alloc (.cells #[.int .i64 6, .int .i32 0, .bool false, .slice none 0 0, .string mw, .slice none 0 0, .int .i64 d.k, .int .i32 d.c, .bool d.neg, .slice p.A p.n p.cp, .string d.t, .slice p.B p.m p.cap] 27)).alloc (.cells #[.int .i64 0, .int .i32 0, .bool false, .slice none 0 0, .string ⟨#[]⟩, .slice none 0 0] 27)).drew.heap[w6.heap.size + 1]? = some (.cells #[.int .i64 0, .int .i32 0, .bool false, .slice none 0 0, .string ⟨#[]⟩, .slice none 0 0] 27 (0, 0)) from by have := heap_alloc_new (w6.alloc (.cells #[.int .i64 6, .int .i32 0, .bool false, .slice none 0 0, .string mw, .slice none 0 0, .int .i64 d.k, .int .i32 d.c, .bool d.neg, .slice p.A p.n p.cp, .string d.t, .slice p.B p.m p.cap] 27)) (.cells #[.int .i64 0, .int .i32 0, .bool false, .slice none 0 0, .string ⟨#[]⟩, .slice none 0 0] 27); rw [World.size_alloc] at this; exact this)
            have HZC := Lib.hid (show ((w6.alloc (.cells #[.int .i64 0, .int .i32 0, .bool false, .slice none 0 0, .string ⟨#[]⟩, .slice none 0 0] 27)).alloc (.cells #[.int .i64 6, .int .i32 0, .bool false, .slice none 0 0, .string mw, .slice none 0 0, .int .i64 d.k, .int .i32 d.c, .bool d.neg, .slice p.A p.n p.cp, .string d.t, .slice p.B p.m p.cap] 27)).drew.heap[w6.heap.size]? = some (.cells #[.int .i64 0, .int .i32 0, .bool false, .slice none 0 0, .string ⟨#[]⟩, .slice none 0 0] 27 (0, 0)) from bx_old (heap_alloc_new w6 (.cells #[.int .i64 0, .int .i32 0, .bool false, .slice none 0 0, .string ⟨#[]⟩, .slice none 0 0] 27)) _)
            have hs2 : ((w6.alloc (.cells #[.int .i64 6, .int .i32 0, .bool false, .slice none 0 0, .string mw, .slice none 0 0, .int .i64 d.k, .int .i32 d.c, .bool d.neg, .slice p.A p.n p.cp, .string d.t, .slice p.B p.m p.cap] 27)).alloc (.cells #[.int .i64 0, .int .i32 0, .bool false, .slice none 0 0, .string ⟨#[]⟩, .slice none 0 0] 27)).drew.heap.size = w6.heap.size + 1 + 1 := by show ((w6.alloc (.cells #[.int .i64 6, .int .i32 0, .bool false, .slice none 0 0, .string mw, .slice none 0 0, .int .i64 d.k, .int .i32 d.c, .bool d.neg, .slice p.A p.n p.cp, .string d.t, .slice p.B p.m p.cap] 27)).alloc (.cells #[.int .i64 0, .int .i32 0, .bool false, .slice none 0 0, .string ⟨#[]⟩, .slice none 0 0] 27)).heap.size = _; rw [World.size_alloc, World.size_alloc]
            have hs3 : ((w6.alloc (.cells #[.int .i64 0, .int .i32 0, .bool false, .slice none 0 0, .string ⟨#[]⟩, .slice none 0 0] 27)).alloc (.cells #[.int .i64 6, .int .i32 0, .bool false, .slice none 0 0, .string mw, .slice none 0 0, .int .i64 d.k, .int .i32 d.c, .bool d.neg, .slice p.A p.n p.cp, .string d.t, .slice p.B p.m p.cap] 27)).drew.heap.size = w6.heap.size + 1 + 1 := by show ((w6.alloc (.cells #[.int .i64 0, .int .i32 0, .bool false, .slice none 0 0, .string ⟨#[]⟩, .slice none 0 0] 27)).alloc (.cells #[.int .i64 6, .int .i32 0, .bool false, .slice none 0 0, .string mw, .slice none 0 0, .int .i64 d.k, .int .i32 d.c, .bool d.neg, .slice p.A p.n p.cp, .string d.t, .slice p.B p.m p.cap] 27)).heap.size = _; rw [World.size_alloc, World.size_alloc]
            have HS23 := Lib.hid (And.intro hs2 hs3)
            clear hs2 hs3
            go_region_with (go_at_call 26; first
              | (with_reducible refine HA.out.mono ?_; rintro e w7 ⟨p6, rfl, hd6, k7⟩; have HW := Lib.hid (Wanted.new hd6 (KA.trans k7)))
              | (with_reducible refine HBb.out.mono ?_; rintro e w7 ⟨p6, rfl, hd6, k7⟩; have HW := Lib.hid (Wanted.old hd6 (KB.trans k7) (k7.heap HZB.out id) (by omega) (by rw [HS23.out.1]; omega)); obtain ⟨⟨z0, z1, z2, z3, z4, z5⟩, y0, y1, y2, y3, y4, y5⟩ := six_cells (k7.heap HZB.out id))
              | (with_reducible refine HCc.out.mono ?_; rintro e w7 ⟨p6, rfl, hd6, k7⟩; have HW := Lib.hid (Wanted.old hd6 (KC.trans k7) (k7.heap HZC.out id) (by omega) (by rw [HS23.out.2]; omega)); obtain ⟨⟨z0, z1, z2, z3, z4, z5⟩, y0, y1, y2, y3, y4, y5⟩ := six_cells (k7.heap HZC.out id)))
            all_goals (go_wp2_with fail)
            all_goals go_meet
            all_goals exact HW.out
          case rest =>
            obtain ⟨b, p6, rfl, hb, hdw, Kx⟩ := hcut
            have HB6x := Lib.hid (Kx.heap HB6.out id)
            have HKx := Lib.hid (HK6.out.trans Kx)
            have HD6x := Lib.hid (HD6.out.keep0 Kx)
            have HDW := Lib.hid hdw
            obtain ⟨⟨x0, x1, x2, x3, x4, x5⟩, _⟩ := six_cells HB6x.out
            obtain ⟨⟨y0, y1, y2, y3, y4, y5⟩, _⟩ := six_cells hb
            clear b0 b1 b2 b3 b4 b5 cw6 hdw hb Kx
            by_cases hc : c = 0
            · rcases HCC.out hc with ⟨hc2, hd2⟩ | hc2
              · have HS := Lib.hid (show Calls Tryz.prog 20 #[rawV d2 p2, rawV mr p6] wc (BoolPost true wc) from by rw [← eqR_true.2 (show d2 = mr by rw [HMR.out]; exact hd2)]; exact rsame_any HD6x.out mr p6 _ (Keep.refl _ _) HDW.out)
                subst hc hc2
                clear hd2
                try dsimp only
                go_wp2_with fail
                refine HS.out.mono ?_
                rintro e w8 ⟨rfl, k8⟩
                have HK8 := Lib.hid (HKx.out.trans k8)
                clear k8 x0 x1 x2 x3 x4 x5 y0 y1 y2 y3 y4 y5
                try dsimp only
                go_wp2_with fail
                go_roundw
                case rel => exact ⟨i + 1, by have := HI.out; omega, by go_num, HK8.out⟩
                case measure => have := HI.out; simp only [intOf]; omega
              · subst hc hc2
                clear x0 x1 x2 x3 x4 x5 y0 y1 y2 y3 y4 y5
                try dsimp only
                go_wp2_with fail
                go_roundw
                case rel => exact ⟨i + 1, by have := HI.out; omega, by go_num, HKx.out⟩
                case measure => have := HI.out; simp only [intOf]; omega
            · have hcb : (c == 0) = false := beq_eq_false_iff_ne.2 hc
              clear hc x0 x1 x2 x3 x4 x5 y0 y1 y2 y3 y4 y5
              try dsimp only
              go_wp2_with fail
              go_roundw
              case rel => exact ⟨i + 1, by have := HI.out; omega, by go_num, HKx.out⟩
              case measure => have := HI.out; simp only [intOf]; omega
      · have e2 : ((i : Int) == 2) = false := beq_eq_false_iff_ne.2 (by omega)
        obtain ⟨d2, n2, q2, c2, hO, hC⟩ := HM.out i HI.out mt (by rw [if_neg (fun h => h2 h.1)]; exact HMT.out)
        have hadd := run_string_add_sum (P := Tryz.prog) wr mt s (by have := HSZ.out; have := HMS.out; omega)
        clear h2
        have HO := Lib.hid hO
        have HCC := Lib.hid hC
        clear hO hC
        try dsimp only
        go_wp2_with fail
        refine (HO.out _ (HKW.out.trans HKR.out)).mono ?_
        rintro e w5 ⟨p2, rfl, hd5, k5⟩
        have HB6 := Lib.hid (heap_alloc_new w5 (.cells (rawC d2 p2) 27))
        have HD6 := Lib.hid (hd5.keep0 ((Keep.refl _ _).alloc (.cells (rawC d2 p2) 27)))
        have HK6 := Lib.hid (HKR.out.trans (k5.alloc (.cells (rawC d2 p2) 27)))
        have HD46 := Lib.hid (HD4.out.keep0 (k5.alloc (.cells (rawC d2 p2) 27)))
        have HB46 := Lib.hid ((k5.alloc (.cells (rawC d2 p2) 27)).heap HB4.out id)
        have cw6 := ((k5.alloc (.cells (rawC d2 p2) 27)).cell (World.block_lt_of_cell? wr _ cw) id).trans cw
        clear cm cw hd5 k5 HB4 HD4 hadd
        try dsimp only
        go_upto_region 13 with (fail)
        generalize w5.alloc (.cells (rawC d2 p2) 27) = w6 at *
        generalize w5.heap.size = B5 at HB6 ⊢
        obtain ⟨⟨b0, b1, b2, b3, b4, b5⟩, _⟩ := six_cells HB46.out
        obtain ⟨mr, hmr⟩ : ∃ mr, mr = markR (4 + i) d := ⟨_, rfl⟩
        have HMR := Lib.hid hmr
        clear hmr
        go_cut [15] from 71 to 78 (fun v15 wx => Wanted mr w6 v15 wx)
        case first =>
          have HLIST := Lib.hid (fun (b : Nat) (W7 : World) (K : Keep (fun _ => False) w6 W7) (hb : W7.heap[b]? = some (.cells #[.int .i64 6, .int .i32 0, .bool false, .slice none 0 0, .string mw, .slice none 0 0, .int .i64 d.k, .int .i32 d.c, .bool d.neg, .slice p.A p.n p.cp, .string d.t, .slice p.B p.m p.cap] 27 (0, 0))) => (show Calls Tryz.prog 26 #[.slice (some ⟨b, 0, none⟩) 2 2] W7 (fun e w' => ∃ p6 : PV, e = .returned (rawV mr p6) ∧ DatAt (fun x => x < w6.heap.size ∨ W7.heap.size ≤ x) w' mr p6 ∧ Keep (fun _ => False) W7 w') from by
            have hb2 : W7.heap[b]? = some (.cells #[.int .i64 (leafR (.sym (markW (4 + i)))).k, .int .i32 (leafR (.sym (markW (4 + i)))).c, .bool (leafR (.sym (markW (4 + i)))).neg, .slice PV.none.A PV.none.n PV.none.cp, .string (leafR (.sym (markW (4 + i)))).t, .slice PV.none.B PV.none.m PV.none.cap, .int .i64 d.k, .int .i32 d.c, .bool d.neg, .slice p.A p.n p.cp, .string d.t, .slice p.B p.m p.cap] 27 (0, 0)) := by rw [hb, HMW.out]; rfl
            have hl : DatAt (fun x => x < w6.heap.size) W7 (leafR (.sym (markW (4 + i)))) PV.none := (DatAt.leaf (d := .sym (markW (4 + i))) ⟨rfl, rfl, rfl, rfl, rfl, rfl, rfl⟩).1
            refine (rlist_any (fun x => x < w6.heap.size) [leafR (.sym (markW (4 + i))), d] (fun j => if j = 0 then PV.none else p) (some ⟨b, 0, none⟩) 2 2 W7 rfl (Nat.le_refl _) (by omega) (fun _ => ⟨_, _, rfl, pair_items hb2⟩) (pair_ch hl (DatAt.keep0 (DatAt.mono HD46.out (fun b lt _ => lt)) K))).mono ?_
            rintro e w' ⟨p6, rfl, h6, k6⟩
            refine ⟨p6, by rw [HMR.out]; rfl, ?_, k6⟩
            rw [HMR.out]
            refine h6.mono (fun x _ h => ?_)
            rcases h with h | h
            · exact .inl h.1
            · exact .inr (by omega)))
          have KA : Keep (fun _ => False) w6 (w6.alloc (.cells #[.int .i64 6, .int .i32 0, .bool false, .slice none 0 0, .string mw, .slice none 0 0, .int .i64 d.k, .int .i32 d.c, .bool d.neg, .slice p.A p.n p.cp, .string d.t, .slice p.B p.m p.cap] 27)).drew := ((Keep.refl _ _).alloc _).drew
          have KB : Keep (fun _ => False) w6 ((w6.alloc (.cells #[.int .i64 6, .int .i32 0, .bool false, .slice none 0 0, .string mw, .slice none 0 0, .int .i64 d.k, .int .i32 d.c, .bool d.neg, .slice p.A p.n p.cp, .string d.t, .slice p.B p.m p.cap] 27)).alloc (.cells #[.int .i64 0, .int .i32 0, .bool false, .slice none 0 0, .string ⟨#[]⟩, .slice none 0 0] 27)).drew := (((Keep.refl _ _).alloc _).alloc _).drew
          have KC : Keep (fun _ => False) w6 ((w6.alloc (.cells #[.int .i64 0, .int .i32 0, .bool false, .slice none 0 0, .string ⟨#[]⟩, .slice none 0 0] 27)).alloc (.cells #[.int .i64 6, .int .i32 0, .bool false, .slice none 0 0, .string mw, .slice none 0 0, .int .i64 d.k, .int .i32 d.c, .bool d.neg, .slice p.A p.n p.cp, .string d.t, .slice p.B p.m p.cap] 27)).drew := (((Keep.refl _ _).alloc _).alloc _).drew
          have HA := Lib.hid (HLIST.out w6.heap.size _ KA (heap_alloc_new w6 (.cells #[.int .i64 6, .int .i32 0, .bool false, .slice none 0 0, .string mw, .slice none 0 0, .int .i64 d.k, .int .i32 d.c, .bool d.neg, .slice p.A p.n p.cp, .string d.t, .slice p.B p.m p.cap] 27)))
          have HBb := Lib.hid (HLIST.out w6.heap.size _ KB (bx_old (heap_alloc_new w6 (.cells #[.int .i64 6, .int .i32 0, .bool false, .slice none 0 0, .string mw, .slice none 0 0, .int .i64 d.k, .int .i32 d.c, .bool d.neg, .slice p.A p.n p.cp, .string d.t, .slice p.B p.m p.cap] 27)) _))
          have HCc := Lib.hid (HLIST.out (w6.heap.size + 1) _ KC (by have := heap_alloc_new (w6.alloc (.cells #[.int .i64 0, .int .i32 0, .bool false, .slice none 0 0, .string ⟨#[]⟩, .slice none 0 0] 27)) (.cells #[.int .i64 6, .int .i32 0, .bool false, .slice none 0 0, .string mw, .slice none 0 0, .int .i64 d.k, .int .i32 d.c, .bool d.neg, .slice p.A p.n p.cp, .string d.t, .slice p.B p.m p.cap] 27); rw [World.size_alloc] at this; exact this))
          have KZ : Keep (fun _ => False) w6 (w6.alloc (.cells #[.int .i64 0, .int .i32 0, .bool false, .slice none 0 0, .string ⟨#[]⟩, .slice none 0 0] 27)) := (Keep.refl _ _).alloc _
          have cwz := (KZ.cell (World.block_lt_of_cell? w6 _ cw6) id).trans cw6
          obtain ⟨⟨bz0, bz1, bz2, bz3, bz4, bz5⟩, _⟩ := six_cells (KZ.heap HB46.out id)
          have HZB := Lib.hid (show ((w6.alloc (.cells #[.int .i64 6, .int .i32 0, .bool false, .slice none 0 0, .string mw, .slice none 0 0, .int .i64 d.k, .int .i32 d.c, .bool d.neg, .slice p.A p.n p.cp, .string d.t, .slice p.B p.m p.cap] 27)).alloc (.cells #[.int .i64 0, .int .i32 0, .bool false, .slice none 0 0, .string ⟨#[]⟩, .slice none 0 0] 27)).drew.heap[w6.heap.size + 1]? = some (.cells #[.int .i64 0, .int .i32 0, .bool false, .slice none 0 0, .string ⟨#[]⟩, .slice none 0 0] 27 (0, 0)) from by have := heap_alloc_new (w6.alloc (.cells #[.int .i64 6, .int .i32 0, .bool false, .slice none 0 0, .string mw, .slice none 0 0, .int .i64 d.k, .int .i32 d.c, .bool d.neg, .slice p.A p.n p.cp, .string d.t, .slice p.B p.m p.cap] 27)) (.cells #[.int .i64 0, .int .i32 0, .bool false, .slice none 0 0, .string ⟨#[]⟩, .slice none 0 0] 27); rw [World.size_alloc] at this; exact this)
          have HZC := Lib.hid (show ((w6.alloc (.cells #[.int .i64 0, .int .i32 0, .bool false, .slice none 0 0, .string ⟨#[]⟩, .slice none 0 0] 27)).alloc (.cells #[.int .i64 6, .int .i32 0, .bool false, .slice none 0 0, .string mw, .slice none 0 0, .int .i64 d.k, .int .i32 d.c, .bool d.neg, .slice p.A p.n p.cp, .string d.t, .slice p.B p.m p.cap] 27)).drew.heap[w6.heap.size]? = some (.cells #[.int .i64 0, .int .i32 0, .bool false, .slice none 0 0, .string ⟨#[]⟩, .slice none 0 0] 27 (0, 0)) from bx_old (heap_alloc_new w6 (.cells #[.int .i64 0, .int .i32 0, .bool false, .slice none 0 0, .string ⟨#[]⟩, .slice none 0 0] 27)) _)
          have hs2 : ((w6.alloc (.cells #[.int .i64 6, .int .i32 0, .bool false, .slice none 0 0, .string mw, .slice none 0 0, .int .i64 d.k, .int .i32 d.c, .bool d.neg, .slice p.A p.n p.cp, .string d.t, .slice p.B p.m p.cap] 27)).alloc (.cells #[.int .i64 0, .int .i32 0, .bool false, .slice none 0 0, .string ⟨#[]⟩, .slice none 0 0] 27)).drew.heap.size = w6.heap.size + 1 + 1 := by show ((w6.alloc (.cells #[.int .i64 6, .int .i32 0, .bool false, .slice none 0 0, .string mw, .slice none 0 0, .int .i64 d.k, .int .i32 d.c, .bool d.neg, .slice p.A p.n p.cp, .string d.t, .slice p.B p.m p.cap] 27)).alloc (.cells #[.int .i64 0, .int .i32 0, .bool false, .slice none 0 0, .string ⟨#[]⟩, .slice none 0 0] 27)).heap.size = _; rw [World.size_alloc, World.size_alloc]
          have hs3 : ((w6.alloc (.cells #[.int .i64 0, .int .i32 0, .bool false, .slice none 0 0, .string ⟨#[]⟩, .slice none 0 0] 27)).alloc (.cells #[.int .i64 6, .int .i32 0, .bool false, .slice none 0 0, .string mw, .slice none 0 0, .int .i64 d.k, .int .i32 d.c, .bool d.neg, .slice p.A p.n p.cp, .string d.t, .slice p.B p.m p.cap] 27)).drew.heap.size = w6.heap.size + 1 + 1 := by show ((w6.alloc (.cells #[.int .i64 0, .int .i32 0, .bool false, .slice none 0 0, .string ⟨#[]⟩, .slice none 0 0] 27)).alloc (.cells #[.int .i64 6, .int .i32 0, .bool false, .slice none 0 0, .string mw, .slice none 0 0, .int .i64 d.k, .int .i32 d.c, .bool d.neg, .slice p.A p.n p.cp, .string d.t, .slice p.B p.m p.cap] 27)).heap.size = _; rw [World.size_alloc, World.size_alloc]
          have HS23 := Lib.hid (And.intro hs2 hs3)
          clear hs2 hs3
          go_region_with (go_at_call 26; first
            | (with_reducible refine HA.out.mono ?_; rintro e w7 ⟨p6, rfl, hd6, k7⟩; have HW := Lib.hid (Wanted.new hd6 (KA.trans k7)))
            | (with_reducible refine HBb.out.mono ?_; rintro e w7 ⟨p6, rfl, hd6, k7⟩; have HW := Lib.hid (Wanted.old hd6 (KB.trans k7) (k7.heap HZB.out id) (by omega) (by rw [HS23.out.1]; omega)); obtain ⟨⟨z0, z1, z2, z3, z4, z5⟩, y0, y1, y2, y3, y4, y5⟩ := six_cells (k7.heap HZB.out id))
            | (with_reducible refine HCc.out.mono ?_; rintro e w7 ⟨p6, rfl, hd6, k7⟩; have HW := Lib.hid (Wanted.old hd6 (KC.trans k7) (k7.heap HZC.out id) (by omega) (by rw [HS23.out.2]; omega)); obtain ⟨⟨z0, z1, z2, z3, z4, z5⟩, y0, y1, y2, y3, y4, y5⟩ := six_cells (k7.heap HZC.out id)))
          all_goals (go_wp2_with fail)
          all_goals go_meet
          all_goals exact HW.out
        case rest =>
          obtain ⟨b, p6, rfl, hb, hdw, Kx⟩ := hcut
          have HB6x := Lib.hid (Kx.heap HB6.out id)
          have HKx := Lib.hid (HK6.out.trans Kx)
          have HD6x := Lib.hid (HD6.out.keep0 Kx)
          have HDW := Lib.hid hdw
          obtain ⟨⟨x0, x1, x2, x3, x4, x5⟩, _⟩ := six_cells HB6x.out
          obtain ⟨⟨y0, y1, y2, y3, y4, y5⟩, _⟩ := six_cells hb
          clear b0 b1 b2 b3 b4 b5 cw6 hdw hb Kx
          by_cases hc : c = 0
          · rcases HCC.out hc with ⟨hc2, hd2⟩ | hc2
            · have HS := Lib.hid (show Calls Tryz.prog 20 #[rawV d2 p2, rawV mr p6] wc (BoolPost true wc) from by rw [← eqR_true.2 (show d2 = mr by rw [HMR.out]; exact hd2)]; exact rsame_any HD6x.out mr p6 _ (Keep.refl _ _) HDW.out)
              subst hc hc2
              clear hd2
              try dsimp only
              go_wp2_with fail
              refine HS.out.mono ?_
              rintro e w8 ⟨rfl, k8⟩
              have HK8 := Lib.hid (HKx.out.trans k8)
              clear k8 x0 x1 x2 x3 x4 x5 y0 y1 y2 y3 y4 y5
              try dsimp only
              go_wp2_with fail
              go_roundw
              case rel => exact ⟨i + 1, by have := HI.out; omega, by go_num, HK8.out⟩
              case measure => have := HI.out; simp only [intOf]; omega
            · subst hc hc2
              clear x0 x1 x2 x3 x4 x5 y0 y1 y2 y3 y4 y5
              try dsimp only
              go_wp2_with fail
              go_roundw
              case rel => exact ⟨i + 1, by have := HI.out; omega, by go_num, HKx.out⟩
              case measure => have := HI.out; simp only [intOf]; omega
          · have hcb : (c == 0) = false := beq_eq_false_iff_ne.2 hc
            clear hc x0 x1 x2 x3 x4 x5 y0 y1 y2 y3 y4 y5
            try dsimp only
            go_wp2_with fail
            go_roundw
            case rel => exact ⟨i + 1, by have := HI.out; omega, by go_num, HKx.out⟩
            case measure => have := HI.out; simp only [intOf]; omega
    · have l1 : decide ((i : Int) < 4) = false := decide_eq_false (by omega)
      clear hbm hbw hi h4 HB4 HD4 HB3 HBM HBW HD3 HM H1
      try dsimp only
      go_wp2_with fail
      have HKR2 := Lib.hid (HKW.out.trans HKR.out)
      refine (HALL.out _ HKR2.out).mono ?_
      rintro e w4 ⟨A, cap, vs, rfl, hrow, k4, hn4, hcap⟩
      have HROW := Lib.hid hrow
      have HK4 := Lib.hid (HKR2.out.trans k4)
      clear hrow k4 HKR2 HKR HKW
      by_cases hca : ca = 0
      · obtain ⟨dd, f, na, pa, nb, pb, hA, hB, hF⟩ := HBR.out hca
        have HAA := Lib.hid hA
        have HBB := Lib.hid hB
        have hadd1 := run_string_add_sum (P := Tryz.prog) w4 ⟨#[40]⟩ s (by have := HSZ.out; rw [sz40]; omega)
        have hadd2 := run_string_add_sum (P := Tryz.prog) w4 (⟨#[40]⟩ ++ s) ⟨#[10, 41]⟩ (by have := HSZ.out; rw [ByteArray.size_append, sz40, sz41]; omega)
        subst hca
        clear hA hB
        try dsimp only
        go_wp2_with fail
        clear hadd1 hadd2
        refine (HAA.out _ HK4.out).mono ?_
        rintro e w5 ⟨p5, rfl, hd5, k5⟩
        have K56 := k5.alloc (.cells (rawC dd p5) 27)
        have HB6 := Lib.hid (heap_alloc_new w5 (.cells (rawC dd p5) 27))
        have HD6 := Lib.hid (hd5.keep0 ((Keep.refl _ _).alloc (.cells (rawC dd p5) 27)))
        have HK6 := Lib.hid (HK4.out.trans K56)
        have HX6 := Lib.hid K56
        have hadd1 := run_string_add_sum (P := Tryz.prog) (w5.alloc (.cells (rawC dd p5) 27)) ⟨#[91]⟩ s (by have := HSZ.out; rw [sz91]; omega)
        have hadd2 := run_string_add_sum (P := Tryz.prog) (w5.alloc (.cells (rawC dd p5) 27)) (⟨#[91]⟩ ++ s) ⟨#[10, 93]⟩ (by have := HSZ.out; rw [ByteArray.size_append, sz91, sz93]; omega)
        clear hd5 k5 K56
        try dsimp only
        go_wp2_with fail
        clear hadd1 hadd2
        generalize w5.alloc (.cells (rawC dd p5) 27) = w6 at *
        generalize w5.heap.size = B5 at HB6 ⊢
        refine (HBB.out _ HK6.out).mono ?_
        rintro e w7 ⟨p7, rfl, hd7, k7⟩
        have K78 := k7.alloc (.cells (rawC dd p7) 27)
        have HB8 := Lib.hid (heap_alloc_new w7 (.cells (rawC dd p7) 27))
        have HD8 := Lib.hid (hd7.keep0 ((Keep.refl _ _).alloc (.cells (rawC dd p7) 27)))
        have HB68 := Lib.hid (K78.heap HB6.out id)
        have HD68 := Lib.hid (HD6.out.keep0 K78)
        have HK8 := Lib.hid (HK6.out.trans K78)
        have HX8 := Lib.hid (HX6.out.trans K78)
        clear hd7 k7 K78
        try dsimp only
        go_upto_region 21 with (fail)
        generalize w7.alloc (.cells (rawC dd p7) 27) = w8 at *
        generalize w7.heap.size = B7 at HB8 ⊢
        have HS1 := Lib.hid (fun (W : World) (K : Keep (fun _ => False) w8 W) => (show Calls Tryz.prog 20 #[rawV dd p5, rawV dd p7] W (BoolPost true W) from by rw [← eqR_self dd]; exact rsame_any HD68.out dd p7 W K (HD8.out.keep0 K)))
        have HCL := Lib.hid (fun (W : World) (K : Keep (fun _ => False) w8 W) => And.intro (six_cells (K.heap HB68.out id)).1 (six_cells (K.heap HB8.out id)).1)
        have Kd : Keep (fun _ => False) w8 w8.drew := (Keep.refl _ _).drew
        have HAW2 := Lib.hid (fun (W : World) (K : Keep (fun _ => False) w8 W) => HAW.out W (HK8.out.trans K))
        rcases hF with ⟨hf, hdd⟩ | hf
        · subst hf
          have HL := Lib.hid (fun (W : World) (K : Keep (fun _ => False) w8 W) => rlist_any (fun _ => True) ds vs A ds.length cap W rfl hcap (by omega) (fun hm => by
            obtain ⟨b, off, e, hr⟩ := HROW.out.row hm
            exact ⟨b, off, e, fun j hj => (hr j hj).keep (HX8.out.trans K) id⟩) (fun j hj => DatAt.mono (DatAt.keep0 (HROW.out.ch j hj) (HX8.out.trans K)) (fun _ _ _ => trivial)))
          have HS2 := Lib.hid (fun (W : World) (K : Keep (fun _ => False) w8 W) (p6 : PV) (h : DatAt (fun _ => True) W dd p6) => (show Calls Tryz.prog 20 #[rawV dd p5, rawV dd p6] W (BoolPost true W) from by rw [← eqR_self dd]; exact rsame_any HD68.out dd p6 W K h))
          rw [← hdd] at HL
          clear hdd
          have HL2 := Lib.hid (fun (W : World) (K : Keep (fun _ => False) w8 W) => (HL.out W K).mono (fun e w' h => (show ∃ p6 : PV, e = .returned (rawV dd p6) ∧ DatAt (fun _ => True) w' dd p6 ∧ Keep (fun _ => False) W w' from by obtain ⟨p6, he, h6, hk⟩ := h; exact ⟨p6, he, h6.mono (fun _ _ _ => trivial), hk⟩)))
          generalize ds.length = nn at *
          clear HL
          refine wp_region_held_drew (S := fun w' => (w'.cell? ⟨B5, 0, none⟩ = some (.int .i64 dd.k) ∧ w'.cell? ⟨B5, 1, none⟩ = some (.int .i32 dd.c) ∧ w'.cell? ⟨B5, 2, none⟩ = some (.bool dd.neg) ∧ w'.cell? ⟨B5, 3, none⟩ = some (.slice p5.A p5.n p5.cp) ∧ w'.cell? ⟨B5, 4, none⟩ = some (.string dd.t) ∧ w'.cell? ⟨B5, 5, none⟩ = some (.slice p5.B p5.m p5.cap)) ∧ (w'.cell? ⟨B7, 0, none⟩ = some (.int .i64 dd.k) ∧ w'.cell? ⟨B7, 1, none⟩ = some (.int .i32 dd.c) ∧ w'.cell? ⟨B7, 2, none⟩ = some (.bool dd.neg) ∧ w'.cell? ⟨B7, 3, none⟩ = some (.slice p7.A p7.n p7.cp) ∧ w'.cell? ⟨B7, 4, none⟩ = some (.string dd.t) ∧ w'.cell? ⟨B7, 5, none⟩ = some (.slice p7.B p7.m p7.cap))) (by kernel_rfl) (HCL.out _ Kd) (fun hHeld => ?_)
          refine wpAnyH_take (i := 0) (oi := _) (v := ?_) rfl (by kernel_rfl) (by kernel_rfl) (by kernel_rfl) (fun _ _ _ h => h) (Or.inl ⟨by rfl, ?_⟩) (by assumption) ?_
          rotate_left
          · (intro w hSw; clear hSw; go_simp)
            all_goals with_reducible rfl
          refine wpAnyH_take (i := 1) (oi := _) (v := ?_) rfl (by kernel_rfl) (by kernel_rfl) (by kernel_rfl) (fun _ _ _ h => h) (Or.inl ⟨by rfl, ?_⟩) (by assumption) ?_
          rotate_left
          · (intro w hSw; clear hSw; go_simp)
            all_goals with_reducible rfl
          try dsimp only [List.getElem_toArray, List.getElem_cons_succ, List.getElem_cons_zero]
          try simp only [Act.put, List.setIfInBounds_toArray, List.set_cons_zero, List.set_cons_succ]
          refine wpAnyH_take (i := 2) (oi := _) (v := ?_) rfl (by kernel_rfl) (by kernel_rfl) (by kernel_rfl) (fun _ _ _ h => h) (Or.inl ⟨by rfl, ?_⟩) (by assumption) ?_
          rotate_left
          · (intro w hSw; clear hSw; go_simp)
            all_goals with_reducible rfl
          refine wpAnyH_take (i := 3) (oi := _) (v := ?_) rfl (by kernel_rfl) (by kernel_rfl) (by kernel_rfl) (fun _ _ _ h => h) (Or.inl ⟨by rfl, ?_⟩) (by assumption) ?_
          rotate_left
          · (intro w hSw; clear hSw; go_simp)
            all_goals with_reducible rfl
          try dsimp only [List.getElem_toArray, List.getElem_cons_succ, List.getElem_cons_zero]
          try simp only [Act.put, List.setIfInBounds_toArray, List.set_cons_zero, List.set_cons_succ]
          refine wpAnyH_take (i := 4) (oi := _) (v := ?_) rfl (by kernel_rfl) (by kernel_rfl) (by kernel_rfl) (fun _ _ _ h => h) (Or.inl ⟨by rfl, ?_⟩) (by assumption) ?_
          rotate_left
          · (intro w hSw; obtain ⟨⟨a0, a1, a2, a3, a4, a5⟩, b0, b1, b2, b3, b4, b5⟩ := hSw; go_simp)
            all_goals with_reducible rfl
          refine wpAnyH_take (i := 5) (oi := _) (v := ?_) rfl (by kernel_rfl) (by kernel_rfl) (by kernel_rfl) (fun _ _ _ h => h) (Or.inl ⟨by rfl, ?_⟩) (by assumption) ?_
          rotate_left
          · (intro w hSw; obtain ⟨⟨a0, a1, a2, a3, a4, a5⟩, b0, b1, b2, b3, b4, b5⟩ := hSw; go_simp)
            all_goals with_reducible rfl
          try dsimp only [List.getElem_toArray, List.getElem_cons_succ, List.getElem_cons_zero]
          try simp only [Act.put, List.setIfInBounds_toArray, List.set_cons_zero, List.set_cons_succ]
          refine wpAnyH_ready (rs := [6]) (by kernel_rfl) (by simp) ?_
          refine AllReadyH.cons (o := _) rfl (fun K hK => ?_) AllReadyH.nil
          go_simp
          refine (HS1.out _ Kd).mono ?_
          rintro e wr1 ⟨rfl, kr⟩
          have K1 : Keep (fun _ => False) w8 wr1 := Keep.trans Kd kr
          clear kr
          try dsimp only
          go_wp2_with fail
          refine hK.out _ _ (HCL.out _ K1) (fun hHeld => ?_)
          clear hK K
          try dsimp only [List.getElem_toArray, List.getElem_cons_succ, List.getElem_cons_zero]
          try simp only [Act.put, List.setIfInBounds_toArray, List.set_cons_zero, List.set_cons_succ]
          refine wpAnyH_take (i := 7) (oi := _) (v := ?_) rfl (by kernel_rfl) (by kernel_rfl) (by kernel_rfl) (fun _ _ _ h => h) (Or.inl ⟨by rfl, ?_⟩) (by assumption) ?_
          rotate_left
          · (intro w hSw; clear hSw; go_simp)
            all_goals with_reducible rfl
          refine wpAnyH_take (i := 8) (oi := _) (v := ?_) rfl (by kernel_rfl) (by kernel_rfl) (by kernel_rfl) (fun _ _ _ h => h) (Or.inl ⟨by rfl, ?_⟩) (by assumption) ?_
          rotate_left
          · (intro w hSw; clear hSw; go_simp)
            all_goals with_reducible rfl
          try dsimp only [List.getElem_toArray, List.getElem_cons_succ, List.getElem_cons_zero]
          try simp only [Act.put, List.setIfInBounds_toArray, List.set_cons_zero, List.set_cons_succ]
          refine wpAnyH_take (i := 9) (oi := _) (v := ?_) rfl (by kernel_rfl) (by kernel_rfl) (by kernel_rfl) (fun _ _ _ h => h) (Or.inl ⟨by rfl, ?_⟩) (by assumption) ?_
          rotate_left
          · (intro w hSw; clear hSw; go_simp)
            all_goals with_reducible rfl
          refine wpAnyH_take (i := 10) (oi := _) (v := ?_) rfl (by kernel_rfl) (by kernel_rfl) (by kernel_rfl) (fun _ _ _ h => h) (Or.inl ⟨by rfl, ?_⟩) (by assumption) ?_
          rotate_left
          · (intro w hSw; clear hSw; go_simp)
            all_goals with_reducible rfl
          try dsimp only [List.getElem_toArray, List.getElem_cons_succ, List.getElem_cons_zero]
          try simp only [Act.put, List.setIfInBounds_toArray, List.set_cons_zero, List.set_cons_succ]
          refine wpAnyH_take (i := 11) (oi := _) (v := ?_) rfl (by kernel_rfl) (by kernel_rfl) (by kernel_rfl) (fun _ _ _ h => h) (Or.inl ⟨by rfl, ?_⟩) (by assumption) ?_
          rotate_left
          · (intro w hSw; clear hSw; go_simp)
            all_goals with_reducible rfl
          refine wpAnyH_take (i := 12) (oi := _) (v := ?_) rfl (by kernel_rfl) (by kernel_rfl) (by kernel_rfl) (fun _ _ _ h => h) (Or.inl ⟨by rfl, ?_⟩) (by assumption) ?_
          rotate_left
          · (intro w hSw; clear hSw; go_simp)
            all_goals with_reducible rfl
          try dsimp only [List.getElem_toArray, List.getElem_cons_succ, List.getElem_cons_zero]
          try simp only [Act.put, List.setIfInBounds_toArray, List.set_cons_zero, List.set_cons_succ]
          refine wpAnyH_take (i := 13) (oi := _) (v := ?_) rfl (by kernel_rfl) (by kernel_rfl) (by kernel_rfl) (fun _ _ _ h => h) (Or.inl ⟨by rfl, ?_⟩) (by assumption) ?_
          rotate_left
          · (intro w hSw; clear hSw; go_simp)
            all_goals with_reducible rfl
          refine wpAnyH_take (i := 14) (oi := _) (v := ?_) rfl (by kernel_rfl) (by kernel_rfl) (by kernel_rfl) (fun _ _ _ h => h) (Or.inl ⟨by rfl, ?_⟩) (by assumption) ?_
          rotate_left
          · (intro w hSw; clear hSw; go_simp)
            all_goals with_reducible rfl
          try dsimp only [List.getElem_toArray, List.getElem_cons_succ, List.getElem_cons_zero]
          try simp only [Act.put, List.setIfInBounds_toArray, List.set_cons_zero, List.set_cons_succ]
          refine wpAnyH_take (i := 15) (oi := _) (v := ?_) rfl (by kernel_rfl) (by kernel_rfl) (by kernel_rfl) (fun _ _ _ h => h) (Or.inl ⟨by rfl, ?_⟩) (by assumption) ?_
          rotate_left
          · (intro w hSw; obtain ⟨⟨a0, a1, a2, a3, a4, a5⟩, b0, b1, b2, b3, b4, b5⟩ := hSw; go_simp)
            all_goals with_reducible rfl
          refine wpAnyH_take (i := 16) (oi := _) (v := ?_) rfl (by kernel_rfl) (by kernel_rfl) (by kernel_rfl) (fun _ _ _ h => h) (Or.inl ⟨by rfl, ?_⟩) (by assumption) ?_
          rotate_left
          · (intro w hSw; clear hSw; go_simp)
            all_goals with_reducible rfl
          try dsimp only [List.getElem_toArray, List.getElem_cons_succ, List.getElem_cons_zero]
          try simp only [Act.put, List.setIfInBounds_toArray, List.set_cons_zero, List.set_cons_succ]
          refine wpAnyH_ready (rs := [17]) (by kernel_rfl) (by simp) ?_
          refine AllReadyH.cons (o := _) rfl (fun K hK => ?_) AllReadyH.nil
          go_simp
          refine (HL2.out _ K1).mono ?_
          rintro e wr2 ⟨p6, rfl, hd6, kr⟩
          have K2 : Keep (fun _ => False) w8 wr2 := Keep.trans K1 kr
          clear kr K1
          try dsimp only
          go_wp2_with fail
          refine hK.out _ _ (HCL.out _ K2) (fun hHeld => ?_)
          clear hK K
          try dsimp only [List.getElem_toArray, List.getElem_cons_succ, List.getElem_cons_zero]
          try simp only [Act.put, List.setIfInBounds_toArray, List.set_cons_zero, List.set_cons_succ]
          refine wpAnyH_ready (rs := [18]) (by kernel_rfl) (by simp) ?_
          refine AllReadyH.cons (o := _) rfl (fun K hK => ?_) AllReadyH.nil
          go_simp
          refine (HS2.out _ K2 p6 hd6).mono ?_
          rintro e wr3 ⟨rfl, kr⟩
          have K3 : Keep (fun _ => False) w8 wr3 := Keep.trans K2 kr
          clear kr K2
          try dsimp only
          go_wp2_with fail
          refine hK.out _ _ (HCL.out _ K3) (fun hHeld => ?_)
          clear hK K
          try dsimp only [List.getElem_toArray, List.getElem_cons_succ, List.getElem_cons_zero]
          try simp only [Act.put, List.setIfInBounds_toArray, List.set_cons_zero, List.set_cons_succ]
          refine wpAnyH_take (i := 19) (oi := _) (v := ?_) rfl (by kernel_rfl) (by kernel_rfl) (by kernel_rfl) (fun _ _ _ h => h) (Or.inl ⟨by rfl, ?_⟩) (by assumption) ?_
          rotate_left
          · (intro w hSw; clear hSw; go_simp)
            all_goals with_reducible rfl
          refine wpAnyH_take (i := 20) (oi := _) (v := ?_) rfl (by kernel_rfl) (by kernel_rfl) (by kernel_rfl) (fun _ _ _ h => h) (Or.inl ⟨by rfl, ?_⟩) (by assumption) ?_
          rotate_left
          · (intro w hSw; clear hSw; go_simp)
            all_goals with_reducible rfl
          try dsimp only [List.getElem_toArray, List.getElem_cons_succ, List.getElem_cons_zero]
          try simp only [Act.put, List.setIfInBounds_toArray, List.set_cons_zero, List.set_cons_succ]
          refine wpAnyH_take (i := 21) (oi := _) (v := ?_) rfl (by kernel_rfl) (by kernel_rfl) (by kernel_rfl) (fun _ _ _ h => h) (Or.inl ⟨by rfl, ?_⟩) (by assumption) ?_
          rotate_left
          · (intro w hSw; clear hSw; go_simp)
            all_goals with_reducible rfl
          refine wpAnyH_take (i := 22) (oi := _) (v := ?_) rfl (by kernel_rfl) (by kernel_rfl) (by kernel_rfl) (fun _ _ _ h => h) (Or.inl ⟨by rfl, ?_⟩) (by assumption) ?_
          rotate_left
          · (intro w hSw; clear hSw; go_simp)
            all_goals with_reducible rfl
          try dsimp only [List.getElem_toArray, List.getElem_cons_succ, List.getElem_cons_zero]
          try simp only [Act.put, List.setIfInBounds_toArray, List.set_cons_zero, List.set_cons_succ]
          refine wpAnyH_ready (rs := [23]) (by kernel_rfl) (by simp) ?_
          refine AllReadyH.cons (o := _) rfl (fun K hK => ?_) AllReadyH.nil
          go_simp
          refine (HAW2.out _ K3).mono ?_
          rintro e wr4 ⟨rfl, kr⟩
          have K4 : Keep (fun _ => False) w8 wr4 := Keep.trans K3 kr
          clear kr K3
          try dsimp only
          go_wp2_with fail
          refine hK.out _ _ (HCL.out _ K4) (fun hHeld => ?_)
          clear hK K
          try dsimp only [List.getElem_toArray, List.getElem_cons_succ, List.getElem_cons_zero]
          try simp only [Act.put, List.setIfInBounds_toArray, List.set_cons_zero, List.set_cons_succ]
          refine wpAnyH_take (i := 24) (oi := _) (v := ?_) rfl (by kernel_rfl) (by kernel_rfl) (by kernel_rfl) (fun _ _ _ h => h) (Or.inl ⟨by rfl, ?_⟩) (by assumption) ?_
          rotate_left
          · (intro w hSw; clear hSw; go_simp)
            all_goals with_reducible rfl
          refine wpAnyH_take (i := 25) (oi := _) (v := ?_) rfl (by kernel_rfl) (by kernel_rfl) (by kernel_rfl) (fun _ _ _ h => h) (Or.inl ⟨by rfl, ?_⟩) (by assumption) ?_
          rotate_left
          · (intro w hSw; clear hSw; go_simp)
            all_goals with_reducible rfl
          try dsimp only [List.getElem_toArray, List.getElem_cons_succ, List.getElem_cons_zero]
          try simp only [Act.put, List.setIfInBounds_toArray, List.set_cons_zero, List.set_cons_succ]
          refine wpAnyH_done (by kernel_rfl) ?_ _
          have KK := K4
          clear K4
          have HZ := Lib.hid (HK8.out.trans KK)
          clear HCL
          try dsimp only
          go_wp2_with fail
          go_ret
          exact ⟨rfl, HZ.out⟩
        · subst hf
          refine wp_region_held_drew (S := fun w' => (w'.cell? ⟨B5, 0, none⟩ = some (.int .i64 dd.k) ∧ w'.cell? ⟨B5, 1, none⟩ = some (.int .i32 dd.c) ∧ w'.cell? ⟨B5, 2, none⟩ = some (.bool dd.neg) ∧ w'.cell? ⟨B5, 3, none⟩ = some (.slice p5.A p5.n p5.cp) ∧ w'.cell? ⟨B5, 4, none⟩ = some (.string dd.t) ∧ w'.cell? ⟨B5, 5, none⟩ = some (.slice p5.B p5.m p5.cap)) ∧ (w'.cell? ⟨B7, 0, none⟩ = some (.int .i64 dd.k) ∧ w'.cell? ⟨B7, 1, none⟩ = some (.int .i32 dd.c) ∧ w'.cell? ⟨B7, 2, none⟩ = some (.bool dd.neg) ∧ w'.cell? ⟨B7, 3, none⟩ = some (.slice p7.A p7.n p7.cp) ∧ w'.cell? ⟨B7, 4, none⟩ = some (.string dd.t) ∧ w'.cell? ⟨B7, 5, none⟩ = some (.slice p7.B p7.m p7.cap))) (by kernel_rfl) (HCL.out _ Kd) (fun hHeld => ?_)
          refine wpAnyH_take (i := 0) (oi := _) (v := ?_) rfl (by kernel_rfl) (by kernel_rfl) (by kernel_rfl) (fun _ _ _ h => h) (Or.inl ⟨by rfl, ?_⟩) (by assumption) ?_
          rotate_left
          · (intro w hSw; clear hSw; go_simp)
            all_goals with_reducible rfl
          refine wpAnyH_take (i := 1) (oi := _) (v := ?_) rfl (by kernel_rfl) (by kernel_rfl) (by kernel_rfl) (fun _ _ _ h => h) (Or.inl ⟨by rfl, ?_⟩) (by assumption) ?_
          rotate_left
          · (intro w hSw; clear hSw; go_simp)
            all_goals with_reducible rfl
          try dsimp only [List.getElem_toArray, List.getElem_cons_succ, List.getElem_cons_zero]
          try simp only [Act.put, List.setIfInBounds_toArray, List.set_cons_zero, List.set_cons_succ]
          refine wpAnyH_take (i := 2) (oi := _) (v := ?_) rfl (by kernel_rfl) (by kernel_rfl) (by kernel_rfl) (fun _ _ _ h => h) (Or.inl ⟨by rfl, ?_⟩) (by assumption) ?_
          rotate_left
          · (intro w hSw; clear hSw; go_simp)
            all_goals with_reducible rfl
          refine wpAnyH_take (i := 3) (oi := _) (v := ?_) rfl (by kernel_rfl) (by kernel_rfl) (by kernel_rfl) (fun _ _ _ h => h) (Or.inl ⟨by rfl, ?_⟩) (by assumption) ?_
          rotate_left
          · (intro w hSw; clear hSw; go_simp)
            all_goals with_reducible rfl
          try dsimp only [List.getElem_toArray, List.getElem_cons_succ, List.getElem_cons_zero]
          try simp only [Act.put, List.setIfInBounds_toArray, List.set_cons_zero, List.set_cons_succ]
          refine wpAnyH_take (i := 4) (oi := _) (v := ?_) rfl (by kernel_rfl) (by kernel_rfl) (by kernel_rfl) (fun _ _ _ h => h) (Or.inl ⟨by rfl, ?_⟩) (by assumption) ?_
          rotate_left
          · (intro w hSw; obtain ⟨⟨a0, a1, a2, a3, a4, a5⟩, b0, b1, b2, b3, b4, b5⟩ := hSw; go_simp)
            all_goals with_reducible rfl
          refine wpAnyH_take (i := 5) (oi := _) (v := ?_) rfl (by kernel_rfl) (by kernel_rfl) (by kernel_rfl) (fun _ _ _ h => h) (Or.inl ⟨by rfl, ?_⟩) (by assumption) ?_
          rotate_left
          · (intro w hSw; obtain ⟨⟨a0, a1, a2, a3, a4, a5⟩, b0, b1, b2, b3, b4, b5⟩ := hSw; go_simp)
            all_goals with_reducible rfl
          try dsimp only [List.getElem_toArray, List.getElem_cons_succ, List.getElem_cons_zero]
          try simp only [Act.put, List.setIfInBounds_toArray, List.set_cons_zero, List.set_cons_succ]
          refine wpAnyH_ready (rs := [6]) (by kernel_rfl) (by simp) ?_
          refine AllReadyH.cons (o := _) rfl (fun K hK => ?_) AllReadyH.nil
          go_simp
          refine (HS1.out _ Kd).mono ?_
          rintro e wr1 ⟨rfl, kr⟩
          have K1 : Keep (fun _ => False) w8 wr1 := Keep.trans Kd kr
          clear kr
          try dsimp only
          go_wp2_with fail
          refine hK.out _ _ (HCL.out _ K1) (fun hHeld => ?_)
          clear hK K
          try dsimp only [List.getElem_toArray, List.getElem_cons_succ, List.getElem_cons_zero]
          try simp only [Act.put, List.setIfInBounds_toArray, List.set_cons_zero, List.set_cons_succ]
          refine wpAnyH_take (i := 7) (oi := _) (v := ?_) rfl (by kernel_rfl) (by kernel_rfl) (by kernel_rfl) (fun _ _ _ h => h) (Or.inl ⟨by rfl, ?_⟩) (by assumption) ?_
          rotate_left
          · (intro w hSw; clear hSw; go_simp)
            all_goals with_reducible rfl
          refine wpAnyH_take (i := 8) (oi := _) (v := ?_) rfl (by kernel_rfl) (by kernel_rfl) (by kernel_rfl) (fun _ _ _ h => h) (Or.inl ⟨by rfl, ?_⟩) (by assumption) ?_
          rotate_left
          · (intro w hSw; clear hSw; go_simp)
            all_goals with_reducible rfl
          try dsimp only [List.getElem_toArray, List.getElem_cons_succ, List.getElem_cons_zero]
          try simp only [Act.put, List.setIfInBounds_toArray, List.set_cons_zero, List.set_cons_succ]
          refine wpAnyH_take (i := 9) (oi := _) (v := ?_) rfl (by kernel_rfl) (by kernel_rfl) (by kernel_rfl) (fun _ _ _ h => h) (Or.inl ⟨by rfl, ?_⟩) (by assumption) ?_
          rotate_left
          · (intro w hSw; clear hSw; go_simp)
            all_goals with_reducible rfl
          refine wpAnyH_take (i := 10) (oi := _) (v := ?_) rfl (by kernel_rfl) (by kernel_rfl) (by kernel_rfl) (fun _ _ _ h => h) (Or.inl ⟨by rfl, ?_⟩) (by assumption) ?_
          rotate_left
          · (intro w hSw; clear hSw; go_simp)
            all_goals with_reducible rfl
          try dsimp only [List.getElem_toArray, List.getElem_cons_succ, List.getElem_cons_zero]
          try simp only [Act.put, List.setIfInBounds_toArray, List.set_cons_zero, List.set_cons_succ]
          refine wpAnyH_take (i := 11) (oi := _) (v := ?_) rfl (by kernel_rfl) (by kernel_rfl) (by kernel_rfl) (fun _ _ _ h => h) (Or.inl ⟨by rfl, ?_⟩) (by assumption) ?_
          rotate_left
          · (intro w hSw; clear hSw; go_simp)
            all_goals with_reducible rfl
          try dsimp only [List.getElem_toArray, List.getElem_cons_succ, List.getElem_cons_zero]
          try simp only [Act.put, List.setIfInBounds_toArray, List.set_cons_zero, List.set_cons_succ]
          refine wpAnyH_take (i := 12) (oi := _) (v := undef) rfl (by kernel_rfl) (by kernel_rfl) (by kernel_rfl) (fun _ _ _ h => h) (Or.inr ⟨by rfl, rfl⟩) (by assumption) ?_
          try dsimp only [List.getElem_toArray, List.getElem_cons_succ, List.getElem_cons_zero]
          try simp only [Act.put, List.setIfInBounds_toArray, List.set_cons_zero, List.set_cons_succ]
          refine wpAnyH_take (i := 13) (oi := _) (v := undef) rfl (by kernel_rfl) (by kernel_rfl) (by kernel_rfl) (fun _ _ _ h => h) (Or.inr ⟨by rfl, rfl⟩) (by assumption) ?_
          try dsimp only [List.getElem_toArray, List.getElem_cons_succ, List.getElem_cons_zero]
          try simp only [Act.put, List.setIfInBounds_toArray, List.set_cons_zero, List.set_cons_succ]
          refine wpAnyH_take (i := 14) (oi := _) (v := undef) rfl (by kernel_rfl) (by kernel_rfl) (by kernel_rfl) (fun _ _ _ h => h) (Or.inr ⟨by rfl, rfl⟩) (by assumption) ?_
          try dsimp only [List.getElem_toArray, List.getElem_cons_succ, List.getElem_cons_zero]
          try simp only [Act.put, List.setIfInBounds_toArray, List.set_cons_zero, List.set_cons_succ]
          refine wpAnyH_take (i := 15) (oi := _) (v := undef) rfl (by kernel_rfl) (by kernel_rfl) (by kernel_rfl) (fun _ _ _ h => h) (Or.inr ⟨by rfl, rfl⟩) (by assumption) ?_
          try dsimp only [List.getElem_toArray, List.getElem_cons_succ, List.getElem_cons_zero]
          try simp only [Act.put, List.setIfInBounds_toArray, List.set_cons_zero, List.set_cons_succ]
          refine wpAnyH_take (i := 16) (oi := _) (v := undef) rfl (by kernel_rfl) (by kernel_rfl) (by kernel_rfl) (fun _ _ _ h => h) (Or.inr ⟨by rfl, rfl⟩) (by assumption) ?_
          try dsimp only [List.getElem_toArray, List.getElem_cons_succ, List.getElem_cons_zero]
          try simp only [Act.put, List.setIfInBounds_toArray, List.set_cons_zero, List.set_cons_succ]
          refine wpAnyH_take (i := 17) (oi := _) (v := undef) rfl (by kernel_rfl) (by kernel_rfl) (by kernel_rfl) (fun _ _ _ h => h) (Or.inr ⟨by rfl, rfl⟩) (by assumption) ?_
          try dsimp only [List.getElem_toArray, List.getElem_cons_succ, List.getElem_cons_zero]
          try simp only [Act.put, List.setIfInBounds_toArray, List.set_cons_zero, List.set_cons_succ]
          refine wpAnyH_take (i := 18) (oi := _) (v := undef) rfl (by kernel_rfl) (by kernel_rfl) (by kernel_rfl) (fun _ _ _ h => h) (Or.inr ⟨by rfl, rfl⟩) (by assumption) ?_
          try dsimp only [List.getElem_toArray, List.getElem_cons_succ, List.getElem_cons_zero]
          try simp only [Act.put, List.setIfInBounds_toArray, List.set_cons_zero, List.set_cons_succ]
          refine wpAnyH_take (i := 19) (oi := _) (v := undef) rfl (by kernel_rfl) (by kernel_rfl) (by kernel_rfl) (fun _ _ _ h => h) (Or.inr ⟨by rfl, rfl⟩) (by assumption) ?_
          try dsimp only [List.getElem_toArray, List.getElem_cons_succ, List.getElem_cons_zero]
          try simp only [Act.put, List.setIfInBounds_toArray, List.set_cons_zero, List.set_cons_succ]
          refine wpAnyH_take (i := 20) (oi := _) (v := ?_) rfl (by kernel_rfl) (by kernel_rfl) (by kernel_rfl) (fun _ _ _ h => h) (Or.inl ⟨by rfl, ?_⟩) (by assumption) ?_
          rotate_left
          · (intro w hSw; clear hSw; go_simp)
            all_goals with_reducible rfl
          refine wpAnyH_take (i := 21) (oi := _) (v := ?_) rfl (by kernel_rfl) (by kernel_rfl) (by kernel_rfl) (fun _ _ _ h => h) (Or.inl ⟨by rfl, ?_⟩) (by assumption) ?_
          rotate_left
          · (intro w hSw; clear hSw; go_simp)
            all_goals with_reducible rfl
          try dsimp only [List.getElem_toArray, List.getElem_cons_succ, List.getElem_cons_zero]
          try simp only [Act.put, List.setIfInBounds_toArray, List.set_cons_zero, List.set_cons_succ]
          refine wpAnyH_take (i := 22) (oi := _) (v := ?_) rfl (by kernel_rfl) (by kernel_rfl) (by kernel_rfl) (fun _ _ _ h => h) (Or.inl ⟨by rfl, ?_⟩) (by assumption) ?_
          rotate_left
          · (intro w hSw; clear hSw; go_simp)
            all_goals with_reducible rfl
          try dsimp only [List.getElem_toArray, List.getElem_cons_succ, List.getElem_cons_zero]
          try simp only [Act.put, List.setIfInBounds_toArray, List.set_cons_zero, List.set_cons_succ]
          refine wpAnyH_ready (rs := [23]) (by kernel_rfl) (by simp) ?_
          refine AllReadyH.cons (o := _) rfl (fun K hK => ?_) AllReadyH.nil
          go_simp
          refine (HAW2.out _ K1).mono ?_
          rintro e wr2 ⟨rfl, kr⟩
          have K2 : Keep (fun _ => False) w8 wr2 := Keep.trans K1 kr
          clear kr K1
          try dsimp only
          go_wp2_with fail
          refine hK.out _ _ (HCL.out _ K2) (fun hHeld => ?_)
          clear hK K
          refine wpAnyH_take (i := 24) (oi := _) (v := ?_) rfl (by kernel_rfl) (by kernel_rfl) (by kernel_rfl) (fun _ _ _ h => h) (Or.inl ⟨by rfl, ?_⟩) (by assumption) ?_
          rotate_left
          · (intro w hSw; clear hSw; go_simp)
            all_goals with_reducible rfl
          try dsimp only [List.getElem_toArray, List.getElem_cons_succ, List.getElem_cons_zero]
          try simp only [Act.put, List.setIfInBounds_toArray, List.set_cons_zero, List.set_cons_succ]
          refine wpAnyH_take (i := 25) (oi := _) (v := ?_) rfl (by kernel_rfl) (by kernel_rfl) (by kernel_rfl) (fun _ _ _ h => h) (Or.inl ⟨by rfl, ?_⟩) (by assumption) ?_
          rotate_left
          · (intro w hSw; clear hSw; go_simp)
            all_goals with_reducible rfl
          try dsimp only [List.getElem_toArray, List.getElem_cons_succ, List.getElem_cons_zero]
          try simp only [Act.put, List.setIfInBounds_toArray, List.set_cons_zero, List.set_cons_succ]
          refine wpAnyH_done (by kernel_rfl) ?_ _
          have KK := K2
          clear K2
          have HZ := Lib.hid (HK8.out.trans KK)
          clear HCL
          try dsimp only
          go_wp2_with fail
          go_ret
          exact ⟨rfl, HZ.out⟩
      · have g2 : (ca != 0) = true := by simp [hca]
        clear hca
        try dsimp only
        go_wp2_with fail
        refine (HAW.out _ HK4.out).mono ?_
        rintro e w9 ⟨rfl, k9⟩
        have HK9 := Lib.hid (HK4.out.trans k9)
        clear k9
        try dsimp only
        go_wp2_with fail
        go_ret
        exact ⟨rfl, HK9.out⟩
end Go.Proofs.YtonnikipeokkaaaGreatDoor
