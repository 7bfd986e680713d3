/-
  The document's Parse.
-/
import Derived.Test.YtdfekphahdmffaaDoorRfTurn
import Derived.Test.YtdfekphahdmffaaDoorRfSmall
import Derived.Test.YtdfekphahdmffaaDoorParseL
namespace Go.Proofs.YtdfekphahdmffaaDoor
open Go.RowKit


theorem idx_run (s : ByteArray) (i : Nat) (hi : i < s.size) (d : Nat) (hd : d = (s.data.toList.getD i 0).toNat) (W : World) : (Instr.index 9 (.string s) (.int .i64 (i : Int))).run Tryd.prog W = .ok (.int .u8 (d : Int)) W := by
  have e := run_index_string (P := Tryd.prog) W 9 s .i64 (i : Int) Tryd.underlying9
  rw [dif_pos ⟨by omega, by omega⟩] at e
  rw [e]
  have h2 : s.data.toList.length = s.size := (Lib.size_eq s).symm
  have h3 : s.data.toList.getD i 0 = s[i]'hi := by
    rw [List.getD_eq_getElem?_getD, List.getElem?_eq_getElem (by omega)]
    rfl
  rw [hd, h3]
  rfl
theorem three_own (w : World) : OwnR 5 .u8 (w.alloc (.cells #[.int .u8 0, .int .u8 0, .int .u8 0] 5)) w.heap.size (some ⟨w.heap.size, 0, none⟩) 3 3 [0, 0, 0] :=
  ⟨rfl, .inr ⟨w.heap.size, 3, #[.int .u8 0, .int .u8 0, .int .u8 0], rfl, Nat.le_refl _, heap_alloc_new _ _, Nat.le_refl _, by unfold maxLen; omega, rfl, rfl⟩⟩
theorem pre_one (l : List UInt8) (b : UInt8) : Lib.hasPrefix l [b] = decide (0 < l.length ∧ (l.getD 0 0).toNat = b.toNat) := by
  cases l with
  | nil => rfl
  | cons x t =>
    have : Lib.hasPrefix (x :: t) [b] = (x == b) := by simp [Lib.hasPrefix, List.isPrefixOf, Bool.beq_comm]
    rw [this]
    by_cases h : x = b
    · subst h; simp
    · have h2 : ¬ x.toNat = b.toNat := fun e => h (UInt8.toNat_inj.1 e)
      simp [h, h2]
/-- What the document's Parse answers. -/
def RPPost (l : List UInt8) (w : World) (e : Ending) (w' : World) : Prop :=
  match parseV l with
  | none => e = .returned (.tuple #[numArg false none 0 0, .int .i64 9]) ∧ Keep (fun _ => False) w w'
  | some x => (Fits x ∧ ∃ (A : Option Addr) (n c : Nat), e = .returned (.tuple #[numArg (decide (x < 0)) A n c, .int .i64 0]) ∧ BitsAt w' A n c (bits2 x.natAbs) ∧ Keep (fun _ => False) w w') ∨ (¬ Fits x ∧ e = .returned (.tuple #[numArg false none 0 0, .int .i64 6]) ∧ Keep (fun _ => False) w w')
/-- Before the digit j. -/
structure RpSt (w1 : World) (B0 V : Nat) (P : Option Addr) (nb cb : Nat) (wr : World) : Prop where
  r : wr.heap[B0]? = some (.cells #[.bool false, .slice none 0 0] 34 (0, 0))
  o : BitsAt wr P nb cb (bits2 V)
  n : nb ≤ 1536
  K : Keep (fun _ => False) w1 wr
theorem ten_val {V d : Nat} {l8 l2 : List Nat} (h8 : bval l8 = 8 * V) (h2 : bval l2 = 2 * V) : bval (bits2 (bval l8 + bval l2)) + bval (bits2 d) = 10 * V + d := by
  rw [show bval (bits2 (bval l8 + bval l2)) = _ from val_digs two2 _, show bval (bits2 d) = d from val_digs two2 _, h8, h2]
  omega
theorem pre_val (k V : Nat) : bval (List.replicate k 0 ++ bits2 V) = 2 ^ k * V := by
  show val 2 (List.replicate k 0 ++ bits2 V) = _
  rw [val_zeros_app, show val 2 (bits2 V) = V from val_digs two2 V]
theorem pre_low (k V : Nat) : Low 2 (List.replicate k 0 ++ bits2 V) := Low.append (by intro x hx; rw [(List.mem_replicate.1 hx).2]; omega) (digs_low two2 V)
theorem too_long {l : List UInt8} {k : Nat} {x : Int} (hx : x.natAbs = decVal l) (h : 1536 < (bits2 (decVal (l.take k))).length) : ¬ Fits x := by
  rw [fits_bits, hx]
  have := blen_mono (decVal_pre l k)
  omega
theorem mag_n {m M n c : Nat} {w : World} {base : Nat} {A : Option Addr} (o : OwnR 5 .u8 w base A n c (bits2 M)) (h : M < 2 ^ m) : n ≤ m := by
  rw [← o.len]; exact (digs_len_le two2 _ _).2 h
theorem bound9 {V E : Nat} (_hE : E = 1536) (h : (bits2 V).length ≤ E) : 8 * V + 2 * V < 2 ^ (E + 9) := by
  have h1 := (digs_len_le two2 V E).1 h
  rw [Nat.pow_add]
  generalize (2 : Nat) ^ E = F at *
  omega
theorem bound11 {V dg E : Nat} (_hE : E = 1536) (h : (bits2 V).length ≤ E) (hd : dg ≤ 9) : 10 * V + dg < 2 ^ (E + 64) := by
  have h1 := (digs_len_le two2 V E).1 h
  rw [Nat.pow_add]
  generalize (2 : Nat) ^ E = F at *
  omega
set_option maxRecDepth 100000 in
set_option maxHeartbeats 8000000 in
theorem rparse_neg (s : ByteArray) (w : World) (hs : s.size ≤ 1000000) (h0 : 0 < s.size) (hd0 : (s.data.toList.getD 0 0).toNat = 45) : Calls Tryd.prog 26 #[.string s] w (RPPost s.data.toList w) := by
  have hlen : s.data.toList.length = s.size := (Lib.size_eq s).symm
  have p45 := pre_one s.data.toList 45
  have p43 := pre_one s.data.toList 43
  rw [hlen] at p45 p43
  have q45 : Lib.hasPrefix s.data.toList [45] = true := by rw [p45]; exact decide_eq_true (by exact ⟨h0, hd0⟩)
  have q43 : Lib.hasPrefix s.data.toList [43] = false := by rw [p43]; exact decide_eq_false (by rintro ⟨_, h⟩; rw [show (43 : UInt8).toNat = 43 from rfl] at h; omega)
  obtain ⟨bl, hbl⟩ : ∃ l, l = body s.data.toList := ⟨_, rfl⟩
  have hbl2 : bl = s.data.toList.drop 1 := by rw [hbl]; unfold body signB; rw [q45, q43]; rfl
  have hbn : bl.length = s.size - 1 := by rw [hbl2, List.length_drop, hlen]
  have hbd : ∀ j, j < bl.length → (s.data.toList.getD (1 + j) 0).toNat = (bl.getD j 0).toNat := by
    intro j hj
    rw [hbl2, List.getD_eq_getElem?_getD, List.getD_eq_getElem?_getD, List.getElem?_drop]
  have hpv : parseV s.data.toList = if bl = [] ∨ bl.all digB = false then none else some (if true = true then -(decVal bl : Int) else (decVal bl : Int)) := by unfold parseV; rw [← hbl, q45]
  have HPV := Lib.hid hpv
  have HBD := Lib.hid hbd
  have HBN := Lib.hid hbn
  obtain ⟨d0, hdd⟩ : ∃ d, d = (s.data.toList.getD 0 0).toNat := ⟨_, rfl⟩
  have hix0 : ∀ W : World, (Instr.index 9 (.string s) (.int .i64 0)).run Tryd.prog W = .ok (.int .u8 (d0 : Int)) W := fun W => idx_run s 0 h0 d0 hdd W
  have b45 : ((d0 : Int) == 45) = true := by rw [hdd]; rw [hd0]; rfl
  have hpos : (0 : Int) < (s.size : Int) := by omega
  have HB45 := Lib.hid b45
  clear p45 p43 q45 q43 hbl hbl2 hbn hbd hpv hd0 hlen
  have K : Keep (fun _ => False) w (w.alloc (.cells #[.bool false, .slice none 0 0] 34)) := (Keep.refl _ _).alloc _
  have hb : (w.alloc (.cells #[.bool false, .slice none 0 0] 34)).heap[w.heap.size]? = some (.cells #[.bool false, .slice none 0 0] 34 (0, 0)) := heap_alloc_new w _
  have HK := Lib.hid K
  have HB := Lib.hid hb
  have HDD := Lib.hid hdd
  clear K hb hdd
  go_enter Tryd.func26, Tryd.ntmps26
  go_wp2_with fail
  clear hpos b45
  generalize hB0 : w.heap.size = B0 at HB ⊢
  have HSZ := Lib.hid (Nat.le_of_eq hB0)
  clear hB0
  generalize w.alloc (.cells #[.bool false, .slice none 0 0] 34) = w1 at HB HK ⊢
  have HRET := Lib.hid (fun (w9 : World) (K9 : Keep (fun _ => False) w1 w9) => (show w9.cell? ⟨B0, 0, none⟩ = some (.bool false) ∧ w9.cell? ⟨B0, 1, none⟩ = some (.slice none 0 0) ∧ w9.frozen? ⟨B0, 0, none⟩ = false ∧ w9.frozen? ⟨B0, 1, none⟩ = false from by
    have hb9 := K9.heap HB.out (by simp)
    exact ⟨by rw [cell_of_row w9 _ _ _ _ _ hb9]; rfl, by rw [cell_of_row w9 _ _ _ _ _ hb9]; rfl, by simp [World.frozen?, hb9], by simp [World.frozen?, hb9]⟩))
  have HSET := Lib.hid (fun (w9 : World) (K9 : Keep (fun _ => False) w1 w9) (a b : Value) => And.intro (two_cells (K9.heap HB.out (by simp)) a b) (two_keep (HK.out.trans K9) (show w.heap.size ≤ B0 from HSZ.out) a b))
  go_loop [5] (fun iv => ∃ i : Nat, 1 ≤ i ∧ i ≤ s.size ∧ iv = .int .i64 (i : Int) ∧ ∀ j, 1 ≤ j → j < i → 48 ≤ (s.data.toList.getD j 0).toNat ∧ (s.data.toList.getD j 0).toNat ≤ 57) (fun iv => s.size - (intOf iv).toNat)
  case atStart => exact ⟨1, Nat.le_refl _, by omega, rfl, fun j h1 h2 => by omega⟩
  case round =>
    obtain ⟨i, hk, hi, rfl, hj⟩ := hrel
    have HJ := Lib.hid hj
    clear hj
    by_cases hin : i < s.size
    · have i1 : (i : Int) < (s.size : Int) := by omega
      obtain ⟨d, hd⟩ : ∃ d, d = (s.data.toList.getD i 0).toNat := ⟨_, rfl⟩
      have hix : ∀ W : World, (Instr.index 9 (.string s) (.int .i64 (i : Int))).run Tryd.prog W = .ok (.int .u8 (d : Int)) W := fun W => idx_run s i hin d hd W
      have HD := Lib.hid hd
      obtain ⟨r0, r1, f0, f1⟩ := HRET.out _ (Keep.refl _ _)
      have HE := Lib.hid (HSET.out _ (Keep.refl _ _) (.bool false) (.slice none 0 0))
      have HNOX := Lib.hid (fun (h : d < 48 ∨ 57 < d) => (show parseV s.data.toList = none from by
        rw [HPV.out]
        refine if_pos (.inr ?_)
        rw [List.all_eq_false]
        have hb1 := HBD.out (i - 1) (by rw [HBN.out]; omega)
        rw [show 1 + (i - 1) = i from by omega, ← HD.out] at hb1
        have hlt : i - 1 < bl.length := by rw [HBN.out]; omega
        rw [List.getD_eq_getElem?_getD, List.getElem?_eq_getElem hlt] at hb1
        refine ⟨bl[i - 1], List.getElem_mem _, ?_⟩
        intro hdig
        have := (digB_iff _).1 hdig
        simp only [Option.getD_some] at hb1
        omega))
      clear hd
      rcases (by omega : d < 48 ∨ (57 < d ∧ ¬ d < 48) ∨ (¬ d < 48 ∧ ¬ 57 < d)) with hc | ⟨hc, hc2⟩ | ⟨hc, hc2⟩
      · have t1 : (d : Int) < 48 := by omega
        have HNO := Lib.hid (HNOX.out (.inl hc))
        clear hc HNOX
        go_wp2_with fail
        obtain ⟨⟨e0, e1⟩, kx⟩ := HE.out
        refine bodyPost_ret (v := .tuple #[numArg false none 0 0, .int .i64 9]) (by simp [results, Tryd.results26, go_sem, e0, e1]) rfl ?_
        unfold RPPost
        rw [HNO.out]
        exact ⟨rfl, kx⟩
      · have t1 : decide ((d : Int) < 48) = false := decide_eq_false (by omega)
        have t3 : (57 : Int) < (d : Int) := by omega
        have HNO := Lib.hid (HNOX.out (.inr hc))
        clear hc hc2 HNOX
        go_wp2_with fail
        obtain ⟨⟨e0, e1⟩, kx⟩ := HE.out
        refine bodyPost_ret (v := .tuple #[numArg false none 0 0, .int .i64 9]) (by simp [results, Tryd.results26, go_sem, e0, e1]) rfl ?_
        unfold RPPost
        rw [HNO.out]
        exact ⟨rfl, kx⟩
      · have t1 : decide ((d : Int) < 48) = false := decide_eq_false (by omega)
        have t3 : decide ((57 : Int) < (d : Int)) = false := decide_eq_false (by omega)
        have HC := Lib.hid (And.intro hc hc2)
        clear hc hc2 HNOX
        go_wp2_with fail
        go_round
        case rel => exact ⟨i + 1, by omega, by omega, by go_num, fun j h1 h2 => by
          by_cases e : j = i
          · rw [e, ← HD.out]; have := HC.out; omega
          · exact HJ.out j h1 (by omega)⟩
        case measure => simp [intOf]; omega
    · have i1 : decide ((i : Int) < (s.size : Int)) = false := decide_eq_false (by omega)
      obtain rfl : i = s.size := by omega
      obtain ⟨r0, r1, f0, f1⟩ := HRET.out _ (Keep.refl _ _)
      by_cases hone : s.size = 1
      · have t2 : ((1 : Int) == (s.size : Int)) = true := by rw [hone]; rfl
        have HNO := Lib.hid (show parseV s.data.toList = none from by rw [HPV.out]; exact if_pos (.inl (List.eq_nil_of_length_eq_zero (by rw [HBN.out, hone]))))
        have HE := Lib.hid (HSET.out _ (Keep.refl _ _) (.bool false) (.slice none 0 0))
        clear hone
        go_wp2_with fail
        obtain ⟨⟨e0, e1⟩, kx⟩ := HE.out
        refine bodyPost_ret (v := .tuple #[numArg false none 0 0, .int .i64 9]) (by simp [results, Tryd.results26, go_sem, e0, e1]) rfl ?_
        unfold RPPost
        rw [HNO.out]
        exact ⟨rfl, kx⟩
      have t2 : ((1 : Int) == (s.size : Int)) = false := by rw [beq_eq_false_iff_ne]; omega
      have HALL := Lib.hid (show parseV s.data.toList = some (if true = true then -(decVal bl : Int) else (decVal bl : Int)) from by
        rw [HPV.out]
        refine if_neg ?_
        rintro (h | h)
        · have := HBN.out; rw [h] at this; simp at this; omega
        · rw [List.all_eq_false] at h
          obtain ⟨b, hb, hd⟩ := h
          obtain ⟨j, hj, rfl⟩ := List.getElem_of_mem hb
          apply hd
          have hb1 := HBD.out j hj
          rw [List.getD_eq_getElem?_getD (l := bl), List.getElem?_eq_getElem hj] at hb1
          have := HJ.out (1 + j) (by omega) (by rw [HBN.out] at hj; omega)
          simp only [Option.getD_some] at hb1
          rw [hb1] at this
          exact (digB_iff _).2 this)
      obtain ⟨x, hx⟩ : ∃ x : Int, x = (if true = true then -(decVal bl : Int) else (decVal bl : Int)) := ⟨_, rfl⟩
      rw [← hx] at HALL
      have HXA := Lib.hid (show x.natAbs = decVal bl from by rw [hx]; simp)
      have HXS := Lib.hid (show sgn true (decVal bl) = x from by rw [hx]; rfl)
      clear hx hone
      go_wp2_with fail
      clear t2 i1 r0 r1 f0 f1
      go_loopw [6, 7, 8, 9] (fun bv iv _ _ wr => ∃ (q j : Nat) (P : Option Addr) (nb cb : Nat), q = 1 + j ∧ q ≤ s.size ∧ iv = .int .i64 (q : Int) ∧ bv = .slice P nb cb ∧ RpSt w1 B0 (decVal (bl.take j)) P nb cb wr) (fun _ iv _ _ _ => s.size - (intOf iv).toNat)
      case atStart => exact ⟨1, 0, none, 0, 0, rfl, by omega, rfl, rfl, HB.out, by rw [List.take_zero, show decVal [] = 0 from rfl]; unfold bits2; rw [digs_zero]; exact ⟨RowAt.nil _ _ _, Low.nil 2, Nat.le_refl _, by omega⟩, by omega, Keep.refl _ _⟩
      case round =>
        obtain ⟨q, j, P, nb, cb, hq, hjl, rfl, rfl, st⟩ := hrel
        have HS := Lib.hid st
        have hnb := st.n
        clear st
        obtain ⟨V, hV⟩ : ∃ V, V = decVal (bl.take j) := ⟨_, rfl⟩
        rw [← hV] at HS
        have HVV := Lib.hid hV
        clear hV
        by_cases hin : q < s.size
        · have j1 : (q : Int) < (s.size : Int) := by omega
          obtain ⟨d, hd⟩ : ∃ d, d = (s.data.toList.getD q 0).toNat := ⟨_, rfl⟩
          have hix : ∀ W : World, (Instr.index 9 (.string s) (.int .i64 (q : Int))).run Tryd.prog W = .ok (.int .u8 (d : Int)) W := fun W => idx_run s q hin d hd W
          have hdd := HJ.out q (by omega) hin
          rw [← hd] at hdd
          obtain ⟨dg, hdg⟩ : ∃ g, g = d - 48 := ⟨_, rfl⟩
          have hw1 : IntKind.u8.wrap (dg : Int) = (dg : Int) := by rw [IntKind.wrap_u8]; omega
          have hw2 : IntKind.i64.wrap (dg : Int) = (dg : Int) := by rw [IntKind.wrap_i64]; omega
          have hw3 : (d : Int) - 48 = (dg : Int) := by omega
          have hdg9 : dg ≤ 9 := by omega
          have HNXT := Lib.hid (show decVal (bl.take (j + 1)) = 10 * V + dg from by
            have hjb : j < bl.length := by rw [HBN.out]; omega
            rw [decVal_take_succ bl j hjb, ← HVV.out, hdg, hd, hq, HBD.out j hjb, List.getD_eq_getElem?_getD, List.getElem?_eq_getElem hjb]
            rfl)
          have HQ := Lib.hid hq
          clear hd hdg hq
          have HB9 := Lib.hid (bound9 (V := V) rfl (by rw [HS.out.o.len]; exact hnb))
          have HB11 := Lib.hid (bound11 (V := V) (dg := dg) rfl (by rw [HS.out.o.len]; exact hnb) hdg9)
          rcases P with _ | ad
          · obtain ⟨hn0, hl0⟩ := HS.out.o.nil_of
            subst hn0
            have hv0 : V = 0 := digs_nil two2 hl0
            have HE8 := Lib.hid ((three_own wr).toBits (by intro x hx; simp at hx; omega) (by omega))
            have K3 : Keep (fun _ => False) wr (wr.alloc (.cells #[.int .u8 0, .int .u8 0, .int .u8 0] 5)) := (Keep.refl _ _).alloc _
            have K4 : Keep (fun _ => False) (wr.alloc (.cells #[.int .u8 0, .int .u8 0, .int .u8 0] 5)) ((wr.alloc (.cells #[.int .u8 0, .int .u8 0, .int .u8 0] 5)).alloc (.cells #[.int .u8 0] 5)) := (Keep.refl _ _).alloc _
            have HE8 := Lib.hid (HE8.out.keep0 K4)
            have o2 := (own1 (wr.alloc (.cells #[.int .u8 0, .int .u8 0, .int .u8 0] 5))).toBits (by intro x hx; simp at hx; omega) (by omega)
            rw [World.size_alloc] at o2
            have HE2 := Lib.hid o2
            have HK8 := Lib.hid (K3.trans K4)
            have HR8 := Lib.hid ((K3.trans K4).heap HS.out.r (by simp))
            have HV8 := Lib.hid (show bval [0, 0, 0] = 8 * V from by rw [hv0]; rfl)
            have HV2 := Lib.hid (show bval [0] = 2 * V from by rw [hv0]; rfl)
            clear hl0 hv0 K3 K4 o2
            go_wp2_with fail
            generalize hA8 : (some ⟨wr.heap.size, 0, none⟩ : Option Addr) = A8 at HE8 ⊢
            generalize hA2 : (some ⟨wr.heap.size + 1, 0, none⟩ : Option Addr) = A2 at HE2 ⊢
            generalize (wr.alloc (.cells #[.int .u8 0, .int .u8 0, .int .u8 0] 5)).alloc (.cells #[.int .u8 0] 5) = w8 at HE8 HE2 HK8 HR8 ⊢
            clear hA8 hA2
            have Kd : Keep (fun _ => False) w8 w8.drew := (Keep.refl _ _).drew
            have HCC := Lib.hid (fun (w' : World) (K' : Keep (fun _ => False) w8 w') => (show w'.cell? ⟨B0, 0, none⟩ = some (.bool false) from by rw [cell_of_row w' _ _ _ _ _ (K'.heap HR8.out (by simp))]; rfl))
            refine wp_region_held_drew (S := fun w' => w'.cell? ⟨B0, 0, none⟩ = some (.bool false)) (by kernel_rfl) (HCC.out _ Kd) (fun hHeld => ?_)
            refine wpAnyH_take (i := 0) (oi := _) (v := ?_) rfl (by kernel_rfl) (by kernel_rfl) (by kernel_rfl) (fun _ _ _ h => h) (Or.inl ⟨by rfl, ?_⟩) (by assumption) ?_
            rotate_left
            · (intro w hSw; (try dsimp only at hSw); go_simp)
              all_goals with_reducible rfl
            refine wpAnyH_take (i := 1) (oi := _) (v := ?_) rfl (by kernel_rfl) (by kernel_rfl) (by kernel_rfl) (fun _ _ _ h => h) (Or.inl ⟨by rfl, ?_⟩) (by assumption) ?_
            rotate_left
            · (intro w hSw; (try dsimp only at hSw); go_simp)
              all_goals with_reducible rfl
            try dsimp only [List.getElem_toArray, List.getElem_cons_succ, List.getElem_cons_zero]
            try simp only [Act.put, List.setIfInBounds_toArray, List.set_cons_zero, List.set_cons_succ]
            refine wpAnyH_take (i := 3) (oi := _) (v := ?_) rfl (by kernel_rfl) (by kernel_rfl) (by kernel_rfl) (fun _ _ _ h => h) (Or.inl ⟨by rfl, ?_⟩) (by assumption) ?_
            rotate_left
            · (intro w hSw; (try dsimp only at hSw); go_simp)
              all_goals with_reducible rfl
            refine wpAnyH_take (i := 4) (oi := _) (v := ?_) rfl (by kernel_rfl) (by kernel_rfl) (by kernel_rfl) (fun _ _ _ h => h) (Or.inl ⟨by rfl, ?_⟩) (by assumption) ?_
            rotate_left
            · (intro w hSw; (try dsimp only at hSw); go_simp)
              all_goals with_reducible rfl
            try dsimp only [List.getElem_toArray, List.getElem_cons_succ, List.getElem_cons_zero]
            try simp only [Act.put, List.setIfInBounds_toArray, List.set_cons_zero, List.set_cons_succ]
            refine wpAnyH_take (i := 5) (oi := _) (v := ?_) rfl (by kernel_rfl) (by kernel_rfl) (by kernel_rfl) (fun _ _ _ h => h) (Or.inl ⟨by rfl, ?_⟩) (by assumption) ?_
            rotate_left
            · (intro w hSw; (try dsimp only at hSw); go_simp)
              all_goals with_reducible rfl
            refine wpAnyH_take (i := 6) (oi := _) (v := ?_) rfl (by kernel_rfl) (by kernel_rfl) (by kernel_rfl) (fun _ _ _ h => h) (Or.inl ⟨by rfl, ?_⟩) (by assumption) ?_
            rotate_left
            · (intro w hSw; (try dsimp only at hSw); go_simp)
              all_goals with_reducible rfl
            try dsimp only [List.getElem_toArray, List.getElem_cons_succ, List.getElem_cons_zero]
            try simp only [Act.put, List.setIfInBounds_toArray, List.set_cons_zero, List.set_cons_succ]
            refine wpAnyH_take (i := 7) (oi := _) (v := ?_) rfl (by kernel_rfl) (by kernel_rfl) (by kernel_rfl) (fun _ _ _ h => h) (Or.inl ⟨by rfl, ?_⟩) (by assumption) ?_
            rotate_left
            · (intro w hSw; (try dsimp only at hSw); go_simp)
              all_goals with_reducible rfl
            try dsimp only [List.getElem_toArray, List.getElem_cons_succ, List.getElem_cons_zero]
            try simp only [Act.put, List.setIfInBounds_toArray, List.set_cons_zero, List.set_cons_succ]
            refine wpAnyH_ready (rs := [2]) (by kernel_rfl) (by simp) ?_
            refine AllReadyH.cons (o := _) rfl (fun K hK => ?_) AllReadyH.nil
            go_simp
            refine (rplus_any A8 3 3 _ A2 1 1 _ _ (HE8.out.keep0 Kd) (HE2.out.keep0 Kd) (by omega) (by omega)).mono ?_
            rintro e wr1 ⟨A9, n9, c9, rfl, o9, kr⟩
            have hn9 : n9 ≤ 1545 := mag_n (m := 1536 + 9) o9 (by rw [HV8.out, HV2.out]; exact HB9.out)
            have HB9B := Lib.hid (o9.toBits (digs_low two2 _) (by omega))
            clear o9
            have K1 : Keep (fun _ => False) w8 wr1 := Keep.trans Kd kr
            clear kr 
            try dsimp only
            go_wp2_with fail
            refine hK.out _ _ (HCC.out _ K1) (fun hHeld => ?_)
            clear hK K
            try dsimp only [List.getElem_toArray, List.getElem_cons_succ, List.getElem_cons_zero]
            try simp only [Act.put, List.setIfInBounds_toArray, List.set_cons_zero, List.set_cons_succ]
            refine wpAnyH_ready (rs := [8]) (by kernel_rfl) (by simp) ?_
            refine AllReadyH.cons (o := _) rfl (fun K hK => ?_) AllReadyH.nil
            go_simp
            refine (small_any dg _ (by omega)).mono ?_
            rintro e wr2 ⟨A10, n10, c10, rfl, o10, kr⟩
            have hn10 : n10 ≤ 4 := mag_n o10 (by omega)
            have HB10 := Lib.hid (o10.toBits (digs_low two2 _) (by omega))
            have HB9C := Lib.hid (HB9B.out.keep0 kr)
            clear o10
            have K2 : Keep (fun _ => False) w8 wr2 := Keep.trans K1 kr
            clear kr K1
            try dsimp only
            go_wp2_with fail
            refine hK.out _ _ (HCC.out _ K2) (fun hHeld => ?_)
            clear hK K
            try dsimp only [List.getElem_toArray, List.getElem_cons_succ, List.getElem_cons_zero]
            try simp only [Act.put, List.setIfInBounds_toArray, List.set_cons_zero, List.set_cons_succ]
            refine wpAnyH_ready (rs := [9]) (by kernel_rfl) (by simp) ?_
            refine AllReadyH.cons (o := _) rfl (fun K hK => ?_) AllReadyH.nil
            go_simp
            refine (rplus_any A9 n9 c9 _ A10 n10 c10 _ _ HB9C.out HB10.out (by omega) (by omega)).mono ?_
            rintro e wr3 ⟨A11, n11, c11, rfl, o11, kr⟩
            rw [ten_val HV8.out HV2.out] at o11
            have hn11 := o11.len
            have HN11 := Lib.hid hn11
            have HO11 := Lib.hid (OwnR.bits o11 (by rw [← hn11]; exact Nat.le_trans ((digs_len_le two2 _ (1536 + 64)).2 HB11.out) (by omega)))
            clear o11 hn11
            have K3 : Keep (fun _ => False) w8 wr3 := Keep.trans K2 kr
            clear kr K2
            try dsimp only
            go_wp2_with fail
            refine hK.out _ _ (HCC.out _ K3) (fun hHeld => ?_)
            clear hK K
            refine wpAnyH_take (i := 10) (oi := _) (v := ?_) rfl (by kernel_rfl) (by kernel_rfl) (by kernel_rfl) (fun _ _ _ h => h) (Or.inl ⟨by rfl, ?_⟩) (by assumption) ?_
            rotate_left
            · (intro w hSw; (try dsimp only at hSw); go_simp)
              all_goals with_reducible rfl
            try dsimp only [List.getElem_toArray, List.getElem_cons_succ, List.getElem_cons_zero]
            try simp only [Act.put, List.setIfInBounds_toArray, List.set_cons_zero, List.set_cons_succ]
            refine wpAnyH_done (by kernel_rfl) ?_ _
            have KK := K3
            clear K3
            have KX := Lib.hid (HK8.out.trans KK)
            clear HCC KK
            by_cases hbig : 1536 < n11
            · have tb : (1536 : Int) < (n11 : Int) := by omega
              have HNF := Lib.hid (too_long (k := j + 1) HXA.out (by rw [HNXT.out, HN11.out]; exact hbig))
              obtain ⟨r0, r1, f0, f1⟩ := HRET.out _ (HS.out.K.trans KX.out)
              have HE := Lib.hid (HSET.out _ (HS.out.K.trans KX.out) (.bool false) (.slice none 0 0))
              clear hbig
              try dsimp only
              go_wp2_with fail
              obtain ⟨⟨e0, e1⟩, kx⟩ := HE.out
              refine bodyPost_ret (v := .tuple #[numArg false none 0 0, .int .i64 6]) (by simp [results, Tryd.results26, go_sem, e0, e1]) rfl ?_
              unfold RPPost
              rw [HALL.out]
              exact .inr ⟨HNF.out, rfl, kx⟩
            · have tb : decide ((1536 : Int) < (n11 : Int)) = false := decide_eq_false (by omega)
              have HNS := Lib.hid (show RpSt w1 B0 (decVal (bl.take (j + 1))) A11 n11 c11 _ from ⟨KX.out.heap HS.out.r (by simp), by rw [HNXT.out]; exact HO11.out, by omega, HS.out.K.trans KX.out⟩)
              clear hbig
              try dsimp only
              go_wp2_with fail
              go_roundw
              case rel => exact ⟨q + 1, j + 1, _, _, _, by have := HQ.out; omega, by omega, by go_num, rfl, HNS.out⟩
              case measure => simp [intOf]; omega
          · obtain ⟨i5, h5, hz0, hz1, hz2⟩ := info_parts info5
            have K3 : Keep (fun _ => False) wr (wr.alloc (.cells #[.int .u8 0, .int .u8 0, .int .u8 0] 5)) := (Keep.refl _ _).alloc _
            have HO3 := Lib.hid (three_own wr)
            have HRR := Lib.hid ((HS.out.o.row.keep0 K3).news)
            have HRL := Lib.hid HS.out.o.len
            have HK3 := Lib.hid K3
            clear K3
            go_wp2_with (at_builtin; refine wpList_append_own _ rfl (.tmp 53) (.tmp 54) 32 rfl wr.heap.size 5 i5 (.int .u8 0) 1 1 Tryd.underlying32 h5 hz0 hz1 hz2 rfl (by decide) _ _ _ rfl HO3.out ad nb cb ((bits2 V).map fun x : Nat => Value.int .u8 (x : Int)) rfl (by rw [List.length_map, HRL.out, Nat.mul_one]) HRR.out ?a1 ?a2 ?a3 ?a4 ?_)
            case a1 =>
              intro u hu
              obtain ⟨z, _, rfl⟩ := List.mem_map.1 hu
              rfl
            case a2 => unfold maxLen; omega
            case a3 => omega
            case a4 => simp
            intro v8 w6 hown hgrow _
            have hown2 : w6.ownsRow wr.heap.size 5 1 v8 (3 + nb) ((List.replicate 3 0 ++ bits2 V).map fun x : Nat => Value.int .u8 (x : Int)) := hown
            obtain ⟨A8, c8, rfl, o8⟩ := own_slice hown2
            have K6 : Keep (fun _ => False) wr w6 := HK3.out.into (Keep.of_grown hgrow) (fun i hi => Nat.le_of_eq (by simpa [Value.ownBlock] using hi.symm))
            have HO8 := Lib.hid (o8.toBits (pre_low 3 V) (by omega))
            have K7 : Keep (fun _ => False) w6 (w6.alloc (.cells #[.int .u8 0] 5)) := (Keep.refl _ _).alloc _
            have HRR2 := Lib.hid ((HS.out.o.row.keep0 (K6.trans K7)).news)
            have HK6 := Lib.hid K6
            have HK7 := Lib.hid K7
            have HO1 := Lib.hid (one_own w6 0)
            clear hown hown2 hgrow o8 K6 K7
            go_wp2_with (at_builtin; refine wpList_append_own _ rfl (.tmp 56) (.tmp 57) 32 rfl w6.heap.size 5 i5 (.int .u8 0) 1 1 Tryd.underlying32 h5 hz0 hz1 hz2 rfl (by decide) _ _ _ rfl HO1.out ad nb cb ((bits2 V).map fun x : Nat => Value.int .u8 (x : Int)) rfl (by rw [List.length_map, HRL.out, Nat.mul_one]) HRR2.out ?a1 ?a2 ?a3 ?a4 ?_)
            case a1 =>
              intro u hu
              obtain ⟨z, _, rfl⟩ := List.mem_map.1 hu
              rfl
            case a2 => unfold maxLen; omega
            case a3 => omega
            case a4 => simp
            intro v2 w8 hown hgrow _
            have hown2 : w8.ownsRow w6.heap.size 5 1 v2 (1 + nb) ((List.replicate 1 0 ++ bits2 V).map fun x : Nat => Value.int .u8 (x : Int)) := hown
            obtain ⟨A2, c2, rfl, o2⟩ := own_slice hown2
            have K8 : Keep (fun _ => False) w6 w8 := HK7.out.into (Keep.of_grown hgrow) (fun i hi => Nat.le_of_eq (by simpa [Value.ownBlock] using hi.symm))
            have HE2 := Lib.hid (o2.toBits (pre_low 1 V) (by omega))
            have HE8 := Lib.hid (HO8.out.keep0 K8)
            have HK8 := Lib.hid (HK6.out.trans K8)
            have HR8 := Lib.hid ((HK6.out.trans K8).heap HS.out.r (by simp))
            have HV8 := Lib.hid (pre_val 3 V)
            have HV2 := Lib.hid (pre_val 1 V)
            clear hown hown2 hgrow o2 K8
            go_wp2_with fail
            have Kd : Keep (fun _ => False) w8 w8.drew := (Keep.refl _ _).drew
            have HCC := Lib.hid (fun (w' : World) (K' : Keep (fun _ => False) w8 w') => (show w'.cell? ⟨B0, 0, none⟩ = some (.bool false) from by rw [cell_of_row w' _ _ _ _ _ (K'.heap HR8.out (by simp))]; rfl))
            refine wp_region_held_drew (S := fun w' => w'.cell? ⟨B0, 0, none⟩ = some (.bool false)) (by kernel_rfl) (HCC.out _ Kd) (fun hHeld => ?_)
            refine wpAnyH_take (i := 0) (oi := _) (v := ?_) rfl (by kernel_rfl) (by kernel_rfl) (by kernel_rfl) (fun _ _ _ h => h) (Or.inl ⟨by rfl, ?_⟩) (by assumption) ?_
            rotate_left
            · (intro w hSw; (try dsimp only at hSw); go_simp)
              all_goals with_reducible rfl
            refine wpAnyH_take (i := 1) (oi := _) (v := ?_) rfl (by kernel_rfl) (by kernel_rfl) (by kernel_rfl) (fun _ _ _ h => h) (Or.inl ⟨by rfl, ?_⟩) (by assumption) ?_
            rotate_left
            · (intro w hSw; (try dsimp only at hSw); go_simp)
              all_goals with_reducible rfl
            try dsimp only [List.getElem_toArray, List.getElem_cons_succ, List.getElem_cons_zero]
            try simp only [Act.put, List.setIfInBounds_toArray, List.set_cons_zero, List.set_cons_succ]
            refine wpAnyH_take (i := 3) (oi := _) (v := ?_) rfl (by kernel_rfl) (by kernel_rfl) (by kernel_rfl) (fun _ _ _ h => h) (Or.inl ⟨by rfl, ?_⟩) (by assumption) ?_
            rotate_left
            · (intro w hSw; (try dsimp only at hSw); go_simp)
              all_goals with_reducible rfl
            refine wpAnyH_take (i := 4) (oi := _) (v := ?_) rfl (by kernel_rfl) (by kernel_rfl) (by kernel_rfl) (fun _ _ _ h => h) (Or.inl ⟨by rfl, ?_⟩) (by assumption) ?_
            rotate_left
            · (intro w hSw; (try dsimp only at hSw); go_simp)
              all_goals with_reducible rfl
            try dsimp only [List.getElem_toArray, List.getElem_cons_succ, List.getElem_cons_zero]
            try simp only [Act.put, List.setIfInBounds_toArray, List.set_cons_zero, List.set_cons_succ]
            refine wpAnyH_take (i := 5) (oi := _) (v := ?_) rfl (by kernel_rfl) (by kernel_rfl) (by kernel_rfl) (fun _ _ _ h => h) (Or.inl ⟨by rfl, ?_⟩) (by assumption) ?_
            rotate_left
            · (intro w hSw; (try dsimp only at hSw); go_simp)
              all_goals with_reducible rfl
            refine wpAnyH_take (i := 6) (oi := _) (v := ?_) rfl (by kernel_rfl) (by kernel_rfl) (by kernel_rfl) (fun _ _ _ h => h) (Or.inl ⟨by rfl, ?_⟩) (by assumption) ?_
            rotate_left
            · (intro w hSw; (try dsimp only at hSw); go_simp)
              all_goals with_reducible rfl
            try dsimp only [List.getElem_toArray, List.getElem_cons_succ, List.getElem_cons_zero]
            try simp only [Act.put, List.setIfInBounds_toArray, List.set_cons_zero, List.set_cons_succ]
            refine wpAnyH_take (i := 7) (oi := _) (v := ?_) rfl (by kernel_rfl) (by kernel_rfl) (by kernel_rfl) (fun _ _ _ h => h) (Or.inl ⟨by rfl, ?_⟩) (by assumption) ?_
            rotate_left
            · (intro w hSw; (try dsimp only at hSw); go_simp)
              all_goals with_reducible rfl
            try dsimp only [List.getElem_toArray, List.getElem_cons_succ, List.getElem_cons_zero]
            try simp only [Act.put, List.setIfInBounds_toArray, List.set_cons_zero, List.set_cons_succ]
            refine wpAnyH_ready (rs := [2]) (by kernel_rfl) (by simp) ?_
            refine AllReadyH.cons (o := _) rfl (fun K hK => ?_) AllReadyH.nil
            go_simp
            refine (rplus_any A8 (3 + nb) c8 _ A2 (1 + nb) c2 _ _ (HE8.out.keep0 Kd) (HE2.out.keep0 Kd) (by omega) (by omega)).mono ?_
            rintro e wr1 ⟨A9, n9, c9, rfl, o9, kr⟩
            have hn9 : n9 ≤ 1545 := mag_n (m := 1536 + 9) o9 (by rw [HV8.out, HV2.out]; exact HB9.out)
            have HB9B := Lib.hid (o9.toBits (digs_low two2 _) (by omega))
            clear o9
            have K1 : Keep (fun _ => False) w8 wr1 := Keep.trans Kd kr
            clear kr 
            try dsimp only
            go_wp2_with fail
            refine hK.out _ _ (HCC.out _ K1) (fun hHeld => ?_)
            clear hK K
            try dsimp only [List.getElem_toArray, List.getElem_cons_succ, List.getElem_cons_zero]
            try simp only [Act.put, List.setIfInBounds_toArray, List.set_cons_zero, List.set_cons_succ]
            refine wpAnyH_ready (rs := [8]) (by kernel_rfl) (by simp) ?_
            refine AllReadyH.cons (o := _) rfl (fun K hK => ?_) AllReadyH.nil
            go_simp
            refine (small_any dg _ (by omega)).mono ?_
            rintro e wr2 ⟨A10, n10, c10, rfl, o10, kr⟩
            have hn10 : n10 ≤ 4 := mag_n o10 (by omega)
            have HB10 := Lib.hid (o10.toBits (digs_low two2 _) (by omega))
            have HB9C := Lib.hid (HB9B.out.keep0 kr)
            clear o10
            have K2 : Keep (fun _ => False) w8 wr2 := Keep.trans K1 kr
            clear kr K1
            try dsimp only
            go_wp2_with fail
            refine hK.out _ _ (HCC.out _ K2) (fun hHeld => ?_)
            clear hK K
            try dsimp only [List.getElem_toArray, List.getElem_cons_succ, List.getElem_cons_zero]
            try simp only [Act.put, List.setIfInBounds_toArray, List.set_cons_zero, List.set_cons_succ]
            refine wpAnyH_ready (rs := [9]) (by kernel_rfl) (by simp) ?_
            refine AllReadyH.cons (o := _) rfl (fun K hK => ?_) AllReadyH.nil
            go_simp
            refine (rplus_any A9 n9 c9 _ A10 n10 c10 _ _ HB9C.out HB10.out (by omega) (by omega)).mono ?_
            rintro e wr3 ⟨A11, n11, c11, rfl, o11, kr⟩
            rw [ten_val HV8.out HV2.out] at o11
            have hn11 := o11.len
            have HN11 := Lib.hid hn11
            have HO11 := Lib.hid (OwnR.bits o11 (by rw [← hn11]; exact Nat.le_trans ((digs_len_le two2 _ (1536 + 64)).2 HB11.out) (by omega)))
            clear o11 hn11
            have K3 : Keep (fun _ => False) w8 wr3 := Keep.trans K2 kr
            clear kr K2
            try dsimp only
            go_wp2_with fail
            refine hK.out _ _ (HCC.out _ K3) (fun hHeld => ?_)
            clear hK K
            refine wpAnyH_take (i := 10) (oi := _) (v := ?_) rfl (by kernel_rfl) (by kernel_rfl) (by kernel_rfl) (fun _ _ _ h => h) (Or.inl ⟨by rfl, ?_⟩) (by assumption) ?_
            rotate_left
            · (intro w hSw; (try dsimp only at hSw); go_simp)
              all_goals with_reducible rfl
            try dsimp only [List.getElem_toArray, List.getElem_cons_succ, List.getElem_cons_zero]
            try simp only [Act.put, List.setIfInBounds_toArray, List.set_cons_zero, List.set_cons_succ]
            refine wpAnyH_done (by kernel_rfl) ?_ _
            have KK := K3
            clear K3
            have KX := Lib.hid (HK8.out.trans KK)
            clear HCC KK
            by_cases hbig : 1536 < n11
            · have tb : (1536 : Int) < (n11 : Int) := by omega
              have HNF := Lib.hid (too_long (k := j + 1) HXA.out (by rw [HNXT.out, HN11.out]; exact hbig))
              obtain ⟨r0, r1, f0, f1⟩ := HRET.out _ (HS.out.K.trans KX.out)
              have HE := Lib.hid (HSET.out _ (HS.out.K.trans KX.out) (.bool false) (.slice none 0 0))
              clear hbig
              try dsimp only
              go_wp2_with fail
              obtain ⟨⟨e0, e1⟩, kx⟩ := HE.out
              refine bodyPost_ret (v := .tuple #[numArg false none 0 0, .int .i64 6]) (by simp [results, Tryd.results26, go_sem, e0, e1]) rfl ?_
              unfold RPPost
              rw [HALL.out]
              exact .inr ⟨HNF.out, rfl, kx⟩
            · have tb : decide ((1536 : Int) < (n11 : Int)) = false := decide_eq_false (by omega)
              have HNS := Lib.hid (show RpSt w1 B0 (decVal (bl.take (j + 1))) A11 n11 c11 _ from ⟨KX.out.heap HS.out.r (by simp), by rw [HNXT.out]; exact HO11.out, by omega, HS.out.K.trans KX.out⟩)
              clear hbig
              try dsimp only
              go_wp2_with fail
              go_roundw
              case rel => exact ⟨q + 1, j + 1, _, _, _, by have := HQ.out; omega, by omega, by go_num, rfl, HNS.out⟩
              case measure => simp [intOf]; omega
        · have j1 : decide ((q : Int) < (s.size : Int)) = false := decide_eq_false (by omega)
          have hvd : V = decVal bl := by rw [HVV.out, List.take_of_length_le (by rw [HBN.out]; omega)]
          clear hq
          obtain ⟨z, hz⟩ : ∃ z, z = decide (x < 0) := ⟨_, rfl⟩
          have HVA := Lib.hid (value_b (z := z) (neg := true) HS.out.o (by rw [hvd, HXS.out]; exact hz))
          have HZ := Lib.hid hz
          have HVD := Lib.hid hvd
          have b45 : ((d0 : Int) == 45) = true := HB45.out
          clear hz hvd
          go_wp2_with fail
          refine HVA.out.mono ?_
          rintro e w9 ⟨n9, rfl, b9, k9⟩
          obtain ⟨r0, r1, f0, f1⟩ := HRET.out _ (HS.out.K.trans k9)
          have HE := Lib.hid (HSET.out _ (HS.out.K.trans k9) (.bool z) (.slice P n9 cb))
          have hb9 := (HS.out.K.trans k9).heap HB.out (by simp)
          have KS : Keep (fun b => b = B0) w9 ((w9.setCell ⟨B0, 0, none⟩ (.bool z)).setCell ⟨B0, 1, none⟩ (.slice P n9 cb)) := ((Keep.refl (fun b => b = B0) w9).setCell (p := ⟨B0, 0, none⟩) (.inl rfl) (.bool z)).setCell (p := ⟨B0, 1, none⟩) (.inl rfl) (.slice P n9 cb)
          have HB9 := Lib.hid (show BitsAt ((w9.setCell ⟨B0, 0, none⟩ (.bool z)).setCell ⟨B0, 1, none⟩ (.slice P n9 cb)) P n9 cb (bits2 x.natAbs) from by
            rw [HXA.out, ← HVD.out]
            exact ⟨b9.row.keep KS (row_off b9.row hb9 (by intro q x e; cases e)), b9.low, b9.cap, b9.max⟩)
          have HFT := Lib.hid (show Fits x from by rw [fits_bits, HXA.out, ← HVD.out, HS.out.o.len]; exact hnb)
          clear b9 k9 hb9 KS HVA b45
          try dsimp only
          go_wp2_with fail
          obtain ⟨⟨e0, e1⟩, kx⟩ := HE.out
          refine bodyPost_ret (v := .tuple #[numArg z P n9 cb, .int .i64 0]) (by simp [results, Tryd.results26, go_sem, e0, e1]) rfl ?_
          unfold RPPost
          rw [HALL.out]
          exact .inl ⟨HFT.out, P, n9, cb, by rw [← HZ.out], HB9.out, kx⟩
set_option maxRecDepth 100000 in
set_option maxHeartbeats 8000000 in
theorem rparse_plus (s : ByteArray) (w : World) (hs : s.size ≤ 1000000) (h0 : 0 < s.size) (hd0 : (s.data.toList.getD 0 0).toNat = 43) : Calls Tryd.prog 26 #[.string s] w (RPPost s.data.toList w) := by
  have hlen : s.data.toList.length = s.size := (Lib.size_eq s).symm
  have p45 := pre_one s.data.toList 45
  have p43 := pre_one s.data.toList 43
  rw [hlen] at p45 p43
  have q45 : Lib.hasPrefix s.data.toList [45] = false := by rw [p45]; exact decide_eq_false (by rintro ⟨_, h⟩; rw [show (45 : UInt8).toNat = 45 from rfl] at h; omega)
  have q43 : Lib.hasPrefix s.data.toList [43] = true := by rw [p43]; exact decide_eq_true (by exact ⟨h0, hd0⟩)
  obtain ⟨bl, hbl⟩ : ∃ l, l = body s.data.toList := ⟨_, rfl⟩
  have hbl2 : bl = s.data.toList.drop 1 := by rw [hbl]; unfold body signB; rw [q45, q43]; rfl
  have hbn : bl.length = s.size - 1 := by rw [hbl2, List.length_drop, hlen]
  have hbd : ∀ j, j < bl.length → (s.data.toList.getD (1 + j) 0).toNat = (bl.getD j 0).toNat := by
    intro j hj
    rw [hbl2, List.getD_eq_getElem?_getD, List.getD_eq_getElem?_getD, List.getElem?_drop]
  have hpv : parseV s.data.toList = if bl = [] ∨ bl.all digB = false then none else some (if false = true then -(decVal bl : Int) else (decVal bl : Int)) := by unfold parseV; rw [← hbl, q45]
  have HPV := Lib.hid hpv
  have HBD := Lib.hid hbd
  have HBN := Lib.hid hbn
  obtain ⟨d0, hdd⟩ : ∃ d, d = (s.data.toList.getD 0 0).toNat := ⟨_, rfl⟩
  have hix0 : ∀ W : World, (Instr.index 9 (.string s) (.int .i64 0)).run Tryd.prog W = .ok (.int .u8 (d0 : Int)) W := fun W => idx_run s 0 h0 d0 hdd W
  have b45 : ((d0 : Int) == 45) = false := by rw [hdd]; rw [beq_eq_false_iff_ne]; omega
  have b43 : ((d0 : Int) == 43) = true := by rw [hdd]; rw [hd0]; rfl
  have hpos : (0 : Int) < (s.size : Int) := by omega
  have HB45 := Lib.hid b45
  clear p45 p43 q45 q43 hbl hbl2 hbn hbd hpv hd0 hlen
  have K : Keep (fun _ => False) w (w.alloc (.cells #[.bool false, .slice none 0 0] 34)) := (Keep.refl _ _).alloc _
  have hb : (w.alloc (.cells #[.bool false, .slice none 0 0] 34)).heap[w.heap.size]? = some (.cells #[.bool false, .slice none 0 0] 34 (0, 0)) := heap_alloc_new w _
  have HK := Lib.hid K
  have HB := Lib.hid hb
  have HDD := Lib.hid hdd
  clear K hb hdd
  go_enter Tryd.func26, Tryd.ntmps26
  go_wp2_with fail
  clear hpos b45 b43
  generalize hB0 : w.heap.size = B0 at HB ⊢
  have HSZ := Lib.hid (Nat.le_of_eq hB0)
  clear hB0
  generalize w.alloc (.cells #[.bool false, .slice none 0 0] 34) = w1 at HB HK ⊢
  have HRET := Lib.hid (fun (w9 : World) (K9 : Keep (fun _ => False) w1 w9) => (show w9.cell? ⟨B0, 0, none⟩ = some (.bool false) ∧ w9.cell? ⟨B0, 1, none⟩ = some (.slice none 0 0) ∧ w9.frozen? ⟨B0, 0, none⟩ = false ∧ w9.frozen? ⟨B0, 1, none⟩ = false from by
    have hb9 := K9.heap HB.out (by simp)
    exact ⟨by rw [cell_of_row w9 _ _ _ _ _ hb9]; rfl, by rw [cell_of_row w9 _ _ _ _ _ hb9]; rfl, by simp [World.frozen?, hb9], by simp [World.frozen?, hb9]⟩))
  have HSET := Lib.hid (fun (w9 : World) (K9 : Keep (fun _ => False) w1 w9) (a b : Value) => And.intro (two_cells (K9.heap HB.out (by simp)) a b) (two_keep (HK.out.trans K9) (show w.heap.size ≤ B0 from HSZ.out) a b))
  go_loop [5] (fun iv => ∃ i : Nat, 1 ≤ i ∧ i ≤ s.size ∧ iv = .int .i64 (i : Int) ∧ ∀ j, 1 ≤ j → j < i → 48 ≤ (s.data.toList.getD j 0).toNat ∧ (s.data.toList.getD j 0).toNat ≤ 57) (fun iv => s.size - (intOf iv).toNat)
  case atStart => exact ⟨1, Nat.le_refl _, by omega, rfl, fun j h1 h2 => by omega⟩
  case round =>
    obtain ⟨i, hk, hi, rfl, hj⟩ := hrel
    have HJ := Lib.hid hj
    clear hj
    by_cases hin : i < s.size
    · have i1 : (i : Int) < (s.size : Int) := by omega
      obtain ⟨d, hd⟩ : ∃ d, d = (s.data.toList.getD i 0).toNat := ⟨_, rfl⟩
      have hix : ∀ W : World, (Instr.index 9 (.string s) (.int .i64 (i : Int))).run Tryd.prog W = .ok (.int .u8 (d : Int)) W := fun W => idx_run s i hin d hd W
      have HD := Lib.hid hd
      obtain ⟨r0, r1, f0, f1⟩ := HRET.out _ (Keep.refl _ _)
      have HE := Lib.hid (HSET.out _ (Keep.refl _ _) (.bool false) (.slice none 0 0))
      have HNOX := Lib.hid (fun (h : d < 48 ∨ 57 < d) => (show parseV s.data.toList = none from by
        rw [HPV.out]
        refine if_pos (.inr ?_)
        rw [List.all_eq_false]
        have hb1 := HBD.out (i - 1) (by rw [HBN.out]; omega)
        rw [show 1 + (i - 1) = i from by omega, ← HD.out] at hb1
        have hlt : i - 1 < bl.length := by rw [HBN.out]; omega
        rw [List.getD_eq_getElem?_getD, List.getElem?_eq_getElem hlt] at hb1
        refine ⟨bl[i - 1], List.getElem_mem _, ?_⟩
        intro hdig
        have := (digB_iff _).1 hdig
        simp only [Option.getD_some] at hb1
        omega))
      clear hd
      rcases (by omega : d < 48 ∨ (57 < d ∧ ¬ d < 48) ∨ (¬ d < 48 ∧ ¬ 57 < d)) with hc | ⟨hc, hc2⟩ | ⟨hc, hc2⟩
      · have t1 : (d : Int) < 48 := by omega
        have HNO := Lib.hid (HNOX.out (.inl hc))
        clear hc HNOX
        go_wp2_with fail
        obtain ⟨⟨e0, e1⟩, kx⟩ := HE.out
        refine bodyPost_ret (v := .tuple #[numArg false none 0 0, .int .i64 9]) (by simp [results, Tryd.results26, go_sem, e0, e1]) rfl ?_
        unfold RPPost
        rw [HNO.out]
        exact ⟨rfl, kx⟩
      · have t1 : decide ((d : Int) < 48) = false := decide_eq_false (by omega)
        have t3 : (57 : Int) < (d : Int) := by omega
        have HNO := Lib.hid (HNOX.out (.inr hc))
        clear hc hc2 HNOX
        go_wp2_with fail
        obtain ⟨⟨e0, e1⟩, kx⟩ := HE.out
        refine bodyPost_ret (v := .tuple #[numArg false none 0 0, .int .i64 9]) (by simp [results, Tryd.results26, go_sem, e0, e1]) rfl ?_
        unfold RPPost
        rw [HNO.out]
        exact ⟨rfl, kx⟩
      · have t1 : decide ((d : Int) < 48) = false := decide_eq_false (by omega)
        have t3 : decide ((57 : Int) < (d : Int)) = false := decide_eq_false (by omega)
        have HC := Lib.hid (And.intro hc hc2)
        clear hc hc2 HNOX
        go_wp2_with fail
        go_round
        case rel => exact ⟨i + 1, by omega, by omega, by go_num, fun j h1 h2 => by
          by_cases e : j = i
          · rw [e, ← HD.out]; have := HC.out; omega
          · exact HJ.out j h1 (by omega)⟩
        case measure => simp [intOf]; omega
    · have i1 : decide ((i : Int) < (s.size : Int)) = false := decide_eq_false (by omega)
      obtain rfl : i = s.size := by omega
      obtain ⟨r0, r1, f0, f1⟩ := HRET.out _ (Keep.refl _ _)
      by_cases hone : s.size = 1
      · have t2 : ((1 : Int) == (s.size : Int)) = true := by rw [hone]; rfl
        have HNO := Lib.hid (show parseV s.data.toList = none from by rw [HPV.out]; exact if_pos (.inl (List.eq_nil_of_length_eq_zero (by rw [HBN.out, hone]))))
        have HE := Lib.hid (HSET.out _ (Keep.refl _ _) (.bool false) (.slice none 0 0))
        clear hone
        go_wp2_with fail
        obtain ⟨⟨e0, e1⟩, kx⟩ := HE.out
        refine bodyPost_ret (v := .tuple #[numArg false none 0 0, .int .i64 9]) (by simp [results, Tryd.results26, go_sem, e0, e1]) rfl ?_
        unfold RPPost
        rw [HNO.out]
        exact ⟨rfl, kx⟩
      have t2 : ((1 : Int) == (s.size : Int)) = false := by rw [beq_eq_false_iff_ne]; omega
      have HALL := Lib.hid (show parseV s.data.toList = some (if false = true then -(decVal bl : Int) else (decVal bl : Int)) from by
        rw [HPV.out]
        refine if_neg ?_
        rintro (h | h)
        · have := HBN.out; rw [h] at this; simp at this; omega
        · rw [List.all_eq_false] at h
          obtain ⟨b, hb, hd⟩ := h
          obtain ⟨j, hj, rfl⟩ := List.getElem_of_mem hb
          apply hd
          have hb1 := HBD.out j hj
          rw [List.getD_eq_getElem?_getD (l := bl), List.getElem?_eq_getElem hj] at hb1
          have := HJ.out (1 + j) (by omega) (by rw [HBN.out] at hj; omega)
          simp only [Option.getD_some] at hb1
          rw [hb1] at this
          exact (digB_iff _).2 this)
      obtain ⟨x, hx⟩ : ∃ x : Int, x = (if false = true then -(decVal bl : Int) else (decVal bl : Int)) := ⟨_, rfl⟩
      rw [← hx] at HALL
      have HXA := Lib.hid (show x.natAbs = decVal bl from by rw [hx]; simp)
      have HXS := Lib.hid (show sgn false (decVal bl) = x from by rw [hx]; rfl)
      clear hx hone
      go_wp2_with fail
      clear t2 i1 r0 r1 f0 f1
      go_loopw [6, 7, 8, 9] (fun bv iv _ _ wr => ∃ (q j : Nat) (P : Option Addr) (nb cb : Nat), q = 1 + j ∧ q ≤ s.size ∧ iv = .int .i64 (q : Int) ∧ bv = .slice P nb cb ∧ RpSt w1 B0 (decVal (bl.take j)) P nb cb wr) (fun _ iv _ _ _ => s.size - (intOf iv).toNat)
      case atStart => exact ⟨1, 0, none, 0, 0, rfl, by omega, rfl, rfl, HB.out, by rw [List.take_zero, show decVal [] = 0 from rfl]; unfold bits2; rw [digs_zero]; exact ⟨RowAt.nil _ _ _, Low.nil 2, Nat.le_refl _, by omega⟩, by omega, Keep.refl _ _⟩
      case round =>
        obtain ⟨q, j, P, nb, cb, hq, hjl, rfl, rfl, st⟩ := hrel
        have HS := Lib.hid st
        have hnb := st.n
        clear st
        obtain ⟨V, hV⟩ : ∃ V, V = decVal (bl.take j) := ⟨_, rfl⟩
        rw [← hV] at HS
        have HVV := Lib.hid hV
        clear hV
        by_cases hin : q < s.size
        · have j1 : (q : Int) < (s.size : Int) := by omega
          obtain ⟨d, hd⟩ : ∃ d, d = (s.data.toList.getD q 0).toNat := ⟨_, rfl⟩
          have hix : ∀ W : World, (Instr.index 9 (.string s) (.int .i64 (q : Int))).run Tryd.prog W = .ok (.int .u8 (d : Int)) W := fun W => idx_run s q hin d hd W
          have hdd := HJ.out q (by omega) hin
          rw [← hd] at hdd
          obtain ⟨dg, hdg⟩ : ∃ g, g = d - 48 := ⟨_, rfl⟩
          have hw1 : IntKind.u8.wrap (dg : Int) = (dg : Int) := by rw [IntKind.wrap_u8]; omega
          have hw2 : IntKind.i64.wrap (dg : Int) = (dg : Int) := by rw [IntKind.wrap_i64]; omega
          have hw3 : (d : Int) - 48 = (dg : Int) := by omega
          have hdg9 : dg ≤ 9 := by omega
          have HNXT := Lib.hid (show decVal (bl.take (j + 1)) = 10 * V + dg from by
            have hjb : j < bl.length := by rw [HBN.out]; omega
            rw [decVal_take_succ bl j hjb, ← HVV.out, hdg, hd, hq, HBD.out j hjb, List.getD_eq_getElem?_getD, List.getElem?_eq_getElem hjb]
            rfl)
          have HQ := Lib.hid hq
          clear hd hdg hq
          have HB9 := Lib.hid (bound9 (V := V) rfl (by rw [HS.out.o.len]; exact hnb))
          have HB11 := Lib.hid (bound11 (V := V) (dg := dg) rfl (by rw [HS.out.o.len]; exact hnb) hdg9)
          rcases P with _ | ad
          · obtain ⟨hn0, hl0⟩ := HS.out.o.nil_of
            subst hn0
            have hv0 : V = 0 := digs_nil two2 hl0
            have HE8 := Lib.hid ((three_own wr).toBits (by intro x hx; simp at hx; omega) (by omega))
            have K3 : Keep (fun _ => False) wr (wr.alloc (.cells #[.int .u8 0, .int .u8 0, .int .u8 0] 5)) := (Keep.refl _ _).alloc _
            have K4 : Keep (fun _ => False) (wr.alloc (.cells #[.int .u8 0, .int .u8 0, .int .u8 0] 5)) ((wr.alloc (.cells #[.int .u8 0, .int .u8 0, .int .u8 0] 5)).alloc (.cells #[.int .u8 0] 5)) := (Keep.refl _ _).alloc _
            have HE8 := Lib.hid (HE8.out.keep0 K4)
            have o2 := (own1 (wr.alloc (.cells #[.int .u8 0, .int .u8 0, .int .u8 0] 5))).toBits (by intro x hx; simp at hx; omega) (by omega)
            rw [World.size_alloc] at o2
            have HE2 := Lib.hid o2
            have HK8 := Lib.hid (K3.trans K4)
            have HR8 := Lib.hid ((K3.trans K4).heap HS.out.r (by simp))
            have HV8 := Lib.hid (show bval [0, 0, 0] = 8 * V from by rw [hv0]; rfl)
            have HV2 := Lib.hid (show bval [0] = 2 * V from by rw [hv0]; rfl)
            clear hl0 hv0 K3 K4 o2
            go_wp2_with fail
            generalize hA8 : (some ⟨wr.heap.size, 0, none⟩ : Option Addr) = A8 at HE8 ⊢
            generalize hA2 : (some ⟨wr.heap.size + 1, 0, none⟩ : Option Addr) = A2 at HE2 ⊢
            generalize (wr.alloc (.cells #[.int .u8 0, .int .u8 0, .int .u8 0] 5)).alloc (.cells #[.int .u8 0] 5) = w8 at HE8 HE2 HK8 HR8 ⊢
            clear hA8 hA2
            have Kd : Keep (fun _ => False) w8 w8.drew := (Keep.refl _ _).drew
            have HCC := Lib.hid (fun (w' : World) (K' : Keep (fun _ => False) w8 w') => (show w'.cell? ⟨B0, 0, none⟩ = some (.bool false) from by rw [cell_of_row w' _ _ _ _ _ (K'.heap HR8.out (by simp))]; rfl))
            refine wp_region_held_drew (S := fun w' => w'.cell? ⟨B0, 0, none⟩ = some (.bool false)) (by kernel_rfl) (HCC.out _ Kd) (fun hHeld => ?_)
            refine wpAnyH_take (i := 0) (oi := _) (v := ?_) rfl (by kernel_rfl) (by kernel_rfl) (by kernel_rfl) (fun _ _ _ h => h) (Or.inl ⟨by rfl, ?_⟩) (by assumption) ?_
            rotate_left
            · (intro w hSw; (try dsimp only at hSw); go_simp)
              all_goals with_reducible rfl
            refine wpAnyH_take (i := 1) (oi := _) (v := ?_) rfl (by kernel_rfl) (by kernel_rfl) (by kernel_rfl) (fun _ _ _ h => h) (Or.inl ⟨by rfl, ?_⟩) (by assumption) ?_
            rotate_left
            · (intro w hSw; (try dsimp only at hSw); go_simp)
              all_goals with_reducible rfl
            try dsimp only [List.getElem_toArray, List.getElem_cons_succ, List.getElem_cons_zero]
            try simp only [Act.put, List.setIfInBounds_toArray, List.set_cons_zero, List.set_cons_succ]
            refine wpAnyH_take (i := 3) (oi := _) (v := ?_) rfl (by kernel_rfl) (by kernel_rfl) (by kernel_rfl) (fun _ _ _ h => h) (Or.inl ⟨by rfl, ?_⟩) (by assumption) ?_
            rotate_left
            · (intro w hSw; (try dsimp only at hSw); go_simp)
              all_goals with_reducible rfl
            refine wpAnyH_take (i := 4) (oi := _) (v := ?_) rfl (by kernel_rfl) (by kernel_rfl) (by kernel_rfl) (fun _ _ _ h => h) (Or.inl ⟨by rfl, ?_⟩) (by assumption) ?_
            rotate_left
            · (intro w hSw; (try dsimp only at hSw); go_simp)
              all_goals with_reducible rfl
            try dsimp only [List.getElem_toArray, List.getElem_cons_succ, List.getElem_cons_zero]
            try simp only [Act.put, List.setIfInBounds_toArray, List.set_cons_zero, List.set_cons_succ]
            refine wpAnyH_take (i := 5) (oi := _) (v := ?_) rfl (by kernel_rfl) (by kernel_rfl) (by kernel_rfl) (fun _ _ _ h => h) (Or.inl ⟨by rfl, ?_⟩) (by assumption) ?_
            rotate_left
            · (intro w hSw; (try dsimp only at hSw); go_simp)
              all_goals with_reducible rfl
            refine wpAnyH_take (i := 6) (oi := _) (v := ?_) rfl (by kernel_rfl) (by kernel_rfl) (by kernel_rfl) (fun _ _ _ h => h) (Or.inl ⟨by rfl, ?_⟩) (by assumption) ?_
            rotate_left
            · (intro w hSw; (try dsimp only at hSw); go_simp)
              all_goals with_reducible rfl
            try dsimp only [List.getElem_toArray, List.getElem_cons_succ, List.getElem_cons_zero]
            try simp only [Act.put, List.setIfInBounds_toArray, List.set_cons_zero, List.set_cons_succ]
            refine wpAnyH_take (i := 7) (oi := _) (v := ?_) rfl (by kernel_rfl) (by kernel_rfl) (by kernel_rfl) (fun _ _ _ h => h) (Or.inl ⟨by rfl, ?_⟩) (by assumption) ?_
            rotate_left
            · (intro w hSw; (try dsimp only at hSw); go_simp)
              all_goals with_reducible rfl
            try dsimp only [List.getElem_toArray, List.getElem_cons_succ, List.getElem_cons_zero]
            try simp only [Act.put, List.setIfInBounds_toArray, List.set_cons_zero, List.set_cons_succ]
            refine wpAnyH_ready (rs := [2]) (by kernel_rfl) (by simp) ?_
            refine AllReadyH.cons (o := _) rfl (fun K hK => ?_) AllReadyH.nil
            go_simp
            refine (rplus_any A8 3 3 _ A2 1 1 _ _ (HE8.out.keep0 Kd) (HE2.out.keep0 Kd) (by omega) (by omega)).mono ?_
            rintro e wr1 ⟨A9, n9, c9, rfl, o9, kr⟩
            have hn9 : n9 ≤ 1545 := mag_n (m := 1536 + 9) o9 (by rw [HV8.out, HV2.out]; exact HB9.out)
            have HB9B := Lib.hid (o9.toBits (digs_low two2 _) (by omega))
            clear o9
            have K1 : Keep (fun _ => False) w8 wr1 := Keep.trans Kd kr
            clear kr 
            try dsimp only
            go_wp2_with fail
            refine hK.out _ _ (HCC.out _ K1) (fun hHeld => ?_)
            clear hK K
            try dsimp only [List.getElem_toArray, List.getElem_cons_succ, List.getElem_cons_zero]
            try simp only [Act.put, List.setIfInBounds_toArray, List.set_cons_zero, List.set_cons_succ]
            refine wpAnyH_ready (rs := [8]) (by kernel_rfl) (by simp) ?_
            refine AllReadyH.cons (o := _) rfl (fun K hK => ?_) AllReadyH.nil
            go_simp
            refine (small_any dg _ (by omega)).mono ?_
            rintro e wr2 ⟨A10, n10, c10, rfl, o10, kr⟩
            have hn10 : n10 ≤ 4 := mag_n o10 (by omega)
            have HB10 := Lib.hid (o10.toBits (digs_low two2 _) (by omega))
            have HB9C := Lib.hid (HB9B.out.keep0 kr)
            clear o10
            have K2 : Keep (fun _ => False) w8 wr2 := Keep.trans K1 kr
            clear kr K1
            try dsimp only
            go_wp2_with fail
            refine hK.out _ _ (HCC.out _ K2) (fun hHeld => ?_)
            clear hK K
            try dsimp only [List.getElem_toArray, List.getElem_cons_succ, List.getElem_cons_zero]
            try simp only [Act.put, List.setIfInBounds_toArray, List.set_cons_zero, List.set_cons_succ]
            refine wpAnyH_ready (rs := [9]) (by kernel_rfl) (by simp) ?_
            refine AllReadyH.cons (o := _) rfl (fun K hK => ?_) AllReadyH.nil
            go_simp
            refine (rplus_any A9 n9 c9 _ A10 n10 c10 _ _ HB9C.out HB10.out (by omega) (by omega)).mono ?_
            rintro e wr3 ⟨A11, n11, c11, rfl, o11, kr⟩
            rw [ten_val HV8.out HV2.out] at o11
            have hn11 := o11.len
            have HN11 := Lib.hid hn11
            have HO11 := Lib.hid (OwnR.bits o11 (by rw [← hn11]; exact Nat.le_trans ((digs_len_le two2 _ (1536 + 64)).2 HB11.out) (by omega)))
            clear o11 hn11
            have K3 : Keep (fun _ => False) w8 wr3 := Keep.trans K2 kr
            clear kr K2
            try dsimp only
            go_wp2_with fail
            refine hK.out _ _ (HCC.out _ K3) (fun hHeld => ?_)
            clear hK K
            refine wpAnyH_take (i := 10) (oi := _) (v := ?_) rfl (by kernel_rfl) (by kernel_rfl) (by kernel_rfl) (fun _ _ _ h => h) (Or.inl ⟨by rfl, ?_⟩) (by assumption) ?_
            rotate_left
            · (intro w hSw; (try dsimp only at hSw); go_simp)
              all_goals with_reducible rfl
            try dsimp only [List.getElem_toArray, List.getElem_cons_succ, List.getElem_cons_zero]
            try simp only [Act.put, List.setIfInBounds_toArray, List.set_cons_zero, List.set_cons_succ]
            refine wpAnyH_done (by kernel_rfl) ?_ _
            have KK := K3
            clear K3
            have KX := Lib.hid (HK8.out.trans KK)
            clear HCC KK
            by_cases hbig : 1536 < n11
            · have tb : (1536 : Int) < (n11 : Int) := by omega
              have HNF := Lib.hid (too_long (k := j + 1) HXA.out (by rw [HNXT.out, HN11.out]; exact hbig))
              obtain ⟨r0, r1, f0, f1⟩ := HRET.out _ (HS.out.K.trans KX.out)
              have HE := Lib.hid (HSET.out _ (HS.out.K.trans KX.out) (.bool false) (.slice none 0 0))
              clear hbig
              try dsimp only
              go_wp2_with fail
              obtain ⟨⟨e0, e1⟩, kx⟩ := HE.out
              refine bodyPost_ret (v := .tuple #[numArg false none 0 0, .int .i64 6]) (by simp [results, Tryd.results26, go_sem, e0, e1]) rfl ?_
              unfold RPPost
              rw [HALL.out]
              exact .inr ⟨HNF.out, rfl, kx⟩
            · have tb : decide ((1536 : Int) < (n11 : Int)) = false := decide_eq_false (by omega)
              have HNS := Lib.hid (show RpSt w1 B0 (decVal (bl.take (j + 1))) A11 n11 c11 _ from ⟨KX.out.heap HS.out.r (by simp), by rw [HNXT.out]; exact HO11.out, by omega, HS.out.K.trans KX.out⟩)
              clear hbig
              try dsimp only
              go_wp2_with fail
              go_roundw
              case rel => exact ⟨q + 1, j + 1, _, _, _, by have := HQ.out; omega, by omega, by go_num, rfl, HNS.out⟩
              case measure => simp [intOf]; omega
          · obtain ⟨i5, h5, hz0, hz1, hz2⟩ := info_parts info5
            have K3 : Keep (fun _ => False) wr (wr.alloc (.cells #[.int .u8 0, .int .u8 0, .int .u8 0] 5)) := (Keep.refl _ _).alloc _
            have HO3 := Lib.hid (three_own wr)
            have HRR := Lib.hid ((HS.out.o.row.keep0 K3).news)
            have HRL := Lib.hid HS.out.o.len
            have HK3 := Lib.hid K3
            clear K3
            go_wp2_with (at_builtin; refine wpList_append_own _ rfl (.tmp 53) (.tmp 54) 32 rfl wr.heap.size 5 i5 (.int .u8 0) 1 1 Tryd.underlying32 h5 hz0 hz1 hz2 rfl (by decide) _ _ _ rfl HO3.out ad nb cb ((bits2 V).map fun x : Nat => Value.int .u8 (x : Int)) rfl (by rw [List.length_map, HRL.out, Nat.mul_one]) HRR.out ?a1 ?a2 ?a3 ?a4 ?_)
            case a1 =>
              intro u hu
              obtain ⟨z, _, rfl⟩ := List.mem_map.1 hu
              rfl
            case a2 => unfold maxLen; omega
            case a3 => omega
            case a4 => simp
            intro v8 w6 hown hgrow _
            have hown2 : w6.ownsRow wr.heap.size 5 1 v8 (3 + nb) ((List.replicate 3 0 ++ bits2 V).map fun x : Nat => Value.int .u8 (x : Int)) := hown
            obtain ⟨A8, c8, rfl, o8⟩ := own_slice hown2
            have K6 : Keep (fun _ => False) wr w6 := HK3.out.into (Keep.of_grown hgrow) (fun i hi => Nat.le_of_eq (by simpa [Value.ownBlock] using hi.symm))
            have HO8 := Lib.hid (o8.toBits (pre_low 3 V) (by omega))
            have K7 : Keep (fun _ => False) w6 (w6.alloc (.cells #[.int .u8 0] 5)) := (Keep.refl _ _).alloc _
            have HRR2 := Lib.hid ((HS.out.o.row.keep0 (K6.trans K7)).news)
            have HK6 := Lib.hid K6
            have HK7 := Lib.hid K7
            have HO1 := Lib.hid (one_own w6 0)
            clear hown hown2 hgrow o8 K6 K7
            go_wp2_with (at_builtin; refine wpList_append_own _ rfl (.tmp 56) (.tmp 57) 32 rfl w6.heap.size 5 i5 (.int .u8 0) 1 1 Tryd.underlying32 h5 hz0 hz1 hz2 rfl (by decide) _ _ _ rfl HO1.out ad nb cb ((bits2 V).map fun x : Nat => Value.int .u8 (x : Int)) rfl (by rw [List.length_map, HRL.out, Nat.mul_one]) HRR2.out ?a1 ?a2 ?a3 ?a4 ?_)
            case a1 =>
              intro u hu
              obtain ⟨z, _, rfl⟩ := List.mem_map.1 hu
              rfl
            case a2 => unfold maxLen; omega
            case a3 => omega
            case a4 => simp
            intro v2 w8 hown hgrow _
            have hown2 : w8.ownsRow w6.heap.size 5 1 v2 (1 + nb) ((List.replicate 1 0 ++ bits2 V).map fun x : Nat => Value.int .u8 (x : Int)) := hown
            obtain ⟨A2, c2, rfl, o2⟩ := own_slice hown2
            have K8 : Keep (fun _ => False) w6 w8 := HK7.out.into (Keep.of_grown hgrow) (fun i hi => Nat.le_of_eq (by simpa [Value.ownBlock] using hi.symm))
            have HE2 := Lib.hid (o2.toBits (pre_low 1 V) (by omega))
            have HE8 := Lib.hid (HO8.out.keep0 K8)
            have HK8 := Lib.hid (HK6.out.trans K8)
            have HR8 := Lib.hid ((HK6.out.trans K8).heap HS.out.r (by simp))
            have HV8 := Lib.hid (pre_val 3 V)
            have HV2 := Lib.hid (pre_val 1 V)
            clear hown hown2 hgrow o2 K8
            go_wp2_with fail
            have Kd : Keep (fun _ => False) w8 w8.drew := (Keep.refl _ _).drew
            have HCC := Lib.hid (fun (w' : World) (K' : Keep (fun _ => False) w8 w') => (show w'.cell? ⟨B0, 0, none⟩ = some (.bool false) from by rw [cell_of_row w' _ _ _ _ _ (K'.heap HR8.out (by simp))]; rfl))
            refine wp_region_held_drew (S := fun w' => w'.cell? ⟨B0, 0, none⟩ = some (.bool false)) (by kernel_rfl) (HCC.out _ Kd) (fun hHeld => ?_)
            refine wpAnyH_take (i := 0) (oi := _) (v := ?_) rfl (by kernel_rfl) (by kernel_rfl) (by kernel_rfl) (fun _ _ _ h => h) (Or.inl ⟨by rfl, ?_⟩) (by assumption) ?_
            rotate_left
            · (intro w hSw; (try dsimp only at hSw); go_simp)
              all_goals with_reducible rfl
            refine wpAnyH_take (i := 1) (oi := _) (v := ?_) rfl (by kernel_rfl) (by kernel_rfl) (by kernel_rfl) (fun _ _ _ h => h) (Or.inl ⟨by rfl, ?_⟩) (by assumption) ?_
            rotate_left
            · (intro w hSw; (try dsimp only at hSw); go_simp)
              all_goals with_reducible rfl
            try dsimp only [List.getElem_toArray, List.getElem_cons_succ, List.getElem_cons_zero]
            try simp only [Act.put, List.setIfInBounds_toArray, List.set_cons_zero, List.set_cons_succ]
            refine wpAnyH_take (i := 3) (oi := _) (v := ?_) rfl (by kernel_rfl) (by kernel_rfl) (by kernel_rfl) (fun _ _ _ h => h) (Or.inl ⟨by rfl, ?_⟩) (by assumption) ?_
            rotate_left
            · (intro w hSw; (try dsimp only at hSw); go_simp)
              all_goals with_reducible rfl
            refine wpAnyH_take (i := 4) (oi := _) (v := ?_) rfl (by kernel_rfl) (by kernel_rfl) (by kernel_rfl) (fun _ _ _ h => h) (Or.inl ⟨by rfl, ?_⟩) (by assumption) ?_
            rotate_left
            · (intro w hSw; (try dsimp only at hSw); go_simp)
              all_goals with_reducible rfl
            try dsimp only [List.getElem_toArray, List.getElem_cons_succ, List.getElem_cons_zero]
            try simp only [Act.put, List.setIfInBounds_toArray, List.set_cons_zero, List.set_cons_succ]
            refine wpAnyH_take (i := 5) (oi := _) (v := ?_) rfl (by kernel_rfl) (by kernel_rfl) (by kernel_rfl) (fun _ _ _ h => h) (Or.inl ⟨by rfl, ?_⟩) (by assumption) ?_
            rotate_left
            · (intro w hSw; (try dsimp only at hSw); go_simp)
              all_goals with_reducible rfl
            refine wpAnyH_take (i := 6) (oi := _) (v := ?_) rfl (by kernel_rfl) (by kernel_rfl) (by kernel_rfl) (fun _ _ _ h => h) (Or.inl ⟨by rfl, ?_⟩) (by assumption) ?_
            rotate_left
            · (intro w hSw; (try dsimp only at hSw); go_simp)
              all_goals with_reducible rfl
            try dsimp only [List.getElem_toArray, List.getElem_cons_succ, List.getElem_cons_zero]
            try simp only [Act.put, List.setIfInBounds_toArray, List.set_cons_zero, List.set_cons_succ]
            refine wpAnyH_take (i := 7) (oi := _) (v := ?_) rfl (by kernel_rfl) (by kernel_rfl) (by kernel_rfl) (fun _ _ _ h => h) (Or.inl ⟨by rfl, ?_⟩) (by assumption) ?_
            rotate_left
            · (intro w hSw; (try dsimp only at hSw); go_simp)
              all_goals with_reducible rfl
            try dsimp only [List.getElem_toArray, List.getElem_cons_succ, List.getElem_cons_zero]
            try simp only [Act.put, List.setIfInBounds_toArray, List.set_cons_zero, List.set_cons_succ]
            refine wpAnyH_ready (rs := [2]) (by kernel_rfl) (by simp) ?_
            refine AllReadyH.cons (o := _) rfl (fun K hK => ?_) AllReadyH.nil
            go_simp
            refine (rplus_any A8 (3 + nb) c8 _ A2 (1 + nb) c2 _ _ (HE8.out.keep0 Kd) (HE2.out.keep0 Kd) (by omega) (by omega)).mono ?_
            rintro e wr1 ⟨A9, n9, c9, rfl, o9, kr⟩
            have hn9 : n9 ≤ 1545 := mag_n (m := 1536 + 9) o9 (by rw [HV8.out, HV2.out]; exact HB9.out)
            have HB9B := Lib.hid (o9.toBits (digs_low two2 _) (by omega))
            clear o9
            have K1 : Keep (fun _ => False) w8 wr1 := Keep.trans Kd kr
            clear kr 
            try dsimp only
            go_wp2_with fail
            refine hK.out _ _ (HCC.out _ K1) (fun hHeld => ?_)
            clear hK K
            try dsimp only [List.getElem_toArray, List.getElem_cons_succ, List.getElem_cons_zero]
            try simp only [Act.put, List.setIfInBounds_toArray, List.set_cons_zero, List.set_cons_succ]
            refine wpAnyH_ready (rs := [8]) (by kernel_rfl) (by simp) ?_
            refine AllReadyH.cons (o := _) rfl (fun K hK => ?_) AllReadyH.nil
            go_simp
            refine (small_any dg _ (by omega)).mono ?_
            rintro e wr2 ⟨A10, n10, c10, rfl, o10, kr⟩
            have hn10 : n10 ≤ 4 := mag_n o10 (by omega)
            have HB10 := Lib.hid (o10.toBits (digs_low two2 _) (by omega))
            have HB9C := Lib.hid (HB9B.out.keep0 kr)
            clear o10
            have K2 : Keep (fun _ => False) w8 wr2 := Keep.trans K1 kr
            clear kr K1
            try dsimp only
            go_wp2_with fail
            refine hK.out _ _ (HCC.out _ K2) (fun hHeld => ?_)
            clear hK K
            try dsimp only [List.getElem_toArray, List.getElem_cons_succ, List.getElem_cons_zero]
            try simp only [Act.put, List.setIfInBounds_toArray, List.set_cons_zero, List.set_cons_succ]
            refine wpAnyH_ready (rs := [9]) (by kernel_rfl) (by simp) ?_
            refine AllReadyH.cons (o := _) rfl (fun K hK => ?_) AllReadyH.nil
            go_simp
            refine (rplus_any A9 n9 c9 _ A10 n10 c10 _ _ HB9C.out HB10.out (by omega) (by omega)).mono ?_
            rintro e wr3 ⟨A11, n11, c11, rfl, o11, kr⟩
            rw [ten_val HV8.out HV2.out] at o11
            have hn11 := o11.len
            have HN11 := Lib.hid hn11
            have HO11 := Lib.hid (OwnR.bits o11 (by rw [← hn11]; exact Nat.le_trans ((digs_len_le two2 _ (1536 + 64)).2 HB11.out) (by omega)))
            clear o11 hn11
            have K3 : Keep (fun _ => False) w8 wr3 := Keep.trans K2 kr
            clear kr K2
            try dsimp only
            go_wp2_with fail
            refine hK.out _ _ (HCC.out _ K3) (fun hHeld => ?_)
            clear hK K
            refine wpAnyH_take (i := 10) (oi := _) (v := ?_) rfl (by kernel_rfl) (by kernel_rfl) (by kernel_rfl) (fun _ _ _ h => h) (Or.inl ⟨by rfl, ?_⟩) (by assumption) ?_
            rotate_left
            · (intro w hSw; (try dsimp only at hSw); go_simp)
              all_goals with_reducible rfl
            try dsimp only [List.getElem_toArray, List.getElem_cons_succ, List.getElem_cons_zero]
            try simp only [Act.put, List.setIfInBounds_toArray, List.set_cons_zero, List.set_cons_succ]
            refine wpAnyH_done (by kernel_rfl) ?_ _
            have KK := K3
            clear K3
            have KX := Lib.hid (HK8.out.trans KK)
            clear HCC KK
            by_cases hbig : 1536 < n11
            · have tb : (1536 : Int) < (n11 : Int) := by omega
              have HNF := Lib.hid (too_long (k := j + 1) HXA.out (by rw [HNXT.out, HN11.out]; exact hbig))
              obtain ⟨r0, r1, f0, f1⟩ := HRET.out _ (HS.out.K.trans KX.out)
              have HE := Lib.hid (HSET.out _ (HS.out.K.trans KX.out) (.bool false) (.slice none 0 0))
              clear hbig
              try dsimp only
              go_wp2_with fail
              obtain ⟨⟨e0, e1⟩, kx⟩ := HE.out
              refine bodyPost_ret (v := .tuple #[numArg false none 0 0, .int .i64 6]) (by simp [results, Tryd.results26, go_sem, e0, e1]) rfl ?_
              unfold RPPost
              rw [HALL.out]
              exact .inr ⟨HNF.out, rfl, kx⟩
            · have tb : decide ((1536 : Int) < (n11 : Int)) = false := decide_eq_false (by omega)
              have HNS := Lib.hid (show RpSt w1 B0 (decVal (bl.take (j + 1))) A11 n11 c11 _ from ⟨KX.out.heap HS.out.r (by simp), by rw [HNXT.out]; exact HO11.out, by omega, HS.out.K.trans KX.out⟩)
              clear hbig
              try dsimp only
              go_wp2_with fail
              go_roundw
              case rel => exact ⟨q + 1, j + 1, _, _, _, by have := HQ.out; omega, by omega, by go_num, rfl, HNS.out⟩
              case measure => simp [intOf]; omega
        · have j1 : decide ((q : Int) < (s.size : Int)) = false := decide_eq_false (by omega)
          have hvd : V = decVal bl := by rw [HVV.out, List.take_of_length_le (by rw [HBN.out]; omega)]
          clear hq
          obtain ⟨z, hz⟩ : ∃ z, z = decide (x < 0) := ⟨_, rfl⟩
          have HVA := Lib.hid (value_b (z := z) (neg := false) HS.out.o (by rw [hvd, HXS.out]; exact hz))
          have HZ := Lib.hid hz
          have HVD := Lib.hid hvd
          have b45 : ((d0 : Int) == 45) = false := HB45.out
          clear hz hvd
          go_wp2_with fail
          refine HVA.out.mono ?_
          rintro e w9 ⟨n9, rfl, b9, k9⟩
          obtain ⟨r0, r1, f0, f1⟩ := HRET.out _ (HS.out.K.trans k9)
          have HE := Lib.hid (HSET.out _ (HS.out.K.trans k9) (.bool z) (.slice P n9 cb))
          have hb9 := (HS.out.K.trans k9).heap HB.out (by simp)
          have KS : Keep (fun b => b = B0) w9 ((w9.setCell ⟨B0, 0, none⟩ (.bool z)).setCell ⟨B0, 1, none⟩ (.slice P n9 cb)) := ((Keep.refl (fun b => b = B0) w9).setCell (p := ⟨B0, 0, none⟩) (.inl rfl) (.bool z)).setCell (p := ⟨B0, 1, none⟩) (.inl rfl) (.slice P n9 cb)
          have HB9 := Lib.hid (show BitsAt ((w9.setCell ⟨B0, 0, none⟩ (.bool z)).setCell ⟨B0, 1, none⟩ (.slice P n9 cb)) P n9 cb (bits2 x.natAbs) from by
            rw [HXA.out, ← HVD.out]
            exact ⟨b9.row.keep KS (row_off b9.row hb9 (by intro q x e; cases e)), b9.low, b9.cap, b9.max⟩)
          have HFT := Lib.hid (show Fits x from by rw [fits_bits, HXA.out, ← HVD.out, HS.out.o.len]; exact hnb)
          clear b9 k9 hb9 KS HVA b45
          try dsimp only
          go_wp2_with fail
          obtain ⟨⟨e0, e1⟩, kx⟩ := HE.out
          refine bodyPost_ret (v := .tuple #[numArg z P n9 cb, .int .i64 0]) (by simp [results, Tryd.results26, go_sem, e0, e1]) rfl ?_
          unfold RPPost
          rw [HALL.out]
          exact .inl ⟨HFT.out, P, n9, cb, by rw [← HZ.out], HB9.out, kx⟩
set_option maxRecDepth 100000 in
set_option maxHeartbeats 8000000 in
theorem rparse_none (s : ByteArray) (w : World) (hs : s.size ≤ 1000000) (h0 : 0 < s.size) (hd0 : (s.data.toList.getD 0 0).toNat ≠ 45) (hd1 : (s.data.toList.getD 0 0).toNat ≠ 43) : Calls Tryd.prog 26 #[.string s] w (RPPost s.data.toList w) := by
  have hlen : s.data.toList.length = s.size := (Lib.size_eq s).symm
  have p45 := pre_one s.data.toList 45
  have p43 := pre_one s.data.toList 43
  rw [hlen] at p45 p43
  have q45 : Lib.hasPrefix s.data.toList [45] = false := by rw [p45]; exact decide_eq_false (by rintro ⟨_, h⟩; rw [show (45 : UInt8).toNat = 45 from rfl] at h; omega)
  have q43 : Lib.hasPrefix s.data.toList [43] = false := by rw [p43]; exact decide_eq_false (by rintro ⟨_, h⟩; rw [show (43 : UInt8).toNat = 43 from rfl] at h; omega)
  obtain ⟨bl, hbl⟩ : ∃ l, l = body s.data.toList := ⟨_, rfl⟩
  have hbl2 : bl = s.data.toList.drop 0 := by rw [hbl]; unfold body signB; rw [q45, q43]; rfl
  have hbn : bl.length = s.size - 0 := by rw [hbl2, List.length_drop, hlen]
  have hbd : ∀ j, j < bl.length → (s.data.toList.getD (0 + j) 0).toNat = (bl.getD j 0).toNat := by
    intro j hj
    rw [hbl2, List.getD_eq_getElem?_getD, List.getD_eq_getElem?_getD, List.getElem?_drop]
  have hpv : parseV s.data.toList = if bl = [] ∨ bl.all digB = false then none else some (if false = true then -(decVal bl : Int) else (decVal bl : Int)) := by unfold parseV; rw [← hbl, q45]
  have HPV := Lib.hid hpv
  have HBD := Lib.hid hbd
  have HBN := Lib.hid hbn
  obtain ⟨d0, hdd⟩ : ∃ d, d = (s.data.toList.getD 0 0).toNat := ⟨_, rfl⟩
  have hix0 : ∀ W : World, (Instr.index 9 (.string s) (.int .i64 0)).run Tryd.prog W = .ok (.int .u8 (d0 : Int)) W := fun W => idx_run s 0 h0 d0 hdd W
  have b45 : ((d0 : Int) == 45) = false := by rw [hdd]; rw [beq_eq_false_iff_ne]; omega
  have b43 : ((d0 : Int) == 43) = false := by rw [hdd]; rw [beq_eq_false_iff_ne]; omega
  have hpos : (0 : Int) < (s.size : Int) := by omega
  have HB45 := Lib.hid b45
  clear p45 p43 q45 q43 hbl hbl2 hbn hbd hpv hd0 hlen hd1
  have K : Keep (fun _ => False) w (w.alloc (.cells #[.bool false, .slice none 0 0] 34)) := (Keep.refl _ _).alloc _
  have hb : (w.alloc (.cells #[.bool false, .slice none 0 0] 34)).heap[w.heap.size]? = some (.cells #[.bool false, .slice none 0 0] 34 (0, 0)) := heap_alloc_new w _
  have HK := Lib.hid K
  have HB := Lib.hid hb
  have HDD := Lib.hid hdd
  clear K hb hdd
  go_enter Tryd.func26, Tryd.ntmps26
  go_wp2_with fail
  clear hpos b45 b43
  generalize hB0 : w.heap.size = B0 at HB ⊢
  have HSZ := Lib.hid (Nat.le_of_eq hB0)
  clear hB0
  generalize w.alloc (.cells #[.bool false, .slice none 0 0] 34) = w1 at HB HK ⊢
  have HRET := Lib.hid (fun (w9 : World) (K9 : Keep (fun _ => False) w1 w9) => (show w9.cell? ⟨B0, 0, none⟩ = some (.bool false) ∧ w9.cell? ⟨B0, 1, none⟩ = some (.slice none 0 0) ∧ w9.frozen? ⟨B0, 0, none⟩ = false ∧ w9.frozen? ⟨B0, 1, none⟩ = false from by
    have hb9 := K9.heap HB.out (by simp)
    exact ⟨by rw [cell_of_row w9 _ _ _ _ _ hb9]; rfl, by rw [cell_of_row w9 _ _ _ _ _ hb9]; rfl, by simp [World.frozen?, hb9], by simp [World.frozen?, hb9]⟩))
  have HSET := Lib.hid (fun (w9 : World) (K9 : Keep (fun _ => False) w1 w9) (a b : Value) => And.intro (two_cells (K9.heap HB.out (by simp)) a b) (two_keep (HK.out.trans K9) (show w.heap.size ≤ B0 from HSZ.out) a b))
  go_loop [5] (fun iv => ∃ i : Nat, 0 ≤ i ∧ i ≤ s.size ∧ iv = .int .i64 (i : Int) ∧ ∀ j, 0 ≤ j → j < i → 48 ≤ (s.data.toList.getD j 0).toNat ∧ (s.data.toList.getD j 0).toNat ≤ 57) (fun iv => s.size - (intOf iv).toNat)
  case atStart => exact ⟨0, Nat.le_refl _, by omega, rfl, fun j h1 h2 => by omega⟩
  case round =>
    obtain ⟨i, hk, hi, rfl, hj⟩ := hrel
    have HJ := Lib.hid hj
    clear hj
    by_cases hin : i < s.size
    · have i1 : (i : Int) < (s.size : Int) := by omega
      obtain ⟨d, hd⟩ : ∃ d, d = (s.data.toList.getD i 0).toNat := ⟨_, rfl⟩
      have hix : ∀ W : World, (Instr.index 9 (.string s) (.int .i64 (i : Int))).run Tryd.prog W = .ok (.int .u8 (d : Int)) W := fun W => idx_run s i hin d hd W
      have HD := Lib.hid hd
      obtain ⟨r0, r1, f0, f1⟩ := HRET.out _ (Keep.refl _ _)
      have HE := Lib.hid (HSET.out _ (Keep.refl _ _) (.bool false) (.slice none 0 0))
      have HNOX := Lib.hid (fun (h : d < 48 ∨ 57 < d) => (show parseV s.data.toList = none from by
        rw [HPV.out]
        refine if_pos (.inr ?_)
        rw [List.all_eq_false]
        have hb1 := HBD.out (i - 0) (by rw [HBN.out]; omega)
        rw [show 0 + (i - 0) = i from by omega, ← HD.out] at hb1
        have hlt : i - 0 < bl.length := by rw [HBN.out]; omega
        rw [List.getD_eq_getElem?_getD, List.getElem?_eq_getElem hlt] at hb1
        refine ⟨bl[i - 0], List.getElem_mem _, ?_⟩
        intro hdig
        have := (digB_iff _).1 hdig
        simp only [Option.getD_some] at hb1
        omega))
      clear hd
      rcases (by omega : d < 48 ∨ (57 < d ∧ ¬ d < 48) ∨ (¬ d < 48 ∧ ¬ 57 < d)) with hc | ⟨hc, hc2⟩ | ⟨hc, hc2⟩
      · have t1 : (d : Int) < 48 := by omega
        have HNO := Lib.hid (HNOX.out (.inl hc))
        clear hc HNOX
        go_wp2_with fail
        obtain ⟨⟨e0, e1⟩, kx⟩ := HE.out
        refine bodyPost_ret (v := .tuple #[numArg false none 0 0, .int .i64 9]) (by simp [results, Tryd.results26, go_sem, e0, e1]) rfl ?_
        unfold RPPost
        rw [HNO.out]
        exact ⟨rfl, kx⟩
      · have t1 : decide ((d : Int) < 48) = false := decide_eq_false (by omega)
        have t3 : (57 : Int) < (d : Int) := by omega
        have HNO := Lib.hid (HNOX.out (.inr hc))
        clear hc hc2 HNOX
        go_wp2_with fail
        obtain ⟨⟨e0, e1⟩, kx⟩ := HE.out
        refine bodyPost_ret (v := .tuple #[numArg false none 0 0, .int .i64 9]) (by simp [results, Tryd.results26, go_sem, e0, e1]) rfl ?_
        unfold RPPost
        rw [HNO.out]
        exact ⟨rfl, kx⟩
      · have t1 : decide ((d : Int) < 48) = false := decide_eq_false (by omega)
        have t3 : decide ((57 : Int) < (d : Int)) = false := decide_eq_false (by omega)
        have HC := Lib.hid (And.intro hc hc2)
        clear hc hc2 HNOX
        go_wp2_with fail
        go_round
        case rel => exact ⟨i + 1, by omega, by omega, by go_num, fun j h1 h2 => by
          by_cases e : j = i
          · rw [e, ← HD.out]; have := HC.out; omega
          · exact HJ.out j h1 (by omega)⟩
        case measure => simp [intOf]; omega
    · have i1 : decide ((i : Int) < (s.size : Int)) = false := decide_eq_false (by omega)
      obtain rfl : i = s.size := by omega
      have hone : s.size ≠ 0 := by omega
      have t2 : ((0 : Int) == (s.size : Int)) = false := by rw [beq_eq_false_iff_ne]; omega
      have HALL := Lib.hid (show parseV s.data.toList = some (if false = true then -(decVal bl : Int) else (decVal bl : Int)) from by
        rw [HPV.out]
        refine if_neg ?_
        rintro (h | h)
        · have := HBN.out; rw [h] at this; simp at this; omega
        · rw [List.all_eq_false] at h
          obtain ⟨b, hb, hd⟩ := h
          obtain ⟨j, hj, rfl⟩ := List.getElem_of_mem hb
          apply hd
          have hb1 := HBD.out j hj
          rw [List.getD_eq_getElem?_getD (l := bl), List.getElem?_eq_getElem hj] at hb1
          have := HJ.out (0 + j) (by omega) (by rw [HBN.out] at hj; omega)
          simp only [Option.getD_some] at hb1
          rw [hb1] at this
          exact (digB_iff _).2 this)
      obtain ⟨x, hx⟩ : ∃ x : Int, x = (if false = true then -(decVal bl : Int) else (decVal bl : Int)) := ⟨_, rfl⟩
      rw [← hx] at HALL
      have HXA := Lib.hid (show x.natAbs = decVal bl from by rw [hx]; simp)
      have HXS := Lib.hid (show sgn false (decVal bl) = x from by rw [hx]; rfl)
      clear hx hone
      go_wp2_with fail
      clear t2 i1
      go_loopw [6, 7, 8, 9] (fun bv iv _ _ wr => ∃ (q j : Nat) (P : Option Addr) (nb cb : Nat), q = 0 + j ∧ q ≤ s.size ∧ iv = .int .i64 (q : Int) ∧ bv = .slice P nb cb ∧ RpSt w1 B0 (decVal (bl.take j)) P nb cb wr) (fun _ iv _ _ _ => s.size - (intOf iv).toNat)
      case atStart => exact ⟨0, 0, none, 0, 0, rfl, by omega, rfl, rfl, HB.out, by rw [List.take_zero, show decVal [] = 0 from rfl]; unfold bits2; rw [digs_zero]; exact ⟨RowAt.nil _ _ _, Low.nil 2, Nat.le_refl _, by omega⟩, by omega, Keep.refl _ _⟩
      case round =>
        obtain ⟨q, j, P, nb, cb, hq, hjl, rfl, rfl, st⟩ := hrel
        have HS := Lib.hid st
        have hnb := st.n
        clear st
        obtain ⟨V, hV⟩ : ∃ V, V = decVal (bl.take j) := ⟨_, rfl⟩
        rw [← hV] at HS
        have HVV := Lib.hid hV
        clear hV
        by_cases hin : q < s.size
        · have j1 : (q : Int) < (s.size : Int) := by omega
          obtain ⟨d, hd⟩ : ∃ d, d = (s.data.toList.getD q 0).toNat := ⟨_, rfl⟩
          have hix : ∀ W : World, (Instr.index 9 (.string s) (.int .i64 (q : Int))).run Tryd.prog W = .ok (.int .u8 (d : Int)) W := fun W => idx_run s q hin d hd W
          have hdd := HJ.out q (by omega) hin
          rw [← hd] at hdd
          obtain ⟨dg, hdg⟩ : ∃ g, g = d - 48 := ⟨_, rfl⟩
          have hw1 : IntKind.u8.wrap (dg : Int) = (dg : Int) := by rw [IntKind.wrap_u8]; omega
          have hw2 : IntKind.i64.wrap (dg : Int) = (dg : Int) := by rw [IntKind.wrap_i64]; omega
          have hw3 : (d : Int) - 48 = (dg : Int) := by omega
          have hdg9 : dg ≤ 9 := by omega
          have HNXT := Lib.hid (show decVal (bl.take (j + 1)) = 10 * V + dg from by
            have hjb : j < bl.length := by rw [HBN.out]; omega
            rw [decVal_take_succ bl j hjb, ← HVV.out, hdg, hd, hq, HBD.out j hjb, List.getD_eq_getElem?_getD, List.getElem?_eq_getElem hjb]
            rfl)
          have HQ := Lib.hid hq
          clear hd hdg hq
          have HB9 := Lib.hid (bound9 (V := V) rfl (by rw [HS.out.o.len]; exact hnb))
          have HB11 := Lib.hid (bound11 (V := V) (dg := dg) rfl (by rw [HS.out.o.len]; exact hnb) hdg9)
          rcases P with _ | ad
          · obtain ⟨hn0, hl0⟩ := HS.out.o.nil_of
            subst hn0
            have hv0 : V = 0 := digs_nil two2 hl0
            have HE8 := Lib.hid ((three_own wr).toBits (by intro x hx; simp at hx; omega) (by omega))
            have K3 : Keep (fun _ => False) wr (wr.alloc (.cells #[.int .u8 0, .int .u8 0, .int .u8 0] 5)) := (Keep.refl _ _).alloc _
            have K4 : Keep (fun _ => False) (wr.alloc (.cells #[.int .u8 0, .int .u8 0, .int .u8 0] 5)) ((wr.alloc (.cells #[.int .u8 0, .int .u8 0, .int .u8 0] 5)).alloc (.cells #[.int .u8 0] 5)) := (Keep.refl _ _).alloc _
            have HE8 := Lib.hid (HE8.out.keep0 K4)
            have o2 := (own1 (wr.alloc (.cells #[.int .u8 0, .int .u8 0, .int .u8 0] 5))).toBits (by intro x hx; simp at hx; omega) (by omega)
            rw [World.size_alloc] at o2
            have HE2 := Lib.hid o2
            have HK8 := Lib.hid (K3.trans K4)
            have HR8 := Lib.hid ((K3.trans K4).heap HS.out.r (by simp))
            have HV8 := Lib.hid (show bval [0, 0, 0] = 8 * V from by rw [hv0]; rfl)
            have HV2 := Lib.hid (show bval [0] = 2 * V from by rw [hv0]; rfl)
            clear hl0 hv0 K3 K4 o2
            go_wp2_with fail
            generalize hA8 : (some ⟨wr.heap.size, 0, none⟩ : Option Addr) = A8 at HE8 ⊢
            generalize hA2 : (some ⟨wr.heap.size + 1, 0, none⟩ : Option Addr) = A2 at HE2 ⊢
            generalize (wr.alloc (.cells #[.int .u8 0, .int .u8 0, .int .u8 0] 5)).alloc (.cells #[.int .u8 0] 5) = w8 at HE8 HE2 HK8 HR8 ⊢
            clear hA8 hA2
            have Kd : Keep (fun _ => False) w8 w8.drew := (Keep.refl _ _).drew
            have HCC := Lib.hid (fun (w' : World) (K' : Keep (fun _ => False) w8 w') => (show w'.cell? ⟨B0, 0, none⟩ = some (.bool false) from by rw [cell_of_row w' _ _ _ _ _ (K'.heap HR8.out (by simp))]; rfl))
            refine wp_region_held_drew (S := fun w' => w'.cell? ⟨B0, 0, none⟩ = some (.bool false)) (by kernel_rfl) (HCC.out _ Kd) (fun hHeld => ?_)
            refine wpAnyH_take (i := 0) (oi := _) (v := ?_) rfl (by kernel_rfl) (by kernel_rfl) (by kernel_rfl) (fun _ _ _ h => h) (Or.inl ⟨by rfl, ?_⟩) (by assumption) ?_
            rotate_left
            · (intro w hSw; (try dsimp only at hSw); go_simp)
              all_goals with_reducible rfl
            refine wpAnyH_take (i := 1) (oi := _) (v := ?_) rfl (by kernel_rfl) (by kernel_rfl) (by kernel_rfl) (fun _ _ _ h => h) (Or.inl ⟨by rfl, ?_⟩) (by assumption) ?_
            rotate_left
            · (intro w hSw; (try dsimp only at hSw); go_simp)
              all_goals with_reducible rfl
            try dsimp only [List.getElem_toArray, List.getElem_cons_succ, List.getElem_cons_zero]
            try simp only [Act.put, List.setIfInBounds_toArray, List.set_cons_zero, List.set_cons_succ]
            refine wpAnyH_take (i := 3) (oi := _) (v := ?_) rfl (by kernel_rfl) (by kernel_rfl) (by kernel_rfl) (fun _ _ _ h => h) (Or.inl ⟨by rfl, ?_⟩) (by assumption) ?_
            rotate_left
            · (intro w hSw; (try dsimp only at hSw); go_simp)
              all_goals with_reducible rfl
            refine wpAnyH_take (i := 4) (oi := _) (v := ?_) rfl (by kernel_rfl) (by kernel_rfl) (by kernel_rfl) (fun _ _ _ h => h) (Or.inl ⟨by rfl, ?_⟩) (by assumption) ?_
            rotate_left
            · (intro w hSw; (try dsimp only at hSw); go_simp)
              all_goals with_reducible rfl
            try dsimp only [List.getElem_toArray, List.getElem_cons_succ, List.getElem_cons_zero]
            try simp only [Act.put, List.setIfInBounds_toArray, List.set_cons_zero, List.set_cons_succ]
            refine wpAnyH_take (i := 5) (oi := _) (v := ?_) rfl (by kernel_rfl) (by kernel_rfl) (by kernel_rfl) (fun _ _ _ h => h) (Or.inl ⟨by rfl, ?_⟩) (by assumption) ?_
            rotate_left
            · (intro w hSw; (try dsimp only at hSw); go_simp)
              all_goals with_reducible rfl
            refine wpAnyH_take (i := 6) (oi := _) (v := ?_) rfl (by kernel_rfl) (by kernel_rfl) (by kernel_rfl) (fun _ _ _ h => h) (Or.inl ⟨by rfl, ?_⟩) (by assumption) ?_
            rotate_left
            · (intro w hSw; (try dsimp only at hSw); go_simp)
              all_goals with_reducible rfl
            try dsimp only [List.getElem_toArray, List.getElem_cons_succ, List.getElem_cons_zero]
            try simp only [Act.put, List.setIfInBounds_toArray, List.set_cons_zero, List.set_cons_succ]
            refine wpAnyH_take (i := 7) (oi := _) (v := ?_) rfl (by kernel_rfl) (by kernel_rfl) (by kernel_rfl) (fun _ _ _ h => h) (Or.inl ⟨by rfl, ?_⟩) (by assumption) ?_
            rotate_left
            · (intro w hSw; (try dsimp only at hSw); go_simp)
              all_goals with_reducible rfl
            try dsimp only [List.getElem_toArray, List.getElem_cons_succ, List.getElem_cons_zero]
            try simp only [Act.put, List.setIfInBounds_toArray, List.set_cons_zero, List.set_cons_succ]
            refine wpAnyH_ready (rs := [2]) (by kernel_rfl) (by simp) ?_
            refine AllReadyH.cons (o := _) rfl (fun K hK => ?_) AllReadyH.nil
            go_simp
            refine (rplus_any A8 3 3 _ A2 1 1 _ _ (HE8.out.keep0 Kd) (HE2.out.keep0 Kd) (by omega) (by omega)).mono ?_
            rintro e wr1 ⟨A9, n9, c9, rfl, o9, kr⟩
            have hn9 : n9 ≤ 1545 := mag_n (m := 1536 + 9) o9 (by rw [HV8.out, HV2.out]; exact HB9.out)
            have HB9B := Lib.hid (o9.toBits (digs_low two2 _) (by omega))
            clear o9
            have K1 : Keep (fun _ => False) w8 wr1 := Keep.trans Kd kr
            clear kr 
            try dsimp only
            go_wp2_with fail
            refine hK.out _ _ (HCC.out _ K1) (fun hHeld => ?_)
            clear hK K
            try dsimp only [List.getElem_toArray, List.getElem_cons_succ, List.getElem_cons_zero]
            try simp only [Act.put, List.setIfInBounds_toArray, List.set_cons_zero, List.set_cons_succ]
            refine wpAnyH_ready (rs := [8]) (by kernel_rfl) (by simp) ?_
            refine AllReadyH.cons (o := _) rfl (fun K hK => ?_) AllReadyH.nil
            go_simp
            refine (small_any dg _ (by omega)).mono ?_
            rintro e wr2 ⟨A10, n10, c10, rfl, o10, kr⟩
            have hn10 : n10 ≤ 4 := mag_n o10 (by omega)
            have HB10 := Lib.hid (o10.toBits (digs_low two2 _) (by omega))
            have HB9C := Lib.hid (HB9B.out.keep0 kr)
            clear o10
            have K2 : Keep (fun _ => False) w8 wr2 := Keep.trans K1 kr
            clear kr K1
            try dsimp only
            go_wp2_with fail
            refine hK.out _ _ (HCC.out _ K2) (fun hHeld => ?_)
            clear hK K
            try dsimp only [List.getElem_toArray, List.getElem_cons_succ, List.getElem_cons_zero]
            try simp only [Act.put, List.setIfInBounds_toArray, List.set_cons_zero, List.set_cons_succ]
            refine wpAnyH_ready (rs := [9]) (by kernel_rfl) (by simp) ?_
            refine AllReadyH.cons (o := _) rfl (fun K hK => ?_) AllReadyH.nil
            go_simp
            refine (rplus_any A9 n9 c9 _ A10 n10 c10 _ _ HB9C.out HB10.out (by omega) (by omega)).mono ?_
            rintro e wr3 ⟨A11, n11, c11, rfl, o11, kr⟩
            rw [ten_val HV8.out HV2.out] at o11
            have hn11 := o11.len
            have HN11 := Lib.hid hn11
            have HO11 := Lib.hid (OwnR.bits o11 (by rw [← hn11]; exact Nat.le_trans ((digs_len_le two2 _ (1536 + 64)).2 HB11.out) (by omega)))
            clear o11 hn11
            have K3 : Keep (fun _ => False) w8 wr3 := Keep.trans K2 kr
            clear kr K2
            try dsimp only
            go_wp2_with fail
            refine hK.out _ _ (HCC.out _ K3) (fun hHeld => ?_)
            clear hK K
            refine wpAnyH_take (i := 10) (oi := _) (v := ?_) rfl (by kernel_rfl) (by kernel_rfl) (by kernel_rfl) (fun _ _ _ h => h) (Or.inl ⟨by rfl, ?_⟩) (by assumption) ?_
            rotate_left
            · (intro w hSw; (try dsimp only at hSw); go_simp)
              all_goals with_reducible rfl
            try dsimp only [List.getElem_toArray, List.getElem_cons_succ, List.getElem_cons_zero]
            try simp only [Act.put, List.setIfInBounds_toArray, List.set_cons_zero, List.set_cons_succ]
            refine wpAnyH_done (by kernel_rfl) ?_ _
            have KK := K3
            clear K3
            have KX := Lib.hid (HK8.out.trans KK)
            clear HCC KK
            by_cases hbig : 1536 < n11
            · have tb : (1536 : Int) < (n11 : Int) := by omega
              have HNF := Lib.hid (too_long (k := j + 1) HXA.out (by rw [HNXT.out, HN11.out]; exact hbig))
              obtain ⟨r0, r1, f0, f1⟩ := HRET.out _ (HS.out.K.trans KX.out)
              have HE := Lib.hid (HSET.out _ (HS.out.K.trans KX.out) (.bool false) (.slice none 0 0))
              clear hbig
              try dsimp only
              go_wp2_with fail
              obtain ⟨⟨e0, e1⟩, kx⟩ := HE.out
              refine bodyPost_ret (v := .tuple #[numArg false none 0 0, .int .i64 6]) (by simp [results, Tryd.results26, go_sem, e0, e1]) rfl ?_
              unfold RPPost
              rw [HALL.out]
              exact .inr ⟨HNF.out, rfl, kx⟩
            · have tb : decide ((1536 : Int) < (n11 : Int)) = false := decide_eq_false (by omega)
              have HNS := Lib.hid (show RpSt w1 B0 (decVal (bl.take (j + 1))) A11 n11 c11 _ from ⟨KX.out.heap HS.out.r (by simp), by rw [HNXT.out]; exact HO11.out, by omega, HS.out.K.trans KX.out⟩)
              clear hbig
              try dsimp only
              go_wp2_with fail
              go_roundw
              case rel => exact ⟨q + 1, j + 1, _, _, _, by have := HQ.out; omega, by omega, by go_num, rfl, HNS.out⟩
              case measure => simp [intOf]; omega
          · obtain ⟨i5, h5, hz0, hz1, hz2⟩ := info_parts info5
            have K3 : Keep (fun _ => False) wr (wr.alloc (.cells #[.int .u8 0, .int .u8 0, .int .u8 0] 5)) := (Keep.refl _ _).alloc _
            have HO3 := Lib.hid (three_own wr)
            have HRR := Lib.hid ((HS.out.o.row.keep0 K3).news)
            have HRL := Lib.hid HS.out.o.len
            have HK3 := Lib.hid K3
            clear K3
            go_wp2_with (at_builtin; refine wpList_append_own _ rfl (.tmp 53) (.tmp 54) 32 rfl wr.heap.size 5 i5 (.int .u8 0) 1 1 Tryd.underlying32 h5 hz0 hz1 hz2 rfl (by decide) _ _ _ rfl HO3.out ad nb cb ((bits2 V).map fun x : Nat => Value.int .u8 (x : Int)) rfl (by rw [List.length_map, HRL.out, Nat.mul_one]) HRR.out ?a1 ?a2 ?a3 ?a4 ?_)
            case a1 =>
              intro u hu
              obtain ⟨z, _, rfl⟩ := List.mem_map.1 hu
              rfl
            case a2 => unfold maxLen; omega
            case a3 => omega
            case a4 => simp
            intro v8 w6 hown hgrow _
            have hown2 : w6.ownsRow wr.heap.size 5 1 v8 (3 + nb) ((List.replicate 3 0 ++ bits2 V).map fun x : Nat => Value.int .u8 (x : Int)) := hown
            obtain ⟨A8, c8, rfl, o8⟩ := own_slice hown2
            have K6 : Keep (fun _ => False) wr w6 := HK3.out.into (Keep.of_grown hgrow) (fun i hi => Nat.le_of_eq (by simpa [Value.ownBlock] using hi.symm))
            have HO8 := Lib.hid (o8.toBits (pre_low 3 V) (by omega))
            have K7 : Keep (fun _ => False) w6 (w6.alloc (.cells #[.int .u8 0] 5)) := (Keep.refl _ _).alloc _
            have HRR2 := Lib.hid ((HS.out.o.row.keep0 (K6.trans K7)).news)
            have HK6 := Lib.hid K6
            have HK7 := Lib.hid K7
            have HO1 := Lib.hid (one_own w6 0)
            clear hown hown2 hgrow o8 K6 K7
            go_wp2_with (at_builtin; refine wpList_append_own _ rfl (.tmp 56) (.tmp 57) 32 rfl w6.heap.size 5 i5 (.int .u8 0) 1 1 Tryd.underlying32 h5 hz0 hz1 hz2 rfl (by decide) _ _ _ rfl HO1.out ad nb cb ((bits2 V).map fun x : Nat => Value.int .u8 (x : Int)) rfl (by rw [List.length_map, HRL.out, Nat.mul_one]) HRR2.out ?a1 ?a2 ?a3 ?a4 ?_)
            case a1 =>
              intro u hu
              obtain ⟨z, _, rfl⟩ := List.mem_map.1 hu
              rfl
            case a2 => unfold maxLen; omega
            case a3 => omega
            case a4 => simp
            intro v2 w8 hown hgrow _
            have hown2 : w8.ownsRow w6.heap.size 5 1 v2 (1 + nb) ((List.replicate 1 0 ++ bits2 V).map fun x : Nat => Value.int .u8 (x : Int)) := hown
            obtain ⟨A2, c2, rfl, o2⟩ := own_slice hown2
            have K8 : Keep (fun _ => False) w6 w8 := HK7.out.into (Keep.of_grown hgrow) (fun i hi => Nat.le_of_eq (by simpa [Value.ownBlock] using hi.symm))
            have HE2 := Lib.hid (o2.toBits (pre_low 1 V) (by omega))
            have HE8 := Lib.hid (HO8.out.keep0 K8)
            have HK8 := Lib.hid (HK6.out.trans K8)
            have HR8 := Lib.hid ((HK6.out.trans K8).heap HS.out.r (by simp))
            have HV8 := Lib.hid (pre_val 3 V)
            have HV2 := Lib.hid (pre_val 1 V)
            clear hown hown2 hgrow o2 K8
            go_wp2_with fail
            have Kd : Keep (fun _ => False) w8 w8.drew := (Keep.refl _ _).drew
            have HCC := Lib.hid (fun (w' : World) (K' : Keep (fun _ => False) w8 w') => (show w'.cell? ⟨B0, 0, none⟩ = some (.bool false) from by rw [cell_of_row w' _ _ _ _ _ (K'.heap HR8.out (by simp))]; rfl))
            refine wp_region_held_drew (S := fun w' => w'.cell? ⟨B0, 0, none⟩ = some (.bool false)) (by kernel_rfl) (HCC.out _ Kd) (fun hHeld => ?_)
            refine wpAnyH_take (i := 0) (oi := _) (v := ?_) rfl (by kernel_rfl) (by kernel_rfl) (by kernel_rfl) (fun _ _ _ h => h) (Or.inl ⟨by rfl, ?_⟩) (by assumption) ?_
            rotate_left
            · (intro w hSw; (try dsimp only at hSw); go_simp)
              all_goals with_reducible rfl
            refine wpAnyH_take (i := 1) (oi := _) (v := ?_) rfl (by kernel_rfl) (by kernel_rfl) (by kernel_rfl) (fun _ _ _ h => h) (Or.inl ⟨by rfl, ?_⟩) (by assumption) ?_
            rotate_left
            · (intro w hSw; (try dsimp only at hSw); go_simp)
              all_goals with_reducible rfl
            try dsimp only [List.getElem_toArray, List.getElem_cons_succ, List.getElem_cons_zero]
            try simp only [Act.put, List.setIfInBounds_toArray, List.set_cons_zero, List.set_cons_succ]
            refine wpAnyH_take (i := 3) (oi := _) (v := ?_) rfl (by kernel_rfl) (by kernel_rfl) (by kernel_rfl) (fun _ _ _ h => h) (Or.inl ⟨by rfl, ?_⟩) (by assumption) ?_
            rotate_left
            · (intro w hSw; (try dsimp only at hSw); go_simp)
              all_goals with_reducible rfl
            refine wpAnyH_take (i := 4) (oi := _) (v := ?_) rfl (by kernel_rfl) (by kernel_rfl) (by kernel_rfl) (fun _ _ _ h => h) (Or.inl ⟨by rfl, ?_⟩) (by assumption) ?_
            rotate_left
            · (intro w hSw; (try dsimp only at hSw); go_simp)
              all_goals with_reducible rfl
            try dsimp only [List.getElem_toArray, List.getElem_cons_succ, List.getElem_cons_zero]
            try simp only [Act.put, List.setIfInBounds_toArray, List.set_cons_zero, List.set_cons_succ]
            refine wpAnyH_take (i := 5) (oi := _) (v := ?_) rfl (by kernel_rfl) (by kernel_rfl) (by kernel_rfl) (fun _ _ _ h => h) (Or.inl ⟨by rfl, ?_⟩) (by assumption) ?_
            rotate_left
            · (intro w hSw; (try dsimp only at hSw); go_simp)
              all_goals with_reducible rfl
            refine wpAnyH_take (i := 6) (oi := _) (v := ?_) rfl (by kernel_rfl) (by kernel_rfl) (by kernel_rfl) (fun _ _ _ h => h) (Or.inl ⟨by rfl, ?_⟩) (by assumption) ?_
            rotate_left
            · (intro w hSw; (try dsimp only at hSw); go_simp)
              all_goals with_reducible rfl
            try dsimp only [List.getElem_toArray, List.getElem_cons_succ, List.getElem_cons_zero]
            try simp only [Act.put, List.setIfInBounds_toArray, List.set_cons_zero, List.set_cons_succ]
            refine wpAnyH_take (i := 7) (oi := _) (v := ?_) rfl (by kernel_rfl) (by kernel_rfl) (by kernel_rfl) (fun _ _ _ h => h) (Or.inl ⟨by rfl, ?_⟩) (by assumption) ?_
            rotate_left
            · (intro w hSw; (try dsimp only at hSw); go_simp)
              all_goals with_reducible rfl
            try dsimp only [List.getElem_toArray, List.getElem_cons_succ, List.getElem_cons_zero]
            try simp only [Act.put, List.setIfInBounds_toArray, List.set_cons_zero, List.set_cons_succ]
            refine wpAnyH_ready (rs := [2]) (by kernel_rfl) (by simp) ?_
            refine AllReadyH.cons (o := _) rfl (fun K hK => ?_) AllReadyH.nil
            go_simp
            refine (rplus_any A8 (3 + nb) c8 _ A2 (1 + nb) c2 _ _ (HE8.out.keep0 Kd) (HE2.out.keep0 Kd) (by omega) (by omega)).mono ?_
            rintro e wr1 ⟨A9, n9, c9, rfl, o9, kr⟩
            have hn9 : n9 ≤ 1545 := mag_n (m := 1536 + 9) o9 (by rw [HV8.out, HV2.out]; exact HB9.out)
            have HB9B := Lib.hid (o9.toBits (digs_low two2 _) (by omega))
            clear o9
            have K1 : Keep (fun _ => False) w8 wr1 := Keep.trans Kd kr
            clear kr 
            try dsimp only
            go_wp2_with fail
            refine hK.out _ _ (HCC.out _ K1) (fun hHeld => ?_)
            clear hK K
            try dsimp only [List.getElem_toArray, List.getElem_cons_succ, List.getElem_cons_zero]
            try simp only [Act.put, List.setIfInBounds_toArray, List.set_cons_zero, List.set_cons_succ]
            refine wpAnyH_ready (rs := [8]) (by kernel_rfl) (by simp) ?_
            refine AllReadyH.cons (o := _) rfl (fun K hK => ?_) AllReadyH.nil
            go_simp
            refine (small_any dg _ (by omega)).mono ?_
            rintro e wr2 ⟨A10, n10, c10, rfl, o10, kr⟩
            have hn10 : n10 ≤ 4 := mag_n o10 (by omega)
            have HB10 := Lib.hid (o10.toBits (digs_low two2 _) (by omega))
            have HB9C := Lib.hid (HB9B.out.keep0 kr)
            clear o10
            have K2 : Keep (fun _ => False) w8 wr2 := Keep.trans K1 kr
            clear kr K1
            try dsimp only
            go_wp2_with fail
            refine hK.out _ _ (HCC.out _ K2) (fun hHeld => ?_)
            clear hK K
            try dsimp only [List.getElem_toArray, List.getElem_cons_succ, List.getElem_cons_zero]
            try simp only [Act.put, List.setIfInBounds_toArray, List.set_cons_zero, List.set_cons_succ]
            refine wpAnyH_ready (rs := [9]) (by kernel_rfl) (by simp) ?_
            refine AllReadyH.cons (o := _) rfl (fun K hK => ?_) AllReadyH.nil
            go_simp
            refine (rplus_any A9 n9 c9 _ A10 n10 c10 _ _ HB9C.out HB10.out (by omega) (by omega)).mono ?_
            rintro e wr3 ⟨A11, n11, c11, rfl, o11, kr⟩
            rw [ten_val HV8.out HV2.out] at o11
            have hn11 := o11.len
            have HN11 := Lib.hid hn11
            have HO11 := Lib.hid (OwnR.bits o11 (by rw [← hn11]; exact Nat.le_trans ((digs_len_le two2 _ (1536 + 64)).2 HB11.out) (by omega)))
            clear o11 hn11
            have K3 : Keep (fun _ => False) w8 wr3 := Keep.trans K2 kr
            clear kr K2
            try dsimp only
            go_wp2_with fail
            refine hK.out _ _ (HCC.out _ K3) (fun hHeld => ?_)
            clear hK K
            refine wpAnyH_take (i := 10) (oi := _) (v := ?_) rfl (by kernel_rfl) (by kernel_rfl) (by kernel_rfl) (fun _ _ _ h => h) (Or.inl ⟨by rfl, ?_⟩) (by assumption) ?_
            rotate_left
            · (intro w hSw; (try dsimp only at hSw); go_simp)
              all_goals with_reducible rfl
            try dsimp only [List.getElem_toArray, List.getElem_cons_succ, List.getElem_cons_zero]
            try simp only [Act.put, List.setIfInBounds_toArray, List.set_cons_zero, List.set_cons_succ]
            refine wpAnyH_done (by kernel_rfl) ?_ _
            have KK := K3
            clear K3
            have KX := Lib.hid (HK8.out.trans KK)
            clear HCC KK
            by_cases hbig : 1536 < n11
            · have tb : (1536 : Int) < (n11 : Int) := by omega
              have HNF := Lib.hid (too_long (k := j + 1) HXA.out (by rw [HNXT.out, HN11.out]; exact hbig))
              obtain ⟨r0, r1, f0, f1⟩ := HRET.out _ (HS.out.K.trans KX.out)
              have HE := Lib.hid (HSET.out _ (HS.out.K.trans KX.out) (.bool false) (.slice none 0 0))
              clear hbig
              try dsimp only
              go_wp2_with fail
              obtain ⟨⟨e0, e1⟩, kx⟩ := HE.out
              refine bodyPost_ret (v := .tuple #[numArg false none 0 0, .int .i64 6]) (by simp [results, Tryd.results26, go_sem, e0, e1]) rfl ?_
              unfold RPPost
              rw [HALL.out]
              exact .inr ⟨HNF.out, rfl, kx⟩
            · have tb : decide ((1536 : Int) < (n11 : Int)) = false := decide_eq_false (by omega)
              have HNS := Lib.hid (show RpSt w1 B0 (decVal (bl.take (j + 1))) A11 n11 c11 _ from ⟨KX.out.heap HS.out.r (by simp), by rw [HNXT.out]; exact HO11.out, by omega, HS.out.K.trans KX.out⟩)
              clear hbig
              try dsimp only
              go_wp2_with fail
              go_roundw
              case rel => exact ⟨q + 1, j + 1, _, _, _, by have := HQ.out; omega, by omega, by go_num, rfl, HNS.out⟩
              case measure => simp [intOf]; omega
        · have j1 : decide ((q : Int) < (s.size : Int)) = false := decide_eq_false (by omega)
          have hvd : V = decVal bl := by rw [HVV.out, List.take_of_length_le (by rw [HBN.out]; omega)]
          clear hq
          obtain ⟨z, hz⟩ : ∃ z, z = decide (x < 0) := ⟨_, rfl⟩
          have HVA := Lib.hid (value_b (z := z) (neg := false) HS.out.o (by rw [hvd, HXS.out]; exact hz))
          have HZ := Lib.hid hz
          have HVD := Lib.hid hvd
          have b45 : ((d0 : Int) == 45) = false := HB45.out
          clear hz hvd
          go_wp2_with fail
          refine HVA.out.mono ?_
          rintro e w9 ⟨n9, rfl, b9, k9⟩
          obtain ⟨r0, r1, f0, f1⟩ := HRET.out _ (HS.out.K.trans k9)
          have HE := Lib.hid (HSET.out _ (HS.out.K.trans k9) (.bool z) (.slice P n9 cb))
          have hb9 := (HS.out.K.trans k9).heap HB.out (by simp)
          have KS : Keep (fun b => b = B0) w9 ((w9.setCell ⟨B0, 0, none⟩ (.bool z)).setCell ⟨B0, 1, none⟩ (.slice P n9 cb)) := ((Keep.refl (fun b => b = B0) w9).setCell (p := ⟨B0, 0, none⟩) (.inl rfl) (.bool z)).setCell (p := ⟨B0, 1, none⟩) (.inl rfl) (.slice P n9 cb)
          have HB9 := Lib.hid (show BitsAt ((w9.setCell ⟨B0, 0, none⟩ (.bool z)).setCell ⟨B0, 1, none⟩ (.slice P n9 cb)) P n9 cb (bits2 x.natAbs) from by
            rw [HXA.out, ← HVD.out]
            exact ⟨b9.row.keep KS (row_off b9.row hb9 (by intro q x e; cases e)), b9.low, b9.cap, b9.max⟩)
          have HFT := Lib.hid (show Fits x from by rw [fits_bits, HXA.out, ← HVD.out, HS.out.o.len]; exact hnb)
          clear b9 k9 hb9 KS HVA b45
          try dsimp only
          go_wp2_with fail
          obtain ⟨⟨e0, e1⟩, kx⟩ := HE.out
          refine bodyPost_ret (v := .tuple #[numArg z P n9 cb, .int .i64 0]) (by simp [results, Tryd.results26, go_sem, e0, e1]) rfl ?_
          unfold RPPost
          rw [HALL.out]
          exact .inl ⟨HFT.out, P, n9, cb, by rw [← HZ.out], HB9.out, kx⟩
theorem rparse_empty (w : World) : Calls Tryd.prog 26 #[.string ⟨#[]⟩] w (RPPost [] w) := by
  have K : Keep (fun _ => False) w (w.alloc (.cells #[.bool false, .slice none 0 0] 34)) := (Keep.refl _ _).alloc _
  have HK := Lib.hid K
  clear K
  go_enter Tryd.func26, Tryd.ntmps26
  go_wp2_with fail
  go_loop [5] (fun iv => iv = .int .i64 0) (fun _ => 0)
  case atStart => rfl
  case round =>
    obtain rfl := hrel
    go_wp2_with fail
    refine bodyPost_ret (v := .tuple #[numArg false none 0 0, .int .i64 9]) (by simp [results, Tryd.results26, go_sem]) rfl ?_
    exact ⟨rfl, HK.out⟩
theorem rparse_any (s : ByteArray) (w : World) (hs : s.size ≤ 1000000) : Calls Tryd.prog 26 #[.string s] w (RPPost s.data.toList w) := by
  rcases Nat.eq_zero_or_pos s.size with h | h
  · obtain rfl : s = ⟨#[]⟩ := by
      apply ByteArray.ext
      exact Array.eq_empty_of_size_eq_zero h
    exact rparse_empty w
  · by_cases h1 : (s.data.toList.getD 0 0).toNat = 45
    · exact rparse_neg s w hs h h1
    · by_cases h2 : (s.data.toList.getD 0 0).toNat = 43
      · exact rparse_plus s w hs h h2
      · exact rparse_none s w hs h h1 h2
end Go.Proofs.YtdfekphahdmffaaDoor
