/-
  A number's text, and a text's number: arith.text, and Apply of both.
  The laws' run, of a number's text and of a text's number.
-/
import Derived.Test.YtkjocmenpccooaaGreatDoorHrD
import Derived.Test.YtkjocmenpccooaaGreatDoorHpAh
import Derived.Test.YtkjocmenpccooaaGreatDoorHpAj
namespace Go.Proofs.YtkjocmenpccooaaGreatDoor
open Go.RowKit

/-- A number's text. -/
def txt (x : Int) : ByteArray := ⟨(Lib.itoa x).toArray⟩
theorem txt_list (x : Int) : (txt x).data.toList = Lib.itoa x := rfl
theorem txt_size (x : Int) : (txt x).size = (Lib.itoa x).length := rfl
theorem dig_asc (n : Nat) : ∀ b ∈ Lib.decDigits n, b.toNat < 128 ∧ b ≠ 45 := by
  intro b hb
  have h := List.all_eq_true.1 (dec_digits n).1 b hb
  have h := (digB_iff b).1 h
  refine ⟨by omega, fun e => ?_⟩
  rw [e] at h
  exact absurd h.1 (by decide)
theorem txt_asc (x : Int) : Asc (txt x) := by
  intro y hy
  unfold bytesN at hy
  rw [txt_list] at hy
  obtain ⟨b, hb, rfl⟩ := List.mem_map.1 hy
  by_cases h : x < 0
  · rw [itoa_neg h] at hb
    rcases List.mem_cons.1 hb with rfl | hb
    · decide
    · exact (dig_asc _ b hb).1
  · rw [itoa_pos h] at hb
    exact (dig_asc _ b hb).1
theorem txt_pos (x : Int) : 1 ≤ (txt x).size := by
  rw [txt_size]
  by_cases h : x < 0
  · rw [itoa_neg h, List.length_cons]; omega
  · rw [itoa_pos h]; exact dec_pos _
theorem txt_le (x : Int) (k : Nat) (h : x.natAbs < 10 ^ (k + 1)) : (txt x).size ≤ k + 2 := by
  rw [txt_size]
  have h1 := dec_le k x.natAbs h
  by_cases hx : x < 0
  · rw [itoa_neg hx, List.length_cons]; omega
  · rw [itoa_pos hx]; omega
theorem bb_ten (n : Nat) : BB ^ n ≤ 10 ^ (10 * n) := by
  rw [Nat.pow_mul]
  exact Nat.pow_le_pow_left (by decide) n
theorem txt_limbs (x : Int) (n : Nat) (hn : 1 ≤ n) (h : x.natAbs < BB ^ n) : (txt x).size ≤ 10 * n + 1 := by
  have h2 := bb_ten n
  have h3 := txt_le x (10 * n - 1) (by rw [show 10 * n - 1 + 1 = 10 * n by omega]; exact Nat.lt_of_lt_of_le h h2)
  omega
theorem txt_room (x : Int) (h : Fits x) : (txt x).size ≤ 1000 := by
  have h1 := txt_limbs x 48 (by decide) ((Fits_iff x).1 h)
  omega
theorem txt_short (x : Int) (h : (limbs x.natAbs).length ≤ 6) : (txt x).size ≤ 62 := by
  have h1 := txt_limbs x 6 (by decide) ((digs_len_le BB2 _ _).1 h)
  omega
/-- It has a minus just if the number is below nought. -/
theorem txt_first (x : Int) : (txt x)[0]'(txt_pos x) = 45 ↔ x < 0 := by
  have e : (txt x)[0]'(txt_pos x) = (Lib.itoa x)[0]'(txt_pos x) := rfl
  rw [e]
  by_cases h : x < 0
  · simp only [itoa_neg h, List.getElem_cons_zero, h]
  · simp only [itoa_pos h, h, iff_false]
    exact (dig_asc _ _ (List.getElem_mem _)).2
theorem StrLaid.keepL {h c s p g : Nat} {S : SpV} {t : ByteArray} {w w1 w2 : World} {e : Ending} (L : StrLaid h c s p g S t w1 e w2) (k : Keep (fun _ => False) w w1) : StrLaid h c s p g S t w e w2 := by
  unfold StrLaid at L ⊢
  by_cases hm : t.size ≤ 62
  · rw [if_pos hm] at L ⊢
    exact L.keepL k
  · rw [if_neg hm] at L ⊢
    exact ⟨L.1, k.trans L.2⟩
theorem StrLaid.ends {h c s p g : Nat} {S : SpV} {t : ByteArray} {w w2 : World} {e : Ending} (L : StrLaid h c s p g S t w e w2) : ∃ u er : Int, e = .returned (.tuple #[.int .u64 u, .int .i64 er]) := by
  unfold StrLaid at L
  by_cases hm : t.size ≤ 62
  · rw [if_pos hm] at L
    obtain ⟨S', u, rfl, _⟩ := L
    exact ⟨u, 0, rfl⟩
  · rw [if_neg hm] at L
    exact ⟨0, 6, L.1⟩
set_option maxRecDepth 100000 in
set_option maxHeartbeats 8000000 in
theorem text_show {w : World} {h c s p g : Nat} {S : SpV} (H : HpAt w h c s p g S) (x : Int) (u : Nat) (D : DenH S.M u x) (hft : Fits x) (hf : 0 < S.M.free) (hc : S.M.count < 1000) (hT : PowTab w) :
    Calls Tryz.prog 35 #[.pointer (some ⟨h, 0, none⟩), .int .i64 22, .int .u64 (u : Int)] w (StrLaid h c s p g S (txt x) w) := by
  have HN := Lib.hid (hnum_any H x u D)
  have HTX := Lib.hid (fun (W : World) (K : Keep (fun _ => False) w W) (A : Option Addr) (n cc : Nat) (L : LimbsAt W A n cc (limbs x.natAbs)) => (show Calls Tryz.prog 64 #[numArg (decide (x < 0)) A n cc] W (StrPost (Lib.itoa x) W) from by
    have e1 := L.len
    have e2 := hft
    unfold Fits at e2
    have := text_any (decide (x < 0)) A n cc _ W L (by omega) (hT.keep K)
    rwa [sval_limbs] at this))
  have HST := Lib.hid (fun (W : World) (K : Keep (fun _ => False) w W) => string_any (H.keep0 K) (txt x) (txt_asc x) (txt_pos x) (txt_room x hft) hf hc)
  have HFT := Lib.hid hft
  clear H D hft hf hc hT
  go_enter Tryz.func35, Tryz.ntmps35
  go_wp2_with fail
  refine HN.out.mono ?_
  rintro e w2 ⟨A, n, cc, rfl, own, k2⟩
  have HL := Lib.hid ((own.num HFT.out).keep0 ((Keep.refl _ _).alloc (.cells #[.bool (decide (x < 0)), .slice A n cc] 24)))
  have HK := Lib.hid (k2.alloc (.cells #[.bool (decide (x < 0)), .slice A n cc] 24))
  obtain ⟨q, hq⟩ : ∃ q, q = decide (x < 0) := ⟨_, rfl⟩
  rw [← hq] at HL HK HTX ⊢
  have hbn := heap_alloc_new w2 (.cells #[.bool q, .slice A n cc] 24)
  have n0 : _ = some (Value.bool q) := (cell_of_row _ _ 0 _ _ _ hbn).trans rfl
  have n1 : _ = some (Value.slice A n cc) := (cell_of_row _ _ 1 _ _ _ hbn).trans rfl
  clear own k2 hbn hq
  go_wp2_with fail
  generalize w2.alloc (.cells #[.bool q, .slice A n cc] 24) = w3 at *
  refine (HTX.out w3 HK.out A n cc HL.out).mono ?_
  rintro e w4 ⟨rfl, k4⟩
  have HK4 := Lib.hid (HK.out.trans k4)
  have HS4 := Lib.hid (HST.out w4 HK4.out)
  obtain ⟨t, ht⟩ : ∃ t, t = txt x := ⟨_, rfl⟩
  rw [← ht] at HS4 ⊢
  rw [show (⟨(Lib.itoa x).toArray⟩ : ByteArray) = t from ht.symm]
  have HTT := Lib.hid ht
  clear k4 n0 n1 HST HTX HN HL ht
  go_wp2_with fail
  refine HS4.out.mono ?_
  intro e w5 hl
  have HL5 := Lib.hid (hl.keepL HK4.out)
  obtain ⟨u5, er5, rfl⟩ := hl.ends
  clear hl
  go_wp2_with fail
  go_ret2
  rw [← HTT.out]
  exact HL5.out
set_option maxRecDepth 100000 in
set_option maxHeartbeats 8000000 in
theorem text_read {w : World} {h c s p g : Nat} {S : SpV} (H : HpAt w h c s p g S) (x : Int) (u : Nat) (D : StrH (txt x) S.M u) (hm : (txt x).size ≤ 62) (hft : Fits x) (hf : 0 < S.M.free) (hc : S.M.count < 1000) :
    Calls Tryz.prog 35 #[.pointer (some ⟨h, 0, none⟩), .int .i64 23, .int .u64 (u : Int)] w (LaidPost h c s p g S (fun M u => DenH M u x) w) := by
  have HTX := Lib.hid (htext_any (txt x) (txt_asc x) (txt_pos x) (by omega) (str_words H (txt x) u hm D))
  have HPR := Lib.hid (fun (W : World) => (show Calls Tryz.prog 66 #[.string (txt x)] W (ResPost x W) from by
    have := parse_any (txt x) W (by omega)
    unfold ParsePost at this
    rw [txt_list, parse_itoa] at this
    exact this))
  have HIN := Lib.hid (fun (W : World) (K : Keep (fun _ => False) w W) (A : Option Addr) (n cc : Nat) (L : LimbsAt W A n cc (limbs x.natAbs)) => int_any (H.keep0 K) (decide (x < 0)) A n cc _ L x (sval_limbs x).symm hft hf hc)
  have HFT := Lib.hid hft
  obtain ⟨t, ht⟩ : ∃ t, t = txt x := ⟨_, rfl⟩
  rw [← ht] at HTX HPR
  clear H D hft hf hc hm ht
  go_enter Tryz.func35, Tryz.ntmps35
  go_wp2_with fail
  refine HTX.out.mono ?_
  rintro e w2 ⟨rfl, k2⟩
  have HK2 := Lib.hid k2
  clear k2
  go_wp2_with fail
  refine (HPR.out _).mono ?_
  rintro e w3 ⟨k3, ⟨hno, _⟩ | ⟨A, n, cc, _, rfl, own⟩⟩
  · exact absurd HFT.out hno
  have HL := Lib.hid ((own.num HFT.out).keep0 ((Keep.refl _ _).alloc (.cells #[.bool (decide (x < 0)), .slice A n cc] 24)))
  have HK := Lib.hid ((HK2.out.trans k3).alloc (.cells #[.bool (decide (x < 0)), .slice A n cc] 24))
  obtain ⟨q, hq⟩ : ∃ q, q = decide (x < 0) := ⟨_, rfl⟩
  rw [← hq] at HL HK HIN ⊢
  have hbn := heap_alloc_new w3 (.cells #[.bool q, .slice A n cc] 24)
  have n0 : _ = some (Value.bool q) := (cell_of_row _ _ 0 _ _ _ hbn).trans rfl
  have n1 : _ = some (Value.slice A n cc) := (cell_of_row _ _ 1 _ _ _ hbn).trans rfl
  clear own k3 hbn hq
  go_wp2_with fail
  generalize w3.alloc (.cells #[.bool q, .slice A n cc] 24) = w4 at *
  refine (HIN.out w4 HK.out A n cc HL.out).mono ?_
  intro e w5 hl
  have HL5 := Lib.hid (hl.keepL HK.out)
  obtain ⟨S', u', rfl, _⟩ := hl
  go_wp2_with fail
  go_ret2
  exact HL5.out
/-- Apply: of one argument that the text's functions take. -/
theorem one_cell {w : World} {A : Option Addr} {u : Nat} (hr : RowAt .u64 w A 1 [u]) : ∃ b off, A = some ⟨b, off, none⟩ ∧ w.cell? ⟨b, off, none⟩ = some (.int .u64 (u : Int)) := by
  obtain ⟨b, off, e, _, hc⟩ := hr.2 0 (by decide)
  exact ⟨b, off, e, by simpa using hc⟩
set_option maxRecDepth 100000 in
set_option maxHeartbeats 8000000 in
theorem apply_show {w : World} {h c s p g : Nat} {S : SpV} (H : HpAt w h c s p g S) (A : Option Addr) (cp : Nat) (u : Nat) (hr : RowAt .u64 w A 1 [u]) (x : Int) (D : DenH S.M u x) (hft : Fits x) (hf : 0 < S.M.free) (hc : S.M.count < 1000) (hT : PowTab w) :
    Calls Tryz.prog 18 #[.pointer (some ⟨h, 0, none⟩), .int .i64 22, .slice A 1 cp] w (StrLaid h c s p g S (txt x) w) := by
  have HT := Lib.hid (table_any w)
  have HS := Lib.hid (fun (w1 : World) (K : Keep (fun _ => False) w w1) => text_show (H.keep0 K) x u D hft hf hc (hT.keep K))
  have HRR := Lib.hid hr
  clear H hr D hft hf hc hT
  go_enter Tryz.func18, Tryz.ntmps18
  go_wp2_with fail
  refine HT.out.mono ?_
  rintro e w1 ⟨rfl, k1⟩
  have HK1 := Lib.hid k1
  have ix22 := tab_ix22
  generalize tabC = T at ix22 ⊢
  obtain ⟨ob, hob⟩ : ∃ ob, ob = Obj.cells #[.string ⟨#[110, 117, 109, 98, 101, 114, 45, 62, 115, 116, 114, 105, 110, 103]⟩, .int .i64 1, .int .i64 1] 67 := ⟨_, rfl⟩
  obtain ⟨b, off, hAe, hcl⟩ := one_cell (HRR.out.keep0 (k1.alloc ob))
  subst hAe
  rw [hob] at hcl
  clear k1
  go_wp2_with fail
  refine (HS.out _ (HK1.out.alloc _)).mono ?_
  intro e w5 hl
  have HL5 := Lib.hid (hl.keepL (HK1.out.alloc _))
  obtain ⟨u5, er5, rfl⟩ := hl.ends
  clear hl
  go_wp2_with fail
  go_ret2
  exact HL5.out
set_option maxRecDepth 100000 in
set_option maxHeartbeats 8000000 in
theorem apply_read {w : World} {h c s p g : Nat} {S : SpV} (H : HpAt w h c s p g S) (A : Option Addr) (cp : Nat) (u : Nat) (hr : RowAt .u64 w A 1 [u]) (x : Int) (D : StrH (txt x) S.M u) (hm : (txt x).size ≤ 62) (hft : Fits x) (hf : 0 < S.M.free) (hc : S.M.count < 1000) :
    Calls Tryz.prog 18 #[.pointer (some ⟨h, 0, none⟩), .int .i64 23, .slice A 1 cp] w (LaidPost h c s p g S (fun M u => DenH M u x) w) := by
  have HT := Lib.hid (table_any w)
  have HS := Lib.hid (fun (w1 : World) (K : Keep (fun _ => False) w w1) => text_read (H.keep0 K) x u D hm hft hf hc)
  have HRR := Lib.hid hr
  clear H hr D hft hf hc hm
  go_enter Tryz.func18, Tryz.ntmps18
  go_wp2_with fail
  refine HT.out.mono ?_
  rintro e w1 ⟨rfl, k1⟩
  have HK1 := Lib.hid k1
  have ix23 := tab_ix23
  generalize tabC = T at ix23 ⊢
  obtain ⟨ob, hob⟩ : ∃ ob, ob = Obj.cells #[.string ⟨#[115, 116, 114, 105, 110, 103, 45, 62, 110, 117, 109, 98, 101, 114]⟩, .int .i64 1, .int .i64 1] 67 := ⟨_, rfl⟩
  obtain ⟨b, off, hAe, hcl⟩ := one_cell (HRR.out.keep0 (k1.alloc ob))
  subst hAe
  rw [hob] at hcl
  clear k1
  go_wp2_with fail
  refine (HS.out _ (HK1.out.alloc _)).mono ?_
  intro e w5 hl
  have HL5 := Lib.hid (hl.keepL (HK1.out.alloc _))
  obtain ⟨S', u', rfl, _⟩ := hl
  go_wp2_with fail
  go_ret2
  exact HL5.out
end Go.Proofs.YtkjocmenpccooaaGreatDoor

namespace Go.Proofs.YtkjocmenpccooaaGreatDoor
open Go.RowKit

/-- What run hands back, where it is no number. -/
def RunPostT (t : ByteArray) (kd er : Int) (w : World) (e : Ending) (w' : World) : Prop :=
  Keep (fun _ => False) w w' ∧ e = .returned (.tuple #[datV kd false none 0 0 t, .int .i64 er])
def RunEndT (t : ByteArray) (kd er : Int) (w : World) (e : Ending) (w' : World) : Prop := if er = 0 then RunPostT t kd 0 w e w' else RunPostT ⟨#[]⟩ 0 er w e w'
def PrimPostT (t : ByteArray) (h : Nat) (kd er : Int) (w : World) (e : Ending) (w2 : World) : Prop :=
  Keep (fun _ => False) w w2 ∧ ∃ u : Int, e = .returned (.tuple #[.int .u64 u, .int .i64 er]) ∧ (er = 0 → Calls Tryz.prog 19 #[.pointer (some ⟨h, 0, none⟩), .int .u64 u] w2 (RunPostT t kd 0 w2))
set_option maxRecDepth 100000 in
set_option maxHeartbeats 8000000 in
theorem run_genT (t : ByteArray) (w : World) (k : Int) (A : Option Addr) (n cp : Nat) (D : Nat → MemV → Nat → Prop) (hD : ∀ j M M' u, D j M u → Ext M M' → D j M' u) (hA : ∀ i, i < n → ItmC w A i (D i)) (hn : n ≤ 10) (kd er : Int)
    (HP : ∀ (w0 w1 : World) (h c s p g : Nat) (S : SpV) (R : Option Addr) (rc : Nat) (us : List Nat), Keep (fun _ => False) w w0 → w0.heap.size ≤ h → w0.heap.size ≤ c → w0.heap.size ≤ s → w0.heap.size ≤ p → w0.heap.size ≤ g → HpAt w1 h c s p g S → RowAt .u64 w1 R n us → (∀ j, j < n → D j S.M (us.getD j 0)) → 0 < S.M.free → S.M.count < 1000 → Keep (fun _ => False) w0 w1 →
      Calls Tryz.prog 18 #[.pointer (some ⟨h, 0, none⟩), .int .i64 k, .slice R n rc] w1 (PrimPostT t h kd er w0)) :
    Calls Tryz.prog 9 #[.int .i64 k, .slice A n cp] w (RunEndT t kd er w) := by
  obtain ⟨i48, h48, u0, u1, u2⟩ := info_parts info48
  have hb := heap_alloc_new w (datC 0 false none 0 0 ⟨#[]⟩)
  have K0 : Keep (fun _ => False) w (w.alloc (datC 0 false none 0 0 ⟨#[]⟩)) := (Keep.refl _ _).alloc _
  have HN := Lib.hid (hnew_any (w.alloc (datC 0 false none 0 0 ⟨#[]⟩)))
  have HB := Lib.hid hb
  have HK0 := Lib.hid K0
  have HS0 := Lib.hid (World.size_alloc w (datC 0 false none 0 0 ⟨#[]⟩))
  have HDX := Lib.hid hD
  have HAR := Lib.hid hA
  have HPP := Lib.hid HP
  have hn' := hn
  clear hb K0 hA HP hn hD
  go_enter Tryz.func9, Tryz.ntmps9
  go_wp2_with fail
  refine HN.out.mono ?_
  rintro e w1 ⟨h, c, s, p, g, rfl, lh, lc, ls, lp, lg, hp, k1⟩
  have HLE := Lib.hid (And.intro lh (And.intro lc (And.intro ls (And.intro lp lg))))
  have HH := Lib.hid hp
  have HK1 := Lib.hid k1
  have HB1 := Lib.hid (k1.heap HB.out id)
  clear lh lc ls lp lg hp k1
  obtain ⟨w0, hw0⟩ : ∃ w0, w0 = w.alloc (datC 0 false none 0 0 ⟨#[]⟩) := ⟨_, rfl⟩
  rw [← hw0] at HK0 HS0 HB HK1 HLE
  clear hw0 HN
  go_wp2_with fail
  go_loopw [8, 9] (fun lv iv wr => ∃ (i : Nat) (S : SpV) (us : List Nat) (R : Option Addr) (rc : Nat), i ≤ n ∧ lv = .slice R i rc ∧ iv = .int .i64 (i : Int) ∧ RunSt w0 w1 h c s p g D i S us R rc wr) (fun _ iv _ => n - (intOf iv).toNat)
  case atStart => exact ⟨0, _, [], none, 0, Nat.zero_le _, rfl, rfl, Keep.refl _ _, HK1.out, rfl, ⟨rfl, .inl ⟨rfl, rfl⟩⟩, HH.out, fun j hj => absurd hj (Nat.not_lt_zero _), by decide, by decide⟩
  case round =>
    obtain ⟨i, S, us, R, rc, hi, rfl, rfl, hst⟩ := hrel
    have HS := Lib.hid hst
    clear hst
    by_cases h4 : i < n
    · have l1 : decide ((i : Int) < (n : Int)) = true := decide_eq_true (by omega)
      have l2 : decide (i < n) = true := decide_eq_true h4
      obtain ⟨b, off, x0, x1, x2, x3, x4, x5, hAe, hbl, d0, d1, d2, d3, d4, d5, hit⟩ := HAR.out i h4
      have KW := HK0.out.trans HS.out.K0
      subst hAe
      replace d0 := (KW.cell (p := ⟨b, off + i * 6, none⟩) hbl id).trans d0
      replace d1 := (KW.cell (p := ⟨b, off + i * 6 + 1, none⟩) hbl id).trans d1
      replace d2 := (KW.cell (p := ⟨b, off + i * 6 + 2, none⟩) hbl id).trans d2
      replace d3 := (KW.cell (p := ⟨b, off + i * 6 + 3, none⟩) hbl id).trans d3
      replace d4 := (KW.cell (p := ⟨b, off + i * 6 + 4, none⟩) hbl id).trans d4
      replace d5 := (KW.cell (p := ⟨b, off + i * 6 + 5, none⟩) hbl id).trans d5
      have HC := Lib.hid (hit wr h c s p g S KW HS.out.hp (by have := HS.out.fr; omega) (by have := HS.out.ct; omega))
      clear hit hbl KW
      go_wp2_with fail
      refine HC.out.mono ?_
      rintro e w3 ⟨S', u, rfl, hp', k3, hd, hext, h8, h9⟩
      have HP3 := Lib.hid hp'
      have HK3 := Lib.hid k3
      have HD3 := Lib.hid (And.intro hd (And.intro hext (And.intro h8 h9)))
      have HO3 := Lib.hid (HS.out.own.keep k3 (fun b off e => mine_old HH.out (HS.out.own.fresh b off e).1))
      have HROW := Lib.hid (ho1 (u := u) HO3.out)
      have HSZ := Lib.hid (show w1.heap.size ≤ (w3.alloc (.cells #[.int .u64 (u : Int)] 48)).heap.size from Nat.le_trans (HS.out.K.trans k3).size (by simp))
      clear hp' k3 hd hext h8 h9 d0 d1 d2 d3 d4 d5
      go_wp2_with (at_builtin; refine wpList_append_own _ rfl (.tmp 43) (.tmp 45) 46 rfl w1.heap.size 48 i48 (.int .u64 0) 1 8 Tryz.underlying46 h48 u0 u1 u2 rfl (by decide) _ _ _ rfl HROW.out ⟨w3.heap.size, 0, none⟩ 1 1 [.int .u64 u] rfl rfl (one_new w3 48 _) ?a1 ?a2 ?a3 HSZ.out ?_)
      case a1 =>
        intro y hy
        simp only [List.mem_cons, List.not_mem_nil, or_false] at hy
        subst hy
        rfl
      case a2 => unfold maxLen; omega
      case a3 => omega
      intro v' w5 hown hgrow _
      have hown2 : w5.ownsRow w1.heap.size 48 1 v' (i + 1) ((us ++ [u]).map fun x : Nat => Value.int .u64 (x : Int)) := by rw [List.map_append]; exact hown
      obtain ⟨R5, rc5, rfl, own⟩ := own_slice hown2
      have KG : Keep (MineS s p g) w1 w5 := ((HS.out.K.trans HK3.out).alloc (.cells #[.int .u64 (u : Int)] 48)).grown hgrow (fun k hk => .inr (World.ownsRow.lt HO3.out k hk).1)
      have KE : Keep (fun k => w1.heap.size ≤ k) w3 w5 := ((Keep.refl _ _).alloc (.cells #[.int .u64 (u : Int)] 48)).grown hgrow (fun k hk => .inl (World.ownsRow.lt HO3.out k hk).1)
      have HST := Lib.hid (show RunSt w0 w1 h c s p g D (i + 1) S' (us ++ [u]) R5 rc5 w5 from by
        have hlt := HH.out.lts
        refine ⟨KG, ?_, by rw [List.length_append, HS.out.len]; rfl, own, HP3.out.keep KE (by omega) (by omega) (by omega) (by omega) (by omega), ?_, ?_, ?_⟩
        · refine HK1.out.intoS KG ?_
          have hl := HLE.out
          rintro b (e | e | e) <;> omega
        · intro j hj
          rcases Nat.lt_or_ge j i with hji | hji
          · have := HDX.out j _ _ _ (HS.out.d j hji) HD3.out.2.1
            rwa [show (us ++ [u]).getD j 0 = us.getD j 0 from by
              rw [List.getD_eq_getElem?_getD, List.getD_eq_getElem?_getD, List.getElem?_append_left (by rw [HS.out.len]; exact hji)]]
          · obtain rfl : j = i := by omega
            rw [show (us ++ [u]).getD j 0 = u from by
              rw [List.getD_eq_getElem?_getD, List.getElem?_append_right (by rw [HS.out.len]; exact Nat.le_refl _), HS.out.len, Nat.sub_self]; rfl]
            exact HD3.out.1
        · have := HS.out.fr; have := HD3.out.2.2.1; omega
        · have := HS.out.ct; have := HD3.out.2.2.2; omega)
      clear hown hgrow hown2 own KG KE
      go_wp2_with fail
      go_roundw
      case rel => exact ⟨i + 1, S', us ++ [u], R5, rc5, h4, rfl, by go_num, HST.out⟩
      case measure => simp only [intOf]; omega
    · have hie : i = n := by omega
      subst hie
      have l1 : decide ((i : Int) < (i : Int)) = false := decide_eq_false (by omega)
      have HAP := Lib.hid (HPP.out w0 wr h c s p g S R rc us HK0.out HLE.out.1 HLE.out.2.1 HLE.out.2.2.1 HLE.out.2.2.2.1 HLE.out.2.2.2.2 HS.out.hp HS.out.own.row HS.out.d (by have := HS.out.fr; omega) (by have := HS.out.ct; omega) HS.out.K0)
      go_wp2_with fail
      refine HAP.out.mono ?_
      rintro e w6 ⟨k6, u, rfl, hdat⟩
      have HK6 := Lib.hid k6
      have HDT := Lib.hid hdat
      have hb6 := k6.heap HB.out id
      obtain ⟨⟨e0, e1, e2, e3, e4, e5⟩, f0, f1, f2, f3, f4, f5⟩ := six_cells hb6
      clear hdat k6
      by_cases he : er = 0
      · have HD2 := Lib.hid (HDT.out he)
        subst he
        clear e0 e1 e2 e3 e4 e5 f0 f1 f2 f3 f4 f5 hb6
        go_wp2_with fail
        refine HD2.out.mono ?_
        rintro e w7 ⟨k7, rfl⟩
        have hb7 := bx_old (k7.heap (HK6.out.heap HB.out id) id) (datC kd false none 0 0 t)
        have hbn := heap_alloc_new w7 (datC kd false none 0 0 t)
        have HK7 := Lib.hid (((HK0.out.trans HK6.out).trans k7).alloc (datC kd false none 0 0 t))
        have HB7 := Lib.hid hb7
        obtain ⟨⟨d0, d1, d2, d3, d4, d5⟩, _⟩ := six_cells hbn
        obtain ⟨⟨e0, e1, e2, e3, e4, e5⟩, f0, f1, f2, f3, f4, f5⟩ := six_cells hb7
        have HCC := Lib.hid (six_cells (six_row hb7 (.int .i64 kd) (.int .i32 0) (.bool false) (.slice none 0 0) (.string t) (.slice none 0 0))).1
        clear k7 hb7 hbn
        go_wp2_with fail
        refine bodyPost_ret (v := .tuple #[datV kd false none 0 0 t, .int .i64 0]) ?_ rfl ?_
        · obtain ⟨e0, e1, e2, e3, e4, e5⟩ := HCC.out
          simp [results, Tryz.results9, go_sem, e0, e1, e2, e3, e4, e5]
        · unfold RunEndT
          rw [if_pos rfl]
          exact ⟨six_keep HK7.out (Nat.le_refl _) _ _ _ _ _ _, rfl⟩
      · have l3 : (er == 0) = false := by simpa using he
        have l4 : (er != 0) = true := by simpa using he
        have HE := Lib.hid he
        have HCC := Lib.hid (six_cells (six_row hb6 (.int .i64 0) (.int .i32 0) (.bool false) (.slice none 0 0) (.string ⟨#[]⟩) (.slice none 0 0))).1
        clear he hb6
        go_wp2_with fail
        refine bodyPost_ret (v := .tuple #[datV 0 false none 0 0 ⟨#[]⟩, .int .i64 er]) ?_ rfl ?_
        · obtain ⟨e0, e1, e2, e3, e4, e5⟩ := HCC.out
          simp [results, Tryz.results9, go_sem, e0, e1, e2, e3, e4, e5]
        · unfold RunEndT
          rw [if_neg HE.out]
          exact ⟨six_keep (HK0.out.trans HK6.out) (Nat.le_refl _) _ _ _ _ _ _, rfl⟩
/-- The text of a number. -/
theorem run_show (w : World) (A : Option Addr) (cp : Nat) (x : Int) (hA : ArgsR w A [x]) (hT : PowTab w) :
    Calls Tryz.prog 9 #[.int .i64 22, .slice A 1 cp] w (RunEndT (txt x) 5 (if (txt x).size ≤ 62 then 0 else 6) w) :=
  run_genT (txt x) w 22 A 1 cp (fun j M u => DenH M u ([x].getD j 0)) (fun _ _ _ _ d e => d.ext e) (fun i hi => hA.item i (by simpa using hi)) (by decide) 5 _ (fun w0 w1 h c s p g S R rc us K0 lh lc ls lp lg H hr hd hf hc K => by
    have hl : us.length = 1 := hr.1
    obtain ⟨u, rfl⟩ := List.length_eq_one_iff.1 hl
    have f0 : Fits x := hA.fits 0 (by simp)
    have d0 : DenH S.M u x := hd 0 (by decide)
    refine (apply_show H R rc u hr x d0 f0 hf hc (hT.keep (K0.trans K))).mono (fun e w2 hs => ?_)
    unfold StrLaid at hs
    by_cases hm : (txt x).size ≤ 62
    · rw [if_pos hm] at hs ⊢
      obtain ⟨S', u', rfl, hp, k, hd', _⟩ := hs
      refine ⟨K.intoS k (by rintro b (e | e | e) <;> omega), u', rfl, fun _ => ?_⟩
      refine (bdat_str hp (txt x) (txt_asc x) (txt_pos x) hm u' hd').mono ?_
      rintro e w3 ⟨rfl, k3⟩
      exact ⟨k3, rfl⟩
    · rw [if_neg hm] at hs ⊢
      exact ⟨K.trans hs.2, 0, hs.1, fun h => absurd h (by decide)⟩)
/-- The number of a text. -/
theorem run_read (w : World) (A : Option Addr) (cp : Nat) (x : Int) (hx : Fits x) (hm : (txt x).size ≤ 62) (hA : ItmC w A 0 (StrH (txt x))) :
    Calls Tryz.prog 9 #[.int .i64 23, .slice A 1 cp] w (RunEnd 4 0 x w) :=
  run_gen w 23 A 1 cp (fun _ M u => StrH (txt x) M u) (fun _ _ _ _ d e => d.ext e) (fun i hi => by
    obtain rfl : i = 0 := by omega
    exact hA) (by decide) 4 0 x (fun w0 w1 h c s p g S R rc us lh lc ls lp lg H hr hd hf hc K => by
    have hl : us.length = 1 := hr.1
    obtain ⟨u, rfl⟩ := List.length_eq_one_iff.1 hl
    have d0 : StrH (txt x) S.M u := hd 0 (by decide)
    refine (apply_read H R rc u hr x d0 hm hx hf hc).mono (fun e w2 hs => ?_)
    exact prim_num (by unfold ApPost; rw [if_pos rfl]; exact hs) ls lp lg K (fun _ => hx))
/-- A text's datum, as an argument. -/
theorem str_item {W : World} {cs : Array Value} {tg : Nat × Nat} {R : Nat} (x : Int) (hm : (txt x).size ≤ 62) (hk : ∀ W', Keep (fun _ => False) W W' → UTabs W') (hr : W.heap[R]? = some (.cells cs 27 tg)) (h0 : cs[0]? = some (.int .i64 5)) (h1 : cs[1]? = some (.int .i32 0)) (h2 : cs[2]? = some (.bool false)) (h3 : cs[3]? = some (.slice none 0 0)) (h4 : cs[4]? = some (.string (txt x))) (h5 : cs[5]? = some (.slice none 0 0)) :
    ItmC W (some ⟨R, 0, none⟩) 0 (StrH (txt x)) := by
  refine ⟨R, 0, _, _, _, _, _, _, rfl, heap_lt hr, ?_, ?_, ?_, ?_, ?_, ?_, fun wr h c s p g S K H hf hc => heap_str H (txt x) (txt_asc x) (txt_pos x) hm hf hc (fun W2 K2 => hk W2 (K.trans K2))⟩
  all_goals rw [cell_of_row _ _ _ _ _ _ hr]
  · exact h0
  · exact h1
  · exact h2
  · exact h3
  · exact h4
  · exact h5
end Go.Proofs.YtkjocmenpccooaaGreatDoor
