/-
  The text of a word: Text.
  The datum of a word that stands for a text.
-/
import Derived.Test.YtkjocmenpccooaaGreatDoorHrA
import Derived.Test.YtkjocmenpccooaaGreatDoorHpB
import Derived.Laws.Cover4
namespace Go.Proofs.YtkjocmenpccooaaGreatDoor
open Go.RowKit

theorem enc_asc (x : Nat) (h : x < 128) : Utf8.encode (x : Int) = ⟨#[UInt8.ofNat x]⟩ := by
  have hv : Utf8.valid (x : Int) = true := by
    unfold Utf8.valid
    simp
    omega
  unfold Utf8.encode
  simp only [hv, if_true, Int.toNat_natCast]
  rw [if_pos h]
theorem data_app (a b : ByteArray) : (a ++ b).data.toList = a.data.toList ++ b.data.toList := by
  simp
theorem fold_asc (l : List Nat) : ∀ (s : ByteArray), (∀ x ∈ l, x < 128) → ((l.map (fun x : Nat => (x : Int))).foldl (fun r n => r ++ Utf8.encode n) s).data.toList = s.data.toList ++ l.map UInt8.ofNat := by
  induction l with
  | nil => intro s _; simp
  | cons x l ih =>
    intro s h
    rw [List.map_cons, List.foldl_cons, ih _ (fun y hy => h y (List.mem_cons_of_mem _ hy)), enc_asc x (h x List.mem_cons_self), data_app]
    simp
theorem runes_asc (t : ByteArray) (h : Asc t) : runesBytes ((bytesN t).map (fun x : Nat => (x : Int))) = t := by
  have e : (runesBytes ((bytesN t).map (fun x : Nat => (x : Int)))).data.toList = t.data.toList := by
    unfold runesBytes
    rw [fold_asc _ _ h]
    unfold bytesN
    rw [List.map_map]
    have : (UInt8.ofNat ∘ UInt8.toNat) = id := by
      funext b
      simp
    rw [this, List.map_id]
    rfl
  exact bytes_eq (by rw [Lib.toList_data, Lib.toList_data]; exact e)
theorem info21 : (Tryz.prog.info? 21).map (fun i => (i.zero, i.size, i.bytes)) = some (some (.int .i32 0), 1, 4) := by kernel_rfl
theorem hi1 {w : World} {base n c u : Nat} {A : Option Addr} {l : List Nat} (h : OwnR 21 .i32 w base A n c l) : (w.alloc (.cells #[.int .i32 (u : Int)] 21)).ownsRow base 21 1 (.slice A n c) n (l.map fun x : Nat => Value.int .i32 (x : Int)) := h.keep0 ((Keep.refl _ _).alloc _)
set_option maxRecDepth 100000 in
set_option maxHeartbeats 8000000 in
theorem htext_any {w : World} {h u : Nat} (t : ByteArray) (ha : Asc t) (h1 : 1 ≤ t.size) (hm : t.size ≤ 1000) (HW : Calls Tryz.prog 61 #[.pointer (some ⟨h, 0, none⟩), .int .u64 (u : Int), .int .i64 2] w (WordsPost (bytesN t) w)) :
    Calls Tryz.prog 65 #[.pointer (some ⟨h, 0, none⟩), .int .u64 (u : Int)] w (fun e w' => e = .returned (.tuple #[.string t, .int .i64 0]) ∧ Keep (fun _ => False) w w') := by
  obtain ⟨i21, h21, u0, u1, u2⟩ := info_parts info21
  have HWW := Lib.hid HW
  have HA := Lib.hid ha
  clear HW ha
  go_enter Tryz.func65, Tryz.ntmps65
  go_wp2_with fail
  refine HWW.out.mono ?_
  rintro e w2 ⟨A, n, c, rfl, own, k2⟩
  have hn : n = t.size := by rw [← bytesN_len]; exact own.len.symm
  subst hn
  have HR := Lib.hid own.row
  have HK := Lib.hid k2
  clear own k2
  go_wp2_with fail
  go_loopw [8, 21] (fun lv iv wr => ∃ (i c' : Nat) (A' : Option Addr), i ≤ t.size ∧ lv = .slice A' i c' ∧ iv = .int .i64 (i : Int) ∧ OwnR 21 .i32 wr w2.heap.size A' i c' ((bytesN t).take i) ∧ Keep (fun _ => False) w2 wr) (fun _ iv _ => t.size - (intOf iv).toNat)
  case atStart => exact ⟨0, 0, none, Nat.zero_le _, rfl, rfl, OwnR.nil _ _ _ _, Keep.refl _ _⟩
  case round =>
    obtain ⟨i, c', A', hi, rfl, rfl, ho, kr⟩ := hrel
    have HO := Lib.hid ho
    have HKR := Lib.hid kr
    clear ho
    by_cases h4 : i < t.size
    · have l1 : decide ((i : Int) < (t.size : Int)) = true := decide_eq_true (by omega)
      have l2 : decide (i < t.size) = true := decide_eq_true h4
      obtain ⟨bb, off, hAe, hb, hcell⟩ := (HR.out.keep0 kr).2 i h4
      have hl : i < (bytesN t).length := by rw [bytesN_len]; exact h4
      obtain ⟨u, hu⟩ : ∃ u, u = (bytesN t).getD i 0 := ⟨_, rfl⟩
      rw [← hu] at hcell
      have hub : u < 128 := by
        rw [hu, List.getD_eq_getElem?_getD, List.getElem?_eq_getElem hl]
        exact HA.out _ (List.getElem_mem hl)
      have HU := Lib.hid (show (bytesN t).take (i + 1) = (bytesN t).take i ++ [u] from by
        rw [List.take_succ_eq_append_getElem hl, hu, List.getD_eq_getElem?_getD, List.getElem?_eq_getElem hl]
        rfl)
      have l3 : decide ((1114111 : Int) < (u : Int)) = false := decide_eq_false (by omega)
      have l4 : decide (1114111 < u) = false := decide_eq_false (by omega)
      have s1 : IntKind.i32.wrap (u : Int) = (u : Int) := IntWalk.i32_in _ (by omega)
      subst hAe
      have HOK := Lib.hid (hi1 HO.out (u := u))
      clear hu hb kr hl
      go_wp2_with (at_builtin; refine wpList_append_own _ rfl (.tmp 27) (.tmp 30) 86 rfl w2.heap.size 21 i21 (.int .i32 0) 1 4 Tryz.underlying86 h21 u0 u1 u2 rfl (by decide) _ _ _ rfl HOK.out ⟨wr.heap.size, 0, none⟩ 1 1 [.int .i32 u] rfl rfl (one_new wr 21 _) ?a1 ?a2 ?a3 ?a4 ?_)
      case a1 =>
        intro y hy
        simp only [List.mem_cons, List.not_mem_nil, or_false] at hy
        subst hy
        rfl
      case a2 => unfold maxLen; omega
      case a3 => omega
      case a4 => have := HKR.out.size; simp; omega
      intro v' w5 hown hgrow _
      have K5 : Keep (fun _ => False) w2 w5 := (HKR.out.alloc (.cells #[.int .i32 (u : Int)] 21)).grown hgrow (fun k hk => .inr (World.ownsRow.lt HO.out k hk).1)
      have hown2 : w5.ownsRow w2.heap.size 21 1 v' (i + 1) (((bytesN t).take (i + 1)).map fun x : Nat => Value.int .i32 (x : Int)) := by
        rw [HU.out, List.map_append, List.map_take]
        exact hown
      obtain ⟨A5, c5, rfl, own⟩ := own_slice hown2
      have HO5 := Lib.hid own
      have HK5 := Lib.hid K5
      clear hown hgrow hown2 own K5 s1
      go_wp2_with fail
      go_roundw
      case rel => exact ⟨i + 1, c5, A5, h4, rfl, by go_num, HO5.out, HK5.out⟩
      case measure => simp only [intOf]; omega
    · have hie : i = t.size := by omega
      subst hie
      have l1 : decide ((t.size : Int) < (t.size : Int)) = false := decide_eq_false (by omega)
      have hown := HO.out
      rw [show (bytesN t).take t.size = bytesN t from by rw [← bytesN_len]; exact List.take_length] at hown
      obtain ⟨bb, off, hAe, _, _⟩ := hown.row.2 0 (by omega)
      subst hAe
      have hconv : (convert 86 9 (.slice (some ⟨bb, off, none⟩) t.size c')).run Tryz.prog wr = .ok (.string t) wr := by
        have h2 := run_convert_runes (P := Tryz.prog) wr 86 9 21 ⟨bb, off, none⟩ t.size c' ((bytesN t).map (fun x : Nat => (x : Int))) (by rw [List.length_map, bytesN_len]; exact Nat.le_refl _) Tryz.underlying86 Tryz.underlying21 Tryz.underlying9 (fun j hj => by
          have hj2 : j < t.size := by rw [List.length_map, bytesN_len] at hj; exact hj
          obtain ⟨b2, o2, e2, _, hc2⟩ := hown.row.2 j hj2
          injection e2 with e2
          injection e2 with e3 e4
          subst e3 e4
          rw [Addr.add_lit, hc2]
          have hjl : j < (bytesN t).length := by rw [bytesN_len]; exact hj2
          simp [List.getD_eq_getElem?_getD, List.getElem?_eq_getElem hjl])
        rw [List.take_of_length_le (by rw [List.length_map, bytesN_len]; exact Nat.le_refl _), runes_asc t HA.out] at h2
        exact h2
      have HKW := Lib.hid (HK.out.trans kr)
      clear hown kr
      go_wp2_with fail
      go_ret2
      exact ⟨rfl, HKW.out⟩
end Go.Proofs.YtkjocmenpccooaaGreatDoor

namespace Go.Proofs.YtkjocmenpccooaaGreatDoor
open Go.RowKit

/-- What the heap's functions say of a text's word. -/
theorem str_obj {w : World} {h c s p g : Nat} {S : SpV} (H : HpAt w h c s p g S) (t : ByteArray) (u a : Nat) (hm : t.size ≤ 62) (D : a < 65536 ∧ u = a * 8 + 3 ∧ At S.M 3 a (headW 2 t.size 0 :: bytesN t)) :
    Calls Tryz.prog 104 #[.pointer (some ⟨h, 0, none⟩), .int .u64 (u : Int)] w (ObjPost a 2 t.size 0 true w) := by
  obtain ⟨h1, h2, h3⟩ := D
  have := object_any H u a 2 0 (bytesN t) h2 h1 (.inl rfl) (by decide) (by rw [bytesN_len]; exact hm) (by rw [bytesN_len]; exact h3)
  rw [bytesN_len] at this
  exact this
theorem str_words {w : World} {h c s p g : Nat} {S : SpV} (H : HpAt w h c s p g S) (t : ByteArray) (u : Nat) (hm : t.size ≤ 62) (D : StrH t S.M u) :
    Calls Tryz.prog 61 #[.pointer (some ⟨h, 0, none⟩), .int .u64 (u : Int), .int .i64 2] w (WordsPost (bytesN t) w) := by
  obtain ⟨a, h1, h2, h3⟩ := D
  exact words_any H u a 2 0 (bytesN t) h2 h1 (.inl rfl) (by decide) (by rw [bytesN_len]; exact hm) (by rw [bytesN_len]; exact h3)
theorem StrH.lt {t : ByteArray} {M : MemV} {u : Nat} (D : StrH t M u) : u ≤ 18446744073709551615 ∧ u % 8 = 3 := by
  obtain ⟨a, h1, h2, h3⟩ := D
  omega
def StrDat (t : ByteArray) (S : Nat → Prop) (w : World) (e : Ending) (w' : World) : Prop := e = .returned (.tuple #[datV 5 false none 0 0 t, .int .i64 0]) ∧ Keep S w w'
set_option maxRecDepth 100000 in
set_option maxHeartbeats 8000000 in
theorem rdat_str {w : World} {h c s p g : Nat} {S : SpV} (H : HpAt w h c s p g S) (t : ByteArray) (ha : Asc t) (h1 : 1 ≤ t.size) (hm : t.size ≤ 62) (u r : Nat) (D : StrH t S.M u) (hb : w.heap[r]? = some (.cells #[.pointer (some ⟨h, 0, none⟩), .int .i64 0] 82 (0, 0))) (hr : r ≠ s ∧ r ≠ p ∧ r ≠ g ∧ r ≠ h ∧ r ≠ c) : Calls Tryz.prog 41 #[.pointer (some ⟨r, 0, none⟩), .int .u64 (u : Int), .int .i64 0] w (StrDat t (fun b => b = r) w) := by
  have hu := D.lt
  obtain ⟨a, DA⟩ := D
  have D : StrH t S.M u := ⟨a, DA⟩
  have HO := Lib.hid (one_any (w.alloc (datC 0 false none 0 0 ⟨#[]⟩)) r h (bx_old hb _))
  have HC := Lib.hid (fun w => const_no u w hu.1 (by omega))
  unfold DatPost at HC
  have HHK := Lib.hid (fun (w2 : World) (K : Keep (fun b => b = r) w w2) => H.keep K (fun e => hr.2.2.2.1 e.symm) (fun e => hr.2.2.2.2 e.symm) (fun e => hr.1 e.symm) (fun e => hr.2.1 e.symm) (fun e => hr.2.2.1 e.symm))
  have HN := Lib.hid (fun (w2 : World) (K : Keep (fun b => b = r) w w2) => hnum_no (HHK.out w2 K) u hu.1 (by omega) (fun w3 k3 => str_obj ((HHK.out w2 K).keep0 k3) t u a hm DA) (.inr rfl))
  have HTY := Lib.hid (fun (w2 : World) (K : Keep (fun b => b = r) w w2) => type_any (str_obj (HHK.out w2 K) t u a hm DA))
  have HTX := Lib.hid (fun (w2 : World) (K : Keep (fun b => b = r) w w2) => htext_any t ha h1 (by omega) (str_words (HHK.out w2 K) t u hm D))
  have hrl := heap_lt hb
  have hb1 := zero_box w
  have K1 : Keep (fun b => b = r) w ((w.alloc (datC 0 false none 0 0 ⟨#[]⟩)).setCell ⟨r, 1, none⟩ (.int .i64 1)) := Keep.setCell (S := fun b => b = r) (p := ⟨r, 1, none⟩) ((Keep.refl _ _).alloc _) (.inl rfl) _
  have hb2 : ((w.alloc (datC 0 false none 0 0 ⟨#[]⟩)).setCell ⟨r, 1, none⟩ (.int .i64 1)).heap[w.heap.size]? = some (.cells #[.int .i64 0, .int .i32 0, .bool false, .slice none 0 0, .string ⟨#[]⟩, .slice none 0 0] 27 (0, 0)) := (Keep.setCell (S := fun b => b = r) (p := ⟨r, 1, none⟩) (Keep.refl _ _) (.inl rfl) _).heap hb1 (by omega)
  have hr2 : ((w.alloc (datC 0 false none 0 0 ⟨#[]⟩)).setCell ⟨r, 1, none⟩ (.int .i64 1)).heap[r]? = some (.cells #[.pointer (some ⟨h, 0, none⟩), .int .i64 1] 82 (0, 0)) := by
    have := bx_old hb (datC 0 false none 0 0 ⟨#[]⟩)
    simp [World.setCell, Array.getElem?_modify, this]
  have HB2 := Lib.hid hb2
  have HR2 := Lib.hid hr2
  have HK1 := Lib.hid K1
  clear hb1 hb2 K1 hr2 D DA hb H hr HHK ha
  go_enter Tryz.func41, Tryz.ntmps41
  go_wp2_with fail
  refine HO.out.mono ?_
  rintro e w2 ⟨rfl, rfl⟩
  generalize (w.alloc (datC 0 false none 0 0 ⟨#[]⟩)).setCell ⟨r, 1, none⟩ (.int .i64 1) = w2 at *
  go_wp2_with fail
  refine (HC.out _).mono ?_
  rintro e w3 ⟨rfl, k3⟩
  have HB3 := Lib.hid (bx_old (k3.heap HB2.out id) (datC 0 false none 0 0 ⟨#[]⟩))
  have hr3 := bx_old (k3.heap HR2.out id) (datC 0 false none 0 0 ⟨#[]⟩)
  have HK3 := Lib.hid (HK1.out.joinR (k3.alloc (datC 0 false none 0 0 ⟨#[]⟩)))
  have HR3 := Lib.hid hr3
  have r0 : (w3.alloc (datC 0 false none 0 0 ⟨#[]⟩)).cell? ⟨r, 0, none⟩ = some (.pointer (some ⟨h, 0, none⟩)) := by rw [cell_of_row _ _ _ _ _ _ hr3]; rfl
  clear k3 hr3
  go_wp2_with fail
  generalize w3.alloc (datC 0 false none 0 0 ⟨#[]⟩) = w4 at *
  generalize w3.heap.size = B4 at *
  refine (HN.out _ HK3.out).mono ?_
  rintro e w5 ⟨rfl, k5⟩
  have HB5 := Lib.hid (bx_old (k5.heap HB3.out id) (.cells #[.bool false, .slice none 0 0] 24))
  have hr5 := bx_old (k5.heap HR3.out id) (.cells #[.bool false, .slice none 0 0] 24)
  have HR5 := Lib.hid hr5
  have HK5 := Lib.hid (HK3.out.joinR (k5.alloc (.cells #[.bool false, .slice none 0 0] 24)))
  have r5 : (w5.alloc (.cells #[.bool false, .slice none 0 0] 24)).cell? ⟨r, 0, none⟩ = some (.pointer (some ⟨h, 0, none⟩)) := by rw [cell_of_row _ _ _ _ _ _ hr5]; rfl
  clear k5 hr5 r0
  go_wp2_with fail
  generalize w5.alloc (.cells #[.bool false, .slice none 0 0] 24) = w6 at *
  generalize w5.heap.size = B6 at *
  refine (HTY.out _ HK5.out).mono ?_
  rintro e w7 ⟨rfl, k7⟩
  have HB7 := Lib.hid (k7.heap HB5.out id)
  have hr7 := k7.heap HR5.out id
  have HK7 := Lib.hid (HK5.out.joinR k7)
  have r7 : w7.cell? ⟨r, 0, none⟩ = some (.pointer (some ⟨h, 0, none⟩)) := by rw [cell_of_row _ _ _ _ _ _ hr7]; rfl
  clear k7 hr7 r5
  go_wp2_with fail
  refine (HTX.out _ HK7.out).mono ?_
  rintro e w8 ⟨rfl, k8⟩
  have hb8 := k8.heap HB7.out id
  have HK8 := Lib.hid (HK7.out.joinR k8)
  obtain ⟨⟨d0, d1, d2, d3, d4, d5⟩, f0, f1, f2, f3, f4, f5⟩ := six_cells hb8
  have HCC := Lib.hid (six_cells (six_row hb8 (.int .i64 5) (.int .i32 0) (.bool false) (.slice none 0 0) (.string t) (.slice none 0 0))).1
  have HSS := Lib.hid (six_self w8 w.heap.size (.int .i64 5) (.int .i32 0) (.bool false) (.slice none 0 0) (.string t) (.slice none 0 0))
  clear k8 hb8 r7
  go_wp2_with fail
  refine bodyPost_ret (v := .tuple #[datV 5 false none 0 0 t, .int .i64 0]) ?_ rfl ⟨rfl, ?_⟩
  · obtain ⟨e0, e1, e2, e3, e4, e5⟩ := HCC.out
    simp [results, Tryz.results41, go_sem, e0, e1, e2, e3, e4, e5]
  · exact HK8.out.intoS HSS.out (by rintro i rfl; exact Nat.le_refl _)
set_option maxRecDepth 100000 in
set_option maxHeartbeats 8000000 in
theorem bdat_str {w : World} {h c s p g : Nat} {S : SpV} (H : HpAt w h c s p g S) (t : ByteArray) (ha : Asc t) (h1 : 1 ≤ t.size) (hm : t.size ≤ 62) (u : Nat) (D : StrH t S.M u) : Calls Tryz.prog 19 #[.pointer (some ⟨h, 0, none⟩), .int .u64 (u : Int)] w (StrDat t (fun _ => False) w) := by
  have hr := heap_alloc_new (w.alloc (datC 0 false none 0 0 ⟨#[]⟩)) (.cells #[.pointer (some ⟨h, 0, none⟩), .int .i64 0] 82)
  have hb1 := bx_old (zero_box w) (.cells #[.pointer (some ⟨h, 0, none⟩), .int .i64 0] 82)
  rw [World.size_alloc] at hr
  have K2 : Keep (fun _ => False) w ((w.alloc (datC 0 false none 0 0 ⟨#[]⟩)).alloc (.cells #[.pointer (some ⟨h, 0, none⟩), .int .i64 0] 82)) := ((Keep.refl _ _).alloc _).alloc _
  have hl := H.lts
  have HO := Lib.hid (rdat_str (H.keep0 K2) t ha h1 hm u _ D hr (by omega))
  have HB1 := Lib.hid hb1
  have HK2 := Lib.hid K2
  clear hr hb1 H D K2 hl
  go_enter Tryz.func19, Tryz.ntmps19
  go_wp2_with fail
  generalize (w.alloc (datC 0 false none 0 0 ⟨#[]⟩)).alloc (.cells #[.pointer (some ⟨h, 0, none⟩), .int .i64 0] 82) = w2 at *
  refine HO.out.mono ?_
  rintro e w3 ⟨rfl, k3⟩
  have HK4 := Lib.hid ((HK2.out.intoS k3 (by rintro i rfl; omega)).alloc (datC 5 false none 0 0 t))
  have hb4 := bx_old (k3.heap HB1.out (by omega)) (datC 5 false none 0 0 t)
  have hbn := heap_alloc_new w3 (datC 5 false none 0 0 t)
  obtain ⟨⟨c0, c1, c2, c3, c4, c5⟩, _⟩ := six_cells hbn
  obtain ⟨⟨d0, d1, d2, d3, d4, d5⟩, f0, f1, f2, f3, f4, f5⟩ := six_cells hb4
  have HCC := Lib.hid (six_cells (six_row hb4 (.int .i64 5) (.int .i32 0) (.bool false) (.slice none 0 0) (.string t) (.slice none 0 0))).1
  clear k3 hb4 hbn
  go_wp2_with fail
  refine bodyPost_ret (v := .tuple #[datV 5 false none 0 0 t, .int .i64 0]) ?_ rfl ⟨rfl, ?_⟩
  · obtain ⟨e0, e1, e2, e3, e4, e5⟩ := HCC.out
    simp [results, Tryz.results19, go_sem, e0, e1, e2, e3, e4, e5]
  · exact six_keep HK4.out (Nat.le_refl _) _ _ _ _ _ _
end Go.Proofs.YtkjocmenpccooaaGreatDoor
