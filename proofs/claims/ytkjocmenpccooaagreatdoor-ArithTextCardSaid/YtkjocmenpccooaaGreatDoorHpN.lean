/-
  Things on the heap, read again: words, More, Type.
-/
import Derived.Test.YtkjocmenpccooaaGreatDoorHpR
namespace Go.Proofs.YtkjocmenpccooaaGreatDoor
open Go.RowKit

set_option maxRecDepth 100000 in
set_option maxHeartbeats 2000000 in
theorem more_any {w : World} {h : Nat} {u : Nat} {a k n more : Int} {ok : Bool} (HO : Calls Tryz.prog 104 #[.pointer (some ⟨h, 0, none⟩), .int .u64 (u : Int)] w (ObjPost a k n more ok w)) : Calls Tryz.prog 62 #[.pointer (some ⟨h, 0, none⟩), .int .u64 (u : Int)] w (fun e w' => e = .returned (.int .u64 more) ∧ Keep (fun _ => False) w w') := by
  have HH := Lib.hid HO
  unfold ObjPost at HH
  clear HO
  go_enter Tryz.func62, Tryz.ntmps62
  go_wp2_with fail
  refine HH.out.mono ?_
  rintro e w2 ⟨rfl, k2⟩
  go_wp2_with fail
  go_ret
  exact ⟨rfl, k2⟩
set_option maxRecDepth 100000 in
set_option maxHeartbeats 2000000 in
theorem type_any {w : World} {h : Nat} {u : Nat} {a k n more : Int} {ok : Bool} (HO : Calls Tryz.prog 104 #[.pointer (some ⟨h, 0, none⟩), .int .u64 (u : Int)] w (ObjPost a k n more ok w)) : Calls Tryz.prog 82 #[.pointer (some ⟨h, 0, none⟩), .int .u64 (u : Int)] w (fun e w' => e = .returned (.int .i64 k) ∧ Keep (fun _ => False) w w') := by
  have HH := Lib.hid HO
  unfold ObjPost at HH
  clear HO
  go_enter Tryz.func82, Tryz.ntmps82
  go_wp2_with fail
  refine HH.out.mono ?_
  rintro e w2 ⟨rfl, k2⟩
  go_wp2_with fail
  go_ret
  exact ⟨rfl, k2⟩
set_option maxRecDepth 100000 in
set_option maxHeartbeats 2000000 in
/-- No words: it is no object, or one of another type. -/
theorem words_no {w : World} {h : Nat} {u : Nat} {a k n more : Int} {ok : Bool} (t : Int) (HO : Calls Tryz.prog 104 #[.pointer (some ⟨h, 0, none⟩), .int .u64 (u : Int)] w (ObjPost a k n more ok w)) (hk : ok = false ∨ (k != t) = true) : Calls Tryz.prog 61 #[.pointer (some ⟨h, 0, none⟩), .int .u64 (u : Int), .int .i64 t] w (fun e w' => e = .returned (.tuple #[.slice none 0 0, .bool false]) ∧ Keep (fun _ => False) w w') := by
  have HH := Lib.hid HO
  unfold ObjPost at HH
  clear HO
  rcases hk with rfl | hk
  · go_enter Tryz.func61, Tryz.ntmps61
    go_wp2_with fail
    refine HH.out.mono ?_
    rintro e w2 ⟨rfl, k2⟩
    go_wp2_with fail
    go_ret2
    exact ⟨rfl, k2⟩
  · cases ok with
    | false =>
      go_enter Tryz.func61, Tryz.ntmps61
      go_wp2_with fail
      refine HH.out.mono ?_
      rintro e w2 ⟨rfl, k2⟩
      go_wp2_with fail
      go_ret2
      exact ⟨rfl, k2⟩
    | true =>
      go_enter Tryz.func61, Tryz.ntmps61
      go_wp2_with fail
      refine HH.out.mono ?_
      rintro e w2 ⟨rfl, k2⟩
      go_wp2_with fail
      go_ret2
      exact ⟨rfl, k2⟩
theorem made_zero48 (n : Nat) : (madeCells #[Value.int .u64 0] n).toList = (List.replicate n 0).map fun x : Nat => Value.int .u64 (x : Int) := by
  apply List.ext_getElem?
  intro i
  by_cases hi : i < n
  · simp [madeCells, hi, Nat.mod_one]
  · simp [madeCells, hi]
theorem make_own48 (w : World) (n : Nat) (hn : n ≤ 100000) : OwnR 48 .u64 (w.alloc (.cells (madeCells #[Value.int .u64 0] n) 48)) w.heap.size (some ⟨w.heap.size, 0, none⟩) n n (List.replicate n 0) := by
  refine ⟨by simp, .inr ⟨w.heap.size, n, madeCells #[Value.int .u64 0] n, rfl, Nat.le_refl _, heap_alloc_new _ _, Nat.le_refl _, by unfold maxLen; omega, by simp [size_madeCells], ?_⟩⟩
  rw [made_zero48, List.take_of_length_le (by simp)]
theorem make_run48 (n : Nat) (hn : n ≤ 100000) (W : World) : (Instr.makeSlice 46 (.int .i64 (n : Int)) (.int .i64 (n : Int))).run Tryz.prog W = .ok (.slice (some ⟨W.heap.size, 0, none⟩) n n) (W.alloc (.cells (madeCells #[Value.int .u64 0] n) 48)) := by
  obtain ⟨i0, hi, hz0, hz1, hz2⟩ := info_parts info48
  have := run_make (P := Tryz.prog) W 46 48 i0 _ Tryz.underlying46 hi hz0 .i64 .i64 (n : Int) (n : Int) (by omega) (by omega) (by rw [hz2]; omega) (by omega)
  rw [hz1] at this
  simpa [Value.cells] using this
/-- An object's words. -/
def WordsPost (ws : List Nat) (w : World) (e : Ending) (w' : World) : Prop := ∃ (A : Option Addr) (n c : Nat), e = .returned (.tuple #[.slice A n c, .bool true]) ∧ OwnR 48 .u64 w' w.heap.size A n c ws ∧ Keep (fun _ => False) w w'
/-- What has been read by now. -/
def soFarL (ws : List Nat) (i : Nat) : List Nat := ws.take i ++ List.replicate (ws.length - i) 0
theorem soFarL_set (ws : List Nat) (i : Nat) (hi : i < ws.length) : (soFarL ws i).set i (ws.getD i 0) = soFarL ws (i + 1) := by
  rw [List.getD_eq_getElem?_getD, List.getElem?_eq_getElem hi, Option.getD_some]
  unfold soFarL
  have hl : (ws.take i).length = i := by rw [List.length_take]; omega
  rw [List.set_append_right _ _ (by omega), hl, Nat.sub_self, List.take_succ_eq_append_getElem hi, List.append_assoc]
  congr 1
  rw [show ws.length - i = (ws.length - (i + 1)) + 1 from by omega, List.replicate_succ]
  rfl
set_option maxRecDepth 100000 in
set_option maxHeartbeats 8000000 in
theorem words_any {w : World} {h c s p g : Nat} {S : SpV} (H : HpAt w h c s p g S) (u a k more : Nat) (ws : List Nat) (hu : u = a * 8 + 3) (ha : a < 65536) (hk : k = 2 ∨ k = 3) (hm : more < 281474976710656) (hn : ws.length ≤ 62) (A : At S.M 3 a (headW k ws.length more :: ws)) :
    Calls Tryz.prog 61 #[.pointer (some ⟨h, 0, none⟩), .int .u64 (u : Int), .int .i64 (k : Int)] w (WordsPost ws w) := by
  have n64 := (H.ok.mem.sg _ A.lim).n64
  have hroom := A.room
  rw [List.length_cons] at hroom
  have HO := Lib.hid (object_any H u a k more ws hu ha hk hm hn A)
  unfold ObjPost at HO
  have HRD := Lib.hid (fun (w2 : World) (K : Keep (fun _ => False) w w2) (i : Nat) (hi : i < ws.length) (x : Nat) (hx : x = ws.getD i 0) (y : Int) (hy : y = ((a + 1 + i : Nat) : Int)) => (show Calls Tryz.prog 105 #[.pointer (some ⟨p, 0, none⟩), .int .i64 y] w2 (fun e w' => e = .returned (.tuple #[.int .u64 (x : Int), .int .i64 0]) ∧ w2 = w') from by
    rw [List.getD_eq_getElem?_getD, List.getElem?_eq_getElem hi, Option.getD_some] at hx
    rw [hx]
    have hd : (a + 1 + i) / 64 = a / 64 := by omega
    have hm2 : (a + 1 + i) % 64 = a % 64 + (i + 1) := by omega
    have := read_yes p g S.M (a + 1 + i) y w2 (H.keep0 K).cd.sp.mem H.ok.mem.l1024 hy (by rw [hd]; exact A.lim) (by rw [hd]; exact A.tk) (by rw [hd, hm2]; omega) (by rw [hd]; exact n64)
    rw [hd, hm2] at this
    have hw := A.wd (i + 1) (by rw [List.length_cons]; omega)
    rw [List.getElem_cons_succ] at hw
    rwa [hw] at this))
  have HP := Lib.hid (fun (w2 : World) (K : Keep (fun _ => False) w w2) => (H.keep0 K).ptrs)
  obtain ⟨n, hnn⟩ : ∃ n, n = ws.length := ⟨_, rfl⟩
  have hmk := fun W : World => make_run48 n (by omega) W
  rw [← hnn] at HO
  have hn62 : n ≤ 62 := by omega
  have HNN := Lib.hid hnn
  have ha' := ha
  clear H hu ha hk hm hn A n64 hroom hnn
  go_enter Tryz.func61, Tryz.ntmps61
  go_wp2_with fail
  refine HO.out.mono ?_
  rintro e w2 ⟨rfl, k2⟩
  have HK2 := Lib.hid k2
  clear k2
  have HOW := Lib.hid (make_own48 w2 n (by omega))
  have HK3 := Lib.hid (HK2.out.alloc (.cells (madeCells #[Value.int .u64 0] n) 48))
  have HBS := Lib.hid HK2.out.size
  go_wp2_with fail
  generalize w2.alloc (.cells (madeCells #[Value.int .u64 0] n) 48) = w3 at *
  generalize w2.heap.size = B at *
  go_loopw [35] (fun iv wr => ∃ (i : Nat), i ≤ n ∧ iv = .int .i64 (i : Int) ∧ OwnR 48 .u64 wr B (some ⟨B, 0, none⟩) n n (soFarL ws i) ∧ Keep (fun _ => False) w wr) (fun iv _ => n - (intOf iv).toNat)
  case atStart =>
    refine ⟨0, Nat.zero_le _, rfl, ?_, HK3.out⟩
    unfold soFarL
    rw [List.take_zero, List.nil_append, Nat.sub_zero, ← HNN.out]
    exact HOW.out
  case round =>
    obtain ⟨i, hi, rfl, ho, kr⟩ := hrel
    have HO2 := Lib.hid ho
    have HKR := Lib.hid kr
    clear ho kr
    by_cases h4 : i < n
    · have l1 : decide ((i : Int) < (n : Int)) = true := decide_eq_true (by omega)
      have l2 : decide (i < n) = true := decide_eq_true h4
      have hiw : i < ws.length := by rw [← HNN.out]; exact h4
      obtain ⟨p1, p2, p3⟩ := HP.out _ HKR.out
      have HIW := Lib.hid hiw
      obtain ⟨x, hx⟩ : ∃ x, x = ws.getD i 0 := ⟨_, rfl⟩
      have HR := Lib.hid (HRD.out wr HKR.out i hiw x hx)
      have HX := Lib.hid hx
      clear hx hiw
      obtain ⟨bb, off, hAe, hb, hcell⟩ := HO2.out.row.2 i h4
      injection hAe with hAe
      injection hAe with e1 e2
      subst e1 e2
      rw [Nat.zero_add] at hcell
      have hfz := HO2.out.frozen B 0 rfl i
      have HBB := Lib.hid hb
      clear hb
      go_wp2_with fail
      refine (HR.out _ (by push_cast; rfl)).mono ?_
      rintro e w4 ⟨rfl, rfl⟩
      go_wp2_with fail
      have HS : Hid (OwnR 48 .u64 (wr.setCell ⟨B, i, none⟩ (.int .u64 (x : Int))) B (some ⟨B, 0, none⟩) n n (soFarL ws (i + 1))) := Lib.hid (by
        have h1 := HO2.out.set h4 x
        have h2 := soFarL_set ws i HIW.out
        rw [← HX.out] at h2
        rwa [h2] at h1)
      have HK5 := Lib.hid (HKR.out.setCell (p := ⟨B, i, none⟩) (.inr HBS.out) (.int .u64 (x : Int)))
      go_roundw
      case rel => exact ⟨i + 1, h4, by go_num, HS.out, HK5.out⟩
      case measure => simp only [intOf]; omega
    · have hie : i = n := by omega
      subst hie
      have l1 : decide ((i : Int) < (i : Int)) = false := decide_eq_false (by omega)
      have hf : soFarL ws i = ws := by unfold soFarL; rw [← HNN.out, Nat.sub_self, HNN.out, List.take_length, List.replicate_zero, List.append_nil]
      have hown := HO2.out
      rw [hf] at hown
      have HOW2 := Lib.hid (hown.mono HBS.out)
      clear hf hown
      go_wp2_with fail
      go_ret2
      exact ⟨_, _, _, rfl, HOW2.out, HKR.out⟩
end Go.Proofs.YtkjocmenpccooaaGreatDoor
