/-
  lex: quoted.
-/
import Derived.Test.YtonnikipeokkaaaGreatDoorLxEsc
namespace Go.Proofs.YtonnikipeokkaaaGreatDoor
open Go.RowKit Go.Lib

theorem Keep.grownBy {w w' : World} (k : Keep (fun _ => False) w w') : w.grownBy w' none := ⟨k.os, k.tape, k.output, k.size, fun i hi _ => k.block i hi id⟩
theorem bld_keep {T e : TypeId} {B b : Nat} {bs : List Value} {w w' : World} (h : Lib.IsBuilderF T e B b bs w) (k : Keep (fun _ => False) w w') : Lib.IsBuilderF T e B b bs w' := by
  have key : ∀ p, Lib.BuilderAtF T e B b p bs w → Lib.BuilderAtF T e B b p bs w' := by
    rintro p ⟨h1, v, h2, h3, h4⟩
    refine ⟨h1, v, k.heap h2 (by simp), h3.kept (row := none) k.grownBy ?_, h4⟩
    cases hv : v.ownBlock with
    | none => exact .inl rfl
    | some g => exact .inr (by simp)
  rcases h with h | h
  · exact .inl (key _ h)
  · exact .inr (key _ h)
theorem bld_new (w : World) : Lib.IsBuilderF 133 5 w.heap.size w.heap.size [] (w.alloc (.cells #[.pointer none, .slice none 0 0] 133)) :=
  .inl ⟨Nat.le_refl _, .slice none 0 0, heap_alloc_new w _, World.ownsRowF_nil _ _ _ _, by simp [Value.ownBlock]⟩
theorem bld_lt {T e : TypeId} {B b : Nat} {bs : List Value} {w : World} (h : Lib.IsBuilderF T e B b bs w) : B ≤ w.heap.size := by
  rcases h with ⟨h1, v, h2, _⟩ | ⟨h1, v, h2, _⟩ <;> (have := heap_lt h2; omega)
theorem byteCells_app (l : List UInt8) (b : UInt8) : Lib.byteCells (l ++ [b]) = Lib.byteCells l ++ [.int .u8 (b.toNat : Int)] := by
  unfold Lib.byteCells; simp
theorem byteCells_len (l : List UInt8) : (Lib.byteCells l).length = l.length := by unfold Lib.byteCells; simp
theorem byteCells_str (l o : List UInt8) : Lib.byteCells (l ++ o) = Lib.byteCells l ++ Lib.strCells ⟨o.toArray⟩ := by
  unfold Lib.byteCells Lib.strCells; simp
theorem utfB_len (c : Nat) : (utfB c).length ≤ 4 := by
  unfold utfB
  split
  · simp
  split
  · simp
  split <;> simp
theorem escL_out {by_ : UInt8} {l out : List UInt8} {n : Nat} (h : escL by_ l = .ok out n) : out.length ≤ 4 := by
  cases l with
  | nil => cases h
  | cons d u =>
    rw [escL] at h
    split at h
    · injection h with h; rw [← h]; simp
    split at h
    · injection h with h; rw [← h]; simp
    split at h
    · injection h with h; rw [← h]; simp
    split at h
    · injection h with h; rw [← h]; simp
    split at h
    · split at h
      · cases h
      · split at h
        · cases h
        · injection h with h; rw [← h]; exact utfB_len _
    split at h
    · injection h with h; rw [← h]; simp
    · cases h
def QuoPost (r : QuoR) (a : Nat) (w : World) (e : Ending) (w' : World) : Prop :=
  match r with
  | .ok out n => e = .returned (.tuple #[.string ⟨out.toArray⟩, .int .i64 (n : Int), .nilIface]) ∧ Keep (fun _ => False) w w'
  | .open_ => ∃ v, e = .returned (.tuple #[.string ⟨#[]⟩, .int .i64 0, v]) ∧ ErrAt w' v a 11 ∧ Keep (fun _ => False) w w'
  | .bad i => ∃ v, e = .returned (.tuple #[.string ⟨#[]⟩, .int .i64 0, v]) ∧ ErrAt w' v i 9 ∧ Keep (fun _ => False) w w'
/-- What is known at a round of quoted. -/
structure QtSt (w : World) (by_ : UInt8) (l : List UInt8) (R : QuoR) (k : Nat) (out : List UInt8) (wr : World) : Prop where
  b : Lib.IsBuilderF 133 5 w.heap.size w.heap.size (Lib.byteCells out) wr
  below : Below w.heap.size w wr
  r : quoAt by_ l k out = R
  len : out.length ≤ 4 * k
set_option maxRecDepth 100000 in
set_option maxHeartbeats 4000000 in
theorem quoted_any (s : ByteArray) (a : Nat) (by_ : UInt8) (w : World) (ha : a < s.size) (hs : s.size ≤ 1000000) (hby : by_ = s.data.toList.getD a 0) :
    Calls Tryz.prog 88 #[.string s, .int .i64 (a : Int)] w (QuoPost (quoAt by_ s.data.toList (a + 1) []) a w) := by
  have hz : s.data.toList.length = s.size := (Lib.size_eq s).symm
  have hx := at_run s a (by rw [hz]; exact ha) by_ hby
  have HAT := Lib.hid (fun (k : Nat) (hk : k < s.size) => at_run s k (by rw [hz]; exact hk) _ rfl)
  have HESC := Lib.hid (fun (k : Nat) (w : World) (hk : k < s.size) => escape_any s k by_ w hk hs)
  obtain ⟨l, hl⟩ : ∃ l, l = s.data.toList := ⟨_, rfl⟩
  rw [← hl] at hz HAT HESC ⊢
  have HZ := Lib.hid hz
  obtain ⟨R, hR⟩ : ∃ R, R = quoAt by_ l (a + 1) [] := ⟨_, rfl⟩
  rw [← hR]
  have HS0 := Lib.hid (show QtSt w by_ l R (a + 1) [] (w.alloc (.cells #[.pointer none, .slice none 0 0] 133)) from ⟨bld_new w, (Below.refl _ _).alloc (Nat.le_refl _) _, hR.symm, by simp⟩)
  clear hl hz hby hR
  go_enter Tryz.func88, Tryz.ntmps88
  go_wp2_with fail
  generalize hB : w.heap.size = B
  have HB := Lib.hid hB
  clear hB
  go_loopw [9] (fun iv wr => ∃ (k : Nat) (out : List UInt8), k ≤ s.size ∧ iv = .int .i64 (k : Int) ∧ QtSt w by_ l R k out wr) (fun iv _ => s.size - (intOf iv).toNat)
  case atStart => exact ⟨a + 1, [], by omega, by go_num, HS0.out⟩
  case round =>
    clear HS0
    obtain ⟨k, out, hk, rfl, hst⟩ := hrel
    have HS := Lib.hid hst
    clear hst
    by_cases hlt : k < s.size
    · have hxk := HAT.out k hlt
      have h0 : decide ((k : Int) < (s.size : Int)) = true := decide_eq_true (by omega)
      obtain ⟨c, hc⟩ : ∃ c, c = l.getD k 0 := ⟨_, rfl⟩
      rw [← hc] at hxk
      have HC := Lib.hid hc
      clear hc
      have eby : ((c.toNat : Int) == (by_.toNat : Int)) = (c == by_) := byte_eq c by_
      cases hcb : c == by_ with
      | true =>
        rw [hcb] at eby
        have hcc : c = by_ := by simpa using hcb
        have HCC := Lib.hid hcc
        clear hcb hcc
        go_wp2_with fail
        refine (Tryz.Builder_String_any_k B B out wr (by have := HS.out.b; rw [HB.out] at this; exact this) (by have := HS.out.below.size; rw [HB.out] at this; exact this)).mono ?_
        rintro e w2 ⟨rfl, -, hbel, -⟩
        have HK := Lib.hid (show Keep (fun _ => False) w w2 from Keep.of_below (HS.out.below.trans (by rw [HB.out]; exact hbel)))
        clear hbel
        try dsimp only
        go_wp2_with fail
        refine bodyPost_ret (v := .tuple #[.string ⟨out.toArray⟩, .int .i64 ((k + 1 : Nat) : Int), .nilIface]) (by simp [results, Tryz.results88, go_sem]) rfl ?_
        rw [← HS.out.r, quoAt_close (by rw [HZ.out]; exact hlt) (by rw [← HC.out]; exact HCC.out)]
        exact ⟨rfl, HK.out⟩
      | false =>
        rw [hcb] at eby
        have hcc : c ≠ by_ := by simpa using hcb
        have HCC := Lib.hid hcc
        clear hcb hcc
        have e92 : ((c.toNat : Int) == 92) = (c == 92) := byte_eq c 92
        cases h92 : c == 92 with
        | true =>
          rw [h92] at e92
          have hc92 : c = 92 := by simpa using h92
          have H92 := Lib.hid hc92
          clear h92 hc92
          by_cases hend : k + 1 = s.size
          · have e1 : ((k : Int) + 1 == (s.size : Int)) = true := by simp; omega
            have HEND := Lib.hid hend
            clear hend
            go_wp2_with fail
            refine (wrong_any _ _ _ _).mono ?_
            rintro e w2 ⟨v, rfl, he, hk2⟩
            have HE := Lib.hid he
            have HK := Lib.hid (show Keep (fun _ => False) w w2 from Keep.of_below (HS.out.below.trans (show Below w.heap.size wr w2 from ⟨hk2.os, hk2.tape, hk2.output, hk2.size, fun i hi => hk2.block i (Nat.lt_of_lt_of_le hi HS.out.below.size) id⟩)))
            clear he hk2
            try dsimp only
            go_wp2_with fail
            refine bodyPost_ret (v := .tuple #[.string ⟨#[]⟩, .int .i64 0, v]) (by simp [results, Tryz.results88, go_sem]) rfl ?_
            rw [← HS.out.r, quoAt_open (by rw [HZ.out]; exact hlt) (by rw [← HC.out]; exact HCC.out) (by rw [← HC.out]; exact H92.out) (by rw [List.drop_of_length_le (by rw [HZ.out]; have := HEND.out; omega)]; rfl)]
            exact ⟨v, rfl, HE.out, HK.out⟩
          · have e1 : ((k : Int) + 1 == (s.size : Int)) = false := by simp; omega
            have hk1 : k + 1 < s.size := by omega
            clear hend
            go_wp2_with fail
            rw [show ((k : Int) + 1) = ((k + 1 : Nat) : Int) from rfl]
            refine (HESC.out (k + 1) wr hk1).mono ?_
            intro e w2 hpost
            cases hesc : escL by_ (l.drop (k + 1)) with
            | open_ => rw [hesc] at hpost; exact hpost.elim
            | bad =>
              rw [hesc] at hpost
              obtain ⟨x, i, rfl, k2⟩ := hpost
              have HE2 := Lib.hid hesc
              have HB2 := Lib.hid (show Below w.heap.size w w2 from HS.out.below.trans (show Below w.heap.size wr w2 from ⟨k2.os, k2.tape, k2.output, k2.size, fun i hi => k2.block i (Nat.lt_of_lt_of_le hi HS.out.below.size) id⟩))
              clear hesc k2
              try dsimp only
              go_wp2_with fail
              refine (wrong_any _ _ _ _).mono ?_
              rintro e w3 ⟨v, rfl, he, hk2⟩
              have HE := Lib.hid he
              have HK := Lib.hid (show Keep (fun _ => False) w w3 from Keep.of_below (HB2.out.trans (show Below w.heap.size w2 w3 from ⟨hk2.os, hk2.tape, hk2.output, hk2.size, fun i hi => hk2.block i (Nat.lt_of_lt_of_le hi HB2.out.size) id⟩)))
              clear he hk2
              try dsimp only
              go_wp2_with fail
              refine bodyPost_ret (v := .tuple #[.string ⟨#[]⟩, .int .i64 0, v]) (by simp [results, Tryz.results88, go_sem]) rfl ?_
              rw [← HS.out.r, quoAt_bad (by rw [HZ.out]; exact hlt) (by rw [← HC.out]; exact HCC.out) (by rw [← HC.out]; exact H92.out) HE2.out]
              exact ⟨v, rfl, HE.out, HK.out⟩
            | ok o n =>
              rw [hesc] at hpost
              obtain ⟨rfl, k2⟩ := hpost
              have hle := escL_le hesc
              rw [List.length_drop, HZ.out] at hle
              have hol := escL_out hesc
              have HE2 := Lib.hid hesc
              have HB2 := Lib.hid (show Below w.heap.size w w2 from HS.out.below.trans (show Below w.heap.size wr w2 from ⟨k2.os, k2.tape, k2.output, k2.size, fun i hi => k2.block i (Nat.lt_of_lt_of_le hi HS.out.below.size) id⟩))
              have HBL := Lib.hid (bld_keep HS.out.b k2)
              have HLN := Lib.hid HS.out.len
              clear hesc k2
              have HOL := Lib.hid hol
              clear hol
              try dsimp only
              go_wp2_with fail
              refine (Tryz.Builder_WriteString_k B B (Lib.byteCells out) ⟨o.toArray⟩ w2 (by have := HBL.out; rw [HB.out] at this; exact this) (by rw [byteCells_len, Lib.size_eq]; have := HLN.out; have := HOL.out; simp only; omega) (by have := HB2.out.size; rw [HB.out] at this; exact this)).mono ?_
              rintro e w3 ⟨rfl, hat, hbel, -⟩
              rw [← byteCells_str] at hat
              have HST := Lib.hid (show QtSt w by_ l R (k + 1 + n) (out ++ o) w3 from ⟨by rw [HB.out]; exact .inr hat, HB2.out.trans (by rw [HB.out]; exact hbel), by rw [← HS.out.r, quoAt_esc (by rw [HZ.out]; exact hlt) (by rw [← HC.out]; exact HCC.out) (by rw [← HC.out]; exact H92.out) HE2.out], by rw [List.length_append]; have := HLN.out; have := HOL.out; omega⟩)
              clear hat hbel
              try dsimp only
              go_wp2_with fail
              go_roundw
              case rel => exact ⟨k + 1 + n, out ++ o, by omega, by go_num, HST.out⟩
              case measure => simp [intOf]; omega
        | false =>
          rw [h92] at e92
          have hc92 : c ≠ 92 := by simpa using h92
          have H92 := Lib.hid hc92
          have HLN := Lib.hid HS.out.len
          clear h92 hc92
          go_wp2_with fail
          refine (Tryz.Builder_WriteByte_k B B (Lib.byteCells out) (c.toNat : Int) wr (by have := HS.out.b; rw [HB.out] at this; exact this) (by rw [byteCells_len]; have := HLN.out; omega) (by have := HS.out.below.size; rw [HB.out] at this; exact this)).mono ?_
          rintro e w3 ⟨rfl, hat, hbel, -⟩
          rw [← byteCells_app] at hat
          have HST := Lib.hid (show QtSt w by_ l R (k + 1) (out ++ [c]) w3 from ⟨by rw [HB.out]; exact .inr hat, HS.out.below.trans (by rw [HB.out]; exact hbel), by rw [HC.out]; exact (quoAt_plain (by rw [HZ.out]; exact hlt) (by rw [← HC.out]; exact HCC.out) (by rw [← HC.out]; exact H92.out)).symm.trans HS.out.r, by rw [List.length_append]; have := HLN.out; simp; omega⟩)
          clear hat hbel
          try dsimp only
          go_wp2_with fail
          go_roundw
          case rel => exact ⟨k + 1, out ++ [c], by omega, by go_num, HST.out⟩
          case measure => simp [intOf]; omega
    · have h0 : decide ((k : Int) < (s.size : Int)) = false := decide_eq_false (by omega)
      have h1 : decide (k < s.size) = false := decide_eq_false (by omega)
      have hke : k = s.size := by omega
      have HKE := Lib.hid hke
      clear hke
      go_wp2_with fail
      refine (wrong_any _ _ _ _).mono ?_
      rintro e w2 ⟨v, rfl, he, hk2⟩
      have HE := Lib.hid he
      have HK := Lib.hid (show Keep (fun _ => False) w w2 from Keep.of_below (HS.out.below.trans (show Below w.heap.size wr w2 from ⟨hk2.os, hk2.tape, hk2.output, hk2.size, fun i hi => hk2.block i (Nat.lt_of_lt_of_le hi HS.out.below.size) id⟩)))
      clear he hk2
      try dsimp only
      go_wp2_with fail
      refine bodyPost_ret (v := .tuple #[.string ⟨#[]⟩, .int .i64 0, v]) (by simp [results, Tryz.results88, go_sem]) rfl ?_
      rw [← HS.out.r, HKE.out, ← HZ.out, quoAt_end]
      exact ⟨v, rfl, HE.out, HK.out⟩
end Go.Proofs.YtonnikipeokkaaaGreatDoor
