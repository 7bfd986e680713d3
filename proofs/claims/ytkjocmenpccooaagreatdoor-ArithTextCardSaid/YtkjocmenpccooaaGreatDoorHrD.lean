/-
  A text's datum onto the heap.
-/
import Derived.Test.YtkjocmenpccooaaGreatDoorHrB
import Derived.Test.YtkjocmenpccooaaGreatDoorHrS
import Derived.Test.YtkjocmenpccooaaGreatDoorHpF
namespace Go.Proofs.YtkjocmenpccooaaGreatDoor
open Go.RowKit

/-- The tables of texts. -/
def UTabs (w : World) : Prop := Lib.Utf8Tabs 0 1 w
theorem asc_get {t : ByteArray} (ha : Asc t) (j : Nat) (h : j < t.size) : (t[j]'h).toNat < 128 := by
  rw [← bytesN_get t j h]
  exact ha _ (List.getElem_mem _)
theorem count_asc (t : ByteArray) (ha : Asc t) (hm : t.size ≤ 1000) (w : World) : Calls Tryz.prog 54 #[.string t] w (fun e w' => e = .returned (.int .i64 (t.size : Int)) ∧ Keep (fun _ => False) w w') := by
  refine (Tryz.utf8_RuneCountInString t w (by omega)).mono ?_
  rintro e w' ⟨rfl, pos, rfl⟩
  refine ⟨?_, (Keep.refl _ _).alloc _⟩
  rw [Lib.runeCount_ascii t (fun j h => asc_get ha j h)]
theorem valid_asc (t : ByteArray) (ha : Asc t) (hm : t.size ≤ 1000) (w : World) (hT : UTabs w) : Calls Tryz.prog 53 #[.string t] w (BoolPost true w) := by
  refine (Tryz.utf8_ValidString t w (by omega) hT).mono ?_
  rintro e w' ⟨rfl, hb⟩
  refine ⟨?_, Keep.of_below hb⟩
  have h1 := Lib.validD_ascii t.data.toList.length t.data.toList (fun b hb2 => by
    rw [List.take_length] at hb2
    exact ha _ (List.mem_map_of_mem hb2))
  rw [h1, List.drop_length]
  rfl
theorem dtext_asc (t : ByteArray) (ha : Asc t) (hm : t.size ≤ 62) (w : World) (hT : ∀ W, Keep (fun _ => False) w W → UTabs W) : Calls Tryz.prog 94 #[.string t, .int .i64 0] w (BoolPost true w) := by
  have := ptext_w t 0 t.size true w (Lib.hid (fun W _ => count_asc t ha (by omega) W)) (Lib.hid (fun W K => valid_asc t ha (by omega) W (hT W K)))
  rwa [decide_eq_true (show (0 : Int) ≤ (t.size : Int) by omega), decide_eq_true (show (t.size : Int) ≤ 62 by omega)] at this
abbrev strR (t : ByteArray) : Raw := .mk 5 0 false [] t []
theorem pplain_str (t : ByteArray) (ha : Asc t) (hm : t.size ≤ 62) (w : World) (hT : ∀ W, Keep (fun _ => False) w W → UTabs W) : Calls Tryz.prog 47 #[datV 5 false none 0 0 t] w (BoolPost true w) :=
  pplain_c5 (strR t) (pvN none 0 0) w rfl rfl rfl rfl rfl rfl 0 false none 0 0 t none 0 0 _ (Lib.hid (fun w => own_c5 5 0 false none 0 0 t none 0 0 w rfl rfl rfl))
    (Lib.hid (fun W _ => flat_any 5 0 false none 0 0 t none 0 0 5 0 false none 0 0 t none 0 0 [] [] W (none_limbs W) (none_limbs W))) (Lib.hid (flat_self _ _ _ _ _)) _
    (Lib.hid (fun W K => dtext_asc t ha hm W (fun W2 K2 => hT W2 (K.trans K2))))
theorem dmay_str (t : ByteArray) (ha : Asc t) (hm : t.size ≤ 62) (w : World) (hT : ∀ W, Keep (fun _ => False) w W → UTabs W) : Calls Tryz.prog 24 #[datV 5 false none 0 0 t] w (BoolPost true w) :=
  pmay_leaf 5 rfl false none 0 0 t true w (fun W K => pplain_str t ha hm W (fun W2 K2 => hT W2 (K.trans K2)))
set_option maxRecDepth 100000 in
set_option maxHeartbeats 4000000 in
theorem put_str {w : World} {h c s p g : Nat} {S : SpV} (H : HpAt w h c s p g S) (t : ByteArray) (ha : Asc t) (h1 : 1 ≤ t.size) (hm : t.size ≤ 62) (hf : 0 < S.M.free) (hc : S.M.count < 1000) (b1 b2 : Nat) (hb : w.cell? ⟨b1, 0, none⟩ = some (.pointer (some ⟨h, 0, none⟩))) :
    Calls Tryz.prog 25 #[datV 5 false none 0 0 t, .pointer (some ⟨b1, 0, none⟩), .pointer (some ⟨b2, 0, none⟩)] w (LaidPost h c s p g S (StrH t) w) := by
  have K1 : Keep (fun _ => False) w (w.alloc (datC 5 false none 0 0 t)) := (Keep.refl _ _).alloc _
  have hbx := heap_alloc_new w (datC 5 false none 0 0 t)
  have hs := string_any (H.keep0 K1) t ha h1 (by omega) hf hc
  unfold StrLaid at hs
  rw [show (fun (e : Ending) (w' : World) => if t.size ≤ 62 then LaidPost h c s p g S (StrH t) (w.alloc (datC 5 false none 0 0 t)) e w' else e = .returned (.tuple #[.int .u64 0, .int .i64 6]) ∧ Keep (fun _ => False) (w.alloc (datC 5 false none 0 0 t)) w') = LaidPost h c s p g S (StrH t) (w.alloc (datC 5 false none 0 0 t)) from by funext e w'; rw [if_pos hm]] at hs
  have HI := Lib.hid hs
  have HK := Lib.hid K1
  have hb1 : (w.alloc (datC 5 false none 0 0 t)).cell? ⟨b1, 0, none⟩ = some (.pointer (some ⟨h, 0, none⟩)) := (K1.cell (World.block_lt_of_cell? w _ hb) id).trans hb
  obtain ⟨⟨a0, a1, a2, a3, a4, a5⟩, _⟩ := six_cells hbx
  clear K1 hbx H hs ha hf hc hb
  go_enter Tryz.func25, Tryz.ntmps25
  go_wp2_with fail
  generalize w.alloc (datC 5 false none 0 0 t) = w1 at *
  refine HI.out.mono ?_
  intro e w2 hl
  have HL := Lib.hid (hl.keepL HK.out)
  obtain ⟨S', u, rfl, _⟩ := hl
  go_wp2_with fail
  go_ret2
  exact HL.out
theorem heap_str {w : World} {h c s p g : Nat} {S : SpV} (H : HpAt w h c s p g S) (t : ByteArray) (ha : Asc t) (h1 : 1 ≤ t.size) (hm : t.size ≤ 62) (hf : 0 < S.M.free) (hc : S.M.count < 1000) (hT : ∀ W, Keep (fun _ => False) w W → UTabs W) :
    Calls Tryz.prog 17 #[.pointer (some ⟨h, 0, none⟩), datV 5 false none 0 0 t] w (LaidPost h c s p g S (StrH t) w) :=
  heap_leaf 5 false none 0 0 t H.lts.1 (fun W K => dmay_str t ha hm W (fun W2 K2 => hT W2 (K.trans K2)))
    (fun _ K b1 b2 hb => put_str (H.keep0 K) t ha h1 hm hf hc b1 b2 hb)
end Go.Proofs.YtkjocmenpccooaaGreatDoor
