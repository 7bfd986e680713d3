/-
  Things on the heap: Make, of a text or a great number.
-/
import Derived.Test.YtkjocmenpccooaaGreatDoorHpO
namespace Go.Proofs.YtkjocmenpccooaaGreatDoor
open Go.RowKit

theorem HpAt.lts {w : World} {h c s p g : Nat} {S : SpV} (H : HpAt w h c s p g S) : h < w.heap.size ∧ c < w.heap.size ∧ s < w.heap.size ∧ p < w.heap.size ∧ g < w.heap.size :=
  ⟨heap_lt H.head, H.cd.lt, H.cd.sp.lt, H.cd.sp.mem.lt, H.cd.sp.mem.segs.lt⟩
theorem mine_old {w : World} {h c s p g : Nat} {S : SpV} (H : HpAt w h c s p g S) {b : Nat} (hb : w.heap.size ≤ b) : ¬ MineS s p g b := by
  have := H.lts
  rintro (e | e | e) <;> omega
/-- A slice that was just built of one word. -/
theorem word_own (w : World) (e : TypeId) (x : Value) : (w.alloc (.cells #[x] e)).ownsRow w.heap.size e 1 (.slice (some ⟨w.heap.size, 0, none⟩) 1 1) 1 [x] :=
  ⟨rfl, .inr ⟨w.heap.size, 1, #[x], rfl, Nat.le_refl _, heap_alloc_new _ _, Nat.le_refl _, by unfold maxLen; omega, rfl, rfl⟩⟩
theorem info48 : (Tryz.prog.info? 48).map (fun i => (i.zero, i.size, i.bytes)) = some (some (.int .u64 0), 1, 8) := by kernel_rfl
set_option maxHeartbeats 1000000 in
theorem raw_any (k : Int) (w : World) (hk : k = 2 ∨ k = 3) : Calls Tryz.prog 58 #[.int .i64 k] w (fun e w' => e = .returned (.int .i64 3) ∧ w = w') := by
  rcases hk with rfl | rfl
  all_goals
    go_enter Tryz.func58, Tryz.ntmps58
    go_wp2_with fail
    go_ret
    exact ⟨rfl, rfl⟩
set_option maxRecDepth 100000 in
set_option maxHeartbeats 4000000 in
theorem make_any {w : World} {h c s p g : Nat} {S : SpV} (H : HpAt w h c s p g S) (k more : Nat) (hk : k = 2 ∨ k = 3) (hm : more < 281474976710656) (ad : Addr) (n cp : Nat) (ws : List Nat) (hr : RowAt .u64 w (some ad) n ws)
    (hn : 1 ≤ n ∧ n ≤ 62) (hw : ∀ i (hi : i < ws.length), ws[i] ≤ 18446744073709551615) (hf : 0 < S.M.free) (hc : S.M.count < 1000) : Calls Tryz.prog 30 #[.pointer (some ⟨h, 0, none⟩), .int .i64 (k : Int), .int .u64 (more : Int), .slice (some ad) n cp] w (PutPost h c s p g S 3 (headW k n more :: ws) w) := by
  obtain ⟨i48, h48, u0, u1, u2⟩ := info_parts info48
  have HH := Lib.hid H
  have HR := Lib.hid hr
  have HL := Lib.hid hr.1
  have HW1 := Lib.hid (fun w => whead_make k 0 more w (by omega) (by omega) hm)
  have HW2 := Lib.hid (fun w => whead_make k n more w (by omega) hn.2 hm)
  have HRAW := Lib.hid (fun w => raw_any (k : Int) w (by omega))
  have hlt := headW_lt (k := k) (n := n) (more := more) (by omega) hn.2 hm
  have HPUT := Lib.hid (fun (w2 : World) (K : Keep (fun _ => False) w w2) (A : Option Addr) (cp : Nat) (hr : RowAt .u64 w2 A (n + 1) (headW k n more :: ws)) (hA : ∀ b off, A = some ⟨b, off, none⟩ → ¬ MineS s p g b) => put_any (H.keep0 K) 3 (.inr rfl) A (n + 1) cp _ hr hA (by omega) (by
    intro i hi
    cases i with
    | zero => show headW k n more ≤ _; omega
    | succ i => exact hw i (by simpa using hi)) hf hc)
  obtain ⟨hd, hhd⟩ : ∃ x, x = headW k n more := ⟨_, rfl⟩
  rw [← hhd] at HW2 HPUT ⊢
  obtain ⟨k', hk'⟩ : ∃ x : Int, x = (k : Int) := ⟨_, rfl⟩
  obtain ⟨m', hm'⟩ : ∃ x : Int, x = (more : Int) := ⟨_, rfl⟩
  rw [← hk', ← hm'] at HW1 HW2 ⊢
  rw [← hk'] at HRAW
  have n0 : 1 ≤ n := hn.1
  have n1 : n ≤ 62 := hn.2
  have HNEW := Lib.hid (fun (x : Value) => ((hr.keep0 ((Keep.refl (fun _ => False) w).alloc (.cells #[x] 48))).news))
  clear H hr hw hf hc hk hm hhd hk' hm' hlt hn
  go_enter Tryz.func30, Tryz.ntmps30
  go_wp2_with fail
  refine (HW1.out _).mono ?_
  rintro e w1 ⟨rfl, rfl⟩
  go_wp2_with fail
  refine (HW2.out _).mono ?_
  rintro e w1 ⟨rfl, rfl⟩
  go_wp2_with fail
  refine (HRAW.out _).mono ?_
  rintro e w1 ⟨rfl, rfl⟩
  go_wp2_with (at_builtin; refine wpList_append_own _ rfl (.tmp 38) (.tmp 39) 46 rfl w.heap.size 48 i48 (.int .u64 0) 1 8 Tryz.underlying46 h48 u0 u1 u2 rfl (by decide) _ _ _ rfl (word_own w 48 _) ad n cp (ws.map fun x : Nat => Value.int .u64 (x : Int)) rfl (by rw [List.length_map, HL.out, Nat.mul_one]) (HNEW.out _) ?a1 ?a2 ?a3 ?a4 ?_)
  case a1 =>
    intro u hu
    obtain ⟨y, _, rfl⟩ := List.mem_map.1 hu
    rfl
  case a2 => unfold maxLen; omega
  case a3 => omega
  case a4 => simp
  intro v' w2 hown hgrow _
  have K2 : Keep (fun _ => False) w w2 := ((Keep.refl _ _).alloc _).grown hgrow (fun k hk => .inr (by simp [Value.ownBlock] at hk; omega))
  have hown2 : w2.ownsRow w.heap.size 48 1 v' (n + 1) ((hd :: ws).map fun x : Nat => Value.int .u64 (x : Int)) := by rw [Nat.add_comm n 1]; exact hown
  obtain ⟨A', c', rfl, own⟩ := own_slice hown2
  have HP := Lib.hid (HPUT.out w2 K2 A' c' own.row (fun b off e => mine_old HH.out (own.fresh b off e).1))
  have HK := Lib.hid K2
  clear hown hgrow hown2 own K2
  go_wp2_with fail
  refine HP.out.mono ?_
  rintro e w3 ⟨S', a, rfl, h3, k3, at3, ext, fr, ct, al⟩
  go_wp2_with fail
  go_ret2
  exact ⟨S', a, rfl, h3, (HK.out.mono (fun _ _ h => h.elim)).trans k3, at3, ext, fr, ct, al⟩
end Go.Proofs.YtkjocmenpccooaaGreatDoor
