/-
  The document's small.
-/
import Derived.Test.YtdfekphahdmffaaDoorRfPlus
namespace Go.Proofs.YtdfekphahdmffaaDoor
open Go.RowKit

/-- What is made so far, and what is left. -/
structure SmSt (w : World) (m k : Nat) (bs : List Nat) (v : Value) (wr : World) : Prop where
  o : wr.ownsRow w.heap.size 5 1 v bs.length (bs.map fun x : Nat => Value.int .u8 (x : Int))
  e : bs ++ bits2 k = bits2 m
  K : Keep (fun _ => False) w wr
theorem SmSt.more {w wr w5 w6 : World} {m k : Nat} {bs : List Nat} {v v' : Value} (h : SmSt w m k bs v wr) (hk : 0 < k) (K5 : Keep (fun _ => False) wr w5)
    (hown : w6.ownsRow w.heap.size 5 1 v' (bs.length + 1) ((bs.map fun x : Nat => Value.int .u8 (x : Int)) ++ [.int .u8 ((k % 2 : Nat) : Int)])) (hgrow : w5.grownBy w6 v.ownBlock) : SmSt w m (k / 2) (bs ++ [k % 2]) v' w6 := by
  refine ⟨?_, ?_, ?_⟩
  · rw [List.map_append, List.length_append]; exact hown
  · rw [List.append_assoc, ← h.e]
    congr 1
    exact (digs_pos two2 hk).symm
  · refine (h.K.trans K5).into (Keep.of_grown hgrow) (fun i' hi => ?_)
    rcases h.o.2 with ⟨hn, _⟩ | ⟨g, cap, cur, hv, hg, _⟩
    · rw [hn] at hi; cases hi
    · rw [hv] at hi
      have : i' = g := by simpa [Value.ownBlock] using hi
      omega
set_option maxRecDepth 100000 in
set_option maxHeartbeats 4000000 in
theorem small_any (m : Nat) (w : World) (hm : m ≤ 1000000) : Calls Tryd.prog 60 #[.int .i64 (m : Int)] w (MagPost m w) := by
  go_enter Tryd.func60, Tryd.ntmps60
  go_wp2_with fail
  go_loopw [0, 3] (fun kv v wr => ∃ (k : Nat) (bs : List Nat), k ≤ m ∧ kv = .int .i64 (k : Int) ∧ bs.length + k ≤ m + 0 ∧ SmSt w m k bs v wr) (fun kv _ _ => (intOf kv).toNat)
  case atStart => exact ⟨m, [], Nat.le_refl _, rfl, by simp, World.ownsRow_nil _ _ _ _, by simp, Keep.refl _ _⟩
  case round =>
    obtain ⟨k, bs, hk, rfl, hbk, st⟩ := hrel
    obtain ⟨P, cP, rfl⟩ := bits_form st.o
    have HS := Lib.hid st
    clear st
    by_cases h0 : 0 < k
    · have h0i : (0 : Int) < (k : Int) := by omega
      obtain ⟨b, hbb⟩ : ∃ b, b = k % 2 := ⟨_, rfl⟩
      have hval : ((k : Int) % 2) = (b : Int) := by omega
      have HBB := Lib.hid hbb
      obtain ⟨i5, h5, hz0, hz1, hz2⟩ := info_parts info5
      have KW : Keep (fun _ => False) wr (wr.alloc (.cells #[.int .u8 (b : Int)] 5)) := (Keep.refl _ _).alloc _
      have HOWN := Lib.hid (row_kept HS.out.o KW (fun _ _ => id))
      have HNEW := Lib.hid (new_bit wr (b : Int))
      have HBS := Lib.hid (Nat.le_trans HS.out.K.size KW.size)
      have HKW := Lib.hid KW
      clear KW hbb
      go_wp2_with (at_builtin; rw [hval]; refine wpList_append_own _ rfl (.tmp 6) (.tmp 10) 32 rfl w.heap.size 5 i5 (.int .u8 0) 1 1 Tryd.underlying32 h5 hz0 hz1 hz2 rfl (by decide) _ _ _ rfl HOWN.out ⟨wr.heap.size, 0, none⟩ 1 1 [.int .u8 (b : Int)] rfl rfl HNEW.out ?a1 ?a2 ?a3 HBS.out ?_)
      case a1 => intro u hu; simp at hu; subst hu; rfl
      case a2 => unfold maxLen; omega
      case a3 => omega
      intro v' w6 hown hgrow _
      have N := HS.out.more h0 HKW.out (by rw [← HBB.out]; exact hown) hgrow
      obtain ⟨P2, cP2, rfl⟩ := bits_form N.o
      have HN := Lib.hid N
      clear N hown hgrow
      go_wp2_with fail
      go_roundw
      case rel => exact ⟨k / 2, bs ++ [k % 2], by omega, by go_num, by rw [List.length_append]; simp; omega, by
        have := HN.out
        rw [List.length_append] at *
        exact this⟩
      case measure => simp [intOf]; omega
    · have hd : decide ((0 : Int) < (k : Int)) = false := decide_eq_false (by omega)
      obtain rfl : k = 0 := by omega
      have e := HS.out.e
      rw [show bits2 0 = [] from digs_zero 2, List.append_nil] at e
      have HE := Lib.hid (show OwnR 5 .u8 wr w.heap.size P bs.length cP (bits2 m) from by rw [← e]; exact HS.out.o)
      clear e
      go_wp2_with fail
      go_ret
      exact ⟨_, _, _, rfl, HE.out, HS.out.K⟩
end Go.Proofs.YtdfekphahdmffaaDoor
