/-
  arith.Apply, of numbers that make a number.
-/
import Derived.Test.YtkjocmenpccooaaGreatDoorHpAc
import Derived.IntWalk
import Derived.Test.YtkjocmenpccooaaGreatDoorHpTx
namespace Go.Proofs.YtkjocmenpccooaaGreatDoor
open Go.RowKit

/-- A word that stands for a number, or an error. -/
def ApPost (er : Int) (h c s p g : Nat) (S : SpV) (D : MemV → Nat → Prop) (w : World) (e : Ending) (w' : World) : Prop :=
  if er = 0 then LaidPost h c s p g S D w e w' else e = .returned (.tuple #[.int .u64 0, .int .i64 er]) ∧ Keep (fun _ => False) w w'
set_option maxRecDepth 100000 in
set_option maxHeartbeats 8000000 in
theorem apply_num {w : World} {h c s p g : Nat} {S : SpV} (H : HpAt w h c s p g S) (k : Int) (n : Nat)
    (hk : k = 0 ∧ n = 2 ∨ k = 0 ∧ n = 3 ∨ k = 1 ∧ n = 2 ∨ k = 1 ∧ n = 3 ∨ k = 3 ∧ n = 1 ∨ k = 3 ∧ n = 2 ∨ k = 4 ∧ n = 2 ∨ k = 5 ∧ n = 2 ∨ k = 6 ∧ n = 2 ∨ k = 12 ∧ n = 3 ∨ k = 13 ∧ n = 3 ∨ k = 14 ∧ n = 1)
    (A : Option Addr) (cp : Nat) (us : List Nat) (hr : RowAt .u64 w A n us) (xs : List Int) (hxl : xs.length = n) (hd : ∀ i, i < n → DenH S.M (us.getD i 0) (xs.getD i 0) ∧ Fits (xs.getD i 0)) (er v : Int) (hf : 0 < S.M.free) (hcc : S.M.count < 1000)
    (RC : ∀ (w1 : World) (A' : Option Addr) (c' : Nat), Keep (fun _ => False) w w1 → NumsR w1 A' xs → n ≤ c' → Calls Tryz.prog 40 #[.int .i64 k, .slice A' n c'] w1 (RcPost er v w1)) :
    Calls Tryz.prog 18 #[.pointer (some ⟨h, 0, none⟩), .int .i64 k, .slice A n cp] w (ApPost er h c s p g S (fun M u => DenH M u v) w) := by
  have HT := Lib.hid (table_any w)
  have hn : n ≤ 1000 := by omega
  have HN := Lib.hid (fun (w1 : World) (K : Keep (fun _ => False) w w1) => numbers_any (H.keep0 K) A n cp us (hr.keep0 K) xs hxl hd hn)
  have HRC := Lib.hid RC
  have HI := Lib.hid (fun (w1 : World) (K : Keep (fun _ => False) w w1) (A : Option Addr) (n c : Nat) (L : LimbsAt w1 A n c (limbs v.natAbs)) (hft : Fits v) => int_any (H.keep0 K) (decide (v < 0)) A n c _ L v (sval_limbs v).symm hft hf hcc)
  clear H hr hxl hd hf hcc RC hn
  rcases hk with ⟨rfl, rfl⟩ | ⟨rfl, rfl⟩ | ⟨rfl, rfl⟩ | ⟨rfl, rfl⟩ | ⟨rfl, rfl⟩ | ⟨rfl, rfl⟩ | ⟨rfl, rfl⟩ | ⟨rfl, rfl⟩ | ⟨rfl, rfl⟩ | ⟨rfl, rfl⟩ | ⟨rfl, rfl⟩ | ⟨rfl, rfl⟩
  all_goals
    go_enter Tryz.func18, Tryz.ntmps18
    go_wp2_with fail
    refine HT.out.mono ?_
    rintro e w1 ⟨rfl, k1⟩
    have HK1 := Lib.hid k1
    have ix0 := tab_ix0
    have ix1 := tab_ix1
    have ix3 := tab_ix3
    have ix4 := tab_ix4
    have ix5 := tab_ix5
    have ix6 := tab_ix6
    have ix12 := tab_ix12
    have ix13 := tab_ix13
    have ix14 := tab_ix14
    generalize tabC = T at ix0 ix1 ix3 ix4 ix5 ix6 ix12 ix13 ix14 ⊢
    clear k1
    go_wp2_with fail
    refine (HN.out _ (HK1.out.alloc _)).mono ?_
    rintro e w2 ⟨A2, c2, rfl, nr, hle, k2⟩
    have HK2 := Lib.hid ((HK1.out.alloc _).trans k2)
    have HY := Lib.hid (HRC.out w2 A2 c2 HK2.out nr hle)
    clear nr hle k2
    go_wp2_with fail
    refine HY.out.mono ?_
    rintro e w3 ⟨k3, q3, A3, n3, c3, rfl, h3⟩
    have HK3 := Lib.hid (HK2.out.trans k3)
    have H3 := Lib.hid h3
    clear k3 h3
    by_cases he : er = 0
    · obtain ⟨h5, h6, h7⟩ := H3.out he
      have HQ := Lib.hid h5
      have HJ := Lib.hid (HI.out _ (HK3.out.alloc (.cells #[.bool q3, .slice A3 n3 c3] 24)) A3 n3 c3 (h6.keep0 ((Keep.refl _ _).alloc _)) h7)
      rw [← HQ.out] at HJ
      subst he
      clear h5 h6 h7
      go_wp2_with fail
      refine HJ.out.mono ?_
      rintro e w5 ⟨S', u, rfl, hp, k5, hd, hx, h8, h9⟩
      have HF := Lib.hid (show LaidPost h c s p g S (fun M u => DenH M u v) w (.returned (.tuple #[.int .u64 (u : Int), .int .i64 0])) w5 from ⟨S', u, rfl, hp, ((HK3.out.alloc _).mono (fun _ _ hh => hh.elim)).trans k5, hd, hx, h8, h9⟩)
      clear hp k5 hd hx h8 h9
      go_wp2_with fail
      go_ret2
      unfold ApPost
      rw [if_pos rfl]
      exact HF.out
    · have l1 : (er == 0) = false := by simpa using he
      have l2 : (er != 0) = true := by simpa using he
      have HE := Lib.hid he
      clear he
      go_wp2_with fail
      go_ret2
      unfold ApPost
      rw [if_neg HE.out]
      exact ⟨rfl, HK3.out.alloc _⟩
end Go.Proofs.YtkjocmenpccooaaGreatDoor
