/-
  Things on the heap: put, and Make.
-/
import Derived.Test.YtkjocmenpccooaaGreatDoorHpW
namespace Go.Proofs.YtkjocmenpccooaaGreatDoor
open Go.RowKit

/-- A heap: its own block, its cards', its space's, its memory's. -/
structure HpAt (w : World) (h c s p g : Nat) (S : SpV) : Prop where
  head : w.heap[h]? = some (.cells #[.pointer (some ⟨c, 0, none⟩), .slice none 0 0, .slice none 0 0, .int .u64 0] 58 (0, 0))
  cd : CdAt w c s p g S
  ok : S.Ok
  cnt : S.M.count ≤ 1000
  hc : h ≠ s ∧ h ≠ p ∧ h ≠ g ∧ c ≠ s ∧ c ≠ p ∧ c ≠ g
namespace HpAt
variable {w w' : World} {h c s p g : Nat} {S S' : SpV}
theorem keep {T : Nat → Prop} (H : HpAt w h c s p g S) (k : Keep T w w') (hh : ¬ T h) (hc : ¬ T c) (hs : ¬ T s) (hp : ¬ T p) (hg : ¬ T g) : HpAt w' h c s p g S :=
  ⟨k.heap H.head hh, H.cd.keep k hc hs hp hg, H.ok, H.cnt, H.hc⟩
theorem keep0 (H : HpAt w h c s p g S) (k : Keep (fun _ => False) w w') : HpAt w' h c s p g S := H.keep k id id id id id
theorem ptrs (H : HpAt w h c s p g S) : w.cell? ⟨h, 0, none⟩ = some (.pointer (some ⟨c, 0, none⟩)) ∧ w.cell? ⟨c, 0, none⟩ = some (.pointer (some ⟨s, 0, none⟩)) ∧ w.cell? ⟨s, 0, none⟩ = some (.pointer (some ⟨p, 0, none⟩)) :=
  ⟨by rw [cell_of_row w h 0 _ _ _ H.head]; rfl, H.cd.ptr, H.cd.sp.ptr⟩
theorem into (H : HpAt w h c s p g S) (k : Keep (MineS s p g) w w') (h' : SpAt w' s p g S') (ok : S'.Ok) (cnt : S'.M.count ≤ 1000) : HpAt w' h c s p g S' := by
  have n := H.hc
  refine ⟨k.heap H.head ?_, ⟨k.heap H.cd.head ?_, h'⟩, ok, cnt, n⟩
  · rintro (e | e | e)
    · exact n.1 e
    · exact n.2.1 e
    · exact n.2.2.1 e
  · rintro (e | e | e)
    · exact n.2.2.2.1 e
    · exact n.2.2.2.2.1 e
    · exact n.2.2.2.2.2 e
end HpAt
set_option maxHeartbeats 1000000 in
theorem none_any {w : World} {h c s p g : Nat} {S : SpV} (H : HpAt w h c s p g S) : Calls Tryz.prog 100 #[.pointer (some ⟨h, 0, none⟩)] w (fun e w' => e = .returned (.bool false) ∧ w = w') := by
  obtain ⟨p1, p2, p3⟩ := H.ptrs
  clear H
  go_enter Tryz.func100, Tryz.ntmps100
  go_wp2_with fail
  go_ret
  exact ⟨rfl, rfl⟩
/-- What put answers. -/
def PutPost (h c s p g : Nat) (S : SpV) (k : Int) (ws : List Nat) (w : World) (e : Ending) (w' : World) : Prop :=
  ∃ (S' : SpV) (a : Nat), e = .returned (.tuple #[.int .u64 ((a * 8 + 3 : Nat) : Int), .int .i64 0]) ∧ HpAt w' h c s p g S' ∧ Keep (MineS s p g) w w' ∧ At S'.M k a ws ∧ Ext S.M S'.M ∧ S.M.free - 1 ≤ S'.M.free ∧ S'.M.count ≤ S.M.count + 1 ∧ a < 65536
/-- Where put stands: some words are written. -/
structure PutSt (w : World) (h c s p g : Nat) (S : SpV) (k : Int) (a : Nat) (ws : List Nat) (i : Nat) (S' : SpV) (wr : World) : Prop where
  sp : SpAt wr s p g S'
  ok : S'.Ok
  ar : Area S.M S'.M k a ws.length (ws.take i)
  K : Keep (MineS s p g) w wr
  fr : S.M.free - 1 ≤ S'.M.free
  ct : S'.M.count ≤ S.M.count + 1
theorem PutSt.next {w : World} {h c s p g : Nat} {S : SpV} {k : Int} {a : Nat} {ws : List Nat} {i : Nat} {S' : SpV} {wr w2 : World} (P : PutSt w h c s p g S k a ws i S' wr) (hi : i < ws.length) (hw : ws[i] ≤ 18446744073709551615)
    (m : MemAt w2 p g (S'.M.put ((a + i) / 64) ((S'.M.sg ((a + i) / 64)).write ((a + i) % 64) (ws[i] : Int)))) (K : Keep (Mine p g) wr w2) : PutSt w h c s p g S k a ws (i + 1) { S' with M := S'.M.put ((a + i) / 64) ((S'.M.sg ((a + i) / 64)).write ((a + i) % 64) (ws[i] : Int)) } w2 := by
  have sok := P.ok.mem.sg (a / 64) P.ar.q
  have hr := P.ar.room
  have n64 := sok.n64
  have hl : (ws.take i).length = i := by rw [List.length_take]; omega
  have hd : (a + i) / 64 = a / 64 := by omega
  have hm : (a + i) % 64 = a % 64 + i := by omega
  have har := P.ar.write (u := ws[i]) (by rw [hl]; exact hi)
  rw [hl] at har
  rw [hd, hm] at m ⊢
  refine ⟨P.sp.keepM K m, P.ok.put (P.ok.mem.put P.ar.q (sok.write ?_ (by omega) (by omega)) rfl P.ar.tk) rfl rfl rfl, ?_, P.K.trans K.mineS, P.fr, P.ct⟩
  · show ((a % 64 + i : Nat) : Int) < _
    omega
  · rw [List.take_succ_eq_append_getElem hi]
    exact har
set_option maxRecDepth 100000 in
set_option maxHeartbeats 4000000 in
theorem put_any {w : World} {h c s p g : Nat} {S : SpV} (H : HpAt w h c s p g S) (k : Int) (hk : k = 2 ∨ k = 3) (A : Option Addr) (n cp : Nat) (ws : List Nat) (hr : RowAt .u64 w A n ws) (hA : ∀ b off, A = some ⟨b, off, none⟩ → ¬ MineS s p g b)
    (hn : 1 ≤ n ∧ n ≤ 63) (hw : ∀ i (hi : i < ws.length), ws[i] ≤ 18446744073709551615) (hf : 0 < S.M.free) (hc : S.M.count < 1000) : Calls Tryz.prog 57 #[.pointer (some ⟨h, 0, none⟩), .int .i64 k, .int .i64 3, .slice A n cp] w (PutPost h c s p g S k ws w) := by
  have HH := Lib.hid H
  have HR := Lib.hid hr
  have HA := Lib.hid hA
  have HW := Lib.hid hw
  have HF := Lib.hid hf
  have HC := Lib.hid hc
  have HLN := Lib.hid hr.1
  have may : May8 0 k n := ⟨by omega, by omega, .inr ⟨hk, by omega, by omega⟩⟩
  have HM := Lib.hid may
  have HNO := Lib.hid (none_any H)
  have HAL := Lib.hid (alloc_any H.cd.sp H.ok (by have := H.cnt; omega) 0 k n)
  obtain ⟨p1, p2, p3⟩ := H.ptrs
  have HN := Lib.hid hn
  clear H hr hA hw hf hc may hk
  go_enter Tryz.func57, Tryz.ntmps57
  go_wp2_with fail
  refine HNO.out.mono ?_
  rintro e w1 ⟨rfl, rfl⟩
  go_wp2_with fail
  refine HAL.out.mono ?_
  rintro e w1 ⟨S1, a', f', rfl, h1, k1, ok1, ct1, lim1, al⟩
  obtain ⟨a, rfl, rfl, ha, har, hfr⟩ := alloc_area HH.out.ok al HM.out HF.out
  have HST : Hid (PutSt w h c s p g S k a ws 0 S1 w1) := Lib.hid ⟨h1, ok1, by rw [HLN.out]; exact har, k1, hfr, ct1⟩
  have ha2 : a < 65536 := by have := HH.out.ok.mem.l1024; omega
  have HAA := Lib.hid ha2
  clear h1 k1 ok1 ct1 lim1 al ha har hfr p1 p2 p3 ha2
  go_wp2_with fail
  go_loopw [35] (fun iv wr => ∃ (i : Nat) (S' : SpV), i ≤ n ∧ iv = .int .i64 (i : Int) ∧ PutSt w h c s p g S k a ws i S' wr) (fun iv _ => n - (intOf iv).toNat)
  case atStart => exact ⟨0, S1, Nat.zero_le _, rfl, HST.out⟩
  case round =>
    obtain ⟨i, S', hi, rfl, hst⟩ := hrel
    have HS := Lib.hid hst
    clear hst
    by_cases h4 : i < n
    · have l1 : decide ((i : Int) < (n : Int)) = true := decide_eq_true (by omega)
      have l2 : decide (i < n) = true := decide_eq_true h4
      have hiw : i < ws.length := by rw [HLN.out]; exact h4
      obtain ⟨b, off, hAe, hb, hcell⟩ := HR.out.2 i h4
      have hcell2 : wr.cell? ⟨b, off + i, none⟩ = some (.int .u64 ((ws.getD i 0 : Nat) : Int)) := (HS.out.K.cell (p := ⟨b, off + i, none⟩) hb (HA.out b off hAe)).trans hcell
      obtain ⟨u, hu⟩ : ∃ u, u = ws.getD i 0 := ⟨_, rfl⟩
      rw [← hu] at hcell2
      have hge : ws.getD i 0 = ws[i] := by rw [List.getD_eq_getElem?_getD, List.getElem?_eq_getElem hiw]; rfl
      have HU := Lib.hid (hu.trans hge)
      obtain ⟨p1, p2, p3⟩ := (HH.out.into HS.out.K HS.out.sp HS.out.ok (by have := HS.out.ct; have := HC.out; omega)).ptrs
      have HWR := Lib.hid (fun (ad : Int) (had : ad = ((a + i : Nat) : Int)) => write_yes p g S'.M (a + i) ad (u : Int) wr HS.out.sp.mem HS.out.ok.mem.l1024 had (by
          have := HS.out.ar.q; have := HS.out.ar.room; have := (HS.out.ok.mem.sg _ HS.out.ar.q).n64; rw [show (a + i) / 64 = a / 64 from by omega]; exact HS.out.ar.q) (by
          have := HS.out.ar.room; have := (HS.out.ok.mem.sg _ HS.out.ar.q).n64; rw [show (a + i) / 64 = a / 64 from by omega]; exact HS.out.ar.tk) (by
          have := HS.out.ar.room; have := (HS.out.ok.mem.sg _ HS.out.ar.q).n64; rw [show (a + i) / 64 = a / 64 from by omega]; omega) (by
          have := HS.out.ar.room; have := (HS.out.ok.mem.sg _ HS.out.ar.q).n64; rw [show (a + i) / 64 = a / 64 from by omega]; omega))
      have HIW := Lib.hid hiw
      subst hAe
      clear hb hcell hu hge
      go_wp2_with fail
      refine (HWR.out _ (by have := HAA.out; unfold wrap64; push_cast; omega)).mono ?_
      rintro e w2 ⟨rfl, m2, k2⟩
      have HN2 := Lib.hid (HS.out.next HIW.out (HW.out i HIW.out) (by rw [← HU.out]; exact m2) k2)
      clear m2 k2 p1 p2 p3 hcell2
      go_wp2_with fail
      go_roundw
      case rel => exact ⟨i + 1, _, by omega, by go_num, HN2.out⟩
      case measure => simp only [intOf]; omega
    · have hie : i = n := by omega
      subst hie
      have l1 : decide ((i : Int) < (i : Int)) = false := decide_eq_false (by omega)
      have HAT := Lib.hid (wat_any a 3 wr HAA.out (.inr (.inr (.inl rfl))))
      go_wp2_with fail
      refine HAT.out.mono ?_
      rintro e w2 ⟨rfl, rfl⟩
      go_wp2_with fail
      go_ret2
      have har := HS.out.ar
      rw [show ws.take i = ws from by rw [← HLN.out]; exact List.take_length] at har
      exact ⟨S', a, rfl, HH.out.into HS.out.K HS.out.sp HS.out.ok (by have := HS.out.ct; have := HC.out; omega), HS.out.K, (har.done rfl).1, (har.done rfl).2, HS.out.fr, HS.out.ct, HAA.out⟩
end Go.Proofs.YtkjocmenpccooaaGreatDoor
