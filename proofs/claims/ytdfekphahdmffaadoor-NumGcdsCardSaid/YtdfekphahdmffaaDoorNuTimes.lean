/-
  num: times, Mul.
-/
import Derived.Test.YtdfekphahdmffaaDoorNuPlus
import Derived.Test.YtdfekphahdmffaaDoorTimes
namespace Go.Proofs.YtdfekphahdmffaaDoor
open Go.RowKit

/-- Limbs of a value, in memory of their own. -/
def ValPost (v : Nat) (w : World) (e : Ending) (w' : World) : Prop :=
  ∃ (A : Option Addr) (n c : Nat) (l : List Nat), e = .returned (.slice A n c) ∧ OwnR 63 .u32 w' w.heap.size A n c l ∧ Low BB l ∧ lval l = v ∧ n ≤ 30000 ∧ Keep (fun _ => False) w w'

theorem BB_sq2 : BB * BB = 18446744073709551616 := by unfold BB; rfl

set_option maxRecDepth 100000 in
set_option maxHeartbeats 4000000 in
theorem times_any (A : Option Addr) (n c : Nat) (l : List Nat) (A' : Option Addr) (n' c' : Nat) (l' : List Nat) (w : World) (h : LimbsAt w A n c l) (h' : LimbsAt w A' n' c' l') (hm : n ≤ 10000) (hm' : n' ≤ 10000) :
    Calls Tryd.prog 72 #[.slice A n c, .slice A' n' c'] w (ValPost (lval l * lval l') w) := by
  obtain ⟨N, hN⟩ : ∃ N, N = n + n' + 1 := ⟨_, rfl⟩
  have hNm : N ≤ 30000 := by omega
  have e1 : (n : Int) + (n' : Int) + 1 = (N : Int) := by omega
  have hmk := fun W : World => make_run N (by omega) W
  have own := make_own w N (by omega)
  have K : Keep (fun _ => False) w (w.alloc (.cells (madeCells #[Value.int .u32 0] N) 63)) := (Keep.refl _ _).alloc _
  have H := Lib.hid h
  have H' := Lib.hid h'
  have HN := Lib.hid hN
  have low0 : Low BB (List.replicate N 0) := by
    intro x hx
    rw [(List.mem_replicate.1 hx).2]
    have := BB2; omega
  have v0 : lval (List.replicate N 0) = 0 := val_zeros BB (fun x hx => (List.mem_replicate.1 hx).2)
  have LOW0 := Lib.hid low0
  have V0 := Lib.hid v0
  clear h h' hN low0 v0
  go_enter Tryd.func72, Tryd.ntmps72
  go_wp2_with fail
  clear hmk
  generalize hB : w.heap.size = B at own ⊢
  generalize w.alloc (.cells (madeCells #[Value.int .u32 0] N) 63) = w1 at own K ⊢
  have HB := Lib.hid hB
  clear hB e1
  go_loopw [20] (fun iv wr => ∃ (i : Nat) (M : List Nat), i ≤ n ∧ iv = .int .i64 i ∧ OwnR 63 .u32 wr B (some ⟨B, 0, none⟩) N N M ∧ Low BB M ∧ lval M = lval (l.take i) * lval l' ∧ Keep (fun _ => False) w wr) (fun iv _ => n - (intOf iv).toNat)
  case atStart => exact ⟨0, _, Nat.zero_le _, rfl, own, LOW0.out, by rw [V0.out]; simp [val], K⟩
  case round =>
    clear own K
    obtain ⟨i, M, hi, rfl, own, low, hv, K⟩ := hrel
    have OWN := Lib.hid own
    have LOW := Lib.hid low
    have HV := Lib.hid hv
    clear own low hv
    by_cases hlt : i < n
    · obtain ⟨b, off, rfl, hb, hc⟩ := (H.out.row.keep0 K).2 i hlt
      have hx := low_cast H.out.low i
      obtain ⟨x, hxx⟩ : ∃ x, x = l.getD i 0 := ⟨_, rfl⟩
      rw [← hxx] at hc hx
      have HX := Lib.hid hxx
      clear hxx hb
      go_wp2_with fail
      go_loopw [8, 28] (fun cv kv wx => ∃ (k cr : Nat) (M : List Nat), k ≤ n' + 1 ∧ kv = .int .i64 k ∧ cv = .int .u64 (cr : Int) ∧ OwnR 63 .u32 wx B (some ⟨B, 0, none⟩) N N M ∧ TimesIn BB l l' N i k M cr ∧ Keep (fun _ => False) w wx) (fun _ kv _ => n' + 1 - (intOf kv).toNat)
      case atStart => exact ⟨0, 0, M, Nat.zero_le _, rfl, rfl, OWN.out, TimesIn.start (by have := BB2; omega) OWN.out.len LOW.out HV.out, K⟩
      case round =>
        clear K hc
        obtain ⟨k, cr, M, hk, rfl, rfl, own, tin, K⟩ := hrel
        have TIN := Lib.hid tin
        by_cases hkn : k < n' + 1
        · have hik : i + k < N := by have := HN.out; omega
          obtain ⟨b1, o1, e1, _, hcm⟩ := own.row.2 (i + k) hik
          injection e1 with e1
          injection e1 with e1a e1b _
          subst e1a e1b
          rw [Nat.zero_add] at hcm
          have hbd := tin.bound H.out.low H'.out.low
          have hz := low_cast tin.low (i + k)
          have hyc := low_cast H'.out.low k
          obtain ⟨y, hyy⟩ : ∃ y, y = l'.getD k 0 := ⟨_, rfl⟩
          obtain ⟨z, hzz⟩ : ∃ z, z = M.getD (i + k) 0 := ⟨_, rfl⟩
          obtain ⟨pr, hpr⟩ : ∃ pr, pr = x * y := ⟨_, rfl⟩
          rw [← HX.out, ← hyy, ← hpr] at hbd
          rw [← hzz] at hbd hcm hz
          rw [← hyy] at hyc
          obtain ⟨hb1, hb2⟩ := hbd
          have HLQ := Lib.hid (fun (w' : World) (K' : Keep (fun _ => False) w w') (j : Nat) => limb_quiet A' n' c' l' k y w' (H'.out.keep0 K') (by omega) hyy j)
          have hm1 : (x : Int) * (y : Int) = (pr : Int) := by rw [hpr]; simp
          have hw1 : IntKind.u64.wrap (pr : Int) = (pr : Int) := wrap_u64_in (by omega) (by omega)
          have hw2 : IntKind.u64.wrap ((pr : Int) + (z : Int)) = (pr : Int) + (z : Int) := wrap_u64_in (by omega) (by omega)
          have hw3 : IntKind.u64.wrap ((pr : Int) + (z : Int) + (cr : Int)) = (pr : Int) + (z : Int) + (cr : Int) := wrap_u64_in (by omega) (by omega)
          have hw4 : IntKind.i64.wrap ((i : Int) + (k : Int)) = (i : Int) + (k : Int) := by simp [IntKind.wrap, IntKind.signed, IntKind.bits]; omega
          have ik0 : (0 : Int) ≤ (i : Int) + (k : Int) := by omega
          have ik1 : (i : Int) + (k : Int) < (N : Int) := by omega
          have ikn : ((i : Int) + (k : Int)).toNat = i + k := by omega
          have OWN2 := Lib.hid own
          have hfz := own.frozen _ _ rfl (i + k)
          have HPR := Lib.hid hpr
          have HZZ := Lib.hid hzz
          have HYY := Lib.hid hyy
          have HIK := Lib.hid hik
          clear own tin hpr hzz hyy hb1 hik
          go_wp2_with fail
          go_quiet ((go_at_call 67; exact Calls.quiet_of_same (HLQ.out _ K _)))
          have K5 := K.drewN nq
          have own5 : OwnR 63 .u32 (wr.drewN nq) B (some ⟨B, 0, none⟩) N N M := OWN2.out.keep0 ((Keep.refl _ _).drewN nq)
          have hcm5 : (wr.drewN nq).cell? ⟨B, i + k, none⟩ = some (.int .u32 (z : Int)) := hcm
          have hfz5 : (wr.drewN nq).frozen? ⟨B, i + k, none⟩ = false := hfz
          obtain ⟨Y, hY⟩ : ∃ Y, Y = pr + z + cr := ⟨_, rfl⟩
          have eY : (pr : Int) + (z : Int) + (cr : Int) = (Y : Int) := by omega
          rw [eY]
          have hd : (Y : Int) / 4294967296 = ((Y / BB : Nat) : Int) := by unfold BB; omega
          have hmod : (Y : Int) % 4294967296 = ((Y % BB : Nat) : Int) := by unfold BB; omega
          have hY64 : (Y : Int) ≤ 18446744073709551615 := by omega
          have OWN5 := Lib.hid own5
          have HYY2 := Lib.hid hY
          have HD := Lib.hid hd
          have HMOD := Lib.hid hmod
          have hik2 := HIK.out
          clear hw1 hw2 hw3 hw4 hm1 K hcm hfz own5 eY hY hd hmod HLQ hb2
          generalize wr.drewN nq = w5 at K5 hcm5 hfz5 OWN5 ⊢
          go_wp2_with fail
          go_roundw
          case rel => exact ⟨k + 1, Y / BB, _, by omega, by go_num, by rw [HD.out], by rw [HMOD.out]; exact OWN5.out.set HIK.out _, TIN.out.step (by have := BB2; omega) HIK.out (by rw [HYY2.out, HPR.out, HX.out, HYY.out, HZZ.out]) (by rw [BB_sq2]; omega), K5.setCell (p := ⟨B, i + k, none⟩) (.inr (by rw [HB.out]; exact Nat.le_refl _)) _⟩
          case measure => simp [intOf]; omega
        · obtain rfl : k = n' + 1 := by omega
          have hn : lval M = lval (l.take (i + 1)) * lval l' := by
            have ht := tin
            rw [← H'.out.len] at ht
            exact ht.next (by have := BB2; omega) H.out.low H'.out.low
          have low2 := tin.low
          have OWN3 := Lib.hid own
          have HN2 := Lib.hid hn
          have LOW2 := Lib.hid low2
          clear own tin hn low2
          go_wp2_with fail
          go_roundw
          case rel => exact ⟨i + 1, M, by omega, by go_num, OWN3.out, LOW2.out, HN2.out, K⟩
          case measure => simp [intOf]; omega
    · obtain rfl : i = n := by omega
      have hv2 := HV.out
      rw [List.take_of_length_le (by rw [H.out.len]; exact Nat.le_refl _)] at hv2
      have HV2 := Lib.hid hv2
      clear hv2
      go_wp2_with fail
      go_ret
      exact ⟨some ⟨B, 0, none⟩, N, N, M, rfl, OWN.out.mono (by rw [HB.out]; exact Nat.le_refl _), LOW.out, HV2.out, hNm, K⟩
end Go.Proofs.YtdfekphahdmffaaDoor
