/-
  morainelaw07.stands: both memories are told alike: the rest of it.
-/
import Derived.Test.YtgnpeciedefeiaaStandsReg
namespace Go.Proofs.Ytgnpeciedefeiaa
open Go.RowKit

set_option maxRecDepth 100000 in
set_option maxHeartbeats 8000000 in
theorem stands_any (base p g q : Nat) (M : MemV) (L : List Nat) (w : World) (m : MemAt w p g M) (R0 : RefAt w base q M L) (ok : M.Ok) :
    Calls Try.prog 25 #[.pointer (some ⟨p, 0, none⟩), .pointer (some ⟨q, 0, none⟩)] w fun e w' => e = .returned (.bool true) ∧ Keep (fun _ => False) w w' := by
  obtain ⟨T, v, wv, R⟩ := id R0
  have hlen := T.len
  have hl : L.length ≤ 1024 := by have := sel_len M [] M.lim; have := ok.l1024; omega
  have l1024 := ok.l1024
  obtain ⟨Av, cap, rfl⟩ := R.shape
  obtain ⟨c0, c1⟩ := R.cells
  have hql := R.lt
  have facts : ∀ w' : World, Keep (fun _ => False) w w' → w'.cell? ⟨q, 0, none⟩ = some (.int .i64 (M.lim : Int)) ∧ w'.cell? ⟨q, 1, none⟩ = some (.slice Av L.length cap) ∧ Keep (fun _ => False) w w' := fun w' K => ⟨(K.cell (p := ⟨q, 0, none⟩) hql (by simp)).trans c0, (K.cell (p := ⟨q, 1, none⟩) hql (by simp)).trans c1, K⟩
  have hfree : (M.lim : Int) - (L.length : Int) = M.free := by
    have hall := count_all M ok.t0 M.lim (Nat.le_refl _)
    have hfr := ok.fr
    omega
  have hwrap : IntKind.i64.wrap ((M.lim : Int) - (L.length : Int)) = M.free := by rw [← hfree]; simp [IntKind.wrap, IntKind.signed, IntKind.bits]; omega
  have HF := Lib.hid facts
  have HT := Lib.hid T
  have HM := Lib.hid m
  have HR0 := Lib.hid R0
  have HR := Lib.hid R
  have H1 := lf_len M [0, 2] L
  have H2 := lf_len M [4] L
  have H3 := lf_len M [] L
  clear facts T R0 hfree hlen R
  go_enter Try.func25, Try.ntmps25
  go_wp2_with fail
  refine (taken_as p g M L ok HT.out w m [] none 0 0 _ (Keep.refl _ _) (IA.nil _ _) (by omega)).mono ?_
  rintro e w1 ⟨A1, ca1, rfl, I1, K1, _⟩
  go_upto_region 2 with (fail)
  refine stands_reg base p g q M L w HM.out HR0.out ok w1 A1 ca1 I1 K1 _ _ ?_
  intro u20 u21 u22 u23 u24 u25 u26 u27 u28 u29 u30 u31 u32 u33 u34 u35 u36 u37 u38 u39 u40 u41 u42 u43 u44 u45 u46 u47 u48 u49 u50 u51 u52 u53 u54 u55 u56 u57 u58 u59 u60 u61 u62 u63 u64 u65 u66 u67 wx K
  clear K1 I1
  go_wp2_with fail
  go_loopw [6] (fun i wr => ∃ k : Nat, k ≤ L.length ∧ i = .int .i64 k ∧ Keep (fun _ => False) w wr) (fun i _ => L.length - (intOf i).toNat)
  case atStart => exact ⟨0, Nat.zero_le _, rfl, K⟩
  case round =>
    obtain ⟨i, hi, rfl, K⟩ := hrel
    obtain ⟨f0, f1, _⟩ := HF.out _ K
    by_cases hil : i < L.length
    · obtain ⟨gv, capv, hv, hg0, _, hrow⟩ := HR.out.row hil
      injection hv with hv1 hv2 hv3
      subst hv1 hv3
      have hmem := HR.out.memL hil
      obtain ⟨ht1, ht2⟩ := HT.out.mem hmem
      obtain ⟨A', cap2, hwv⟩ := HR.out.wshape hmem
      have hword := fun j (hj : j < cntOf M (L.getD i 0)) => HR.out.wrow hmem hj
      have rows : ∀ (w' : World), Keep (fun _ => False) w w' → ∀ f, f < 9 → w'.cell? ⟨gv, i * 9 + f, none⟩ = some (rc M wv (L.getD i 0) f) := fun w' K f hf => (K.cell (p := ⟨gv, i * 9 + f, none⟩) hg0 (by simp)).trans (hrow f hf)
      obtain ⟨t, ht⟩ : ∃ t, t = L.getD i 0 := ⟨_, rfl⟩
      rw [← ht] at rows ht1 ht2 hwv hword
      have hc := cntOf_eq ok ht1
      have n64 := (ok.sg t ht1).n64
      obtain ⟨c, hcc⟩ : ∃ c, c = cntOf M t := ⟨_, rfl⟩
      rw [← hcc] at hwv hc hword
      have rows2 : ∀ (w' : World), Keep (fun _ => False) w w' → w'.cell? ⟨gv, i * 9, none⟩ = some (.int .i64 (t : Int)) ∧ w'.cell? ⟨gv, i * 9 + 8, none⟩ = some (.slice A' c cap2) := fun w' K => ⟨rows w' K 0 (by omega), (rows w' K 8 (by omega)).trans (by simp only [rc, hwv])⟩
      have HRows := Lib.hid rows
      have HRows2 := Lib.hid rows2
      have HWord := Lib.hid hword
      have Hwv := Lib.hid hwv
      have Hc := Lib.hid hc
      have hc64 : c ≤ 64 := by omega
      have ht1024 : t ≤ 1024 := by omega
      have hwr1 : IntKind.i64.wrap ((t : Int) * 64) = (t : Int) * 64 := by simp [IntKind.wrap, IntKind.signed, IntKind.bits]; omega
      have hwr2 : IntKind.i64.wrap ((t : Int) * 64 + (c : Int)) = (t : Int) * 64 + c := by simp [IntKind.wrap, IntKind.signed, IntKind.bits]; omega
      have ii0 : (0 : Int) ≤ (i : Int) := by omega
      have ii1 : (i : Int) < (L.length : Int) := by omega
      have Ht1 := Lib.hid ht1
      have Ht2 := Lib.hid ht2
      clear hrow hmem hwv rows rows2 ht hcc hc n64 hword ht1 ht2
      obtain ⟨r0, r8⟩ := HRows2.out _ K
      go_wp2_with fail
      refine (seg_yes2 p g M t _ _ (HM.out.keep K (by simp) (by simp)) l1024 rfl Ht1.out Ht2.out).mono ?_
      rintro e w8 ⟨rfl, k8⟩
      go_upto_region 8 with (fail)
      have K9 := (K.trans k8).alloc (.cells #[.int .i64 (M.sg t).gen, .int .i64 (M.sg t).kind, .int .i64 (M.sg t).n, .int .i64 (M.sg t).c0, .int .i64 (M.sg t).c1, .int .i64 (M.sg t).c2, .int .i64 (M.sg t).c3] 37)
      have hS : SAt (w8.alloc (.cells #[.int .i64 (M.sg t).gen, .int .i64 (M.sg t).kind, .int .i64 (M.sg t).n, .int .i64 (M.sg t).c0, .int .i64 (M.sg t).c1, .int .i64 (M.sg t).c2, .int .i64 (M.sg t).c3] 37)) w8.heap.size (M.sg t) := heap_alloc_new _ _
      generalize w8.alloc (.cells #[.int .i64 (M.sg t).gen, .int .i64 (M.sg t).kind, .int .i64 (M.sg t).n, .int .i64 (M.sg t).c0, .int .i64 (M.sg t).c1, .int .i64 (M.sg t).c2, .int .i64 (M.sg t).c3] 37) = w9 at K9 hS ⊢
      generalize w8.heap.size = sb at hS ⊢
      clear f0 f1 r0 r8 k8
      obtain ⟨s0, s1, s2, s3, s4, s5, s6⟩ := hS.cells
      obtain ⟨f0, f1, _⟩ := HF.out _ K9
      have q1 := HRows.out _ K9 1 (by omega)
      have q2 := HRows.out _ K9 2 (by omega)
      have q3 := HRows.out _ K9 3 (by omega)
      have q4 := HRows.out _ K9 4 (by omega)
      have q5 := HRows.out _ K9 5 (by omega)
      have q6 := HRows.out _ K9 6 (by omega)
      have q7 := HRows.out _ K9 7 (by omega)
      simp only [rc] at q1 q2 q3 q4 q5 q6 q7
      have hneq := fun w' => neq37 (M.sg t).gen (M.sg t).kind (M.sg t).n (M.sg t).c0 (M.sg t).c1 (M.sg t).c2 (M.sg t).c3 w'
      have heq35 := fun w' => eq35 (M.sg t).c0 (M.sg t).c1 (M.sg t).c2 (M.sg t).c3 w'
      go_quiet (fail)
      clear hneq heq35
      replace K9 := K9.drewN nq
      generalize w9.drewN nq = w10 at K9 ⊢
      clear s0 s1 s2 s3 s4 s5 s6 q1 q2 q3 q4 q5 q6 q7 f0 f1 hS
      go_wp2_with fail
      go_loopw [9] (fun j wr => ∃ k : Nat, k ≤ c ∧ j = .int .i64 k ∧ Keep (fun _ => False) w wr) (fun j _ => c - (intOf j).toNat)
      case atStart => exact ⟨0, Nat.zero_le _, rfl, K9⟩
      case round =>
        obtain ⟨j, hj, rfl, K⟩ := hrel
        obtain ⟨f0, f1, _⟩ := HF.out _ K
        obtain ⟨r0, r8⟩ := HRows2.out _ K
        by_cases hjc : j < c
        · obtain ⟨g2, cap3, hwv, hg2, _, hw⟩ := HWord.out j hjc
          rw [Hwv.out] at hwv
          injection hwv with hv1 hv2 hv3
          subst hv1 hv3
          have hw' := (K.cell (p := ⟨g2, j, none⟩) hg2 (by simp)).trans hw
          clear hw
          go_wp2_with fail
          refine (read_at p g M t j _ _ (HM.out.keep K (by simp) (by simp)) ok (by omega) Ht1.out Ht2.out (by rw [← Hc.out]; omega)).mono ?_
          rintro e w11 ⟨rfl, rfl⟩
          go_wp2_with fail
          go_roundw
          case rel => exact ⟨j + 1, by omega, by go_num, K⟩
          case measure => simp [intOf]; omega
        · obtain rfl : j = c := by omega
          by_cases hu : M.used ((t : Int) * 64 + j)
          · have hj64 : ¬ j < 64 := fun h => by
              obtain ⟨a, ha, h1, h2, h3⟩ := MemV.used_iff.1 hu
              have e1 : a / 64 = t := by omega
              rw [e1] at h3
              have := Hc.out
              omega
            obtain rfl : j = 64 := by omega
            obtain ⟨a, ha, h1, h2, h3⟩ := MemV.used_iff.1 hu
            have HRd := Lib.hid (fun (w' : World) (K' : Keep (fun _ => False) w w') => read_yes p g M a ((t : Int) * 64 + (64 : Nat)) w' (HM.out.keep K' (by simp) (by simp)) l1024 ha h1 h2 h3 (ok.sg _ h1).n64)
            clear hu ha h1 h2 h3
            go_wp2_with fail
            go_quiet ((go_at_call 21; exact Calls.quiet_of_same ((HRd.out _ (by first | exact K | exact K.drewN _)).mono fun _ _ ⟨he, hw⟩ => ⟨he, hw.symm⟩)))
            replace K := K.drewN nq
            generalize wr.drewN nq = w12 at K ⊢
            clear f0 f1 r0 r8
            obtain ⟨f0, f1, _⟩ := HF.out _ K
            obtain ⟨r0, r8⟩ := HRows2.out _ K
            go_wp2_with fail
            go_roundw
            case rel => first | exact ⟨i + 1, by omega, by go_num, K⟩ | ((repeat apply Exists.intro); exact ⟨⟨i + 1, by omega, by go_num, K⟩, rfl⟩)
            case measure => simp [intOf]; omega
          · have HRd := Lib.hid (fun (w' : World) (K' : Keep (fun _ => False) w w') => read_no p g M ((t : Int) * 64 + j) w' (HM.out.keep K' (by simp) (by simp)) l1024 ok.t0 (by omega) hu)
            clear hu
            go_wp2_with fail
            go_quiet ((go_at_call 21; exact Calls.quiet_of_same ((HRd.out _ (by first | exact K | exact K.drewN _)).mono fun _ _ ⟨he, hw⟩ => ⟨he, hw.symm⟩)))
            replace K := K.drewN nq
            generalize wr.drewN nq = w12 at K ⊢
            clear f0 f1 r0 r8
            obtain ⟨f0, f1, _⟩ := HF.out _ K
            obtain ⟨r0, r8⟩ := HRows2.out _ K
            by_cases hj64 : j < 64
            · go_wp2_with fail
              go_roundw
              case rel => first | exact ⟨i + 1, by omega, by go_num, K⟩ | ((repeat apply Exists.intro); exact ⟨⟨i + 1, by omega, by go_num, K⟩, rfl⟩)
              case measure => simp [intOf]; omega
            · go_wp2_with fail
              go_roundw
              case rel => first | exact ⟨i + 1, by omega, by go_num, K⟩ | ((repeat apply Exists.intro); exact ⟨⟨i + 1, by omega, by go_num, K⟩, rfl⟩)
              case measure => simp [intOf]; omega
    · obtain rfl : i = L.length := by omega
      have hn1 : ¬ M.has (-1) := fun h => by have := h.1; omega
      have hn2 : ¬ M.has (M.lim : Int) := fun h => by have := h.2.1; omega
      have H0 := Lib.hid ok.t0
      have HN1 := Lib.hid hn1
      have HN2 := Lib.hid hn2
      clear hn1 hn2
      go_wp2_with fail
      refine (seg_no2 p g M _ _ (HM.out.keep K (by simp) (by simp)) l1024 H0.out HN1.out).mono ?_
      rintro e w2 ⟨rfl, k2⟩
      have K2 := (K.trans k2).alloc (.cells #[.int .i64 0, .int .i64 0, .int .i64 0, .int .i64 0, .int .i64 0, .int .i64 0, .int .i64 0] 37)
      obtain ⟨d0, d1, _⟩ := HF.out _ K2
      clear f0 f1
      go_wp2_with fail
      refine (seg_no2 p g M _ _ (HM.out.keep K2 (by simp) (by simp)) l1024 H0.out HN2.out).mono ?_
      rintro e w3 ⟨rfl, k3⟩
      have K3 := (K2.trans k3).alloc (.cells #[.int .i64 0, .int .i64 0, .int .i64 0, .int .i64 0, .int .i64 0, .int .i64 0, .int .i64 0] 37)
      go_wp2_with fail
      go_ret
      exact ⟨rfl, K3⟩
end Go.Proofs.Ytgnpeciedefeiaa
