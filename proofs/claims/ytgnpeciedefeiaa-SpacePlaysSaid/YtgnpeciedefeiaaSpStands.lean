/-
  morainelaw08.stands: both spaces say the same.
-/
import Derived.Test.YtgnpeciedefeiaaSpReg
import Derived.Deep.DeepCutAuto
namespace Go.Proofs.Ytgnpeciedefeiaa
open Go.RowKit

theorem taken_as0 (p g : Nat) (M : MemV) (L : List Nat) (ok : M.Ok) (T : TakenL M [] L) (w0 : World) (m : MemAt w0 p g M) (w : World) (K : Keep (fun _ => False) w0 w) :
    Calls Try.prog 22 #[.pointer (some ⟨p, 0, none⟩), .slice none 0 0] w (AsPost w0 w L) := by
  have := taken_as p g M L ok T w0 m [] none 0 0 w K (IA.nil _ _) (by omega)
  rwa [lf_nil] at this
theorem rtaken_as0 {base q : Nat} {M : MemV} {L : List Nat} (ok : M.Ok) (w0 : World) (R : RefAt w0 base q M L) (w : World) (K : Keep (fun _ => False) w0 w) :
    Calls Try.prog 61 #[.pointer (some ⟨q, 0, none⟩), .slice none 0 0] w (AsPost w0 w L) := by
  have := rtaken_as ok w0 R [] none 0 0 w K (IA.nil _ _) (by omega)
  rwa [lf_nil] at this
/-- Of one that is taken, and just where the block of the answer lies. -/
def SegW (s : Sg) (w : World) (e : Ending) (w' : World) : Prop := ∃ o, e = .returned (.tuple #[.agg #[.int .i64 s.gen, .int .i64 s.kind, .int .i64 s.n, .int .i64 s.c0, .int .i64 s.c1, .int .i64 s.c2, .int .i64 s.c3], .bool true]) ∧ w.alloc o = w'
set_option maxHeartbeats 400000 in
theorem seg_yes_w (p g : Nat) (M : MemV) (k : Nat) (w : World) (h : MemAt w p g M) (hl : M.lim ≤ 1024) (hk : k < M.lim) (ht : 0 < (M.sg k).taken) :
    Calls Try.prog 17 #[.pointer (some ⟨p, 0, none⟩), .int .i64 (k : Int)] w (SegW (M.sg k) w) := by
  have q0 := h.segs.2 k hk 0 (by omega)
  have q1 := h.segs.2 k hk 1 (by omega)
  have q2 := h.segs.2 k hk 2 (by omega)
  have q3 := h.segs.2 k hk 3 (by omega)
  have q4 := h.segs.2 k hk 4 (by omega)
  have q5 := h.segs.2 k hk 5 (by omega)
  have q6 := h.segs.2 k hk 6 (by omega)
  simp only [Sg.cell, Nat.add_zero] at q0 q1 q2 q3 q4 q5 q6
  have hg := h.segs.lt
  have hg1 : ¬ g = w.heap.size := by omega
  have hg2 : ¬ w.heap.size = g := by omega
  go_enter Try.func17, Try.ntmps17
  go_wp2_with (go_at_call 54; refine (at_yes p g M k _ _ (h.keep ((Keep.refl (fun _ => False) w).alloc _) (by simp) (by simp)) hl rfl hk ht).mono ?_; rintro e w' ⟨rfl, rfl⟩)
  exact bodyPost_ret (v := .tuple #[.agg #[.int .i64 (M.sg k).gen, .int .i64 (M.sg k).kind, .int .i64 (M.sg k).n, .int .i64 (M.sg k).c0, .int .i64 (M.sg k).c1, .int .i64 (M.sg k).c2, .int .i64 (M.sg k).c3], .bool true]) (by simp [results, Try.results17, go_sem]) rfl ⟨_, rfl, rfl⟩

theorem IA.cell {w : World} {A : Option Addr} {L : List Nat} (h : IA w A L.length (L.map (fun i : Nat => (i : Int)))) {i : Nat} (hi : i < L.length) : ∃ b off, A = some ⟨b, off, none⟩ ∧ b < w.heap.size ∧ w.cell? ⟨b, off + i, none⟩ = some (.int .i64 ((L.getD i 0 : Nat) : Int)) := by
  obtain ⟨b, off, e, hb, hc⟩ := h.h.2 i hi
  rw [getD_cast L i hi] at hc
  exact ⟨b, off, e, hb, hc⟩
theorem SAt.keep {w w' : World} {b : Nat} {s : Sg} (h : SAt w b s) (K : Keep (fun _ => False) w w') : SAt w' b s := K.heap h (by simp)

theorem sat1 (w : World) (o : Obj) (s : Sg) : SAt ((w.alloc o).alloc (.cells #[.int .i64 s.gen, .int .i64 s.kind, .int .i64 s.n, .int .i64 s.c0, .int .i64 s.c1, .int .i64 s.c2, .int .i64 s.c3] 37)).drew (w.heap.size + 1) s := by
  have := heap_alloc_new (w.alloc o) (.cells #[.int .i64 s.gen, .int .i64 s.kind, .int .i64 s.n, .int .i64 s.c0, .int .i64 s.c1, .int .i64 s.c2, .int .i64 s.c3] 37)
  show ((w.alloc o).alloc _).heap[w.heap.size + 1]? = _
  simpa using this
theorem sat2 (w : World) (o : Obj) (s : Sg) : SAt ((w.alloc (.cells #[.int .i64 s.gen, .int .i64 s.kind, .int .i64 s.n, .int .i64 s.c0, .int .i64 s.c1, .int .i64 s.c2, .int .i64 s.c3] 37)).alloc o).drew w.heap.size s := by
  show ((w.alloc _).alloc o).heap[w.heap.size]? = _
  rw [Below.heap_alloc _ _ _ (by simp)]
  exact heap_alloc_new w _
/-- What a row of the document's list tells. -/
theorem R8Raw.rows {w : World} {base r q : Nat} {M : MemV} {L : List Nat} {cv : Nat → Nat → Int} (R : R8Raw w base r q M L cv) {i t : Nat} (hi : i < L.length) (ht : t = L.getD i 0) : ∃ gv cap A' cap2, w.cell? ⟨q, 1, none⟩ = some (.slice (some ⟨gv, 0, none⟩) L.length cap) ∧ gv < w.heap.size ∧
    w.cell? ⟨gv, i * 9 + 1, none⟩ = some (.int .i64 (M.sg t).gen) ∧ w.cell? ⟨gv, i * 9 + 2, none⟩ = some (.int .i64 (M.sg t).kind) ∧ w.cell? ⟨gv, i * 9 + 3, none⟩ = some (.int .i64 (M.sg t).n) ∧ w.cell? ⟨gv, i * 9 + 4, none⟩ = some (.int .i64 (M.sg t).c0) ∧ w.cell? ⟨gv, i * 9 + 5, none⟩ = some (.int .i64 (M.sg t).c1) ∧ w.cell? ⟨gv, i * 9 + 6, none⟩ = some (.int .i64 (M.sg t).c2) ∧ w.cell? ⟨gv, i * 9 + 7, none⟩ = some (.int .i64 (M.sg t).c3) ∧
    w.cell? ⟨gv, i * 9 + 8, none⟩ = some (.slice A' (cntOf M t) cap2) ∧ ∀ j, j < cntOf M t → ∃ g2, A' = some ⟨g2, 0, none⟩ ∧ g2 < w.heap.size ∧ w.cell? ⟨g2, j, none⟩ = some (.int .u64 ((M.sg t).words j)) := by
  subst ht
  obtain ⟨T, v, wv, RN⟩ := R.ref
  obtain ⟨gv, cap, rfl, hg, _, hrow⟩ := RN.row hi
  obtain ⟨_, c1⟩ := RN.cells
  have hmem := RN.memL hi
  obtain ⟨A', cap2, hw⟩ := RN.wshape hmem
  refine ⟨gv, cap, A', cap2, c1, hg, hrow 1 (by omega), hrow 2 (by omega), hrow 3 (by omega), hrow 4 (by omega), hrow 5 (by omega), hrow 6 (by omega), hrow 7 (by omega), (hrow 8 (by omega)).trans (by simp only [rc, hw]), fun j hj => ?_⟩
  obtain ⟨g2, c2, hv, hg2, _, hc⟩ := RN.wrow hmem hj
  rw [hw] at hv
  injection hv with h1 _ _
  exact ⟨g2, h1, hg2, hc⟩

set_option maxRecDepth 100000 in
set_option maxHeartbeats 16000000 in
theorem stands8_any (base s p g r q : Nat) (S : SpV) (L : List Nat) (w : World) (h : SpAt w s p g S) (R : R8At w base r q S L) (ok : S.Ok) :
    Calls Try.prog 33 #[.pointer (some ⟨s, 0, none⟩), .pointer (some ⟨r, 0, none⟩)] w fun e w' => e = .returned (.bool true) ∧ Keep (fun _ => False) w w' := by
  have T := R.ref.taken
  have hl := R.ref.len ok.mem
  have l1024 := ok.mem.l1024
  obtain ⟨Av, cap, F⟩ := facts8 h R
  have HF := Lib.hid F
  have HT := Lib.hid T
  have HH := Lib.hid h
  have HR := Lib.hid R
  have Fd := HF.out _ (Keep.refl _ w).drew
  have F0 := HF.out _ (Keep.refl _ w)
  unfold Facts8 at F0 Fd
  obtain ⟨f0, f1, f2, f3, _⟩ := F0
  clear F T h R
  go_enter Try.func33, Try.ntmps33
  go_wp2_with fail
  go_cut [5, 6] (fun a b wx => ∃ A1 c1 A2 c2, a = .slice A1 L.length c1 ∧ b = .slice A2 L.length c2 ∧ IA wx A1 L.length (L.map (fun i : Nat => (i : Int))) ∧ IA wx A2 L.length (L.map (fun i : Nat => (i : Int))) ∧ Keep (fun _ => False) w wx)
  case first =>
    go_region_held3 (fun w' => w'.cell? ⟨s, 0, none⟩ = some (.pointer (some ⟨p, 0, none⟩)) ∧ w'.cell? ⟨r, 0, none⟩ = some (.pointer (some ⟨q, 0, none⟩)) ∧ Keep (fun _ => False) w w')
      (first | exact ⟨Fd.1, Fd.2.1, Fd.2.2.2.2⟩ | (have X := HF.out _ (by assumption); exact ⟨X.1, X.2.1, X.2.2.2.2⟩))
      (first
        | (go_at_call 22; go_split_ands; refine (taken_as0 p g S.M L ok.mem HT.out w HH.out.mem _ (by assumption)).mono ?_; rintro e w4 ⟨A1, c1, rfl, I1, K1, l1⟩)
        | (go_at_call 61; go_split_ands; refine (rtaken_as0 ok.mem w HR.out.ref _ (by assumption)).mono ?_; rintro e w5 ⟨A2, c2, rfl, I2, K2, l2⟩))
    all_goals (go_wp2_with fail; go_meet; exact ⟨A1, c1, A2, c2, rfl, rfl, by first | assumption | exact l2 _ _ _ I1, by first | assumption | exact l1 _ _ _ I2, by assumption⟩)
  case rest =>
    obtain ⟨A1, c1, A2, c2, rfl, rfl, I1, I2, K⟩ := hcut
    clear f0 f1 f2 f3 Fd
    go_upto_region 2 with (fail)
    obtain ⟨Av2, cap2, F2⟩ := facts8 (HH.out.keep0 K) (HR.out.keep0 K)
    refine stands8_reg base s p g r q S L wc (HH.out.keep0 K) (HR.out.keep0 K) ok _ A1 A2 c1 c2 Av2 cap2 F2 (Keep.refl _ _) _ _ _ _ _ _ _ _ _ _ _ _ _ _ _ _ _ _ _ _ _ _ _ _ _ _ _ _ _ _ _ _ _ _ _ _ _ _ _ _ _ _ _ _ _ _ _ _ _ _ _ _ _ _ _ _ _ _ _ _ _ _ _ _ _ _ _ _ _ _ _ _ _ _ _ _ _ _ _ _ _ _ _ _ _ _ _ _ _ _ _ _ _ _ _ _ _ _ _ _ _ _ _ _ _ _ _ _ _ _ _ _ _ _ _ _ _ _ _ _ _ _ _ _ _ _ _ _ _ _ _ _ _ _ _ _ _ _ _ _ _ _ _ _ _ _ _ _ _ _ _ _ _ _ _ _ _ _ _ _ _ _ _ _ _ _ _ _ _ _ _ _ _ _ _ _ _ _ _ _ _ _ _ _ _ _ _ _ _ _ _ _ _ _ _ _ _ _ _ _ _ _ _ _ _ _ _ _ _ _ ?_
    intro v18 v19 v20 v21 v22 v23 v24 v25 v26 v27 v28 v29 v30 v31 v32 v33 v34 v35 v36 v37 v38 v39 v40 v41 v42 v43 v44 v45 v46 v47 v48 v49 v50 v51 v52 v53 v54 v55 v56 v57 v58 v59 v60 v61 v62 v63 v64 v65 v66 v67 v68 v69 v70 v71 v72 v73 v74 v75 v76 v77 v78 v79 v80 wd Kd
    have J1 := Lib.hid (fun (w' : World) (K' : Keep (fun _ => False) wd w') (i : Nat) (hi : i < L.length) => (I1.keep0 (Kd.trans K')).cell hi)
    have J2 := Lib.hid (fun (w' : World) (K' : Keep (fun _ => False) wd w') (i : Nat) (hi : i < L.length) => (I2.keep0 (Kd.trans K')).cell hi)
    have HK := Lib.hid (fun (w' : World) (K' : Keep (fun _ => False) wd w') => (K.trans Kd).trans K')
    have Hd := Lib.hid (HH.out.keep0 (K.trans Kd))
    have Rd := Lib.hid (HR.out.keep0 (K.trans Kd))
    clear I1 I2 F2 Kd K HF HH HR
    obtain ⟨Av3, cap3, F3⟩ := facts8 Hd.out Rd.out
    have HF := Lib.hid F3
    clear F3
    go_wp2_with fail
    go_loopw [7] (fun i wr => ∃ k : Nat, k ≤ L.length ∧ i = .int .i64 k ∧ Keep (fun _ => False) wd wr) (fun i _ => L.length - (intOf i).toNat)
    case atStart => exact ⟨0, Nat.zero_le _, rfl, Keep.refl _ _⟩
    case round =>
      obtain ⟨i, hi, rfl, K⟩ := hrel
      by_cases hil : i < L.length
      · obtain ⟨b1, o1, rfl, hb1, d1⟩ := J1.out _ K i hil
        obtain ⟨b2, o2, rfl, hb2, d2⟩ := J2.out _ K i hil
        have F0 := HF.out _ K
        unfold Facts8 at F0
        obtain ⟨f0, f1, f2, f3, _⟩ := F0
        obtain ⟨ht1, ht2⟩ := HT.out.mem (getD_mem hil)
        obtain ⟨t, ht⟩ : ∃ t, t = L.getD i 0 := ⟨_, rfl⟩
        have Ht := Lib.hid ht
        rw [← ht] at d1 d2 ht1 ht2
        clear ht
        have Ht1 := Lib.hid ht1
        have Ht2 := Lib.hid ht2
        have ii0 : (0 : Int) ≤ (i : Int) := by omega
        have ii1 : (i : Int) < (L.length : Int) := by omega
        clear ht1 ht2
        go_upto_region 7 with (fail)
        go_cut [8, 9] (fun b o wx => ∃ xb : Nat, b = .pointer (some ⟨xb, 0, none⟩) ∧ o = .bool true ∧ SAt wx xb (S.M.sg t) ∧ Keep (fun _ => False) wr wx)
        case first =>
          have e1 := World.new_ne wr _ d1
          have e2 := World.new_ne wr _ f0
          have Kr : Keep (fun _ => False) wr wr.drew := (Keep.refl _ _).drew
          go_region_held3 (fun w' => w'.cell? ⟨s, 0, none⟩ = some (.pointer (some ⟨p, 0, none⟩)) ∧ w'.cell? ⟨b1, o1 + i, none⟩ = some (.int .i64 (t : Int))) (go_keep)
            ((go_at_call 17; refine (seg_yes_w p g S.M t _ ?_ l1024 Ht1.out Ht2.out).mono ?_; (exact Hd.out.mem.keep (S := fun _ => False) (K.trans (by repeat (first | exact Keep.refl _ _ | with_reducible apply Keep.drew | with_reducible apply Keep.alloc))) id id); rintro e w4 ⟨oo, rfl, rfl⟩))
          all_goals (go_wp2_with fail)
          all_goals go_meet
          all_goals refine ⟨_, rfl, rfl, ?_, (((Keep.refl _ _).alloc _).alloc _).drew⟩
          all_goals (first | exact sat1 _ _ _ | exact sat2 _ _ _)
        case rest =>
          obtain ⟨xb, rfl, rfl, hS, Kx⟩ := hcut
          have K9 := K.trans Kx
          clear d1 d2 f0 f1 f2 f3 K Kx
          have D1 := J1.out _ K9 i hil
          have D2 := J2.out _ K9 i hil
          obtain ⟨b1', o1', e1, _, d1⟩ := D1
          obtain ⟨b2', o2', e2, _, d2⟩ := D2
          injection e1 with e1; injection e1 with e1a e1b _; subst e1a e1b
          injection e2 with e2; injection e2 with e2a e2b _; subst e2a e2b
          rw [← Ht.out] at d1 d2
          have r1 := (Rd.out.keep0 K9).ptr
          obtain ⟨gv, capv, A', cap4, q0, _, q1, q2, q3, q4, q5, q6, q7, q8, hw⟩ := (Rd.out.keep0 K9).rows hil Ht.out
          have HW := Lib.hid (fun (w' : World) (K' : Keep (fun _ => False) wd w') => (Rd.out.keep0 K').rows hil Ht.out)
          obtain ⟨s0, s1, s2, s3, s4, s5, s6⟩ := hS.cells
          have hneq := fun w' => neq37 (S.M.sg t).gen (S.M.sg t).kind (S.M.sg t).n (S.M.sg t).c0 (S.M.sg t).c1 (S.M.sg t).c2 (S.M.sg t).c3 w'
          have heq35 := fun w' => eq35 (S.M.sg t).c0 (S.M.sg t).c1 (S.M.sg t).c2 (S.M.sg t).c3 w'
          clear hw q8
          go_wp2_with fail
          go_quiet (fail)
          clear hneq heq35 s0 s1 s2 s3 s4 s5 s6 q0 q1 q2 q3 q4 q5 q6 q7 r1 d1 d2
          replace K9 := K9.drewN nq
          have hS2 : SAt (wc.drewN nq) xb (S.M.sg t) := hS
          clear hS
          generalize wc.drewN nq = w10 at K9 hS2 ⊢
          have hcn := cntOf_eq ok.mem Ht1.out
          have n64 := (ok.mem.sg t Ht1.out).n64
          obtain ⟨c, hc⟩ : ∃ c, c = cntOf S.M t := ⟨_, rfl⟩
          rw [← hc] at hcn
          have Hc := Lib.hid hc
          have Hcn := Lib.hid hcn
          have hc64 : c ≤ 64 := by omega
          have ht1024 : t ≤ 1024 := by have := Ht1.out; omega
          have hwr1 : IntKind.i64.wrap (64 * (t : Int)) = 64 * (t : Int) := by simp [IntKind.wrap, IntKind.signed, IntKind.bits]; omega
          have HS := Lib.hid (fun (w' : World) (K' : Keep (fun _ => False) w10 w') => (show w'.cell? ⟨xb, 2, none⟩ = some (.int .i64 (c : Int)) by rw [hcn]; exact (hS2.keep K').cells.2.2.1))
          have HD := Lib.hid (fun (w' : World) (K' : Keep (fun _ => False) wd w') => (show w'.cell? ⟨b1, o1 + i, none⟩ = some (.int .i64 (t : Int)) by
            obtain ⟨b1', o1', e1, _, d1⟩ := J1.out _ K' i hil
            injection e1 with e1; injection e1 with e1a e1b _; subst e1a e1b
            rw [← Ht.out] at d1
            exact d1))
          clear hc hcn n64 hS2
          go_wp2_with fail
          go_loopw [10] (fun j wx => ∃ k : Nat, k ≤ c ∧ j = .int .i64 k ∧ Keep (fun _ => False) w10 wx) (fun j _ => c - (intOf j).toNat)
          case atStart => exact ⟨0, Nat.zero_le _, rfl, Keep.refl _ _⟩
          case round =>
            obtain ⟨j, hj, rfl, Kj⟩ := hrel
            have KK := K9.trans Kj
            have s2 := HS.out _ Kj
            by_cases hjc : j < c
            · have d1 := HD.out _ KK
              have p1 := (Hd.out.keep0 KK).ptr
              have hwr2 : IntKind.i64.wrap (64 * (t : Int) + (j : Int)) = 64 * (t : Int) + (j : Int) := by simp [IntKind.wrap, IntKind.signed, IntKind.bits]; omega
              have HRd := Lib.hid (fun (w' : World) (K' : Keep (fun _ => False) wd w') => read_at p g S.M t j (64 * (t : Int) + (j : Int)) w' (Hd.out.keep0 K').mem ok.mem (by omega) Ht1.out Ht2.out (by rw [← Hcn.out]; omega))
              go_wp2_with fail
              go_quiet ((go_at_call 21; exact Calls.quiet_of_same ((HRd.out _ (by first | exact KK | exact KK.drewN _)).mono fun _ _ ⟨he, hw⟩ => ⟨he, hw.symm⟩)))
              replace KK := KK.drewN nq
              replace Kj := Kj.drewN nq
              clear s2 d1 p1 HRd hwr2
              generalize wr.drewN nq = w12 at KK Kj ⊢
              have r1 := (Rd.out.keep0 KK).ptr
              obtain ⟨gv, capv, A', cap4, q0, _, _, _, _, _, _, _, _, q8, hw⟩ := HW.out _ KK
              rw [← Hc.out] at q8 hw
              obtain ⟨g2, rfl, _, hw2⟩ := hw j hjc
              clear hw
              go_wp2_with fail
              go_roundw
              case rel => first | exact ⟨j + 1, by omega, by go_num, Kj⟩ | ((repeat apply Exists.intro); exact ⟨⟨j + 1, by omega, by go_num, Kj⟩, rfl⟩)
              case measure => simp [intOf]; omega
            · obtain rfl : j = c := by omega
              go_wp2_with fail
              go_roundw
              case rel => first | exact ⟨i + 1, by omega, by go_num, KK⟩ | ((repeat apply Exists.intro); exact ⟨⟨i + 1, by omega, by go_num, KK⟩, rfl⟩)
              case measure => simp [intOf]; omega
      · obtain rfl : i = L.length := by omega
        have KF := Lib.hid (HK.out _ K)
        have Sd := Lib.hid (Hd.out.keep0 K)
        have Sr := Lib.hid (Rd.out.keep0 K)
        clear J1 J2 HK Hd Rd HF HT K
        go_wp2_with fail
        go_loop [13, 14, 15, 16, 17] (fun i _ _ _ _ => ∃ z : Int, -1 ≤ z ∧ z ≤ 6 ∧ i = .int .i64 z) (fun i _ _ _ _ => (6 - intOf i).toNat)
        case atStart => exact ⟨-1, by omega, by omega, rfl⟩
        case round =>
          obtain ⟨z, hz0, hz1, rfl⟩ := hrel
          by_cases hz : z ≤ 5
          · go_wp2_with fail
            go_loop [14, 15, 16, 17] (fun i _ _ _ => ∃ y : Int, -1 ≤ y ∧ y ≤ 5 ∧ i = .int .i64 y) (fun i _ _ _ => (5 - intOf i).toNat)
            case atStart => exact ⟨-1, by omega, by omega, rfl⟩
            case round =>
              obtain ⟨y, hy0, hy1, rfl⟩ := hrel
              by_cases hy : y ≤ 4
              · by_cases a1 : z < 0
                · go_wp2_with fail
                  refine (current_bad z y _ _ s rfl (by omega)).mono ?_
                  rintro e w9 ⟨rfl, rfl⟩
                  go_wp2_with fail
                  go_round
                  case rel => exact ⟨y + 1, by omega, by omega, rfl⟩
                  case measure => simp [intOf]; omega
                by_cases a2 : 4 < z
                · go_wp2_with fail
                  refine (current_bad z y _ _ s rfl (by omega)).mono ?_
                  rintro e w9 ⟨rfl, rfl⟩
                  go_wp2_with fail
                  go_round
                  case rel => exact ⟨y + 1, by omega, by omega, rfl⟩
                  case measure => simp [intOf]; omega
                by_cases a3 : y < 0
                · go_wp2_with fail
                  refine (current_bad z y _ _ s rfl (by omega)).mono ?_
                  rintro e w9 ⟨rfl, rfl⟩
                  go_wp2_with fail
                  go_round
                  case rel => exact ⟨y + 1, by omega, by omega, rfl⟩
                  case measure => simp [intOf]; omega
                by_cases a4 : 3 < y
                · go_wp2_with fail
                  refine (current_bad z y _ _ s rfl (by omega)).mono ?_
                  rintro e w9 ⟨rfl, rfl⟩
                  go_wp2_with fail
                  go_round
                  case rel => exact ⟨y + 1, by omega, by omega, rfl⟩
                  case measure => simp [intOf]; omega
                obtain ⟨a, rfl⟩ := Int.eq_ofNat_of_zero_le (by omega : 0 ≤ z)
                obtain ⟨b, rfl⟩ := Int.eq_ofNat_of_zero_le (by omega : 0 ≤ y)
                have ha : a < 5 := by omega
                have hb : b < 4 := by omega
                have cr := Sr.out.cur a b ha hb
                rcases ok.cur a b ha hb with c0 | ⟨t, ct, ht, _⟩
                · rw [c0] at cr
                  have C0 := Lib.hid c0
                  clear c0
                  go_wp2_with fail
                  refine (current_zero Sd.out rfl rfl ha hb C0.out).mono ?_
                  rintro e w9 ⟨rfl, rfl⟩
                  go_wp2_with fail
                  go_round
                  case rel => exact ⟨(b : Int) + 1, by omega, by omega, rfl⟩
                  case measure => simp [intOf]; omega
                · have e1 : S.cur a b - 1 = (t : Int) := by omega
                  simp only [e1] at cr
                  have Ct := Lib.hid ct
                  have tz : decide (0 ≤ (t : Int)) = true := by simp
                  clear ct e1
                  go_wp2_with fail
                  refine (current_some Sd.out rfl rfl ha hb Ct.out (by omega)).mono ?_
                  rintro e w9 ⟨rfl, rfl⟩
                  go_wp2_with fail
                  go_round
                  case rel => exact ⟨(b : Int) + 1, by omega, by omega, rfl⟩
                  case measure => simp [intOf]; omega
              · obtain rfl : y = 5 := by omega
                go_wp2_with fail
                go_round
                case rel => exact ⟨z + 1, by omega, by omega, rfl⟩
                case measure => simp [intOf]; omega
          · obtain rfl : z = 6 := by omega
            go_wp2_with fail
            go_ret
            exact ⟨rfl, KF.out⟩
end Go.Proofs.Ytgnpeciedefeiaa
