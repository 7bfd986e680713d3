/-
  The document's memory: Bump.
-/
import Derived.Test.YtgnpeciedefeiaaRefPlace
import Derived.Test.YtgnpeciedefeiaaRefList
namespace Go.Proofs.Ytgnpeciedefeiaa
open Go.RowKit

theorem info29 : (Try.prog.info? 29).map (fun i => (i.zero, i.size, i.bytes)) = some (some (.int .u64 0), 1, 8) := by kernel_rfl

def BumpRef (base q : Nat) (M : MemV) (L : List Nat) (seg n : Int) (w : World) (e : Ending) (w' : World) : Prop :=
  ∃ (M' : MemV) (a f : Int), e = .returned (.tuple #[.int .i64 a, .int .i64 f]) ∧ RefAt w' base q M' L ∧ Keep (RefS w base) w w' ∧ BumpR M seg n a f M'

/-- Behind j of the words that are newly used. -/
def BumpRel (w : World) (base q : Nat) (M : MemV) (L : List Nat) (t : Nat) (wr : World) (v : Value) (j : Nat) : Prop :=
  ∃ wv, RefAtN wr base q M L v wv (fun i => if i = t then cntOf M t + j else cntOf M i) ∧ Keep (RefS w base) w wr

theorem refS_back {w w' : World} {base : Nat} (K : Keep (RefS w base) w w') {b : Nat} (h : RefS w' base b) : RefS w base b ∨ w.heap.size ≤ b := by
  by_cases hb : b < w.heap.size
  · by_cases hs : RefS w base b
    · exact .inl hs
    · obtain ⟨h0, c, t, z, e, ht⟩ := h
      rw [K.block b hb hs] at e
      exact .inl ⟨h0, c, t, z, e, ht⟩
  · exact .inr (by omega)

theorem bump_store {wr w2 : World} {base q : Nat} {M : MemV} {L : List Nat} {v : Value} {wv : Nat → Value} {t j i g cap : Nat} (T : TakenL M [] L) (ok : M.Ok)
    (R : RefAtN wr base q M L v wv (fun i => if i = t then cntOf M t + j else cntOf M i)) (hi : i < L.length) (ht : t = L.getD i 0) (hv : v = .slice (some ⟨g, 0, none⟩) L.length cap)
    (v' : Value) (hown : w2.ownsRow base 29 1 v' (cntOf M t + j + 1) (wcells (M.sg t) (cntOf M t + j) ++ [.int .u64 0])) (K : Keep (fun b => some b = (wv t).ownBlock) wr w2) (hfresh : ∀ b, v'.ownBlock = some b → (wv t).ownBlock = some b ∨ wr.heap.size ≤ b) :
    RefAtN (w2.setCell ⟨g, i * 9 + 8, none⟩ v') base q M L v (fun i => if i = t then v' else wv i) (fun i => if i = t then cntOf M t + (j + 1) else cntOf M i) := by
  have htL : t ∈ L := by rw [ht]; exact R.memL hi
  have htl := (T.mem htL).1
  have hc := cntOf_eq ok htl
  have hot := R.words t htL
  have hq : ¬ some q = (wv t).ownBlock := by
    intro e
    obtain ⟨_, c, hc⟩ := own_type hot e.symm
    rw [R.head] at hc
    injection hc with hc
    injection hc with _ hc _
    exact absurd hc (by decide)
  have hw : ∀ k ∈ L, k ≠ t → w2.ownsRow base 29 1 (wv k) (cntOf M k) (wcells (M.sg k) (cntOf M k)) := by
    intro k hk hne
    have := R.words k hk
    simp only [if_neg hne] at this
    exact own_keep K this (fun b hb e => R.sep t htL k hk (Ne.symm hne) b e.symm hb)
  refine RefAtN.setRow (M := M) (M' := M) T R.bq ((K.block q R.lt hq).trans R.head) (own_keep K R.own (fun b hb e => own_type_ne R.own hot (by decide) hb e.symm)) hi (by omega) hv v' rfl ?_ ?_ ?_ ?_
  · simp only [rc, ← ht, if_true]
  · intro k hk e he hne
    match e, he with
    | 0, _ | 1, _ | 2, _ | 3, _ | 4, _ | 5, _ | 6, _ | 7, _ => rfl
    | 8, _ =>
      simp only [rc]
      rw [if_neg (fun h => hne ⟨h.trans ht, rfl⟩)]
  · intro k hk
    by_cases e : k = t
    · subst e
      simp only [if_true]
      rw [← Nat.add_assoc, wcells_succ _ _ ((ok.sg k htl).wz _ (by omega))]
      exact hown
    · simp only [if_neg e]
      exact hw k hk e
  · intro a ha b hb hab x hx
    by_cases ea : a = t
    · by_cases eb : b = t
      · exact absurd (ea.trans eb.symm) hab
      · simp only [if_pos ea] at hx
        simp only [if_neg eb]
        intro hbx
        rcases hfresh x hx with h' | h'
        · exact R.sep t htL b hb (Ne.symm eb) x h' hbx
        · have := R.words b hb
          simp only [if_neg eb] at this
          have := (this.lt x hbx).2
          omega
    · simp only [if_neg ea] at hx
      by_cases eb : b = t
      · simp only [if_pos eb]
        intro hbx
        rcases hfresh x hbx with h' | h'
        · exact R.sep a ha t htL ea x hx h'
        · have := R.words a ha
          simp only [if_neg ea] at this
          have := (this.lt x hx).2
          omega
      · simp only [if_neg eb]
        exact R.sep a ha b hb hab x hx

theorem bump_done {wr : World} {base q : Nat} {M : MemV} {L : List Nat} {v : Value} {wv : Nat → Value} {t i g cap : Nat} {n : Nat} (T : TakenL M [] L) (ok : M.Ok)
    (R : RefAtN wr base q M L v wv (fun i => if i = t then cntOf M t + n else cntOf M i)) (hi : i < L.length) (ht : t = L.getD i 0) (hv : v = .slice (some ⟨g, 0, none⟩) L.length cap) :
    RefAt (wr.setCell ⟨g, i * 9 + 3, none⟩ (.int .i64 ((M.sg t).n + n))) base q (M.bumped t n) L := by
  have htL : t ∈ L := by rw [ht]; exact R.memL hi
  have htl := (T.mem htL).1
  have hc := cntOf_eq ok htl
  have hsg : ∀ j, j ≠ t → (M.bumped t n).sg j = M.sg j := fun j e => by simp only [MemV.bumped, MemV.put, if_neg e]
  have hst : (M.bumped t n).sg t = { M.sg t with n := (M.sg t).n + n } := by simp [MemV.bumped, MemV.put]
  have hcnt : (fun i => if i = t then cntOf M t + n else cntOf M i) = cntOf (M.bumped t n) := by
    funext k
    by_cases e : k = t
    · subst e
      rw [if_pos rfl]
      unfold cntOf at *
      rw [hst]
      simp only
      omega
    · rw [if_neg e]
      unfold cntOf
      rw [hsg k e]
  refine ⟨T.congr rfl (fun j => ?_), v, wv, ?_⟩
  · by_cases e : j = t
    · rw [e, hst]
    · rw [hsg j e]
  · rw [← hcnt]
    refine RefAtN.setRow T R.bq R.head R.own hi (by omega) hv _ rfl ?_ ?_ ?_ R.sep
    · simp only [rc, ← ht, hst]
    · intro j hj e he hne
      by_cases ej : j = t
      · subst ej
        match e, he with
        | 0, _ | 1, _ | 2, _ | 4, _ | 5, _ | 6, _ | 7, _ | 8, _ => simp only [rc, hst]
        | 3, _ => exact absurd ⟨ht, rfl⟩ hne
      · match e, he with
        | 0, _ | 1, _ | 2, _ | 3, _ | 8, _ | 4, _ | 5, _ | 6, _ | 7, _ => simp only [rc, hsg j ej]
    · intro j hj
      have := R.words j hj
      by_cases ej : j = t
      · subst ej
        unfold wcells at *
        rw [hst]
        exact this
      · rw [hsg j ej]
        exact this

set_option maxRecDepth 10000 in
set_option maxHeartbeats 3200000 in
theorem bump_ref {w : World} {base q : Nat} {M : MemV} {L : List Nat} (R0 : RefAt w base q M L) (ok : M.Ok) (seg n : Int) :
    Calls Try.prog 65 #[.pointer (some ⟨q, 0, none⟩), .int .i64 seg, .int .i64 n] w (BumpRef base q M L seg n w) := by
  obtain ⟨T, v, wv, R⟩ := id R0
  obtain ⟨i0, hi0, hz0, hz1, hz2⟩ := info_parts info29
  have hl : L.length ≤ 1024 := by have := T.len; have := sel_len M [] M.lim; have := ok.l1024; omega
  have l1024 := ok.l1024
  obtain ⟨A, cap, rfl⟩ := R.shape
  obtain ⟨c0, c1⟩ := R.cells
  go_enter Try.func65, Try.ntmps65
  go_wp2_with fail
  refine (place_any R T hl _).mono ?_
  rintro e w' ⟨rfl, hP⟩
  rcases hP with ⟨hn, rfl⟩ | ⟨i, hi, hs, rfl⟩
  · have HN := Lib.hid hn
    clear hn
    go_wp2_with fail
    go_ret2
    exact ⟨M, _, _, rfl, R0, Keep.refl _ _, .inl ⟨HN.out, rfl, rfl, rfl⟩⟩
  · have hHas : M.has seg := MemV.has_iff.2 ⟨_, hs, T.mem (R.memL hi)⟩
    have HH := Lib.hid hHas
    obtain ⟨htl, ht0⟩ := T.mem (R.memL hi)
    obtain ⟨g, cap', hv, hg, hf, hrow⟩ := R.row hi
    injection hv with hv1 hv2 hv3
    subst hv1 hv3
    have r8 := hrow 8 (by omega)
    simp only [rc] at r8
    obtain ⟨A', cap', hwv⟩ := R.wshape (R.memL hi)
    rw [hwv] at r8
    obtain ⟨t, ht⟩ : ∃ t, t = L.getD i 0 := ⟨_, rfl⟩
    rw [← ht] at r8 hs htl ht0
    have hc := cntOf_eq ok htl
    have n0 := (ok.sg t htl).n0
    have n64 := (ok.sg t htl).n64
    obtain ⟨c, hcc⟩ : ∃ c, c = cntOf M t := ⟨_, rfl⟩
    rw [← hcc] at r8 hc
    have Hs := Lib.hid hs
    have Ht := Lib.hid ht
    have Hc := Lib.hid hc
    have Hcc := Lib.hid hcc
    have Htl := Lib.hid htl
    have Ht0 := Lib.hid ht0
    have hc64 : c ≤ 64 := by omega
    clear hHas hrow hwv hcc hc hs ht htl ht0 n0 n64
    by_cases b1 : n < 1
    · go_wp2_with fail
      go_ret2
      exact ⟨M, _, _, rfl, R0, Keep.refl _ _, .inr (.inl ⟨HH.out, b1, rfl, rfl, rfl⟩)⟩
    · by_cases b2 : 64 < n
      · go_wp2_with fail
        go_ret2
        exact ⟨M, _, _, rfl, R0, Keep.refl _ _, .inr (.inr (.inl ⟨t, Hs.out, Htl.out, Ht0.out, by omega, by have := Hc.out; omega, rfl, rfl, rfl⟩))⟩
      · obtain ⟨m, rfl⟩ := Int.eq_ofNat_of_zero_le (by omega : 0 ≤ n)
        by_cases b3 : 64 < c + m
        · have b3' : (64 : Int) < (c : Int) + m := by omega
          go_wp2_with fail
          go_ret2
          exact ⟨M, _, _, rfl, R0, Keep.refl _ _, .inr (.inr (.inl ⟨t, Hs.out, Htl.out, Ht0.out, by omega, by have := Hc.out; omega, rfl, rfl, rfl⟩))⟩
        · have b3' : ¬ (64 : Int) < (c : Int) + m := by omega
          have hsb : seg ≤ 1024 ∧ 0 ≤ seg := by have := Hs.out; have := Htl.out; omega
          have hsb1 := hsb.1
          have hsb2 := hsb.2
          clear hsb
          go_wp2_with fail
          go_loopw [11] (fun i wr => ∃ j : Nat, j ≤ m ∧ i = .int .i64 j ∧ BumpRel w base q M L t wr (.slice (some ⟨g, 0, none⟩) L.length cap) j) (fun i _ => m - (intOf i).toNat)
          case atStart => exact ⟨0, by omega, rfl, wv, by rw [show (fun i => if i = t then cntOf M t + 0 else cntOf M i) = cntOf M from by funext k; by_cases e : k = t <;> simp [e]]; exact R, Keep.refl _ _⟩
          case round =>
            obtain ⟨j, hj, rfl, wv1, R1, K1⟩ := hrel
            obtain ⟨g1, cap1, hv, hg1, hf1, hrow1⟩ := R1.row hi
            injection hv with hv1 hv2 hv3
            injection hv1 with hv1
            injection hv1 with hv1 _ _
            subst hv1 hv3
            have r8 := hrow1 8 (by omega)
            have r3 := hrow1 3 (by omega)
            simp only [rc] at r8 r3
            have hmemt : t ∈ L := by rw [Ht.out]; exact R1.memL hi
            obtain ⟨A1, cap2, hwv⟩ := R1.wshape hmemt
            have hot := R1.words t hmemt
            simp only [if_true] at hwv hot
            rw [← Hcc.out] at hwv hot
            rw [← Ht.out] at r8 r3
            have hSw : ∀ b, (wv1 t).ownBlock = some b → RefS w base b ∨ w.heap.size ≤ b := fun b hb => refS_back K1 (R1.isW hmemt hb)
            have hgne : ¬ some g = (wv1 t).ownBlock := fun e => own_type_ne R1.own hot (by decide) (b := g) rfl e.symm
            have hfz8 := hf1 (i * 9 + 8)
            have hfz3 := hf1 (i * 9 + 3)
            have hbase : base ≤ wr.heap.size := by have := R1.lt; have := R1.bq; omega
            have HR1 := Lib.hid R1
            have Hwv := Lib.hid hwv
            rw [hwv] at r8
            clear hrow1 hf1 R1
            by_cases hjm : j < m
            · have hjc : c + j < 64 := by omega
              clear hfz3 r3
              go_wp2_with (at_builtin; refine wpList_append_own2 _ rfl (.tmp 54) (.tmp 55) 123 rfl base 29 i0 (.int .u64 0) 1 8 Try.underlying123 hi0 hz0 hz1 hz2 rfl (by decide) (wv1 t) (c + j) (wcells (M.sg t) (c + j)) Hwv.out.symm (hot.alloc _) ⟨wr.heap.size, 0, none⟩ 1 1 [.int .u64 0] rfl rfl (one_cell_at _ _ _) (by intro u hu; simp at hu; subst hu; rfl) (by unfold maxLen; omega) (by omega) (by simp; omega) (by decide) ?_; intro v2 w2 hown2 hgrow2 hfr2; obtain ⟨gv2, cv2, rfl, _, _⟩ := hown2.form (by omega); have K2 : Keep (fun b => some b = (wv1 t).ownBlock) wr w2 := ((Keep.refl (fun b => some b = (wv1 t).ownBlock) wr).alloc (.cells #[.int .u64 0] 29)).join (Keep.of_grown hgrow2) (fun _ _ h => h); have r82 := (K2.cell (p := ⟨g, i * 9 + 8, none⟩) hg1 hgne).trans r8; have hfz82 := (K2.frozen (p := ⟨g, i * 9 + 8, none⟩) hg1 hgne).trans hfz8; have H2 := Lib.hid hown2; have HK := Lib.hid K2; have HF := Lib.hid hfr2; clear hown2 hgrow2 K2 hfr2)
              go_roundw
              case rel => exact ⟨j + 1, by omega, by go_num, _, bump_store T ok HR1.out hi Ht.out rfl _ (by rw [← Hcc.out]; exact H2.out) HK.out (fun b hb => (HF.out b hb).imp id (fun h => Nat.le_trans (by simp) h)), (K1.join HK.out (fun b hb h => (hSw b h.symm).resolve_right (by omega))).setCell (.inl (R.isV (b := g) rfl)) _⟩
              case measure => simp [intOf]; omega
            · obtain rfl : j = m := by omega
              have hD := bump_done T ok HR1.out hi Ht.out rfl
              have HD := Lib.hid hD
              have hjc : c + j ≤ 64 := by omega
              clear hD hot
              go_wp2_with fail
              go_ret2
              refine ⟨M.bumped t j, _, _, rfl, ?_, K1.setCell (.inl (R.isV (b := g) rfl)) _, .inr (.inr (.inr ⟨t, Hs.out, Htl.out, Ht0.out, by omega, by have := Hc.out; omega, ?_, rfl, rfl⟩))⟩
              · have := HD.out
                rw [← Hc.out] at this
                exact this
              · have := Hc.out
                have := Hs.out
                omega
end Go.Proofs.Ytgnpeciedefeiaa
