/-
  The document's memory: Write, Mark; and seg.Mem's Mark, of whatever it is asked.
-/
import Derived.Test.YtgnpeciedefeiaaRefPlace
import Derived.Test.YtgnpeciedefeiaaRefList
namespace Go.Proofs.Ytgnpeciedefeiaa
open Go.RowKit

def MarkR (M : MemV) (seg card m f : Int) (M' : MemV) : Prop :=
  (¬ M.has seg ∧ f = 19 ∧ M' = M) ∨ (M.has seg ∧ (card < 0 ∨ 4 ≤ card ∨ m < 0 ∨ 5 < m) ∧ f = 1 ∧ M' = M) ∨
  ∃ k c : Nat, seg = k ∧ k < M.lim ∧ 0 < (M.sg k).taken ∧ card = c ∧ c < 4 ∧ 0 ≤ m ∧ m ≤ 5 ∧ f = 0 ∧ M' = M.put k ((M.sg k).mark c m)
def MarkPost (p g : Nat) (M : MemV) (seg card m : Int) (w : World) (e : Ending) (w' : World) : Prop :=
  ∃ (M' : MemV) (f : Int), e = .returned (.int .i64 f) ∧ MemAt w' p g M' ∧ Keep (Mine p g) w w' ∧ M'.Ok ∧ M'.count = M.count ∧ M'.lim = M.lim ∧ MarkR M seg card m f M'

theorem mark_all (p g : Nat) (M : MemV) (seg card m : Int) (w : World) (h : MemAt w p g M) (ok : M.Ok) :
    Calls Try.prog 28 #[.pointer (some ⟨p, 0, none⟩), .int .i64 seg, .int .i64 card, .int .i64 m] w (MarkPost p g M seg card m w) := by
  by_cases hh : M.has seg
  · obtain ⟨k, hs, hk, ht⟩ := MemV.has_iff.1 hh
    by_cases bad : card < 0 ∨ 4 ≤ card ∨ m < 0 ∨ 5 < m
    · exact (mark_arg p g M k seg card m w h ok.l1024 hs hk ht bad).mono fun e w' ⟨he, hw⟩ => ⟨M, 1, he, hw ▸ h, hw ▸ Keep.refl _ _, ok, rfl, rfl, .inr (.inl ⟨hh, bad, rfl, rfl⟩)⟩
    · obtain ⟨c, rfl⟩ := Int.eq_ofNat_of_zero_le (by omega : 0 ≤ card)
      exact (mark_yes p g M k c seg _ m w h ok.l1024 hs hk ht rfl (by omega) (by omega) (by omega)).mono fun e w' ⟨he, hm, hK⟩ => ⟨_, 0, he, hm, hK, ok.put hk ((ok.sg k hk).mark (by omega) (by omega)) rfl ht, rfl, rfl, .inr (.inr ⟨k, c, hs, hk, ht, rfl, by omega, by omega, by omega, rfl, rfl⟩)⟩
  · exact (mark_no p g M seg card m w h ok.l1024 ok.t0 hh).mono fun e w' ⟨he, hw⟩ => ⟨M, 19, he, hw ▸ h, hw ▸ Keep.refl _ _, ok, rfl, rfl, .inl ⟨hh, rfl, rfl⟩⟩

def WriteRef (base q : Nat) (M : MemV) (L : List Nat) (addr u : Int) (w : World) (e : Ending) (w' : World) : Prop :=
  ∃ (M' : MemV) (f : Int), e = .returned (.int .i64 f) ∧ RefAt w' base q M' L ∧ Keep (RefS w base) w w' ∧ WriteR M addr u f M'

set_option maxHeartbeats 800000 in
theorem write_ref {w : World} {base q : Nat} {M : MemV} {L : List Nat} (R0 : RefAt w base q M L) (ok : M.Ok) (addr u : Int) (hA : addr ≤ 9223372036854775807) :
    Calls Try.prog 66 #[.pointer (some ⟨q, 0, none⟩), .int .i64 addr, .int .u64 u] w (WriteRef base q M L addr u w) := by
  obtain ⟨T, v, wv, R⟩ := id R0
  have hl : L.length ≤ 1024 := by have := T.len; have := sel_len M [] M.lim; have := ok.l1024; omega
  obtain ⟨A, cap, rfl⟩ := R.shape
  obtain ⟨c0, c1⟩ := R.cells
  go_enter Try.func66, Try.ntmps66
  go_wp2_with fail
  refine (word_ref R T ok hl _ hA).mono ?_
  rintro e w' ⟨rfl, hP⟩
  rcases hP with ⟨hn, rfl⟩ | ⟨a, i, rfl, hi, ht, hlt, rfl⟩
  · have HN := Lib.hid hn
    clear hn
    go_wp2_with fail
    go_ret
    exact ⟨M, _, rfl, R0, Keep.refl _ _, .inl ⟨HN.out, rfl, rfl⟩⟩
  · obtain ⟨g, cap', hv, hg, hf, hrow⟩ := R.row hi
    injection hv with hv1 hv2 hv3
    subst hv1 hv3
    have r8 := hrow 8 (by omega)
    simp only [rc] at r8
    have hmem := R.memL hi
    obtain ⟨ht1, ht2⟩ := T.mem (R.memL hi)
    rw [ht] at r8 hmem ht1 ht2
    obtain ⟨g2, cap2, hwv, _, hfz, hw⟩ := R.wrow hmem hlt
    have hfz2 := hfz (a % 64)
    rw [hwv] at r8
    have hc := cntOf_eq ok ht1
    have Hwv := Lib.hid hwv
    have R' := Lib.hid (R.setWord hmem hlt hwv u)
    have hS : RefS _ base g2 := R.isW hmem (b := g2) (by rw [hwv]; rfl)
    obtain ⟨c, hcc⟩ : ∃ c, c = cntOf M (a / 64) := ⟨_, rfl⟩
    rw [← hcc] at r8 hc hlt
    have Hc := Lib.hid hc
    have Ht1 := Lib.hid ht1
    have Ht2 := Lib.hid ht2
    have HS := Lib.hid hS
    have hlt2 : (a : Int) % 64 < c := by omega
    clear hcc hrow hf hwv hc ht ht1 ht2 hfz hS
    go_wp2_with fail
    go_ret
    refine ⟨M.put (a / 64) ((M.sg (a / 64)).write (a % 64) u), _, rfl, ⟨T.congr rfl (fun j => ?_), .slice (some ⟨g, 0, none⟩) L.length cap, wv, ?_⟩, (Keep.refl _ _).setCell (.inl HS.out) _, .inr ⟨a, rfl, Ht1.out, Ht2.out, by rw [← Hc.out]; omega, rfl, rfl⟩⟩
    · simp only [MemV.put]
      split
      · rename_i e; subst e; rfl
      · rfl
    · rw [cntOf_congr (M := M) (M' := M.put (a / 64) ((M.sg (a / 64)).write (a % 64) u)) (fun j => by
        simp only [MemV.put]
        split
        · rename_i e; subst e; rfl
        · rfl)]
      exact R'.out

def MarkRef (base q : Nat) (M : MemV) (L : List Nat) (seg card m : Int) (w : World) (e : Ending) (w' : World) : Prop :=
  ∃ (M' : MemV) (f : Int), e = .returned (.int .i64 f) ∧ RefAt w' base q M' L ∧ Keep (RefS w base) w w' ∧ MarkR M seg card m f M'

theorem setMark_ref {w : World} {base q : Nat} {M : MemV} {L : List Nat} {v : Value} {wv : Nat → Value} (R : RefAtN w base q M L v wv (cntOf M)) (T : TakenL M [] L) {i c : Nat} (hi : i < L.length) (hc : c < 4) {g cap : Nat} (hv : v = .slice (some ⟨g, 0, none⟩) L.length cap) (m : Int) :
    RefAt (w.setCell ⟨g, i * 9 + (4 + c), none⟩ (.int .i64 m)) base q (M.put (L.getD i 0) ((M.sg (L.getD i 0)).mark c m)) L := by
  have hsg : ∀ j, j ≠ L.getD i 0 → (M.put (L.getD i 0) ((M.sg (L.getD i 0)).mark c m)).sg j = M.sg j := fun j e => by simp only [MemV.put, if_neg e]
  have hst : (M.put (L.getD i 0) ((M.sg (L.getD i 0)).mark c m)).sg (L.getD i 0) = (M.sg (L.getD i 0)).mark c m := by simp [MemV.put]
  have hn : ∀ j, ((M.put (L.getD i 0) ((M.sg (L.getD i 0)).mark c m)).sg j).n = (M.sg j).n := fun j => by
    by_cases e : j = L.getD i 0
    · rw [e, hst]; rfl
    · rw [hsg j e]
  have hwd : ∀ j, ((M.put (L.getD i 0) ((M.sg (L.getD i 0)).mark c m)).sg j).words = (M.sg j).words := fun j => by
    by_cases e : j = L.getD i 0
    · rw [e, hst]; rfl
    · rw [hsg j e]
  refine ⟨T.congr rfl (fun j => ?_), v, wv, ?_⟩
  · by_cases e : j = L.getD i 0
    · rw [e, hst]; rfl
    · rw [hsg j e]
  · rw [cntOf_congr hn]
    refine RefAtN.setRow T R.bq R.head R.own hi (by omega) hv _ rfl ?_ ?_ ?_ R.sep
    · match c, hc with
      | 0, _ | 1, _ | 2, _ | 3, _ =>
        simp only [rc, Nat.add_zero, Nat.reduceAdd, hst]
        simp [Sg.mark]
    · intro j hj e he hne
      by_cases ej : j = L.getD i 0
      · have hec : e ≠ 4 + c := fun h => hne ⟨ej, h⟩
        subst ej
        match e, he with
        | 0, _ | 1, _ | 2, _ | 3, _ | 8, _ =>
          simp only [rc, hst]
          try simp only [Sg.mark]
        | 4, _ | 5, _ | 6, _ | 7, _ =>
          simp only [rc, hst]
          simp only [Sg.mark]
          rw [if_neg (by omega)]
      · match e, he with
        | 0, _ | 1, _ | 2, _ | 3, _ | 8, _ | 4, _ | 5, _ | 6, _ | 7, _ => simp only [rc, hsg j ej]
    · intro j hj
      have := R.words j hj
      unfold wcells at *
      rw [hwd]
      exact this

set_option maxHeartbeats 1600000 in
theorem mark_ref {w : World} {base q : Nat} {M : MemV} {L : List Nat} (R0 : RefAt w base q M L) (ok : M.Ok) (seg card m : Int) :
    Calls Try.prog 68 #[.pointer (some ⟨q, 0, none⟩), .int .i64 seg, .int .i64 card, .int .i64 m] w (MarkRef base q M L seg card m w) := by
  obtain ⟨T, v, wv, R⟩ := id R0
  have hl : L.length ≤ 1024 := by have := T.len; have := sel_len M [] M.lim; have := ok.l1024; omega
  obtain ⟨A, cap, rfl⟩ := R.shape
  obtain ⟨c0, c1⟩ := R.cells
  go_enter Try.func68, Try.ntmps68
  go_wp2_with fail
  refine (place_any R T hl _).mono ?_
  rintro e w' ⟨rfl, hP⟩
  rcases hP with ⟨hn, rfl⟩ | ⟨i, hi, hs, rfl⟩
  · have HN := Lib.hid hn
    clear hn
    go_wp2_with fail
    go_ret
    exact ⟨M, _, rfl, R0, Keep.refl _ _, .inl ⟨HN.out, rfl, rfl⟩⟩
  · have hHas : M.has seg := MemV.has_iff.2 ⟨_, hs, T.mem (R.memL hi)⟩
    have HH := Lib.hid hHas
    have Hs := Lib.hid hs
    clear hHas hs
    by_cases b1 : card < 0
    · go_wp2_with fail
      go_ret
      exact ⟨M, _, rfl, R0, Keep.refl _ _, .inr (.inl ⟨HH.out, .inl b1, rfl, rfl⟩)⟩
    · by_cases b2 : 4 ≤ card
      · go_wp2_with fail
        go_ret
        exact ⟨M, _, rfl, R0, Keep.refl _ _, .inr (.inl ⟨HH.out, .inr (.inl b2), rfl, rfl⟩)⟩
      · by_cases b3 : m < 0
        · go_wp2_with fail
          go_ret
          exact ⟨M, _, rfl, R0, Keep.refl _ _, .inr (.inl ⟨HH.out, .inr (.inr (.inl b3)), rfl, rfl⟩)⟩
        · by_cases b4 : 5 < m
          · go_wp2_with fail
            go_ret
            exact ⟨M, _, rfl, R0, Keep.refl _ _, .inr (.inl ⟨HH.out, .inr (.inr (.inr b4)), rfl, rfl⟩)⟩
          · obtain ⟨c, rfl⟩ := Int.eq_ofNat_of_zero_le (by omega : 0 ≤ card)
            obtain ⟨g, cap', hv, hg, hf, hrow⟩ := R.row hi
            injection hv with hv1 hv2 hv3
            subst hv1 hv3
            have r8 := hrow (4 + c) (by omega)
            obtain ⟨u0, hu0⟩ : ∃ u0, u0 = rc M wv (L.getD i 0) (4 + c) := ⟨_, rfl⟩
            rw [← hu0, ← Nat.add_assoc] at r8
            have hfz := hf (i * 9 + 4 + c)
            have R' := Lib.hid (setMark_ref R T hi (c := c) (by omega) rfl m)
            have hS : RefS _ base g := R.isV (b := g) rfl
            have HS := Lib.hid hS
            have HM := Lib.hid (T.mem (R.memL hi))
            clear hrow hf hS hu0
            go_wp2_with fail
            go_ret
            refine ⟨M.put (L.getD i 0) ((M.sg (L.getD i 0)).mark c m), _, rfl, ?_, (Keep.refl _ _).setCell (.inl HS.out) _, .inr (.inr ⟨_, c, Hs.out, HM.out.1, HM.out.2, rfl, by omega, by omega, by omega, rfl, rfl⟩)⟩
            rw [show i * 9 + 4 + c = i * 9 + (4 + c) from by omega]
            exact R'.out
end Go.Proofs.Ytgnpeciedefeiaa
