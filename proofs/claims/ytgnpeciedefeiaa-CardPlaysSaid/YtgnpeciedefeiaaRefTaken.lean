/-
  The document's memory: Taken.
-/
import Derived.Test.YtgnpeciedefeiaaRefPlace
import Derived.Test.YtgnpeciedefeiaaRefList
import Derived.BigQuiet
namespace Go.Proofs.Ytgnpeciedefeiaa
open Go.RowKit

def TakenRef (base q : Nat) (M : MemV) (L : List Nat) (gs : List Int) (w : World) (e : Ending) (w' : World) : Prop :=
  ∃ (A : Option Addr) (c : Nat) (L' : List Nat), e = .returned (.slice A L'.length c) ∧ IntsAt w' A L'.length (L'.map (fun i : Nat => (i : Int))) ∧ TakenL M gs L' ∧ RefAt w' base q M L ∧ Keep (fun _ => False) w w'

/-- Is it asked for? -/
def askB (M : MemV) (gs : List Int) (i : Nat) : Bool := decide (gs.length = 0) || hasB gs (M.sg i).gen
theorem hasB_take (gs : List Int) (x : Int) (j : Nat) (hj : j < gs.length) : hasB (gs.take (j + 1)) x = (hasB (gs.take j) x || (gs.getD j 0 == x)) := by
  rw [Bool.eq_iff_iff, Bool.or_eq_true, hasB_iff, hasB_iff, beq_iff_eq, List.take_succ_eq_append_getElem hj, List.mem_append, List.mem_singleton, List.getD_eq_getElem?_getD, List.getElem?_eq_getElem hj]
  exact ⟨fun h => h.imp id Eq.symm, fun h => h.imp id Eq.symm⟩
theorem filter_succ (L : List Nat) (p : Nat → Bool) (k : Nat) (hk : k < L.length) : (L.take (k + 1)).filter p = (L.take k).filter p ++ if p (L.getD k 0) = true then [L.getD k 0] else [] := by
  rw [List.take_succ_eq_append_getElem hk, List.filter_append, List.getD_eq_getElem?_getD, List.getElem?_eq_getElem hk]
  simp only [Option.getD_some, List.filter_cons, List.filter_nil]
theorem filter_len (L : List Nat) (p : Nat → Bool) (k : Nat) : ((L.take k).filter p).length ≤ L.length := Nat.le_trans (List.length_filter_le _ _) (by rw [List.length_take]; omega)

theorem ints_of_own {w : World} {B : Nat} {v : Value} {l : List Nat} (h : w.ownsRow B 3 1 v l.length (cellsL l)) : ∃ A c, v = .slice A l.length c ∧ IntsAt w A l.length (l.map (fun i : Nat => (i : Int))) := by
  obtain ⟨A, c, rfl⟩ := own_shape h
  refine ⟨A, c, rfl, by simp, fun j hj => ?_⟩
  obtain ⟨g, c', hv, _, hlt⟩ := h.form (by omega)
  injection hv with h1 _ h3
  subst h1 h3
  refine ⟨g, 0, rfl, hlt, ?_⟩
  rw [Nat.zero_add, h.cellAt j (by omega)]
  simp [cellsL, List.getElem?_map, List.getElem?_eq_getElem hj]

set_option maxRecDepth 10000 in
set_option maxHeartbeats 1600000 in
theorem taken_ref {w : World} {base q : Nat} {M : MemV} {L : List Nat} (R0 : RefAt w base q M L) (ok : M.Ok) (A : Option Addr) (n c : Nat) (gs : List Int) (hg : IntsAt w A n gs) (hn : n ≤ 1000000) :
    Calls Try.prog 61 #[.pointer (some ⟨q, 0, none⟩), .slice A n c] w (TakenRef base q M L gs w) := by
  obtain ⟨T, v, wv, R⟩ := id R0
  obtain ⟨i0, hi, hz0, hz1, hz2⟩ := info_parts info3
  have hl : L.length ≤ 1024 := by have := T.len; have := sel_len M [] M.lim; have := ok.l1024; omega
  obtain ⟨Av, cap, rfl⟩ := R.shape
  obtain ⟨c0, c1⟩ := R.cells
  have hgn := hg.1
  have F := Lib.hid (T.filter gs)
  have HR0 := Lib.hid R0
  clear R0
  go_enter Try.func61, Try.ntmps61
  go_wp2_with fail
  go_loopw [5, 6] (fun l i wr => ∃ k : Nat, k ≤ L.length ∧ i = .int .i64 k ∧ Keep (fun _ => False) w wr ∧ wr.ownsRow w.heap.size 3 1 l ((L.take k).filter (askB M gs)).length (cellsL ((L.take k).filter (askB M gs)))) (fun _ i _ => L.length - (intOf i).toNat)
  case atStart => exact ⟨0, Nat.zero_le _, rfl, Keep.refl _ _, World.ownsRow_nil _ _ _ _⟩
  case round =>
    obtain ⟨k, hk, rfl, K, hown⟩ := hrel
    have c1' := (K.cell (p := ⟨q, 1, none⟩) R.lt (by simp)).trans c1
    by_cases hlt : k < L.length
    · obtain ⟨g, cap', hv, hg0, hf, hrow⟩ := R.row hlt
      injection hv with hv1 hv2 hv3
      subst hv1 hv3
      have r0 := (K.cell (p := ⟨g, k * 9 + 0, none⟩) hg0 (by simp)).trans (hrow 0 (by omega))
      have r1 := (K.cell (p := ⟨g, k * 9 + 1, none⟩) hg0 (by simp)).trans (hrow 1 (by omega))
      simp only [rc, Nat.add_zero] at r0 r1
      have hsucc := filter_succ L (askB M gs) k hlt
      obtain ⟨t, ht⟩ : ∃ t, t = L.getD k 0 := ⟨_, rfl⟩
      rw [← ht] at r0 r1 hsucc
      have Ht := Lib.hid ht
      have Hsucc := Lib.hid hsucc
      have Hown := Lib.hid hown
      have hflen := filter_len L (askB M gs) k
      obtain ⟨lk, hlk⟩ : ∃ lk, lk = (L.take k).filter (askB M gs) := ⟨_, rfl⟩
      have Hlk := Lib.hid hlk
      rw [← hlk] at hflen
      obtain ⟨z, hz⟩ : ∃ z, z = decide (gs.length = 0) := ⟨_, rfl⟩
      have hz' : ((n : Int) == 0) = z := by rw [hz, hgn, Bool.eq_iff_iff, beq_iff_eq, decide_eq_true_iff]; omega
      have Hz := Lib.hid hz
      clear ht hrow hf hsucc hown hlk hz
      go_wp2_with fail
      go_loopw [7, 8] (fun b i wr => ∃ j : Nat, j ≤ n ∧ i = .int .i64 j ∧ b = .bool (z || hasB (gs.take j) (M.sg t).gen) ∧ Keep (fun _ => False) w wr ∧ wr.ownsRow w.heap.size 3 1 u5 lk.length (cellsL lk)) (fun _ i _ => n - (intOf i).toNat)
      case atStart => exact ⟨0, by omega, rfl, by simp [hasB], K, by rw [Hlk.out]; exact Hown.out⟩
      case round =>
        obtain ⟨j, hj, rfl, rfl, K, hown⟩ := hrel
        clear c1' r0 r1
        have c1' := (K.cell (p := ⟨q, 1, none⟩) R.lt (by simp)).trans c1
        obtain ⟨g', cap2, hv, _, _, hrow⟩ := R.row hlt
        injection hv with hv1 hv2 hv3
        injection hv1 with hv1
        injection hv1 with hv1 _ _
        subst hv1 hv3
        have r0 := (K.cell (p := ⟨g, k * 9 + 0, none⟩) hg0 (by simp)).trans (hrow 0 (by omega))
        have r1 := (K.cell (p := ⟨g, k * 9 + 1, none⟩) hg0 (by simp)).trans (hrow 1 (by omega))
        simp only [rc, Nat.add_zero, ← Ht.out] at r0 r1
        have hgk := hg.keep0 K
        clear hrow
        by_cases hjn : j < n
        · obtain ⟨b, off, rfl, hb, hc⟩ := hgk.2 j hjn
          have htk := hasB_take gs (M.sg t).gen j (by omega)
          obtain ⟨x, hx⟩ : ∃ x, x = gs.getD j 0 := ⟨_, rfl⟩
          rw [← hx] at hc htk
          obtain ⟨eb, he⟩ : ∃ eb, (x == (M.sg t).gen) = eb := ⟨_, rfl⟩
          rw [he] at htk
          obtain ⟨h1, hh1⟩ : ∃ h1, h1 = hasB (gs.take j) (M.sg t).gen := ⟨_, rfl⟩
          rw [← hh1] at htk ⊢
          obtain ⟨b0, hb0⟩ : ∃ b0, b0 = (z || h1) := ⟨_, rfl⟩
          rw [← hb0]
          have Htk := Lib.hid htk
          have Hb0 := Lib.hid hb0
          have jj0 : (0 : Int) ≤ (j : Int) := by omega
          have jj1 : (j : Int) < (n : Int) := by omega
          have kk0 : (0 : Int) ≤ (k : Int) := by omega
          have kk1 : (k : Int) < (L.length : Int) := by omega
          clear hx hh1 htk hb0 hgk
          have hown0 := Lib.hid hown
          clear hown
          cases b0 with
          | true =>
            go_wp2_with fail
            go_quiet (fail)
            go_wp2_with fail
            go_roundw
            case rel => first | exact ⟨j + 1, by omega, by go_num, by rw [Htk.out, ← Bool.or_assoc, ← Hb0.out]; simp, K.drewN _, hown0.out⟩ | ((repeat apply Exists.intro); exact ⟨⟨j + 1, by omega, by go_num, by rw [Htk.out, ← Bool.or_assoc, ← Hb0.out]; simp, K.drewN _, hown0.out⟩, rfl⟩)
            case measure => simp [intOf]; omega
          | false =>
            go_wp2_with fail
            go_quiet (fail)
            go_wp2_with fail
            go_roundw
            case rel => first | exact ⟨j + 1, by omega, by go_num, by rw [Htk.out, ← Bool.or_assoc, ← Hb0.out]; simp, K.drewN _, hown0.out⟩ | ((repeat apply Exists.intro); exact ⟨⟨j + 1, by omega, by go_num, by rw [Htk.out, ← Bool.or_assoc, ← Hb0.out]; simp, K.drewN _, hown0.out⟩, rfl⟩)
            case measure => simp [intOf]; omega
        · obtain rfl : j = n := by omega
          have hask : (z || hasB (gs.take j) (M.sg t).gen) = askB M gs t := by rw [← hgn, List.take_length, Hz.out]; rfl
          rw [hask]
          clear hask
          by_cases ha : askB M gs t = true
          · rw [ha]
            have Ha := Lib.hid ha
            clear ha
            go_wp2_with (at_builtin; refine wpList_append_own _ rfl (.tmp 45) (.tmp 54) 47 rfl w.heap.size 3 i0 (.int .i64 0) 1 8 Try.underlying47 hi hz0 hz1 hz2 rfl (by decide) u5 lk.length (cellsL lk) rfl (hown.alloc _) ⟨wr.heap.size, 0, none⟩ 1 1 [.int .i64 (t : Int)] rfl rfl (one_cell_at _ _ _) (by intro u hu; simp at hu; subst hu; rfl) (by unfold maxLen; omega) (by omega) (by have := K.size; simp; omega) ?_; intro v2 w2 hown2 hgrow2 _; have K2 := (K.alloc (.cells #[.int .i64 (t : Int)] 3)).grown hgrow2 (fun b hb => .inr ((hown.lt b hb).1)); have H2 := Lib.hid hown2; clear hown2 hgrow2 hown)
            go_roundw
            case rel => exact ⟨k + 1, by omega, by go_num, K2, by rw [Hsucc.out, Ha.out, if_pos rfl, ← Hlk.out, List.length_append]; simpa [cellsL] using H2.out⟩
            case measure => simp [intOf]; omega
          · have ha' : askB M gs t = false := by simpa using ha
            rw [ha']
            have Ha := Lib.hid ha
            have H1 := Lib.hid hown
            clear ha ha' hown
            go_wp2_with fail
            go_roundw
            case rel => exact ⟨k + 1, by omega, by go_num, K, by rw [Hsucc.out, if_neg Ha.out, List.append_nil, ← Hlk.out]; exact H1.out⟩
            case measure => simp [intOf]; omega
    · obtain rfl : k = L.length := by omega
      rw [List.take_length] at hown
      have Hown := Lib.hid hown
      clear hown
      go_wp2_with fail
      go_ret
      obtain ⟨A', c', rfl, hI⟩ := ints_of_own Hown.out
      exact ⟨A', c', _, rfl, hI, F.out, HR0.out.keep0 K, K⟩
end Go.Proofs.Ytgnpeciedefeiaa
