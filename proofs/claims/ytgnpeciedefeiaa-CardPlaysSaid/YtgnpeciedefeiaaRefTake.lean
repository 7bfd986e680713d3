/-
  The document's memory: Take.
-/
import Derived.Test.YtgnpeciedefeiaaRefPlace
import Derived.Test.YtgnpeciedefeiaaRefList
namespace Go.Proofs.Ytgnpeciedefeiaa
open Go.RowKit

theorem info125 : (Try.prog.info? 125).map (fun i => (i.zero, i.size, i.bytes)) = some (some (.agg #[.int .i64 0, .int .i64 0, .int .i64 0, .int .i64 0, .int .i64 0, .int .i64 0, .int .i64 0, .int .i64 0, .slice none 0 0]), 9, 88) := by kernel_rfl

def TakeRef (base q : Nat) (M : MemV) (gen kind : Int) (w : World) (e : Ending) (w' : World) : Prop :=
  ∃ (M' : MemV) (L' : List Nat) (a f : Int), e = .returned (.tuple #[.int .i64 a, .int .i64 f]) ∧ RefAt w' base q M' L' ∧ Keep (RefS w base) w w' ∧ TakeR M gen kind a f M'

theorem take_ref_arg {w : World} {base q : Nat} {M : MemV} {L : List Nat} (R0 : RefAt w base q M L) (gen kind : Int) (hbad : Bad gen kind) :
    Calls Try.prog 63 #[.pointer (some ⟨q, 0, none⟩), .int .i64 gen, .int .i64 kind] w (TakeRef base q M gen kind w) := by
  have fin : TakeRef base q M gen kind w (.returned (.tuple #[.int .i64 0, .int .i64 1])) w := ⟨M, L, 0, 1, rfl, R0, Keep.refl _ _, .inl ⟨hbad, rfl, rfl, rfl⟩⟩
  have F := Lib.hid fin
  clear fin
  unfold Bad at hbad
  by_cases a : gen < 0
  · clear hbad
    go_enter Try.func63, Try.ntmps63
    go_wp2
    go_ret2
    exact F.out
  · by_cases b : 4 < gen
    · clear hbad
      go_enter Try.func63, Try.ntmps63
      go_wp2
      go_ret2
      exact F.out
    · by_cases c : kind < 0
      · clear hbad
        go_enter Try.func63, Try.ntmps63
        go_wp2
        go_ret2
        exact F.out
      · have d : 3 < kind := by omega
        clear hbad
        go_enter Try.func63, Try.ntmps63
        go_wp2
        go_ret2
        exact F.out

set_option maxRecDepth 10000 in
set_option maxHeartbeats 1600000 in
theorem take_ref {w : World} {base q : Nat} {M : MemV} {L : List Nat} (R0 : RefAt w base q M L) (ok : M.Ok) (gen kind : Int) :
    Calls Try.prog 63 #[.pointer (some ⟨q, 0, none⟩), .int .i64 gen, .int .i64 kind] w (TakeRef base q M gen kind w) := by
  by_cases bad : Bad gen kind
  · exact take_ref_arg R0 gen kind bad
  · have HB := Lib.hid bad
    unfold Bad at bad
    obtain ⟨T, v, wv, R⟩ := id R0
    obtain ⟨i0, hi, hz0, hz1, hz2⟩ := info_parts info125
    have hl : L.length ≤ 1024 := by have := T.len; have := sel_len M [] M.lim; have := ok.l1024; omega
    have l1024 := ok.l1024
    obtain ⟨c0, c1⟩ := R.cells
    have g0 : ¬ gen < 0 := by omega
    have g1 : ¬ 4 < gen := by omega
    have g2 : ¬ kind < 0 := by omega
    have g3 : ¬ 3 < kind := by omega
    clear bad
    go_enter Try.func63, Try.ntmps63
    go_wp2_with fail
    go_loopw [8] (fun i wr => ∃ k : Nat, k ≤ M.lim ∧ i = .int .i64 k ∧ wr = w ∧ ∀ j, j < k → 0 < (M.sg j).taken) (fun i _ => M.lim - (intOf i).toNat)
    case atStart => exact ⟨0, Nat.zero_le _, rfl, rfl, fun j hj => absurd hj (Nat.not_lt_zero j)⟩
    case round =>
      obtain ⟨k, hk, rfl, rfl, hlow⟩ := hrel
      have HL := Lib.hid hlow
      clear hlow
      by_cases hlt : k < M.lim
      · go_wp2_with fail
        refine (place_any R T hl _).mono ?_
        rintro e w' ⟨rfl, hP⟩
        rcases hP with ⟨hn, rfl⟩ | ⟨i, hi', hs, rfl⟩
        · have hz : (M.sg k).taken = 0 := by
            have h0 := ok.t0 k hlt
            have : ¬ 0 < (M.sg k).taken := fun h => hn (MemV.has_iff.2 ⟨k, rfl, hlt, h⟩)
            omega
          have hfree : 0 < M.free := by rw [ok.fr]; have := frees_pos M.sg M.lim k hlt hz; omega
          have Hz := Lib.hid hz
          have Hfree := Lib.hid hfree
          have hbase : base ≤ wr.heap.size := by have := R.lt; have := R.bq; omega
          clear hn hz hfree
          have kA : Keep (fun b => some b = v.ownBlock) wr (wr.alloc (.cells #[.int .i64 (k : Int), .int .i64 gen, .int .i64 kind, .int .i64 0, .int .i64 5, .int .i64 5, .int .i64 5, .int .i64 5, .slice none 0 0] 125)) := (Keep.refl _ _).alloc _
          have HR := Lib.hid R
          have hqv : ¬ some q = v.ownBlock := by
            intro e
            obtain ⟨_, c, hc⟩ := own_type R.own e.symm
            rw [R.head] at hc
            injection hc with hc
            injection hc with _ hc _
            exact absurd hc (by decide)
          have hql := R.lt
          go_wp2_with (at_builtin; refine wpList_append_own _ rfl (.tmp 39) (.tmp 46) 118 rfl base 125 i0 _ 9 88 Try.underlying118 hi hz0 hz1 hz2 rfl (by decide) v L.length (rcells M wv L) rfl (R.own.alloc _) ⟨wr.heap.size, 0, none⟩ 1 1 [.int .i64 (k : Int), .int .i64 gen, .int .i64 kind, .int .i64 0, .int .i64 5, .int .i64 5, .int .i64 5, .int .i64 5, .slice none 0 0] rfl rfl (laid_at _ _ _) (by intro u hu; simp at hu; rcases hu with rfl | rfl | rfl | rfl | rfl | rfl <;> rfl) (by unfold maxLen; omega) (by omega) (by simp; omega) ?_; intro v2 w2 hown2 hgrow2 _; obtain ⟨gv2, cv2, rfl, _, _⟩ := hown2.form (by omega); have K2 := kA.join (Keep.of_grown hgrow2) (fun _ _ h => h); have hq1 : w2.cell? ⟨q, 1, none⟩ = some v := (K2.cell (p := ⟨q, 1, none⟩) hql hqv).trans c1; have hq2 : w2.frozen? ⟨q, 1, none⟩ = false := (K2.frozen (p := ⟨q, 1, none⟩) hql hqv).trans (HR.out.frozen 1); have H2 := Lib.hid hown2; have HK := Lib.hid K2; clear hown2 hgrow2 K2)
          go_ret2
          have hKeep : Keep (RefS wr base) wr w2 := HK.out.mono (fun b _ hb => HR.out.isV hb.symm)
          exact ⟨_, L ++ [k], _, _, rfl, ⟨T.took ok hlt Hz.out gen kind, _, _, HR.out.snoc T Hz.out gen kind H2.out HK.out⟩, hKeep.setCell (.inl HR.out.isQ) _, .inr (.inr ⟨k, HB.out, Hfree.out, hlt, Hz.out, HL.out, rfl, rfl, rfl⟩)⟩
        · have hs' : k = L.getD i 0 := by omega
          have ht : 0 < (M.sg k).taken := by rw [hs']; exact (T.mem (R.memL hi')).2
          have Ht := Lib.hid ht
          clear hs hs' ht
          go_wp2_with fail
          go_roundw
          case rel => exact ⟨k + 1, by omega, by go_num, trivial, fun j hj => by
            by_cases e : j = k
            · subst e; exact Ht.out
            · exact HL.out j (by omega)⟩
          case measure => simp [intOf]; omega
      · obtain rfl : k = M.lim := by omega
        have hfree : M.free = 0 := by
          have h1 := ok.fr
          by_cases h : 0 < frees M.sg M.lim
          · obtain ⟨j, hj, hz, _⟩ := frees_least M.sg M.lim h
            have := HL.out j hj
            omega
          · omega
        have Hf := Lib.hid hfree
        clear hfree
        go_wp2_with fail
        go_ret2
        exact ⟨M, L, _, _, rfl, R0, Keep.refl _ _, .inr (.inl ⟨HB.out, Hf.out, rfl, rfl, rfl⟩)⟩
end Go.Proofs.Ytgnpeciedefeiaa
