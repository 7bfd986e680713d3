/-
  morainelaw09.CardVain: the walk.
-/
import Derived.Test.YtgnpeciedefeiaaCdPoints
import Derived.Deep.RegionHeld3
import Derived.BigQuiet
import Derived.Deep.DeepCutAuto
import Derived.Test.YtgnpeciedefeiaaShelf
import Derived.Test.YtgnpeciedefeiaaSortAid
import Derived.Test.YtgnpeciedefeiaaNobody
import Derived.Deep.AppendLies
import Derived.Shelf.Abstract
namespace Go.Proofs.Ytgnpeciedefeiaa.T2
open Go.RowKit

set_option maxHeartbeats 400000 in
theorem index_any (A : Option Addr) (n c : Nat) (gs : List Int) (x : Int) (w : World) (h : IntsAt w A n gs) (hn : n ≤ 1000000) :
    Calls Try.prog 87 #[.slice A n c, .int .i64 x] w (IdxPost gs x w) := by
  go_enter Try.func87, Try.ntmps87
  go_wp2_with fail
  go_loop [5, 8] (fun _ i => ∃ k : Nat, k ≤ n ∧ i = .int .i64 k ∧ ∀ j, j < k → gs.getD j 0 ≠ x) (fun _ i => n - (intOf i).toNat)
  case atStart => exact ⟨0, Nat.zero_le _, rfl, fun j hj => absurd hj (Nat.not_lt_zero _)⟩
  case round =>
    obtain ⟨k, hk, rfl, hne⟩ := hrel
    by_cases hlt : k < n
    · obtain ⟨b, off, rfl, hb, hc⟩ := h.2 k hlt
      have hlen := h.1
      have Hne := Lib.hid hne
      have H := Lib.hid h
      clear hne h
      by_cases he : x = gs.getD k 0
      · have hbt : (x == gs.getD k 0) = true := by simpa using he
        have hin : hasB gs x = true := by
          rw [hasB_iff, he, List.getD_eq_getElem?_getD, List.getElem?_eq_getElem (by omega)]
          exact List.getElem_mem _
        have Hin := Lib.hid hin
        have He := Lib.hid he
        clear hin he hlen
        generalize gs.getD k 0 = y at hc hbt
        go_wp2_with fail
        go_ret
        exact ⟨⟨k, rfl, fun _ => Hin.out, fun _ => by omega⟩, rfl⟩
      · have hbt : (x == gs.getD k 0) = false := by simpa using he
        have He := Lib.hid he
        clear he hlen
        obtain ⟨y, hy⟩ : ∃ y, y = gs.getD k 0 := ⟨_, rfl⟩
        rw [← hy] at hc hbt
        have Hy := Lib.hid hy
        clear hy
        go_wp2_with fail
        go_round
        case rel =>
          refine ⟨k + 1, by omega, by go_num, fun j hj => ?_⟩
          by_cases e : j < k
          · exact Hne.out j e
          · obtain rfl : j = k := by omega
            exact fun e => He.out e.symm
        case measure => simp [intOf]; omega
    · have hin : ¬ hasB gs x = true := by
        intro hm
        rw [hasB_iff] at hm
        obtain ⟨j, hj, e⟩ := List.mem_iff_getElem.1 hm
        have := h.1
        exact hne j (by omega) (by rw [List.getD_eq_getElem?_getD, List.getElem?_eq_getElem hj]; exact e)
      have Hin := Lib.hid hin
      clear hin hne
      go_wp2_with fail
      go_ret
      exact ⟨⟨-1, rfl, fun h => absurd h (by omega), fun h => absurd h Hin.out⟩, rfl⟩

set_option maxHeartbeats 400000 in
theorem contains_any (A : Option Addr) (n c : Nat) (gs : List Int) (x : Int) (w : World) (h : IntsAt w A n gs) (hn : n ≤ 1000000) :
    Calls Try.prog 56 #[.slice A n c, .int .i64 x] w fun e w' => e = .returned (.bool (hasB gs x)) ∧ w = w' := by
  go_enter Try.func56, Try.ntmps56
  go_wp2_with fail
  refine (index_any A n c gs x _ h hn).mono ?_
  rintro e w1 ⟨⟨i, rfl, hi⟩, rfl⟩
  have hb : decide (0 ≤ i) = hasB gs x := by
    by_cases h0 : 0 ≤ i
    · rw [hi.1 h0]; simpa using h0
    · have : hasB gs x = false := by rw [Bool.eq_false_iff]; exact fun h => h0 (hi.2 h)
      rw [this]; simpa using h0
  have Hb := Lib.hid hb
  clear hb hi
  go_wp2_with fail
  go_ret
  rw [← Hb.out]
  exact ⟨rfl, rfl⟩

/-- What Taken leaves. -/
def TakenPost (p g : Nat) (M : MemV) (gs : List Int) (w : World) (e : Ending) (w' : World) : Prop :=
  ∃ (A : Option Addr) (c : Nat) (L : List Nat), e = .returned (.slice A L.length c) ∧ IntsAt w' A L.length (L.map (fun i : Nat => (i : Int))) ∧ TakenL M gs L ∧ MemAt w' p g M ∧ Keep (fun _ => False) w w'

/-- The same, and the slice is new. -/
def TakenOwnPost (p g : Nat) (M : MemV) (gs : List Int) (w : World) (e : Ending) (w' : World) : Prop :=
  ∃ (A : Option Addr) (c : Nat) (L : List Nat), e = .returned (.slice A L.length c) ∧ IntsAt w' A L.length (L.map (fun i : Nat => (i : Int))) ∧ TakenL M gs L ∧ MemAt w' p g M ∧ Keep (fun _ => False) w w' ∧ ∀ b off, A = some ⟨b, off, none⟩ → w.heap.size ≤ b

theorem info3 : (Try.prog.info? 3).map (fun i => (i.zero, i.size, i.bytes)) = some (some (.int .i64 0), 1, 8) := by kernel_rfl

/-- The cells of what was gathered. -/
def cellsL (L : List Nat) : List Value := L.map (fun i : Nat => .int .i64 (i : Int))

theorem one_cell_at (w : World) (x : Value) (t : TypeId) : ∀ j u, [x][j]? = some u → (w.alloc (.cells #[x] t)).cell? ((⟨w.heap.size, 0, none⟩ : Addr).add j) = some u := by
  intro j u h
  match j with
  | 0 =>
    simp at h
    subst h
    simp [Addr.add]
  | j + 1 => simp at h

/-- What the sort answers, at a slice that the call itself made. -/
theorem sort_own (p g mb B n : Nat) (M : MemV) (ok : M.Ok) (gs : List Int) (v : Value) (w : World) (hm : MemAt w p g M) (hp : p < B) (hg : g < B) (hb : w.cell? ⟨mb, 0, none⟩ = some (.pointer (some ⟨p, 0, none⟩))) (hmb : mb < B)
    (hn : n = (sel M gs M.lim).length) (hown : w.ownsRow B 3 1 v n (cellsL (sel M gs M.lim))) :
    Calls Try.prog 57 #[v, .func (.func 58) #[] #[.pointer (some ⟨mb, 0, none⟩)]] w fun e w' => e = .returned (.tuple #[]) ∧ ∃ (A : Option Addr) (c : Nat) (L : List Nat), v = .slice A L.length c ∧ IntsAt w' A L.length (L.map (fun i : Nat => (i : Int))) ∧ TakenL M gs L ∧ Keep (fun b => B ≤ b) w w' := by
  by_cases h0 : n = 0
  · have hv : ∃ A c, v = .slice A 0 c := by
      rcases hown.2 with ⟨rfl, _⟩ | ⟨b, c, _, rfl, _⟩
      · exact ⟨_, _, rfl⟩
      · exact ⟨some ⟨b, 0, none⟩, c, by rw [h0]⟩
    obtain ⟨A, c, rfl⟩ := hv
    have hc := Go.Proofs.AnyF.slices_SortFunc_none (P := Try.prog) (ρ := Try.sortL_ren) { Try.sortL with } A c (.func (.func 58) #[] #[.pointer (some ⟨mb, 0, none⟩)]) w
    change Calls Try.prog 57 _ _ _ at hc
    refine hc.mono fun e w' ⟨he, hw⟩ => ⟨he, A, c, [], rfl, IntsAt.nil _ _, ⟨?_, List.Pairwise.nil⟩, by rw [hw]; exact Keep.refl _ _⟩
    have : (sel M gs M.lim) = [] := List.eq_nil_of_length_eq_zero (by omega)
    rw [this]
  · obtain ⟨b, c, rfl, hB, hlt⟩ := hown.form (by omega)
    have l8 := ok.l8
    letI : Inhabited {i : Nat // i < M.lim} := ⟨⟨0, by omega⟩⟩
    have hS : ∀ i ∈ sel M gs M.lim, i < M.lim := fun i hi => sel_lt hi
    obtain ⟨d, hd⟩ : ∃ d, d = rowF M.lim (sel M gs M.lim) hS := ⟨_, rfl⟩
    have hds : d.size = n := by rw [hd, rowF_size, hn]
    have hH : Go.Sort.Holds encF w b 0 d := by
      intro j hj
      have hj' : j < (sel M gs M.lim).length := by omega
      refine ⟨?_, hown.frozenAt _⟩
      rw [Nat.zero_add, hown.cellAt j (by omega)]
      have := rowF_get M.lim (sel M gs M.lim) hS j hj'
      rw [← hd] at this
      simp only [cellsL, List.getElem?_map, List.getElem?_eq_getElem hj', Option.map_some, encF, this, List.getD_eq_getElem?_getD, Option.getD_some]
    have eg : ∀ args w, (callFunc 58 args).run Try.prog w = .ok (.enter 58 args) w := Go.Proofs.enters_of Try.func58 (by kernel_rfl) rfl
    have hcmp : CmpReads Try.prog 58 #[.pointer (some ⟨mb, 0, none⟩)] encF (cfT M M.lim) b 0 d.size w := by
      intro m os dk _ x y
      have hK := keep_sort encF w b 0 m dk os
      have hM := hm.keep hK (by omega) (by omega)
      have hB2 := (hK.cell (p := ⟨mb, 0, none⟩) (World.block_lt_of_cell? w _ hb) (by show ¬ mb = b; omega)).trans hb
      exact closure58 p g mb M x.1 y.1 _ hM hB2 x.2 y.2
    have hc := Any.slices_SortFunc Try.sortL encF (fun _ => rfl) (cfT M M.lim) (swoT M M.lim) 58 #[.pointer (some ⟨mb, 0, none⟩)] b 0 c d w eg hcmp.lays hH hlt (by have := sel_len M gs M.lim; have := ok.l1024; omega)
    change Calls Try.prog 57 _ _ _ at hc
    rw [hds] at hc
    refine hc.mono fun e w' ⟨he, d', m, os, hP, hO, hw⟩ => ⟨he, ?_⟩
    have hsz : d'.size = d.size := hP.1
    have hH' : Go.Sort.Holds encF w' b 0 d' := by
      have hSW : SW encF w b 0 d' w' := ⟨m, os, hw⟩
      exact hSW.holds hlt hH hsz
    have hK := keep_sort encF w b 0 m d' os
    rw [← hw] at hK
    have hlen : (d'.toList.map (·.1)).length = n := by simp; omega
    refine ⟨some ⟨b, 0, none⟩, c, d'.toList.map (·.1), by rw [hlen], ⟨by simp, ?_⟩, takenL_of M ok gs d d' (by rw [hd]; exact rowF_list _ _ _) (by rw [hds]; exact hP) (by rw [hds]; exact hO), hK.mono (by rintro k _ rfl; exact hB)⟩
    intro j hj
    have hj' : j < d'.size := by simpa using hj
    refine ⟨b, 0, rfl, Nat.lt_of_lt_of_le hlt hK.size, ?_⟩
    rw [(hH' j hj').1, getElem!_pos _ j hj']
    simp [hj']

/-- The loop's relation. -/
def TakeRel (B : Nat) (M : MemV) (gs : List Int) (w1 : World) (k : Nat) (l : Value) (wr : World) : Prop :=
  wr.ownsRow B 3 1 l (sel M gs k).length (cellsL (sel M gs k)) ∧ Keep (fun _ => False) w1 wr ∧ B ≤ wr.heap.size

theorem takeRel_skip {B : Nat} {M : MemV} {gs : List Int} {w1 wr : World} {k : Nat} {l : Value} (h : TakeRel B M gs w1 k l wr) (hs : selB M gs k = false) : TakeRel B M gs w1 (k + 1) l wr := by
  unfold TakeRel at *
  rw [sel_succ, hs]
  simpa using h

set_option maxRecDepth 100000 in
set_option maxHeartbeats 2000000 in
theorem taken_own (p g : Nat) (M : MemV) (ok : M.Ok) (A : Option Addr) (n c : Nat) (gs : List Int) (w : World) (h : MemAt w p g M) (hg : IntsAt w A n gs) (hn : n ≤ 1000000) :
    Calls Try.prog 22 #[.pointer (some ⟨p, 0, none⟩), .slice A n c] w (TakenOwnPost p g M gs w) := by
  obtain ⟨i0, hi, hz0, hz1, hz2⟩ := info_parts info3
  have l1024 := ok.l1024
  obtain ⟨cap, c0, c1, c2⟩ := h.cells
  have hp := h.lt
  have hq := h.segs.lt
  have hp1 : ¬ p = w.heap.size := by omega
  have hp2 : ¬ w.heap.size = p := by omega
  go_enter Try.func22, Try.ntmps22
  go_wp2_with fail
  have k1 : Keep (fun _ => False) w (w.alloc (.cells #[.pointer (some ⟨p, 0, none⟩)] 23)) := (Keep.refl _ _).alloc _
  have m1 := h.keep k1 (by simp) (by simp)
  have g1 := hg.keep0 k1
  have b1 : (w.alloc (.cells #[.pointer (some ⟨p, 0, none⟩)] 23)).cell? ⟨w.heap.size, 0, none⟩ = some (.pointer (some ⟨p, 0, none⟩)) := by simp
  have z1 : (w.alloc (.cells #[.pointer (some ⟨p, 0, none⟩)] 23)).heap.size = w.heap.size + 1 := by simp
  generalize w.alloc (.cells #[.pointer (some ⟨p, 0, none⟩)] 23) = w1 at k1 m1 g1 b1 z1 ⊢
  obtain ⟨mb, hmb⟩ : ∃ mb, mb = w.heap.size := ⟨_, rfl⟩
  rw [← hmb] at b1 z1 hp1 hp2 ⊢
  obtain ⟨B, hB⟩ : ∃ B, B = w1.heap.size := ⟨_, rfl⟩
  have hpB : p < B := by omega
  have hqB : g < B := by omega
  have hmB : mb < B := by omega
  have HB := Lib.hid hB
  clear c0 c1 c2 h hg hp hq hp1 hp2 hB z1 hmb
  go_loopw [5, 15] (fun l i wr => ∃ k : Nat, k ≤ M.lim ∧ i = .int .i64 k ∧ TakeRel B M gs w1 k l wr) (fun _ i _ => M.lim - (intOf i).toNat)
  case atStart => exact ⟨0, Nat.zero_le _, rfl, World.ownsRow_nil _ _ _ _, Keep.refl _ _, by rw [HB.out]; exact Nat.le_refl _⟩
  case round =>
    obtain ⟨k, hk, rfl, R⟩ := hrel
    obtain ⟨hown, K, hBs⟩ := id R
    have HR := Lib.hid R
    clear R
    have m := m1.keep K (by simp) (by simp)
    have gg := g1.keep0 K
    have bb := (K.cell (p := ⟨mb, 0, none⟩) (World.block_lt_of_cell? w1 _ b1) (by simp)).trans b1
    obtain ⟨cap', d0, d1, d2⟩ := m.cells
    by_cases hlt : k < M.lim
    · have t7 := m.segs.2 k hlt 7 (by omega)
      have t0 := m.segs.2 k hlt 0 (by omega)
      simp only [Sg.cell, Nat.add_zero] at t7 t0
      by_cases ht : 0 < (M.sg k).taken
      · by_cases hz : n = 0
        · have hsel : selB M gs k = true := by
            have := g1.1
            simp [selB, ht, show gs.length = 0 from by omega]
          have Hsel := Lib.hid hsel
          clear hsel
          have hz' : ((n : Int) == 0) = true := by simpa using hz
          have Hz := Lib.hid hz
          clear hz
          go_wp2_with (at_builtin; refine wpList_append_own _ rfl (.tmp 43) (.tmp 45) 47 rfl B 3 i0 (.int .i64 0) 1 8 Try.underlying47 hi hz0 hz1 hz2 rfl (by decide) _ _ _ rfl (hown.alloc _) ⟨wr.heap.size, 0, none⟩ 1 1 [.int .i64 k] rfl rfl (one_cell_at _ _ _) ?a1 ?a2 ?a3 ?a4 ?_)
          case a1 => intro u hu; simp at hu; subst hu; rfl
          case a2 => have := sel_len M gs k; unfold maxLen; omega
          case a3 => have := sel_len M gs k; omega
          case a4 => simp; omega
          intro v' w2 hown' hgrow _
          have R' : TakeRel B M gs w1 (k + 1) v' w2 := by
            have hK := (K.alloc (.cells #[.int .i64 (k : Int)] 3)).grown hgrow (fun b hb => .inr (by
              rcases hown.2 with ⟨rfl, _⟩ | ⟨b', c', _, rfl, hb', _⟩
              · cases hb
              · simp [Value.ownBlock] at hb; have := HB.out; omega))
            refine ⟨?_, hK, Nat.le_trans hBs (Nat.le_trans (by simp) hgrow.size)⟩
            rw [sel_succ, Hsel.out]
            simpa [cellsL] using hown'
          clear hown' hgrow hown
          go_wp2
          go_roundw
          case rel => exact ⟨k + 1, by omega, by go_num, R'⟩
          case measure => simp [intOf]; omega
        · have hz' : ((n : Int) == 0) = false := by simpa using hz
          have hl : ¬ gs.length = 0 := by have := g1.1; omega
          clear hz
          by_cases hc : hasB gs (M.sg k).gen = true
          · have hsel : selB M gs k = true := by simp [selB, ht, hc]
            have Hsel := Lib.hid hsel
            clear hsel hl
            go_wp2_with fail
            refine (contains_any A n c gs _ _ gg hn).mono ?_
            rintro e w3 ⟨rfl, rfl⟩
            go_wp2_with (at_builtin; refine wpList_append_own _ rfl (.tmp 43) (.tmp 45) 47 rfl B 3 i0 (.int .i64 0) 1 8 Try.underlying47 hi hz0 hz1 hz2 rfl (by decide) _ _ _ rfl (hown.alloc _) ⟨wr.heap.size, 0, none⟩ 1 1 [.int .i64 k] rfl rfl (one_cell_at _ _ _) ?b1 ?b2 ?b3 ?b4 ?_)
            case b1 => intro u hu; simp at hu; subst hu; rfl
            case b2 => have := sel_len M gs k; unfold maxLen; omega
            case b3 => have := sel_len M gs k; omega
            case b4 => simp; omega
            intro v' w2 hown' hgrow _
            have R' : TakeRel B M gs w1 (k + 1) v' w2 := by
              have hK := (K.alloc (.cells #[.int .i64 (k : Int)] 3)).grown hgrow (fun b hb => .inr (by
                rcases hown.2 with ⟨rfl, _⟩ | ⟨b', c', _, rfl, hb', _⟩
                · cases hb
                · simp [Value.ownBlock] at hb; have := HB.out; omega))
              refine ⟨?_, hK, Nat.le_trans hBs (Nat.le_trans (by simp) hgrow.size)⟩
              rw [sel_succ, Hsel.out]
              simpa [cellsL] using hown'
            clear hown' hgrow hown
            go_wp2
            go_roundw
            case rel => exact ⟨k + 1, by omega, by go_num, R'⟩
            case measure => simp [intOf]; omega
          · have hc' : hasB gs (M.sg k).gen = false := by simpa using hc
            have hs : selB M gs k = false := by simp [selB, hc', hl]
            have Hs := Lib.hid hs
            clear hs hl hc
            go_wp2_with fail
            refine (contains_any A n c gs _ _ gg hn).mono ?_
            rintro e w3 ⟨rfl, rfl⟩
            go_wp2_with fail
            go_roundw
            case rel => exact ⟨k + 1, by omega, by go_num, takeRel_skip HR.out Hs.out⟩
            case measure => simp [intOf]; omega
      · have hs : selB M gs k = false := by simp [selB, ht]
        have Hs := Lib.hid hs
        clear hs
        go_wp2_with fail
        go_roundw
        case rel => exact ⟨k + 1, by omega, by go_num, takeRel_skip HR.out Hs.out⟩
        case measure => simp [intOf]; omega
    · obtain rfl : k = M.lim := by omega
      have Hown := Lib.hid hown
      clear hown HR
      go_wp2_with fail
      refine (sort_own p g mb B _ M ok gs _ _ m hpB hqB bb hmB rfl Hown.out).mono ?_
      rintro e w2 ⟨rfl, A', c', L, hv, hI, hT, hK⟩
      have hnew : ∀ b off, A' = some ⟨b, off, none⟩ → w.heap.size ≤ b := by
        intro b off e
        have hw1 := k1.size
        have hB1 := HB.out
        rcases Hown.out.2 with ⟨h, _⟩ | ⟨b', c2, _, h, hb', _⟩
        · rw [hv, e] at h
          injection h with h
          cases h
        · rw [hv, e] at h
          injection h with h
          injection h with h
          injection h with h
          omega
      have HN := Lib.hid hnew
      have Hv := Lib.hid hv
      clear hv Hown hnew
      go_wp2_with fail
      go_ret
      exact ⟨A', c', L, congrArg Ending.returned Hv.out, hI, hT, m.keep hK (by omega) (by omega), (k1.trans K).into hK (fun i hi => by have := HB.out; have := k1.size; omega), HN.out⟩
theorem taken_any (p g : Nat) (M : MemV) (ok : M.Ok) (A : Option Addr) (n c : Nat) (gs : List Int) (w : World) (h : MemAt w p g M) (hg : IntsAt w A n gs) (hn : n ≤ 1000000) :
    Calls Try.prog 22 #[.pointer (some ⟨p, 0, none⟩), .slice A n c] w (TakenPost p g M gs w) :=
  (taken_own p g M ok A n c gs w h hg hn).mono fun _ _ ⟨A', c', L, h1, h2, h3, h4, h5, _⟩ => ⟨A', c', L, h1, h2, h3, h4, h5⟩
end Go.Proofs.Ytgnpeciedefeiaa.T2

namespace Go.Proofs.Ytgnpeciedefeiaa
open Go.RowKit

theorem played_any (limit : Int) (A : Option Addr) (len cap : Nat) (acts : Nat → ActV) (w : World) (hA : ActsAt w A len acts) (hmax : len ≤ maxLen) :
    Calls Try.prog 39 #[.int .i64 limit, .slice A len cap] w (PlayedPost w) := by
  by_cases h : limit < 8 ∨ 1024 < limit
  · exact played_bad limit A len cap w h
  · obtain ⟨lim, rfl⟩ : ∃ lim : Nat, limit = lim := ⟨limit.toNat, by omega⟩
    exact played_yes lim A len cap acts w (by omega) (by omega) hA hmax

/-- The segment number i of a list. -/
theorem ints_cell {w : World} {A : Option Addr} {L : List Nat} (h : IntsAt w A L.length (L.map (fun i : Nat => (i : Int)))) {i : Nat} (hi : i < L.length) : ∃ b off, A = some ⟨b, off, none⟩ ∧ b < w.heap.size ∧ w.cell? ⟨b, off + i, none⟩ = some (.int .i64 ((L.getD i 0 : Nat) : Int)) := by
  obtain ⟨b, off, e, hb, hc⟩ := h.2 i hi
  rw [getD_cast L i hi] at hc
  exact ⟨b, off, e, hb, hc⟩

/-- Of one that is taken, and just where the block of the answer lies. -/
def SegV9 (s : Sg) (w : World) (e : Ending) (w' : World) : Prop := ∃ o, e = .returned (.tuple #[.agg #[.int .i64 s.gen, .int .i64 s.kind, .int .i64 s.n, .int .i64 s.c0, .int .i64 s.c1, .int .i64 s.c2, .int .i64 s.c3], .bool true]) ∧ w.alloc o = w'
set_option maxHeartbeats 400000 in
theorem seg_yes_v9 (p g : Nat) (M : MemV) (k : Nat) (w : World) (h : MemAt w p g M) (hl : M.lim ≤ 1024) (hk : k < M.lim) (ht : 0 < (M.sg k).taken) :
    Calls Try.prog 17 #[.pointer (some ⟨p, 0, none⟩), .int .i64 (k : Int)] w (SegV9 (M.sg k) w) := by
  have q0 := h.segs.2 k hk 0 (by omega)
  have q1 := h.segs.2 k hk 1 (by omega)
  have q2 := h.segs.2 k hk 2 (by omega)
  have q3 := h.segs.2 k hk 3 (by omega)
  have q4 := h.segs.2 k hk 4 (by omega)
  have q5 := h.segs.2 k hk 5 (by omega)
  have q6 := h.segs.2 k hk 6 (by omega)
  simp only [Sg.cell, Nat.add_zero] at q0 q1 q2 q3 q4 q5 q6
  have hg := h.segs.lt
  have hg1 : ¬ g = w.heap.size := by omega
  have hg2 : ¬ w.heap.size = g := by omega
  go_enter Try.func17, Try.ntmps17
  go_wp2_with (go_at_call 54; refine (at_yes p g M k _ _ (h.keep ((Keep.refl (fun _ => False) w).alloc _) (by simp) (by simp)) hl rfl hk ht).mono ?_; rintro e w' ⟨rfl, rfl⟩)
  exact bodyPost_ret (v := .tuple #[.agg #[.int .i64 (M.sg k).gen, .int .i64 (M.sg k).kind, .int .i64 (M.sg k).n, .int .i64 (M.sg k).c0, .int .i64 (M.sg k).c1, .int .i64 (M.sg k).c2, .int .i64 (M.sg k).c3], .bool true]) (by simp [results, Try.results17, go_sem]) rfl ⟨_, rfl, rfl⟩

theorem sat1_9 (w : World) (o : Obj) (s : Sg) : SAt ((w.alloc o).alloc (.cells #[.int .i64 s.gen, .int .i64 s.kind, .int .i64 s.n, .int .i64 s.c0, .int .i64 s.c1, .int .i64 s.c2, .int .i64 s.c3] 37)).drew (w.heap.size + 1) s := by
  have := heap_alloc_new (w.alloc o) (.cells #[.int .i64 s.gen, .int .i64 s.kind, .int .i64 s.n, .int .i64 s.c0, .int .i64 s.c1, .int .i64 s.c2, .int .i64 s.c3] 37)
  show ((w.alloc o).alloc _).heap[w.heap.size + 1]? = _
  simpa using this
theorem sat2_9 (w : World) (o : Obj) (s : Sg) : SAt ((w.alloc (.cells #[.int .i64 s.gen, .int .i64 s.kind, .int .i64 s.n, .int .i64 s.c0, .int .i64 s.c1, .int .i64 s.c2, .int .i64 s.c3] 37)).alloc o).drew w.heap.size s := by
  show ((w.alloc _).alloc o).heap[w.heap.size]? = _
  rw [Below.heap_alloc _ _ _ (by simp)]
  exact heap_alloc_new w _

set_option maxRecDepth 100000 in
set_option maxHeartbeats 8000000 in
theorem cardVain_any (limit : Int) (A : Option Addr) (len cap : Nat) (acts : Nat → ActV) (w : World) (hA : ActsAt w A len acts) (hmax : len ≤ maxLen) :
    Calls Try.prog 9 #[.int .i64 limit, .slice A len cap] w fun e w' => e = .returned (.bool true) ∧ Keep (fun _ => False) w w' := by
  have HP := Lib.hid (played_any limit A len cap acts w hA hmax)
  clear hA hmax
  go_enter Try.func9, Try.ntmps9
  go_wp2_with fail
  refine HP.out.mono ?_
  clear HP
  rintro e w1 ⟨k1, rfl | ⟨c, s, p, g, S, rfl, hc, hs, hp, hg, h1, ok, hcn⟩⟩
  · go_wp2_with fail
    refine (awake9 _).mono ?_
    rintro e w2 ⟨rfl, k2⟩
    go_wp2_with fail
    go_ret
    exact ⟨rfl, k1.trans k2⟩
  · have c0 := h1.ptr
    have s0 := h1.sp.ptr
    go_wp2_with fail
    refine (T2.taken_own p g S.M ok.mem none 0 0 [] _ h1.sp.mem (IntsAt.nil _ _) (by omega)).mono ?_
    rintro e w2 ⟨A5, c5, L, rfl, I5, T5, _, k2, hA5⟩
    have h2 := h1.keep0 k2
    have K2 := k1.trans k2
    have hl := T5.len
    have hl2 := sel_len S.M [] S.M.lim
    have l1024 := ok.mem.l1024
    have hl3 : L.length ≤ 1024 := by omega
    have hnm : ∀ b off, A5 = some ⟨b, off, none⟩ → ¬ MineS s p g b := by
      intro b off e
      have := hA5 b off e
      have := h1.sp.lt
      have := h1.sp.mem.lt
      have := h1.sp.mem.segs.lt
      rintro (h | h | h) <;> omega
    have HNM := Lib.hid hnm
    have HT5 := Lib.hid T5
    clear h1 k1 k2 hl hl2 hA5 hnm c0 s0 T5
    go_wp2_with fail
    go_loopw [7] (fun iv wr => ∃ (i : Nat) (M : MemV), i ≤ L.length ∧ iv = .int .i64 i ∧ Marked S.M M L i 0 ∧ ({ S with M := M } : SpV).Ok ∧ CdAt wr c s p g { S with M := M } ∧ IntsAt wr A5 L.length (L.map (fun i : Nat => (i : Int))) ∧ Keep (fun _ => False) w wr) (fun iv _ => L.length - (intOf iv).toNat)
    case atStart => exact ⟨0, S.M, Nat.zero_le _, rfl, ⟨LikeM.refl _, fun t d _ h => by simp at h⟩, ok, h2, I5, K2⟩
    case round =>
      clear h2 I5 K2
      obtain ⟨i, M, hi, rfl, hM, okM, h, I, K⟩ := hrel
      have HM := Lib.hid hM
      clear hM
      by_cases hlt : i < L.length
      · obtain ⟨t, ht⟩ : ∃ t, t = L.getD i 0 := ⟨_, rfl⟩
        have htm := HT5.out.mem (getD_mem hlt)
        rw [← ht] at htm
        have HT := Lib.hid ht
        have HTM := Lib.hid htm
        clear ht htm
        go_wp2_with fail
        go_loopw [8] (fun kv wr => ∃ (k : Nat) (M : MemV), k ≤ 4 ∧ kv = .int .i64 k ∧ Marked S.M M L i k ∧ ({ S with M := M } : SpV).Ok ∧ CdAt wr c s p g { S with M := M } ∧ IntsAt wr A5 L.length (L.map (fun i : Nat => (i : Int))) ∧ Keep (fun _ => False) w wr) (fun kv _ => 4 - (intOf kv).toNat)
        case atStart => exact ⟨0, M, by omega, rfl, HM.out, okM, h, I, K⟩
        case round =>
          clear h I K HM okM
          obtain ⟨k, M, hk, rfl, hM, okM, h, I, K⟩ := hrel
          have HM := Lib.hid hM
          clear hM
          by_cases hk4 : k < 4
          · obtain ⟨b, off, rfl, hb, hcell⟩ := ints_cell I hlt
            rw [← HT.out] at hcell
            go_wp2_with fail
            refine (again_any h okM (t : Int) (k : Int)).mono ?_
            rintro e w3 ⟨M3, f3, rfl, h3, k3, ok3, _, _, hR⟩
            have hdet := AgainR.det hR (.inr (.inr ⟨t, k, rfl, by show t < M.lim; rw [HM.out.1.lim]; exact HTM.out.1, by show 0 < (M.sg t).taken; rw [HM.out.1.taken]; exact HTM.out.2, rfl, hk4, rfl, rfl⟩))
            obtain ⟨rfl, rfl⟩ := hdet
            have I3 := I.keep k3 HNM.out
            have hM3 := HM.out.step hk4 HT.out
            clear hR
            go_wp2_with fail
            go_roundw
            case rel => exact ⟨k + 1, _, by omega, by go_num, hM3, ok3, h3, I3, K.into k3 (mineS_from hs hp hg)⟩
            case measure => simp [intOf]; omega
          · obtain rfl : k = 4 := by omega
            have hM3 := HM.out.next hlt
            have HM3 := Lib.hid hM3
            clear hM3
            go_wp2_with fail
            go_roundw
            case rel => exact ⟨i + 1, M, by omega, by go_num, HM3.out, okM, h, I, K⟩
            case measure => simp [intOf]; omega
      · obtain rfl : i = L.length := by omega
        have hT : TakenL M [] L := HT5.out.congr HM.out.1.lim HM.out.1.taken
        have hdp : ∀ (gg t d : Nat), gg ≤ 4 → t ∈ L → d < 4 → dirtyB M gg t d = (decide ((gg : Int) < (M.sg t).gen) && pointsB M (M.sg t) d gg) := by
          intro gg t d hg ht hd
          refine dirty_points ?_ (by omega)
          rw [HM.out.2 t d hd (.inl (by rw [List.take_length]; exact ht))]
          exact (HM.out.1.ought t d).symm
        have HT := Lib.hid hT
        have HDP := Lib.hid hdp
        have l1024' : M.lim ≤ 1024 := by rw [HM.out.1.lim]; exact l1024
        clear hT hdp HM HT5 HNM ok hcn
        obtain ⟨S', hS'⟩ : ∃ S' : SpV, S' = { S with M := M } := ⟨_, rfl⟩
        have hMS : M = S'.M := by rw [hS']
        rw [← hS'] at okM h
        subst hMS
        clear hS' l1024 hi
        go_wp2_with fail
        go_loopw [9] (fun gv wr => ∃ gg : Nat, gg ≤ 4 ∧ gv = .int .i64 gg ∧ CdAt wr c s p g S' ∧ IntsAt wr A5 L.length (L.map (fun i : Nat => (i : Int))) ∧ Keep (fun _ => False) w wr) (fun gv _ => 4 - (intOf gv).toNat)
        case atStart => exact ⟨0, by omega, rfl, h, I, K⟩
        case round =>
          clear h I K
          obtain ⟨gg, hgg, rfl, h, I, K⟩ := hrel
          by_cases hg4 : gg < 4
          · go_wp2_with fail
            refine (dirty_any h okM HT.out (gg : Int)).mono ?_
            rintro e w3 ⟨A6, c6, rfl, C6, _, k3⟩
            replace h := h.keep0 k3
            replace I := I.keep0 k3
            replace K := K.trans k3
            have hdl := dirtyL_len S'.M gg L
            have HC6 := Lib.hid C6
            clear k3 C6
            go_wp2_with fail
            go_loopw [11, 12] (fun nv iv wr => ∃ i : Nat, i ≤ L.length ∧ iv = .int .i64 i ∧ nv = .int .i64 (((dirtyL S'.M gg (L.take i)).length : Nat) : Int) ∧ Keep (fun _ => False) w3 wr) (fun _ iv _ => L.length - (intOf iv).toNat)
            case atStart => exact ⟨0, Nat.zero_le _, rfl, rfl, Keep.refl _ _⟩
            case round =>
              obtain ⟨i, hi, rfl, rfl, k⟩ := hrel
              by_cases hlt : i < L.length
              · obtain ⟨t, ht⟩ : ∃ t, t = L.getD i 0 := ⟨_, rfl⟩
                have htL : t ∈ L := by rw [ht]; exact getD_mem hlt
                have htm := HT.out.mem htL
                have HTL := Lib.hid htL
                have HTM1 := Lib.hid htm.1
                have HTM2 := Lib.hid htm.2
                have htk := dirtyL_take S'.M gg L i hlt
                rw [← ht] at htk
                have HTK := Lib.hid htk
                have Ht := Lib.hid ht
                have hdi := dirtyL_len S'.M gg (L.take i)
                rw [List.length_take] at hdi
                have hdi2 : (dirtyL S'.M gg (L.take i)).length ≤ 4096 := by omega
                have HDI := Lib.hid hdi2
                clear htL htm htk hdi hdi2
                have hw := h.keep0 k
                have c0 := hw.ptr
                have s0 := hw.sp.ptr
                have HW := Lib.hid hw
                have HI := Lib.hid I
                obtain ⟨b, off, rfl, hb, hcell⟩ := ints_cell (I.keep0 k) hlt
                rw [← ht] at hcell
                clear hw ht I
                go_upto_region 21 with (fail)
                go_cut [13, 14] (fun b o wx => ∃ xb : Nat, b = .pointer (some ⟨xb, 0, none⟩) ∧ o = .bool true ∧ SAt wx xb (S'.M.sg t) ∧ Keep (fun _ => False) wr wx)
                case first =>
                  have e1 := World.new_ne wr _ hcell
                  have e2 := World.new_ne wr _ c0
                  have e3 := World.new_ne wr _ s0
                  have Kr : Keep (fun _ => False) wr wr.drew := (Keep.refl _ _).drew
                  go_region_held3 (fun w' => w'.cell? ⟨c, 0, none⟩ = some (.pointer (some ⟨s, 0, none⟩)) ∧ w'.cell? ⟨s, 0, none⟩ = some (.pointer (some ⟨p, 0, none⟩)) ∧ w'.cell? ⟨b, off + i, none⟩ = some (.int .i64 (t : Int))) (go_keep)
                    ((go_at_call 17; refine (seg_yes_v9 p g S'.M t _ ?_ l1024' HTM1.out HTM2.out).mono ?_; (exact HW.out.sp.mem.keep (S := fun _ => False) (by repeat (first | exact Keep.refl _ _ | with_reducible apply Keep.drew | with_reducible apply Keep.alloc)) id id); rintro e w4 ⟨oo, rfl, rfl⟩))
                  all_goals (go_wp2_with fail)
                  all_goals go_meet
                  all_goals refine ⟨_, rfl, rfl, ?_, (((Keep.refl _ _).alloc _).alloc _).drew⟩
                  all_goals (first | exact sat1_9 _ _ _ | exact sat2_9 _ _ _)
                case rest =>
                  obtain ⟨xb, rfl, rfl, hS, Kx⟩ := hcut
                  have Kd := k.trans Kx
                  clear c0 s0 HW hcell Kx hb
                  go_wp2_with fail
                  go_loopw [11, 15] (fun nv kv wx => ∃ j : Nat, j ≤ 4 ∧ kv = .int .i64 j ∧ nv = .int .i64 (((dirtyL S'.M gg (L.take i) ++ dirtyS S'.M gg t j).length : Nat) : Int) ∧ SAt wx xb (S'.M.sg t) ∧ Keep (fun _ => False) w3 wx) (fun _ kv _ => 4 - (intOf kv).toNat)
                  case atStart => exact ⟨0, by omega, rfl, by simp [dirtyS], hS, Kd⟩
                  case round =>
                    clear hS Kd
                    obtain ⟨j, hj, rfl, rfl, hS, kx⟩ := hrel
                    by_cases hj4 : j < 4
                    · have hbv := HDP.out gg t j (by omega) HTL.out hj4
                      have hhas : ∀ bb, dirtyB S'.M gg t j = bb → decide ((t, j) ∈ dirtyL S'.M gg L) = bb := by
                        intro bb e
                        rw [← e, Bool.eq_iff_iff, decide_eq_true_eq, mem_dirtyL]
                        exact ⟨fun h => h.2.2, fun h => ⟨HTL.out, hj4, h⟩⟩
                      have hC := HC6.out.keep0 kx
                      have hwx := h.keep0 kx
                      obtain ⟨b', off', e', hb', hcell⟩ := ints_cell (HI.out.keep0 kx) hlt
                      injection e' with e'
                      injection e' with e1 e2 _
                      subst e1 e2
                      rw [← Ht.out] at hcell
                      have hlen4 : (dirtyL S'.M gg (L.take i) ++ dirtyS S'.M gg t j).length ≤ 5000 := by
                        rw [List.length_append]
                        have := dirtyS_len S'.M gg t j
                        have := HDI.out
                        omega
                      obtain ⟨nn, hnn⟩ : ∃ nn, nn = (dirtyL S'.M gg (L.take i) ++ dirtyS S'.M gg t j).length := ⟨_, rfl⟩
                      have hn1 : dirtyB S'.M gg t j = true → nn + 1 = (dirtyL S'.M gg (L.take i) ++ dirtyS S'.M gg t (j + 1)).length := by
                        intro hd
                        rw [hnn, dirtyS_succ, if_pos hd]
                        simp only [List.length_append, List.length_cons, List.length_nil]
                        omega
                      have hn0 : dirtyB S'.M gg t j = false → nn = (dirtyL S'.M gg (L.take i) ++ dirtyS S'.M gg t (j + 1)).length := by
                        intro hd
                        rw [hnn, dirtyS_succ, hd]
                        simp
                      rw [← hnn] at hlen4 ⊢
                      have HBV := Lib.hid hbv
                      have HHAS := Lib.hid hhas
                      have HN1 := Lib.hid hn1
                      have HN0 := Lib.hid hn0
                      have HS := Lib.hid hS
                      have HC := Lib.hid hC
                      have HWX := Lib.hid hwx
                      have hdl2 : (dirtyL S'.M gg L).length ≤ 1000000 := by omega
                      have HDL := Lib.hid hdl2
                      obtain ⟨x0, x1, x2, x3, x4, x5, x6⟩ := hS.cells
                      have hF : ∀ w', Keep (fun _ => False) wr w' → w'.cell? ⟨xb, 0, none⟩ = some (.int .i64 (S'.M.sg t).gen) ∧ w'.cell? ⟨xb, 1, none⟩ = some (.int .i64 (S'.M.sg t).kind) ∧ w'.cell? ⟨xb, 2, none⟩ = some (.int .i64 (S'.M.sg t).n) ∧ w'.cell? ⟨xb, 3, none⟩ = some (.int .i64 (S'.M.sg t).c0) ∧ w'.cell? ⟨xb, 4, none⟩ = some (.int .i64 (S'.M.sg t).c1) ∧ w'.cell? ⟨xb, 5, none⟩ = some (.int .i64 (S'.M.sg t).c2) ∧ w'.cell? ⟨xb, 6, none⟩ = some (.int .i64 (S'.M.sg t).c3) ∧ w'.cell? ⟨b, off + i, none⟩ = some (.int .i64 (t : Int)) := by
                        intro w' K'
                        obtain ⟨y0, y1, y2, y3, y4, y5, y6⟩ := SAt.cells (w := w') (b := xb) (s := S'.M.sg t) (K'.heap HS.out (by simp))
                        exact ⟨y0, y1, y2, y3, y4, y5, y6, (K'.cell (p := ⟨b, off + i, none⟩) hb' (by simp)).trans hcell⟩
                      have HF := Lib.hid hF
                      clear hbv hhas hC hwx hnn hn1 hn0 hdl2 hF hS
                      by_cases hgt : (gg : Int) < (S'.M.sg t).gen
                      · by_cases hpt : pointsB S'.M (S'.M.sg t) j gg = true
                        · have hd : dirtyB S'.M gg t j = true := by rw [HBV.out]; simp [hgt, hpt]
                          have Hd := Lib.hid hd
                          have HPA := Lib.hid (fun (w' : World) (K' : Keep (fun _ => False) wr w') => (show Calls Try.prog 43 #[.pointer (some ⟨c, 0, none⟩), sgArg (S'.M.sg t), .int .i64 (t : Int), .int .i64 (j : Int), .int .i64 (gg : Int)] w' (PointsPost true w') by rw [← hpt]; exact points_any (HWX.out.keep0 K') okM t j HTM1.out HTM2.out hj4 gg))
                          have Kr : Keep (fun _ => False) wr wr.drew := (Keep.refl _ _).drew
                          clear hd hpt
                          go_wp2_with fail
                          go_region_held3 (fun w' => w'.cell? ⟨xb, 0, none⟩ = some (.int .i64 (S'.M.sg t).gen) ∧ w'.cell? ⟨xb, 1, none⟩ = some (.int .i64 (S'.M.sg t).kind) ∧ w'.cell? ⟨xb, 2, none⟩ = some (.int .i64 (S'.M.sg t).n) ∧ w'.cell? ⟨xb, 3, none⟩ = some (.int .i64 (S'.M.sg t).c0) ∧ w'.cell? ⟨xb, 4, none⟩ = some (.int .i64 (S'.M.sg t).c1) ∧ w'.cell? ⟨xb, 5, none⟩ = some (.int .i64 (S'.M.sg t).c2) ∧ w'.cell? ⟨xb, 6, none⟩ = some (.int .i64 (S'.M.sg t).c3) ∧ w'.cell? ⟨b, off + i, none⟩ = some (.int .i64 (t : Int)))
                            (first | exact ⟨x0, x1, x2, x3, x4, x5, x6, hcell⟩ | exact HF.out _ Kr | exact HF.out _ (by assumption))
                            ((go_at_call 43; refine (HPA.out _ Kr).mono ?_; rintro e w9 ⟨rfl, k9⟩; have K9 : Keep (fun _ => False) wr w9 := Kr.trans k9))
                          all_goals
                            obtain ⟨_, _, _, _, _, _, _, z7⟩ := HF.out _ K9
                            go_wp2_with fail
                            refine (has_any A6 _ c6 (dirtyL S'.M gg L) (t, j) _ (HC.out.keep0 K9) HDL.out).mono ?_
                            rintro e w10 ⟨rfl, k10⟩
                            rw [HHAS.out true Hd.out]
                            have K10 := kx.trans (K9.trans k10)
                            have HS10 : SAt w10 xb (S'.M.sg t) := (K9.trans k10).heap HS.out (by simp)
                            have HS11 := Lib.hid HS10
                            clear HS10 k10
                            go_wp2_with fail
                            go_roundw
                            case rel => exact ⟨j + 1, by omega, by go_num, by rw [← HN1.out Hd.out]; go_num, HS11.out, K10⟩
                            case measure => simp [intOf]; omega
                        · replace hpt : pointsB S'.M (S'.M.sg t) j gg = false := by simpa using hpt
                          have hd : dirtyB S'.M gg t j = false := by rw [HBV.out]; simp [hpt]
                          have Hd := Lib.hid hd
                          have HPA := Lib.hid (fun (w' : World) (K' : Keep (fun _ => False) wr w') => (show Calls Try.prog 43 #[.pointer (some ⟨c, 0, none⟩), sgArg (S'.M.sg t), .int .i64 (t : Int), .int .i64 (j : Int), .int .i64 (gg : Int)] w' (PointsPost false w') by rw [← hpt]; exact points_any (HWX.out.keep0 K') okM t j HTM1.out HTM2.out hj4 gg))
                          have Kr : Keep (fun _ => False) wr wr.drew := (Keep.refl _ _).drew
                          clear hd hpt
                          go_wp2_with fail
                          go_region_held3 (fun w' => w'.cell? ⟨xb, 0, none⟩ = some (.int .i64 (S'.M.sg t).gen) ∧ w'.cell? ⟨xb, 1, none⟩ = some (.int .i64 (S'.M.sg t).kind) ∧ w'.cell? ⟨xb, 2, none⟩ = some (.int .i64 (S'.M.sg t).n) ∧ w'.cell? ⟨xb, 3, none⟩ = some (.int .i64 (S'.M.sg t).c0) ∧ w'.cell? ⟨xb, 4, none⟩ = some (.int .i64 (S'.M.sg t).c1) ∧ w'.cell? ⟨xb, 5, none⟩ = some (.int .i64 (S'.M.sg t).c2) ∧ w'.cell? ⟨xb, 6, none⟩ = some (.int .i64 (S'.M.sg t).c3) ∧ w'.cell? ⟨b, off + i, none⟩ = some (.int .i64 (t : Int)))
                            (first | exact ⟨x0, x1, x2, x3, x4, x5, x6, hcell⟩ | exact HF.out _ Kr | exact HF.out _ (by assumption))
                            ((go_at_call 43; refine (HPA.out _ Kr).mono ?_; rintro e w9 ⟨rfl, k9⟩; have K9 : Keep (fun _ => False) wr w9 := Kr.trans k9))
                          all_goals
                            obtain ⟨_, _, _, _, _, _, _, z7⟩ := HF.out _ K9
                            go_wp2_with fail
                            refine (has_any A6 _ c6 (dirtyL S'.M gg L) (t, j) _ (HC.out.keep0 K9) HDL.out).mono ?_
                            rintro e w10 ⟨rfl, k10⟩
                            rw [HHAS.out false Hd.out]
                            have K10 := kx.trans (K9.trans k10)
                            have HS10 : SAt w10 xb (S'.M.sg t) := (K9.trans k10).heap HS.out (by simp)
                            have HS11 := Lib.hid HS10
                            clear HS10 k10
                            go_wp2_with fail
                            go_roundw
                            case rel => exact ⟨j + 1, by omega, by go_num, by rw [← HN0.out Hd.out], HS11.out, K10⟩
                            case measure => simp [intOf]; omega
                      · have hd : dirtyB S'.M gg t j = false := by rw [HBV.out]; simp [hgt]
                        have Hd := Lib.hid hd
                        have hgd : decide ((gg : Int) < (S'.M.sg t).gen) = false := decide_eq_false hgt
                        clear hd hgt
                        go_wp2_with fail
                        go_quiet (fail)
                        have K9 : Keep (fun _ => False) wr (wr.drewN nq) := (Keep.refl _ _).drewN nq
                        obtain ⟨_, _, _, _, _, _, _, z7⟩ := HF.out _ K9
                        go_wp2_with fail
                        refine (has_any A6 _ c6 (dirtyL S'.M gg L) (t, j) _ (HC.out.keep0 K9) HDL.out).mono ?_
                        rintro e w10 ⟨rfl, k10⟩
                        rw [HHAS.out false Hd.out]
                        have K10 := kx.trans (K9.trans k10)
                        have HS10 : SAt w10 xb (S'.M.sg t) := (K9.trans k10).heap HS.out (by simp)
                        have HS11 := Lib.hid HS10
                        clear HS10 k10
                        go_wp2_with fail
                        go_roundw
                        case rel => exact ⟨j + 1, by omega, by go_num, by rw [← HN0.out Hd.out], HS11.out, K10⟩
                        case measure => simp [intOf]; omega
                    · obtain rfl : j = 4 := by omega
                      rw [← HTK.out]
                      go_wp2_with fail
                      go_roundw
                      case rel => exact ⟨i + 1, by omega, by go_num, rfl, kx⟩
                      case measure => simp [intOf]; omega
              · obtain rfl : i = L.length := by omega
                rw [List.take_length]
                go_wp2_with fail
                go_roundw
                case rel => exact ⟨gg + 1, by omega, by go_num, h.keep0 k, I.keep0 k, K.trans k⟩
                case measure => simp [intOf]; omega
          · obtain rfl : gg = 4 := by omega
            go_wp2_with fail
            refine (awake9 _).mono ?_
            rintro e w4 ⟨rfl, k4⟩
            go_wp2_with fail
            go_ret
            exact ⟨rfl, K.trans k4⟩
end Go.Proofs.Ytgnpeciedefeiaa
