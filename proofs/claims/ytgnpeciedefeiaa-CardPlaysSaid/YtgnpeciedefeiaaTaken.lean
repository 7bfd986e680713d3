/-
  seg.Mem.Taken: its answer is just those that are told, by the order in which they were taken.
-/
import Derived.Test.YtgnpeciedefeiaaShelf
import Derived.Test.YtgnpeciedefeiaaSortAid
import Derived.Test.YtgnpeciedefeiaaNobody
import Derived.Deep.AppendLies
import Derived.Shelf.Abstract
namespace Go.Proofs.Ytgnpeciedefeiaa
open Go.RowKit

set_option maxHeartbeats 400000 in
theorem index_any (A : Option Addr) (n c : Nat) (gs : List Int) (x : Int) (w : World) (h : IntsAt w A n gs) (hn : n ≤ 1000000) :
    Calls Try.prog 87 #[.slice A n c, .int .i64 x] w (IdxPost gs x w) := by
  go_enter Try.func87, Try.ntmps87
  go_wp2_with fail
  go_loop [5, 8] (fun _ i => ∃ k : Nat, k ≤ n ∧ i = .int .i64 k ∧ ∀ j, j < k → gs.getD j 0 ≠ x) (fun _ i => n - (intOf i).toNat)
  case atStart => exact ⟨0, Nat.zero_le _, rfl, fun j hj => absurd hj (Nat.not_lt_zero _)⟩
  case round =>
    obtain ⟨k, hk, rfl, hne⟩ := hrel
    by_cases hlt : k < n
    · obtain ⟨b, off, rfl, hb, hc⟩ := h.2 k hlt
      have hlen := h.1
      have Hne := Lib.hid hne
      have H := Lib.hid h
      clear hne h
      by_cases he : x = gs.getD k 0
      · have hbt : (x == gs.getD k 0) = true := by simpa using he
        have hin : hasB gs x = true := by
          rw [hasB_iff, he, List.getD_eq_getElem?_getD, List.getElem?_eq_getElem (by omega)]
          exact List.getElem_mem _
        have Hin := Lib.hid hin
        have He := Lib.hid he
        clear hin he hlen
        generalize gs.getD k 0 = y at hc hbt
        go_wp2_with fail
        go_ret
        exact ⟨⟨k, rfl, fun _ => Hin.out, fun _ => by omega⟩, rfl⟩
      · have hbt : (x == gs.getD k 0) = false := by simpa using he
        have He := Lib.hid he
        clear he hlen
        obtain ⟨y, hy⟩ : ∃ y, y = gs.getD k 0 := ⟨_, rfl⟩
        rw [← hy] at hc hbt
        have Hy := Lib.hid hy
        clear hy
        go_wp2_with fail
        go_round
        case rel =>
          refine ⟨k + 1, by omega, by go_num, fun j hj => ?_⟩
          by_cases e : j < k
          · exact Hne.out j e
          · obtain rfl : j = k := by omega
            exact fun e => He.out e.symm
        case measure => simp [intOf]; omega
    · have hin : ¬ hasB gs x = true := by
        intro hm
        rw [hasB_iff] at hm
        obtain ⟨j, hj, e⟩ := List.mem_iff_getElem.1 hm
        have := h.1
        exact hne j (by omega) (by rw [List.getD_eq_getElem?_getD, List.getElem?_eq_getElem hj]; exact e)
      have Hin := Lib.hid hin
      clear hin hne
      go_wp2_with fail
      go_ret
      exact ⟨⟨-1, rfl, fun h => absurd h (by omega), fun h => absurd h Hin.out⟩, rfl⟩

set_option maxHeartbeats 400000 in
theorem contains_any (A : Option Addr) (n c : Nat) (gs : List Int) (x : Int) (w : World) (h : IntsAt w A n gs) (hn : n ≤ 1000000) :
    Calls Try.prog 56 #[.slice A n c, .int .i64 x] w fun e w' => e = .returned (.bool (hasB gs x)) ∧ w = w' := by
  go_enter Try.func56, Try.ntmps56
  go_wp2_with fail
  refine (index_any A n c gs x _ h hn).mono ?_
  rintro e w1 ⟨⟨i, rfl, hi⟩, rfl⟩
  have hb : decide (0 ≤ i) = hasB gs x := by
    by_cases h0 : 0 ≤ i
    · rw [hi.1 h0]; simpa using h0
    · have : hasB gs x = false := by rw [Bool.eq_false_iff]; exact fun h => h0 (hi.2 h)
      rw [this]; simpa using h0
  have Hb := Lib.hid hb
  clear hb hi
  go_wp2_with fail
  go_ret
  rw [← Hb.out]
  exact ⟨rfl, rfl⟩

/-- What Taken leaves. -/
def TakenPost (p g : Nat) (M : MemV) (gs : List Int) (w : World) (e : Ending) (w' : World) : Prop :=
  ∃ (A : Option Addr) (c : Nat) (L : List Nat), e = .returned (.slice A L.length c) ∧ IntsAt w' A L.length (L.map (fun i : Nat => (i : Int))) ∧ TakenL M gs L ∧ MemAt w' p g M ∧ Keep (fun _ => False) w w'

/-- The same, and the slice is new. -/
def TakenOwnPost (p g : Nat) (M : MemV) (gs : List Int) (w : World) (e : Ending) (w' : World) : Prop :=
  ∃ (A : Option Addr) (c : Nat) (L : List Nat), e = .returned (.slice A L.length c) ∧ IntsAt w' A L.length (L.map (fun i : Nat => (i : Int))) ∧ TakenL M gs L ∧ MemAt w' p g M ∧ Keep (fun _ => False) w w' ∧ ∀ b off, A = some ⟨b, off, none⟩ → w.heap.size ≤ b

theorem info3 : (Try.prog.info? 3).map (fun i => (i.zero, i.size, i.bytes)) = some (some (.int .i64 0), 1, 8) := by kernel_rfl

/-- The cells of what was gathered. -/
def cellsL (L : List Nat) : List Value := L.map (fun i : Nat => .int .i64 (i : Int))

theorem one_cell_at (w : World) (x : Value) (t : TypeId) : ∀ j u, [x][j]? = some u → (w.alloc (.cells #[x] t)).cell? ((⟨w.heap.size, 0, none⟩ : Addr).add j) = some u := by
  intro j u h
  match j with
  | 0 =>
    simp at h
    subst h
    simp [Addr.add]
  | j + 1 => simp at h

/-- What the sort answers, at a slice that the call itself made. -/
theorem sort_own (p g mb B n : Nat) (M : MemV) (ok : M.Ok) (gs : List Int) (v : Value) (w : World) (hm : MemAt w p g M) (hp : p < B) (hg : g < B) (hb : w.cell? ⟨mb, 0, none⟩ = some (.pointer (some ⟨p, 0, none⟩))) (hmb : mb < B)
    (hn : n = (sel M gs M.lim).length) (hown : w.ownsRow B 3 1 v n (cellsL (sel M gs M.lim))) :
    Calls Try.prog 57 #[v, .func (.func 58) #[] #[.pointer (some ⟨mb, 0, none⟩)]] w fun e w' => e = .returned (.tuple #[]) ∧ ∃ (A : Option Addr) (c : Nat) (L : List Nat), v = .slice A L.length c ∧ IntsAt w' A L.length (L.map (fun i : Nat => (i : Int))) ∧ TakenL M gs L ∧ Keep (fun b => B ≤ b) w w' := by
  by_cases h0 : n = 0
  · have hv : ∃ A c, v = .slice A 0 c := by
      rcases hown.2 with ⟨rfl, _⟩ | ⟨b, c, _, rfl, _⟩
      · exact ⟨_, _, rfl⟩
      · exact ⟨some ⟨b, 0, none⟩, c, by rw [h0]⟩
    obtain ⟨A, c, rfl⟩ := hv
    have hc := Go.Proofs.AnyF.slices_SortFunc_none (P := Try.prog) (ρ := Try.sortL_ren) { Try.sortL with } A c (.func (.func 58) #[] #[.pointer (some ⟨mb, 0, none⟩)]) w
    change Calls Try.prog 57 _ _ _ at hc
    refine hc.mono fun e w' ⟨he, hw⟩ => ⟨he, A, c, [], rfl, IntsAt.nil _ _, ⟨?_, List.Pairwise.nil⟩, by rw [hw]; exact Keep.refl _ _⟩
    have : (sel M gs M.lim) = [] := List.eq_nil_of_length_eq_zero (by omega)
    rw [this]
  · obtain ⟨b, c, rfl, hB, hlt⟩ := hown.form (by omega)
    have l8 := ok.l8
    letI : Inhabited {i : Nat // i < M.lim} := ⟨⟨0, by omega⟩⟩
    have hS : ∀ i ∈ sel M gs M.lim, i < M.lim := fun i hi => sel_lt hi
    obtain ⟨d, hd⟩ : ∃ d, d = rowF M.lim (sel M gs M.lim) hS := ⟨_, rfl⟩
    have hds : d.size = n := by rw [hd, rowF_size, hn]
    have hH : Go.Sort.Holds encF w b 0 d := by
      intro j hj
      have hj' : j < (sel M gs M.lim).length := by omega
      refine ⟨?_, hown.frozenAt _⟩
      rw [Nat.zero_add, hown.cellAt j (by omega)]
      have := rowF_get M.lim (sel M gs M.lim) hS j hj'
      rw [← hd] at this
      simp only [cellsL, List.getElem?_map, List.getElem?_eq_getElem hj', Option.map_some, encF, this, List.getD_eq_getElem?_getD, Option.getD_some]
    have eg : ∀ args w, (callFunc 58 args).run Try.prog w = .ok (.enter 58 args) w := Go.Proofs.enters_of Try.func58 (by kernel_rfl) rfl
    have hcmp : CmpReads Try.prog 58 #[.pointer (some ⟨mb, 0, none⟩)] encF (cfT M M.lim) b 0 d.size w := by
      intro m os dk _ x y
      have hK := keep_sort encF w b 0 m dk os
      have hM := hm.keep hK (by omega) (by omega)
      have hB2 := (hK.cell (p := ⟨mb, 0, none⟩) (World.block_lt_of_cell? w _ hb) (by show ¬ mb = b; omega)).trans hb
      exact closure58 p g mb M x.1 y.1 _ hM hB2 x.2 y.2
    have hc := Any.slices_SortFunc Try.sortL encF (fun _ => rfl) (cfT M M.lim) (swoT M M.lim) 58 #[.pointer (some ⟨mb, 0, none⟩)] b 0 c d w eg hcmp.lays hH hlt (by have := sel_len M gs M.lim; have := ok.l1024; omega)
    change Calls Try.prog 57 _ _ _ at hc
    rw [hds] at hc
    refine hc.mono fun e w' ⟨he, d', m, os, hP, hO, hw⟩ => ⟨he, ?_⟩
    have hsz : d'.size = d.size := hP.1
    have hH' : Go.Sort.Holds encF w' b 0 d' := by
      have hSW : SW encF w b 0 d' w' := ⟨m, os, hw⟩
      exact hSW.holds hlt hH hsz
    have hK := keep_sort encF w b 0 m d' os
    rw [← hw] at hK
    have hlen : (d'.toList.map (·.1)).length = n := by simp; omega
    refine ⟨some ⟨b, 0, none⟩, c, d'.toList.map (·.1), by rw [hlen], ⟨by simp, ?_⟩, takenL_of M ok gs d d' (by rw [hd]; exact rowF_list _ _ _) (by rw [hds]; exact hP) (by rw [hds]; exact hO), hK.mono (by rintro k _ rfl; exact hB)⟩
    intro j hj
    have hj' : j < d'.size := by simpa using hj
    refine ⟨b, 0, rfl, Nat.lt_of_lt_of_le hlt hK.size, ?_⟩
    rw [(hH' j hj').1, getElem!_pos _ j hj']
    simp [hj']

/-- The loop's relation. -/
def TakeRel (B : Nat) (M : MemV) (gs : List Int) (w1 : World) (k : Nat) (l : Value) (wr : World) : Prop :=
  wr.ownsRow B 3 1 l (sel M gs k).length (cellsL (sel M gs k)) ∧ Keep (fun _ => False) w1 wr ∧ B ≤ wr.heap.size

theorem takeRel_skip {B : Nat} {M : MemV} {gs : List Int} {w1 wr : World} {k : Nat} {l : Value} (h : TakeRel B M gs w1 k l wr) (hs : selB M gs k = false) : TakeRel B M gs w1 (k + 1) l wr := by
  unfold TakeRel at *
  rw [sel_succ, hs]
  simpa using h

set_option maxRecDepth 100000 in
set_option maxHeartbeats 2000000 in
theorem taken_own (p g : Nat) (M : MemV) (ok : M.Ok) (A : Option Addr) (n c : Nat) (gs : List Int) (w : World) (h : MemAt w p g M) (hg : IntsAt w A n gs) (hn : n ≤ 1000000) :
    Calls Try.prog 22 #[.pointer (some ⟨p, 0, none⟩), .slice A n c] w (TakenOwnPost p g M gs w) := by
  obtain ⟨i0, hi, hz0, hz1, hz2⟩ := info_parts info3
  have l1024 := ok.l1024
  obtain ⟨cap, c0, c1, c2⟩ := h.cells
  have hp := h.lt
  have hq := h.segs.lt
  have hp1 : ¬ p = w.heap.size := by omega
  have hp2 : ¬ w.heap.size = p := by omega
  go_enter Try.func22, Try.ntmps22
  go_wp2_with fail
  have k1 : Keep (fun _ => False) w (w.alloc (.cells #[.pointer (some ⟨p, 0, none⟩)] 23)) := (Keep.refl _ _).alloc _
  have m1 := h.keep k1 (by simp) (by simp)
  have g1 := hg.keep0 k1
  have b1 : (w.alloc (.cells #[.pointer (some ⟨p, 0, none⟩)] 23)).cell? ⟨w.heap.size, 0, none⟩ = some (.pointer (some ⟨p, 0, none⟩)) := by simp
  have z1 : (w.alloc (.cells #[.pointer (some ⟨p, 0, none⟩)] 23)).heap.size = w.heap.size + 1 := by simp
  generalize w.alloc (.cells #[.pointer (some ⟨p, 0, none⟩)] 23) = w1 at k1 m1 g1 b1 z1 ⊢
  obtain ⟨mb, hmb⟩ : ∃ mb, mb = w.heap.size := ⟨_, rfl⟩
  rw [← hmb] at b1 z1 hp1 hp2 ⊢
  obtain ⟨B, hB⟩ : ∃ B, B = w1.heap.size := ⟨_, rfl⟩
  have hpB : p < B := by omega
  have hqB : g < B := by omega
  have hmB : mb < B := by omega
  have HB := Lib.hid hB
  clear c0 c1 c2 h hg hp hq hp1 hp2 hB z1 hmb
  go_loopw [5, 15] (fun l i wr => ∃ k : Nat, k ≤ M.lim ∧ i = .int .i64 k ∧ TakeRel B M gs w1 k l wr) (fun _ i _ => M.lim - (intOf i).toNat)
  case atStart => exact ⟨0, Nat.zero_le _, rfl, World.ownsRow_nil _ _ _ _, Keep.refl _ _, by rw [HB.out]; exact Nat.le_refl _⟩
  case round =>
    obtain ⟨k, hk, rfl, R⟩ := hrel
    obtain ⟨hown, K, hBs⟩ := id R
    have HR := Lib.hid R
    clear R
    have m := m1.keep K (by simp) (by simp)
    have gg := g1.keep0 K
    have bb := (K.cell (p := ⟨mb, 0, none⟩) (World.block_lt_of_cell? w1 _ b1) (by simp)).trans b1
    obtain ⟨cap', d0, d1, d2⟩ := m.cells
    by_cases hlt : k < M.lim
    · have t7 := m.segs.2 k hlt 7 (by omega)
      have t0 := m.segs.2 k hlt 0 (by omega)
      simp only [Sg.cell, Nat.add_zero] at t7 t0
      by_cases ht : 0 < (M.sg k).taken
      · by_cases hz : n = 0
        · have hsel : selB M gs k = true := by
            have := g1.1
            simp [selB, ht, show gs.length = 0 from by omega]
          have Hsel := Lib.hid hsel
          clear hsel
          have hz' : ((n : Int) == 0) = true := by simpa using hz
          have Hz := Lib.hid hz
          clear hz
          go_wp2_with (at_builtin; refine wpList_append_own _ rfl (.tmp 43) (.tmp 45) 47 rfl B 3 i0 (.int .i64 0) 1 8 Try.underlying47 hi hz0 hz1 hz2 rfl (by decide) _ _ _ rfl (hown.alloc _) ⟨wr.heap.size, 0, none⟩ 1 1 [.int .i64 k] rfl rfl (one_cell_at _ _ _) ?a1 ?a2 ?a3 ?a4 ?_)
          case a1 => intro u hu; simp at hu; subst hu; rfl
          case a2 => have := sel_len M gs k; unfold maxLen; omega
          case a3 => have := sel_len M gs k; omega
          case a4 => simp; omega
          intro v' w2 hown' hgrow _
          have R' : TakeRel B M gs w1 (k + 1) v' w2 := by
            have hK := (K.alloc (.cells #[.int .i64 (k : Int)] 3)).grown hgrow (fun b hb => .inr (by
              rcases hown.2 with ⟨rfl, _⟩ | ⟨b', c', _, rfl, hb', _⟩
              · cases hb
              · simp [Value.ownBlock] at hb; have := HB.out; omega))
            refine ⟨?_, hK, Nat.le_trans hBs (Nat.le_trans (by simp) hgrow.size)⟩
            rw [sel_succ, Hsel.out]
            simpa [cellsL] using hown'
          clear hown' hgrow hown
          go_wp2
          go_roundw
          case rel => exact ⟨k + 1, by omega, by go_num, R'⟩
          case measure => simp [intOf]; omega
        · have hz' : ((n : Int) == 0) = false := by simpa using hz
          have hl : ¬ gs.length = 0 := by have := g1.1; omega
          clear hz
          by_cases hc : hasB gs (M.sg k).gen = true
          · have hsel : selB M gs k = true := by simp [selB, ht, hc]
            have Hsel := Lib.hid hsel
            clear hsel hl
            go_wp2_with fail
            refine (contains_any A n c gs _ _ gg hn).mono ?_
            rintro e w3 ⟨rfl, rfl⟩
            go_wp2_with (at_builtin; refine wpList_append_own _ rfl (.tmp 43) (.tmp 45) 47 rfl B 3 i0 (.int .i64 0) 1 8 Try.underlying47 hi hz0 hz1 hz2 rfl (by decide) _ _ _ rfl (hown.alloc _) ⟨wr.heap.size, 0, none⟩ 1 1 [.int .i64 k] rfl rfl (one_cell_at _ _ _) ?b1 ?b2 ?b3 ?b4 ?_)
            case b1 => intro u hu; simp at hu; subst hu; rfl
            case b2 => have := sel_len M gs k; unfold maxLen; omega
            case b3 => have := sel_len M gs k; omega
            case b4 => simp; omega
            intro v' w2 hown' hgrow _
            have R' : TakeRel B M gs w1 (k + 1) v' w2 := by
              have hK := (K.alloc (.cells #[.int .i64 (k : Int)] 3)).grown hgrow (fun b hb => .inr (by
                rcases hown.2 with ⟨rfl, _⟩ | ⟨b', c', _, rfl, hb', _⟩
                · cases hb
                · simp [Value.ownBlock] at hb; have := HB.out; omega))
              refine ⟨?_, hK, Nat.le_trans hBs (Nat.le_trans (by simp) hgrow.size)⟩
              rw [sel_succ, Hsel.out]
              simpa [cellsL] using hown'
            clear hown' hgrow hown
            go_wp2
            go_roundw
            case rel => exact ⟨k + 1, by omega, by go_num, R'⟩
            case measure => simp [intOf]; omega
          · have hc' : hasB gs (M.sg k).gen = false := by simpa using hc
            have hs : selB M gs k = false := by simp [selB, hc', hl]
            have Hs := Lib.hid hs
            clear hs hl hc
            go_wp2_with fail
            refine (contains_any A n c gs _ _ gg hn).mono ?_
            rintro e w3 ⟨rfl, rfl⟩
            go_wp2_with fail
            go_roundw
            case rel => exact ⟨k + 1, by omega, by go_num, takeRel_skip HR.out Hs.out⟩
            case measure => simp [intOf]; omega
      · have hs : selB M gs k = false := by simp [selB, ht]
        have Hs := Lib.hid hs
        clear hs
        go_wp2_with fail
        go_roundw
        case rel => exact ⟨k + 1, by omega, by go_num, takeRel_skip HR.out Hs.out⟩
        case measure => simp [intOf]; omega
    · obtain rfl : k = M.lim := by omega
      have Hown := Lib.hid hown
      clear hown HR
      go_wp2_with fail
      refine (sort_own p g mb B _ M ok gs _ _ m hpB hqB bb hmB rfl Hown.out).mono ?_
      rintro e w2 ⟨rfl, A', c', L, hv, hI, hT, hK⟩
      have hnew : ∀ b off, A' = some ⟨b, off, none⟩ → w.heap.size ≤ b := by
        intro b off e
        have hw1 := k1.size
        have hB1 := HB.out
        rcases Hown.out.2 with ⟨h, _⟩ | ⟨b', c2, _, h, hb', _⟩
        · rw [hv, e] at h
          injection h with h
          cases h
        · rw [hv, e] at h
          injection h with h
          injection h with h
          injection h with h
          omega
      have HN := Lib.hid hnew
      have Hv := Lib.hid hv
      clear hv Hown hnew
      go_wp2_with fail
      go_ret
      exact ⟨A', c', L, congrArg Ending.returned Hv.out, hI, hT, m.keep hK (by omega) (by omega), (k1.trans K).into hK (fun i hi => by have := HB.out; have := k1.size; omega), HN.out⟩
theorem taken_any (p g : Nat) (M : MemV) (ok : M.Ok) (A : Option Addr) (n c : Nat) (gs : List Int) (w : World) (h : MemAt w p g M) (hg : IntsAt w A n gs) (hn : n ≤ 1000000) :
    Calls Try.prog 22 #[.pointer (some ⟨p, 0, none⟩), .slice A n c] w (TakenPost p g M gs w) :=
  (taken_own p g M ok A n c gs w h hg hn).mono fun _ _ ⟨A', c', L, h1, h2, h3, h4, h5, _⟩ => ⟨A', c', L, h1, h2, h3, h4, h5⟩
end Go.Proofs.Ytgnpeciedefeiaa
