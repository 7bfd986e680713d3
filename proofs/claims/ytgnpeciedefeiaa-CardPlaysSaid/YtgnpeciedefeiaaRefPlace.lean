/-
  The document's memory: what New, Place, Word, Read answer.
-/
import Derived.Test.YtgnpeciedefeiaaRefStore
import Derived.Test.YtgnpeciedefeiaaAll
namespace Go.Proofs.Ytgnpeciedefeiaa
open Go.RowKit

theorem rnew_none (limit : Int) (w : World) (h : limit < 8 ∨ 1024 < limit) :
    Calls Try.prog 24 #[.int .i64 limit] w fun e w' => e = .returned (.pointer none) ∧ w = w' := by
  by_cases a : limit < 8
  · clear h
    go_enter Try.func24, Try.ntmps24
    go_wp2
    go_ret
    exact ⟨rfl, rfl⟩
  · have b : 1024 < limit := by omega
    clear h
    go_enter Try.func24, Try.ntmps24
    go_wp2
    go_ret
    exact ⟨rfl, rfl⟩

theorem takenL_new (lim : Nat) : TakenL (MemV.new lim) [] [] := by
  refine ⟨?_, List.Pairwise.nil⟩
  have : sel (MemV.new lim) [] (MemV.new lim).lim = [] := by
    unfold sel
    rw [List.filter_eq_nil_iff]
    intro i _
    simp [selB, MemV.new, Sg.none]
  rw [this]

theorem rnew_some (lim base : Nat) (limit : Int) (w : World) (hl : limit = lim) (h8 : 8 ≤ lim) (h1024 : lim ≤ 1024) (hb : base ≤ w.heap.size) :
    Calls Try.prog 24 #[.int .i64 limit] w fun e w' => ∃ q : Nat, e = .returned (.pointer (some ⟨q, 0, none⟩)) ∧ w.heap.size ≤ q ∧ RefAt w' base q (MemV.new lim) [] ∧ Keep (fun _ => False) w w' := by
  subst hl
  go_enter Try.func24, Try.ntmps24
  go_wp2
  go_ret
  refine ⟨_, rfl, Nat.le_refl _, ⟨takenL_new lim, .slice none 0 0, fun _ => .slice none 0 0, hb, ?_, World.ownsRow_nil _ _ _ _, fun i hi => absurd hi (by simp), fun i hi => absurd hi (by simp)⟩, (Keep.refl _ _).alloc _⟩
  exact heap_alloc_new w _

def PlacePost (M : MemV) (L : List Nat) (seg : Int) (w : World) (e : Ending) (w' : World) : Prop :=
  w = w' ∧ ((¬ M.has seg ∧ e = .returned (.int .i64 (-1))) ∨ ∃ i : Nat, i < L.length ∧ seg = ((L.getD i 0 : Nat) : Int) ∧ e = .returned (.int .i64 i))

set_option maxHeartbeats 800000 in
theorem place_any {w : World} {base q : Nat} {M : MemV} {L : List Nat} {v : Value} {wv : Nat → Value} {cnt : Nat → Nat} (R : RefAtN w base q M L v wv cnt) (T : TakenL M [] L) (hl : L.length ≤ 1024) (seg : Int) :
    Calls Try.prog 91 #[.pointer (some ⟨q, 0, none⟩), .int .i64 seg] w (PlacePost M L seg w) := by
  obtain ⟨A, cap, rfl⟩ := R.shape
  obtain ⟨c0, c1⟩ := R.cells
  go_enter Try.func91, Try.ntmps91
  go_wp2_with fail
  go_loopw [5] (fun i wr => ∃ k : Nat, k ≤ L.length ∧ i = .int .i64 k ∧ wr = w ∧ ∀ j, j < k → ((L.getD j 0 : Nat) : Int) ≠ seg) (fun i _ => L.length - (intOf i).toNat)
  case atStart => exact ⟨0, Nat.zero_le _, rfl, rfl, fun j hj => absurd hj (Nat.not_lt_zero j)⟩
  case round =>
    obtain ⟨k, hk, rfl, rfl, hne⟩ := hrel
    have HN := Lib.hid hne
    clear hne
    by_cases hlt : k < L.length
    · obtain ⟨g, cap', hv, hg, hf, hrow⟩ := R.row hlt
      injection hv with hv1 hv2 hv3
      subst hv1 hv3
      have r0 := hrow 0 (by omega)
      simp only [rc, Nat.add_zero] at r0
      obtain ⟨t, ht⟩ : ∃ t, t = L.getD k 0 := ⟨_, rfl⟩
      rw [← ht] at r0
      have Ht := Lib.hid ht
      clear ht hrow hf
      by_cases e : (t : Int) = seg
      · subst e
        go_wp2_with fail
        go_ret
        exact ⟨rfl, .inr ⟨k, hlt, by rw [Ht.out], rfl⟩⟩
      · have hb : ((t : Int) == seg) = false := by simpa using e
        have He := Lib.hid e
        clear e
        go_wp2_with fail
        go_roundw
        case rel => exact ⟨k + 1, by omega, by go_num, trivial, fun j hj => by
          by_cases hjk : j = k
          · subst hjk; rw [← Ht.out]; exact He.out
          · exact HN.out j (by omega)⟩
        case measure => simp [intOf]; omega
    · obtain rfl : k = L.length := by omega
      go_wp2_with fail
      go_ret
      refine ⟨rfl, .inl ⟨fun hh => ?_, rfl⟩⟩
      obtain ⟨t, rfl, h1, h2⟩ := MemV.has_iff.1 hh
      obtain ⟨j, hj, e⟩ := List.mem_iff_getElem.1 (T.has h1 h2)
      refine HN.out j hj ?_
      rw [List.getD_eq_getElem?_getD, List.getElem?_eq_getElem hj]
      simp [e]

def WordPost (M : MemV) (L : List Nat) (addr : Int) (w : World) (e : Ending) (w' : World) : Prop :=
  w = w' ∧ ((¬ M.used addr ∧ e = .returned (.tuple #[.int .i64 0, .int .i64 0, .bool false])) ∨ ∃ (a i : Nat), addr = a ∧ i < L.length ∧ L.getD i 0 = a / 64 ∧ a % 64 < cntOf M (a / 64) ∧ e = .returned (.tuple #[.int .i64 i, .int .i64 (a % 64 : Nat), .bool true]))

theorem cntOf_eq {M : MemV} (ok : M.Ok) {t : Nat} (ht : t < M.lim) : ((cntOf M t : Nat) : Int) = (M.sg t).n := by
  have := (ok.sg t ht).n0
  unfold cntOf
  omega

set_option maxHeartbeats 800000 in
theorem word_ref {w : World} {base q : Nat} {M : MemV} {L : List Nat} {v : Value} {wv : Nat → Value} (R : RefAtN w base q M L v wv (cntOf M)) (T : TakenL M [] L) (ok : M.Ok) (hl : L.length ≤ 1024) (addr : Int) (hA : addr ≤ 9223372036854775807) :
    Calls Try.prog 92 #[.pointer (some ⟨q, 0, none⟩), .int .i64 addr] w (WordPost M L addr w) := by
  obtain ⟨A, cap, rfl⟩ := R.shape
  obtain ⟨c0, c1⟩ := R.cells
  by_cases h0 : addr < 0
  · go_enter Try.func92, Try.ntmps92
    go_wp2_with fail
    exact bodyPost_ret (v := .tuple #[.int .i64 0, .int .i64 0, .bool false]) (by simp [results, Try.results92, go_sem]) rfl ⟨rfl, .inl ⟨fun h => by have := h.1; omega, rfl⟩⟩
  · obtain ⟨a, rfl⟩ := Int.eq_ofNat_of_zero_le (by omega : 0 ≤ addr)
    go_enter Try.func92, Try.ntmps92
    go_wp2_with fail
    refine (place_any R T hl _).mono ?_
    rintro e w' ⟨rfl, hP⟩
    rcases hP with ⟨hn, rfl⟩ | ⟨i, hi, hs, rfl⟩
    · have HN := Lib.hid hn
      clear hn
      go_wp2_with fail
      exact bodyPost_ret (v := .tuple #[.int .i64 0, .int .i64 0, .bool false]) (by simp [results, Try.results92, go_sem]) rfl ⟨rfl, .inl ⟨fun h => HN.out h.2.1, rfl⟩⟩
    · obtain ⟨g, cap', hv, hg, hf, hrow⟩ := R.row hi
      injection hv with hv1 hv2 hv3
      subst hv1 hv3
      have r8 := hrow 8 (by omega)
      simp only [rc] at r8
      obtain ⟨A', cap', hwv⟩ := R.wshape (R.memL hi)
      rw [hwv] at r8
      have htl := (T.mem (R.memL hi)).1
      obtain ⟨t, ht⟩ : ∃ t, t = L.getD i 0 := ⟨_, rfl⟩
      rw [← ht] at r8 hs htl
      have hta : t = a / 64 := by omega
      have hc := cntOf_eq ok htl
      obtain ⟨c, hcc⟩ : ∃ c, c = cntOf M t := ⟨_, rfl⟩
      rw [← hcc] at r8 hc
      have Ht := Lib.hid ht
      have Hcc := Lib.hid hcc
      have Hc := Lib.hid hc
      have Hta := Lib.hid hta
      clear ht hcc hrow hf hwv hc hs hta
      by_cases hlt : a % 64 < c
      · go_wp2_with fail
        exact bodyPost_ret (v := .tuple #[.int .i64 i, .int .i64 (a % 64 : Nat), .bool true]) (by simp [results, Try.results92, go_sem]) rfl ⟨rfl, .inr ⟨a, i, rfl, hi, by rw [← Ht.out, Hta.out], by rw [← Hta.out, ← Hcc.out]; exact hlt, rfl⟩⟩
      · go_wp2_with fail
        refine bodyPost_ret (v := .tuple #[.int .i64 0, .int .i64 0, .bool false]) (by simp [results, Try.results92, go_sem]) rfl ⟨rfl, .inl ⟨fun h => ?_, rfl⟩⟩
        obtain ⟨a', e', h1, h2, h3⟩ := MemV.used_iff.1 h
        obtain rfl : a = a' := by omega
        have := Hc.out
        rw [Hta.out] at this
        omega

set_option maxHeartbeats 800000 in
theorem read_ref {w : World} {base q : Nat} {M : MemV} {L : List Nat} (R : RefAt w base q M L) (ok : M.Ok) (addr : Int) (hA : addr ≤ 9223372036854775807) :
    Calls Try.prog 67 #[.pointer (some ⟨q, 0, none⟩), .int .i64 addr] w (ReadPost M addr w) := by
  obtain ⟨T, v, wv, R⟩ := R
  have hl : L.length ≤ 1024 := by have := T.len; have := sel_len M [] M.lim; have := ok.l1024; omega
  obtain ⟨A, cap, rfl⟩ := R.shape
  obtain ⟨c0, c1⟩ := R.cells
  go_enter Try.func67, Try.ntmps67
  go_wp2_with fail
  refine (word_ref R T ok hl _ hA).mono ?_
  rintro e w' ⟨rfl, hP⟩
  rcases hP with ⟨hn, rfl⟩ | ⟨a, i, rfl, hi, ht, hlt, rfl⟩
  · have HN := Lib.hid hn
    clear hn
    go_wp2_with fail
    go_ret2
    exact ⟨_, _, rfl, rfl, .inl ⟨HN.out, rfl, rfl⟩⟩
  · obtain ⟨g, cap', hv, hg, hf, hrow⟩ := R.row hi
    injection hv with hv1 hv2 hv3
    subst hv1 hv3
    have r8 := hrow 8 (by omega)
    simp only [rc] at r8
    have hmem := R.memL hi
    obtain ⟨ht1, ht2⟩ := T.mem (R.memL hi)
    rw [ht] at r8 hmem ht1 ht2
    obtain ⟨g2, cap2, hwv, _, _, hw⟩ := R.wrow hmem hlt
    rw [hwv] at r8
    have hc := cntOf_eq ok ht1
    obtain ⟨c, hcc⟩ : ∃ c, c = cntOf M (a / 64) := ⟨_, rfl⟩
    rw [← hcc] at r8 hc hlt
    have Hc := Lib.hid hc
    have Ht1 := Lib.hid ht1
    have Ht2 := Lib.hid ht2
    have hlt2 : (a : Int) % 64 < c := by omega
    clear hcc hrow hf hwv hc ht ht1 ht2
    go_wp2_with fail
    go_ret2
    exact ⟨_, _, rfl, rfl, .inr ⟨a, rfl, Ht1.out, Ht2.out, by rw [← Hc.out]; omega, rfl, rfl⟩⟩
end Go.Proofs.Ytgnpeciedefeiaa
