/-
  The document's cards (package moraineref09): New, Of, Gen, Store, Ought, Again, Dirty, Same.
-/
import Derived.Test.YtgnpeciedefeiaaCdAwake
import Derived.Test.YtgnpeciedefeiaaCdPlayed
import Derived.Laws.StructEq
namespace Go.Proofs.Ytgnpeciedefeiaa
open Go.RowKit

/-- The document's cards lie at block m, its space at r, its memory at q. -/
structure R9At (w : World) (base m r q : Nat) (S : SpV) (L : List Nat) : Prop where
  bm : base ≤ m
  head : w.heap[m]? = some (.cells #[.pointer (some ⟨r, 0, none⟩)] 141 (0, 0))
  sp : R8At w base r q S L
theorem R9At.ptr {w : World} {base m r q : Nat} {S : SpV} {L : List Nat} (h : R9At w base m r q S L) : w.cell? ⟨m, 0, none⟩ = some (.pointer (some ⟨r, 0, none⟩)) := by
  rw [cell_of_row w m 0 _ _ _ h.head]; rfl
theorem R9At.lt {w : World} {base m r q : Nat} {S : SpV} {L : List Nat} (h : R9At w base m r q S L) : m < w.heap.size := heap_lt h.head
theorem R9At.notRef {w : World} {base m r q : Nat} {S : SpV} {L : List Nat} (h : R9At w base m r q S L) : ¬ RefS8 r w base m := by
  rintro (rfl | ⟨_, c', t, z, e, ht⟩)
  · obtain ⟨c, hc⟩ := h.sp.head
    rw [h.head] at hc
    injection hc with hc
    injection hc with _ hc
    exact absurd hc (by decide)
  · rw [h.head] at e
    injection e with e
    injection e with _ e _
    subst e
    revert ht; decide
theorem R9At.keep {T : Nat → Prop} {w w' : World} {base m r q : Nat} {S : SpV} {L : List Nat} (h : R9At w base m r q S L) (k : Keep T w w') (hm : ¬ T m) (hr : ¬ T r) (hs : ∀ b, RefS w base b → ¬ T b) : R9At w' base m r q S L :=
  ⟨h.bm, k.heap h.head hm, h.sp.keep k hr hs⟩
theorem R9At.keep0 {w w' : World} {base m r q : Nat} {S : SpV} {L : List Nat} (h : R9At w base m r q S L) (k : Keep (fun _ => False) w w') : R9At w' base m r q S L := h.keep k id id (fun _ _ => id)
/-- Another space in the place of its space. -/
theorem R9At.into {w w' : World} {base m r q : Nat} {S S' : SpV} {L L' : List Nat} (h : R9At w base m r q S L) (k : Keep (RefS8 r w base) w w') (h' : R8At w' base r q S' L') : R9At w' base m r q S' L' := ⟨h.bm, k.heap h.head h.notRef, h'⟩
theorem R9At.qptr {w : World} {base m r q : Nat} {S : SpV} {L : List Nat} (h : R9At w base m r q S L) : w.cell? ⟨r, 0, none⟩ = some (.pointer (some ⟨q, 0, none⟩)) := h.sp.ptr

theorem rnew9_none (limit : Int) (w : World) (h : limit < 8 ∨ 1024 < limit) :
    Calls Try.prog 51 #[.int .i64 limit] w fun e w' => e = .returned (.pointer none) ∧ w = w' := by
  have H := Lib.hid h
  clear h
  go_enter Try.func51, Try.ntmps51
  go_wp2_with fail
  refine (rnew8_none limit _ H.out).mono ?_
  rintro e w1 ⟨rfl, rfl⟩
  go_wp2_with fail
  go_ret
  exact ⟨rfl, rfl⟩
def RNew9Post (lim base : Nat) (w : World) (e : Ending) (w' : World) : Prop :=
  ∃ m r q : Nat, e = .returned (.pointer (some ⟨m, 0, none⟩)) ∧ w.heap.size ≤ m ∧ w.heap.size ≤ r ∧ R9At w' base m r q (SpV.new lim) [] ∧ Keep (fun _ => False) w w'
theorem rnew9_some (lim base : Nat) (limit : Int) (w : World) (hl : limit = lim) (h8 : 8 ≤ lim) (h1024 : lim ≤ 1024) (hb : base ≤ w.heap.size) :
    Calls Try.prog 51 #[.int .i64 limit] w (RNew9Post lim base w) := by
  subst hl
  go_enter Try.func51, Try.ntmps51
  go_wp2_with fail
  refine (rnew8_some lim base _ _ rfl h8 h1024 hb).mono ?_
  rintro e w1 ⟨r, q, rfl, hr, R1, k1⟩
  have hz := k1.size
  go_wp2_with fail
  go_ret
  exact ⟨_, r, q, rfl, hz, hr, ⟨by omega, heap_alloc_new _ _, R1.keep0 ((Keep.refl _ _).alloc _)⟩, k1.alloc _⟩

/-- Some word of 64 bits. -/
def SomeU0 (w : World) (e : Ending) (w' : World) : Prop := ∃ y : Int, e = .returned (.int .u64 y) ∧ 0 ≤ y ∧ y ≤ 18446744073709551615 ∧ w = w'
set_option maxHeartbeats 400000 in
theorem power_any (n : Nat) (hn : n ≤ 64) (w : World) : Calls Try.prog 111 #[.int .i64 n] w (SomeU0 w) := by
  go_enter Try.func111, Try.ntmps111
  go_wp2_with fail
  go_loop [3, 4] (fun x i => ∃ (k : Nat) (y : Int), k ≤ n ∧ i = .int .i64 k ∧ x = .int .u64 y ∧ 0 ≤ y ∧ y ≤ 18446744073709551615) (fun _ i => n - (intOf i).toNat)
  case atStart => exact ⟨0, 1, Nat.zero_le _, rfl, rfl, by omega, by omega⟩
  case round =>
    obtain ⟨k, y, hk, rfl, rfl, y0, y1⟩ := hrel
    by_cases hlt : k < n
    · go_wp2_with fail
      go_round
      case rel => exact ⟨k + 1, _, by omega, by go_num, rfl, by rw [IntKind.wrap_u64]; omega, by rw [IntKind.wrap_u64]; omega⟩
      case measure => simp [intOf]; omega
    · obtain rfl : k = n := by omega
      go_wp2_with fail
      go_ret
      exact ⟨y, rfl, y0, y1, rfl⟩

/-- What a word stands for, as far as addresses go. -/
def OfPost (u : Nat) (w : World) (e : Ending) (w' : World) : Prop :=
  ∃ k t a x m : Int, e = .returned (.agg #[.int .i64 k, .int .i64 t, .int .i64 a, .int .i64 x, .int .u64 m]) ∧ Keep (fun _ => False) w w' ∧ ((isAddr u ∧ k = 2 ∧ t = ((u % 8 : Nat) : Int) ∧ a = ((u / 8 : Nat) : Int)) ∨ (¬ isAddr u ∧ k ≠ 2))
end Go.Proofs.Ytgnpeciedefeiaa

namespace Go.Proofs.Ytgnpeciedefeiaa
open Go.RowKit

set_option maxRecDepth 100000 in
set_option maxHeartbeats 2000000 in
theorem of_addr (u t r : Nat) (w : World) (ht : u % 8 = t) (hr : u / 8 = r) (hp : t = 1 ∨ t = 2 ∨ t = 3 ∨ t = 6) (hl : r < 65536) : Calls Try.prog 97 #[.int .u64 (u : Int)] w (OfPost u w) := by
  have e7 : (u : Int) % 8 = (t : Int) := by omega
  have e8 : (u : Int) / 8 = (r : Int) := by omega
  have hu0 : (0 : Int) ≤ (u : Int) := by omega
  have fin : ∀ (w' : World), Keep (fun _ => False) w w' → OfPost u w (.returned (.agg #[.int .i64 2, .int .i64 (t : Int), .int .i64 (r : Int), .int .i64 0, .int .u64 0])) w' := fun w' K =>
    ⟨2, t, r, 0, 0, rfl, K, .inl ⟨⟨by omega, by omega⟩, rfl, by omega, by omega⟩⟩
  have FIN := Lib.hid fin
  have HL : (r : Int) < 65536 := by omega
  clear ht hr fin
  rcases hp with rfl | rfl | rfl | rfl
  all_goals
    go_enter Try.func97, Try.ntmps97
    go_wp2_with fail
    exact bodyPost_ret (v := .agg #[.int .i64 2, .int .i64 _, .int .i64 (r : Int), .int .i64 0, .int .u64 0]) (by simp [results, Try.results97, go_sem]) rfl (FIN.out _ ((Keep.refl _ _).alloc _))

set_option maxRecDepth 100000 in
set_option maxHeartbeats 4000000 in
theorem of_no (u t r : Nat) (w : World) (hu : u ≤ 18446744073709551615) (ht : u % 8 = t) (hr : u / 8 = r) (hp : t = 0 ∨ t = 4 ∨ t = 5 ∨ t = 7 ∨ ((t = 1 ∨ t = 2 ∨ t = 3 ∨ t = 6) ∧ 65536 ≤ r)) : Calls Try.prog 97 #[.int .u64 (u : Int)] w (OfPost u w) := by
  have e7 : (u : Int) % 8 = (t : Int) := by omega
  have e8 : (u : Int) / 8 = (r : Int) := by omega
  have hu0 : (0 : Int) ≤ (u : Int) := by omega
  have fin : ∀ (k t a x m : Int) (w' : World), k ≠ 2 → Keep (fun _ => False) w w' → OfPost u w (.returned (.agg #[.int .i64 k, .int .i64 t, .int .i64 a, .int .i64 x, .int .u64 m])) w' := fun k t a x m w' hk K =>
    ⟨k, t, a, x, m, rfl, K, .inr ⟨fun h => by unfold isAddr at h; omega, hk⟩⟩
  have FIN := Lib.hid fin
  have hr2 : r ≤ 2305843009213693951 := by omega
  clear ht hr fin hu
  have hcase : (t = 0 ∨ t = 4 ∨ t = 5 ∨ t = 7) ∨ ((t = 1 ∨ t = 2 ∨ t = 3 ∨ t = 6) ∧ (65536 : Int) ≤ (r : Int)) := by omega
  clear hp
  rcases hcase with (rfl | rfl | rfl | rfl) | ⟨rfl | rfl | rfl | rfl, hl⟩
  · go_enter Try.func97, Try.ntmps97
    go_wp2_with fail
    refine (power_any 60 (by omega) _).mono ?_
    rintro e w1 ⟨y, rfl, y0, y1, rfl⟩
    go_wp2_with fail
    · refine (power_any 61 (by omega) _).mono ?_
      rintro e w1 ⟨z, rfl, z0, z1, rfl⟩
      go_wp2_with fail
      (first
      | (refine bodyPost_ret (v := .agg #[.int .i64 0, .int .i64 0, .int .i64 0, .int .i64 0, .int .u64 0]) ?_ rfl (FIN.out _ _ _ _ _ _ (by decide) ((Keep.refl _ _).alloc _)); simp [results, Try.results97, go_sem]; done)
      | (refine bodyPost_ret (v := .agg #[.int .i64 1, .int .i64 0, .int .i64 0, .int .i64 r, .int .u64 0]) ?_ rfl (FIN.out _ _ _ _ _ _ (by decide) ((Keep.refl _ _).alloc _)); simp [results, Try.results97, go_sem]; done)
      | (refine bodyPost_ret (v := .agg #[.int .i64 3, .int .i64 0, .int .i64 (r % 32), .int .i64 0, .int .u64 0]) ?_ rfl (FIN.out _ _ _ _ _ _ (by decide) ((Keep.refl _ _).alloc _)); simp [results, Try.results97, go_sem]; done)
      | (refine bodyPost_ret (v := .agg #[.int .i64 4, .int .i64 0, .int .i64 (r / 32), .int .i64 0, .int .u64 0]) ?_ rfl (FIN.out _ _ _ _ _ _ (by decide) ((Keep.refl _ _).alloc _)); simp [results, Try.results97, go_sem]; done)
      | (refine bodyPost_ret (v := .agg #[.int .i64 4, .int .i64 0, .int .i64 (wrap64 (r / 32)), .int .i64 0, .int .u64 0]) ?_ rfl (FIN.out _ _ _ _ _ _ (by decide) ((Keep.refl _ _).alloc _)); simp [results, Try.results97, go_sem]; done)
      | (refine bodyPost_ret (v := .agg #[.int .i64 5, .int .i64 (r % 32), .int .i64 (r / 32 % 256), .int .i64 0, .int .u64 (r / 32 / 256)]) ?_ rfl (FIN.out _ _ _ _ _ _ (by decide) ((Keep.refl _ _).alloc _)); simp [results, Try.results97, go_sem]; done)
      | (refine bodyPost_ret (v := .agg #[.int .i64 1, .int .i64 0, .int .i64 0, .int .i64 (wrap64 (-wrap64 (IntKind.u64.wrap (z - r)))), .int .u64 0]) ?_ rfl (FIN.out _ _ _ _ _ _ (by decide) ((Keep.refl _ _).alloc _)); simp [results, Try.results97, go_sem]; done))
    · (first
      | (refine bodyPost_ret (v := .agg #[.int .i64 0, .int .i64 0, .int .i64 0, .int .i64 0, .int .u64 0]) ?_ rfl (FIN.out _ _ _ _ _ _ (by decide) ((Keep.refl _ _).alloc _)); simp [results, Try.results97, go_sem]; done)
      | (refine bodyPost_ret (v := .agg #[.int .i64 1, .int .i64 0, .int .i64 0, .int .i64 r, .int .u64 0]) ?_ rfl (FIN.out _ _ _ _ _ _ (by decide) ((Keep.refl _ _).alloc _)); simp [results, Try.results97, go_sem]; done)
      | (refine bodyPost_ret (v := .agg #[.int .i64 3, .int .i64 0, .int .i64 (r % 32), .int .i64 0, .int .u64 0]) ?_ rfl (FIN.out _ _ _ _ _ _ (by decide) ((Keep.refl _ _).alloc _)); simp [results, Try.results97, go_sem]; done)
      | (refine bodyPost_ret (v := .agg #[.int .i64 4, .int .i64 0, .int .i64 (r / 32), .int .i64 0, .int .u64 0]) ?_ rfl (FIN.out _ _ _ _ _ _ (by decide) ((Keep.refl _ _).alloc _)); simp [results, Try.results97, go_sem]; done)
      | (refine bodyPost_ret (v := .agg #[.int .i64 4, .int .i64 0, .int .i64 (wrap64 (r / 32)), .int .i64 0, .int .u64 0]) ?_ rfl (FIN.out _ _ _ _ _ _ (by decide) ((Keep.refl _ _).alloc _)); simp [results, Try.results97, go_sem]; done)
      | (refine bodyPost_ret (v := .agg #[.int .i64 5, .int .i64 (r % 32), .int .i64 (r / 32 % 256), .int .i64 0, .int .u64 (r / 32 / 256)]) ?_ rfl (FIN.out _ _ _ _ _ _ (by decide) ((Keep.refl _ _).alloc _)); simp [results, Try.results97, go_sem]; done))
  · go_enter Try.func97, Try.ntmps97
    go_wp2_with fail
    all_goals (first
      | (refine bodyPost_ret (v := .agg #[.int .i64 0, .int .i64 0, .int .i64 0, .int .i64 0, .int .u64 0]) ?_ rfl (FIN.out _ _ _ _ _ _ (by decide) ((Keep.refl _ _).alloc _)); simp [results, Try.results97, go_sem]; done)
      | (refine bodyPost_ret (v := .agg #[.int .i64 1, .int .i64 0, .int .i64 0, .int .i64 r, .int .u64 0]) ?_ rfl (FIN.out _ _ _ _ _ _ (by decide) ((Keep.refl _ _).alloc _)); simp [results, Try.results97, go_sem]; done)
      | (refine bodyPost_ret (v := .agg #[.int .i64 3, .int .i64 0, .int .i64 (r % 32), .int .i64 0, .int .u64 0]) ?_ rfl (FIN.out _ _ _ _ _ _ (by decide) ((Keep.refl _ _).alloc _)); simp [results, Try.results97, go_sem]; done)
      | (refine bodyPost_ret (v := .agg #[.int .i64 4, .int .i64 0, .int .i64 (r / 32), .int .i64 0, .int .u64 0]) ?_ rfl (FIN.out _ _ _ _ _ _ (by decide) ((Keep.refl _ _).alloc _)); simp [results, Try.results97, go_sem]; done)
      | (refine bodyPost_ret (v := .agg #[.int .i64 4, .int .i64 0, .int .i64 (wrap64 (r / 32)), .int .i64 0, .int .u64 0]) ?_ rfl (FIN.out _ _ _ _ _ _ (by decide) ((Keep.refl _ _).alloc _)); simp [results, Try.results97, go_sem]; done)
      | (refine bodyPost_ret (v := .agg #[.int .i64 5, .int .i64 (r % 32), .int .i64 (r / 32 % 256), .int .i64 0, .int .u64 (r / 32 / 256)]) ?_ rfl (FIN.out _ _ _ _ _ _ (by decide) ((Keep.refl _ _).alloc _)); simp [results, Try.results97, go_sem]; done))
  · go_enter Try.func97, Try.ntmps97
    go_wp2_with fail
    all_goals (first
      | (refine bodyPost_ret (v := .agg #[.int .i64 0, .int .i64 0, .int .i64 0, .int .i64 0, .int .u64 0]) ?_ rfl (FIN.out _ _ _ _ _ _ (by decide) ((Keep.refl _ _).alloc _)); simp [results, Try.results97, go_sem]; done)
      | (refine bodyPost_ret (v := .agg #[.int .i64 1, .int .i64 0, .int .i64 0, .int .i64 r, .int .u64 0]) ?_ rfl (FIN.out _ _ _ _ _ _ (by decide) ((Keep.refl _ _).alloc _)); simp [results, Try.results97, go_sem]; done)
      | (refine bodyPost_ret (v := .agg #[.int .i64 3, .int .i64 0, .int .i64 (r % 32), .int .i64 0, .int .u64 0]) ?_ rfl (FIN.out _ _ _ _ _ _ (by decide) ((Keep.refl _ _).alloc _)); simp [results, Try.results97, go_sem]; done)
      | (refine bodyPost_ret (v := .agg #[.int .i64 4, .int .i64 0, .int .i64 (r / 32), .int .i64 0, .int .u64 0]) ?_ rfl (FIN.out _ _ _ _ _ _ (by decide) ((Keep.refl _ _).alloc _)); simp [results, Try.results97, go_sem]; done)
      | (refine bodyPost_ret (v := .agg #[.int .i64 4, .int .i64 0, .int .i64 (wrap64 (r / 32)), .int .i64 0, .int .u64 0]) ?_ rfl (FIN.out _ _ _ _ _ _ (by decide) ((Keep.refl _ _).alloc _)); simp [results, Try.results97, go_sem]; done)
      | (refine bodyPost_ret (v := .agg #[.int .i64 5, .int .i64 (r % 32), .int .i64 (r / 32 % 256), .int .i64 0, .int .u64 (r / 32 / 256)]) ?_ rfl (FIN.out _ _ _ _ _ _ (by decide) ((Keep.refl _ _).alloc _)); simp [results, Try.results97, go_sem]; done))
  · go_enter Try.func97, Try.ntmps97
    go_wp2_with fail
    (first
      | (refine bodyPost_ret (v := .agg #[.int .i64 0, .int .i64 0, .int .i64 0, .int .i64 0, .int .u64 0]) ?_ rfl (FIN.out _ _ _ _ _ _ (by decide) ((Keep.refl _ _).alloc _)); simp [results, Try.results97, go_sem]; done)
      | (refine bodyPost_ret (v := .agg #[.int .i64 1, .int .i64 0, .int .i64 0, .int .i64 r, .int .u64 0]) ?_ rfl (FIN.out _ _ _ _ _ _ (by decide) ((Keep.refl _ _).alloc _)); simp [results, Try.results97, go_sem]; done)
      | (refine bodyPost_ret (v := .agg #[.int .i64 3, .int .i64 0, .int .i64 (r % 32), .int .i64 0, .int .u64 0]) ?_ rfl (FIN.out _ _ _ _ _ _ (by decide) ((Keep.refl _ _).alloc _)); simp [results, Try.results97, go_sem]; done)
      | (refine bodyPost_ret (v := .agg #[.int .i64 4, .int .i64 0, .int .i64 (r / 32), .int .i64 0, .int .u64 0]) ?_ rfl (FIN.out _ _ _ _ _ _ (by decide) ((Keep.refl _ _).alloc _)); simp [results, Try.results97, go_sem]; done)
      | (refine bodyPost_ret (v := .agg #[.int .i64 4, .int .i64 0, .int .i64 (wrap64 (r / 32)), .int .i64 0, .int .u64 0]) ?_ rfl (FIN.out _ _ _ _ _ _ (by decide) ((Keep.refl _ _).alloc _)); simp [results, Try.results97, go_sem]; done)
      | (refine bodyPost_ret (v := .agg #[.int .i64 5, .int .i64 (r % 32), .int .i64 (r / 32 % 256), .int .i64 0, .int .u64 (r / 32 / 256)]) ?_ rfl (FIN.out _ _ _ _ _ _ (by decide) ((Keep.refl _ _).alloc _)); simp [results, Try.results97, go_sem]; done))
  all_goals
    have hb : decide ((r : Int) < 65536) = false := decide_eq_false (by omega)
    clear hl
    go_enter Try.func97, Try.ntmps97
    go_wp2_with fail
    (first
      | (refine bodyPost_ret (v := .agg #[.int .i64 0, .int .i64 0, .int .i64 0, .int .i64 0, .int .u64 0]) ?_ rfl (FIN.out _ _ _ _ _ _ (by decide) ((Keep.refl _ _).alloc _)); simp [results, Try.results97, go_sem]; done)
      | (refine bodyPost_ret (v := .agg #[.int .i64 1, .int .i64 0, .int .i64 0, .int .i64 r, .int .u64 0]) ?_ rfl (FIN.out _ _ _ _ _ _ (by decide) ((Keep.refl _ _).alloc _)); simp [results, Try.results97, go_sem]; done)
      | (refine bodyPost_ret (v := .agg #[.int .i64 3, .int .i64 0, .int .i64 (r % 32), .int .i64 0, .int .u64 0]) ?_ rfl (FIN.out _ _ _ _ _ _ (by decide) ((Keep.refl _ _).alloc _)); simp [results, Try.results97, go_sem]; done)
      | (refine bodyPost_ret (v := .agg #[.int .i64 4, .int .i64 0, .int .i64 (r / 32), .int .i64 0, .int .u64 0]) ?_ rfl (FIN.out _ _ _ _ _ _ (by decide) ((Keep.refl _ _).alloc _)); simp [results, Try.results97, go_sem]; done)
      | (refine bodyPost_ret (v := .agg #[.int .i64 4, .int .i64 0, .int .i64 (wrap64 (r / 32)), .int .i64 0, .int .u64 0]) ?_ rfl (FIN.out _ _ _ _ _ _ (by decide) ((Keep.refl _ _).alloc _)); simp [results, Try.results97, go_sem]; done)
      | (refine bodyPost_ret (v := .agg #[.int .i64 5, .int .i64 (r % 32), .int .i64 (r / 32 % 256), .int .i64 0, .int .u64 (r / 32 / 256)]) ?_ rfl (FIN.out _ _ _ _ _ _ (by decide) ((Keep.refl _ _).alloc _)); simp [results, Try.results97, go_sem]; done))
theorem of_any (u : Nat) (w : World) (hu : u ≤ 18446744073709551615) : Calls Try.prog 97 #[.int .u64 (u : Int)] w (OfPost u w) := by
  by_cases h : (u % 8 = 1 ∨ u % 8 = 2 ∨ u % 8 = 3 ∨ u % 8 = 6) ∧ u / 8 < 65536
  · exact of_addr u _ _ w rfl rfl h.1 h.2
  · exact of_no u _ _ w hu rfl rfl (by omega)
end Go.Proofs.Ytgnpeciedefeiaa

namespace Go.Proofs.Ytgnpeciedefeiaa
open Go.RowKit

/-- What a row of the document's list tells. -/
theorem RefAt.rows9 {w : World} {base q : Nat} {M : MemV} {L : List Nat} (R : RefAt w base q M L) {i t : Nat} (hi : i < L.length) (ht : t = L.getD i 0) : ∃ gv cap A' cap2, w.cell? ⟨q, 1, none⟩ = some (.slice (some ⟨gv, 0, none⟩) L.length cap) ∧ gv < w.heap.size ∧
    w.cell? ⟨gv, i * 9, none⟩ = some (.int .i64 (t : Int)) ∧ w.cell? ⟨gv, i * 9 + 1, none⟩ = some (.int .i64 (M.sg t).gen) ∧ w.cell? ⟨gv, i * 9 + 2, none⟩ = some (.int .i64 (M.sg t).kind) ∧ w.cell? ⟨gv, i * 9 + 3, none⟩ = some (.int .i64 (M.sg t).n) ∧ w.cell? ⟨gv, i * 9 + 4, none⟩ = some (.int .i64 (M.sg t).c0) ∧ w.cell? ⟨gv, i * 9 + 5, none⟩ = some (.int .i64 (M.sg t).c1) ∧ w.cell? ⟨gv, i * 9 + 6, none⟩ = some (.int .i64 (M.sg t).c2) ∧ w.cell? ⟨gv, i * 9 + 7, none⟩ = some (.int .i64 (M.sg t).c3) ∧
    w.cell? ⟨gv, i * 9 + 8, none⟩ = some (.slice A' (cntOf M t) cap2) ∧ ∀ j, j < cntOf M t → ∃ g2, A' = some ⟨g2, 0, none⟩ ∧ g2 < w.heap.size ∧ w.cell? ⟨g2, j, none⟩ = some (.int .u64 ((M.sg t).words j)) := by
  subst ht
  obtain ⟨T, v, wv, RN⟩ := R
  obtain ⟨gv, cap, rfl, hg, _, hrow⟩ := RN.row hi
  obtain ⟨_, c1⟩ := RN.cells
  have hmem := RN.memL hi
  obtain ⟨A', cap2, hw⟩ := RN.wshape hmem
  refine ⟨gv, cap, A', cap2, c1, hg, hrow 0 (by omega), hrow 1 (by omega), hrow 2 (by omega), hrow 3 (by omega), hrow 4 (by omega), hrow 5 (by omega), hrow 6 (by omega), hrow 7 (by omega), (hrow 8 (by omega)).trans (by simp only [rc, hw]), fun j hj => ?_⟩
  obtain ⟨g2, c2, hv, hg2, _, hc⟩ := RN.wrow hmem hj
  rw [hw] at hv
  injection hv with h1 _ _
  exact ⟨g2, h1, hg2, hc⟩
theorem RefAt.len9 {w : World} {base q : Nat} {M : MemV} {L : List Nat} (R : RefAt w base q M L) (ok : M.Ok) : L.length ≤ 1024 := by
  have := R.1.len
  have := sel_len M [] M.lim
  have := ok.l1024
  omega
/-- Place, of one that is there. -/
theorem place_yes9 {w : World} {base q : Nat} {M : MemV} {L : List Nat} (R : RefAt w base q M L) (ok : M.Ok) {i : Nat} (hi : i < L.length) (seg : Int) (hs : seg = ((L.getD i 0 : Nat) : Int)) :
    Calls Try.prog 91 #[.pointer (some ⟨q, 0, none⟩), .int .i64 seg] w fun e w' => e = .returned (.int .i64 (i : Int)) ∧ w = w' := by
  obtain ⟨T, v, wv, RN⟩ := id R
  refine (place_any RN T (R.len9 ok) seg).mono ?_
  rintro e w' ⟨rfl, ⟨hn, _⟩ | ⟨j, hj, hj2, rfl⟩⟩
  · have hm := T.mem (RN.memL hi)
    exact absurd (MemV.has_iff.2 ⟨_, hs, hm⟩) hn
  · obtain rfl : i = j := T.inj hi hj (by omega)
    exact ⟨rfl, rfl⟩
theorem place_no9 {w : World} {base q : Nat} {M : MemV} {L : List Nat} (R : RefAt w base q M L) (ok : M.Ok) (seg : Int) (hs : ¬ M.has seg) :
    Calls Try.prog 91 #[.pointer (some ⟨q, 0, none⟩), .int .i64 seg] w fun e w' => e = .returned (.int .i64 (-1)) ∧ w = w' := by
  obtain ⟨T, v, wv, RN⟩ := id R
  refine (place_any RN T (R.len9 ok) seg).mono ?_
  rintro e w' ⟨rfl, ⟨_, rfl⟩ | ⟨j, hj, hj2, _⟩⟩
  · exact ⟨rfl, rfl⟩
  · exact absurd (MemV.has_iff.2 ⟨_, hj2, T.mem (RN.memL hj)⟩) hs
theorem RefAt.at9 {w : World} {base q : Nat} {M : MemV} {L : List Nat} (R : RefAt w base q M L) {t : Nat} (ht : t < M.lim) (htk : 0 < (M.sg t).taken) : ∃ i, i < L.length ∧ L.getD i 0 = t := by
  obtain ⟨i, hi, e⟩ := List.mem_iff_getElem.1 (R.1.has ht htk)
  exact ⟨i, hi, by rw [List.getD_eq_getElem?_getD, List.getElem?_eq_getElem hi]; exact e⟩

set_option maxRecDepth 100000 in
set_option maxHeartbeats 4000000 in
theorem rgen_any {w : World} {base m r q : Nat} {S : SpV} {L : List Nat} (h : R9At w base m r q S L) (ok : S.Ok) (u : Nat) (hu : u ≤ 18446744073709551615) :
    Calls Try.prog 84 #[.pointer (some ⟨m, 0, none⟩), .int .u64 (u : Int)] w (GenPost S.M u w) := by
  have l1024 := ok.mem.l1024
  have Hu := Lib.hid hu
  clear hu
  go_enter Try.func84, Try.ntmps84
  go_wp2_with fail
  refine (of_any u _ Hu.out).mono ?_
  rintro e w1 ⟨k, t, a, x, mm, rfl, k1, ⟨ha, rfl, rfl, rfl⟩ | ⟨ha, hk⟩⟩
  · have h1 := h.keep0 k1
    by_cases h6 : u % 8 = 6
    · have hn : genOf S.M u = none := by
        unfold genOf isRef
        rw [if_neg]
        omega
      have Hn := Lib.hid hn
      have b6 : (((u % 8 : Nat) : Int) == 6) = true := by rw [h6]; rfl
      generalize ((u % 8 : Nat) : Int) = tt at b6 ⊢
      clear hn h6 h
      go_wp2_with fail
      go_ret2
      exact ⟨k1.alloc _, .inr ⟨rfl, Hn.out⟩⟩
    · have ht : ((u % 8 : Nat) : Int) ≠ 6 := by omega
      have hb : (((u % 8 : Nat) : Int) == 6) = false := by simpa using ht
      have hr : isRef u := by
        unfold isAddr at ha
        unfold isRef
        omega
      obtain ⟨a, haa⟩ : ∃ a, a = u / 8 := ⟨_, rfl⟩
      have haL : a < 65536 := by have := hr.2; omega
      rw [← haa]
      have Ha := Lib.hid haa
      have HR := Lib.hid hr
      generalize ((u % 8 : Nat) : Int) = tt at hb ⊢
      clear ha h6 ht hr haa h
      have hq : (a : Int) / 64 = ((a / 64 : Nat) : Int) := by omega
      obtain ⟨s, hs⟩ : ∃ s, s = a / 64 := ⟨_, rfl⟩
      rw [← hs] at hq
      have k2 : Keep (fun _ => False) w1 (w1.alloc (.cells #[.int .i64 2, .int .i64 tt, .int .i64 (a : Int), .int .i64 x, .int .u64 mm] 153)) := (Keep.refl _ _).alloc _
      have hx : (w1.alloc (.cells #[.int .i64 2, .int .i64 tt, .int .i64 (a : Int), .int .i64 x, .int .u64 mm] 153)).cell? ⟨w1.heap.size, 2, none⟩ = some (.int .i64 (a : Int)) := by rw [World.cell?_alloc_new]; rfl
      replace h1 := h1.keep0 k2
      replace k1 := k1.trans k2
      clear k2
      go_wp2_with fail
      generalize w1.heap.size = xb at hx ⊢
      generalize w1.alloc (.cells #[.int .i64 2, .int .i64 tt, .int .i64 (a : Int), .int .i64 x, .int .u64 mm] 153) = w2 at h1 hx k1 ⊢
      have c0 := h1.ptr
      have c1 := h1.qptr
      have HF := Lib.hid (fun (w' : World) (K' : Keep (fun _ => False) w2 w') => h1.keep0 K')
      by_cases hh : S.M.hasN s = true
      · have hk : s < S.M.lim ∧ 0 < (S.M.sg s).taken := by
          unfold MemV.hasN at hh
          simpa using hh
        have hg : genOf S.M u = some (S.M.sg s).gen := by
          unfold genOf
          rw [if_pos ⟨HR.out, by rw [← Ha.out, ← hs]; exact hh⟩, ← Ha.out, ← hs]
        have Hg := Lib.hid hg
        obtain ⟨i, hi, hit⟩ := h1.sp.ref.at9 hk.1 hk.2
        have HP := Lib.hid (fun (w' : World) (K' : Keep (fun _ => False) w2 w') => place_yes9 (h1.keep0 K').sp.ref ok.mem hi (s : Int) (by rw [hit]))
        have hl := h1.sp.ref.len9 ok.mem
        have Hit := Lib.hid hit
        clear hk hg hh hit h1 hs
        go_quiet ((go_at_call 91; exact Calls.quiet_of_same ((HP.out _ (by first | exact Keep.refl _ _ | exact (Keep.refl _ _).drewN _)).mono fun _ _ ⟨he, hw⟩ => ⟨he, hw.symm⟩)))
        have K3 : Keep (fun _ => False) w2 (w2.drewN nq) := (Keep.refl _ _).drewN _
        have h3 := HF.out _ K3
        have d0 := h3.ptr
        have d1 := h3.qptr
        obtain ⟨gv, cap, _, _, q1, _, _, q3, _⟩ := h3.sp.ref.rows9 hi Hit.out.symm
        have ii0 : (0 : Int) ≤ (i : Int) := by omega
        have ii1 : (i : Int) < (L.length : Int) := by omega
        clear h3 c0 c1 hx
        go_wp2_with fail
        go_ret2
        exact ⟨k1.trans K3, .inl ⟨_, rfl, Hg.out⟩⟩
      · have hg : genOf S.M u = none := by
          unfold genOf
          rw [if_neg]
          rintro ⟨_, h⟩
          rw [← Ha.out, ← hs] at h
          exact hh h
        have hno : ¬ S.M.has (s : Int) := by rwa [← hasN_iff]
        have Hg := Lib.hid hg
        have HP := Lib.hid (fun (w' : World) (K' : Keep (fun _ => False) w2 w') => place_no9 (h1.keep0 K').sp.ref ok.mem (s : Int) hno)
        clear hg hh hno h1 hs
        go_quiet ((go_at_call 91; exact Calls.quiet_of_same ((HP.out _ (by first | exact Keep.refl _ _ | exact (Keep.refl _ _).drewN _)).mono fun _ _ ⟨he, hw⟩ => ⟨he, hw.symm⟩)))
        clear c0 c1 hx
        go_wp2_with fail
        go_ret2
        exact ⟨k1.trans ((Keep.refl _ _).drewN _), .inr ⟨rfl, Hg.out⟩⟩
  · have hn : genOf S.M u = none := by
      unfold genOf
      rw [if_neg]
      rintro ⟨⟨h1, h2⟩, _⟩
      exact ha ⟨by omega, h2⟩
    have Hn := Lib.hid hn
    have hb : (k != 2) = true := by simpa using hk
    clear hn ha hk h
    go_wp2_with fail
    go_ret2
    exact ⟨k1.alloc _, .inr ⟨rfl, Hn.out⟩⟩
end Go.Proofs.Ytgnpeciedefeiaa

namespace Go.Proofs.Ytgnpeciedefeiaa
open Go.RowKit

theorem mark_card (s : Sg) (c : Nat) (hc : c < 4) : s.mark c (s.card c) = s := by
  match c, hc with
  | 0, _ | 1, _ | 2, _ | 3, _ => simp [Sg.mark, Sg.card]
theorem put_self (M : MemV) (k : Nat) : M.put k (M.sg k) = M := by
  unfold MemV.put
  have : (fun i => if i = k then M.sg k else M.sg i) = M.sg := by
    funext i
    by_cases h : i = k
    · rw [if_pos h, h]
    · rw [if_neg h]
  rw [this]
theorem storeV_eq {M M1 : MemV} {a u k j d : Nat} (hk : k = a / 64) (hj : j = a % 64) (hd : d = j / 16) (h1 : M1 = M.put k ((M.sg k).write j u)) : storeV M a u = M1.put k ((M1.sg k).mark d (youngV M1 (M1.sg k) u ((M1.sg k).card d))) := by
  subst hk hj hd h1
  unfold storeV
  simp only [put_sg, write_card]
theorem young_none {M : MemV} {s : Sg} {u : Nat} {x : Int} (h : genOf M u = none) : youngV M s u x = x := by unfold youngV; rw [h]
theorem young_some {M : MemV} {s : Sg} {u : Nat} {x g : Int} (h : genOf M u = some g) : youngV M s u x = if s.kind ≠ 3 ∧ g < s.gen then min x g else x := by unfold youngV; rw [h]

theorem Keep.refs8_join {r base : Nat} {w a b : World} (h : Keep (RefS8 r w base) w a) (k : Keep (RefS8 r a base) a b) : Keep (RefS8 r w base) w b := h.join k (fun i hi hs => by
  by_cases hrb : RefS8 r w base i
  · exact hrb
  · rcases hs with rfl | ⟨h0, c, tt, z, e, ht⟩
    · exact .inl rfl
    · rw [h.block i hi hrb] at e
      exact .inr ⟨h0, c, tt, z, e, ht⟩)

def RStorePost (base m r q : Nat) (S : SpV) (L : List Nat) (addr : Int) (u : Nat) (w : World) (e : Ending) (w' : World) : Prop :=
  ∃ (M' : MemV) (f : Int), e = .returned (.int .i64 f) ∧ R9At w' base m r q { S with M := M' } L ∧ Keep (RefS8 r w base) w w' ∧ StoreR S.M addr u f M'

set_option maxRecDepth 100000 in
set_option maxHeartbeats 4000000 in
theorem rstore_any {w : World} {base m r q : Nat} {S : SpV} {L : List Nat} (h : R9At w base m r q S L) (ok : S.Ok) (addr : Int) (u : Nat) (hA : addr ≤ 9223372036854775807) (hu : u ≤ 18446744073709551615) :
    Calls Try.prog 85 #[.pointer (some ⟨m, 0, none⟩), .int .i64 addr, .int .u64 (u : Int)] w (RStorePost base m r q S L addr u w) := by
  have c0 := h.ptr
  have s0 := h.qptr
  have l1024 := ok.mem.l1024
  have HU := Lib.hid hu
  clear hu
  go_enter Try.func85, Try.ntmps85
  go_wp2_with fail
  refine (write_ref h.sp.ref ok.mem addr (u : Int) hA).mono ?_
  rintro e w2 ⟨M1, f, rfl, R1, k1, ⟨hn, rfl, rfl⟩ | ⟨a, rfl, hk, ht, hn, rfl, hM1⟩⟩
  · have h2 := h.into k1.refs8 (h.sp.keepM k1 R1)
    have Hn := Lib.hid hn
    clear hn
    go_wp2_with fail
    go_ret
    exact ⟨S.M, 18, rfl, h2, k1.refs8, .inl ⟨Hn.out, rfl, rfl⟩⟩
  · have n64 := (ok.mem.sg _ hk).n64
    have hA2 : a ≤ 65536 := by omega
    obtain ⟨k, hkk⟩ : ∃ k, k = a / 64 := ⟨_, rfl⟩
    obtain ⟨j, hjj⟩ : ∃ j, j = a % 64 := ⟨_, rfl⟩
    have hjl : j < 64 := by omega
    have e1 : (a : Int) / 64 = (k : Int) := by omega
    have e2 : (a : Int) % 64 = (j : Int) := by omega
    have e3 : (j : Int) / 16 = ((j / 16 : Nat) : Int) := by omega
    obtain ⟨d, hdd⟩ : ∃ d, d = j / 16 := ⟨_, rfl⟩
    rw [← hdd] at e3
    have hd4 : d < 4 := by omega
    have E := Lib.hid (show a / 64 < S.M.lim ∧ 0 < (S.M.sg (a / 64)).taken ∧ ((a % 64 : Nat) : Int) < (S.M.sg (a / 64)).n from ⟨hk, ht, hn⟩)
    rw [← hkk] at hk ht hn
    rw [← hjj] at hn
    rw [← hkk, ← hjj] at hM1
    have SE := Lib.hid (storeV_eq (u := u) hkk hjj hdd hM1)
    have hok : M1.Ok := by
      rw [hM1]
      exact ok.mem.put hk ((ok.mem.sg k hk).write hn (by omega) (by have := HU.out; omega)) rfl ht
    have okS : ({ S with M := M1 } : SpV).Ok := ok.put (k := k) (s := (S.M.sg k).write j u) (by rw [← hM1]; exact hok) rfl rfl rfl |> fun h => by rw [← hM1] at h; exact h
    have h2 : R9At w2 base m r q { S with M := M1 } L := h.into k1.refs8 (h.sp.keepM k1 R1)
    have hlim : M1.lim = S.M.lim := by rw [hM1]; rfl
    have hk1 : k < M1.lim := by rw [hlim]; exact hk
    have ht1 : 0 < (M1.sg k).taken := by rw [hM1, put_sg]; exact ht
    obtain ⟨S1, hS1⟩ : ∃ S1 : SpV, S1 = { S with M := M1 } := ⟨_, rfl⟩
    have hSM : M1 = S1.M := by rw [hS1]
    rw [← hS1] at h2 okS
    have HS1 := Lib.hid hS1
    have HK := Lib.hid hkk
    obtain ⟨i, hi, hit⟩ := h2.sp.ref.at9 (by rw [← hSM]; exact hk1) (by rw [← hSM]; exact ht1)
    have HP := Lib.hid (fun (w' : World) (K' : Keep (fun _ => False) w2 w') => place_yes9 (h2.keep0 K').sp.ref okS.mem hi (k : Int) (by rw [hit]))
    obtain ⟨gv, cap, _, _, q1, hgv, _, q3, q4, _, y0, y1, y2, y3, _⟩ := h2.sp.ref.rows9 hi hit.symm
    have hl := h2.sp.ref.len9 okS.mem
    have yd : w2.cell? ⟨gv, i * 9 + 4 + d, none⟩ = some (.int .i64 ((S1.M.sg k).card d)) := by
      match d, hd4 with
      | 0, _ => exact y0
      | 1, _ => exact y1
      | 2, _ => exact y2
      | 3, _ => exact y3
    have Hit := Lib.hid hit
    have k1' := k1.refs8 (r := r)
    have ii0 : (0 : Int) ≤ (i : Int) := by omega
    have ii1 : (i : Int) < (L.length : Int) := by omega
    have dd0 : (0 : Int) ≤ (d : Int) := by omega
    have dd4 : (d : Int) < 4 := by omega
    have HK2 := Lib.hid hk
    have HT2 := Lib.hid ht
    clear hkk hjj hdd hk ht hn hM1 hok hlim hk1 ht1 hS1 hit y0 y1 y2 y3 k1 R1 h c0 s0
    subst hSM
    have c0 := h2.ptr
    have s0 := h2.qptr
    go_wp2_with fail
    go_quiet ((go_at_call 91; exact Calls.quiet_of_same ((HP.out _ (by first | exact Keep.refl _ _ | exact (Keep.refl _ _).drewN _)).mono fun _ _ ⟨he, hw⟩ => ⟨he, hw.symm⟩)))
    have K3 : Keep (fun _ => False) w2 (w2.drewN nq) := (Keep.refl _ _).drewN _
    have h3 := h2.keep0 K3
    generalize w2.drewN nq = w3 at K3 h3 ⊢
    go_wp2_with fail
    refine (rgen_any h3 okS u HU.out).mono ?_
    rintro e w4 ⟨k4, hgen⟩
    have h4 := h3.keep0 k4
    have K4 := K3.trans k4
    have hgv4 := Nat.lt_of_lt_of_le hgv K4.size
    have z1 := (K4.cell (p := ⟨gv, i * 9 + 1, none⟩) hgv (by simp)).trans q3
    have z2 := (K4.cell (p := ⟨gv, i * 9 + 2, none⟩) hgv (by simp)).trans q4
    have zd := (K4.cell (p := ⟨gv, i * 9 + 4 + d, none⟩) hgv (by simp)).trans yd
    have zq : w4.cell? ⟨q, 1, none⟩ = some (.slice (some ⟨gv, 0, none⟩) L.length cap) := (K4.cell (p := ⟨q, 1, none⟩) (World.block_lt_of_cell? w2 _ q1) (by simp)).trans q1
    have Z := Lib.hid zq
    have K5 : Keep (RefS8 r w base) w w4 := k1'.trans (K4.mono (fun _ _ h => h.elim))
    have fin0 : youngV S1.M (S1.M.sg k) u ((S1.M.sg k).card d) = (S1.M.sg k).card d → RStorePost base m r q S L a u w (.returned (.int .i64 0)) w4 := by
      intro e
      rw [e, mark_card _ _ hd4, put_self] at SE
      exact ⟨S1.M, 0, rfl, by rw [← HS1.out]; exact h4, K5, .inr ⟨a, rfl, E.out.1, E.out.2.1, E.out.2.2, rfl, SE.out.symm⟩⟩
    have F0 := Lib.hid fin0
    clear fin0 zq h3 h2 c0 s0 q1 q3 q4 yd K3 k4
    obtain ⟨x, hx⟩ : ∃ x, x = (S1.M.sg k).card d := ⟨_, rfl⟩
    obtain ⟨gn, hgn⟩ : ∃ gn, gn = (S1.M.sg k).gen := ⟨_, rfl⟩
    obtain ⟨kd, hkd⟩ : ∃ kd, kd = (S1.M.sg k).kind := ⟨_, rfl⟩
    rw [← hx] at zd
    rw [← hgn] at z1
    rw [← hkd] at z2
    have HX := Lib.hid hx
    have HG := Lib.hid hgn
    have HKD := Lib.hid hkd
    clear hx hgn hkd
    rcases hgen with ⟨g, rfl, hg⟩ | ⟨rfl, hg⟩
    · have Hg := Lib.hid hg
      clear hg
      by_cases h3 : kd = 3
      · have b3 : (kd != 3) = false := by simpa using h3
        have P := F0.out (by rw [young_some Hg.out, if_neg]; intro h; rw [← HKD.out] at h; exact h.1 h3)
        have HP := Lib.hid P
        clear P h3
        go_wp2_with fail
        go_ret
        exact HP.out
      · have b3 : (kd != 3) = true := by simpa using h3
        by_cases hlt : g < gn
        · by_cases hlx : g < x
          · have R5 : RefAt (w4.setCell ⟨gv, i * 9 + (4 + d), none⟩ (.int .i64 g)) base q (S1.M.put k ((S1.M.sg k).mark d g)) L ∧ w4.frozen? ⟨gv, i * 9 + 4 + d, none⟩ = false ∧ RefS w4 base gv := by
              obtain ⟨T, v, wv, R⟩ := h4.sp.ref
              have hv : v = .slice (some ⟨gv, 0, none⟩) L.length cap := by
                have := R.cells.2
                rw [Z.out] at this
                injection this with this
                exact this.symm
              have r := setMark_ref R T hi (c := d) hd4 hv g
              rw [Hit.out] at r
              refine ⟨r, ?_, R.isV (b := gv) (by rw [hv]; rfl)⟩
              obtain ⟨g2, cap2, hv2, _, hfz, _⟩ := R.row hi
              rw [hv] at hv2
              injection hv2 with hv3 _ _
              injection hv3 with hv3
              injection hv3 with hv3 _ _
              subst hv3
              exact hfz _
            obtain ⟨R5, hfz, hrs⟩ := R5
            have k6 : Keep (RefS w4 base) w4 (w4.setCell ⟨gv, i * 9 + (4 + d), none⟩ (.int .i64 g)) := (Keep.refl _ _).setCell (.inl hrs) _
            have h6 : R9At (w4.setCell ⟨gv, i * 9 + (4 + d), none⟩ (.int .i64 g)) base m r q { S with M := S1.M.put k ((S1.M.sg k).mark d g) } L := by
              have := h4.into (S' := { S1 with M := S1.M.put k ((S1.M.sg k).mark d g) }) k6.refs8 (h4.sp.keepM k6 R5)
              rw [HS1.out] at this
              rw [HS1.out]
              exact this
            have P : RStorePost base m r q S L a u w (.returned (.int .i64 0)) (w4.setCell ⟨gv, i * 9 + (4 + d), none⟩ (.int .i64 g)) := by
              refine ⟨_, 0, rfl, h6, K5.refs8_join k6.refs8, .inr ⟨a, rfl, E.out.1, E.out.2.1, E.out.2.2, rfl, ?_⟩⟩
              · rw [SE.out, young_some Hg.out, ← HX.out, if_pos ⟨by rw [← HKD.out]; exact h3, by rw [← HG.out]; exact hlt⟩]
                congr 2
                omega
            rw [← Nat.add_assoc] at P
            have HP := Lib.hid P
            clear P R5 k6 h6 h3 hrs
            go_wp2_with fail
            go_ret
            exact HP.out
          · have P := F0.out (by rw [young_some Hg.out, ← HX.out]; split <;> omega)
            have HP := Lib.hid P
            have d2 : decide (g < x) = false := by simpa using hlx
            clear P h3
            go_wp2_with fail
            go_ret
            exact HP.out
        · have P := F0.out (by rw [young_some Hg.out, if_neg]; intro h; rw [← HG.out] at h; exact hlt h.2)
          have HP := Lib.hid P
          have d2 : decide (g < gn) = false := by simpa using hlt
          clear P h3
          go_wp2_with fail
          go_ret
          exact HP.out
    · have P := F0.out (young_none hg)
      have HP := Lib.hid P
      clear P hg
      go_wp2_with fail
      go_ret
      exact HP.out
end Go.Proofs.Ytgnpeciedefeiaa

namespace Go.Proofs.Ytgnpeciedefeiaa
open Go.RowKit

/-- The mark behind the first k words of a card. -/
def oughtTo (M : MemV) (s : Sg) (d k : Nat) : Int := (upto (wordF s d) k).foldl (fun m u => youngV M s u.1 m) 5
theorem oughtTo_all (M : MemV) (s : Sg) (d : Nat) : oughtTo M s d (cntW s d) = oughtV M s d := rfl
theorem oughtTo_zero (M : MemV) (s : Sg) (d : Nat) : oughtTo M s d 0 = 5 := rfl
theorem oughtTo_succ (M : MemV) (s : Sg) (d k : Nat) : oughtTo M s d (k + 1) = youngV M s (wordF s d k).1 (oughtTo M s d k) := by
  unfold oughtTo
  rw [upto_succ, List.foldl_append]
  rfl
theorem oughtTo_lo {M : MemV} (ok : M.Ok) (s : Sg) (d k : Nat) : 0 ≤ oughtTo M s d k ∧ oughtTo M s d k ≤ 5 := fold_lo ok s _ 5 (by omega) (by omega)
theorem young_data9 {M : MemV} {s : Sg} {u : Nat} {x : Int} (h : s.kind = 3) : youngV M s u x = x := by
  unfold youngV
  split
  · rw [if_neg (fun e => e.1 h)]
  · rfl
theorem fold_data9 {M : MemV} {s : Sg} (h : s.kind = 3) : ∀ (l : List U64) (x : Int), l.foldl (fun m u => youngV M s u.1 m) x = x
  | [], _ => rfl
  | u :: l, x => by rw [List.foldl_cons, young_data9 h]; exact fold_data9 h l x
theorem ought_data9 {M : MemV} {s : Sg} {d : Nat} (h : s.kind = 3) : oughtV M s d = 5 := fold_data9 h _ _

def OughtPost (x : Int) (w : World) (e : Ending) (w' : World) : Prop := e = .returned (.int .i64 x) ∧ Keep (fun _ => False) w w'

set_option maxRecDepth 100000 in
set_option maxHeartbeats 4000000 in
theorem ought_any {w : World} {base m r q : Nat} {S : SpV} {L : List Nat} (h : R9At w base m r q S L) (ok : S.Ok) (i d t : Nat) (hi : i < L.length) (hit : L.getD i 0 = t) (hd : d < 4) :
    Calls Try.prog 98 #[.pointer (some ⟨m, 0, none⟩), .int .i64 (i : Int), .int .i64 (d : Int)] w (OughtPost (oughtV S.M (S.M.sg t) d) w) := by
  have c0 := h.ptr
  have c1 := h.qptr
  have hl := h.sp.ref.len9 ok.mem
  obtain ⟨gv, cap, A', cap2, q1, hgv, y0, y1, y2, y3, y4, y5, y6, y7, y8, hw⟩ := h.sp.ref.rows9 hi hit.symm
  have ht : t < S.M.lim ∧ 0 < (S.M.sg t).taken := by
    obtain ⟨T, v, wv, RN⟩ := h.sp.ref
    have := T.mem (RN.memL hi)
    rwa [hit] at this
  have so := ok.mem.sg t ht.1
  have hcn := cntOf_eq ok.mem ht.1
  have n64 := so.n64
  have hwb : ∀ j, 0 ≤ (S.M.sg t).words j ∧ (S.M.sg t).words j ≤ 18446744073709551615 := so.w0
  obtain ⟨s, hs⟩ : ∃ s, s = S.M.sg t := ⟨_, rfl⟩
  have hcd : cntOf S.M t = s.n.toNat := by rw [hs]; rfl
  obtain ⟨n, hn⟩ : ∃ n, n = cntOf S.M t := ⟨_, rfl⟩
  rw [← hn] at y8 hw hcn hcd
  rw [← hs] at y1 y2 y3 y4 y5 y6 y7 hw hcn n64 hwb ⊢
  have hn64 : n ≤ 64 := by omega
  have HW := Lib.hid hw
  have HWB := Lib.hid hwb
  have HCD := Lib.hid hcd
  have ii0 : (0 : Int) ≤ (i : Int) := by omega
  have ii1 : (i : Int) < (L.length : Int) := by omega
  have lo := fun k => oughtTo_lo ok.mem s d k
  have HLO := Lib.hid lo
  have H := Lib.hid h
  clear hw hwb hcn n64 so hn hs ht hit lo h hcd
  go_enter Try.func98, Try.ntmps98
  go_wp2_with fail
  have K1 : Keep (fun _ => False) w (w.alloc (.cells #[.int .i64 (t : Int), .int .i64 s.gen, .int .i64 s.kind, .int .i64 s.n, .int .i64 s.c0, .int .i64 s.c1, .int .i64 s.c2, .int .i64 s.c3, .slice A' n cap2] 125)) := (Keep.refl _ _).alloc _
  have hX : (w.alloc (.cells #[.int .i64 (t : Int), .int .i64 s.gen, .int .i64 s.kind, .int .i64 s.n, .int .i64 s.c0, .int .i64 s.c1, .int .i64 s.c2, .int .i64 s.c3, .slice A' n cap2] 125)).heap[w.heap.size]? = some (.cells #[.int .i64 (t : Int), .int .i64 s.gen, .int .i64 s.kind, .int .i64 s.n, .int .i64 s.c0, .int .i64 s.c1, .int .i64 s.c2, .int .i64 s.c3, .slice A' n cap2] 125 (0, 0)) := heap_alloc_new _ _
  have HX := Lib.hid hX
  clear hX c0 c1 q1 y0 y1 y2 y3 y4 y5 y6 y7 y8 hgv
  generalize w.heap.size = xb at HX ⊢
  generalize w.alloc (.cells #[.int .i64 (t : Int), .int .i64 s.gen, .int .i64 s.kind, .int .i64 s.n, .int .i64 s.c0, .int .i64 s.c1, .int .i64 s.c2, .int .i64 s.c3, .slice A' n cap2] 125) = w1 at K1 HX ⊢
  have HXC := Lib.hid (fun (w' : World) (K' : Keep (fun _ => False) w1 w') => (show w'.cell? ⟨xb, 1, none⟩ = some (.int .i64 s.gen) ∧ w'.cell? ⟨xb, 2, none⟩ = some (.int .i64 s.kind) ∧ w'.cell? ⟨xb, 8, none⟩ = some (.slice A' n cap2) from by
    have hb := K'.heap HX.out (by simp)
    refine ⟨?_, ?_, ?_⟩ <;> (rw [cell_of_row w' _ _ _ _ _ hb]; rfl)))
  go_loopw [8, 9, 10, 11] (fun mv iv _ _ wr => ∃ k : Nat, k ≤ 16 ∧ (s.kind ≠ 3 → k ≤ cntW s d) ∧ (s.kind = 3 → k = 0) ∧ iv = .int .i64 ((16 : Int) * d + k) ∧ mv = .int .i64 (oughtTo S.M s d k) ∧ Keep (fun _ => False) w1 wr) (fun _ iv _ _ _ => 80 - (intOf iv).toNat)
  case atStart => exact ⟨0, by omega, fun _ => Nat.zero_le _, fun _ => rfl, by simp, rfl, Keep.refl _ _⟩
  case round =>
    obtain ⟨k, hk, hkc, hk3, rfl, rfl, K⟩ := hrel
    have K2 := K1.trans K
    obtain ⟨x1, x2, x8⟩ := HXC.out _ K
    have HKC := Lib.hid hkc
    have HK3 := Lib.hid hk3
    have hmo := HLO.out k
    have Hnx := Lib.hid (oughtTo_succ S.M s d k)
    obtain ⟨mo, hmm⟩ : ∃ mo, mo = oughtTo S.M s d k := ⟨_, rfl⟩
    rw [← hmm] at hmo Hnx ⊢
    have HM := Lib.hid hmm
    clear hkc hk3 hmm
    by_cases h16 : k < 16
    · have a16 : (16 : Int) * d + k < 16 * d + 16 := by omega
      by_cases hn : 16 * d + k < n
      · have an : (16 : Int) * d + k < (n : Int) := by omega
        by_cases h3 : s.kind = 3
        · have b3 : (s.kind != 3) = false := by simpa using h3
          have P : OughtPost (oughtV S.M s d) w (.returned (.int .i64 mo)) wr := ⟨by rw [HM.out, HK3.out h3, oughtTo_zero, ought_data9 h3], K2⟩
          have HP := Lib.hid P
          clear P h3
          go_wp2_with fail
          go_ret
          exact HP.out
        · have b3 : (s.kind != 3) = true := by simpa using h3
          have hcw : k < cntW s d := by have := HCD.out; unfold cntW; omega
          obtain ⟨g2, rfl, hg2, hwc⟩ := HW.out (16 * d + k) hn
          have hwc2 := ((K2.cell (p := ⟨g2, 16 * d + k, none⟩) hg2 (by simp)).trans hwc)
          have hv : (((wordF s d k).1 : Nat) : Int) = s.words (16 * d + k) := by
            have := u64_val (HWB.out (d * 16 + k)).1 (HWB.out (d * 16 + k)).2
            rw [show 16 * d + k = d * 16 + k from by omega]
            exact this
          rw [← hv] at hwc2
          have hul := (wordF s d k).2
          have H3 := Lib.hid h3
          have HR := Lib.hid (H.out.keep0 K2)
          have HKW := Lib.hid hcw
          have HUL := Lib.hid hul
          have ix0 : (0 : Int) ≤ 16 * d + k := by omega
          have ixn : ((16 : Int) * d + k).toNat = 16 * d + k := by omega
          generalize (wordF s d k).1 = u at hwc2 hul HUL Hnx
          clear hv hwc h3 hcw hul
          go_wp2_with fail
          refine (rgen_any HR.out ok u HUL.out).mono ?_
          rintro e w2 ⟨k2, hgen⟩
          have K3 := K.trans k2
          obtain ⟨x1, x2, x8⟩ := HXC.out _ K3
          clear k2 K K2 hwc2
          rcases hgen with ⟨g, rfl, hg⟩ | ⟨rfl, hg⟩
          · by_cases hlt : g < s.gen
            · by_cases hlx : g < mo
              · have E : g = oughtTo S.M s d (k + 1) := by
                  rw [Hnx.out, young_some hg, if_pos ⟨H3.out, hlt⟩]
                  omega
                have HE := Lib.hid E
                clear hg E
                go_wp2_with fail
                go_roundw
                case rel => exact ⟨k + 1, by omega, fun _ => HKW.out, fun e => absurd e H3.out, by go_num, by rw [HE.out], K3⟩
                case measure => simp [intOf]; omega
              · have E : mo = oughtTo S.M s d (k + 1) := by
                  rw [Hnx.out, young_some hg, if_pos ⟨H3.out, hlt⟩]
                  omega
                have HE := Lib.hid E
                have d2 : decide (g < mo) = false := by simpa using hlx
                clear hg E
                go_wp2_with fail
                go_roundw
                case rel => exact ⟨k + 1, by omega, fun _ => HKW.out, fun e => absurd e H3.out, by go_num, by rw [HE.out], K3⟩
                case measure => simp [intOf]; omega
            · have E : mo = oughtTo S.M s d (k + 1) := by
                rw [Hnx.out, young_some hg, if_neg (fun h => hlt h.2)]
              have HE := Lib.hid E
              have d2 : decide (g < s.gen) = false := by simpa using hlt
              clear hg E
              go_wp2_with fail
              go_roundw
              case rel => exact ⟨k + 1, by omega, fun _ => HKW.out, fun e => absurd e H3.out, by go_num, by rw [HE.out], K3⟩
              case measure => simp [intOf]; omega
          · have E : mo = oughtTo S.M s d (k + 1) := by rw [Hnx.out, young_none hg]
            have HE := Lib.hid E
            clear hg E
            go_wp2_with fail
            go_roundw
            case rel => exact ⟨k + 1, by omega, fun _ => HKW.out, fun e => absurd e H3.out, by go_num, by rw [HE.out], K3⟩
            case measure => simp [intOf]; omega
      · have P : OughtPost (oughtV S.M s d) w (.returned (.int .i64 mo)) wr := ⟨by
          rw [HM.out]
          by_cases h3 : s.kind = 3
          · rw [HK3.out h3, oughtTo_zero, ought_data9 h3]
          · have : k = cntW s d := by have := HKC.out h3; have := HCD.out; unfold cntW at *; omega
            rw [this, oughtTo_all], K2⟩
        have HP := Lib.hid P
        have d2 : decide ((16 : Int) * d + k < (n : Int)) = false := decide_eq_false (by omega)
        clear P hn
        go_wp2_with fail
        go_ret
        exact HP.out
    · obtain rfl : k = 16 := by omega
      have P : OughtPost (oughtV S.M s d) w (.returned (.int .i64 mo)) wr := ⟨by
        rw [HM.out]
        by_cases h3 : s.kind = 3
        · have := HK3.out h3; omega
        · have : 16 = cntW s d := by have := HKC.out h3; unfold cntW at *; omega
          rw [this, oughtTo_all], K2⟩
      have HP := Lib.hid P
      clear P
      go_wp2_with fail
      go_ret
      exact HP.out

def RAgainPost (base m r q : Nat) (S : SpV) (L : List Nat) (seg card : Int) (w : World) (e : Ending) (w' : World) : Prop :=
  ∃ (M' : MemV) (f : Int), e = .returned (.int .i64 f) ∧ R9At w' base m r q { S with M := M' } L ∧ Keep (RefS8 r w base) w w' ∧ AgainR S.M seg card f M'

/-- One mark is written. -/
theorem R9At.mark {w : World} {base m r q : Nat} {S : SpV} {L : List Nat} (h : R9At w base m r q S L) {i k d gv cap : Nat} (hi : i < L.length) (hit : L.getD i 0 = k) (hd : d < 4) (hq : w.cell? ⟨q, 1, none⟩ = some (.slice (some ⟨gv, 0, none⟩) L.length cap)) (g : Int) :
    R9At (w.setCell ⟨gv, i * 9 + 4 + d, none⟩ (.int .i64 g)) base m r q { S with M := S.M.put k ((S.M.sg k).mark d g) } L ∧ w.frozen? ⟨gv, i * 9 + 4 + d, none⟩ = false ∧ Keep (RefS8 r w base) w (w.setCell ⟨gv, i * 9 + 4 + d, none⟩ (.int .i64 g)) := by
  obtain ⟨T, v, wv, R⟩ := h.sp.ref
  have hv : v = .slice (some ⟨gv, 0, none⟩) L.length cap := by
    have := R.cells.2
    rw [hq] at this
    injection this with this
    exact this.symm
  have rr := setMark_ref R T hi (c := d) hd hv g
  rw [hit, ← Nat.add_assoc] at rr
  have hrs : RefS w base gv := R.isV (b := gv) (by rw [hv]; rfl)
  have hfz : w.frozen? ⟨gv, i * 9 + 4 + d, none⟩ = false := by
    obtain ⟨g2, cap2, hv2, _, hfz, _⟩ := R.row hi
    rw [hv] at hv2
    injection hv2 with hv3 _ _
    injection hv3 with hv3
    injection hv3 with hv3 _ _
    subst hv3
    exact hfz _
  have k6 : Keep (RefS w base) w (w.setCell ⟨gv, i * 9 + 4 + d, none⟩ (.int .i64 g)) := (Keep.refl _ _).setCell (.inl hrs) _
  exact ⟨h.into (S' := { S with M := S.M.put k ((S.M.sg k).mark d g) }) k6.refs8 (h.sp.keepM k6 rr), hfz, k6.refs8⟩

set_option maxRecDepth 100000 in
set_option maxHeartbeats 4000000 in
theorem ragain_any {w : World} {base m r q : Nat} {S : SpV} {L : List Nat} (h : R9At w base m r q S L) (ok : S.Ok) (seg card : Int) :
    Calls Try.prog 86 #[.pointer (some ⟨m, 0, none⟩), .int .i64 seg, .int .i64 card] w (RAgainPost base m r q S L seg card w) := by
  have c0 := h.ptr
  have s0 := h.qptr
  by_cases hh : S.M.has seg
  · obtain ⟨k, rfl, hk, ht⟩ := MemV.has_iff.1 hh
    obtain ⟨i, hi, hit⟩ := h.sp.ref.at9 hk ht
    have HP := Lib.hid (place_yes9 h.sp.ref ok.mem hi (k : Int) (by rw [hit]))
    have HKT := Lib.hid (And.intro hk ht)
    have H := Lib.hid h
    have Hit := Lib.hid hit
    have hl := h.sp.ref.len9 ok.mem
    clear hh hk ht hit h
    by_cases b1 : card < 0
    · go_enter Try.func86, Try.ntmps86
      go_wp2_with fail
      refine HP.out.mono ?_
      rintro e w1 ⟨rfl, rfl⟩
      go_wp2_with fail
      go_ret
      exact ⟨S.M, 1, rfl, H.out, Keep.refl _ _, .inr (.inl ⟨k, rfl, HKT.out.1, HKT.out.2, .inl b1, rfl, rfl⟩)⟩
    · by_cases b2 : 3 < card
      · go_enter Try.func86, Try.ntmps86
        go_wp2_with fail
        refine HP.out.mono ?_
        rintro e w1 ⟨rfl, rfl⟩
        go_wp2_with fail
        go_ret
        exact ⟨S.M, 1, rfl, H.out, Keep.refl _ _, .inr (.inl ⟨k, rfl, HKT.out.1, HKT.out.2, .inr (by omega), rfl, rfl⟩)⟩
      · obtain ⟨d, rfl⟩ := Int.eq_ofNat_of_zero_le (by omega : 0 ≤ card)
        have hd : d < 4 := by omega
        have b3 : decide ((d : Int) < 0) = false := by simp
        have b4 : decide ((3 : Int) < (d : Int)) = false := by simp; omega
        clear b1 b2
        go_enter Try.func86, Try.ntmps86
        go_wp2_with fail
        refine HP.out.mono ?_
        rintro e w1 ⟨rfl, rfl⟩
        go_wp2_with fail
        refine (ought_any H.out ok i d k hi Hit.out hd).mono ?_
        rintro e w2 ⟨rfl, k2⟩
        have h2 := H.out.keep0 k2
        clear c0 s0
        have c0 := h2.ptr
        have s0 := h2.qptr
        obtain ⟨gv, cap, _, _, q1, hgv, _, _, _, _, y0, y1, y2, y3, _⟩ := h2.sp.ref.rows9 hi Hit.out.symm
        have yd : w2.cell? ⟨gv, i * 9 + 4 + d, none⟩ = some (.int .i64 ((S.M.sg k).card d)) := by
          match d, hd with
          | 0, _ => exact y0
          | 1, _ => exact y1
          | 2, _ => exact y2
          | 3, _ => exact y3
        obtain ⟨g, hg⟩ : ∃ g, g = oughtV S.M (S.M.sg k) d := ⟨_, rfl⟩
        rw [← hg]
        have HG := Lib.hid hg
        obtain ⟨h3, hfz, k3⟩ := h2.mark hi Hit.out hd q1 g
        have P : RAgainPost base m r q S L k d w (.returned (.int .i64 0)) (w2.setCell ⟨gv, i * 9 + 4 + d, none⟩ (.int .i64 g)) :=
          ⟨_, 0, rfl, h3, (k2.mono (fun _ _ h => h.elim)).refs8_join k3, .inr (.inr ⟨k, d, rfl, HKT.out.1, HKT.out.2, rfl, hd, rfl, by rw [hg]⟩)⟩
        have HPP := Lib.hid P
        have ii0 : (0 : Int) ≤ (i : Int) := by omega
        have ii1 : (i : Int) < (L.length : Int) := by omega
        have dd0 : (0 : Int) ≤ (d : Int) := by omega
        have dd4 : (d : Int) < 4 := by omega
        clear P h3 k3 h2 k2 y0 y1 y2 y3 hg b3 b4
        generalize (S.M.sg k).card d = x at yd
        go_wp2_with fail
        go_ret
        exact HPP.out
  · have HP := Lib.hid (place_no9 h.sp.ref ok.mem seg hh)
    have Hh := Lib.hid hh
    clear hh
    go_enter Try.func86, Try.ntmps86
    go_wp2_with fail
    refine HP.out.mono ?_
    rintro e w1 ⟨rfl, rfl⟩
    go_wp2_with fail
    go_ret
    exact ⟨S.M, 19, rfl, h, Keep.refl _ _, .inl ⟨Hh.out, rfl, rfl⟩⟩
end Go.Proofs.Ytgnpeciedefeiaa

namespace Go.Proofs.Ytgnpeciedefeiaa
open Go.RowKit

/-- A row of the document's list, copied to a block of its own. -/
def RowAt9 (w : World) (b t : Nat) (s : Sg) (v : Value) : Prop := w.heap[b]? = some (.cells #[.int .i64 (t : Int), .int .i64 s.gen, .int .i64 s.kind, .int .i64 s.n, .int .i64 s.c0, .int .i64 s.c1, .int .i64 s.c2, .int .i64 s.c3, v] 125 (0, 0))
theorem RowAt9.cells {w : World} {b t : Nat} {s : Sg} {v : Value} (h : RowAt9 w b t s v) : w.cell? ⟨b, 0, none⟩ = some (.int .i64 (t : Int)) ∧ w.cell? ⟨b, 1, none⟩ = some (.int .i64 s.gen) ∧ w.cell? ⟨b, 2, none⟩ = some (.int .i64 s.kind) ∧ w.cell? ⟨b, 3, none⟩ = some (.int .i64 s.n) ∧ w.cell? ⟨b, 4, none⟩ = some (.int .i64 s.c0) ∧ w.cell? ⟨b, 5, none⟩ = some (.int .i64 s.c1) ∧ w.cell? ⟨b, 6, none⟩ = some (.int .i64 s.c2) ∧ w.cell? ⟨b, 7, none⟩ = some (.int .i64 s.c3) ∧ w.cell? ⟨b, 8, none⟩ = some v := by
  unfold RowAt9 at h
  refine ⟨?_, ?_, ?_, ?_, ?_, ?_, ?_, ?_, ?_⟩ <;> (rw [cell_of_row w b _ _ _ _ h]; rfl)
theorem RowAt9.card {w : World} {b t : Nat} {s : Sg} {v : Value} (h : RowAt9 w b t s v) {j : Nat} (hj : j < 4) : w.cell? ⟨b, 4 + j, none⟩ = some (.int .i64 (s.card j)) := by
  obtain ⟨_, _, _, _, h4, h5, h6, h7, _⟩ := h.cells
  match j, hj with
  | 0, _ => exact h4
  | 1, _ => exact h5
  | 2, _ => exact h6
  | 3, _ => exact h7

set_option maxRecDepth 100000 in
set_option maxHeartbeats 4000000 in
theorem rdirty_any {w : World} {base m r q : Nat} {S : SpV} {L : List Nat} (h : R9At w base m r q S L) (ok : S.Ok) (gg : Int) :
    Calls Try.prog 83 #[.pointer (some ⟨m, 0, none⟩), .int .i64 gg] w (DirtyPost (dirtyL S.M gg L) w) := by
  obtain ⟨i0, hi, hz0, hz1, hz2⟩ := info_parts info90
  have hl := h.sp.ref.len9 ok.mem
  have H := Lib.hid h
  clear h
  go_enter Try.func83, Try.ntmps83
  go_wp2_with fail
  go_loopw [5, 6, 7, 8] (fun v i _ _ wr => ∃ k : Nat, k ≤ L.length ∧ i = .int .i64 k ∧ DirtyRel w S.M (dirtyL S.M gg (L.take k)) v wr ∧ Keep (fun _ => False) w wr) (fun _ i _ _ _ => L.length - (intOf i).toNat)
  case atStart => exact ⟨0, Nat.zero_le _, rfl, World.ownsRow_nil _ _ _ _, Keep.refl _ _⟩
  case round =>
    obtain ⟨k, hk, rfl, own, K⟩ := hrel
    have hr := H.out.keep0 K
    have c0 := hr.ptr
    have s0 := hr.qptr
    by_cases hlt : k < L.length
    · obtain ⟨t, ht⟩ : ∃ t, t = L.getD k 0 := ⟨_, rfl⟩
      obtain ⟨gv, cap, A', cap2, q1, hgv, y0, y1, y2, y3, y4, y5, y6, y7, y8, _⟩ := hr.sp.ref.rows9 hlt ht
      have htk := dirtyL_take S.M gg L k hlt
      have hlen := dirtyL_len S.M gg (L.take k)
      have hlen2 : (L.take k).length ≤ 1024 := by rw [List.length_take]; omega
      rw [← ht] at htk
      have Htk := Lib.hid htk
      have Own := Lib.hid own
      have Hlen := Lib.hid (show (dirtyL S.M gg (L.take k)).length ≤ 4096 by omega)
      obtain ⟨nw, hnw⟩ : ∃ nw, nw = cntOf S.M t := ⟨_, rfl⟩
      rw [← hnw] at y8
      obtain ⟨s, hs⟩ : ∃ s, s = S.M.sg t := ⟨_, rfl⟩
      rw [← hs] at y1 y2 y3 y4 y5 y6 y7
      have HS := Lib.hid hs
      have ii0 : (0 : Int) ≤ (k : Int) := by omega
      have ii1 : (k : Int) < (L.length : Int) := by omega
      clear htk ht own hlen hlen2 hnw hs hr
      go_wp2_with fail
      have k4 : Keep (fun _ => False) wr (wr.alloc (.cells #[.int .i64 (t : Int), .int .i64 s.gen, .int .i64 s.kind, .int .i64 s.n, .int .i64 s.c0, .int .i64 s.c1, .int .i64 s.c2, .int .i64 s.c3, .slice A' nw cap2] 125)) := (Keep.refl _ _).alloc _
      have hS : RowAt9 (wr.alloc (.cells #[.int .i64 (t : Int), .int .i64 s.gen, .int .i64 s.kind, .int .i64 s.n, .int .i64 s.c0, .int .i64 s.c1, .int .i64 s.c2, .int .i64 s.c3, .slice A' nw cap2] 125)) wr.heap.size t s (.slice A' nw cap2) := heap_alloc_new _ _
      have own4 := own_keep k4 Own.out (fun _ _ => id)
      clear c0 s0 q1 hgv y0 y1 y2 y3 y4 y5 y6 y7 y8
      generalize wr.heap.size = xb at hS ⊢
      generalize wr.alloc (.cells #[.int .i64 (t : Int), .int .i64 s.gen, .int .i64 s.kind, .int .i64 s.n, .int .i64 s.c0, .int .i64 s.c1, .int .i64 s.c2, .int .i64 s.c3, .slice A' nw cap2] 125) = w4 at k4 hS own4 ⊢
      have K4 := K.trans k4
      clear k4 K
      go_loopw [5, 8] (fun v i wx => ∃ j : Nat, j ≤ 4 ∧ i = .int .i64 j ∧ DirtyRel w S.M (dirtyL S.M gg (L.take k) ++ dirtyS S.M gg t j) v wx ∧ RowAt9 wx xb t s (.slice A' nw cap2) ∧ Keep (fun _ => False) w wx) (fun _ i _ => 4 - (intOf i).toNat)
      case atStart => exact ⟨0, by omega, rfl, by simpa [DirtyRel, dirtyS] using own4, hS, K4⟩
      case round =>
        clear hS K4 own4
        obtain ⟨j, hj, rfl, own, hS, K⟩ := hrel
        by_cases hj4 : j < 4
        · have x0 := hS.cells.1
          have x1 := hS.cells.2.1
          have xj := hS.card hj4
          have jj0 : (0 : Int) ≤ (j : Int) := by omega
          have jj4 : (j : Int) < 4 := by omega
          have HSX := Lib.hid hS
          have hgen : s.gen = (S.M.sg t).gen := by rw [HS.out]
          have hcd : s.card j = (S.M.sg t).card j := by rw [HS.out]
          by_cases d1 : gg < s.gen
          · by_cases d2 : s.card j ≤ gg
            · have hd : dirtyB S.M gg t j = true := by unfold dirtyB; rw [← hgen, ← hcd]; simp [d1, d2]
              have Hd := Lib.hid hd
              unfold DirtyRel at own
              have Own := Lib.hid own
              have hl4 : (dirtyL S.M gg (L.take k) ++ dirtyS S.M gg t j).length ≤ 5000 := by
                rw [List.length_append]
                have := dirtyS_len S.M gg t j
                have := Hlen.out
                omega
              have Hl4 := Lib.hid hl4
              clear hd own hl4 hgen hcd hS
              generalize s.card j = xc at xj d2
              go_wp2_with (at_builtin; refine wpList_append_own _ rfl (.tmp 55) (.tmp 60) 85 rfl w.heap.size 90 i0 _ 2 16 Try.underlying85 hi hz0 hz1 hz2 rfl (by decide) _ _ _ rfl (Own.out.alloc _) ⟨wr.heap.size, 0, none⟩ 1 1 [.int .i64 (t : Int), .int .i64 (j : Int)] rfl rfl (pair_at _ _ _ _) ?a1 ?a2 ?a3 ?a4 ?_)
              case a1 => intro u hu; simp at hu; rcases hu with rfl | rfl <;> rfl
              case a2 => have := Hl4.out; unfold maxLen; omega
              case a3 => have := Hl4.out; omega
              case a4 => have := K.size; simp; omega
              intro v' w5 own5 hgrow _
              have K5 : Keep (fun _ => False) w w5 := (K.alloc (.cells #[.int .i64 (t : Int), .int .i64 (j : Int)] 90)).grown hgrow (fun b hb => .inr (own_type Own.out hb).1)
              have k5 : Keep (fun b => ∃ cc, wr.heap[b]? = some (.cells cc 90 (0, 0))) wr w5 := ((Keep.refl (fun b => ∃ cc, wr.heap[b]? = some (.cells cc 90 (0, 0))) wr).alloc (.cells #[.int .i64 (t : Int), .int .i64 (j : Int)] 90)).grown hgrow (fun b hb => .inl (own_type Own.out hb).2)
              have hS5 : RowAt9 w5 xb t s (.slice A' nw cap2) := k5.heap HSX.out (fun e => by
                obtain ⟨cc, hcc⟩ := e
                have hS := HSX.out
                unfold RowAt9 at hS
                rw [hS] at hcc
                injection hcc with hcc
                injection hcc with _ hcc
                exact absurd hcc (by decide))
              have own6 := Lib.hid (DirtyRel.hit (w0 := w) own5 Hd.out)
              clear own5 hgrow k5 x0 x1 xj
              go_wp2
              go_roundw
              case rel => exact ⟨j + 1, by omega, by go_num, own6.out, hS5, K5⟩
              case measure => simp [intOf]; omega
            · have Own := Lib.hid (own.skip (j := j) (by unfold dirtyB; rw [← hgen, ← hcd]; simp [d2]))
              have e2 : decide (s.card j ≤ gg) = false := by simpa using d2
              clear own hgen hcd hS d2
              generalize s.card j = xc at xj e2
              go_wp2_with fail
              go_roundw
              case rel => exact ⟨j + 1, by omega, by go_num, Own.out, HSX.out, K⟩
              case measure => simp [intOf]; omega
          · have Own := Lib.hid (own.skip (j := j) (by unfold dirtyB; rw [← hgen, ← hcd]; simp [d1]))
            have e2 : decide (gg < s.gen) = false := by simpa using d1
            clear own hgen hcd hS d1
            go_wp2_with fail
            go_roundw
            case rel => exact ⟨j + 1, by omega, by go_num, Own.out, HSX.out, K⟩
            case measure => simp [intOf]; omega
        · obtain rfl : j = 4 := by omega
          rw [← Htk.out] at own
          have Own := Lib.hid own
          clear own hS
          go_wp2_with fail
          go_roundw
          case rel => exact ⟨k + 1, by omega, by go_num, Own.out, K⟩
          case measure => simp [intOf]; omega
    · obtain rfl : k = L.length := by omega
      rw [List.take_length] at own
      obtain ⟨T, v', wv, RN⟩ := hr.sp.ref
      obtain ⟨Av, cv, rfl⟩ := RN.shape
      obtain ⟨_, q1⟩ := RN.cells
      obtain ⟨A, cc, rfl, hC, hb⟩ := own_cards own
      clear own RN hr
      go_wp2_with fail
      go_ret
      exact ⟨A, cc, rfl, hC, fun b off e => (hb b off e).1, K⟩

theorem neq90_any (x y u v : Int) (w : World) : (binOp .neq 90 (.agg #[.int .i64 x, .int .i64 y]) (.agg #[.int .i64 u, .int .i64 v])).run Try.prog w = .ok (.bool (!(decide (x = u) && decide (y = v)))) w := by
  have hs : Try.prog.stoodInHeld 90 = false := by kernel_rfl
  have hf : Try.prog.underlying 90 = some (.struct (Try.prog.fieldsOf 90)) := by kernel_rfl
  rw [run_neq_struct, run_equalIn_agg w 9999 90 _ _ hf hs]
  simp [Program.fieldsOf, Try.underlying90, go_sem]
  by_cases h1 : x = u <;> by_cases h2 : y = v <;> simp [h1, h2]
def SamePost (w : World) (e : Ending) (w' : World) : Prop := e = .returned (.bool true) ∧ Keep (fun _ => False) w w'
set_option maxHeartbeats 1000000 in
theorem same_yes (A B : Option Addr) (n c d : Nat) (l : List (Nat × Nat)) (w : World) (hA : CardsAt w A n l) (hB : CardsAt w B n l) (hn : n ≤ 1000000) :
    Calls Try.prog 82 #[.slice A n c, .slice B n d] w (SamePost w) := by
  have HA := Lib.hid hA
  have HB := Lib.hid hB
  clear hA hB
  go_enter Try.func82, Try.ntmps82
  go_wp2_with fail
  go_loopw [5] (fun i wr => ∃ k : Nat, k ≤ n ∧ i = .int .i64 k ∧ Keep (fun _ => False) w wr) (fun i _ => n - (intOf i).toNat)
  case atStart => exact ⟨0, Nat.zero_le _, rfl, Keep.refl _ _⟩
  case round =>
    obtain ⟨k, hk, rfl, K⟩ := hrel
    by_cases hlt : k < n
    · obtain ⟨b1, o1, rfl, hb1, x0, x1⟩ := (HA.out.keep0 K).2 k hlt
      obtain ⟨b2, o2, rfl, hb2, y0, y1⟩ := (HB.out.keep0 K).2 k hlt
      obtain ⟨x, hx⟩ : ∃ x, x = l.getD k (0, 0) := ⟨_, rfl⟩
      rw [← hx] at x0 x1 y0 y1
      have heq : ∀ w', (binOp .neq 90 (.agg #[.int .i64 (x.1 : Int), .int .i64 (x.2 : Int)]) (.agg #[.int .i64 (x.1 : Int), .int .i64 (x.2 : Int)])).run Try.prog w' = .ok (.bool false) w' := fun w' => by
        rw [neq90_any]; simp
      clear hx hb1 hb2
      go_wp2_with fail
      go_quiet (fail)
      go_wp2_with fail
      go_roundw
      case rel => exact ⟨k + 1, by omega, by go_num, K.drewN _⟩
      case measure => simp [intOf]; omega
    · obtain rfl : k = n := by omega
      go_wp2_with fail
      go_ret
      exact ⟨rfl, K⟩
end Go.Proofs.Ytgnpeciedefeiaa
