/-
  The document's space: New, Give.
-/
import Derived.Test.YtgnpeciedefeiaaSpRef
namespace Go.Proofs.Ytgnpeciedefeiaa
open Go.RowKit

theorem rnew8_none (limit : Int) (w : World) (h : limit < 8 ∨ 1024 < limit) :
    Calls Try.prog 32 #[.int .i64 limit] w fun e w' => e = .returned (.pointer none) ∧ w = w' := by
  have H := Lib.hid h
  clear h
  go_enter Try.func32, Try.ntmps32
  go_wp2_with fail
  refine (rnew_none limit _ H.out).mono ?_
  rintro e w1 ⟨rfl, rfl⟩
  go_wp2_with fail
  go_ret
  exact ⟨rfl, rfl⟩

def RNew8Post (lim base : Nat) (w : World) (e : Ending) (w' : World) : Prop :=
  ∃ r q : Nat, e = .returned (.pointer (some ⟨r, 0, none⟩)) ∧ w.heap.size ≤ r ∧ R8At w' base r q (SpV.new lim) [] ∧ Keep (fun _ => False) w w'
theorem rnew8_some (lim base : Nat) (limit : Int) (w : World) (hl : limit = lim) (h8 : 8 ≤ lim) (h1024 : lim ≤ 1024) (hb : base ≤ w.heap.size) :
    Calls Try.prog 32 #[.int .i64 limit] w (RNew8Post lim base w) := by
  subst hl
  go_enter Try.func32, Try.ntmps32
  go_wp2_with fail
  refine (rnew_some lim base _ _ rfl h8 h1024 hb).mono ?_
  rintro e w1 ⟨q, rfl, hq, R1, k1⟩
  go_wp2_with fail
  have k2 := k1.alloc (.cells #[.pointer (some ⟨q, 0, none⟩), .int .i64 0, .int .i64 0, .int .i64 0, .int .i64 0, .int .i64 0, .int .i64 0, .int .i64 0, .int .i64 0, .int .i64 0, .int .i64 0, .int .i64 0, .int .i64 0, .int .i64 0, .int .i64 0, .int .i64 0, .int .i64 0, .int .i64 0, .int .i64 0, .int .i64 0, .int .i64 0] 129)
  have hz := k1.size
  have h2 : R8Raw (w1.alloc (.cells #[.pointer (some ⟨q, 0, none⟩), .int .i64 0, .int .i64 0, .int .i64 0, .int .i64 0, .int .i64 0, .int .i64 0, .int .i64 0, .int .i64 0, .int .i64 0, .int .i64 0, .int .i64 0, .int .i64 0, .int .i64 0, .int .i64 0, .int .i64 0, .int .i64 0, .int .i64 0, .int .i64 0, .int .i64 0, .int .i64 0] 129)) base w1.heap.size q (MemV.new lim) [] (fun _ _ => 0) := by
    refine ⟨by omega, ⟨_, heap_alloc_new _ _⟩, by rw [World.cell?_alloc_new]; rfl, ?_, R1.keep0 ((Keep.refl _ _).alloc _)⟩
    intro i k hi hk
    rw [World.cell?_alloc_new]
    match i, hi with
    | 0, _ | 1, _ | 2, _ | 3, _ | 4, _ =>
      match k, hk with
      | 0, _ | 1, _ | 2, _ | 3, _ => rfl
  refine (rfresh_any h2 none 0 0 [] (IntsAt.nil _ _) (by omega) (fun h => absurd h (by omega))).mono ?_
  rintro e w3 ⟨rfl, h3, k3⟩
  go_wp2_with fail
  go_ret
  exact ⟨_, q, rfl, hz, h3.congr (fun i k _ _ => by simp [freshB, SpV.new]), k2.into k3 (fun i hi => by rw [hi]; exact hz)⟩

/-- The current segments behind a gift of k, as far as (i, j). -/
def gaveTo (cv : Nat → Nat → Int) (k : Int) (i j a b : Nat) : Int := if (a < i ∨ (a = i ∧ b < j)) ∧ cv a b = k then -1 else cv a b
theorem gaveTo_step (cv : Nat → Nat → Int) (k : Int) (i j a b : Nat) (h : cv i j = k) : gaveTo cv k i (j + 1) a b = if a = i ∧ b = j then -1 else gaveTo cv k i j a b := by
  unfold gaveTo
  by_cases e : a = i ∧ b = j
  · obtain ⟨rfl, rfl⟩ := e
    simp [h]
  · rw [if_neg e]
    have : (a < i ∨ a = i ∧ b < j + 1) ↔ (a < i ∨ a = i ∧ b < j) := by omega
    simp only [this]
theorem gaveTo_skip (cv : Nat → Nat → Int) (k : Int) (i j a b : Nat) (h : cv i j ≠ k) : gaveTo cv k i (j + 1) a b = gaveTo cv k i j a b := by
  unfold gaveTo
  by_cases e : a = i ∧ b = j
  · obtain ⟨rfl, rfl⟩ := e
    simp [h]
  · have : (a < i ∨ a = i ∧ b < j + 1) ↔ (a < i ∨ a = i ∧ b < j) := by omega
    simp only [this]
theorem gaveTo_next (cv : Nat → Nat → Int) (k : Int) (i a b : Nat) (hb : b < 4) : gaveTo cv k (i + 1) 0 a b = gaveTo cv k i 4 a b := by
  unfold gaveTo
  have : (a < i + 1 ∨ a = i + 1 ∧ b < 0) ↔ (a < i ∨ a = i ∧ b < 4) := by omega
  simp only [this]

def RGive8Post (base r q : Nat) (S : SpV) (seg : Int) (w : World) (e : Ending) (w' : World) : Prop :=
  ∃ (S' : SpV) (L' : List Nat) (f : Int), e = .returned (.int .i64 f) ∧ R8At w' base r q S' L' ∧ Keep (RefS8 r w base) w w' ∧ Give8R S seg f S'

theorem Keep.refs8 {r base : Nat} {w w' : World} (k : Keep (RefS w base) w w') : Keep (RefS8 r w base) w w' := k.mono (fun _ _ h => .inr h)

set_option maxRecDepth 100000 in
set_option maxHeartbeats 4000000 in
theorem rgive8_any {w : World} {base r q : Nat} {S : SpV} {L : List Nat} (h : R8At w base r q S L) (ok : S.Ok) (seg : Int) :
    Calls Try.prog 76 #[.pointer (some ⟨r, 0, none⟩), .int .i64 seg] w (RGive8Post base r q S seg w) := by
  have hp := h.ptr
  go_enter Try.func76, Try.ntmps76
  go_wp2_with fail
  refine (give_ref h.ref ok.mem seg).mono ?_
  rintro e w1 ⟨M1, L1, f, rfl, R1, k1, hR⟩
  have h1 := h.keepM k1 R1
  clear hp
  rcases hR with ⟨hno, rfl, rfl⟩ | ⟨t, rfl, ht, htk, rfl, rfl⟩
  · have Hno := Lib.hid hno
    clear hno
    go_wp2_with fail
    go_loop [6, 7] (fun i _ => ∃ k : Nat, k ≤ 5 ∧ i = .int .i64 k) (fun i _ => 5 - (intOf i).toNat)
    case atStart => exact ⟨0, by omega, rfl⟩
    case round =>
      obtain ⟨k, hk, rfl⟩ := hrel
      by_cases hlt : k < 5
      · go_wp2_with fail
        go_loop [7] (fun i => ∃ j : Nat, j ≤ 4 ∧ i = .int .i64 j) (fun i => 4 - (intOf i).toNat)
        case atStart => exact ⟨0, by omega, rfl⟩
        case round =>
          obtain ⟨j, hj, rfl⟩ := hrel
          by_cases hjl : j < 4
          · go_wp2_with fail
            go_round
            case rel => exact ⟨j + 1, by omega, by go_num⟩
            case measure => simp [intOf]; omega
          · obtain rfl : j = 4 := by omega
            go_wp2_with fail
            go_round
            case rel => exact ⟨k + 1, by omega, by go_num⟩
            case measure => simp [intOf]; omega
      · obtain rfl : k = 5 := by omega
        go_wp2_with fail
        go_ret
        exact ⟨S, L1, 19, rfl, h1, k1.refs8, .inl ⟨Hno.out, rfl, rfl⟩⟩
  · have Htk := Lib.hid htk
    have Ht := Lib.hid ht
    have K1 := k1.refs8 (r := r)
    clear htk ht k1 R1 h
    go_wp2_with fail
    go_loopw [6, 7] (fun i _ wr => ∃ k : Nat, k ≤ 5 ∧ i = .int .i64 k ∧ R8Raw wr base r q (S.M.gave t) L1 (fun a b => gaveTo (fun i k => S.cur i k - 1) t k 0 a b) ∧ Keep (RefS8 r w base) w wr) (fun i _ _ => 5 - (intOf i).toNat)
    case atStart => exact ⟨0, by omega, rfl, h1.congr (fun a b ha hb => by simp [gaveTo]), K1⟩
    case round =>
      clear h1 K1
      obtain ⟨k, hk, rfl, h1, K1⟩ := hrel
      by_cases hlt : k < 5
      · go_wp2_with fail
        go_loopw [7] (fun i wx => ∃ j : Nat, j ≤ 4 ∧ i = .int .i64 j ∧ R8Raw wx base r q (S.M.gave t) L1 (fun a b => gaveTo (fun i k => S.cur i k - 1) t k j a b) ∧ Keep (RefS8 r w base) w wx) (fun i _ => 4 - (intOf i).toNat)
        case atStart => exact ⟨0, by omega, rfl, h1, K1⟩
        case round =>
          clear h1 K1
          obtain ⟨j, hj, rfl, h2, K2⟩ := hrel
          by_cases hjl : j < 4
          · have q0 := h2.cur k j hlt hjl
            have hg : gaveTo (fun i k => S.cur i k - 1) t k j k j = S.cur k j - 1 := by simp [gaveTo]
            simp only [hg] at q0
            clear hg
            have f0 := h2.frozen (1 + k * 4 + j)
            by_cases e : S.cur k j - 1 = (t : Int)
            · have he : (S.cur k j - 1 == (t : Int)) = true := by simpa using e
              have H3 := Lib.hid ((h2.setCur hlt hjl (-1)).congr (fun a b _ _ => gaveTo_step (fun i k => S.cur i k - 1) t k j a b e))
              clear e
              go_wp2_with fail
              go_roundw
              case rel => exact ⟨j + 1, by omega, by go_num, H3.out, K2.setCell (.inl (.inl rfl)) _⟩
              case measure => simp [intOf]; omega
            · have he : (S.cur k j - 1 == (t : Int)) = false := by simpa using e
              have H3 := Lib.hid (h2.congr (fun a b _ _ => gaveTo_skip (fun i k => S.cur i k - 1) t k j a b e))
              clear e
              go_wp2_with fail
              go_roundw
              case rel => exact ⟨j + 1, by omega, by go_num, H3.out, K2⟩
              case measure => simp [intOf]; omega
          · obtain rfl : j = 4 := by omega
            go_wp2_with fail
            go_roundw
            case rel => exact ⟨k + 1, by omega, by go_num, h2.congr (fun a b _ hb => gaveTo_next _ _ _ _ _ hb), K2⟩
            case measure => simp [intOf]; omega
      · obtain rfl : k = 5 := by omega
        go_wp2_with fail
        go_ret
        refine ⟨{ M := S.M.gave t, cur := fun i j => if S.cur i j = t + 1 then 0 else S.cur i j }, L1, 0, rfl, h1.congr (fun a b ha _ => ?_), K1, .inr ⟨t, rfl, Ht.out, Htk.out, rfl, rfl, fun i j _ _ => rfl⟩⟩
        simp only [gaveTo]
        by_cases e : S.cur a b = t + 1
        · rw [if_pos e, if_pos ⟨.inl ha, by omega⟩]; omega
        · rw [if_neg e, if_neg (fun h => e (by omega))]
end Go.Proofs.Ytgnpeciedefeiaa
