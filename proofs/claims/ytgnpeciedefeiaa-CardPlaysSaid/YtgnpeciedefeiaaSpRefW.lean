/-
  The document's space: Words; both spaces answer alike.
-/
import Derived.Test.YtgnpeciedefeiaaSpRefA
namespace Go.Proofs.Ytgnpeciedefeiaa
open Go.RowKit

set_option maxRecDepth 100000 in
set_option maxHeartbeats 4000000 in
theorem rwords8_any {w : World} {base r q : Nat} {S : SpV} {L : List Nat} (h : R8At w base r q S L) (ok : S.Ok) (A : Option Addr) (n c : Nat) (gs : List Int) (hg : IntsAt w A n gs) (hn : n ≤ 1000000) :
    Calls Try.prog 71 #[.pointer (some ⟨r, 0, none⟩), .slice A n c] w (Words8Post S.M gs w) := by
  have hp := h.ptr
  have l1024 := ok.mem.l1024
  go_enter Try.func71, Try.ntmps71
  go_wp2_with fail
  refine (taken_ref h.ref ok.mem A n c gs hg hn).mono ?_
  rintro e w1 ⟨A', c', L', rfl, I1, T, R1, K1⟩
  have hlen : L'.length ≤ 1024 := by have := T.len; have := sel_len S.M gs S.M.lim; omega
  have T0 := h.ref.taken
  have h1 := h.keep0 K1
  clear hp
  go_wp2_with fail
  go_loopw [5, 7] (fun v i wr => ∃ k : Nat, k ≤ L'.length ∧ i = .int .i64 k ∧ v = .int .i64 (sumTo S.M L' k) ∧ Keep (fun _ => False) w wr ∧ Keep (fun _ => False) w1 wr) (fun _ i _ => L'.length - (intOf i).toNat)
  case atStart => exact ⟨0, Nat.zero_le _, rfl, rfl, K1, Keep.refl _ _⟩
  case round =>
    obtain ⟨k, hk, rfl, rfl, K, K'⟩ := hrel
    by_cases hlt : k < L'.length
    · have hr := h1.keep0 K'
      have p1 := hr.ptr
      obtain ⟨b, off, rfl, hb, hcell⟩ := (I1.keep0 K').2 k hlt
      rw [getD_cast L' k hlt] at hcell
      obtain ⟨htl, htt⟩ := T.mem (getD_mem hlt)
      have lo := sumTo_lo ok.mem T k hk
      have so := ok.mem.sg _ htl
      have n0 := so.n0
      have n64 := so.n64
      have hs : sumTo S.M L' (k + 1) = sumTo S.M L' k + (S.M.sg (L'.getD k 0)).n := rfl
      obtain ⟨t, ht⟩ : ∃ t, t = L'.getD k 0 := ⟨_, rfl⟩
      rw [← ht] at hcell htl htt n0 n64 hs
      obtain ⟨j, hj, hjt⟩ := T0.find (T0.has htl htt)
      have hj1024 := h.ref.len ok.mem
      obtain ⟨gv, cap, A'', cap2, w1c, w8c, hgv, hqv⟩ := hr.ref.words_at hj hjt
      have hcn := cntOf_eq ok.mem htl
      obtain ⟨c, hc⟩ : ∃ c, c = cntOf S.M t := ⟨_, rfl⟩
      rw [← hc] at w8c hcn
      rw [← hcn] at hs
      have hwrap : IntKind.i64.wrap (sumTo S.M L' k + (c : Int)) = sumTo S.M L' k + (c : Int) := by simp [IntKind.wrap, IntKind.signed, IntKind.bits]; omega
      have HP := Lib.hid (fun (w' : World) (K : Keep (fun _ => False) wr w') => (hr.keep0 K).ref.place_at ok.mem hj hjt)
      have Hs := Lib.hid hs
      have j0 : (0 : Int) ≤ (j : Int) := by omega
      have j1 : (j : Int) < L.length := by omega
      have k0 : (0 : Int) ≤ (k : Int) := by omega
      have k1 : (k : Int) < L'.length := by omega
      clear hs ht so hc hjt hcn T0 n0 n64
      go_wp2_with fail
      go_quiet ((go_at_call 91; exact Calls.quiet_of_same (HP.out _ (by first | exact Keep.refl _ _ | exact (Keep.refl _ _).drewN _))))
      go_wp2_with fail
      go_roundw
      case rel => exact ⟨k + 1, by omega, by go_num, by rw [Hs.out], K.drewN _, K'.drewN _⟩
      case measure => simp [intOf]; omega
    · obtain rfl : k = L'.length := by omega
      clear T0 h1
      go_wp2_with fail
      go_ret
      exact ⟨L', T, rfl, K⟩

/-- Alike as far as anybody can tell. -/
structure SpV.Like (S S' : SpV) : Prop where
  mem : S.M = S'.M
  cur : ∀ i k, i < 5 → k < 4 → S.cur i k = S'.cur i k
theorem SpV.Like.refl (S : SpV) : S.Like S := ⟨rfl, fun _ _ _ _ => rfl⟩
theorem R8Raw.like {w : World} {base r q : Nat} {S S' : SpV} {L : List Nat} (h : R8At w base r q S L) (e : S'.Like S) : R8At w base r q S' L := by
  have h2 := h.congr (cv' := fun i k => S'.cur i k - 1) (fun i k hi hk => by rw [e.cur i k hi hk])
  rw [← e.mem] at h2
  exact h2
theorem TakeR.least {M : MemV} {q q' : Nat} (h1 : (M.sg q).taken = 0) (h2 : ∀ i, i < q → 0 < (M.sg i).taken) (h3 : (M.sg q').taken = 0) (h4 : ∀ i, i < q' → 0 < (M.sg i).taken) : q = q' := by
  rcases Nat.lt_trichotomy q q' with h | h | h
  · have := h4 q h; omega
  · exact h
  · have := h2 q' h; omega
theorem AllocR.det {S : SpV} {gen kind n a a2 f f2 : Int} {S1 S2 : SpV} (h : AllocR S gen kind n a f S1) (h2 : AllocR S gen kind n a2 f2 S2) : a = a2 ∧ f = f2 ∧ S1 = S2 := by
  rcases h with ⟨m, rfl, rfl, rfl⟩ | ⟨m, q, c, ft, rfl, rfl, rfl⟩ | ⟨m, nf, fz, rfl, rfl, rfl⟩ | ⟨m, nf, q, hf, hq, hz, hl, rfl, rfl, rfl⟩
  · rcases h2 with ⟨_, rfl, rfl, rfl⟩ | ⟨m2, _⟩ | ⟨m2, _⟩ | ⟨m2, _⟩
    · exact ⟨rfl, rfl, rfl⟩
    · exact absurd m2 m
    · exact absurd m2 m
    · exact absurd m2 m
  · rcases h2 with ⟨m2, _⟩ | ⟨_, q', c', ft', rfl, rfl, rfl⟩ | ⟨_, nf', _⟩ | ⟨_, nf', _⟩
    · exact absurd m m2
    · obtain rfl : q = q' := by omega
      exact ⟨rfl, rfl, rfl⟩
    · have := nf' q c; omega
    · have := nf' q c; omega
  · rcases h2 with ⟨m2, _⟩ | ⟨_, q', c', ft', _⟩ | ⟨_, _, _, rfl, rfl, rfl⟩ | ⟨_, _, q', hf', _⟩
    · exact absurd m m2
    · have := nf q' c'; omega
    · exact ⟨rfl, rfl, rfl⟩
    · omega
  · rcases h2 with ⟨m2, _⟩ | ⟨_, q', c', ft', _⟩ | ⟨_, _, fz, _⟩ | ⟨_, _, q', _, _, hz', hl', rfl, rfl, rfl⟩
    · exact absurd m m2
    · have := nf q' c'; omega
    · omega
    · obtain rfl : q = q' := TakeR.least hz hl hz' hl'
      exact ⟨rfl, rfl, rfl⟩
theorem Give8R.det {S : SpV} {seg f f2 : Int} {S1 S2 : SpV} (h : Give8R S seg f S1) (h2 : Give8R S seg f2 S2) : f = f2 ∧ S1.Like S2 := by
  rcases h with ⟨hn, rfl, rfl⟩ | ⟨k, rfl, hk, ht, rfl, hM, hc⟩
  · rcases h2 with ⟨_, rfl, rfl⟩ | ⟨k, rfl, hk, ht, _⟩
    · exact ⟨rfl, SpV.Like.refl _⟩
    · exact absurd (MemV.has_iff.2 ⟨k, rfl, hk, ht⟩) hn
  · rcases h2 with ⟨hn, _⟩ | ⟨k', e, _, _, rfl, hM', hc'⟩
    · exact absurd (MemV.has_iff.2 ⟨k, rfl, hk, ht⟩) hn
    · obtain rfl : k = k' := by omega
      exact ⟨rfl, hM.trans hM'.symm, fun i j hi hj => (hc i j hi hj).trans (hc' i j hi hj).symm⟩
end Go.Proofs.Ytgnpeciedefeiaa
