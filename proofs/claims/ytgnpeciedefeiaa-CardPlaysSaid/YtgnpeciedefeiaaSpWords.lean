/-
  A space: what Words answers; Copy.
-/
import Derived.Test.YtgnpeciedefeiaaSpFresh
import Derived.Test.YtgnpeciedefeiaaCountsPlain
import Derived.Test.YtgnpeciedefeiaaSegCopyW
namespace Go.Proofs.Ytgnpeciedefeiaa
open Go.RowKit

/-- How many words the first k of a list have together. -/
def sumTo (M : MemV) (L : List Nat) : Nat → Int
  | 0 => 0
  | k + 1 => sumTo M L k + (M.sg (L.getD k 0)).n
theorem sumTo_lo {M : MemV} (ok : M.Ok) {gs : List Int} {L : List Nat} (T : TakenL M gs L) : ∀ k, k ≤ L.length → 0 ≤ sumTo M L k ∧ sumTo M L k ≤ 64 * k
  | 0, _ => by simp [sumTo]
  | k + 1, h => by
    have ih := sumTo_lo ok T k (by omega)
    have hm : L.getD k 0 ∈ L := by
      rw [List.getD_eq_getElem?_getD, List.getElem?_eq_getElem (by omega)]
      exact List.getElem_mem _
    have so := ok.sg _ (T.mem hm).1
    have h0 := so.n0
    have h1 := so.n64
    simp only [sumTo]
    omega
theorem getD_cast (L : List Nat) (k : Nat) (h : k < L.length) : (L.map (fun i : Nat => (i : Int))).getD k 0 = ((L.getD k 0 : Nat) : Int) := by
  simp [List.getD_eq_getElem?_getD, List.getElem?_map, List.getElem?_eq_getElem h]
theorem getD_mem {L : List Nat} {k : Nat} (h : k < L.length) : L.getD k 0 ∈ L := by
  rw [List.getD_eq_getElem?_getD, List.getElem?_eq_getElem h]
  exact List.getElem_mem _

def Words8Post (M : MemV) (gs : List Int) (w : World) (e : Ending) (w' : World) : Prop := ∃ L, TakenL M gs L ∧ e = .returned (.int .i64 (sumTo M L L.length)) ∧ Keep (fun _ => False) w w'

set_option maxRecDepth 10000 in
set_option maxHeartbeats 2000000 in
theorem words8_any {w : World} {s p g : Nat} {S : SpV} (h : SpAt w s p g S) (ok : S.Ok) (A : Option Addr) (n c : Nat) (gs : List Int) (hg : IntsAt w A n gs) (hn : n ≤ 1000000) :
    Calls Try.prog 69 #[.pointer (some ⟨s, 0, none⟩), .slice A n c] w (Words8Post S.M gs w) := by
  have hp := h.ptr
  have l1024 := ok.mem.l1024
  go_enter Try.func69, Try.ntmps69
  go_wp2_with fail
  refine (none_no hp).mono ?_
  rintro e w1 ⟨rfl, rfl⟩
  go_wp2_with fail
  refine (taken_any p g S.M ok.mem A n c gs _ h.mem hg hn).mono ?_
  rintro e w1 ⟨A', c', L, rfl, I1, T, m1, K1⟩
  have hlen : L.length ≤ 1024 := by have := T.len; have := sel_len S.M gs S.M.lim; omega
  clear hp
  go_wp2_with fail
  go_loopw [5, 7, 19] (fun v _ i wr => ∃ k : Nat, k ≤ L.length ∧ i = .int .i64 k ∧ v = .int .i64 (sumTo S.M L k) ∧ Keep (fun _ => False) w wr ∧ Keep (fun _ => False) w1 wr) (fun _ _ i _ => L.length - (intOf i).toNat)
  case atStart => exact ⟨0, Nat.zero_le _, rfl, rfl, K1, Keep.refl _ _⟩
  case round =>
    obtain ⟨k, hk, rfl, rfl, K, K'⟩ := hrel
    have hr := h.keep0 K
    have hp := hr.ptr
    by_cases hlt : k < L.length
    · obtain ⟨b, off, rfl, hb, hcell⟩ := (I1.keep0 K').2 k hlt
      rw [getD_cast L k hlt] at hcell
      have hm := T.mem (getD_mem hlt)
      have lo := sumTo_lo ok.mem T k hk
      have so := ok.mem.sg _ hm.1
      have n0 := so.n0
      have n64 := so.n64
      have hs : sumTo S.M L (k + 1) = sumTo S.M L k + (S.M.sg (L.getD k 0)).n := rfl
      obtain ⟨t, ht⟩ : ∃ t, t = L.getD k 0 := ⟨_, rfl⟩
      rw [← ht] at hcell hm n0 n64 hs
      have Hs := Lib.hid hs
      obtain ⟨htl, htt⟩ := hm
      have hL : (L.length : Int) ≤ 1024 := by omega
      clear hs ht so
      go_wp2_with fail
      refine (seg_yes2 p g S.M t _ _ hr.mem l1024 rfl htl htt).mono ?_
      rintro e w3 ⟨rfl, k3⟩
      go_wp2_with fail
      go_roundw
      case rel => exact ⟨k + 1, by omega, by go_num, by rw [Hs.out], (K.trans k3).alloc _, (K'.trans k3).alloc _⟩
      case measure => simp [intOf]; omega
    · obtain rfl : k = L.length := by omega
      go_wp2_with fail
      go_ret
      exact ⟨L, T, rfl, K⟩
end Go.Proofs.Ytgnpeciedefeiaa
