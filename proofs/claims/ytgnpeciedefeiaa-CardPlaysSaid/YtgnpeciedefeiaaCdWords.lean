/-
  Cards: the words of a card, one by one (card.Cards.words: a range over a function).
-/
import Derived.Test.YtgnpeciedefeiaaCdDirty
import Derived.RangeFuncNested
import Derived.RangeFuncBound
import Derived.RangeFuncCalls
import Derived.RangeFuncLeaves
import Derived.Shelf.Abstract
import Derived.Shelf.RegionOpen
import Derived.OwnWalkIn
import Derived.TacticsInMore
import Derived.LoopNIn
import Derived.LoopIn
import Derived.BigQuiet
namespace Go.Proofs.Ytgnpeciedefeiaa
open Go.RowKit Go.Shelf

attribute [local go_sem] Oper.semAt_some

/-- A word of 64 bits. -/
abbrev U64 := {u : Nat // u ≤ 18446744073709551615}
def u64 (x : Int) : U64 := ⟨min x.toNat 18446744073709551615, Nat.min_le_right _ _⟩
theorem u64_val {x : Int} (h0 : 0 ≤ x) (h1 : x ≤ 18446744073709551615) : (((u64 x).1 : Nat) : Int) = x := by
  show ((min x.toNat 18446744073709551615 : Nat) : Int) = x
  omega
/-- The first k of a row. -/
def upto (f : Nat → U64) (k : Nat) : List U64 := (List.range k).map f
theorem upto_succ (f : Nat → U64) (k : Nat) : upto f (k + 1) = upto f k ++ [f k] := by simp [upto, List.range_succ]
theorem upto_length (f : Nat → U64) (k : Nat) : (upto f k).length = k := by simp [upto]
/-- How many used words a card has, and which. -/
def cntW (s : Sg) (d : Nat) : Nat := min 16 (s.n.toNat - d * 16)
def wordF (s : Sg) (d i : Nat) : U64 := u64 (s.words (d * 16 + i))
def wordsW (s : Sg) (d : Nat) : List U64 := upto (wordF s d) (cntW s d)

/-- What a round keeps: all below n1 but the block mb. -/
def KpM (n1 mb : Nat) : World → World → Prop := Keep (fun b => n1 ≤ b ∨ b = mb)

set_option maxRecDepth 100000 in
set_option maxHeartbeats 4000000 in
theorem words1_in (n : Nat) (hn : 1 ≤ n) (l b1 b2 b3 n1 mb c s p g t d : Nat) (S : SpV) (ok : S.Ok) (ht : t < S.M.lim) (htk : 0 < (S.M.sg t).taken) (hd : d < 4) (J Jx : List U64 → World → Prop)
    (hlow : b1 < n1 ∧ b2 < n1 ∧ b3 < n1 ∧ c < n1 ∧ s < n1 ∧ p < n1 ∧ g < n1) (hne : b1 ≠ mb ∧ b2 ≠ mb ∧ b3 ≠ mb ∧ c ≠ mb ∧ s ≠ mb ∧ p ≠ mb ∧ g ≠ mb)
    (hY : ∀ pre x W, J pre W → pre.length < cntW (S.M.sg t) d → YieldAt Fence.wide (n - 1) Try.prog l #[.int .u64 ((x : U64).1 : Int)] W fun e W' =>
      (e = .returned (.bool true) ∧ J (pre ++ [x]) W' ∧ KpM n1 mb W W') ∨ (e = .returned (.bool false) ∧ Jx (pre ++ [x]) W'))
    (W : World) (hJ : AbidesFrom W.heap.size J) (h1 : W.cell? ⟨b1, 0, none⟩ = some (.pointer (some ⟨c, 0, none⟩))) (h2 : W.cell? ⟨b2, 0, none⟩ = some (.int .i64 (t : Int))) (h3 : W.cell? ⟨b3, 0, none⟩ = some (.int .i64 (d : Int))) (h : CdAt W c s p g S) (h0 : J [] W) :
    CallsIn Fence.wide n Try.prog 94 #[.func (.yield l) #[] #[], .pointer (some ⟨b1, 0, none⟩), .pointer (some ⟨b2, 0, none⟩), .pointer (some ⟨b3, 0, none⟩)] W fun e W' => (∃ v, e = .returned v) ∧
      ((∃ ys, ys = wordsW (S.M.sg t) d ∧ J ys W') ∨ (∃ pre : List U64, True ∧ Jx pre W')) := by
  have so := ok.mem.sg t ht
  have n0 := so.n0
  have n64 := so.n64
  have l1024 := ok.mem.l1024
  refine callsIn_of_wp Try.func94 rfl trivial ?_ rfl
  simp only [Try.ntmps94, List.size_toArray, List.length_cons, List.length_nil, Nat.reduceAdd, Nat.reduceSub, Array.replicate_succ, Array.replicate_zero, List.push_toArray, List.append_toArray, List.nil_append, List.cons_append]
  gi_wp2
  gi_loopw [8] (fun i wr => ∃ k : Nat, k ≤ 16 ∧ k ≤ cntW (S.M.sg t) d ∧ i = .int .i64 k ∧ J (upto (wordF (S.M.sg t) d) k) wr ∧ KpM n1 mb W wr) (fun i _ => 16 - (intOf i).toNat)
  case atStart => exact ⟨0, by omega, Nat.zero_le _, rfl, h0, Keep.refl _ _⟩
  case round =>
    obtain ⟨k, hk, hkc, rfl, hJs, K⟩ := hrel
    by_cases hlt : k < 16
    · have hr := h.keep K (by omega) (by omega) (by omega) (by omega)
      have ht1024 : t ≤ 1024 := by omega
      have c1 := (K.cell (p := ⟨b1, 0, none⟩) (World.block_lt_of_cell? W _ h1) (by show ¬ (n1 ≤ b1 ∨ b1 = mb); omega)).trans h1
      have c2 := (K.cell (p := ⟨b2, 0, none⟩) (World.block_lt_of_cell? W _ h2) (by show ¬ (n1 ≤ b2 ∨ b2 = mb); omega)).trans h2
      have c3 := (K.cell (p := ⟨b3, 0, none⟩) (World.block_lt_of_cell? W _ h3) (by show ¬ (n1 ≤ b3 ∨ b3 = mb); omega)).trans h3
      have c0 := hr.ptr
      have s0 := hr.sp.ptr
      have wr1 : IntKind.i64.wrap ((t : Int) * 64) = (t : Int) * 64 := by simp [IntKind.wrap, IntKind.signed, IntKind.bits]; omega
      have wr2 : IntKind.i64.wrap ((d : Int) * 16) = (d : Int) * 16 := by simp [IntKind.wrap, IntKind.signed, IntKind.bits]; omega
      have wr3 : IntKind.i64.wrap ((t : Int) * 64 + (d : Int) * 16) = (t : Int) * 64 + (d : Int) * 16 := by simp [IntKind.wrap, IntKind.signed, IntKind.bits]; omega
      have wr4 : IntKind.i64.wrap ((t : Int) * 64 + (d : Int) * 16 + (k : Int)) = (t : Int) * 64 + (d : Int) * 16 + (k : Int) := by simp [IntKind.wrap, IntKind.signed, IntKind.bits]; omega
      have hdraw : ∀ m, J (upto (wordF (S.M.sg t) d) k) (wr.drewN m) := fun m => hJ _ wr (wr.drewN m) none hJs ⟨rfl, rfl, rfl, Nat.le_refl _, fun _ _ _ => rfl⟩ (fun r e => by cases e)
      by_cases hc : k < cntW (S.M.sg t) d
      · have hv : (((wordF (S.M.sg t) d k).1 : Nat) : Int) = (S.M.sg t).words (d * 16 + k) := u64_val (so.w0 _).1 (so.w0 _).2
        have HR := Lib.hid (fun (w' : World) (K' : Keep (fun _ => False) wr w') => (read_at p g S.M t (d * 16 + k) ((t : Int) * 64 + (d : Int) * 16 + (k : Int)) w' (hr.keep0 K').sp.mem ok.mem (by omega) ht htk (by unfold cntW at hc; omega)).mono (R' := fun e w'' => e = .returned (.tuple #[.int .u64 (((wordF (S.M.sg t) d k).1 : Nat) : Int), .int .i64 0]) ∧ w'' = w') (fun e w'' ⟨he, hw⟩ => ⟨by rw [he, hv], hw.symm⟩))
        have HC := Lib.hid hc
        have HH := Lib.hid h
        have HJ := Lib.hid hdraw
        have HY := Lib.hid hY
        have HK := Lib.hid K
        clear hc hr h hdraw hv hJs hY K so n0 n64 h1 h2 h3
        gi_wp2
        refine wpIn_wide.2 ?_
        go_quiet ((go_at_call 21; exact Calls.quiet_of_same (HR.out _ (by first | exact Keep.refl _ _ | exact (Keep.refl _ _).drewN _))))
        obtain ⟨fn, tmps, assign, body, hy, hR⟩ := HY.out _ (wordF (S.M.sg t) d k) _ (HJ.out nq) (by rw [upto_length]; exact HC.out)
        have K2 := Lib.hid (HK.out.drewN nq)
        clear c1 c2 c3 c0 s0 wr1 wr2 wr3 wr4
        gi_wp2
        refine hR.mono ?_
        rintro e W3 (⟨rfl, hJ3, hk3⟩ | ⟨rfl, hJx3⟩)
        · rw [← upto_succ] at hJ3
          gi_wp2
          go_roundw
          case rel => exact ⟨k + 1, by omega, HC.out, by go_num, hJ3, K2.out.trans hk3⟩
          case measure => simp [intOf]; omega
        · gi_wp2
          refine bodyPost_ret (results_none rfl _ _ _) rfl ?_
          exact ⟨⟨_, rfl⟩, .inr ⟨_, trivial, hJx3⟩⟩
      · have hcn : cntW (S.M.sg t) d = k := by omega
        have hno : ¬ S.M.used ((t : Int) * 64 + (d : Int) * 16 + (k : Int)) := by
          intro hus
          obtain ⟨a, ha, _, _, hn'⟩ := MemV.used_iff.1 hus
          have e1 : a / 64 = t := by omega
          have e2 : a % 64 = d * 16 + k := by omega
          rw [e1, e2] at hn'
          unfold cntW at hcn
          omega
        have HR := Lib.hid (fun (w' : World) (K' : Keep (fun _ => False) wr w') => (read_no p g S.M _ w' (hr.keep0 K').sp.mem l1024 ok.mem.t0 (by omega) hno).mono (R' := fun e w'' => e = .returned (.tuple #[.int .u64 0, .int .i64 18]) ∧ w'' = w') (fun e w'' ⟨he, hw⟩ => ⟨he, hw.symm⟩))
        have HC := Lib.hid hcn
        have HJ := Lib.hid hdraw
        clear hc hr h hdraw hJs hY K so n0 n64 h1 h2 h3 hcn hno
        gi_wp2
        refine wpIn_wide.2 ?_
        go_quiet ((go_at_call 21; exact Calls.quiet_of_same (HR.out _ (by first | exact Keep.refl _ _ | exact (Keep.refl _ _).drewN _))))
        clear c1 c2 c3 c0 s0 wr1 wr2 wr3 wr4
        gi_wp2
        refine ⟨fun _ h => (by cases h), ?_⟩
        gi_wp2
        refine bodyPost_ret (results_none rfl _ _ _) rfl ?_
        exact ⟨⟨_, rfl⟩, .inl ⟨_, by unfold wordsW; rw [HC.out], HJ.out _⟩⟩
    · have hcn : cntW (S.M.sg t) d = k := by unfold cntW at hkc ⊢; omega
      have HC := Lib.hid hcn
      clear hcn K h hY
      gi_wp2
      go_end0
      exact ⟨⟨_, rfl⟩, .inl ⟨_, by unfold wordsW; rw [HC.out], hJs⟩⟩
end Go.Proofs.Ytgnpeciedefeiaa
