/-
  datum: List (a range over slices.Backward).
  datum: List: the walk.
-/
import Derived.Test.YtonnikipeokkaaaGreatDoorPaOne
import Derived.RangeFuncNested
import Derived.RangeFuncBound
import Derived.RangeFuncCalls
import Derived.RangeFuncLeaves
import Derived.RangeFuncFrom
import Derived.Shelf.Abstract
import Derived.Shelf.RegionOpen
import Derived.OwnWalkIn
import Derived.TacticsInMore
import Derived.LoopNIn
import Derived.LoopIn
import Derived.BigQuiet
import Derived.Laws.ResultCell
namespace Go.Proofs.YtonnikipeokkaaaGreatDoor
open Go.RowKit Go.Lib Go.Shelf

attribute [local go_sem] Oper.semAt_some

/-- What a round keeps: all below n1 but the block db. -/
def KpL (n1 db : Nat) : World → World → Prop := Keep (fun b => n1 ≤ b ∨ b = db)
/-- The last k of n, the last one first. -/
def lastF (n : Nat) : (k : Nat) → k ≤ n → List (Fin n)
  | 0, _ => []
  | k + 1, h => lastF n k (by omega) ++ [⟨n - 1 - k, by omega⟩]
theorem lastF_len (n : Nat) : ∀ (k : Nat) (h : k ≤ n), (lastF n k h).length = k
  | 0, _ => rfl
  | k + 1, h => by rw [lastF, List.length_append, lastF_len n k]; rfl
/-- Pairs made of items, one by one. -/
def foldF (rs : List Raw) (pre : List (Fin rs.length)) : Raw := pre.foldl (fun d i => pairR rs[i] d) .nil
theorem foldF_last (rs : List Raw) : ∀ (k : Nat) (h : k ≤ rs.length), foldF rs (lastF rs.length k h) = listR (rs.drop (rs.length - k)) .nil
  | 0, _ => by rw [lastF, Nat.sub_zero, List.drop_length]; rfl
  | k + 1, h => by
    rw [lastF]
    unfold foldF
    rw [List.foldl_append]
    have := foldF_last rs k (by omega)
    unfold foldF at this
    rw [this, List.foldl_cons, List.foldl_nil]
    have e : rs.length - (k + 1) = rs.length - 1 - k := by omega
    have e2 : rs.length - k = rs.length - 1 - k + 1 := by omega
    rw [e, e2, list_drop (show rs.length - 1 - k < rs.length by omega)]
    rfl
theorem foldF_all (rs : List Raw) : foldF rs (lastF rs.length rs.length (Nat.le_refl _)) = listR rs .nil := by
  rw [foldF_last, Nat.sub_self, List.drop_zero]
/-- The source row. -/
def SrcAt (W : World) (lb : Nat) (A : Option Addr) (cap : Nat) (rs : List Raw) (vs : Nat → PV) : Prop :=
  W.heap[lb]? = some (.cells #[.slice A rs.length cap] 25 (0, 0)) ∧ (0 < rs.length → ∃ g o, A = some ⟨g, o, none⟩ ∧ ∀ i (h : i < rs.length), ItemC W g o i rs[i] (vs i))
theorem SrcAt.keep {S : Nat → Prop} {W W' : World} {lb : Nat} {A : Option Addr} {cap : Nat} {rs : List Raw} {vs : Nat → PV} (h : SrcAt W lb A cap rs vs) (K : Keep S W W') (hl : ¬ S lb) (hg : 0 < rs.length → ∀ g o, A = some ⟨g, o, none⟩ → ¬ S g) : SrcAt W' lb A cap rs vs := by
  refine ⟨K.heap h.1 hl, fun hm => ?_⟩
  obtain ⟨g, o, e, hr⟩ := h.2 hm
  exact ⟨g, o, e, fun i hi => (hr i hi).keep K (hg hm g o e)⟩
abbrev encL (rs : List Raw) (vs : Nat → PV) (i : Fin rs.length) : Array Value := #[.int .i64 (i.1 : Int), rawV rs[i] (vs i.1)]
set_option maxRecDepth 100000 in
set_option maxHeartbeats 4000000 in
theorem back_in (n : Nat) (hn : 1 ≤ n) (l lb n1 db : Nat) (A : Option Addr) (cap : Nat) (rs : List Raw) (vs : Nat → PV) (hbig : rs.length ≤ 1000000000000000) (J Jx : List (Fin rs.length) → World → Prop)
    (hlow : lb < n1 ∧ lb ≠ db) (hA : 0 < rs.length → ∀ g o, A = some ⟨g, o, none⟩ → g < n1 ∧ g ≠ db)
    (hY : ∀ pre x W, J pre W → pre.length < rs.length → YieldAt Fence.wide (n - 1) Tryz.prog l (encL rs vs x) W fun e W' =>
      (e = .returned (.bool true) ∧ J (pre ++ [x]) W' ∧ KpL n1 db W W') ∨ (e = .returned (.bool false) ∧ Jx (pre ++ [x]) W'))
    (W : World) (hJ : AbidesFrom W.heap.size J) (hs : SrcAt W lb A cap rs vs) (h0 : J [] W) :
    CallsIn Fence.wide n Tryz.prog 159 #[.func (.yield l) #[] #[], .pointer (some ⟨lb, 0, none⟩)] W fun e W' => (∃ v, e = .returned v) ∧
      ((∃ ys, ys = lastF rs.length rs.length (Nat.le_refl _) ∧ J ys W') ∨ (∃ pre : List (Fin rs.length), True ∧ Jx pre W')) := by
  obtain ⟨m, hm⟩ : ∃ m, m = rs.length := ⟨_, rfl⟩
  have HM := Lib.hid hm
  have c0 : W.cell? ⟨lb, 0, none⟩ = some (.slice A m cap) := by rw [cell_of_row W _ _ _ _ _ hs.1, hm]; rfl
  have HS := Lib.hid hs
  have HY := Lib.hid hY
  have HJ := Lib.hid hJ
  have HA := Lib.hid hA
  have HLOW := Lib.hid hlow
  have H0 := Lib.hid h0
  have HBIG := Lib.hid hbig
  have hm0 : (0 : Int) ≤ (m : Int) := by omega
  have hmB : (m : Int) ≤ 1000000000000000 := by omega
  clear hs hY hJ hA hlow h0 hm hbig
  refine callsIn_of_wp Tryz.func159 rfl trivial ?_ rfl
  simp only [Tryz.ntmps159, List.size_toArray, List.length_cons, List.length_nil, Nat.reduceAdd, Nat.reduceSub, Array.replicate_succ, Array.replicate_zero, List.push_toArray, List.append_toArray, List.nil_append, List.cons_append]
  gi_wp2
  gi_loopw [3] (fun iv wr => ∃ (k : Nat) (hk : k ≤ rs.length), iv = .int .i64 ((m : Int) - 1 - (k : Int)) ∧ J (lastF rs.length k hk) wr ∧ KpL n1 db W wr) (fun iv _ => (intOf iv + 1).toNat)
  case atStart => exact ⟨0, Nat.zero_le _, by first | rfl | go_num, H0.out, Keep.refl _ _⟩
  case round =>
    obtain ⟨k, hk, rfl, hJs, K⟩ := hrel
    have hr := HS.out.keep K (by rintro (h | h); exact absurd HLOW.out.1 (by omega); exact HLOW.out.2 h) (fun hm g o e => by rintro (h | h); exact absurd (HA.out hm g o e).1 (by omega); exact (HA.out hm g o e).2 h)
    have c0r : wr.cell? ⟨lb, 0, none⟩ = some (.slice A m cap) := by rw [cell_of_row wr _ _ _ _ _ hr.1, HM.out]; rfl
    have HK := Lib.hid K
    have HJs := Lib.hid hJs
    have HMM := HM.out
    have HR := Lib.hid hr
    by_cases hlt : k < rs.length
    · obtain ⟨i, hi⟩ : ∃ i, i = rs.length - 1 - k := ⟨_, rfl⟩
      have e1 : (m : Int) - 1 - (k : Int) = (i : Int) := by omega
      have hil : i < rs.length := by omega
      have hi1 : (i : Int) < (m : Int) := by omega
      obtain ⟨g, o, eA, hrw⟩ := hr.2 (by omega)
      have hic := hrw i hil
      have hx : YieldAt Fence.wide (n - 1) Tryz.prog l (encL rs vs ⟨i, hil⟩) wr fun e W' => (e = .returned (.bool true) ∧ J (lastF rs.length k hk ++ [⟨i, hil⟩]) W' ∧ KpL n1 db wr W') ∨ (e = .returned (.bool false) ∧ Jx (lastF rs.length k hk ++ [⟨i, hil⟩]) W') := HY.out _ ⟨i, hil⟩ _ hJs (by rw [lastF_len]; exact hlt)
      have hlast : lastF rs.length (k + 1) hlt = lastF rs.length k hk ++ [⟨i, hil⟩] := by rw [lastF]; congr; omega
      obtain ⟨x, hxx⟩ : ∃ x, x = rs[i] := ⟨_, rfl⟩
      obtain ⟨v, hv⟩ : ∃ v, v = vs i := ⟨_, rfl⟩
      rw [← hxx, ← hv] at hic
      have hx2 : YieldAt Fence.wide (n - 1) Tryz.prog l #[.int .i64 (i : Int), rawV x v] wr fun e W' => (e = .returned (.bool true) ∧ J (lastF rs.length k hk ++ [⟨i, hil⟩]) W' ∧ KpL n1 db wr W') ∨ (e = .returned (.bool false) ∧ Jx (lastF rs.length k hk ++ [⟨i, hil⟩]) W') := by rw [hxx, hv]; exact hx
      obtain ⟨fn, tmps, assign, body, hy, hRR⟩ := hx2
      have HLAST := Lib.hid hlast
      have HRR := Lib.hid hRR
      have hi0 : (0 : Int) ≤ (i : Int) := by omega
      have l1 : decide ((0 : Int) ≤ (i : Int)) = true := decide_eq_true hi0
      have HI := Lib.hid hi
      have HE1 := Lib.hid e1
      subst eA
      obtain ⟨r0, r1, r2, r3, r4, r5⟩ := hic.cells
      rw [e1]
      clear hlast hRR hi e1 hic hrw hr K hJs hx hxx hv HMM
      gi_wp2
      refine HRR.out.mono ?_
      rintro e W3 (⟨rfl, hJ3, hk3⟩ | ⟨rfl, hJx3⟩)
      · rw [← HLAST.out] at hJ3
        have HJ3 := Lib.hid hJ3
        have HK3 := Lib.hid hk3
        clear hJ3 hk3
        gi_wp2
        go_roundw
        case rel => exact ⟨k + 1, hlt, by have := HE1.out; have e2 : (i : Int) - 1 = (m : Int) - 1 - ((k + 1 : Nat) : Int) := (by omega); rw [← e2]; try rfl, HJ3.out, HK.out.trans HK3.out⟩
        case measure => simp only [intOf]; omega
      · gi_wp2
        refine bodyPost_ret (results_none rfl _ _ _) rfl ?_
        exact ⟨⟨_, rfl⟩, .inr ⟨_, trivial, hJx3⟩⟩
    · have ek : k = rs.length := by omega
      have e1 : (m : Int) - 1 - (k : Int) = -1 := by omega
      rw [e1]
      have l1 : decide ((0 : Int) ≤ (-1 : Int)) = false := by decide
      have HEK := Lib.hid ek
      clear ek e1 hr K hJs HMM
      gi_wp2
      go_end0
      refine ⟨⟨_, rfl⟩, .inl ⟨_, rfl, ?_⟩⟩
      have h1 := HJs.out
      have h2 := HEK.out
      subst h2
      exact h1
end Go.Proofs.YtonnikipeokkaaaGreatDoor

namespace Go.Proofs.YtonnikipeokkaaaGreatDoor
open Go.RowKit Go.Lib Go.Shelf

attribute [local go_sem] Oper.semAt_some

section
variable {W W' : World} {row : Option Nat}
theorem RowAt.grown {q : IntKind} {A : Option Addr} {n : Nat} {l : List Nat} (h : RowAt q W A n l) (hg : W.grownBy W' row) (hr : ∀ r, row = some r → ∃ o : Obj, W.heap[r]? = some o ∧ o.isCells = false) : RowAt q W' A n l :=
  ⟨h.1, fun j hj => by obtain ⟨b, off, e, hb, hc⟩ := h.2 j hj; exact ⟨b, off, e, Nat.lt_of_lt_of_le hb hg.size, cell_kept hc hg hr⟩⟩
theorem LimbsAt.grown {A : Option Addr} {n c : Nat} {l : List Nat} (h : LimbsAt W A n c l) (hg : W.grownBy W' row) (hr : ∀ r, row = some r → ∃ o : Obj, W.heap[r]? = some o ∧ o.isCells = false) : LimbsAt W' A n c l := ⟨h.row.grown hg hr, h.low, h.cap, h.max⟩
theorem cells_grown {b : Nat} {X : Array Value} {T : TypeId} {fz : Nat × Nat} (h : W.heap[b]? = some (.cells X T fz)) (hg : W.grownBy W' row) (hr : ∀ r, row = some r → ∃ o : Obj, W.heap[r]? = some o ∧ o.isCells = false) : W'.heap[b]? = some (.cells X T fz) := by
  refine (hg.block b (heap_lt h) (fun e => ?_)).trans h
  obtain ⟨o, ho, hc⟩ := hr b e.symm
  rw [h] at ho; injection ho with ho; subst ho; cases hc
theorem DatAt.grown {P : Nat → Prop} {r : Raw} {p : PV} (h : DatAt P W r p) (hg : W.grownBy W' row) (hr : ∀ k, row = some k → ∃ o : Obj, W.heap[k]? = some o ∧ o.isCells = false) : DatAt P W' r p := by
  have h2 : RawAt (T126 W) P W' r p := by
    induction h with
    | mk num nP len mcap big vs row ch ih =>
      refine .mk (num.grown hg hr) nP len mcap big vs (fun hm => ?_) ih
      obtain ⟨b, off, e, hP, hc⟩ := row hm
      exact ⟨b, off, e, hP, fun i hi f u hu => cell_kept (hc i hi f u hu) hg hr⟩
  exact h2.mono (fun b _ hn => by obtain ⟨X, hX⟩ := hn; exact ⟨X, cells_grown hX hg hr⟩) (fun _ _ hP => hP)
end
theorem backward_any (A : Option Addr) (n cap : Nat) (w : World) : Calls Tryz.prog 130 #[.slice A n cap] w fun e w' => ∃ lb, e = .returned (.func (.func 159) #[] #[.pointer (some ⟨lb, 0, none⟩)]) ∧ w.heap.size ≤ lb ∧ w'.heap[lb]? = some (.cells #[.slice A n cap] 25 (0, 0)) ∧ Keep (fun _ => False) w w' := by
  go_enter Tryz.func130, Tryz.ntmps130
  go_wp2_with fail
  go_ret
  exact ⟨_, rfl, Nat.le_refl _, heap_alloc_new w _, (Keep.refl _ _).alloc _⟩
/-- At a round of List. -/
structure LcS (w6 : World) (base db : Nat) (d : Raw) (W : World) : Prop where
  at_ : ∃ pd : PV, DatAt (fun b => base ≤ b ∧ b ≠ db) W d pd ∧ W.heap[db]? = some (.cells (rawC d pd) 27 (0, 0))
  K : Keep (fun b => b = db) w6 W
theorem LcS.grown {w6 W W' : World} {base db : Nat} {d : Raw} {row : Option Nat} (h : LcS w6 base db d W) (hg : W.grownBy W' row) (hr : ∀ r, row = some r → w6.heap.size ≤ r ∧ ∃ o : Obj, W.heap[r]? = some o ∧ o.isCells = false) : LcS w6 base db d W' := by
  obtain ⟨⟨pd, h1, h2⟩, K⟩ := h
  exact ⟨⟨pd, DatAt.grown h1 hg (fun r e => (hr r e).2), cells_grown h2 hg (fun r e => (hr r e).2)⟩, K.grown hg (fun k e => .inr (hr k e).1)⟩
/-- The loop's variable. -/
def AxL (rs : List Raw) (vs : Nat → PV) (n1 : Nat) (a0 : Nat → Fin rs.length → Act) (i : Fin rs.length) (a : Act) (W : World) : Prop := ∃ xb, n1 ≤ xb ∧ a = a0 xb i ∧ W.heap[xb]? = some (.cells (rawC rs[i] (vs i.1)) 27 (0, 0))
theorem keepsFrom_of {B : Nat} {S : Nat → Prop} {w w' : World} (K : Keep S w w') (hs : ∀ b, S b → b < B ∨ ∃ X T f, w.heap[b]? = some (.cells X T f)) : KeepsFrom B w w' :=
  ⟨K.size, fun k o hB hk ho => K.heap hk (fun e => by
    rcases hs k e with h | ⟨X, T, f, h⟩
    · omega
    · rw [h] at hk; injection hk with hk; subst hk; cases ho)⟩
theorem LcS.next {w6 W w7 : World} {base db n1 B : Nat} {x d : Raw} {v2 pd : PV} (HK : Keep (fun b => b = db) w6 W) (hdat : DatAt (fun b => base ≤ b ∧ b ≠ db) W d pd) (hcell : W.heap[db]? = some (.cells (rawC d pd) 27 (0, 0))) (k7 : Keep (fun _ => False) W.drew w7) (hd7 : DatAt (fun b => W.drew.heap.size ≤ b) w7 x v2) (hb : base ≤ W.heap.size) :
    KeepsFrom B W ((sixSet w7 db (.int .i64 7) (.int .i32 0) (.bool false) (.slice none 0 0) (.string ⟨#[]⟩) (.slice (some ⟨w7.heap.size, 0, none⟩) 2 2)).alloc (.cells #[.int .i64 x.k, .int .i32 x.c, .bool x.neg, .slice v2.A v2.n v2.cp, .string x.t, .slice v2.B v2.m v2.cap, .int .i64 d.k, .int .i32 d.c, .bool d.neg, .slice pd.A pd.n pd.cp, .string d.t, .slice pd.B pd.m pd.cap] 27)) ∧ KpL n1 db W ((sixSet w7 db (.int .i64 7) (.int .i32 0) (.bool false) (.slice none 0 0) (.string ⟨#[]⟩) (.slice (some ⟨w7.heap.size, 0, none⟩) 2 2)).alloc (.cells #[.int .i64 x.k, .int .i32 x.c, .bool x.neg, .slice v2.A v2.n v2.cp, .string x.t, .slice v2.B v2.m v2.cap, .int .i64 d.k, .int .i32 d.c, .bool d.neg, .slice pd.A pd.n pd.cp, .string d.t, .slice pd.B pd.m pd.cap] 27)) ∧ LcS w6 base db (pairR x d) ((sixSet w7 db (.int .i64 7) (.int .i32 0) (.bool false) (.slice none 0 0) (.string ⟨#[]⟩) (.slice (some ⟨w7.heap.size, 0, none⟩) 2 2)).alloc (.cells #[.int .i64 x.k, .int .i32 x.c, .bool x.neg, .slice v2.A v2.n v2.cp, .string x.t, .slice v2.B v2.m v2.cap, .int .i64 d.k, .int .i32 d.c, .bool d.neg, .slice pd.A pd.n pd.cp, .string d.t, .slice pd.B pd.m pd.cap] 27)) := by
  have hlt := heap_lt hcell
  have K1 : Keep (fun _ => False) W w7 := ((Keep.refl _ _).drew).trans k7
  have hs := K1.size
  have K2 : Keep (fun b => b = db) W (sixSet w7 db (.int .i64 7) (.int .i32 0) (.bool false) (.slice none 0 0) (.string ⟨#[]⟩) (.slice (some ⟨w7.heap.size, 0, none⟩) 2 2)) := (K1.mono (fun _ _ h => h.elim)).trans (six_self _ _ _ _ _ _ _ _)
  have h7 := k7.heap (show W.drew.heap[db]? = _ from hcell) id
  have K3 : Keep (fun b => b = db) W ((sixSet w7 db (.int .i64 7) (.int .i32 0) (.bool false) (.slice none 0 0) (.string ⟨#[]⟩) (.slice (some ⟨w7.heap.size, 0, none⟩) 2 2)).alloc (.cells #[.int .i64 x.k, .int .i32 x.c, .bool x.neg, .slice v2.A v2.n v2.cp, .string x.t, .slice v2.B v2.m v2.cap, .int .i64 d.k, .int .i32 d.c, .bool d.neg, .slice pd.A pd.n pd.cp, .string d.t, .slice pd.B pd.m pd.cap] 27)) := K2.alloc _
  have hsz := six_size w7 db (.int .i64 7) (.int .i32 0) (.bool false) (.slice none 0 0) (.string ⟨#[]⟩) (.slice (some ⟨w7.heap.size, 0, none⟩) 2 2)
  have hnew : ((sixSet w7 db (.int .i64 7) (.int .i32 0) (.bool false) (.slice none 0 0) (.string ⟨#[]⟩) (.slice (some ⟨w7.heap.size, 0, none⟩) 2 2)).alloc (.cells #[.int .i64 x.k, .int .i32 x.c, .bool x.neg, .slice v2.A v2.n v2.cp, .string x.t, .slice v2.B v2.m v2.cap, .int .i64 d.k, .int .i32 d.c, .bool d.neg, .slice pd.A pd.n pd.cp, .string d.t, .slice pd.B pd.m pd.cap] 27)).heap[w7.heap.size]? = some (.cells #[.int .i64 x.k, .int .i32 x.c, .bool x.neg, .slice v2.A v2.n v2.cp, .string x.t, .slice v2.B v2.m v2.cap, .int .i64 d.k, .int .i32 d.c, .bool d.neg, .slice pd.A pd.n pd.cp, .string d.t, .slice pd.B pd.m pd.cap] 27 (0, 0)) := by
    have := heap_alloc_new (sixSet w7 db (.int .i64 7) (.int .i32 0) (.bool false) (.slice none 0 0) (.string ⟨#[]⟩) (.slice (some ⟨w7.heap.size, 0, none⟩) 2 2)) (.cells #[.int .i64 x.k, .int .i32 x.c, .bool x.neg, .slice v2.A v2.n v2.cp, .string x.t, .slice v2.B v2.m v2.cap, .int .i64 d.k, .int .i32 d.c, .bool d.neg, .slice pd.A pd.n pd.cp, .string d.t, .slice pd.B pd.m pd.cap] 27)
    rwa [hsz] at this
  have K79 : Keep (fun b => b = db) w7 ((sixSet w7 db (.int .i64 7) (.int .i32 0) (.bool false) (.slice none 0 0) (.string ⟨#[]⟩) (.slice (some ⟨w7.heap.size, 0, none⟩) 2 2)).alloc (.cells #[.int .i64 x.k, .int .i32 x.c, .bool x.neg, .slice v2.A v2.n v2.cp, .string x.t, .slice v2.B v2.m v2.cap, .int .i64 d.k, .int .i32 d.c, .bool d.neg, .slice pd.A pd.n pd.cp, .string d.t, .slice pd.B pd.m pd.cap] 27)) := (six_self _ _ _ _ _ _ _ _).alloc _
  have hx : DatAt (fun b => base ≤ b ∧ b ≠ db) ((sixSet w7 db (.int .i64 7) (.int .i32 0) (.bool false) (.slice none 0 0) (.string ⟨#[]⟩) (.slice (some ⟨w7.heap.size, 0, none⟩) 2 2)).alloc (.cells #[.int .i64 x.k, .int .i32 x.c, .bool x.neg, .slice v2.A v2.n v2.cp, .string x.t, .slice v2.B v2.m v2.cap, .int .i64 d.k, .int .i32 d.c, .bool d.neg, .slice pd.A pd.n pd.cp, .string d.t, .slice pd.B pd.m pd.cap] 27)) x v2 := (hd7.keep K79 (by
    rintro b rfl
    exact ⟨fun h => by have h : W.heap.size ≤ b := h; omega, not_T126 h7 (by decide)⟩)).mono (fun b _ h => by have h : W.heap.size ≤ b := h; exact ⟨by omega, by omega⟩)
  have hd : DatAt (fun b => base ≤ b ∧ b ≠ db) ((sixSet w7 db (.int .i64 7) (.int .i32 0) (.bool false) (.slice none 0 0) (.string ⟨#[]⟩) (.slice (some ⟨w7.heap.size, 0, none⟩) 2 2)).alloc (.cells #[.int .i64 x.k, .int .i32 x.c, .bool x.neg, .slice v2.A v2.n v2.cp, .string x.t, .slice v2.B v2.m v2.cap, .int .i64 d.k, .int .i32 d.c, .bool d.neg, .slice pd.A pd.n pd.cp, .string d.t, .slice pd.B pd.m pd.cap] 27)) d pd := hdat.keep K3 (by
    rintro b rfl
    exact ⟨fun h => h.2 rfl, not_T126 hcell (by decide)⟩)
  refine ⟨keepsFrom_of K3 (by rintro b rfl; exact .inr ⟨_, _, _, hcell⟩), K3.mono (fun _ _ h => .inr h), ⟨⟨none, 0, 0, some ⟨w7.heap.size, 0, none⟩, 2, 2⟩, DatAt.pair hx hd hnew ⟨by omega, by omega⟩, ?_⟩, HK.trans K3⟩
  exact bx_old (six_row h7 _ _ _ _ _ _) _
theorem back_stops (n : Nat) (hn : 1 ≤ n) (lb n1 db : Nat) (A : Option Addr) (cap : Nat) (rs : List Raw) (vs : Nat → PV) (hbig : rs.length ≤ 1000000000000000) (hlow : lb < n1 ∧ lb ≠ db) (hA : 0 < rs.length → ∀ g o, A = some ⟨g, o, none⟩ → g < n1 ∧ g ≠ db) (w : World) (hs : SrcAt w lb A cap rs vs) :
    SeqStopsK Fence.wide n Tryz.prog 159 #[.pointer (some ⟨lb, 0, none⟩)] (encL rs vs) (KpL n1 db) (fun ys => ys = lastF rs.length rs.length (Nat.le_refl _)) (fun _ => True) rs.length w := fun l J Jx W hW hJ _ hY h0 =>
  back_in n hn l lb n1 db A cap rs vs hbig J Jx hlow hA hY W hJ (hs.keep (Keep.of_below hW) id (fun _ _ _ _ => id)) h0
set_option maxRecDepth 100000 in
set_option maxHeartbeats 8000000 in
theorem list_any {N P : Nat → Prop} (rs : List Raw) (vs : Nat → PV) (A : Option Addr) (cap : Nat) (w : World) (hbig : rs.length ≤ 1000000000000000)
    (hrow : 0 < rs.length → ∃ g o, A = some ⟨g, o, none⟩ ∧ ∀ i (h : i < rs.length), ItemC w g o i rs[i] (vs i)) (hch : ∀ i (h : i < rs.length), RawAt N P w rs[i] (vs i)) :
    Calls Tryz.prog 103 #[.slice A rs.length cap] w (CopyPost (listR rs .nil) w) := by
  have HROW := Lib.hid hrow
  have HCH := Lib.hid (fun i (h : i < rs.length) => (hch i h).mono (M := fun b => b < w.heap.size) (Q := fun b => b < w.heap.size) (fun b lt _ => lt) (fun b lt _ => lt))
  obtain ⟨n, hn⟩ : ∃ n, n = rs.length := ⟨_, rfl⟩
  have HN := Lib.hid hn
  clear hrow hch
  have HBIG := Lib.hid hbig
  rw [← hn]
  clear hn hbig
  refine (callsIn_wide (n := 5)).1 ?_
  refine callsIn_of_wp_marks Tryz.func103 rfl trivial ?_ rfl
  refine wpIn_wide.2 ?_
  simp only [Tryz.ntmps103, List.size_toArray, List.length_cons, List.length_nil, Nat.reduceAdd, Nat.reduceSub, Array.replicate_succ, Array.replicate_zero, List.push_toArray, List.append_toArray, List.nil_append, List.cons_append]
  go_wp2_with fail
  have HB := Lib.hid (show ((w.alloc (.cells #[.int .i64 0, .int .i32 0, .bool false, .slice none 0 0, .string ⟨#[]⟩, .slice none 0 0] 27)).alloc (.cells #[.int .i64 0, .int .i32 0, .bool false, .slice none 0 0, .string ⟨#[]⟩, .slice none 0 0] 27)).heap[w.heap.size]? = some (.cells #[.int .i64 0, .int .i32 0, .bool false, .slice none 0 0, .string ⟨#[]⟩, .slice none 0 0] 27 (0, 0)) from bx_old (heap_alloc_new w _) _)
  have HD0 := Lib.hid (show ((w.alloc (.cells #[.int .i64 0, .int .i32 0, .bool false, .slice none 0 0, .string ⟨#[]⟩, .slice none 0 0] 27)).alloc (.cells #[.int .i64 0, .int .i32 0, .bool false, .slice none 0 0, .string ⟨#[]⟩, .slice none 0 0] 27)).heap[w.heap.size + 1]? = some (.cells #[.int .i64 0, .int .i32 0, .bool false, .slice none 0 0, .string ⟨#[]⟩, .slice none 0 0] 27 (0, 0)) from by have := heap_alloc_new (w.alloc (.cells #[.int .i64 0, .int .i32 0, .bool false, .slice none 0 0, .string ⟨#[]⟩, .slice none 0 0] 27)) (.cells #[.int .i64 0, .int .i32 0, .bool false, .slice none 0 0, .string ⟨#[]⟩, .slice none 0 0] 27); rwa [World.size_alloc] at this)
  have HK1 := Lib.hid (show Keep (fun _ => False) w ((w.alloc (.cells #[.int .i64 0, .int .i32 0, .bool false, .slice none 0 0, .string ⟨#[]⟩, .slice none 0 0] 27)).alloc (.cells #[.int .i64 0, .int .i32 0, .bool false, .slice none 0 0, .string ⟨#[]⟩, .slice none 0 0] 27)) from ((Keep.refl _ _).alloc _).alloc _)
  refine (backward_any A n cap _).mono ?_
  rintro e w6 ⟨lb, rfl, hlb, hl6, k6⟩
  have HLB := Lib.hid hlb
  have HL6 := Lib.hid hl6
  have HK6 := Lib.hid (HK1.out.trans k6)
  have HB6 := Lib.hid (k6.heap HB.out id)
  have HD6 := Lib.hid (k6.heap HD0.out id)
  clear hlb hl6 k6
  obtain ⟨db, hdb⟩ : ∃ db, db = w.heap.size + 1 := ⟨_, rfl⟩
  have HDB := Lib.hid hdb
  rw [← hdb]
  clear hdb
  go_wp2_with fail
  have hlbs := heap_lt HL6.out
  have hdbs := heap_lt HD6.out
  have hsrc : SrcAt w6 lb A cap rs vs := ⟨by rw [← HN.out]; exact HL6.out, fun hm => by
    obtain ⟨g, o, e, hr⟩ := HROW.out hm
    exact ⟨g, o, e, fun i hi => (hr i hi).keep HK6.out id⟩⟩
  have hAl : 0 < rs.length → ∀ g o, A = some ⟨g, o, none⟩ → g < w.heap.size := fun hm g o e => by
    obtain ⟨g', o', e', hr⟩ := HROW.out hm
    rw [e] at e'
    injection e' with e'; injection e' with e1 e2
    subst e1
    have := (hr 0 hm).cells.1
    exact World.block_lt_of_cell? w _ this
  have HI0 := Lib.hid (show LcS w6 (w.heap.size + 2) db (foldF rs []) w6 from ⟨⟨PV.none, RawAt.nil _ _ _, by have := HD6.out; rw [← HDB.out] at this; exact this⟩, Keep.refl _ _⟩)
  have HSRC := Lib.hid hsrc
  have HAL := Lib.hid hAl
  clear hsrc hAl
  refine (wpIn_wide (n := 5)).1 ?_
  refine wpIn_rangeFunc_ownH (F := Fence.wide) (n := 5) rfl (by omega) (gf := 159) (lb := #[.pointer (some ⟨lb, 0, none⟩)]) rfl trivial (Go.Proofs.enters_of Tryz.func159 (by kernel_rfl) rfl) (encs := encL rs vs) (Kp := KpL w6.heap.size db)
    (back_stops 4 (by omega) lb w6.heap.size db A cap rs vs HBIG.out ⟨hlbs, by have := HDB.out; have := HLB.out; simp at this; omega⟩ (fun hm g o e => ⟨by have := HAL.out hm g o e; have := HK6.out.size; omega, by have := HAL.out hm g o e; have := HDB.out; omega⟩) w6 HSRC.out)
    (fun a b => Keep.trans a b) (fun W l o o' hl _ _ _ => (Keep.refl _ W).grown (grownBy_putObj' W l o') (fun k e => by cases e; exact .inl (.inl hl))) (Below.refl _ _) (fun _ => rfl)
    (fun pre W => LcS w6 (w.heap.size + 2) db (foldF rs pre) W) (fun _ _ _ => False) (fun pre W W' row hs hg hr => hs.grown hg hr) (fun _ _ _ _ _ hs _ _ => hs) HI0.out
    (AxL rs vs w6.heap.size (fun xb i => { tmps := #[.slice A n cap, undef, .pointer (some ⟨w.heap.size, 0, none⟩), .pointer (some ⟨db, 0, none⟩), undef, .pointer (some ⟨xb, 0, none⟩), .agg #[.int .i64 0, .int .i32 0, .bool false, .slice none 0 0, .string ⟨#[]⟩, .slice none 0 0], .slice A n cap, .func (.func 159) #[] #[.pointer (some ⟨lb, 0, none⟩)], .int .i64 (i.1 : Int), rawV rs[i] (vs i.1), undef, undef, undef, undef, undef, undef], defers := [] }))
    (fun x a' _ W W' row hs hg hr => by obtain ⟨xb, h1, h2, h3⟩ := hs; exact ⟨xb, h1, h2, cells_grown h3 hg (fun r e => (hr r e).2)⟩) ?assign ?body ?done ?stop
  case assign =>
    intro l pre x W K hI hK
    gi_wp2
    refine hK _ _ (keepsFrom_of ((Keep.refl (fun _ => False) W).alloc _) (fun b hb => hb.elim)) ((Keep.refl _ _).alloc _) (hI.grown (World.grownBy_alloc W _ none) (fun r e => by cases e)) ⟨W.heap.size, hI.K.size, rfl, heap_alloc_new W _⟩
  case body =>
    rintro l pre i a' W hl _ hI ⟨xb, hxb, rfl, hx⟩ hlen
    obtain ⟨⟨pd, hdat, hcell⟩, hK⟩ := hI
    obtain ⟨d, hd⟩ : ∃ d, d = foldF rs pre := ⟨_, rfl⟩
    rw [← hd] at hdat hcell
    obtain ⟨x, hxx⟩ : ∃ x, x = rs[i] := ⟨_, rfl⟩
    obtain ⟨v, hv⟩ : ∃ v, v = vs i.1 := ⟨_, rfl⟩
    rw [← hxx, ← hv] at hx
    have hdbw : ¬ db < w.heap.size := by have := HDB.out; omega
    have hraw : RawAt (fun b => b < w.heap.size) (fun b => b < w.heap.size) W x v := by
      rw [hxx, hv]
      exact ((HCH.out i.1 i.2).keep0 HK6.out).keep hK (by rintro b rfl; exact ⟨hdbw, hdbw⟩)
    have HC := Lib.hid (fun (W' : World) (K : Keep (fun _ => False) W W') => copied_any hraw W' K)
    have HXX := Lib.hid hxx
    have HD := Lib.hid hd
    have HK := Lib.hid hK
    have HDAT := Lib.hid hdat
    have HCELL := Lib.hid hcell
    obtain ⟨⟨c0, c1, c2, c3, c4, c5⟩, f0, f1, f2, f3, f4, f5⟩ := six_cells hcell
    obtain ⟨⟨x0, x1, x2, x3, x4, x5⟩, _⟩ := six_cells hx
    have hmx : Tryz.prog.follows .mixedOrders = true := by kernel_rfl
    clear hraw hxx hd hK hdat hcell hx hv hdbw hlen
    gi_wp2
    gi_region_with_o (refine ⟨trivial, ?_⟩; gi_at_call 131; refine (CallsIn.inRound l (callsIn_wide.2 (HC.out _ ((Keep.refl _ _).drew)))).mono ?_; rintro e w7 ⟨v2, rfl, hd7, k7⟩; obtain ⟨⟨g0, g1, g2, g3, g4, g5⟩, e0, e1, e2, e3, e4, e5⟩ := six_cells (k7.heap (show W.drew.heap[db]? = _ from HCELL.out) id); have hlt7 := heap_lt (k7.heap (show W.drew.heap[db]? = _ from HCELL.out) id); have hne7 : ¬ db = w7.heap.size := Nat.ne_of_lt hlt7)
    all_goals gi_wp2
    all_goals
      have hfin := LcS.next (B := w6.heap.size) (n1 := w6.heap.size) HK.out HDAT.out HCELL.out k7 hd7 (by have := HK.out.size; have := HK6.out.size; have := heap_lt HD6.out; have := HDB.out; omega)
      refine ⟨hfin.1, hfin.2.1, ?_⟩
      show LcS w6 (w.heap.size + 2) db (foldF rs (pre ++ [i])) _
      have e : foldF rs (pre ++ [i]) = pairR x d := by unfold foldF; rw [List.foldl_append, HXX.out, HD.out]; rfl
      rw [e]
      exact hfin.2.2
  case done =>
    rintro D ys W hD rfl ⟨⟨pd, hdat, hcell⟩, hK⟩ hKd
    rw [foldF_all] at hdat hcell
    obtain ⟨dd, hdd⟩ : ∃ dd, dd = listR rs .nil := ⟨_, rfl⟩
    rw [← hdd] at hdat hcell
    have hB := hK.heap HB6.out (by have := HDB.out; omega)
    obtain ⟨⟨c0, c1, c2, c3, c4, c5⟩, _⟩ := six_cells hcell
    obtain ⟨⟨b0, b1, b2, b3, b4, b5⟩, f0, f1, f2, f3, f4, f5⟩ := six_cells hB
    have HDAT := Lib.hid hdat
    have HKK := Lib.hid hK
    have HBB := Lib.hid hB
    have HKD := Lib.hid hKd
    have HDD := Lib.hid hdd
    clear hdat hK hB hKd hdd
    go_wp2_with fail
    have hDw : D ≠ w.heap.size := by have := heap_lt HB6.out; omega
    have hKD := six_oth HKD.out hDw (.int .i64 dd.k) (.int .i32 dd.c) (.bool dd.neg) (.slice pd.A pd.n pd.cp) (.string dd.t) (.slice pd.B pd.m pd.cap)
    have hrow := six_row HBB.out (.int .i64 dd.k) (.int .i32 dd.c) (.bool dd.neg) (.slice pd.A pd.n pd.cp) (.string dd.t) (.slice pd.B pd.m pd.cap)
    have hg : (sixSet W w.heap.size (.int .i64 dd.k) (.int .i32 dd.c) (.bool dd.neg) (.slice pd.A pd.n pd.cp) (.string dd.t) (.slice pd.B pd.m pd.cap)).grownBy ((sixSet W w.heap.size (.int .i64 dd.k) (.int .i32 dd.c) (.bool dd.neg) (.slice pd.A pd.n pd.cp) (.string dd.t) (.slice pd.B pd.m pd.cap)).putObj D (.deferred none)) (some D) := grownBy_putObj' _ D _
    have hgr : ∀ r, some D = some r → ∃ o : Obj, (sixSet W w.heap.size (.int .i64 dd.k) (.int .i32 dd.c) (.bool dd.neg) (.slice pd.A pd.n pd.cp) (.string dd.t) (.slice pd.B pd.m pd.cap)).heap[r]? = some o ∧ o.isCells = false := by rintro r e; cases e; exact ⟨_, hKD, rfl⟩
    refine ⟨by simp, .inl ⟨_, _, rfl, run_takeDeferred hKD, ?_⟩⟩
    obtain ⟨⟨e0, e1, e2, e3, e4, e5⟩, _⟩ := six_cells (cells_grown hrow hg hgr)
    refine ⟨rawV dd pd, by simp [results, Tryz.results103, go_sem, e0, e1, e2, e3, e4, e5], pd, by rw [HDD.out], ?_, ?_⟩
    · rw [← HDD.out]
      refine DatAt.grown ((HDAT.out.keep (six_self W w.heap.size (.int .i64 dd.k) (.int .i32 dd.c) (.bool dd.neg) (.slice pd.A pd.n pd.cp) (.string dd.t) (.slice pd.B pd.m pd.cap)) ?_).mono (fun b _ h => by omega)) hg hgr
      rintro b rfl
      exact ⟨fun h => by omega, not_T126 HBB.out (by decide)⟩
    · have K1 : Keep (fun _ => False) w W := HK6.out.into HKK.out (by rintro b rfl; have := HDB.out; omega)
      exact (six_keep K1 (Nat.le_refl _) (.int .i64 dd.k) (.int .i32 dd.c) (.bool dd.neg) (.slice pd.A pd.n pd.cp) (.string dd.t) (.slice pd.B pd.m pd.cap)).grown hg (fun k e => by cases e; exact .inr (by have := HK6.out.size; omega))
  case stop =>
    rintro D c pre W _ _ h _
    exact h.elim
end Go.Proofs.YtonnikipeokkaaaGreatDoor
