/-
  morainelaw07.stands: both memories are told alike.
-/
import Derived.Test.YtgnpeciedefeiaaSegEq
import Derived.BigQuiet
import Derived.Test.YtgnpeciedefeiaaInts
import Derived.Deep.RegionHeld3
import Derived.Deep.Cut
namespace Go.Proofs.Ytgnpeciedefeiaa
open Go.RowKit

/-- A slice of ints that lies there, shut. -/
structure IA (w : World) (A : Option Addr) (n : Nat) (L : List Int) : Prop where
  h : IntsAt w A n L
namespace IA
theorem nil (w : World) (A : Option Addr) : IA w A 0 [] := ⟨IntsAt.nil w A⟩
theorem keep0 {w w' : World} {A : Option Addr} {n : Nat} {L : List Int} (h : IA w A n L) (k : Keep (fun _ => False) w w') : IA w' A n L := ⟨h.h.keep0 k⟩
theorem allocs {w : World} {A : Option Addr} {n : Nat} {L : List Int} (h : IA w A n L) (o : Obj) : IA (w.alloc o) A n L := h.keep0 ((Keep.refl _ _).alloc _)
theorem ones {w : World} {b : Nat} (h : b = w.heap.size) (x : Int) : IA (w.alloc (.cells #[.int .i64 x] 3)) (some ⟨b, 0, none⟩) 1 [x] := by
  subst h
  refine ⟨rfl, fun j hj => ⟨w.heap.size, 0, rfl, by simp, ?_⟩⟩
  rw [cell_of_row _ _ _ _ _ _ (heap_alloc_new w _)]
  match j, hj with
  | 0, _ => rfl
theorem twos {w : World} {b : Nat} (h : b = w.heap.size) (x y : Int) : IA (w.alloc (.cells #[.int .i64 x, .int .i64 y] 3)) (some ⟨b, 0, none⟩) 2 [x, y] := by
  subst h
  refine ⟨rfl, fun j hj => ⟨w.heap.size, 0, rfl, by simp, ?_⟩⟩
  rw [cell_of_row _ _ _ _ _ _ (heap_alloc_new w _)]
  match j, hj with
  | 0, _ | 1, _ => rfl
end IA

/-- The list that both answer. -/
def LF (M : MemV) (gs : List Int) (L : List Nat) : List Nat := L.filter (askB M gs)
def AsPost (w0 w : World) (l : List Nat) (e : Ending) (w' : World) : Prop :=
  ∃ (A : Option Addr) (c : Nat), e = .returned (.slice A l.length c) ∧ IA w' A l.length (l.map (fun i : Nat => (i : Int))) ∧ Keep (fun _ => False) w0 w' ∧ ∀ A n L, IA w A n L → IA w' A n L

theorem taken_as (p g : Nat) (M : MemV) (L : List Nat) (ok : M.Ok) (T : TakenL M [] L) (w0 : World) (m : MemAt w0 p g M) (gs : List Int) (A : Option Addr) (n c : Nat) (w : World) (K : Keep (fun _ => False) w0 w) (hg : IA w A n gs) (hn : n ≤ 1000000) :
    Calls Try.prog 22 #[.pointer (some ⟨p, 0, none⟩), .slice A n c] w (AsPost w0 w (LF M gs L)) :=
  (taken_any p g M ok A n c gs w (m.keep K (by simp) (by simp)) hg.h hn).mono fun e w' ⟨A', c', L', he, hI, hT, _, k⟩ => by
    obtain rfl : L' = LF M gs L := hT.unique (T.filter gs)
    exact ⟨A', c', he, ⟨hI⟩, K.trans k, fun _ _ _ h => h.keep0 k⟩
theorem rtaken_as {base q : Nat} {M : MemV} {L : List Nat} (ok : M.Ok) (w0 : World) (R : RefAt w0 base q M L) (gs : List Int) (A : Option Addr) (n c : Nat) (w : World) (K : Keep (fun _ => False) w0 w) (hg : IA w A n gs) (hn : n ≤ 1000000) :
    Calls Try.prog 61 #[.pointer (some ⟨q, 0, none⟩), .slice A n c] w (AsPost w0 w (LF M gs L)) :=
  (taken_ref (R.keep0 K) ok A n c gs hg.h hn).mono fun e w' ⟨A', c', L', he, hI, hT, _, k⟩ => by
    obtain rfl : L' = LF M gs L := hT.unique (R.1.filter gs)
    exact ⟨A', c', he, ⟨hI⟩, K.trans k, fun _ _ _ h => h.keep0 k⟩
theorem ints_as (w0 : World) (A B : Option Addr) (n ca cb : Nat) (L : List Int) (w : World) (K : Keep (fun _ => False) w0 w) (hA : IA w A n L) (hB : IA w B n L) (hn : n ≤ 1000000) :
    Calls Try.prog 60 #[.slice A n ca, .slice B n cb] w fun e w' => e = .returned (.bool true) ∧ Keep (fun _ => False) w0 w' ∧ ∀ A n L, IA w A n L → IA w' A n L :=
  (ints_same A B n ca cb L w hA.h hB.h hn).mono fun _ _ ⟨he, k⟩ => ⟨he, K.trans k, fun _ _ _ h => h.keep0 k⟩
theorem lf_nil {M : MemV} {L : List Nat} : LF M [] L = L := by
  unfold LF
  rw [List.filter_eq_self]
  intro a _
  simp [askB]
theorem lf_len (M : MemV) (gs : List Int) (L : List Nat) : (LF M gs L).length ≤ L.length := List.length_filter_le _ _

theorem read_at (p g : Nat) (M : MemV) (t k : Nat) (addr : Int) (w : World) (h : MemAt w p g M) (ok : M.Ok) (hs : addr = (t : Int) * 64 + k) (hk : t < M.lim) (ht : 0 < (M.sg t).taken) (hn : (k : Int) < (M.sg t).n) :
    Calls Try.prog 21 #[.pointer (some ⟨p, 0, none⟩), .int .i64 addr] w fun e w' => e = .returned (.tuple #[.int .u64 ((M.sg t).words k), .int .i64 0]) ∧ w = w' := by
  have h64 := (ok.sg t hk).n64
  have e1 : (t * 64 + k) / 64 = t := by omega
  have e2 : (t * 64 + k) % 64 = k := by omega
  have := read_yes p g M (t * 64 + k) addr w h ok.l1024 (by omega) (by rw [e1]; exact hk) (by rw [e1]; exact ht) (by rw [e1, e2]; exact hn) (by rw [e1]; exact h64)
  rw [e1, e2] at this
  exact this
def PastPost (c : Nat) (w : World) (e : Ending) (w' : World) : Prop := ∃ u f : Int, e = .returned (.tuple #[.int .u64 u, .int .i64 f]) ∧ (c < 64 → f = 18) ∧ w = w'
theorem read_past (p g : Nat) (M : MemV) (t c : Nat) (addr : Int) (w : World) (h : MemAt w p g M) (ok : M.Ok) (hs : addr = (t : Int) * 64 + c) (hk : t < M.lim) (hc : (c : Int) = (M.sg t).n) :
    Calls Try.prog 21 #[.pointer (some ⟨p, 0, none⟩), .int .i64 addr] w (PastPost c w) := by
  have h64 := (ok.sg t hk).n64
  have l := ok.l1024
  refine (read_all p g M addr w h ok (by omega)).mono ?_
  rintro e w' ⟨u, f, he, hw, hR⟩
  refine ⟨u, f, he, fun h64 => ?_, hw⟩
  rcases hR with ⟨_, _, hf⟩ | ⟨a, ha, h1, h2, h3, _⟩
  · exact hf
  · have e1 : a / 64 = t := by omega
    rw [e1] at h3
    omega

/-- A block that holds a segment's tale. -/
def SAt (w : World) (b : Nat) (s : Sg) : Prop := w.heap[b]? = some (.cells #[.int .i64 s.gen, .int .i64 s.kind, .int .i64 s.n, .int .i64 s.c0, .int .i64 s.c1, .int .i64 s.c2, .int .i64 s.c3] 37 (0, 0))
theorem SAt.cells {w : World} {b : Nat} {s : Sg} (h : SAt w b s) : w.cell? ⟨b, 0, none⟩ = some (.int .i64 s.gen) ∧ w.cell? ⟨b, 1, none⟩ = some (.int .i64 s.kind) ∧ w.cell? ⟨b, 2, none⟩ = some (.int .i64 s.n) ∧ w.cell? ⟨b, 3, none⟩ = some (.int .i64 s.c0) ∧ w.cell? ⟨b, 4, none⟩ = some (.int .i64 s.c1) ∧ w.cell? ⟨b, 5, none⟩ = some (.int .i64 s.c2) ∧ w.cell? ⟨b, 6, none⟩ = some (.int .i64 s.c3) := by
  refine ⟨?_, ?_, ?_, ?_, ?_, ?_, ?_⟩ <;> (rw [cell_of_row w b _ _ _ _ h]; rfl)

/-- A region of a function's text. -/
def pickRegion (n : Nat) : Code → Option Code
  | .region id ops b => if id = n then some (.region id ops b) else none
  | .loop c => pickRegion n c
  | .seq a b => match pickRegion n a with
    | some c => some c
    | none => pickRegion n b
  | .block _ c => pickRegion n c
  | .scope c => pickRegion n c
  | .cond _ a b => match pickRegion n a with
    | some c => some c
    | none => pickRegion n b
  | _ => none
noncomputable def standsReg : Code := (Try.f25.body.bind (pickRegion 2)).getD .skip

set_option maxRecDepth 100000 in
set_option maxHeartbeats 8000000 in
theorem stands_reg (base p g q : Nat) (M : MemV) (L : List Nat) (w : World) (m : MemAt w p g M) (R0 : RefAt w base q M L) (ok : M.Ok) (w1 : World) (A1 : Option Addr) (ca1 : Nat)
    (I1 : IA w1 A1 (LF M [] L).length ((LF M [] L).map (fun i : Nat => (i : Int)))) (K1 : Keep (fun _ => False) w w1) (K' : Act → World → Prop) (Q' : Exit → Act → World → Prop)
    (hK : ∀ (u20 u21 u22 u23 u24 u25 u26 u27 u28 u29 u30 u31 u32 u33 u34 u35 u36 u37 u38 u39 u40 u41 u42 u43 u44 u45 u46 u47 u48 u49 u50 u51 u52 u53 u54 u55 u56 u57 u58 u59 u60 u61 u62 u63 u64 u65 u66 u67 : Value) (wx : World), Keep (fun _ => False) w wx → K' ⟨#[.pointer (some ⟨p, 0, none⟩), .pointer (some ⟨q, 0, none⟩), undef, undef, .bool false, .slice A1 (LF M [] L).length ca1, undef, undef, undef, undef, undef, undef, undef, undef, undef, undef, undef, undef, .pointer (some ⟨p, 0, none⟩), .slice A1 (LF M [] L).length ca1, u20, u21, u22, u23, u24, u25, u26, u27, u28, u29, u30, u31, u32, u33, u34, u35, u36, u37, u38, u39, u40, u41, u42, u43, u44, u45, u46, u47, u48, u49, u50, u51, u52, u53, u54, u55, u56, u57, u58, u59, u60, u61, u62, u63, u64, u65, u66, u67, .bool false, undef, undef, undef, undef, undef, undef, undef, undef, undef, undef, undef, undef, undef, undef, undef, undef, undef, undef, undef, undef, undef, undef, undef, undef, undef, undef, undef, undef, undef, undef, undef, undef, undef, undef, undef, undef, undef, undef, undef, undef, undef, undef, undef, undef, undef, undef, undef, undef, undef, undef, undef, undef, undef, undef, undef, undef, undef, undef, undef, undef, undef, undef, undef, undef, undef, undef, undef, undef, undef, undef, undef, undef, undef, undef, undef, undef, undef, undef, undef, undef, undef, undef, undef, undef, undef, undef, undef, undef, undef, undef, undef, undef, undef, undef, undef, undef, undef, undef, undef, undef, undef, undef, undef, undef, undef, undef, undef, undef, undef, undef, undef, undef, undef, undef, undef, undef, undef, undef, undef, undef, undef, undef, undef, undef, undef, undef, undef, undef, undef, undef, undef, undef, undef, undef, undef, undef, undef, undef, undef, undef], []⟩ wx) :
    Code.wp Try.prog standsReg (Exit.then K' Q') ⟨#[.pointer (some ⟨p, 0, none⟩), .pointer (some ⟨q, 0, none⟩), undef, undef, .bool false, .slice A1 (LF M [] L).length ca1, undef, undef, undef, undef, undef, undef, undef, undef, undef, undef, undef, undef, .pointer (some ⟨p, 0, none⟩), .slice A1 (LF M [] L).length ca1, undef, undef, undef, undef, undef, undef, undef, undef, undef, undef, undef, undef, undef, undef, undef, undef, undef, undef, undef, undef, undef, undef, undef, undef, undef, undef, undef, undef, undef, undef, undef, undef, undef, undef, undef, undef, undef, undef, undef, undef, undef, undef, undef, undef, undef, undef, undef, undef, undef, undef, undef, undef, undef, undef, undef, undef, undef, undef, undef, undef, undef, undef, undef, undef, undef, undef, undef, undef, undef, undef, undef, undef, undef, undef, undef, undef, undef, undef, undef, undef, undef, undef, undef, undef, undef, undef, undef, undef, undef, undef, undef, undef, undef, undef, undef, undef, undef, undef, undef, undef, undef, undef, undef, undef, undef, undef, undef, undef, undef, undef, undef, undef, undef, undef, undef, undef, undef, undef, undef, undef, undef, undef, undef, undef, undef, undef, undef, undef, undef, undef, undef, undef, undef, undef, undef, undef, undef, undef, undef, undef, undef, undef, undef, undef, undef, undef, undef, undef, undef, undef, undef, undef, undef, undef, undef, undef, undef, undef, undef, undef, undef, undef, undef, undef, undef, undef, undef, undef, undef, undef, undef, undef, undef, undef, undef, undef, undef, undef, undef, undef, undef, undef, undef, undef, undef, undef, undef, undef, undef], []⟩ w1 := by
  obtain ⟨T, v, wv, R⟩ := id R0
  have hlen := T.len
  have hl : L.length ≤ 1024 := by have := sel_len M [] M.lim; have := ok.l1024; omega
  have l1024 := ok.l1024
  obtain ⟨Av, cap, rfl⟩ := R.shape
  obtain ⟨c0, c1⟩ := R.cells
  have hql := R.lt
  have facts : ∀ w' : World, Keep (fun _ => False) w w' → w'.cell? ⟨q, 0, none⟩ = some (.int .i64 (M.lim : Int)) ∧ w'.cell? ⟨q, 1, none⟩ = some (.slice Av L.length cap) ∧ Keep (fun _ => False) w w' := fun w' K => ⟨(K.cell (p := ⟨q, 0, none⟩) hql (by simp)).trans c0, (K.cell (p := ⟨q, 1, none⟩) hql (by simp)).trans c1, K⟩
  have hfree : (M.lim : Int) - (L.length : Int) = M.free := by
    have hall := count_all M ok.t0 M.lim (Nat.le_refl _)
    have hfr := ok.fr
    omega
  have hwrap : IntKind.i64.wrap ((M.lim : Int) - (L.length : Int)) = M.free := by rw [← hfree]; simp [IntKind.wrap, IntKind.signed, IntKind.bits]; omega
  have HF := Lib.hid facts
  have HT := Lib.hid T
  have HM := Lib.hid m
  have HR0 := Lib.hid R0
  have HR := Lib.hid R
  have H1 := lf_len M [0, 2] L
  have H2 := lf_len M [4] L
  have H3 := lf_len M [] L
  clear facts T R0 hfree hlen R
  conv => arg 2; whnf
  obtain ⟨f0, f1, _⟩ := HF.out _ K1
  have Kd := K1.drew
  have I1d : IA w1.drew A1 (LF M [] L).length ((LF M [] L).map (fun i : Nat => (i : Int))) := I1.keep0 ((Keep.refl (fun _ => False) w1).drew)
  go_region_held3 (fun w' => w'.cell? ⟨q, 0, none⟩ = some (.int .i64 (M.lim : Int)) ∧ w'.cell? ⟨q, 1, none⟩ = some (.slice Av L.length cap) ∧ Keep (fun _ => False) w w')
    (first | exact ⟨f0, f1, Kd⟩ | (go_split_ands; exact HF.out _ (by repeat (first | with_reducible assumption | with_reducible apply Keep.drew | with_reducible apply Keep.alloc))))
    (first
      | (go_at_call 23; go_split_ands; refine (limit_any p g M _ (HM.out.keep (S := fun _ => False) (by repeat (first | with_reducible assumption | with_reducible apply Keep.drew | with_reducible apply Keep.alloc)) (by simp) (by simp))).mono ?_; rintro e w' ⟨rfl, rfl⟩)
      | (go_at_call 15; go_split_ands; refine (free_any p g M _ (HM.out.keep (S := fun _ => False) (by repeat (first | with_reducible assumption | with_reducible apply Keep.drew | with_reducible apply Keep.alloc)) (by simp) (by simp))).mono ?_; rintro e w' ⟨rfl, rfl⟩)
      | (go_at_call 22; go_split_ands; refine (taken_as p g M L ok HT.out w HM.out _ _ _ _ _ (by repeat (first | with_reducible assumption | with_reducible apply Keep.drew | with_reducible apply Keep.alloc)) (by repeat (first | with_reducible assumption | (with_reducible refine IA.twos ?_ _ _; (simp; done)) | (with_reducible refine IA.ones ?_ _; (simp; done)) | with_reducible exact IA.nil _ _ | with_reducible apply IA.allocs | with_reducible apply_assumption)) (by omega)).mono ?_; rintro e wt ⟨A2, ca2, rfl, I2, K2, l2⟩)
      | (go_at_call 61; go_split_ands; refine (rtaken_as ok w HR0.out _ _ _ _ _ (by repeat (first | with_reducible assumption | with_reducible apply Keep.drew | with_reducible apply Keep.alloc)) (by repeat (first | with_reducible assumption | (with_reducible refine IA.twos ?_ _ _; (simp; done)) | (with_reducible refine IA.ones ?_ _; (simp; done)) | with_reducible exact IA.nil _ _ | with_reducible apply IA.allocs | with_reducible apply_assumption)) (by omega)).mono ?_; rintro e wt ⟨A4, ca4, rfl, I4, K4, l4⟩)
      | (go_at_call 60; go_split_ands; refine (ints_as w _ _ _ _ _ _ _ (by repeat (first | with_reducible assumption | with_reducible apply Keep.drew | with_reducible apply Keep.alloc)) (by repeat (first | with_reducible assumption | (with_reducible refine IA.twos ?_ _ _; (simp; done)) | (with_reducible refine IA.ones ?_ _; (simp; done)) | with_reducible exact IA.nil _ _ | with_reducible apply IA.allocs | with_reducible apply_assumption)) (by repeat (first | with_reducible assumption | (with_reducible refine IA.twos ?_ _ _; (simp; done)) | (with_reducible refine IA.ones ?_ _; (simp; done)) | with_reducible exact IA.nil _ _ | with_reducible apply IA.allocs | with_reducible apply_assumption)) (by omega)).mono ?_; rintro e wt ⟨rfl, K7, l7⟩))
  all_goals refine hK _ _ _ _ _ _ _ _ _ _ _ _ _ _ _ _ _ _ _ _ _ _ _ _ _ _ _ _ _ _ _ _ _ _ _ _ _ _ _ _ _ _ _ _ _ _ _ _ _ (by assumption)
end Go.Proofs.Ytgnpeciedefeiaa
