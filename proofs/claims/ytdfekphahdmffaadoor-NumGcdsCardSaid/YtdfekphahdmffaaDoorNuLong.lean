/-
  num: Norm of a number of any length; such a number that came in.
-/
import Derived.Test.YtdfekphahdmffaaDoorNuOpen
namespace Go.Proofs.YtdfekphahdmffaaDoor
open Go.ChangeShapes Go.WideShapes Go.ChangeAt Go.RowKit Go.Joins

/-- Limbs that lie there, however many. -/
structure LimbsX (w : World) (A : Option Addr) (n c : Nat) (l : List Nat) : Prop where
  row : RowAt .u32 w A n l
  low : Low BB l
  cap : n ≤ c
  max : n ≤ maxLen
namespace LimbsX
variable {w w' : World} {A : Option Addr} {n c : Nat} {l : List Nat}
theorem keep0 (h : LimbsX w A n c l) (k : Keep (fun _ => False) w w') : LimbsX w' A n c l := ⟨h.row.keep0 k, h.low, h.cap, h.max⟩
theorem toAt (h : LimbsX w A n c l) (hm : n ≤ 100000) : LimbsAt w A n c l := ⟨h.row, h.low, h.cap, hm⟩
theorem trim (h : LimbsX w A n c l) (hs : tlen l ≤ 48) : LimbsAt w A (tlen l) c (limbs (lval l)) := by
  have hle := tlen_le h.low
  rw [h.row.1] at hle
  refine ⟨?_, digs_low BB2 _, Nat.le_trans hle h.cap, by omega⟩
  have := h.row.take hle
  rwa [take_tlen h.low] at this
end LimbsX
set_option maxHeartbeats 800000 in
theorem trimX_any (A : Option Addr) (n c : Nat) (l : List Nat) (w : World) (hA : LimbsX w A n c l) :
    Calls Tryd.prog 54 #[.slice A n c] w fun e w' => e = .returned (.slice A (tlen l) c) ∧ w = w' := by
  obtain ⟨h, low, hcap, hn⟩ := hA
  unfold maxLen at hn
  have hlen := h.1
  have LOW := Lib.hid low
  have HLEN := Lib.hid hlen
  clear low hlen
  go_enter Tryd.func54, Tryd.ntmps54
  go_wp2_with fail
  go_loop [3] (fun i => ∃ k : Nat, k ≤ n ∧ i = .int .i64 k ∧ ∀ j, k ≤ j → j < n → l.getD j 0 = 0) (fun i => (intOf i).toNat)
  case atStart => exact ⟨n, Nat.le_refl _, rfl, fun j h1 h2 => by omega⟩
  case round =>
    obtain ⟨k, hk, rfl, hz⟩ := hrel
    have HZ := Lib.hid hz
    clear hz
    by_cases h0 : k = 0
    · subst h0
      have ht := (tlen_of LOW.out (k := 0) (Nat.zero_le _) (fun j h1 h2 => HZ.out j h1 (by rw [← HLEN.out]; exact h2)) (.inl rfl)).1
      have HT := Lib.hid ht
      clear ht
      go_wp2_with fail
      go_ret
      exact ⟨by rw [HT.out]; rfl, rfl⟩
    · obtain ⟨m, rfl⟩ : ∃ m, k = m + 1 := ⟨k - 1, by omega⟩
      obtain ⟨b, off, rfl, hb, hc⟩ := h.2 m (by omega)
      by_cases hx : l.getD m 0 = 0
      · rw [hx] at hc
        have HX := Lib.hid hx
        clear hx h0
        go_wp2_with fail
        go_round
        case rel => exact ⟨m, by omega, by go_num, fun j h1 h2 => by
          by_cases e : j = m
          · rw [e]; exact HX.out
          · exact HZ.out j (by omega) h2⟩
        case measure => simp [intOf]
      · have ht := (tlen_of LOW.out (k := m + 1) (by rw [HLEN.out]; exact hk) (fun j h1 h2 => HZ.out j h1 (by rw [← HLEN.out]; exact h2)) (.inr (by simpa using hx))).1
        have HT := Lib.hid ht
        obtain ⟨x, hxx⟩ : ∃ x, x = l.getD m 0 := ⟨_, rfl⟩
        rw [← hxx] at hc hx
        have hb0 : (((x : Nat) : Int) == 0) = false := by simpa using hx
        clear ht h0 hxx hx
        have hc1 : (m : Int) + 1 ≤ (c : Int) := by omega
        go_wp2_with fail
        go_ret
        exact ⟨by rw [HT.out]; rfl, rfl⟩
set_option maxRecDepth 100000 in
set_option maxHeartbeats 2000000 in
theorem madeX_any (neg : Bool) (A : Option Addr) (n c : Nat) (l : List Nat) (w : World) (h : LimbsX w A n c l) :
    Calls Tryd.prog 51 #[.bool neg, .slice A n c] w (ResPost (sval neg l) w) := by
  have K : Keep (fun _ => False) w (w.alloc (.cells #[.bool false, .slice none 0 0] 25)) := (Keep.refl _ _).alloc _
  have h1 := h.keep0 K
  have H1 := Lib.hid h1
  have T1 := Lib.hid (fun (hs : tlen l ≤ 48) => h1.trim hs)
  have tlx : tlen l ≤ 9223372036854775807 := by have h8 := tlen_le h.low; rw [h.row.1] at h8; have h9 := h.max; unfold maxLen at h9; omega
  have hfit : Fits (sval neg l) ↔ tlen l ≤ 48 := by unfold Fits tlen; rw [sval_abs]
  have hneg : belowB neg l = (neg && decide (0 < tlen l)) := by
    unfold belowB
    congr 1
    exact decide_eq_decide.2 (tlen_pos l).symm
  have hbi := belowB_iff neg l
  rw [hneg] at hbi
  have HB := Lib.hid hbi
  have HF := Lib.hid hfit
  clear h h1 hfit hneg hbi
  by_cases hbig : 48 < tlen l
  · go_enter Tryd.func51, Tryd.ntmps51
    go_wp2_with fail
    refine (trimX_any A n c l _ H1.out).mono ?_
    rintro e w1 ⟨rfl, rfl⟩
    go_wp2_with fail
    exact bodyPost_ret (v := .tuple #[numArg false none 0 0, .int .i64 6]) (by simp [results, Tryd.results51, go_sem]) rfl ⟨(Keep.refl _ _).alloc _, .inl ⟨fun f => by have := HF.out.1 f; omega, rfl⟩⟩
  · have hbig' : decide ((48 : Int) < (tlen l : Int)) = false := decide_eq_false (by omega)
    have hF := Lib.hid (HF.out.2 (by omega))
    have t1 := Lib.hid (T1.out (by omega))
    have tm : tlen l ≤ 48 := by omega
    clear hbig
    cases neg with
    | false =>
      go_enter Tryd.func51, Tryd.ntmps51
      go_wp2_with fail
      refine (trimX_any A n c l _ H1.out).mono ?_
      rintro e w1 ⟨rfl, rfl⟩
      go_wp2_with fail
      refine (clone_any A _ c _ _ t1.out).mono ?_
      rintro e w2 ⟨A2, n2, c2, rfl, own, k2⟩
      have hb := k2.heap (heap_alloc_new w (.cells #[.bool false, .slice none 0 0] 25)) (by simp)
      have r0 : w2.cell? ⟨w.heap.size, 0, none⟩ = some (.bool false) := by rw [cell_of_row w2 _ _ _ _ _ hb]; rfl
      have r1 : w2.cell? ⟨w.heap.size, 1, none⟩ = some (.slice none 0 0) := by rw [cell_of_row w2 _ _ _ _ _ hb]; rfl
      have f0 : w2.frozen? ⟨w.heap.size, 0, none⟩ = false := by simp [World.frozen?, hb]
      have f1 : w2.frozen? ⟨w.heap.size, 1, none⟩ = false := by simp [World.frozen?, hb]
      have OWN := Lib.hid own
      have HBX := Lib.hid hb
      have KK := Lib.hid (K.trans k2)
      clear own hb k2 K
      go_wp2_with fail
      obtain ⟨e0, e1⟩ := two_cells HBX.out (.bool false) (.slice A2 n2 c2)
      refine bodyPost_ret (v := .tuple #[numArg (decide (sval false l < 0)) A2 n2 c2, .int .i64 0]) ?_ rfl ⟨two_keep KK.out (Nat.le_refl _) _ _, .inr ⟨A2, n2, c2, hF.out, rfl, ?_⟩⟩
      · have hbb := HB.out
        rw [← hbb]
        simp [results, Tryd.results51, go_sem, e0, e1]
      · rw [sval_abs]
        exact two_own (OWN.out.mono (base' := w.heap.size + 1) (by simp)) (Nat.lt_succ_self _) _ _ |>.mono (Nat.le_succ _)
    | true =>
      by_cases h0 : 0 < tlen l
      · have h0' : (0 : Int) < (tlen l : Int) := by omega
        have hp : decide (0 < tlen l) = true := by simpa using h0
        clear h0
        go_enter Tryd.func51, Tryd.ntmps51
        go_wp2_with fail
        refine (trimX_any A n c l _ H1.out).mono ?_
        rintro e w1 ⟨rfl, rfl⟩
        go_wp2_with fail
        refine (clone_any A _ c _ _ t1.out).mono ?_
        rintro e w2 ⟨A2, n2, c2, rfl, own, k2⟩
        have hb := k2.heap (heap_alloc_new w (.cells #[.bool false, .slice none 0 0] 25)) (by simp)
        have r0 : w2.cell? ⟨w.heap.size, 0, none⟩ = some (.bool false) := by rw [cell_of_row w2 _ _ _ _ _ hb]; rfl
        have r1 : w2.cell? ⟨w.heap.size, 1, none⟩ = some (.slice none 0 0) := by rw [cell_of_row w2 _ _ _ _ _ hb]; rfl
        have f0 : w2.frozen? ⟨w.heap.size, 0, none⟩ = false := by simp [World.frozen?, hb]
        have f1 : w2.frozen? ⟨w.heap.size, 1, none⟩ = false := by simp [World.frozen?, hb]
        have OWN := Lib.hid own
        have HBX := Lib.hid hb
        have KK := Lib.hid (K.trans k2)
        clear own hb k2 K
        go_wp2_with fail
        obtain ⟨e0, e1⟩ := two_cells HBX.out (.bool true) (.slice A2 n2 c2)
        refine bodyPost_ret (v := .tuple #[numArg (decide (sval true l < 0)) A2 n2 c2, .int .i64 0]) ?_ rfl ⟨two_keep KK.out (Nat.le_refl _) _ _, .inr ⟨A2, n2, c2, hF.out, rfl, ?_⟩⟩
        · have hbb := HB.out
          rw [← hbb]
          simp [results, Tryd.results51, go_sem, e0, e1, hp]
        · rw [sval_abs]
          exact two_own (OWN.out.mono (base' := w.heap.size + 1) (by simp)) (Nat.lt_succ_self _) _ _ |>.mono (Nat.le_succ _)
      · have h0' : decide ((0 : Int) < (tlen l : Int)) = false := decide_eq_false (by omega)
        have hp : decide (0 < tlen l) = false := by simpa using h0
        clear h0
        go_enter Tryd.func51, Tryd.ntmps51
        go_wp2_with fail
        refine (trimX_any A n c l _ H1.out).mono ?_
        rintro e w1 ⟨rfl, rfl⟩
        go_wp2_with fail
        refine (clone_any A _ c _ _ t1.out).mono ?_
        rintro e w2 ⟨A2, n2, c2, rfl, own, k2⟩
        have hb := k2.heap (heap_alloc_new w (.cells #[.bool false, .slice none 0 0] 25)) (by simp)
        have r0 : w2.cell? ⟨w.heap.size, 0, none⟩ = some (.bool false) := by rw [cell_of_row w2 _ _ _ _ _ hb]; rfl
        have r1 : w2.cell? ⟨w.heap.size, 1, none⟩ = some (.slice none 0 0) := by rw [cell_of_row w2 _ _ _ _ _ hb]; rfl
        have f0 : w2.frozen? ⟨w.heap.size, 0, none⟩ = false := by simp [World.frozen?, hb]
        have f1 : w2.frozen? ⟨w.heap.size, 1, none⟩ = false := by simp [World.frozen?, hb]
        have OWN := Lib.hid own
        have HBX := Lib.hid hb
        have KK := Lib.hid (K.trans k2)
        clear own hb k2 K
        go_wp2_with fail
        obtain ⟨e0, e1⟩ := two_cells HBX.out (.bool false) (.slice A2 n2 c2)
        refine bodyPost_ret (v := .tuple #[numArg (decide (sval true l < 0)) A2 n2 c2, .int .i64 0]) ?_ rfl ⟨two_keep KK.out (Nat.le_refl _) _ _, .inr ⟨A2, n2, c2, hF.out, rfl, ?_⟩⟩
        · have hbb := HB.out
          rw [← hbb]
          simp [results, Tryd.results51, go_sem, e0, e1, hp]
        · rw [sval_abs]
          exact two_own (OWN.out.mono (base' := w.heap.size + 1) (by simp)) (Nat.lt_succ_self _) _ _ |>.mono (Nat.le_succ _)

set_option maxRecDepth 100000 in
set_option maxHeartbeats 1000000 in
theorem normX_any (neg : Bool) (A : Option Addr) (n c : Nat) (l : List Nat) (w : World) (h : LimbsX w A n c l) :
    Calls Tryd.prog 38 #[numArg neg A n c] w (ResPost (sval neg l) w) := by
  have K : Keep (fun _ => False) w ((w.alloc (.cells #[.bool neg, .slice A n c] 25)).alloc (.cells #[.bool false, .slice none 0 0] 25)) := ((Keep.refl _ _).alloc _).alloc _
  have h1 := h.keep0 K
  have hb : ((w.alloc (.cells #[.bool neg, .slice A n c] 25)).alloc (.cells #[.bool false, .slice none 0 0] 25)).heap[w.heap.size + 1]? = some (.cells #[.bool false, .slice none 0 0] 25 (0, 0)) := by
    have := heap_alloc_new (w.alloc (.cells #[.bool neg, .slice A n c] 25)) (.cells #[.bool false, .slice none 0 0] 25)
    rwa [World.size_alloc] at this
  have hz : w.heap.size + 1 < ((w.alloc (.cells #[.bool neg, .slice A n c] 25)).alloc (.cells #[.bool false, .slice none 0 0] 25)).heap.size := by simp
  have HR := Lib.hid (fun (e : Ending) (w2 : World) => res_two (x := sval neg l) (e := e) (w2 := w2) K (Nat.le_succ _) hz hb)
  clear hb hz h K
  go_enter Tryd.func38, Tryd.ntmps38
  go_wp2_with fail
  refine (madeX_any neg A n c l _ h1).mono ?_
  intro e w2 hres
  obtain ⟨ng, A2, n2, c2, f, rfl, c0, c1, f0, f1, e0, e1, P⟩ := HR.out _ _ hres
  have HP := Lib.hid P
  have HE := Lib.hid (And.intro e0 e1)
  clear hres P h1 e0 e1
  go_wp2_with fail
  refine bodyPost_ret (v := .tuple #[numArg ng A2 n2 c2, .int .i64 f]) ?_ rfl HP.out
  obtain ⟨e0, e1⟩ := HE.out
  simp [results, Tryd.results38, go_sem, e0, e1]
section
variable {H : Type} {enc : TypeId × Value → H} {w : World} {spare : Nat → Bool} {held : Bool}
theorem limbsX_of_ints {a : Addr} {len cap : Nat} {zs : List Int} (hl : len ≤ cap) (hlen : len ≤ zs.length) (hc : ∀ i, i < zs.length → w.cell? (a.add i) = some (.int .u32 (zs.getD i 0))) (hw : ∀ n ∈ zs, (Lit.int .u32 n).wf = true) (hm : len ≤ maxLen) :
    ∃ l, LimbsX w (some a) len cap l := by
  have wf : ∀ z ∈ zs, 0 ≤ z ∧ z ≤ 4294967295 := by
    intro z hz
    have := hw z hz
    simp [Lit.wf, IntKind.min, IntKind.max, IntKind.signed, IntKind.bits] at this
    omega
  refine ⟨(zs.take len).map Int.toNat, ⟨by simp; omega, fun j hj => ?_⟩, ?_, hl, hm⟩
  · obtain ⟨b, off, rfl, hcell⟩ := ints_at hc (by omega)
    have h1 := hcell j (by omega)
    refine ⟨b, off, rfl, World.block_lt_of_cell? w _ h1, ?_⟩
    rw [h1]
    have hj2 : j < zs.length := by omega
    have := wf (zs[j]) (List.getElem_mem hj2)
    have e1 : zs.getD j 0 = zs[j] := by simp [List.getD_eq_getElem?_getD, List.getElem?_eq_getElem hj2]
    have e2 : ((zs.take len).map Int.toNat).getD j 0 = (zs[j]).toNat := by
      rw [List.getD_eq_getElem?_getD, List.getElem?_map, List.getElem?_take, if_pos hj, List.getElem?_eq_getElem hj2]
      rfl
    rw [e1, e2]
    congr 2
    omega
  · intro x hx
    obtain ⟨z, hz, rfl⟩ := List.mem_map.1 hx
    have := wf z (List.mem_of_mem_take hz)
    unfold BB
    omega
set_option maxRecDepth 100000 in
theorem open_numX {r : Reach} {b0 : Nat} {v : Value} {d : DataW H} {p : List MemPlace} (hv : Value.okWide Tryd.prog w r b0 25 v) (h : DataW.Trod enc Tryd.prog w 0 spare held 25 v d p) :
    ∃ (neg : Bool) (A : Option Addr) (n c : Nat), v = numArg neg A n c ∧ ∃ l, LimbsX w A n c l := by
  obtain ⟨c0, c1, y0, y1, m, rfl, rfl, rfl, hy0, hy1⟩ := open_agg2 Tryd.underlying25 (by kernel_rfl) cells25 hv h
  obtain ⟨b, e0, _⟩ := DataW.trod_bool Tryd.underlying4 hy0
  simp only [List.cons.injEq, and_true] at e0
  subst e0
  rcases open_ints Tryd.underlying23 Tryd.underlying63 cells63 hy1 with ⟨e1, _⟩ | ⟨a, len, cap, zs, e1, _, hl, hm, hz, _, hc, hw⟩
  · simp only [List.cons.injEq, and_true] at e1
    subst e1
    exact ⟨b, none, 0, 0, rfl, [], ⟨RowAt.nil _ _ _, Low.nil _, Nat.le_refl _, by unfold maxLen; omega⟩⟩
  · simp only [List.cons.injEq, and_true] at e1
    subst e1
    exact ⟨b, some a, len, cap, rfl, limbsX_of_ints hl (by rw [hz]; split <;> omega) hc hw (by omega)⟩
end
end Go.Proofs.YtdfekphahdmffaaDoor
