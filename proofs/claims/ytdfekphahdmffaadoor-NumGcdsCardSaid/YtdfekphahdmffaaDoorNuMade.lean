/-
  num: slices.Clone at limbs, made, Norm, Neg, turned.
-/
import Derived.Test.YtdfekphahdmffaaDoorNuOrder
import Derived.ArgAppend
namespace Go.Proofs.YtdfekphahdmffaaDoor
open Go.RowKit

theorem info63 : (Tryd.prog.info? 63).map (fun i => (i.zero, i.size, i.bytes)) = some (some (.int .u32 0), 1, 4) := by kernel_rfl
/-- What a call hands back that has made limbs. -/
def OwnPost (l : List Nat) (w : World) (e : Ending) (w' : World) : Prop :=
  ∃ (A : Option Addr) (n c : Nat), e = .returned (.slice A n c) ∧ OwnR 63 .u32 w' w.heap.size A n c l ∧ Keep (fun _ => False) w w'
theorem RowAt.news {q : IntKind} {w : World} {ad : Addr} {n : Nat} {l : List Nat} (h : RowAt q w (some ad) n l) : ∀ j u, (l.map fun x : Nat => Value.int q (x : Int))[j]? = some u → w.cell? (ad.add j) = some u := by
  intro j u hu
  have hj : j < n := by
    rcases Nat.lt_or_ge j n with h' | h'
    · exact h'
    · rw [List.getElem?_eq_none (by rw [List.length_map, h.1]; exact h')] at hu; cases hu
  obtain ⟨b, off, e, hb, hc⟩ := h.2 j hj
  injection e with e
  subst e
  rw [Addr.add_mid, hc]
  rw [List.getElem?_map, List.getElem?_eq_getElem (by rw [h.1]; exact hj)] at hu
  rw [List.getD_eq_getElem?_getD, List.getElem?_eq_getElem (by rw [h.1]; exact hj)]
  simpa using hu
theorem own_slice {e : TypeId} {q : IntKind} {w : World} {base n : Nat} {v : Value} {l : List Nat} (h : w.ownsRow base e 1 v n (l.map fun x : Nat => Value.int q (x : Int))) : ∃ A c, v = .slice A n c ∧ OwnR e q w base A n c l := by
  rcases h.2 with ⟨rfl, rfl⟩ | ⟨g, cap, cur, rfl, _⟩
  · exact ⟨none, 0, rfl, h⟩
  · exact ⟨_, _, rfl, h⟩
theorem empty_own (w : World) (e : TypeId) : (w.alloc (.cells #[] e)).ownsRow w.heap.size e 1 (.slice (some ⟨w.heap.size, 0, none⟩) 0 0) 0 [] := by
  refine ⟨rfl, .inr ⟨w.heap.size, 0, #[], rfl, Nat.le_refl _, heap_alloc_new _ _, Nat.le_refl _, by unfold maxLen; omega, rfl, rfl⟩⟩

set_option maxHeartbeats 800000 in
theorem clone_any (A : Option Addr) (n c : Nat) (l : List Nat) (w : World) (h : LimbsAt w A n c l) :
    Calls Tryd.prog 53 #[.slice A n c] w (OwnPost l w) := by
  obtain ⟨i0, hi, hz0, hz1, hz2⟩ := info_parts info63
  rcases A with _ | ad
  · have hn : n = 0 := by
      rcases Nat.eq_zero_or_pos n with e | e
      · exact e
      · obtain ⟨b, off, e, _⟩ := h.lt e
        cases e
    subst hn
    obtain rfl : l = [] := List.eq_nil_of_length_eq_zero h.len
    have hnil : (binOp BinOp.eql 23 (Value.slice none 0 c) (Value.slice none 0 0)).run Tryd.prog w = .ok (.bool true) w := by kernel_rfl
    clear hi hz0 hz1 hz2
    go_enter Tryd.func53, Tryd.ntmps53
    go_wp2_with fail
    go_ret
    exact ⟨none, 0, 0, rfl, OwnR.nil _ _ _ _, Keep.refl _ _⟩
  · have hnil : (binOp BinOp.eql 23 (Value.slice (some ad) n c) (Value.slice none 0 0)).run Tryd.prog w = .ok (.bool false) w := by kernel_rfl
    have K : Keep (fun _ => False) w (w.alloc (.cells #[] 63)) := (Keep.refl _ _).alloc _
    have hm := h.max
    have hlen := h.len
    have HN := Lib.hid (h.keep0 K).row
    have HLEN := Lib.hid hlen
    clear hlen h
    go_enter Tryd.func53, Tryd.ntmps53
    go_wp2_with (at_builtin; refine wpList_append_own _ rfl (.tmp 5) (.tmp 6) 23 rfl w.heap.size 63 i0 (.int .u32 0) 1 4 Tryd.underlying23 hi hz0 hz1 hz2 rfl (by decide) _ _ _ rfl (empty_own w 63) ad n c (l.map fun x : Nat => Value.int .u32 (x : Int)) rfl (by rw [List.length_map, HLEN.out, Nat.mul_one]) HN.out.news ?a1 ?a2 ?a3 ?a4 ?_)
    case a1 =>
      intro u hu
      obtain ⟨y, _, rfl⟩ := List.mem_map.1 hu
      rfl
    case a2 => unfold maxLen; omega
    case a3 => omega
    case a4 => simp
    intro v' w' hown hgrow _
    have K2 : Keep (fun _ => False) w w' := K.grown hgrow (fun k hk => .inr (by simp [Value.ownBlock] at hk; omega))
    have hown2 : w'.ownsRow w.heap.size 63 1 v' n (l.map fun x : Nat => Value.int .u32 (x : Int)) := by simpa using hown
    obtain ⟨A', c', rfl, own⟩ := own_slice hown2
    clear hown hgrow hown2
    go_wp2_with fail
    go_ret
    exact ⟨A', n, c', rfl, own, K2⟩

/-- Does it fit into 48 limbs? -/
def Fits (x : Int) : Prop := (limbs x.natAbs).length ≤ 48
instance (x : Int) : Decidable (Fits x) := by unfold Fits; infer_instance
/-- What a function hands back that makes a number. -/
def ResPost (x : Int) (w : World) (e : Ending) (w' : World) : Prop :=
  Keep (fun _ => False) w w' ∧ ((¬ Fits x ∧ e = .returned (.tuple #[numArg false none 0 0, .int .i64 6])) ∨
    ∃ (A : Option Addr) (n c : Nat), Fits x ∧ e = .returned (.tuple #[numArg (decide (x < 0)) A n c, .int .i64 0]) ∧ OwnR 63 .u32 w' w.heap.size A n c (limbs x.natAbs))
theorem sval_abs (neg : Bool) (l : List Nat) : (sval neg l).natAbs = lval l := by unfold sval; cases neg <;> simp
theorem sval_limbs (x : Int) : sval (decide (x < 0)) (limbs x.natAbs) = x := by
  unfold sval lval limbs
  rw [val_digs BB2]
  by_cases h : x < 0
  · rw [decide_eq_true h, if_pos rfl]; omega
  · rw [decide_eq_false h]; simp; omega

/-- Both cells of a result are written. -/
theorem two_cells {w : World} {B : Nat} {p q : Value} {t : TypeId} (hb : w.heap[B]? = some (.cells #[p, q] t (0, 0))) (a b : Value) :
    ((w.setCell ⟨B, 0, none⟩ a).setCell ⟨B, 1, none⟩ b).cell? ⟨B, 0, none⟩ = some a ∧ ((w.setCell ⟨B, 0, none⟩ a).setCell ⟨B, 1, none⟩ b).cell? ⟨B, 1, none⟩ = some b := by
  have h : ((w.setCell ⟨B, 0, none⟩ a).setCell ⟨B, 1, none⟩ b).heap[B]? = some (.cells #[a, b] t (0, 0)) := by
    simp [World.setCell, Array.getElem?_modify, hb]
  exact ⟨by rw [cell_of_row _ _ _ _ _ _ h]; rfl, by rw [cell_of_row _ _ _ _ _ _ h]; rfl⟩
theorem two_keep {S : Nat → Prop} {w w2 : World} {B : Nat} (h : Keep S w w2) (hB : w.heap.size ≤ B) (a b : Value) : Keep S w ((w2.setCell ⟨B, 0, none⟩ a).setCell ⟨B, 1, none⟩ b) :=
  (h.setCell (p := ⟨B, 0, none⟩) (.inr hB) a).setCell (p := ⟨B, 1, none⟩) (.inr hB) b
theorem two_own {e : TypeId} {q : IntKind} {w2 : World} {base n c B : Nat} {A : Option Addr} {l : List Nat} (h : OwnR e q w2 base A n c l) (hB : B < base) (a b : Value) : OwnR e q ((w2.setCell ⟨B, 0, none⟩ a).setCell ⟨B, 1, none⟩ b) base A n c l := by
  refine h.keep (S := fun k => k = B) (((Keep.refl (fun k => k = B) w2).setCell (p := ⟨B, 0, none⟩) (.inl rfl) a).setCell (p := ⟨B, 1, none⟩) (.inl rfl) b) (fun k off e1 => ?_)
  have := (h.fresh k off e1).1
  show ¬ k = B
  omega

set_option maxRecDepth 100000 in
set_option maxHeartbeats 2000000 in
theorem made_any (neg : Bool) (A : Option Addr) (n c : Nat) (l : List Nat) (w : World) (h : LimbsAt w A n c l) :
    Calls Tryd.prog 51 #[.bool neg, .slice A n c] w (ResPost (sval neg l) w) := by
  have K : Keep (fun _ => False) w (w.alloc (.cells #[.bool false, .slice none 0 0] 25)) := (Keep.refl _ _).alloc _
  have h1 := h.keep0 K
  have H1 := Lib.hid h1
  have t1 := Lib.hid h1.trim
  have tm := h1.trim.max
  have hfit : Fits (sval neg l) ↔ tlen l ≤ 48 := by unfold Fits tlen; rw [sval_abs]
  have hneg : belowB neg l = (neg && decide (0 < tlen l)) := by
    unfold belowB
    congr 1
    exact decide_eq_decide.2 (tlen_pos l).symm
  have hbi := belowB_iff neg l
  rw [hneg] at hbi
  have HB := Lib.hid hbi
  have HF := Lib.hid hfit
  clear h h1 hfit hneg hbi
  by_cases hbig : 48 < tlen l
  · go_enter Tryd.func51, Tryd.ntmps51
    go_wp2_with fail
    refine (trim_any A n c l _ H1.out).mono ?_
    rintro e w1 ⟨rfl, rfl⟩
    go_wp2_with fail
    exact bodyPost_ret (v := .tuple #[numArg false none 0 0, .int .i64 6]) (by simp [results, Tryd.results51, go_sem]) rfl ⟨(Keep.refl _ _).alloc _, .inl ⟨fun f => by have := HF.out.1 f; omega, rfl⟩⟩
  · have hbig' : decide ((48 : Int) < (tlen l : Int)) = false := decide_eq_false (by omega)
    have hF := Lib.hid (HF.out.2 (by omega))
    clear hbig
    cases neg with
    | false =>
      go_enter Tryd.func51, Tryd.ntmps51
      go_wp2_with fail
      refine (trim_any A n c l _ H1.out).mono ?_
      rintro e w1 ⟨rfl, rfl⟩
      go_wp2_with fail
      refine (clone_any A _ c _ _ t1.out).mono ?_
      rintro e w2 ⟨A2, n2, c2, rfl, own, k2⟩
      have hb := k2.heap (heap_alloc_new w (.cells #[.bool false, .slice none 0 0] 25)) (by simp)
      have r0 : w2.cell? ⟨w.heap.size, 0, none⟩ = some (.bool false) := by rw [cell_of_row w2 _ _ _ _ _ hb]; rfl
      have r1 : w2.cell? ⟨w.heap.size, 1, none⟩ = some (.slice none 0 0) := by rw [cell_of_row w2 _ _ _ _ _ hb]; rfl
      have f0 : w2.frozen? ⟨w.heap.size, 0, none⟩ = false := by simp [World.frozen?, hb]
      have f1 : w2.frozen? ⟨w.heap.size, 1, none⟩ = false := by simp [World.frozen?, hb]
      have OWN := Lib.hid own
      have HBX := Lib.hid hb
      have KK := Lib.hid (K.trans k2)
      clear own hb k2 K
      go_wp2_with fail
      obtain ⟨e0, e1⟩ := two_cells HBX.out (.bool false) (.slice A2 n2 c2)
      refine bodyPost_ret (v := .tuple #[numArg (decide (sval false l < 0)) A2 n2 c2, .int .i64 0]) ?_ rfl ⟨two_keep KK.out (Nat.le_refl _) _ _, .inr ⟨A2, n2, c2, hF.out, rfl, ?_⟩⟩
      · have hbb := HB.out
        rw [← hbb]
        simp [results, Tryd.results51, go_sem, e0, e1]
      · rw [sval_abs]
        exact two_own (OWN.out.mono (base' := w.heap.size + 1) (by simp)) (Nat.lt_succ_self _) _ _ |>.mono (Nat.le_succ _)
    | true =>
      by_cases h0 : 0 < tlen l
      · have h0' : (0 : Int) < (tlen l : Int) := by omega
        have hp : decide (0 < tlen l) = true := by simpa using h0
        clear h0
        go_enter Tryd.func51, Tryd.ntmps51
        go_wp2_with fail
        refine (trim_any A n c l _ H1.out).mono ?_
        rintro e w1 ⟨rfl, rfl⟩
        go_wp2_with fail
        refine (clone_any A _ c _ _ t1.out).mono ?_
        rintro e w2 ⟨A2, n2, c2, rfl, own, k2⟩
        have hb := k2.heap (heap_alloc_new w (.cells #[.bool false, .slice none 0 0] 25)) (by simp)
        have r0 : w2.cell? ⟨w.heap.size, 0, none⟩ = some (.bool false) := by rw [cell_of_row w2 _ _ _ _ _ hb]; rfl
        have r1 : w2.cell? ⟨w.heap.size, 1, none⟩ = some (.slice none 0 0) := by rw [cell_of_row w2 _ _ _ _ _ hb]; rfl
        have f0 : w2.frozen? ⟨w.heap.size, 0, none⟩ = false := by simp [World.frozen?, hb]
        have f1 : w2.frozen? ⟨w.heap.size, 1, none⟩ = false := by simp [World.frozen?, hb]
        have OWN := Lib.hid own
        have HBX := Lib.hid hb
        have KK := Lib.hid (K.trans k2)
        clear own hb k2 K
        go_wp2_with fail
        obtain ⟨e0, e1⟩ := two_cells HBX.out (.bool true) (.slice A2 n2 c2)
        refine bodyPost_ret (v := .tuple #[numArg (decide (sval true l < 0)) A2 n2 c2, .int .i64 0]) ?_ rfl ⟨two_keep KK.out (Nat.le_refl _) _ _, .inr ⟨A2, n2, c2, hF.out, rfl, ?_⟩⟩
        · have hbb := HB.out
          rw [← hbb]
          simp [results, Tryd.results51, go_sem, e0, e1, hp]
        · rw [sval_abs]
          exact two_own (OWN.out.mono (base' := w.heap.size + 1) (by simp)) (Nat.lt_succ_self _) _ _ |>.mono (Nat.le_succ _)
      · have h0' : decide ((0 : Int) < (tlen l : Int)) = false := decide_eq_false (by omega)
        have hp : decide (0 < tlen l) = false := by simpa using h0
        clear h0
        go_enter Tryd.func51, Tryd.ntmps51
        go_wp2_with fail
        refine (trim_any A n c l _ H1.out).mono ?_
        rintro e w1 ⟨rfl, rfl⟩
        go_wp2_with fail
        refine (clone_any A _ c _ _ t1.out).mono ?_
        rintro e w2 ⟨A2, n2, c2, rfl, own, k2⟩
        have hb := k2.heap (heap_alloc_new w (.cells #[.bool false, .slice none 0 0] 25)) (by simp)
        have r0 : w2.cell? ⟨w.heap.size, 0, none⟩ = some (.bool false) := by rw [cell_of_row w2 _ _ _ _ _ hb]; rfl
        have r1 : w2.cell? ⟨w.heap.size, 1, none⟩ = some (.slice none 0 0) := by rw [cell_of_row w2 _ _ _ _ _ hb]; rfl
        have f0 : w2.frozen? ⟨w.heap.size, 0, none⟩ = false := by simp [World.frozen?, hb]
        have f1 : w2.frozen? ⟨w.heap.size, 1, none⟩ = false := by simp [World.frozen?, hb]
        have OWN := Lib.hid own
        have HBX := Lib.hid hb
        have KK := Lib.hid (K.trans k2)
        clear own hb k2 K
        go_wp2_with fail
        obtain ⟨e0, e1⟩ := two_cells HBX.out (.bool false) (.slice A2 n2 c2)
        refine bodyPost_ret (v := .tuple #[numArg (decide (sval true l < 0)) A2 n2 c2, .int .i64 0]) ?_ rfl ⟨two_keep KK.out (Nat.le_refl _) _ _, .inr ⟨A2, n2, c2, hF.out, rfl, ?_⟩⟩
        · have hbb := HB.out
          rw [← hbb]
          simp [results, Tryd.results51, go_sem, e0, e1, hp]
        · rw [sval_abs]
          exact two_own (OWN.out.mono (base' := w.heap.size + 1) (by simp)) (Nat.lt_succ_self _) _ _ |>.mono (Nat.le_succ _)

theorem Fits_iff (x : Int) : Fits x ↔ x.natAbs < BB ^ 48 := digs_len_le BB2 _ _
/-- A number that was made, as an argument. -/
theorem OwnR.num {w : World} {base n c : Nat} {A : Option Addr} {x : Int} (h : OwnR 63 .u32 w base A n c (limbs x.natAbs)) (hf : Fits x) : LimbsAt w A n c (limbs x.natAbs) := by
  have hl := h.len
  unfold Fits at hf
  exact h.toLimbs (digs_low BB2 _) (by omega)
/-- What is handed on out of a function that hands on what made answers. -/
theorem ResPost.mono {x : Int} {w w1 w2 : World} {e : Ending} (h : ResPost x w1 e w2) (k : Keep (fun _ => False) w w1) : ResPost x w e w2 := by
  obtain ⟨k2, h⟩ := h
  refine ⟨k.trans k2, ?_⟩
  rcases h with h | ⟨A, n, c, hf, he, own⟩
  · exact .inl h
  · exact .inr ⟨A, n, c, hf, he, own.mono k.size⟩
/-- The same, written into the result's block. -/
theorem res_two {x : Int} {w w1 w2 : World} {B : Nat} (k : Keep (fun _ => False) w w1) (hB : w.heap.size ≤ B) (hB1 : B < w1.heap.size) {p q : Value} (hb : w1.heap[B]? = some (.cells #[p, q] 25 (0, 0))) {e : Ending} (h : ResPost x w1 e w2) :
    ∃ (neg : Bool) (A : Option Addr) (n c : Nat) (f : Int), e = .returned (.tuple #[numArg neg A n c, .int .i64 f]) ∧
      w2.cell? ⟨B, 0, none⟩ = some p ∧ w2.cell? ⟨B, 1, none⟩ = some q ∧ w2.frozen? ⟨B, 0, none⟩ = false ∧ w2.frozen? ⟨B, 1, none⟩ = false ∧
      ((w2.setCell ⟨B, 0, none⟩ (.bool neg)).setCell ⟨B, 1, none⟩ (.slice A n c)).cell? ⟨B, 0, none⟩ = some (.bool neg) ∧
      ((w2.setCell ⟨B, 0, none⟩ (.bool neg)).setCell ⟨B, 1, none⟩ (.slice A n c)).cell? ⟨B, 1, none⟩ = some (.slice A n c) ∧
      ResPost x w (.returned (.tuple #[numArg neg A n c, .int .i64 f])) ((w2.setCell ⟨B, 0, none⟩ (.bool neg)).setCell ⟨B, 1, none⟩ (.slice A n c)) := by
  obtain ⟨k2, h⟩ := h
  have hb2 := k2.heap hb (by simp)
  have c0 : w2.cell? ⟨B, 0, none⟩ = some p := by rw [cell_of_row w2 _ _ _ _ _ hb2]; rfl
  have c1 : w2.cell? ⟨B, 1, none⟩ = some q := by rw [cell_of_row w2 _ _ _ _ _ hb2]; rfl
  have f0 : w2.frozen? ⟨B, 0, none⟩ = false := by simp [World.frozen?, hb2]
  have f1 : w2.frozen? ⟨B, 1, none⟩ = false := by simp [World.frozen?, hb2]
  rcases h with ⟨hn, rfl⟩ | ⟨A, n, c, hf, rfl, own⟩
  · obtain ⟨e0, e1⟩ := two_cells hb2 (.bool false) (.slice none 0 0)
    exact ⟨false, none, 0, 0, 6, rfl, c0, c1, f0, f1, e0, e1, two_keep (k.trans k2) hB _ _, .inl ⟨hn, rfl⟩⟩
  · obtain ⟨e0, e1⟩ := two_cells hb2 (.bool (decide (x < 0))) (.slice A n c)
    exact ⟨_, A, n, c, 0, rfl, c0, c1, f0, f1, e0, e1, two_keep (k.trans k2) hB _ _, .inr ⟨A, n, c, hf, rfl, (two_own own hB1 _ _).mono k.size⟩⟩

set_option maxRecDepth 100000 in
set_option maxHeartbeats 1000000 in
theorem norm_any (neg : Bool) (A : Option Addr) (n c : Nat) (l : List Nat) (w : World) (h : LimbsAt w A n c l) :
    Calls Tryd.prog 38 #[numArg neg A n c] w (ResPost (sval neg l) w) := by
  have K : Keep (fun _ => False) w ((w.alloc (.cells #[.bool neg, .slice A n c] 25)).alloc (.cells #[.bool false, .slice none 0 0] 25)) := ((Keep.refl _ _).alloc _).alloc _
  have h1 := h.keep0 K
  have hb : ((w.alloc (.cells #[.bool neg, .slice A n c] 25)).alloc (.cells #[.bool false, .slice none 0 0] 25)).heap[w.heap.size + 1]? = some (.cells #[.bool false, .slice none 0 0] 25 (0, 0)) := by
    have := heap_alloc_new (w.alloc (.cells #[.bool neg, .slice A n c] 25)) (.cells #[.bool false, .slice none 0 0] 25)
    rwa [World.size_alloc] at this
  have hz : w.heap.size + 1 < ((w.alloc (.cells #[.bool neg, .slice A n c] 25)).alloc (.cells #[.bool false, .slice none 0 0] 25)).heap.size := by simp
  have HR := Lib.hid (fun (e : Ending) (w2 : World) => res_two (x := sval neg l) (e := e) (w2 := w2) K (Nat.le_succ _) hz hb)
  clear hb hz h K
  go_enter Tryd.func38, Tryd.ntmps38
  go_wp2_with fail
  refine (made_any neg A n c l _ h1).mono ?_
  intro e w2 hres
  obtain ⟨ng, A2, n2, c2, f, rfl, c0, c1, f0, f1, e0, e1, P⟩ := HR.out _ _ hres
  have HP := Lib.hid P
  have HE := Lib.hid (And.intro e0 e1)
  clear hres P h1 e0 e1
  go_wp2_with fail
  refine bodyPost_ret (v := .tuple #[numArg ng A2 n2 c2, .int .i64 f]) ?_ rfl HP.out
  obtain ⟨e0, e1⟩ := HE.out
  simp [results, Tryd.results38, go_sem, e0, e1]
end Go.Proofs.YtdfekphahdmffaaDoor
