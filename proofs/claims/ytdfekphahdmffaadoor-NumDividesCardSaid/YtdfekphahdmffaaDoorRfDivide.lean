/-
  The document's Divide.
-/
import Derived.Test.YtdfekphahdmffaaDoorRfTurn
import Derived.Test.YtdfekphahdmffaaDoorRfParts
import Derived.Test.YtdfekphahdmffaaDoorDivL
namespace Go.Proofs.YtdfekphahdmffaaDoor
open Go.RowKit

theorem sgn_quo {x y : Int} {p q : Bool} (hp : p = decide (x < 0)) (hq : q = decide (y < 0)) : sgn (!(p == q)) (x.natAbs / y.natAbs) = x.tdiv y := by
  obtain ⟨h1, h2⟩ := neg_ne hp hq
  conv => rhs; rw [← h1, ← h2]
  generalize x.natAbs = a
  generalize y.natAbs = b
  unfold sgn
  cases p <;> cases q <;> simp [Int.natCast_ediv, Int.neg_tdiv, Int.tdiv_neg]
theorem sgn_rem {x y : Int} {p q : Bool} (hp : p = decide (x < 0)) (hq : q = decide (y < 0)) : sgn p (x.natAbs % y.natAbs) = x.tmod y := by
  obtain ⟨h1, h2⟩ := neg_ne hp hq
  conv => rhs; rw [← h1, ← h2]
  generalize x.natAbs = a
  generalize y.natAbs = b
  unfold sgn
  cases p <;> cases q <;> simp [Int.neg_tmod, Int.tmod_neg] <;> exact (Int.tmod_eq_emod_of_nonneg (Int.natCast_nonneg _)).symm
theorem fmod_add {x y : Int} {p q : Bool} (hp : p = decide (x < 0)) (hq : q = decide (y < 0)) (hy : y ≠ 0) : (x.tmod y ≠ 0 → p ≠ q → x.fmod y = x.tmod y + y) ∧ (x.tmod y = 0 ∨ p = q → x.fmod y = x.tmod y) := by
  have e0 := Int.emod_nonneg x hy
  have e1 := Int.emod_lt x hy
  have e1 : x % y < (y.natAbs : Int) := by omega
  have h1 := tm_emod x y
  have h2 := fm_emod x y
  subst hp hq
  generalize x.tmod y = t at *
  generalize x.fmod y = f at *
  generalize x % y = e at *
  refine ⟨fun ht hpq => ?_, fun h => ?_⟩
  · by_cases hx : x < 0 <;> by_cases hy2 : y < 0 <;> simp [hx, hy2] at hpq <;> omega
  · by_cases hx : x < 0 <;> by_cases hy2 : y < 0 <;> simp [hx, hy2] at h <;> omega
def DivPost (zq zr zm : Bool) (x y : Int) (w : World) (e : Ending) (w' : World) : Prop :=
  ∃ (Q : Option Addr) (nq cq : Nat) (R : Option Addr) (nr cr : Nat) (M : Option Addr) (nm cm : Nat), e = .returned (.tuple #[numArg zq Q nq cq, numArg zr R nr cr, numArg zm M nm cm]) ∧
    BitsAt w' Q nq cq (bits2 (x.tdiv y).natAbs) ∧ BitsAt w' R nr cr (bits2 (x.tmod y).natAbs) ∧ BitsAt w' M nm cm (bits2 (x.fmod y).natAbs) ∧ Keep (fun _ => False) w w'
theorem env34 (w : World) (u v u2 v2 : Value) : EnvV w [] [] [(w.heap.size + 1 + 1 + 1 + 1, .bool false, .slice none 0 0), (w.heap.size + 1 + 1 + 1, .bool false, .slice none 0 0), (w.heap.size + 1 + 1, .bool false, .slice none 0 0), (w.heap.size + 1, u2, v2), (w.heap.size, u, v)] [] (((((w.alloc (.cells #[u, v] 34)).alloc (.cells #[u2, v2] 34)).alloc (.cells #[.bool false, .slice none 0 0] 34)).alloc (.cells #[.bool false, .slice none 0 0] 34)).alloc (.cells #[.bool false, .slice none 0 0] 34)) := by
  have := (((((EnvV.start (Env.start w)).boxV u v).boxV u2 v2).boxV (.bool false) (.slice none 0 0)).boxV (.bool false) (.slice none 0 0)).boxV (.bool false) (.slice none 0 0)
  simpa only [World.size_alloc] using this

set_option maxRecDepth 100000 in
set_option maxHeartbeats 8000000 in
theorem divide_any (x y : Int) (p q zq zr zm : Bool) (A : Option Addr) (n c : Nat) (A' : Option Addr) (n' c' : Nat) (w : World) (hp : p = decide (x < 0)) (hq : q = decide (y < 0)) (hzq : zq = decide (x.tdiv y < 0)) (hzr : zr = decide (x.tmod y < 0)) (hzm : zm = decide (x.fmod y < 0)) (h : BitsAt w A n c (bits2 x.natAbs)) (h' : BitsAt w A' n' c' (bits2 y.natAbs)) (hy : y ≠ 0) (hm : n ≤ 3000) (hm' : n' ≤ 3000) :
    Calls Tryd.prog 32 #[numArg p A n c, numArg q A' n' c'] w (DivPost zq zr zm x y w) := by
  have X0 := env34 w (.bool p) (.slice A n c) (.bool q) (.slice A' n' c')
  have HX := Lib.hid ((X0.bits (h'.keep0 X0.k)).bits (h.keep0 X0.k))
  have HP := Lib.hid (And.intro hp hq)
  have HZ := Lib.hid (And.intro hzq (And.intro hzr hzm))
  have HY := Lib.hid hy
  have HYP := Lib.hid (show 0 < y.natAbs from by omega)
  have HSQ := Lib.hid (sgn_quo hp hq)
  have HSR := Lib.hid (sgn_rem hp hq)
  have HFM := Lib.hid (fmod_add hp hq hy)
  have HNQ := Lib.hid (Int.natAbs_tdiv x y)
  have HNR := Lib.hid (Int.natAbs_tmod x y)
  have HRL := Lib.hid (show (bits2 (x.tmod y).natAbs).length = 0 ↔ x.tmod y = 0 from by
    constructor
    · intro e
      have := digs_nil two2 (List.eq_nil_of_length_eq_zero e)
      omega
    · intro e
      rw [e]
      unfold bits2
      rw [show (0 : Int).natAbs = 0 from rfl, digs_zero]
      rfl)
  have HRM := Lib.hid (show (bits2 (x.tmod y).natAbs).length ≤ 3000 from by
    rw [Int.natAbs_tmod]
    exact Nat.le_trans (blen_mono (Nat.mod_le _ _)) (by rw [h.len]; exact hm))
  clear X0 h h' hp hq hzq hzr hzm hy
  obtain ⟨E, hE⟩ : ∃ E : Bool, E = (p == q) := ⟨_, rfl⟩
  have HE := Lib.hid hE
  obtain ⟨sq, hsq⟩ : ∃ s : Bool, s = (!(p == q)) := ⟨_, rfl⟩
  have HSGN := Lib.hid hsq.symm
  have HZQ := Lib.hid (show zq = decide (sgn sq (x.natAbs / y.natAbs) < 0) from by rw [hsq, HSQ.out]; exact HZ.out.1)
  clear hsq hE
  by_cases hzr0 : x.tmod y = 0
  · have HZR := Lib.hid hzr0
    have HFE := Lib.hid (HFM.out.2 (.inl hzr0))
    have HZME := Lib.hid (show zm = zr from by rw [HZ.out.2.2, HZ.out.2.1, HFE.out])
    clear hzr0
    go_enter Tryd.func32, Tryd.ntmps32
    go_wp2_with fail
    generalize hB0 : w.heap.size = B0 at HX ⊢
    have HSZ := Lib.hid (Nat.le_of_eq hB0)
    clear hB0
    generalize ((((w.alloc (.cells #[.bool p, .slice A n c] 34)).alloc (.cells #[.bool q, .slice A' n' c'] 34)).alloc (.cells #[.bool false, .slice none 0 0] 34)).alloc (.cells #[.bool false, .slice none 0 0] 34)).alloc (.cells #[.bool false, .slice none 0 0] 34) = w1 at HX ⊢
    obtain ⟨o0, o1, ol⟩ := HX.out.cellsV (.head _)
    obtain ⟨m0, m1, ml⟩ := HX.out.cellsV (.tail _ (.head _))
    obtain ⟨l0, l1, ll⟩ := HX.out.cellsV (.tail _ (.tail _ (.head _)))
    obtain ⟨j0, j1, jl⟩ := HX.out.cellsV (.tail _ (.tail _ (.tail _ (.head _))))
    obtain ⟨i0, i1, il⟩ := HX.out.cellsV (.tail _ (.tail _ (.tail _ (.tail _ (.head _)))))
    go_wp2_with fail
    clear o0 o1 ol m0 m1 ml l0 l1 ll j0 j1 jl i0 i1 il
    refine (parts_any x.natAbs y.natAbs A n c A' n' c' _ (HX.out.b _ (.head _)) (HX.out.b _ (.tail _ (.head _))) HYP.out (by omega) (by omega)).mono ?_
    rintro e w2 ⟨Q, nq, cq, R, nr, cr, rfl, oq, orr, k2⟩
    have hnq := oq.len
    have hnr := orr.len
    have hq1 : nq ≤ 3000 := by rw [← hnq]; exact Nat.le_trans (blen_mono (Nat.div_le_self _ _)) (by have := (HX.out.b _ (.head _)).len; simp only at this; omega)
    have hr1 : nr ≤ 3000 := by rw [← hnr, ← show (x.tmod y).natAbs = x.natAbs % y.natAbs from HNR.out]; exact HRM.out
    have HX1 := Lib.hid (((HX.out.keep k2).bits (oq.bits (by omega))).bits (orr.bits (by omega)))
    clear HX k2 oq orr
    have HX := Lib.hid HX1.out
    clear HX1
    have HNQL := Lib.hid hnq
    have HNRL := Lib.hid hnr
    clear hnq hnr
    obtain ⟨o0, o1, ol⟩ := HX.out.cellsV (.head _)
    obtain ⟨m0, m1, ml⟩ := HX.out.cellsV (.tail _ (.head _))
    obtain ⟨l0, l1, ll⟩ := HX.out.cellsV (.tail _ (.tail _ (.head _)))
    obtain ⟨j0, j1, jl⟩ := HX.out.cellsV (.tail _ (.tail _ (.tail _ (.head _))))
    obtain ⟨i0, i1, il⟩ := HX.out.cellsV (.tail _ (.tail _ (.tail _ (.tail _ (.head _)))))
    try dsimp only
    go_wp2_with fail
    clear o0 o1 ol m0 m1 ml l0 l1 ll j0 j1 jl i0 i1 il
    refine (value_b (z := zr) (neg := p) (HX.out.b _ (.head _)) (by rw [HSR.out]; exact HZ.out.2.1)).mono ?_
    rintro e w3 ⟨n3, rfl, b3, k3⟩
    obtain rfl : n3 = nr := by rw [← b3.len, HNRL.out]
    have HX1 := Lib.hid ((HX.out.keep k3).bits b3)
    clear HX k3 b3
    have HX := Lib.hid HX1.out
    clear HX1
    obtain ⟨o0, o1, ol⟩ := HX.out.cellsV (.head _)
    have HLT := Lib.hid ol
    clear o0 o1 ol
    have h9 := HNRL.out
    have h8 := HRL.out
    rw [show (x.tmod y).natAbs = x.natAbs % y.natAbs from HNR.out] at h8
    have hlen : decide ((0 : Int) < (n3 : Int)) = false := decide_eq_false (by have := HZR.out; omega)
    have hlen2 : decide (0 < n3) = false := decide_eq_false (by have := HZR.out; omega)
    have hlen3 : ¬ 0 < n3 := by have := HZR.out; omega
    clear h8 h9
    obtain ⟨o0, o1, ol⟩ := HX.out.cellsV (.head _)
    obtain ⟨m0, m1, ml⟩ := HX.out.cellsV (.tail _ (.head _))
    obtain ⟨l0, l1, ll⟩ := HX.out.cellsV (.tail _ (.tail _ (.head _)))
    obtain ⟨j0, j1, jl⟩ := HX.out.cellsV (.tail _ (.tail _ (.tail _ (.head _))))
    obtain ⟨i0, i1, il⟩ := HX.out.cellsV (.tail _ (.tail _ (.tail _ (.tail _ (.head _)))))
    try dsimp only
    go_wp2_with fail
    clear o0 o1 ol m0 m1 ml l0 l1 ll j0 j1 jl i0 i1 il
    clear hlen hlen2 hlen3
    have HX1 := Lib.hid ((HX.out.boxV (.bool zr) (.slice R n3 cr)).boxV (.bool zr) (.slice R n3 cr))
    clear HX
    have HX := Lib.hid HX1.out
    clear HX1
    rw [World.size_alloc] at HX
    generalize w3.heap.size = Bt at HX HLT ⊢
    generalize (w3.alloc (.cells #[.bool zr, .slice R n3 cr] 34)).alloc (.cells #[.bool zr, .slice R n3 cr] 34) = w4 at HX ⊢
    have Kd : Keep (fun _ => False) w4 w4.drew := (Keep.refl _ _).drew
    have HX1 := Lib.hid (HX.out.keep Kd)
    clear HX Kd
    have HX := Lib.hid HX1.out
    clear HX1
    refine wp_region_held_drew (S := fun w' => w'.cell? ⟨B0, 0, none⟩ = some (.bool p) ∧ w'.cell? ⟨B0, 1, none⟩ = some (.slice A n c) ∧ w'.cell? ⟨B0 + 1, 0, none⟩ = some (.bool q) ∧ w'.cell? ⟨B0 + 1, 1, none⟩ = some (.slice A' n' c') ∧ w'.cell? ⟨Bt, 0, none⟩ = some (.bool zr) ∧ w'.cell? ⟨Bt, 1, none⟩ = some (.slice R n3 cr) ∧ w'.cell? ⟨Bt + 1, 0, none⟩ = some (.bool zr) ∧ w'.cell? ⟨Bt + 1, 1, none⟩ = some (.slice R n3 cr)) (by kernel_rfl) (by
        obtain ⟨i0, i1, _⟩ := HX.out.cellsV (.tail _ (.tail _ (.tail _ (.tail _ (.tail _ (.tail _ (.head _)))))))
        obtain ⟨j0, j1, _⟩ := HX.out.cellsV (.tail _ (.tail _ (.tail _ (.tail _ (.tail _ (.head _))))))
        obtain ⟨t0, t1, _⟩ := HX.out.cellsV (.tail _ (.head _))
        obtain ⟨u0, u1, _⟩ := HX.out.cellsV (.head _)
        exact ⟨i0, i1, j0, j1, t0, t1, u0, u1⟩) (fun hHeld => ?_)
    generalize w4.drew = wd at HX hHeld ⊢
    refine wpAnyH_take (i := 0) (oi := _) (v := ?_) rfl (by kernel_rfl) (by kernel_rfl) (by kernel_rfl) (fun _ _ _ h => h) (Or.inl ⟨by rfl, ?_⟩) (by assumption) ?_
    rotate_left
    · (intro w hSw; (try dsimp only at hSw); go_simp)
      all_goals with_reducible rfl
    refine wpAnyH_take (i := 1) (oi := _) (v := ?_) rfl (by kernel_rfl) (by kernel_rfl) (by kernel_rfl) (fun _ _ _ h => h) (Or.inl ⟨by rfl, ?_⟩) (by assumption) ?_
    rotate_left
    · (intro w hSw; (try dsimp only at hSw); go_simp)
      all_goals with_reducible rfl
    try dsimp only [List.getElem_toArray, List.getElem_cons_succ, List.getElem_cons_zero]
    try simp only [Act.put, List.setIfInBounds_toArray, List.set_cons_zero, List.set_cons_succ]
    refine wpAnyH_take (i := 2) (oi := _) (v := ?_) rfl (by kernel_rfl) (by kernel_rfl) (by kernel_rfl) (fun _ _ _ h => h) (Or.inl ⟨by rfl, ?_⟩) (by assumption) ?_
    rotate_left
    · (intro w hSw; (try dsimp only at hSw); go_simp)
      all_goals with_reducible rfl
    refine wpAnyH_take (i := 3) (oi := _) (v := ?_) rfl (by kernel_rfl) (by kernel_rfl) (by kernel_rfl) (fun _ _ _ h => h) (Or.inl ⟨by rfl, ?_⟩) (by assumption) ?_
    rotate_left
    · (intro w hSw; (try dsimp only at hSw); go_simp)
      all_goals with_reducible rfl
    try dsimp only [List.getElem_toArray, List.getElem_cons_succ, List.getElem_cons_zero]
    try simp only [Act.put, List.setIfInBounds_toArray, List.set_cons_zero, List.set_cons_succ]
    refine wpAnyH_take (i := 4) (oi := _) (v := ?_) rfl (by kernel_rfl) (by kernel_rfl) (by kernel_rfl) (fun _ _ _ h => h) (Or.inl ⟨by rfl, ?_⟩) (by assumption) ?_
    rotate_left
    · (intro w hSw; (try dsimp only at hSw); go_simp)
      all_goals with_reducible rfl
    refine wpAnyH_take (i := 5) (oi := _) (v := ?_) rfl (by kernel_rfl) (by kernel_rfl) (by kernel_rfl) (fun _ _ _ h => h) (Or.inl ⟨by rfl, ?_⟩) (by assumption) ?_
    rotate_left
    · (intro w hSw; (try dsimp only at hSw); go_simp)
      all_goals with_reducible rfl
    try dsimp only [List.getElem_toArray, List.getElem_cons_succ, List.getElem_cons_zero]
    try simp only [Act.put, List.setIfInBounds_toArray, List.set_cons_zero, List.set_cons_succ]
    refine wpAnyH_take (i := 7) (oi := _) (v := ?_) rfl (by kernel_rfl) (by kernel_rfl) (by kernel_rfl) (fun _ _ _ h => h) (Or.inl ⟨by rfl, ?_⟩) (by assumption) ?_
    rotate_left
    · (intro w hSw; (try dsimp only at hSw); go_simp)
      all_goals with_reducible rfl
    refine wpAnyH_take (i := 8) (oi := _) (v := ?_) rfl (by kernel_rfl) (by kernel_rfl) (by kernel_rfl) (fun _ _ _ h => h) (Or.inl ⟨by rfl, ?_⟩) (by assumption) ?_
    rotate_left
    · (intro w hSw; (try dsimp only at hSw); go_simp)
      all_goals with_reducible rfl
    try dsimp only [List.getElem_toArray, List.getElem_cons_succ, List.getElem_cons_zero]
    try simp only [Act.put, List.setIfInBounds_toArray, List.set_cons_zero, List.set_cons_succ]
    try dsimp only [List.getElem_toArray, List.getElem_cons_succ, List.getElem_cons_zero]
    try simp only [Act.put, List.setIfInBounds_toArray, List.set_cons_zero, List.set_cons_succ]
    refine wpAnyH_ready (rs := [6]) (by kernel_rfl) (by simp) ?_
    refine AllReadyH.cons (o := _) rfl (fun K hK => ?_) AllReadyH.nil
    go_simp
    rw [HSGN.out]
    refine (value_b (z := zq) (neg := sq) (HX.out.b _ (.tail _ (.tail _ (.head _)))) HZQ.out).mono ?_
    rintro e w7 ⟨n7, rfl, b7, k7⟩
    have HX1 := Lib.hid ((HX.out.keep k7).bits b7)
    clear HX k7 b7
    have HX := Lib.hid HX1.out
    clear HX1
    try dsimp only
    go_wp2_with fail
    refine hK.out _ _ (by
        obtain ⟨i0, i1, _⟩ := HX.out.cellsV (.tail _ (.tail _ (.tail _ (.tail _ (.tail _ (.tail _ (.head _)))))))
        obtain ⟨j0, j1, _⟩ := HX.out.cellsV (.tail _ (.tail _ (.tail _ (.tail _ (.tail _ (.head _))))))
        obtain ⟨t0, t1, _⟩ := HX.out.cellsV (.tail _ (.head _))
        obtain ⟨u0, u1, _⟩ := HX.out.cellsV (.head _)
        exact ⟨i0, i1, j0, j1, t0, t1, u0, u1⟩) (fun hHeld => ?_)
    clear hK K
    try dsimp only [List.getElem_toArray, List.getElem_cons_succ, List.getElem_cons_zero]
    try simp only [Act.put, List.setIfInBounds_toArray, List.set_cons_zero, List.set_cons_succ]
    refine wpAnyH_ready (rs := [9]) (by kernel_rfl) (by simp) ?_
    refine AllReadyH.cons (o := _) rfl (fun K hK => ?_) AllReadyH.nil
    obtain ⟨d0, d1, dl⟩ := HX.out.cellsV (.tail _ (.tail _ (.tail _ (.tail _ (.head _)))))
    obtain ⟨f0, f1⟩ := HX.out.frozenV (.tail _ (.tail _ (.tail _ (.tail _ (.head _)))))
    go_simp
    clear d0 d1 dl f0 f1
    have HX1 := Lib.hid (HX.out.setV (vs' := [(Bt + 1, .bool zr, .slice R n3 cr), (Bt, .bool zr, .slice R n3 cr), (B0 + 1 + 1 + 1 + 1, .bool false, .slice none 0 0), (B0 + 1 + 1 + 1, .bool false, .slice none 0 0), (B0 + 1, .bool q, .slice A' n' c'), (B0, .bool p, .slice A n c)]) (.tail _ (.tail _ (.tail _ (.tail _ (.head _))))) (by have := HSZ.out; have := HLT.out; omega) (List.forall_mem_cons.2 ⟨⟨(.head _), by dsimp only; have := HLT.out; omega⟩, (List.forall_mem_cons.2 ⟨⟨(.tail _ (.head _)), by dsimp only; have := HLT.out; omega⟩, (List.forall_mem_cons.2 ⟨⟨(.tail _ (.tail _ (.head _))), by dsimp only; have := HLT.out; omega⟩, (List.forall_mem_cons.2 ⟨⟨(.tail _ (.tail _ (.tail _ (.head _)))), by dsimp only; have := HLT.out; omega⟩, (List.forall_mem_cons.2 ⟨⟨(.tail _ (.tail _ (.tail _ (.tail _ (.tail _ (.head _)))))), by dsimp only; have := HLT.out; omega⟩, (List.forall_mem_cons.2 ⟨⟨(.tail _ (.tail _ (.tail _ (.tail _ (.tail _ (.tail _ (.head _))))))), by dsimp only; have := HLT.out; omega⟩, (fun _ h => by cases h)⟩)⟩)⟩)⟩)⟩)⟩) (.bool zq) (.slice Q n7 cq))
    clear HX
    have HX := Lib.hid HX1.out
    clear HX1
    refine hK.out _ _ (by
        obtain ⟨i0, i1, _⟩ := HX.out.cellsV (.tail _ (.tail _ (.tail _ (.tail _ (.tail _ (.tail _ (.head _)))))))
        obtain ⟨j0, j1, _⟩ := HX.out.cellsV (.tail _ (.tail _ (.tail _ (.tail _ (.tail _ (.head _))))))
        obtain ⟨t0, t1, _⟩ := HX.out.cellsV (.tail _ (.tail _ (.head _)))
        obtain ⟨u0, u1, _⟩ := HX.out.cellsV (.tail _ (.head _))
        exact ⟨i0, i1, j0, j1, t0, t1, u0, u1⟩) (fun hHeld => ?_)
    clear hK K
    generalize (w7.setCell ⟨B0 + 1 + 1, 0, none⟩ (.bool zq)).setCell ⟨B0 + 1 + 1, 1, none⟩ (.slice Q n7 cq) = w8 at HX hHeld ⊢
    try dsimp only [List.getElem_toArray, List.getElem_cons_succ, List.getElem_cons_zero]
    try simp only [Act.put, List.setIfInBounds_toArray, List.set_cons_zero, List.set_cons_succ]
    refine wpAnyH_ready (rs := [10]) (by kernel_rfl) (by simp) ?_
    refine AllReadyH.cons (o := _) rfl (fun K hK => ?_) AllReadyH.nil
    obtain ⟨d0, d1, dl⟩ := HX.out.cellsV (.tail _ (.tail _ (.tail _ (.tail _ (.head _)))))
    obtain ⟨f0, f1⟩ := HX.out.frozenV (.tail _ (.tail _ (.tail _ (.tail _ (.head _)))))
    go_simp
    clear d0 d1 dl f0 f1
    have HX1 := Lib.hid (HX.out.setV (vs' := [(B0 + 1 + 1, .bool zq, .slice Q n7 cq), (Bt + 1, .bool zr, .slice R n3 cr), (Bt, .bool zr, .slice R n3 cr), (B0 + 1 + 1 + 1 + 1, .bool false, .slice none 0 0), (B0 + 1, .bool q, .slice A' n' c'), (B0, .bool p, .slice A n c)]) (.tail _ (.tail _ (.tail _ (.tail _ (.head _))))) (by have := HSZ.out; have := HLT.out; omega) (List.forall_mem_cons.2 ⟨⟨(.head _), by dsimp only; have := HLT.out; omega⟩, (List.forall_mem_cons.2 ⟨⟨(.tail _ (.head _)), by dsimp only; have := HLT.out; omega⟩, (List.forall_mem_cons.2 ⟨⟨(.tail _ (.tail _ (.head _))), by dsimp only; have := HLT.out; omega⟩, (List.forall_mem_cons.2 ⟨⟨(.tail _ (.tail _ (.tail _ (.head _)))), by dsimp only; have := HLT.out; omega⟩, (List.forall_mem_cons.2 ⟨⟨(.tail _ (.tail _ (.tail _ (.tail _ (.tail _ (.head _)))))), by dsimp only; have := HLT.out; omega⟩, (List.forall_mem_cons.2 ⟨⟨(.tail _ (.tail _ (.tail _ (.tail _ (.tail _ (.tail _ (.head _))))))), by dsimp only; have := HLT.out; omega⟩, (fun _ h => by cases h)⟩)⟩)⟩)⟩)⟩)⟩) (.bool zr) (.slice R n3 cr))
    clear HX
    have HX := Lib.hid HX1.out
    clear HX1
    refine hK.out _ _ (by
        obtain ⟨i0, i1, _⟩ := HX.out.cellsV (.tail _ (.tail _ (.tail _ (.tail _ (.tail _ (.tail _ (.head _)))))))
        obtain ⟨j0, j1, _⟩ := HX.out.cellsV (.tail _ (.tail _ (.tail _ (.tail _ (.tail _ (.head _))))))
        obtain ⟨t0, t1, _⟩ := HX.out.cellsV (.tail _ (.tail _ (.tail _ (.head _))))
        obtain ⟨u0, u1, _⟩ := HX.out.cellsV (.tail _ (.tail _ (.head _)))
        exact ⟨i0, i1, j0, j1, t0, t1, u0, u1⟩) (fun hHeld => ?_)
    clear hK K
    generalize (w8.setCell ⟨B0 + 1 + 1 + 1, 0, none⟩ (.bool zr)).setCell ⟨B0 + 1 + 1 + 1, 1, none⟩ (.slice R n3 cr) = w9 at HX hHeld ⊢
    try dsimp only [List.getElem_toArray, List.getElem_cons_succ, List.getElem_cons_zero]
    try simp only [Act.put, List.setIfInBounds_toArray, List.set_cons_zero, List.set_cons_succ]
    refine wpAnyH_ready (rs := [11]) (by kernel_rfl) (by simp) ?_
    refine AllReadyH.cons (o := _) rfl (fun K hK => ?_) AllReadyH.nil
    obtain ⟨d0, d1, dl⟩ := HX.out.cellsV (.tail _ (.tail _ (.tail _ (.tail _ (.head _)))))
    obtain ⟨f0, f1⟩ := HX.out.frozenV (.tail _ (.tail _ (.tail _ (.tail _ (.head _)))))
    go_simp
    clear d0 d1 dl f0 f1
    have HX1 := Lib.hid (HX.out.setV (vs' := [(B0 + 1 + 1 + 1, .bool zr, .slice R n3 cr), (B0 + 1 + 1, .bool zq, .slice Q n7 cq), (Bt + 1, .bool zr, .slice R n3 cr), (Bt, .bool zr, .slice R n3 cr), (B0 + 1, .bool q, .slice A' n' c'), (B0, .bool p, .slice A n c)]) (.tail _ (.tail _ (.tail _ (.tail _ (.head _))))) (by have := HSZ.out; have := HLT.out; omega) (List.forall_mem_cons.2 ⟨⟨(.head _), by dsimp only; have := HLT.out; omega⟩, (List.forall_mem_cons.2 ⟨⟨(.tail _ (.head _)), by dsimp only; have := HLT.out; omega⟩, (List.forall_mem_cons.2 ⟨⟨(.tail _ (.tail _ (.head _))), by dsimp only; have := HLT.out; omega⟩, (List.forall_mem_cons.2 ⟨⟨(.tail _ (.tail _ (.tail _ (.head _)))), by dsimp only; have := HLT.out; omega⟩, (List.forall_mem_cons.2 ⟨⟨(.tail _ (.tail _ (.tail _ (.tail _ (.tail _ (.head _)))))), by dsimp only; have := HLT.out; omega⟩, (List.forall_mem_cons.2 ⟨⟨(.tail _ (.tail _ (.tail _ (.tail _ (.tail _ (.tail _ (.head _))))))), by dsimp only; have := HLT.out; omega⟩, (fun _ h => by cases h)⟩)⟩)⟩)⟩)⟩)⟩) (.bool zr) (.slice R n3 cr))
    clear HX
    have HX := Lib.hid HX1.out
    clear HX1
    refine hK.out _ _ (by
        obtain ⟨i0, i1, _⟩ := HX.out.cellsV (.tail _ (.tail _ (.tail _ (.tail _ (.tail _ (.tail _ (.head _)))))))
        obtain ⟨j0, j1, _⟩ := HX.out.cellsV (.tail _ (.tail _ (.tail _ (.tail _ (.tail _ (.head _))))))
        obtain ⟨t0, t1, _⟩ := HX.out.cellsV (.tail _ (.tail _ (.tail _ (.tail _ (.head _)))))
        obtain ⟨u0, u1, _⟩ := HX.out.cellsV (.tail _ (.tail _ (.tail _ (.head _))))
        exact ⟨i0, i1, j0, j1, t0, t1, u0, u1⟩) (fun hHeld => ?_)
    clear hK K
    generalize (w9.setCell ⟨B0 + 1 + 1 + 1 + 1, 0, none⟩ (.bool zr)).setCell ⟨B0 + 1 + 1 + 1 + 1, 1, none⟩ (.slice R n3 cr) = w10 at HX hHeld ⊢
    try dsimp only [List.getElem_toArray, List.getElem_cons_succ, List.getElem_cons_zero]
    try simp only [Act.put, List.setIfInBounds_toArray, List.set_cons_zero, List.set_cons_succ]
    refine wpAnyH_done (by kernel_rfl) ?_ _
    obtain ⟨l0, l1, ll⟩ := HX.out.cellsV (.tail _ (.tail _ (.head _)))
    obtain ⟨m0, m1, ml⟩ := HX.out.cellsV (.tail _ (.head _))
    obtain ⟨o0, o1, ol⟩ := HX.out.cellsV (.head _)
    go_wp2_with fail
    refine bodyPost_ret (v := .tuple #[numArg zq Q n7 cq, numArg zr R n3 cr, numArg zr R n3 cr]) (by simp [results, Tryd.results32, go_sem, l0, l1, m0, m1, o0, o1]) rfl ⟨Q, n7, cq, R, n3, cr, R, n3, cr, (by rw [HZME.out]), ?_, ?_, ?_, HX.out.k⟩
    · rw [show (x.tdiv y).natAbs = x.natAbs / y.natAbs from HNQ.out]; exact (HX.out.b _ (.head _))
    · rw [show (x.tmod y).natAbs = x.natAbs % y.natAbs from HNR.out]; exact (HX.out.b _ (.tail _ (.head _)))
    · exact (by rw [HFE.out, show (x.tmod y).natAbs = x.natAbs % y.natAbs from HNR.out]; exact (HX.out.b _ (.tail _ (.head _))))
  · have HZR := Lib.hid hzr0
    by_cases hpq : p = q
    · have HFE := Lib.hid (HFM.out.2 (.inr hpq))
      have HZME := Lib.hid (show zm = zr from by rw [HZ.out.2.2, HZ.out.2.1, HFE.out])
      have HEQ := Lib.hid (show (p == q) = true from by simpa using hpq)
      clear hzr0 hpq
      go_enter Tryd.func32, Tryd.ntmps32
      go_wp2_with fail
      generalize hB0 : w.heap.size = B0 at HX ⊢
      have HSZ := Lib.hid (Nat.le_of_eq hB0)
      clear hB0
      generalize ((((w.alloc (.cells #[.bool p, .slice A n c] 34)).alloc (.cells #[.bool q, .slice A' n' c'] 34)).alloc (.cells #[.bool false, .slice none 0 0] 34)).alloc (.cells #[.bool false, .slice none 0 0] 34)).alloc (.cells #[.bool false, .slice none 0 0] 34) = w1 at HX ⊢
      obtain ⟨o0, o1, ol⟩ := HX.out.cellsV (.head _)
      obtain ⟨m0, m1, ml⟩ := HX.out.cellsV (.tail _ (.head _))
      obtain ⟨l0, l1, ll⟩ := HX.out.cellsV (.tail _ (.tail _ (.head _)))
      obtain ⟨j0, j1, jl⟩ := HX.out.cellsV (.tail _ (.tail _ (.tail _ (.head _))))
      obtain ⟨i0, i1, il⟩ := HX.out.cellsV (.tail _ (.tail _ (.tail _ (.tail _ (.head _)))))
      go_wp2_with fail
      clear o0 o1 ol m0 m1 ml l0 l1 ll j0 j1 jl i0 i1 il
      refine (parts_any x.natAbs y.natAbs A n c A' n' c' _ (HX.out.b _ (.head _)) (HX.out.b _ (.tail _ (.head _))) HYP.out (by omega) (by omega)).mono ?_
      rintro e w2 ⟨Q, nq, cq, R, nr, cr, rfl, oq, orr, k2⟩
      have hnq := oq.len
      have hnr := orr.len
      have hq1 : nq ≤ 3000 := by rw [← hnq]; exact Nat.le_trans (blen_mono (Nat.div_le_self _ _)) (by have := (HX.out.b _ (.head _)).len; simp only at this; omega)
      have hr1 : nr ≤ 3000 := by rw [← hnr, ← show (x.tmod y).natAbs = x.natAbs % y.natAbs from HNR.out]; exact HRM.out
      have HX1 := Lib.hid (((HX.out.keep k2).bits (oq.bits (by omega))).bits (orr.bits (by omega)))
      clear HX k2 oq orr
      have HX := Lib.hid HX1.out
      clear HX1
      have HNQL := Lib.hid hnq
      have HNRL := Lib.hid hnr
      clear hnq hnr
      obtain ⟨o0, o1, ol⟩ := HX.out.cellsV (.head _)
      obtain ⟨m0, m1, ml⟩ := HX.out.cellsV (.tail _ (.head _))
      obtain ⟨l0, l1, ll⟩ := HX.out.cellsV (.tail _ (.tail _ (.head _)))
      obtain ⟨j0, j1, jl⟩ := HX.out.cellsV (.tail _ (.tail _ (.tail _ (.head _))))
      obtain ⟨i0, i1, il⟩ := HX.out.cellsV (.tail _ (.tail _ (.tail _ (.tail _ (.head _)))))
      try dsimp only
      go_wp2_with fail
      clear o0 o1 ol m0 m1 ml l0 l1 ll j0 j1 jl i0 i1 il
      refine (value_b (z := zr) (neg := p) (HX.out.b _ (.head _)) (by rw [HSR.out]; exact HZ.out.2.1)).mono ?_
      rintro e w3 ⟨n3, rfl, b3, k3⟩
      obtain rfl : n3 = nr := by rw [← b3.len, HNRL.out]
      have HX1 := Lib.hid ((HX.out.keep k3).bits b3)
      clear HX k3 b3
      have HX := Lib.hid HX1.out
      clear HX1
      obtain ⟨o0, o1, ol⟩ := HX.out.cellsV (.head _)
      have HLT := Lib.hid ol
      clear o0 o1 ol
      have h9 := HNRL.out
      have h8 := HRL.out
      rw [show (x.tmod y).natAbs = x.natAbs % y.natAbs from HNR.out] at h8
      have hlen : (0 : Int) < (n3 : Int) := by have := HZR.out; omega
      have hE0 : (p == q) = true := HEQ.out
      clear h8 h9
      obtain ⟨o0, o1, ol⟩ := HX.out.cellsV (.head _)
      obtain ⟨m0, m1, ml⟩ := HX.out.cellsV (.tail _ (.head _))
      obtain ⟨l0, l1, ll⟩ := HX.out.cellsV (.tail _ (.tail _ (.head _)))
      obtain ⟨j0, j1, jl⟩ := HX.out.cellsV (.tail _ (.tail _ (.tail _ (.head _))))
      obtain ⟨i0, i1, il⟩ := HX.out.cellsV (.tail _ (.tail _ (.tail _ (.tail _ (.head _)))))
      try dsimp only
      go_wp2_with fail
      clear o0 o1 ol m0 m1 ml l0 l1 ll j0 j1 jl i0 i1 il
      clear hlen hE0
      have HX1 := Lib.hid ((HX.out.boxV (.bool zr) (.slice R n3 cr)).boxV (.bool zr) (.slice R n3 cr))
      clear HX
      have HX := Lib.hid HX1.out
      clear HX1
      rw [World.size_alloc] at HX
      generalize w3.heap.size = Bt at HX HLT ⊢
      generalize (w3.alloc (.cells #[.bool zr, .slice R n3 cr] 34)).alloc (.cells #[.bool zr, .slice R n3 cr] 34) = w4 at HX ⊢
      have Kd : Keep (fun _ => False) w4 w4.drew := (Keep.refl _ _).drew
      have HX1 := Lib.hid (HX.out.keep Kd)
      clear HX Kd
      have HX := Lib.hid HX1.out
      clear HX1
      refine wp_region_held_drew (S := fun w' => w'.cell? ⟨B0, 0, none⟩ = some (.bool p) ∧ w'.cell? ⟨B0, 1, none⟩ = some (.slice A n c) ∧ w'.cell? ⟨B0 + 1, 0, none⟩ = some (.bool q) ∧ w'.cell? ⟨B0 + 1, 1, none⟩ = some (.slice A' n' c') ∧ w'.cell? ⟨Bt, 0, none⟩ = some (.bool zr) ∧ w'.cell? ⟨Bt, 1, none⟩ = some (.slice R n3 cr) ∧ w'.cell? ⟨Bt + 1, 0, none⟩ = some (.bool zr) ∧ w'.cell? ⟨Bt + 1, 1, none⟩ = some (.slice R n3 cr)) (by kernel_rfl) (by
          obtain ⟨i0, i1, _⟩ := HX.out.cellsV (.tail _ (.tail _ (.tail _ (.tail _ (.tail _ (.tail _ (.head _)))))))
          obtain ⟨j0, j1, _⟩ := HX.out.cellsV (.tail _ (.tail _ (.tail _ (.tail _ (.tail _ (.head _))))))
          obtain ⟨t0, t1, _⟩ := HX.out.cellsV (.tail _ (.head _))
          obtain ⟨u0, u1, _⟩ := HX.out.cellsV (.head _)
          exact ⟨i0, i1, j0, j1, t0, t1, u0, u1⟩) (fun hHeld => ?_)
      generalize w4.drew = wd at HX hHeld ⊢
      refine wpAnyH_take (i := 0) (oi := _) (v := ?_) rfl (by kernel_rfl) (by kernel_rfl) (by kernel_rfl) (fun _ _ _ h => h) (Or.inl ⟨by rfl, ?_⟩) (by assumption) ?_
      rotate_left
      · (intro w hSw; (try dsimp only at hSw); go_simp)
        all_goals with_reducible rfl
      refine wpAnyH_take (i := 1) (oi := _) (v := ?_) rfl (by kernel_rfl) (by kernel_rfl) (by kernel_rfl) (fun _ _ _ h => h) (Or.inl ⟨by rfl, ?_⟩) (by assumption) ?_
      rotate_left
      · (intro w hSw; (try dsimp only at hSw); go_simp)
        all_goals with_reducible rfl
      try dsimp only [List.getElem_toArray, List.getElem_cons_succ, List.getElem_cons_zero]
      try simp only [Act.put, List.setIfInBounds_toArray, List.set_cons_zero, List.set_cons_succ]
      refine wpAnyH_take (i := 2) (oi := _) (v := ?_) rfl (by kernel_rfl) (by kernel_rfl) (by kernel_rfl) (fun _ _ _ h => h) (Or.inl ⟨by rfl, ?_⟩) (by assumption) ?_
      rotate_left
      · (intro w hSw; (try dsimp only at hSw); go_simp)
        all_goals with_reducible rfl
      refine wpAnyH_take (i := 3) (oi := _) (v := ?_) rfl (by kernel_rfl) (by kernel_rfl) (by kernel_rfl) (fun _ _ _ h => h) (Or.inl ⟨by rfl, ?_⟩) (by assumption) ?_
      rotate_left
      · (intro w hSw; (try dsimp only at hSw); go_simp)
        all_goals with_reducible rfl
      try dsimp only [List.getElem_toArray, List.getElem_cons_succ, List.getElem_cons_zero]
      try simp only [Act.put, List.setIfInBounds_toArray, List.set_cons_zero, List.set_cons_succ]
      refine wpAnyH_take (i := 4) (oi := _) (v := ?_) rfl (by kernel_rfl) (by kernel_rfl) (by kernel_rfl) (fun _ _ _ h => h) (Or.inl ⟨by rfl, ?_⟩) (by assumption) ?_
      rotate_left
      · (intro w hSw; (try dsimp only at hSw); go_simp)
        all_goals with_reducible rfl
      refine wpAnyH_take (i := 5) (oi := _) (v := ?_) rfl (by kernel_rfl) (by kernel_rfl) (by kernel_rfl) (fun _ _ _ h => h) (Or.inl ⟨by rfl, ?_⟩) (by assumption) ?_
      rotate_left
      · (intro w hSw; (try dsimp only at hSw); go_simp)
        all_goals with_reducible rfl
      try dsimp only [List.getElem_toArray, List.getElem_cons_succ, List.getElem_cons_zero]
      try simp only [Act.put, List.setIfInBounds_toArray, List.set_cons_zero, List.set_cons_succ]
      refine wpAnyH_take (i := 7) (oi := _) (v := ?_) rfl (by kernel_rfl) (by kernel_rfl) (by kernel_rfl) (fun _ _ _ h => h) (Or.inl ⟨by rfl, ?_⟩) (by assumption) ?_
      rotate_left
      · (intro w hSw; (try dsimp only at hSw); go_simp)
        all_goals with_reducible rfl
      refine wpAnyH_take (i := 8) (oi := _) (v := ?_) rfl (by kernel_rfl) (by kernel_rfl) (by kernel_rfl) (fun _ _ _ h => h) (Or.inl ⟨by rfl, ?_⟩) (by assumption) ?_
      rotate_left
      · (intro w hSw; (try dsimp only at hSw); go_simp)
        all_goals with_reducible rfl
      try dsimp only [List.getElem_toArray, List.getElem_cons_succ, List.getElem_cons_zero]
      try simp only [Act.put, List.setIfInBounds_toArray, List.set_cons_zero, List.set_cons_succ]
      try dsimp only [List.getElem_toArray, List.getElem_cons_succ, List.getElem_cons_zero]
      try simp only [Act.put, List.setIfInBounds_toArray, List.set_cons_zero, List.set_cons_succ]
      refine wpAnyH_ready (rs := [6]) (by kernel_rfl) (by simp) ?_
      refine AllReadyH.cons (o := _) rfl (fun K hK => ?_) AllReadyH.nil
      go_simp
      rw [HSGN.out]
      refine (value_b (z := zq) (neg := sq) (HX.out.b _ (.tail _ (.tail _ (.head _)))) HZQ.out).mono ?_
      rintro e w7 ⟨n7, rfl, b7, k7⟩
      have HX1 := Lib.hid ((HX.out.keep k7).bits b7)
      clear HX k7 b7
      have HX := Lib.hid HX1.out
      clear HX1
      try dsimp only
      go_wp2_with fail
      refine hK.out _ _ (by
          obtain ⟨i0, i1, _⟩ := HX.out.cellsV (.tail _ (.tail _ (.tail _ (.tail _ (.tail _ (.tail _ (.head _)))))))
          obtain ⟨j0, j1, _⟩ := HX.out.cellsV (.tail _ (.tail _ (.tail _ (.tail _ (.tail _ (.head _))))))
          obtain ⟨t0, t1, _⟩ := HX.out.cellsV (.tail _ (.head _))
          obtain ⟨u0, u1, _⟩ := HX.out.cellsV (.head _)
          exact ⟨i0, i1, j0, j1, t0, t1, u0, u1⟩) (fun hHeld => ?_)
      clear hK K
      try dsimp only [List.getElem_toArray, List.getElem_cons_succ, List.getElem_cons_zero]
      try simp only [Act.put, List.setIfInBounds_toArray, List.set_cons_zero, List.set_cons_succ]
      refine wpAnyH_ready (rs := [9]) (by kernel_rfl) (by simp) ?_
      refine AllReadyH.cons (o := _) rfl (fun K hK => ?_) AllReadyH.nil
      obtain ⟨d0, d1, dl⟩ := HX.out.cellsV (.tail _ (.tail _ (.tail _ (.tail _ (.head _)))))
      obtain ⟨f0, f1⟩ := HX.out.frozenV (.tail _ (.tail _ (.tail _ (.tail _ (.head _)))))
      go_simp
      clear d0 d1 dl f0 f1
      have HX1 := Lib.hid (HX.out.setV (vs' := [(Bt + 1, .bool zr, .slice R n3 cr), (Bt, .bool zr, .slice R n3 cr), (B0 + 1 + 1 + 1 + 1, .bool false, .slice none 0 0), (B0 + 1 + 1 + 1, .bool false, .slice none 0 0), (B0 + 1, .bool q, .slice A' n' c'), (B0, .bool p, .slice A n c)]) (.tail _ (.tail _ (.tail _ (.tail _ (.head _))))) (by have := HSZ.out; have := HLT.out; omega) (List.forall_mem_cons.2 ⟨⟨(.head _), by dsimp only; have := HLT.out; omega⟩, (List.forall_mem_cons.2 ⟨⟨(.tail _ (.head _)), by dsimp only; have := HLT.out; omega⟩, (List.forall_mem_cons.2 ⟨⟨(.tail _ (.tail _ (.head _))), by dsimp only; have := HLT.out; omega⟩, (List.forall_mem_cons.2 ⟨⟨(.tail _ (.tail _ (.tail _ (.head _)))), by dsimp only; have := HLT.out; omega⟩, (List.forall_mem_cons.2 ⟨⟨(.tail _ (.tail _ (.tail _ (.tail _ (.tail _ (.head _)))))), by dsimp only; have := HLT.out; omega⟩, (List.forall_mem_cons.2 ⟨⟨(.tail _ (.tail _ (.tail _ (.tail _ (.tail _ (.tail _ (.head _))))))), by dsimp only; have := HLT.out; omega⟩, (fun _ h => by cases h)⟩)⟩)⟩)⟩)⟩)⟩) (.bool zq) (.slice Q n7 cq))
      clear HX
      have HX := Lib.hid HX1.out
      clear HX1
      refine hK.out _ _ (by
          obtain ⟨i0, i1, _⟩ := HX.out.cellsV (.tail _ (.tail _ (.tail _ (.tail _ (.tail _ (.tail _ (.head _)))))))
          obtain ⟨j0, j1, _⟩ := HX.out.cellsV (.tail _ (.tail _ (.tail _ (.tail _ (.tail _ (.head _))))))
          obtain ⟨t0, t1, _⟩ := HX.out.cellsV (.tail _ (.tail _ (.head _)))
          obtain ⟨u0, u1, _⟩ := HX.out.cellsV (.tail _ (.head _))
          exact ⟨i0, i1, j0, j1, t0, t1, u0, u1⟩) (fun hHeld => ?_)
      clear hK K
      generalize (w7.setCell ⟨B0 + 1 + 1, 0, none⟩ (.bool zq)).setCell ⟨B0 + 1 + 1, 1, none⟩ (.slice Q n7 cq) = w8 at HX hHeld ⊢
      try dsimp only [List.getElem_toArray, List.getElem_cons_succ, List.getElem_cons_zero]
      try simp only [Act.put, List.setIfInBounds_toArray, List.set_cons_zero, List.set_cons_succ]
      refine wpAnyH_ready (rs := [10]) (by kernel_rfl) (by simp) ?_
      refine AllReadyH.cons (o := _) rfl (fun K hK => ?_) AllReadyH.nil
      obtain ⟨d0, d1, dl⟩ := HX.out.cellsV (.tail _ (.tail _ (.tail _ (.tail _ (.head _)))))
      obtain ⟨f0, f1⟩ := HX.out.frozenV (.tail _ (.tail _ (.tail _ (.tail _ (.head _)))))
      go_simp
      clear d0 d1 dl f0 f1
      have HX1 := Lib.hid (HX.out.setV (vs' := [(B0 + 1 + 1, .bool zq, .slice Q n7 cq), (Bt + 1, .bool zr, .slice R n3 cr), (Bt, .bool zr, .slice R n3 cr), (B0 + 1 + 1 + 1 + 1, .bool false, .slice none 0 0), (B0 + 1, .bool q, .slice A' n' c'), (B0, .bool p, .slice A n c)]) (.tail _ (.tail _ (.tail _ (.tail _ (.head _))))) (by have := HSZ.out; have := HLT.out; omega) (List.forall_mem_cons.2 ⟨⟨(.head _), by dsimp only; have := HLT.out; omega⟩, (List.forall_mem_cons.2 ⟨⟨(.tail _ (.head _)), by dsimp only; have := HLT.out; omega⟩, (List.forall_mem_cons.2 ⟨⟨(.tail _ (.tail _ (.head _))), by dsimp only; have := HLT.out; omega⟩, (List.forall_mem_cons.2 ⟨⟨(.tail _ (.tail _ (.tail _ (.head _)))), by dsimp only; have := HLT.out; omega⟩, (List.forall_mem_cons.2 ⟨⟨(.tail _ (.tail _ (.tail _ (.tail _ (.tail _ (.head _)))))), by dsimp only; have := HLT.out; omega⟩, (List.forall_mem_cons.2 ⟨⟨(.tail _ (.tail _ (.tail _ (.tail _ (.tail _ (.tail _ (.head _))))))), by dsimp only; have := HLT.out; omega⟩, (fun _ h => by cases h)⟩)⟩)⟩)⟩)⟩)⟩) (.bool zr) (.slice R n3 cr))
      clear HX
      have HX := Lib.hid HX1.out
      clear HX1
      refine hK.out _ _ (by
          obtain ⟨i0, i1, _⟩ := HX.out.cellsV (.tail _ (.tail _ (.tail _ (.tail _ (.tail _ (.tail _ (.head _)))))))
          obtain ⟨j0, j1, _⟩ := HX.out.cellsV (.tail _ (.tail _ (.tail _ (.tail _ (.tail _ (.head _))))))
          obtain ⟨t0, t1, _⟩ := HX.out.cellsV (.tail _ (.tail _ (.tail _ (.head _))))
          obtain ⟨u0, u1, _⟩ := HX.out.cellsV (.tail _ (.tail _ (.head _)))
          exact ⟨i0, i1, j0, j1, t0, t1, u0, u1⟩) (fun hHeld => ?_)
      clear hK K
      generalize (w8.setCell ⟨B0 + 1 + 1 + 1, 0, none⟩ (.bool zr)).setCell ⟨B0 + 1 + 1 + 1, 1, none⟩ (.slice R n3 cr) = w9 at HX hHeld ⊢
      try dsimp only [List.getElem_toArray, List.getElem_cons_succ, List.getElem_cons_zero]
      try simp only [Act.put, List.setIfInBounds_toArray, List.set_cons_zero, List.set_cons_succ]
      refine wpAnyH_ready (rs := [11]) (by kernel_rfl) (by simp) ?_
      refine AllReadyH.cons (o := _) rfl (fun K hK => ?_) AllReadyH.nil
      obtain ⟨d0, d1, dl⟩ := HX.out.cellsV (.tail _ (.tail _ (.tail _ (.tail _ (.head _)))))
      obtain ⟨f0, f1⟩ := HX.out.frozenV (.tail _ (.tail _ (.tail _ (.tail _ (.head _)))))
      go_simp
      clear d0 d1 dl f0 f1
      have HX1 := Lib.hid (HX.out.setV (vs' := [(B0 + 1 + 1 + 1, .bool zr, .slice R n3 cr), (B0 + 1 + 1, .bool zq, .slice Q n7 cq), (Bt + 1, .bool zr, .slice R n3 cr), (Bt, .bool zr, .slice R n3 cr), (B0 + 1, .bool q, .slice A' n' c'), (B0, .bool p, .slice A n c)]) (.tail _ (.tail _ (.tail _ (.tail _ (.head _))))) (by have := HSZ.out; have := HLT.out; omega) (List.forall_mem_cons.2 ⟨⟨(.head _), by dsimp only; have := HLT.out; omega⟩, (List.forall_mem_cons.2 ⟨⟨(.tail _ (.head _)), by dsimp only; have := HLT.out; omega⟩, (List.forall_mem_cons.2 ⟨⟨(.tail _ (.tail _ (.head _))), by dsimp only; have := HLT.out; omega⟩, (List.forall_mem_cons.2 ⟨⟨(.tail _ (.tail _ (.tail _ (.head _)))), by dsimp only; have := HLT.out; omega⟩, (List.forall_mem_cons.2 ⟨⟨(.tail _ (.tail _ (.tail _ (.tail _ (.tail _ (.head _)))))), by dsimp only; have := HLT.out; omega⟩, (List.forall_mem_cons.2 ⟨⟨(.tail _ (.tail _ (.tail _ (.tail _ (.tail _ (.tail _ (.head _))))))), by dsimp only; have := HLT.out; omega⟩, (fun _ h => by cases h)⟩)⟩)⟩)⟩)⟩)⟩) (.bool zr) (.slice R n3 cr))
      clear HX
      have HX := Lib.hid HX1.out
      clear HX1
      refine hK.out _ _ (by
          obtain ⟨i0, i1, _⟩ := HX.out.cellsV (.tail _ (.tail _ (.tail _ (.tail _ (.tail _ (.tail _ (.head _)))))))
          obtain ⟨j0, j1, _⟩ := HX.out.cellsV (.tail _ (.tail _ (.tail _ (.tail _ (.tail _ (.head _))))))
          obtain ⟨t0, t1, _⟩ := HX.out.cellsV (.tail _ (.tail _ (.tail _ (.tail _ (.head _)))))
          obtain ⟨u0, u1, _⟩ := HX.out.cellsV (.tail _ (.tail _ (.tail _ (.head _))))
          exact ⟨i0, i1, j0, j1, t0, t1, u0, u1⟩) (fun hHeld => ?_)
      clear hK K
      generalize (w9.setCell ⟨B0 + 1 + 1 + 1 + 1, 0, none⟩ (.bool zr)).setCell ⟨B0 + 1 + 1 + 1 + 1, 1, none⟩ (.slice R n3 cr) = w10 at HX hHeld ⊢
      try dsimp only [List.getElem_toArray, List.getElem_cons_succ, List.getElem_cons_zero]
      try simp only [Act.put, List.setIfInBounds_toArray, List.set_cons_zero, List.set_cons_succ]
      refine wpAnyH_done (by kernel_rfl) ?_ _
      obtain ⟨l0, l1, ll⟩ := HX.out.cellsV (.tail _ (.tail _ (.head _)))
      obtain ⟨m0, m1, ml⟩ := HX.out.cellsV (.tail _ (.head _))
      obtain ⟨o0, o1, ol⟩ := HX.out.cellsV (.head _)
      go_wp2_with fail
      refine bodyPost_ret (v := .tuple #[numArg zq Q n7 cq, numArg zr R n3 cr, numArg zr R n3 cr]) (by simp [results, Tryd.results32, go_sem, l0, l1, m0, m1, o0, o1]) rfl ⟨Q, n7, cq, R, n3, cr, R, n3, cr, (by rw [HZME.out]), ?_, ?_, ?_, HX.out.k⟩
      · rw [show (x.tdiv y).natAbs = x.natAbs / y.natAbs from HNQ.out]; exact (HX.out.b _ (.head _))
      · rw [show (x.tmod y).natAbs = x.natAbs % y.natAbs from HNR.out]; exact (HX.out.b _ (.tail _ (.head _)))
      · exact (by rw [HFE.out, show (x.tmod y).natAbs = x.natAbs % y.natAbs from HNR.out]; exact (HX.out.b _ (.tail _ (.head _))))
    · have HFE := Lib.hid (HFM.out.1 hzr0 hpq)
      have HEQ := Lib.hid (show (p == q) = false from by simpa using hpq)
      clear hzr0 hpq
      go_enter Tryd.func32, Tryd.ntmps32
      go_wp2_with fail
      generalize hB0 : w.heap.size = B0 at HX ⊢
      have HSZ := Lib.hid (Nat.le_of_eq hB0)
      clear hB0
      generalize ((((w.alloc (.cells #[.bool p, .slice A n c] 34)).alloc (.cells #[.bool q, .slice A' n' c'] 34)).alloc (.cells #[.bool false, .slice none 0 0] 34)).alloc (.cells #[.bool false, .slice none 0 0] 34)).alloc (.cells #[.bool false, .slice none 0 0] 34) = w1 at HX ⊢
      obtain ⟨o0, o1, ol⟩ := HX.out.cellsV (.head _)
      obtain ⟨m0, m1, ml⟩ := HX.out.cellsV (.tail _ (.head _))
      obtain ⟨l0, l1, ll⟩ := HX.out.cellsV (.tail _ (.tail _ (.head _)))
      obtain ⟨j0, j1, jl⟩ := HX.out.cellsV (.tail _ (.tail _ (.tail _ (.head _))))
      obtain ⟨i0, i1, il⟩ := HX.out.cellsV (.tail _ (.tail _ (.tail _ (.tail _ (.head _)))))
      go_wp2_with fail
      clear o0 o1 ol m0 m1 ml l0 l1 ll j0 j1 jl i0 i1 il
      refine (parts_any x.natAbs y.natAbs A n c A' n' c' _ (HX.out.b _ (.head _)) (HX.out.b _ (.tail _ (.head _))) HYP.out (by omega) (by omega)).mono ?_
      rintro e w2 ⟨Q, nq, cq, R, nr, cr, rfl, oq, orr, k2⟩
      have hnq := oq.len
      have hnr := orr.len
      have hq1 : nq ≤ 3000 := by rw [← hnq]; exact Nat.le_trans (blen_mono (Nat.div_le_self _ _)) (by have := (HX.out.b _ (.head _)).len; simp only at this; omega)
      have hr1 : nr ≤ 3000 := by rw [← hnr, ← show (x.tmod y).natAbs = x.natAbs % y.natAbs from HNR.out]; exact HRM.out
      have HX1 := Lib.hid (((HX.out.keep k2).bits (oq.bits (by omega))).bits (orr.bits (by omega)))
      clear HX k2 oq orr
      have HX := Lib.hid HX1.out
      clear HX1
      have HNQL := Lib.hid hnq
      have HNRL := Lib.hid hnr
      clear hnq hnr
      obtain ⟨o0, o1, ol⟩ := HX.out.cellsV (.head _)
      obtain ⟨m0, m1, ml⟩ := HX.out.cellsV (.tail _ (.head _))
      obtain ⟨l0, l1, ll⟩ := HX.out.cellsV (.tail _ (.tail _ (.head _)))
      obtain ⟨j0, j1, jl⟩ := HX.out.cellsV (.tail _ (.tail _ (.tail _ (.head _))))
      obtain ⟨i0, i1, il⟩ := HX.out.cellsV (.tail _ (.tail _ (.tail _ (.tail _ (.head _)))))
      try dsimp only
      go_wp2_with fail
      clear o0 o1 ol m0 m1 ml l0 l1 ll j0 j1 jl i0 i1 il
      refine (value_b (z := zr) (neg := p) (HX.out.b _ (.head _)) (by rw [HSR.out]; exact HZ.out.2.1)).mono ?_
      rintro e w3 ⟨n3, rfl, b3, k3⟩
      obtain rfl : n3 = nr := by rw [← b3.len, HNRL.out]
      have HX1 := Lib.hid ((HX.out.keep k3).bits b3)
      clear HX k3 b3
      have HX := Lib.hid HX1.out
      clear HX1
      obtain ⟨o0, o1, ol⟩ := HX.out.cellsV (.head _)
      have HLT := Lib.hid ol
      clear o0 o1 ol
      have h9 := HNRL.out
      have h8 := HRL.out
      rw [show (x.tmod y).natAbs = x.natAbs % y.natAbs from HNR.out] at h8
      have hlen : (0 : Int) < (n3 : Int) := by have := HZR.out; omega
      have hE0 : (p == q) = false := HEQ.out
      clear h8 h9
      obtain ⟨o0, o1, ol⟩ := HX.out.cellsV (.head _)
      obtain ⟨m0, m1, ml⟩ := HX.out.cellsV (.tail _ (.head _))
      obtain ⟨l0, l1, ll⟩ := HX.out.cellsV (.tail _ (.tail _ (.head _)))
      obtain ⟨j0, j1, jl⟩ := HX.out.cellsV (.tail _ (.tail _ (.tail _ (.head _))))
      obtain ⟨i0, i1, il⟩ := HX.out.cellsV (.tail _ (.tail _ (.tail _ (.tail _ (.head _)))))
      try dsimp only
      go_wp2_with fail
      clear o0 o1 ol m0 m1 ml l0 l1 ll j0 j1 jl i0 i1 il
      clear hlen hE0
      have HX1 := Lib.hid ((HX.out.boxV (.bool zr) (.slice R n3 cr)).boxV (.bool zr) (.slice R n3 cr))
      clear HX
      have HX := Lib.hid HX1.out
      clear HX1
      rw [World.size_alloc] at HX
      generalize w3.heap.size = Bt at HX HLT ⊢
      generalize (w3.alloc (.cells #[.bool zr, .slice R n3 cr] 34)).alloc (.cells #[.bool zr, .slice R n3 cr] 34) = w4 at HX ⊢
      have HRA := Lib.hid (show Calls Tryd.prog 45 #[numArg zr R n3 cr, numArg q A' n' c'] w4 (ZPost zm (x.tmod y + y) 3001 w4) from radd_z HZ.out.2.1 HP.out.2 (by rw [← HFE.out]; exact HZ.out.2.2) (by rw [show (x.tmod y).natAbs = x.natAbs % y.natAbs from HNR.out]; exact (HX.out.b _ (.head _))) (HX.out.b _ (.tail _ (.tail _ (.tail _ (.tail _ (.head _)))))) (by omega) hm')
      refine HRA.out.mono ?_
      rintro e w5 ⟨M, nm, cm, rfl, b5, hnm, k5⟩
      rw [← HFE.out] at b5
      have HX1 := Lib.hid ((HX.out.keep k5).bits b5)
      clear HX k5 b5
      have HX := Lib.hid HX1.out
      clear HX1
      obtain ⟨fz0, fz1⟩ := HX.out.frozenV (.head _)
      obtain ⟨u0, u1, ul⟩ := HX.out.cellsV (.head _)
      obtain ⟨t0, t1, tl⟩ := HX.out.cellsV (.tail _ (.head _))
      obtain ⟨o0, o1, ol⟩ := HX.out.cellsV (.tail _ (.tail _ (.head _)))
      obtain ⟨m0, m1, ml⟩ := HX.out.cellsV (.tail _ (.tail _ (.tail _ (.head _))))
      obtain ⟨l0, l1, ll⟩ := HX.out.cellsV (.tail _ (.tail _ (.tail _ (.tail _ (.head _)))))
      obtain ⟨j0, j1, jl⟩ := HX.out.cellsV (.tail _ (.tail _ (.tail _ (.tail _ (.tail _ (.head _))))))
      obtain ⟨i0, i1, il⟩ := HX.out.cellsV (.tail _ (.tail _ (.tail _ (.tail _ (.tail _ (.tail _ (.head _)))))))
      try dsimp only
      go_wp2_with fail
      clear u0 u1 ul t0 t1 tl o0 o1 ol m0 m1 ml l0 l1 ll j0 j1 jl i0 i1 il
      clear fz0 fz1
      have HX1 := Lib.hid (HX.out.setV (vs' := [(Bt, .bool zr, .slice R n3 cr), (B0 + 1 + 1 + 1 + 1, .bool false, .slice none 0 0), (B0 + 1 + 1 + 1, .bool false, .slice none 0 0), (B0 + 1 + 1, .bool false, .slice none 0 0), (B0 + 1, .bool q, .slice A' n' c'), (B0, .bool p, .slice A n c)]) (.head _) (by have := HSZ.out; have := HLT.out; omega) (List.forall_mem_cons.2 ⟨⟨(.tail _ (.head _)), by dsimp only; have := HLT.out; omega⟩, (List.forall_mem_cons.2 ⟨⟨(.tail _ (.tail _ (.head _))), by dsimp only; have := HLT.out; omega⟩, (List.forall_mem_cons.2 ⟨⟨(.tail _ (.tail _ (.tail _ (.head _)))), by dsimp only; have := HLT.out; omega⟩, (List.forall_mem_cons.2 ⟨⟨(.tail _ (.tail _ (.tail _ (.tail _ (.head _))))), by dsimp only; have := HLT.out; omega⟩, (List.forall_mem_cons.2 ⟨⟨(.tail _ (.tail _ (.tail _ (.tail _ (.tail _ (.head _)))))), by dsimp only; have := HLT.out; omega⟩, (List.forall_mem_cons.2 ⟨⟨(.tail _ (.tail _ (.tail _ (.tail _ (.tail _ (.tail _ (.head _))))))), by dsimp only; have := HLT.out; omega⟩, (fun _ h => by cases h)⟩)⟩)⟩)⟩)⟩)⟩) (.bool zm) (.slice M nm cm))
      clear HX
      have HX := Lib.hid HX1.out
      clear HX1
      generalize (w5.setCell ⟨Bt + 1, 0, none⟩ (.bool zm)).setCell ⟨Bt + 1, 1, none⟩ (.slice M nm cm) = w6 at HX ⊢
      have Kd : Keep (fun _ => False) w6 w6.drew := (Keep.refl _ _).drew
      have HX1 := Lib.hid (HX.out.keep Kd)
      clear HX Kd
      have HX := Lib.hid HX1.out
      clear HX1
      refine wp_region_held_drew (S := fun w' => w'.cell? ⟨B0, 0, none⟩ = some (.bool p) ∧ w'.cell? ⟨B0, 1, none⟩ = some (.slice A n c) ∧ w'.cell? ⟨B0 + 1, 0, none⟩ = some (.bool q) ∧ w'.cell? ⟨B0 + 1, 1, none⟩ = some (.slice A' n' c') ∧ w'.cell? ⟨Bt, 0, none⟩ = some (.bool zr) ∧ w'.cell? ⟨Bt, 1, none⟩ = some (.slice R n3 cr) ∧ w'.cell? ⟨Bt + 1, 0, none⟩ = some (.bool zm) ∧ w'.cell? ⟨Bt + 1, 1, none⟩ = some (.slice M nm cm)) (by kernel_rfl) (by
          obtain ⟨i0, i1, _⟩ := HX.out.cellsV (.tail _ (.tail _ (.tail _ (.tail _ (.tail _ (.tail _ (.head _)))))))
          obtain ⟨j0, j1, _⟩ := HX.out.cellsV (.tail _ (.tail _ (.tail _ (.tail _ (.tail _ (.head _))))))
          obtain ⟨t0, t1, _⟩ := HX.out.cellsV (.tail _ (.head _))
          obtain ⟨u0, u1, _⟩ := HX.out.cellsV (.head _)
          exact ⟨i0, i1, j0, j1, t0, t1, u0, u1⟩) (fun hHeld => ?_)
      generalize w6.drew = wd at HX hHeld ⊢
      refine wpAnyH_take (i := 0) (oi := _) (v := ?_) rfl (by kernel_rfl) (by kernel_rfl) (by kernel_rfl) (fun _ _ _ h => h) (Or.inl ⟨by rfl, ?_⟩) (by assumption) ?_
      rotate_left
      · (intro w hSw; (try dsimp only at hSw); go_simp)
        all_goals with_reducible rfl
      refine wpAnyH_take (i := 1) (oi := _) (v := ?_) rfl (by kernel_rfl) (by kernel_rfl) (by kernel_rfl) (fun _ _ _ h => h) (Or.inl ⟨by rfl, ?_⟩) (by assumption) ?_
      rotate_left
      · (intro w hSw; (try dsimp only at hSw); go_simp)
        all_goals with_reducible rfl
      try dsimp only [List.getElem_toArray, List.getElem_cons_succ, List.getElem_cons_zero]
      try simp only [Act.put, List.setIfInBounds_toArray, List.set_cons_zero, List.set_cons_succ]
      refine wpAnyH_take (i := 2) (oi := _) (v := ?_) rfl (by kernel_rfl) (by kernel_rfl) (by kernel_rfl) (fun _ _ _ h => h) (Or.inl ⟨by rfl, ?_⟩) (by assumption) ?_
      rotate_left
      · (intro w hSw; (try dsimp only at hSw); go_simp)
        all_goals with_reducible rfl
      refine wpAnyH_take (i := 3) (oi := _) (v := ?_) rfl (by kernel_rfl) (by kernel_rfl) (by kernel_rfl) (fun _ _ _ h => h) (Or.inl ⟨by rfl, ?_⟩) (by assumption) ?_
      rotate_left
      · (intro w hSw; (try dsimp only at hSw); go_simp)
        all_goals with_reducible rfl
      try dsimp only [List.getElem_toArray, List.getElem_cons_succ, List.getElem_cons_zero]
      try simp only [Act.put, List.setIfInBounds_toArray, List.set_cons_zero, List.set_cons_succ]
      refine wpAnyH_take (i := 4) (oi := _) (v := ?_) rfl (by kernel_rfl) (by kernel_rfl) (by kernel_rfl) (fun _ _ _ h => h) (Or.inl ⟨by rfl, ?_⟩) (by assumption) ?_
      rotate_left
      · (intro w hSw; (try dsimp only at hSw); go_simp)
        all_goals with_reducible rfl
      refine wpAnyH_take (i := 5) (oi := _) (v := ?_) rfl (by kernel_rfl) (by kernel_rfl) (by kernel_rfl) (fun _ _ _ h => h) (Or.inl ⟨by rfl, ?_⟩) (by assumption) ?_
      rotate_left
      · (intro w hSw; (try dsimp only at hSw); go_simp)
        all_goals with_reducible rfl
      try dsimp only [List.getElem_toArray, List.getElem_cons_succ, List.getElem_cons_zero]
      try simp only [Act.put, List.setIfInBounds_toArray, List.set_cons_zero, List.set_cons_succ]
      refine wpAnyH_take (i := 7) (oi := _) (v := ?_) rfl (by kernel_rfl) (by kernel_rfl) (by kernel_rfl) (fun _ _ _ h => h) (Or.inl ⟨by rfl, ?_⟩) (by assumption) ?_
      rotate_left
      · (intro w hSw; (try dsimp only at hSw); go_simp)
        all_goals with_reducible rfl
      refine wpAnyH_take (i := 8) (oi := _) (v := ?_) rfl (by kernel_rfl) (by kernel_rfl) (by kernel_rfl) (fun _ _ _ h => h) (Or.inl ⟨by rfl, ?_⟩) (by assumption) ?_
      rotate_left
      · (intro w hSw; (try dsimp only at hSw); go_simp)
        all_goals with_reducible rfl
      try dsimp only [List.getElem_toArray, List.getElem_cons_succ, List.getElem_cons_zero]
      try simp only [Act.put, List.setIfInBounds_toArray, List.set_cons_zero, List.set_cons_succ]
      try dsimp only [List.getElem_toArray, List.getElem_cons_succ, List.getElem_cons_zero]
      try simp only [Act.put, List.setIfInBounds_toArray, List.set_cons_zero, List.set_cons_succ]
      refine wpAnyH_ready (rs := [6]) (by kernel_rfl) (by simp) ?_
      refine AllReadyH.cons (o := _) rfl (fun K hK => ?_) AllReadyH.nil
      go_simp
      rw [HSGN.out]
      refine (value_b (z := zq) (neg := sq) (HX.out.b _ (.tail _ (.tail _ (.tail _ (.head _))))) HZQ.out).mono ?_
      rintro e w7 ⟨n7, rfl, b7, k7⟩
      have HX1 := Lib.hid ((HX.out.keep k7).bits b7)
      clear HX k7 b7
      have HX := Lib.hid HX1.out
      clear HX1
      try dsimp only
      go_wp2_with fail
      refine hK.out _ _ (by
          obtain ⟨i0, i1, _⟩ := HX.out.cellsV (.tail _ (.tail _ (.tail _ (.tail _ (.tail _ (.tail _ (.head _)))))))
          obtain ⟨j0, j1, _⟩ := HX.out.cellsV (.tail _ (.tail _ (.tail _ (.tail _ (.tail _ (.head _))))))
          obtain ⟨t0, t1, _⟩ := HX.out.cellsV (.tail _ (.head _))
          obtain ⟨u0, u1, _⟩ := HX.out.cellsV (.head _)
          exact ⟨i0, i1, j0, j1, t0, t1, u0, u1⟩) (fun hHeld => ?_)
      clear hK K
      try dsimp only [List.getElem_toArray, List.getElem_cons_succ, List.getElem_cons_zero]
      try simp only [Act.put, List.setIfInBounds_toArray, List.set_cons_zero, List.set_cons_succ]
      refine wpAnyH_ready (rs := [9]) (by kernel_rfl) (by simp) ?_
      refine AllReadyH.cons (o := _) rfl (fun K hK => ?_) AllReadyH.nil
      obtain ⟨d0, d1, dl⟩ := HX.out.cellsV (.tail _ (.tail _ (.tail _ (.tail _ (.head _)))))
      obtain ⟨f0, f1⟩ := HX.out.frozenV (.tail _ (.tail _ (.tail _ (.tail _ (.head _)))))
      go_simp
      clear d0 d1 dl f0 f1
      have HX1 := Lib.hid (HX.out.setV (vs' := [(Bt + 1, .bool zm, .slice M nm cm), (Bt, .bool zr, .slice R n3 cr), (B0 + 1 + 1 + 1 + 1, .bool false, .slice none 0 0), (B0 + 1 + 1 + 1, .bool false, .slice none 0 0), (B0 + 1, .bool q, .slice A' n' c'), (B0, .bool p, .slice A n c)]) (.tail _ (.tail _ (.tail _ (.tail _ (.head _))))) (by have := HSZ.out; have := HLT.out; omega) (List.forall_mem_cons.2 ⟨⟨(.head _), by dsimp only; have := HLT.out; omega⟩, (List.forall_mem_cons.2 ⟨⟨(.tail _ (.head _)), by dsimp only; have := HLT.out; omega⟩, (List.forall_mem_cons.2 ⟨⟨(.tail _ (.tail _ (.head _))), by dsimp only; have := HLT.out; omega⟩, (List.forall_mem_cons.2 ⟨⟨(.tail _ (.tail _ (.tail _ (.head _)))), by dsimp only; have := HLT.out; omega⟩, (List.forall_mem_cons.2 ⟨⟨(.tail _ (.tail _ (.tail _ (.tail _ (.tail _ (.head _)))))), by dsimp only; have := HLT.out; omega⟩, (List.forall_mem_cons.2 ⟨⟨(.tail _ (.tail _ (.tail _ (.tail _ (.tail _ (.tail _ (.head _))))))), by dsimp only; have := HLT.out; omega⟩, (fun _ h => by cases h)⟩)⟩)⟩)⟩)⟩)⟩) (.bool zq) (.slice Q n7 cq))
      clear HX
      have HX := Lib.hid HX1.out
      clear HX1
      refine hK.out _ _ (by
          obtain ⟨i0, i1, _⟩ := HX.out.cellsV (.tail _ (.tail _ (.tail _ (.tail _ (.tail _ (.tail _ (.head _)))))))
          obtain ⟨j0, j1, _⟩ := HX.out.cellsV (.tail _ (.tail _ (.tail _ (.tail _ (.tail _ (.head _))))))
          obtain ⟨t0, t1, _⟩ := HX.out.cellsV (.tail _ (.tail _ (.head _)))
          obtain ⟨u0, u1, _⟩ := HX.out.cellsV (.tail _ (.head _))
          exact ⟨i0, i1, j0, j1, t0, t1, u0, u1⟩) (fun hHeld => ?_)
      clear hK K
      generalize (w7.setCell ⟨B0 + 1 + 1, 0, none⟩ (.bool zq)).setCell ⟨B0 + 1 + 1, 1, none⟩ (.slice Q n7 cq) = w8 at HX hHeld ⊢
      try dsimp only [List.getElem_toArray, List.getElem_cons_succ, List.getElem_cons_zero]
      try simp only [Act.put, List.setIfInBounds_toArray, List.set_cons_zero, List.set_cons_succ]
      refine wpAnyH_ready (rs := [10]) (by kernel_rfl) (by simp) ?_
      refine AllReadyH.cons (o := _) rfl (fun K hK => ?_) AllReadyH.nil
      obtain ⟨d0, d1, dl⟩ := HX.out.cellsV (.tail _ (.tail _ (.tail _ (.tail _ (.head _)))))
      obtain ⟨f0, f1⟩ := HX.out.frozenV (.tail _ (.tail _ (.tail _ (.tail _ (.head _)))))
      go_simp
      clear d0 d1 dl f0 f1
      have HX1 := Lib.hid (HX.out.setV (vs' := [(B0 + 1 + 1, .bool zq, .slice Q n7 cq), (Bt + 1, .bool zm, .slice M nm cm), (Bt, .bool zr, .slice R n3 cr), (B0 + 1 + 1 + 1 + 1, .bool false, .slice none 0 0), (B0 + 1, .bool q, .slice A' n' c'), (B0, .bool p, .slice A n c)]) (.tail _ (.tail _ (.tail _ (.tail _ (.head _))))) (by have := HSZ.out; have := HLT.out; omega) (List.forall_mem_cons.2 ⟨⟨(.head _), by dsimp only; have := HLT.out; omega⟩, (List.forall_mem_cons.2 ⟨⟨(.tail _ (.head _)), by dsimp only; have := HLT.out; omega⟩, (List.forall_mem_cons.2 ⟨⟨(.tail _ (.tail _ (.head _))), by dsimp only; have := HLT.out; omega⟩, (List.forall_mem_cons.2 ⟨⟨(.tail _ (.tail _ (.tail _ (.head _)))), by dsimp only; have := HLT.out; omega⟩, (List.forall_mem_cons.2 ⟨⟨(.tail _ (.tail _ (.tail _ (.tail _ (.tail _ (.head _)))))), by dsimp only; have := HLT.out; omega⟩, (List.forall_mem_cons.2 ⟨⟨(.tail _ (.tail _ (.tail _ (.tail _ (.tail _ (.tail _ (.head _))))))), by dsimp only; have := HLT.out; omega⟩, (fun _ h => by cases h)⟩)⟩)⟩)⟩)⟩)⟩) (.bool zr) (.slice R n3 cr))
      clear HX
      have HX := Lib.hid HX1.out
      clear HX1
      refine hK.out _ _ (by
          obtain ⟨i0, i1, _⟩ := HX.out.cellsV (.tail _ (.tail _ (.tail _ (.tail _ (.tail _ (.tail _ (.head _)))))))
          obtain ⟨j0, j1, _⟩ := HX.out.cellsV (.tail _ (.tail _ (.tail _ (.tail _ (.tail _ (.head _))))))
          obtain ⟨t0, t1, _⟩ := HX.out.cellsV (.tail _ (.tail _ (.tail _ (.head _))))
          obtain ⟨u0, u1, _⟩ := HX.out.cellsV (.tail _ (.tail _ (.head _)))
          exact ⟨i0, i1, j0, j1, t0, t1, u0, u1⟩) (fun hHeld => ?_)
      clear hK K
      generalize (w8.setCell ⟨B0 + 1 + 1 + 1, 0, none⟩ (.bool zr)).setCell ⟨B0 + 1 + 1 + 1, 1, none⟩ (.slice R n3 cr) = w9 at HX hHeld ⊢
      try dsimp only [List.getElem_toArray, List.getElem_cons_succ, List.getElem_cons_zero]
      try simp only [Act.put, List.setIfInBounds_toArray, List.set_cons_zero, List.set_cons_succ]
      refine wpAnyH_ready (rs := [11]) (by kernel_rfl) (by simp) ?_
      refine AllReadyH.cons (o := _) rfl (fun K hK => ?_) AllReadyH.nil
      obtain ⟨d0, d1, dl⟩ := HX.out.cellsV (.tail _ (.tail _ (.tail _ (.tail _ (.head _)))))
      obtain ⟨f0, f1⟩ := HX.out.frozenV (.tail _ (.tail _ (.tail _ (.tail _ (.head _)))))
      go_simp
      clear d0 d1 dl f0 f1
      have HX1 := Lib.hid (HX.out.setV (vs' := [(B0 + 1 + 1 + 1, .bool zr, .slice R n3 cr), (B0 + 1 + 1, .bool zq, .slice Q n7 cq), (Bt + 1, .bool zm, .slice M nm cm), (Bt, .bool zr, .slice R n3 cr), (B0 + 1, .bool q, .slice A' n' c'), (B0, .bool p, .slice A n c)]) (.tail _ (.tail _ (.tail _ (.tail _ (.head _))))) (by have := HSZ.out; have := HLT.out; omega) (List.forall_mem_cons.2 ⟨⟨(.head _), by dsimp only; have := HLT.out; omega⟩, (List.forall_mem_cons.2 ⟨⟨(.tail _ (.head _)), by dsimp only; have := HLT.out; omega⟩, (List.forall_mem_cons.2 ⟨⟨(.tail _ (.tail _ (.head _))), by dsimp only; have := HLT.out; omega⟩, (List.forall_mem_cons.2 ⟨⟨(.tail _ (.tail _ (.tail _ (.head _)))), by dsimp only; have := HLT.out; omega⟩, (List.forall_mem_cons.2 ⟨⟨(.tail _ (.tail _ (.tail _ (.tail _ (.tail _ (.head _)))))), by dsimp only; have := HLT.out; omega⟩, (List.forall_mem_cons.2 ⟨⟨(.tail _ (.tail _ (.tail _ (.tail _ (.tail _ (.tail _ (.head _))))))), by dsimp only; have := HLT.out; omega⟩, (fun _ h => by cases h)⟩)⟩)⟩)⟩)⟩)⟩) (.bool zm) (.slice M nm cm))
      clear HX
      have HX := Lib.hid HX1.out
      clear HX1
      refine hK.out _ _ (by
          obtain ⟨i0, i1, _⟩ := HX.out.cellsV (.tail _ (.tail _ (.tail _ (.tail _ (.tail _ (.tail _ (.head _)))))))
          obtain ⟨j0, j1, _⟩ := HX.out.cellsV (.tail _ (.tail _ (.tail _ (.tail _ (.tail _ (.head _))))))
          obtain ⟨t0, t1, _⟩ := HX.out.cellsV (.tail _ (.tail _ (.tail _ (.tail _ (.head _)))))
          obtain ⟨u0, u1, _⟩ := HX.out.cellsV (.tail _ (.tail _ (.tail _ (.head _))))
          exact ⟨i0, i1, j0, j1, t0, t1, u0, u1⟩) (fun hHeld => ?_)
      clear hK K
      generalize (w9.setCell ⟨B0 + 1 + 1 + 1 + 1, 0, none⟩ (.bool zm)).setCell ⟨B0 + 1 + 1 + 1 + 1, 1, none⟩ (.slice M nm cm) = w10 at HX hHeld ⊢
      try dsimp only [List.getElem_toArray, List.getElem_cons_succ, List.getElem_cons_zero]
      try simp only [Act.put, List.setIfInBounds_toArray, List.set_cons_zero, List.set_cons_succ]
      refine wpAnyH_done (by kernel_rfl) ?_ _
      obtain ⟨l0, l1, ll⟩ := HX.out.cellsV (.tail _ (.tail _ (.head _)))
      obtain ⟨m0, m1, ml⟩ := HX.out.cellsV (.tail _ (.head _))
      obtain ⟨o0, o1, ol⟩ := HX.out.cellsV (.head _)
      go_wp2_with fail
      refine bodyPost_ret (v := .tuple #[numArg zq Q n7 cq, numArg zr R n3 cr, numArg zm M nm cm]) (by simp [results, Tryd.results32, go_sem, l0, l1, m0, m1, o0, o1]) rfl ⟨Q, n7, cq, R, n3, cr, M, nm, cm, rfl, ?_, ?_, ?_, HX.out.k⟩
      · rw [show (x.tdiv y).natAbs = x.natAbs / y.natAbs from HNQ.out]; exact (HX.out.b _ (.head _))
      · rw [show (x.tmod y).natAbs = x.natAbs % y.natAbs from HNR.out]; exact (HX.out.b _ (.tail _ (.tail _ (.head _))))
      · exact (HX.out.b _ (.tail _ (.head _)))
end Go.Proofs.YtdfekphahdmffaaDoor
