/-
  The document's memory: Give.
-/
import Derived.Test.YtgnpeciedefeiaaRefTake
import Derived.Deep.RegionLaw
namespace Go.Proofs.Ytgnpeciedefeiaa
open Go.RowKit

/-- append to a slice that is owned, as one step of a region that draws. -/
theorem step_append_own {P : Program} {ops : Array Oper} {o : Oper} {a : Act} {w : World} {K : Act → World → Prop} {Q : Exit → Act → World → Prop} {E : Prop}
    (hg : o.guard = none) (s x : Operand) (t : TypeId) (hop : o.op = Op.call { callee := Callee.builtin Builtin.append, args := #[s, x], argTypes := #[t, t] })
    (base : Nat) (e : TypeId) (i : TypeInfo) (z : Value) (size bytes : Nat) (h1 : P.underlying t = some (.slice e)) (h2 : P.info? e = some i) (h3 : i.zero = some z) (h4 : i.size = size) (h5 : i.bytes = bytes) (h6 : z.cells.size = size) (h7 : 0 < size)
    (v : Value) (n : Nat) (xs : List Value) (hs : a.eval s = v) (hown : w.ownsRow base e size v n xs)
    (ad : Addr) (m c : Nat) (news : List Value) (hx : a.eval x = .slice (some ad) m c) (hn : news.length = m * size) (hc : ∀ j u, news[j]? = some u → w.cell? (ad.add j) = some u) (h1c : ∀ u ∈ news, u.oneCell' = true)
    (b1 : n + m ≤ maxLen) (b2 : (n + m) * bytes ≤ 140737488355328) (hb : base ≤ w.heap.size)
    (hK : ∀ v' w', w'.ownsRow base e size v' (n + m) (xs ++ news) → w.grownBy w' v.ownBlock → K (a.put o.dst v') w') :
    if Region.wanted o (yielded ops a.tmps) = true then Oper.wp P o a w K Q else E := by
  have hw : Region.wanted o (yielded ops a.tmps) = true := by simp [Region.wanted, hg]
  rw [if_pos hw]
  obtain ⟨v', w', hrun, r1, r2, _⟩ := run_append_own (P := P) w base t o.type e i z size bytes h1 h2 h3 h4 h5 h6 h7 v n xs hown ad m c news hn hc h1c b1 b2 hb
  unfold Oper.wp
  simp [execOp, hop, resolve, invoke, builtin, hs, hx, hrun, Result.andThen]
  exact hK v' w' r1 r2

def GiveRef (base q : Nat) (M : MemV) (seg : Int) (w : World) (e : Ending) (w' : World) : Prop :=
  ∃ (M' : MemV) (L' : List Nat) (f : Int), e = .returned (.int .i64 f) ∧ RefAt w' base q M' L' ∧ Keep (RefS w base) w w' ∧ GiveR M seg f M'

theorem rcells_append (M : MemV) (wv : Nat → Value) (l1 l2 : List Nat) : rcells M wv (l1 ++ l2) = rcells M wv l1 ++ rcells M wv l2 := by
  refine List.ext_getElem? fun o => ?_
  by_cases ho : o < (l1.length + l2.length) * 9
  · obtain ⟨j, e, rfl, hj, he⟩ : ∃ j e, o = j * 9 + e ∧ j < l1.length + l2.length ∧ e < 9 := ⟨o / 9, o % 9, by omega, by omega, by omega⟩
    rw [rcells_get M wv (l1 ++ l2) j e (by simpa using hj) he, List.getElem?_append]
    by_cases h : j < l1.length
    · rw [if_pos (by rw [rcells_len]; omega), rcells_get M wv l1 j e h he]
      simp [List.getD_eq_getElem?_getD, List.getElem?_append, h]
    · rw [if_neg (by rw [rcells_len]; omega), rcells_len, show j * 9 + e - l1.length * 9 = (j - l1.length) * 9 + e from by omega, rcells_get M wv l2 _ e (by omega) he]
      simp [List.getD_eq_getElem?_getD, List.getElem?_append, h]
  · rw [List.getElem?_eq_none (by rw [rcells_len, List.length_append]; omega), List.getElem?_eq_none (by rw [List.length_append, rcells_len, rcells_len]; omega)]

theorem rc_one (M : MemV) (wv : Nat → Value) (L : List Nat) (hw : ∀ i ∈ L, (wv i).oneCell' = true) : ∀ u ∈ rcells M wv L, u.oneCell' = true := by
  intro u hu
  unfold rcells at hu
  obtain ⟨o, ho, rfl⟩ := List.mem_map.1 hu
  have ho' := List.mem_range.1 ho
  have hm : L.getD (o / 9) 0 ∈ L := by
    rw [List.getD_eq_getElem?_getD, List.getElem?_eq_getElem (by omega)]
    exact List.getElem_mem _
  have : o % 9 < 9 := Nat.mod_lt _ (by decide)
  generalize o % 9 = f at this
  match f, this with
  | 0, _ | 1, _ | 2, _ | 3, _ | 4, _ | 5, _ | 6, _ | 7, _ => rfl
  | 8, _ => exact hw _ hm
theorem own_one {w : World} {base : Nat} {e : TypeId} {size : Nat} {v : Value} {n : Nat} {xs : List Value} (h : w.ownsRow base e size v n xs) : v.oneCell' = true := by
  obtain ⟨A, c, rfl⟩ := own_shape h
  rfl

/-- The cells of a part of the list, at its place. -/
theorem part_at {w : World} {base g cap : Nat} {M : MemV} {wv : Nat → Value} {l1 l2 l3 : List Nat} {n : Nat} (h : w.ownsRow base 125 9 (.slice (some ⟨g, 0, none⟩) n cap) n (rcells M wv (l1 ++ (l2 ++ l3)))) :
    ∀ j u, (rcells M wv l2)[j]? = some u → w.cell? ⟨g, l1.length * 9 + j, none⟩ = some u := by
  intro j u hj
  have hjl : j < l2.length * 9 := by
    rcases Nat.lt_or_ge j (l2.length * 9) with h' | h'
    · exact h'
    · rw [List.getElem?_eq_none (by rw [rcells_len]; exact h')] at hj; cases hj
  have hlen := h.1
  rw [rcells_len, List.length_append, List.length_append] at hlen
  rw [h.cellAt _ (by omega), rcells_append, rcells_append, List.getElem?_append, if_neg (by rw [rcells_len]; omega), rcells_len, show l1.length * 9 + j - l1.length * 9 = j from by omega, List.getElem?_append, if_pos (by rw [rcells_len]; exact hjl)]
  exact hj

/-- Behind the gift of k. -/
theorem RefAtN.given {w w2 : World} {base q : Nat} {M : MemV} {l1 l2 : List Nat} {k : Nat} {v v' : Value} {wv : Nat → Value} (R : RefAtN w base q M (l1 ++ k :: l2) v wv (cntOf M)) (T : TakenL M [] (l1 ++ k :: l2))
    (hown : w2.ownsRow base 125 9 v' (l1.length + l2.length) (rcells M wv l1 ++ rcells M wv l2)) (K : Keep (fun _ => False) w w2) : RefAt (w2.setCell ⟨q, 1, none⟩ v') base q (M.gave k) (l1 ++ l2) := by
  have hnd := nodup_of_rise _ T.rise
  rw [List.nodup_append] at hnd
  obtain ⟨_, hn2, hn3⟩ := hnd
  rw [List.nodup_cons] at hn2
  have hne : ∀ i ∈ l1 ++ l2, i ≠ k := by
    intro i hi e
    subst e
    rcases List.mem_append.1 hi with hi | hi
    · exact hn3 i hi i (List.mem_cons_self ..) rfl
    · exact hn2.1 hi
  have hin : ∀ i ∈ l1 ++ l2, i ∈ l1 ++ k :: l2 := by
    intro i hi
    rcases List.mem_append.1 hi with hi | hi
    · exact List.mem_append.2 (.inl hi)
    · exact List.mem_append.2 (.inr (List.mem_cons_of_mem _ hi))
  have hsg : ∀ i, i ≠ k → (M.gave k).sg i = M.sg i := fun i e => by simp [MemV.gave, MemV.put, e]
  have hhead := (K.block q R.lt (by simp)).trans R.head
  have notq : ∀ {e : TypeId} {size n : Nat} {v : Value} {xs : List Value}, w2.ownsRow base e size v n xs → e ≠ 120 → v.ownBlock ≠ some q := by
    intro e size n v xs h he hb
    obtain ⟨_, c, hc⟩ := own_type h hb
    rw [hhead] at hc
    injection hc with hc
    injection hc with _ hc _
    exact he hc.symm
  have hw : ∀ i ∈ l1 ++ l2, w2.ownsRow base 29 1 (wv i) (cntOf M i) (wcells (M.sg i) (cntOf M i)) := fun i hi => own_keep K (R.words i (hin i hi)) (fun _ _ => id)
  refine ⟨T.gave, v', wv, R.bq, ?_, ?_, fun i hi => ?_, fun i hi j hj => R.sep i (hin i hi) j (hin j hj)⟩
  · simp [World.setCell, Array.getElem?_modify, hhead]
    rfl
  · rw [← rcells_append, rcells_ext (M := M) (M' := M.gave k) (wv := wv) (wv' := wv) (L := l1 ++ l2) ?_] at hown
    · rw [List.length_append]
      exact own_setOther hown _ _ (notq hown (by decide))
    · intro i hi f hf
      have e := hne i hi
      match f, hf with
      | 0, _ | 1, _ | 2, _ | 3, _ | 4, _ | 5, _ | 6, _ | 7, _ | 8, _ => simp [rc, hsg i e]
  · have e := hne i hi
    rw [show cntOf (M.gave k) i = cntOf M i from by simp [cntOf, hsg i e], hsg i e]
    exact own_setOther (hw i hi) _ _ (notq (hw i hi) (by decide))

set_option maxRecDepth 10000 in
set_option maxHeartbeats 1600000 in
theorem give_ref {w : World} {base q : Nat} {M : MemV} {L : List Nat} (R0 : RefAt w base q M L) (ok : M.Ok) (seg : Int) :
    Calls Try.prog 64 #[.pointer (some ⟨q, 0, none⟩), .int .i64 seg] w (GiveRef base q M seg w) := by
  obtain ⟨T, v, wv, R⟩ := id R0
  obtain ⟨i0, hi0, hz0, hz1, hz2⟩ := info_parts info125
  have hl : L.length ≤ 1024 := by have := T.len; have := sel_len M [] M.lim; have := ok.l1024; omega
  obtain ⟨c0, c1⟩ := R.cells
  go_enter Try.func64, Try.ntmps64
  go_wp2_with fail
  refine (place_any R T hl _).mono ?_
  rintro e w' ⟨rfl, hP⟩
  rcases hP with ⟨hn, rfl⟩ | ⟨i, hi, hs, rfl⟩
  · have HN := Lib.hid hn
    clear hn
    go_wp2_with fail
    go_ret
    exact ⟨M, L, _, rfl, R0, Keep.refl _ _, .inl ⟨HN.out, rfl, rfl⟩⟩
  · obtain ⟨g, cap, rfl, hg, hf, hrow⟩ := R.row hi
    have hfr := R.frozen 1
    have hql := R.lt
    have hcap : L.length ≤ cap := by
      rcases R.own.2 with ⟨h, _⟩ | ⟨g', cap', cur, h, _, _, h2, _⟩
      · cases h
      · injection h with _ _ h; subst h; exact h2
    obtain ⟨l1, k, l2, hL, hl1⟩ : ∃ l1 k l2, L = l1 ++ k :: l2 ∧ l1.length = i := ⟨L.take i, L[i], L.drop (i + 1), by rw [List.getElem_cons_drop, List.take_append_drop], by rw [List.length_take]; omega⟩
    have hk : L.getD i 0 = k := by rw [hL, List.getD_eq_getElem?_getD, List.getElem?_append_right (by omega), hl1]; simp
    rw [hk] at hs
    have hlen : L.length = i + 1 + l2.length := by rw [hL, List.length_append, List.length_cons, hl1]; omega
    have hwf := rc_one M wv L (fun i hi => own_one (R.words i hi))
    have hbase : base ≤ w.heap.size := by have := R.bq; omega
    have hT := T.mem (R.memL hi)
    rw [hk] at hT
    have hO1 : ∀ u ∈ rcells M wv l1, u.oneCell' = true := fun u hu => hwf u (by rw [hL, rcells_append]; exact List.mem_append.2 (.inl hu))
    have hO2 : ∀ u ∈ rcells M wv l2, u.oneCell' = true := fun u hu => hwf u (by rw [show L = (l1 ++ [k]) ++ l2 from by rw [hL]; simp, rcells_append]; exact List.mem_append.2 (.inr hu))
    have hR1 := R.own
    rw [show rcells M wv L = rcells M wv ([] ++ (l1 ++ (k :: l2))) from by rw [hL]; rfl] at hR1
    have hR2 := R.own
    rw [show rcells M wv L = rcells M wv ((l1 ++ [k]) ++ (l2 ++ [])) from by rw [hL]; simp] at hR2
    have KA : Keep (fun _ => False) w (w.alloc (.cells #[] 125)) := (Keep.refl _ _).alloc _
    have hadd : ∀ (o j : Nat), ((⟨g, o, none⟩ : Addr).add j) = ⟨g, o + j, none⟩ := fun o j => by simp [Addr.add]
    have hP1 : ∀ j u, (rcells M wv l1)[j]? = some u → (w.alloc (.cells #[] 125)).cell? ((⟨g, 0, none⟩ : Addr).add j) = some u := fun j u hj => by
      rw [hadd, (KA.cell (p := ⟨g, 0 + j, none⟩) hg (by simp))]
      have := part_at hR1 j u hj
      simpa using this
    have hP2 : ∀ (w1 : World), Keep (fun _ => False) w w1 → ∀ j u, (rcells M wv l2)[j]? = some u → w1.cell? ((⟨g, (i + 1) * 9, none⟩ : Addr).add j) = some u := fun w1 K j u hj => by
      rw [hadd, (K.cell (p := ⟨g, (i + 1) * 9 + j, none⟩) hg (by simp))]
      have := part_at hR2 j u hj
      rwa [List.length_append, hl1] at this
    have hmade : (w.alloc (.cells #[] 125)).ownsRow w.heap.size 125 9 (.slice (some ⟨w.heap.size, 0, none⟩) 0 0) 0 [] := World.ownsRow_made w #[] 0 (Nat.le_refl _) (by decide) rfl
    have fin : ∀ (w2 : World) (A2 : Option Addr) (c2 : Nat), w2.ownsRow w.heap.size 125 9 (.slice A2 L.length.pred c2) L.length.pred (rcells M wv l1 ++ rcells M wv l2) → Keep (fun _ => False) w w2 → GiveRef base q M seg w (.returned (.int .i64 0)) (w2.setCell ⟨q, 1, none⟩ (.slice A2 L.length.pred c2)) := by
      intro w2 A2 c2 ho K
      subst hL
      have e : (l1 ++ k :: l2).length.pred = l1.length + l2.length := by simp
      rw [e] at ho ⊢
      exact ⟨M.gave k, l1 ++ l2, 0, rfl, R.given T (own_mono ho hbase) K, (K.mono (fun _ _ h => h.elim)).setCell (.inl R.isQ) _, .inr ⟨k, hs, hT.1, hT.2, rfl, rfl⟩⟩
    have HFin := Lib.hid fin
    have HP2 := Lib.hid hP2
    have hn1 : ¬ w.heap.size = q := by omega
    have hn2 : ¬ q = w.heap.size := by omega
    have hi1 : (i : Int) ≤ 1024 := by omega
    have hic : i ≤ cap := by omega
    have hic1 : i + 1 ≤ cap := by omega
    have hil : i + 1 ≤ L.length := by omega
    have h00 : (0 : Int) ≤ (i : Int) + 1 := by omega
    have h01 : (i : Int) + 1 ≤ (L.length : Int) := by omega
    have hcc : (i : Int) ≤ (i : Int) + 1 := by omega
    have hd1 : L.length.pred = i + (L.length - (i + 1)) := by simp; omega
    have Hd1 := Lib.hid hd1
    clear hd1
    have hwrap : IntKind.i64.wrap ((i : Int) + 1) = (i : Int) + 1 := by simp [IntKind.wrap, IntKind.signed, IntKind.bits]; omega
    have Hl1 := Lib.hid hl1
    have Hlen := Lib.hid hlen
    have HR := Lib.hid R
    have lay : ∀ (w1 : World), Keep (fun _ => False) w w1 → w1.cell? ⟨q, 1, none⟩ = some (.slice (some ⟨g, 0, none⟩) L.length cap) ∧ w1.frozen? ⟨q, 1, none⟩ = false := fun w1 K => ⟨(K.cell (p := ⟨q, 1, none⟩) hql (by simp)).trans c1, (K.frozen (p := ⟨q, 1, none⟩) hql (by simp)).trans hfr⟩
    have HLay := Lib.hid lay
    have HP1 := Lib.hid hP1
    have HO1 := Lib.hid hO1
    have HO2 := Lib.hid hO2
    have Hmade := Lib.hid hmade
    clear hs hk hT hrow hf T R hlen hL hl1 fin hP2 lay hP1 hO1 hO2 hR1 hR2 hadd hmade hwf KA R0
    go_wp2_with fail
    by_cases hce : cap = i + 1
    · have hl2 : l2 = [] := List.eq_nil_of_length_eq_zero (by have := Hlen.out; omega)
      have Hl2 := Lib.hid hl2
      clear hl2
      go_region_law (first
        | (refine step_append_own rfl (.tmp 12) (.tmp 18) 118 rfl w.heap.size 125 i0 _ 9 88 Try.underlying118 hi0 hz0 hz1 hz2 rfl (by decide) (.slice (some ⟨w.heap.size, 0, none⟩) 0 0) 0 [] (by rfl) (by exact Hmade.out) ⟨g, 0, none⟩ i _ (rcells M wv l1) (by rfl) (by rw [rcells_len, Hl1.out]) (by exact HP1.out) HO1.out (by unfold maxLen; omega) (by omega) (by simp) ?_; intro v1 w1 hown1 hgrow1; have K1 : Keep (fun _ => False) w w1 := (((Keep.refl (fun _ => False) w).alloc (.cells #[] 125)).drew).join (Keep.of_grown hgrow1) (fun b hb h => by simp [Value.ownBlock] at h; omega); obtain ⟨hq1, hf1⟩ := HLay.out w1 K1; have HK1 := Lib.hid K1; have HOwn1 := Lib.hid hown1; clear hown1 hgrow1 K1)
        | (refine step_append_own rfl (.tmp 19) (.tmp 26) 118 rfl w.heap.size 125 i0 _ 9 88 Try.underlying118 hi0 hz0 hz1 hz2 rfl (by decide) _ (0 + i) _ (by rfl) (by exact HOwn1.out) ⟨g, 0, none⟩ (L.length - (i + 1)) _ (rcells M wv l2) (by rfl) (by rw [rcells_len]; have := Hlen.out; omega) (by rw [Hl2.out]; intro j u hj; simp [rcells] at hj) HO2.out (by unfold maxLen; omega) (by omega) (by have := HK1.out.size; exact this) ?_; intro v2 w2 hown2 hgrow2; have K2 : Keep (fun _ => False) w w2 := HK1.out.join (Keep.of_grown hgrow2) (fun b hb h => by have := (HOwn1.out.lt b h.symm).1; omega); obtain ⟨hq2, hf2⟩ := HLay.out w2 K2; obtain ⟨A2, cp2, rfl⟩ := own_shape hown2; have HK2 := Lib.hid K2; have HOwn2 := Lib.hid hown2; clear hown2 hgrow2 K2))
      all_goals go_wp2_with fail
      all_goals go_ret
      all_goals
        have hfin := HFin.out _ _ _ (by rw [Hd1.out]; simpa using HOwn2.out) HK2.out
        rw [Hd1.out] at hfin
        exact hfin
    · have hce' : ¬ i + 1 = cap := fun e => hce e.symm
      go_region_law (first
        | (refine step_append_own rfl (.tmp 12) (.tmp 18) 118 rfl w.heap.size 125 i0 _ 9 88 Try.underlying118 hi0 hz0 hz1 hz2 rfl (by decide) (.slice (some ⟨w.heap.size, 0, none⟩) 0 0) 0 [] (by rfl) (by exact Hmade.out) ⟨g, 0, none⟩ i _ (rcells M wv l1) (by rfl) (by rw [rcells_len, Hl1.out]) (by exact HP1.out) HO1.out (by unfold maxLen; omega) (by omega) (by simp) ?_; intro v1 w1 hown1 hgrow1; have K1 : Keep (fun _ => False) w w1 := (((Keep.refl (fun _ => False) w).alloc (.cells #[] 125)).drew).join (Keep.of_grown hgrow1) (fun b hb h => by simp [Value.ownBlock] at h; omega); obtain ⟨hq1, hf1⟩ := HLay.out w1 K1; have HK1 := Lib.hid K1; have HOwn1 := Lib.hid hown1; clear hown1 hgrow1 K1)
        | (refine step_append_own rfl (.tmp 19) (.tmp 26) 118 rfl w.heap.size 125 i0 _ 9 88 Try.underlying118 hi0 hz0 hz1 hz2 rfl (by decide) _ (0 + i) _ (by rfl) (by exact HOwn1.out) ⟨g, (i + 1) * 9, none⟩ (L.length - (i + 1)) _ (rcells M wv l2) (by rfl) (by rw [rcells_len]; have := Hlen.out; omega) (by exact HP2.out _ HK1.out) HO2.out (by unfold maxLen; omega) (by omega) (by have := HK1.out.size; exact this) ?_; intro v2 w2 hown2 hgrow2; have K2 : Keep (fun _ => False) w w2 := HK1.out.join (Keep.of_grown hgrow2) (fun b hb h => by have := (HOwn1.out.lt b h.symm).1; omega); obtain ⟨hq2, hf2⟩ := HLay.out w2 K2; obtain ⟨A2, cp2, rfl⟩ := own_shape hown2; have HK2 := Lib.hid K2; have HOwn2 := Lib.hid hown2; clear hown2 hgrow2 K2))
      all_goals go_wp2_with fail
      all_goals go_ret
      all_goals
        have hfin := HFin.out _ _ _ (by rw [Hd1.out]; simpa using HOwn2.out) HK2.out
        rw [Hd1.out] at hfin
        exact hfin
end Go.Proofs.Ytgnpeciedefeiaa
