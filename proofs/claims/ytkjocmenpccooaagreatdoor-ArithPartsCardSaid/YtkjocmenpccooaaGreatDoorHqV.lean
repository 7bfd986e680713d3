/-
  A region that draws its order, by an invariant that whichever operation comes up keeps.
-/
import Derived.Test.YtkjocmenpccooaaGreatDoorHqX
namespace Go.Proofs.YtkjocmenpccooaaGreatDoor
open Go.RowKit

/-- How many are still to come up. -/
def toCome (l : Array Bool) : Nat := l.toList.count false
theorem count_set : ∀ (l : List Bool) (i : Nat), l[i]? = some false → (l.set i true).count false + 1 = l.count false := by
  intro l
  induction l with
  | nil => intro i h; simp at h
  | cons b l ih =>
    intro i h
    cases i with
    | zero =>
      simp only [List.getElem?_cons_zero, Option.some.injEq] at h
      subst h
      simp
    | succ i =>
      simp only [List.getElem?_cons_succ] at h
      have := ih i h
      cases b <;> simp <;> omega
theorem toCome_set (l : Array Bool) (i : Nat) (h : l.getD i true = false) : toCome (l.setIfInBounds i true) + 1 = toCome l := by
  unfold toCome
  rw [Array.toList_setIfInBounds]
  refine count_set _ _ ?_
  rw [Array.getD_eq_getD_getElem?] at h
  rw [← Array.getElem?_toList] at h
  cases hh : l.toList[i]? with
  | none => rw [hh] at h; exact absurd h (by decide)
  | some b => rw [hh] at h; simp only [Option.getD_some] at h; rw [h]
theorem any_inv {P : Program} {md : Region.Mode} {ops : Array Oper} {Q : Exit → Act → World → Prop} (Inv : Array Bool → Act → World → Prop)
    (step : ∀ listed a w i, Inv listed a w → i ∈ Region.ready md ops listed → wpOp P ops Q i (fun a' w' => Inv (listed.setIfInBounds i true) a' w') a w)
    (fin : ∀ listed a w, Inv listed a w → Region.ready md ops listed = [] → Q .normal a w) :
    ∀ (fuel : Nat) (listed : Array Bool) (a : Act) (w : World), toCome listed ≤ fuel → Inv listed a w → wpAny P md ops Q fuel listed a w := by
  intro fuel
  induction fuel with
  | zero =>
    intro listed a w hc hi
    have hr : Region.ready md ops listed = [] := by
      rcases List.eq_nil_or_concat (Region.ready md ops listed) with h | ⟨l, i, h⟩
      · exact h
      · exfalso
        have hm : i ∈ Region.ready md ops listed := by rw [h]; simp
        have := toCome_set listed i (mem_ready.1 hm).1
        omega
    exact ⟨hr, fin _ _ _ hi hr⟩
  | succ fuel ih =>
    intro listed a w hc hi
    refine ⟨fin _ _ _ hi, fun i hm => ?_⟩
    refine wpOp_mono (fun a' w' h => ih _ a' w' ?_ h) (step listed a w i hi hm)
    have := toCome_set listed i (mem_ready.1 hm).1
    omega
/-- The region, by such an invariant. -/
theorem region_inv {P : Program} {ops : Array Oper} {Q : Exit → Act → World → Prop} {id : Nat} {a : Act} {w : World} (hm : P.follows .mixedOrders = true) (Inv : Array Bool → Act → World → Prop)
    (start : Inv (Array.replicate ops.size false) a w.drew)
    (step : ∀ listed a w i, Inv listed a w → i ∈ Region.ready .any ops listed → wpOp P ops Q i (fun a' w' => Inv (listed.setIfInBounds i true) a' w') a w)
    (fin : ∀ listed a w, Inv listed a w → Region.ready .any ops listed = [] → Q .normal a w) : (Code.region id ops true).wp P Q a w :=
  wp_region_any hm (any_inv Inv step fin ops.size _ a _ (by
    unfold toCome
    rw [Array.toList_replicate]
    exact Nat.le_trans (List.count_le_length ..) (by simp)) start)
/-! One operation. -/
section
variable {P : Program} {ops : Array Oper} {Q : Exit → Act → World → Prop} {i : Nat} {a : Act} {w : World} {K : Act → World → Prop} {o : Oper}
theorem op_run {v : Value} {w' : World} (ho : ops[i]? = some o) (hw : Region.wanted o (yielded ops a.tmps) = true) (hx : (execOp a.eval o).run P w = .ok (.value v) w') (hK : K (a.put o.dst v) w') : wpOp P ops Q i K a w := by
  unfold wpOp
  simp only [ho, hw, if_true]
  refine .inl ?_
  unfold Oper.wp
  rw [hx]
  exact hK
theorem op_shut (ho : ops[i]? = some o) (hw : Region.wanted o (yielded ops a.tmps) = false) (hK : K (a.put o.dst undef) w) : wpOp P ops Q i K a w := by
  unfold wpOp
  simp only [ho, hw, Bool.false_eq_true, if_false]
  exact hK
theorem op_skip {w' : World} (ho : ops[i]? = some o) (hw : Region.wanted o (yielded ops a.tmps) = true) (hx : (execOp a.eval o).run P w = .ok .skip w') (hK : K (a.put o.dst undef) w') : wpOp P ops Q i K a w := by
  unfold wpOp
  simp only [ho, hw, if_true]
  refine .inl ?_
  unfold Oper.wp
  rw [hx]
  exact hK
theorem any_one {md : Region.Mode} {fuel : Nat} {listed : Array Bool} (hr : Region.ready md ops listed = [i]) (h : wpOp P ops Q i (wpAny P md ops Q fuel (listed.setIfInBounds i true)) a w) : wpAny P md ops Q (fuel + 1) listed a w := by
  refine ⟨fun h0 => (by rw [hr] at h0; cases h0), fun j hj => ?_⟩
  rw [hr] at hj
  obtain rfl := List.mem_singleton.1 hj
  exact h
theorem op_call {f : FuncId} {args : Array Value} {Post : Ending → World → Prop} (ho : ops[i]? = some o) (hw : Region.wanted o (yielded ops a.tmps) = true) (hx : (execOp a.eval o).run P w = .ok (.enter f args) w) (hc : Calls P f args w Post)
    (hp : ∀ e w', Post e w' → ∃ v, e = .returned v ∧ K (a.put o.dst v) w') : wpOp P ops Q i K a w := by
  unfold wpOp
  simp only [ho, hw, if_true]
  refine .inl ?_
  unfold Oper.wp
  rw [hx]
  refine Calls.mono hc (fun e w' he => ?_)
  obtain ⟨v, rfl, hk⟩ := hp e w' he
  exact hk
end
theorem getD_some {l : Array Value} {s : Nat} {v : Value} (h : l.getD s undef = v) (hv : v ≠ undef) : l[s]? = some v := by
  rw [Array.getD_eq_getD_getElem?] at h
  cases hh : l[s]? with
  | none => rw [hh] at h; exact absurd h.symm hv
  | some x => rw [hh] at h; rw [show x = v from h]
theorem yield_bool {ops : Array Oper} {tmps : Array Value} {k s : Nat} {t : Bool} (hd : (ops[k]?).bind (·.dst) = some s) (h : tmps.getD s undef = .bool t) : yielded ops tmps k = some t := by
  unfold yielded
  rw [hd]
  show (match tmps[s]? with | some (.bool b) => some b | _ => none) = _
  rw [getD_some h (by unfold undef; intro e; cases e)]
theorem yield_undef {ops : Array Oper} {tmps : Array Value} {k s : Nat} (hd : (ops[k]?).bind (·.dst) = some s) (h : tmps.getD s undef = undef) : yielded ops tmps k = none := by
  unfold yielded
  rw [hd]
  show (match tmps[s]? with | some (.bool b) => some b | _ => none) = _
  rw [Array.getD_eq_getD_getElem?] at h
  cases hh : tmps[s]? with
  | none => rfl
  | some x => rw [hh] at h; rw [show x = undef from h]; rfl
/-- Does operation i wait for j? -/
def depB (ops : Array Oper) (i j : Nat) : Bool := ((ops[i]?).map fun o => o.after.any fun e => Region.binds .any e && (e.on == j)).getD false
def backB (ops : Array Oper) : Bool := (List.range ops.size).all fun i => ((ops[i]?).map fun o => o.after.all fun e => decide (e.on < i)).getD true
theorem dep_listed {ops : Array Oper} {listed : Array Bool} {i j : Nat} (hm : i ∈ Region.ready .any ops listed) (hd : depB ops i j = true) : listed.getD j false = true := by
  obtain ⟨_, o, ho, hall⟩ := mem_ready.1 hm
  unfold depB at hd
  rw [ho] at hd
  simp only [Option.map_some, Option.getD_some, Array.any_eq_true] at hd
  obtain ⟨k, hk, he⟩ := hd
  rw [Bool.and_eq_true] at he
  have := hall o.after[k] (Array.getElem_mem hk) he.1
  rwa [show o.after[k].on = j by simpa using he.2] at this
theorem all_listed {ops : Array Oper} {listed : Array Bool} (hb : backB ops = true) (hs : listed.size = ops.size) (hr : Region.ready .any ops listed = []) : ∀ i, i < ops.size → listed.getD i false = true := by
  intro i
  induction i using Nat.strongRecOn with
  | ind i ih =>
    intro hi
    cases hh : listed.getD i true with
    | true =>
      rw [Array.getD_eq_getD_getElem?] at hh ⊢
      rw [Array.getElem?_eq_getElem (by omega)] at hh ⊢
      exact hh
    | false =>
      exfalso
      have hm : i ∈ Region.ready .any ops listed := mem_ready.2 ⟨hh, ops[i], Array.getElem?_eq_getElem hi, fun e he _ => by
        unfold backB at hb
        have h1 := List.all_eq_true.1 hb i (List.mem_range.2 hi)
        rw [Array.getElem?_eq_getElem hi] at h1
        simp only [Option.map_some, Option.getD_some] at h1
        obtain ⟨k, hk, rfl⟩ := Array.mem_iff_getElem.1 he
        have h2 := of_decide_eq_true ((Array.all_eq_true.1 h1) k hk)
        exact ih _ h2 (by omega)⟩
      rw [hr] at hm
      cases hm
/-- The frame behind the region: what it does not write is as it was. -/
def mixL (p : Nat → Bool) (a : Act) : List Value → Nat → List Value
  | [], _ => []
  | x :: l, k => (bif p k then a.tmps.getD k undef else x) :: mixL p a l (k + 1)
theorem mixL_get (p : Nat → Bool) (a : Act) : ∀ (l : List Value) (k j : Nat), (mixL p a l k)[j]? = (l[j]?).map fun x => bif p (k + j) then a.tmps.getD (k + j) undef else x := by
  intro l
  induction l with
  | nil => intro k j; simp [mixL]
  | cons x l ih =>
    intro k j
    unfold mixL
    cases j with
    | zero => simp
    | succ j => rw [List.getElem?_cons_succ, List.getElem?_cons_succ, ih (k + 1) j, show k + 1 + j = k + (j + 1) by omega]
theorem mix_eq (p : Nat → Bool) {a a0 : Act} (hd : a.defers = a0.defers) (hs : a.tmps.size = a0.tmps.size) (hf : ∀ s, p s = false → a.tmps[s]? = a0.tmps[s]?) : a = ⟨(mixL p a a0.tmps.toList 0).toArray, a0.defers⟩ := by
  have ht : a.tmps = (mixL p a a0.tmps.toList 0).toArray := by
    refine Array.ext' (List.ext_getElem? (fun j => ?_))
    show a.tmps.toList[j]? = (mixL p a a0.tmps.toList 0)[j]?
    rw [mixL_get, Nat.zero_add]
    cases hp : p j with
    | false =>
      have := hf j hp
      simp only [Array.getElem?_toList, this]
      cases a0.tmps[j]? <;> rfl
    | true =>
      simp only [Array.getElem?_toList]
      by_cases hj : j < a.tmps.size
      · rw [Array.getElem?_eq_getElem hj, Array.getElem?_eq_getElem (by omega)]
        simp [Array.getD_eq_getD_getElem?, hj]
      · rw [Array.getElem?_eq_none (by omega), Array.getElem?_eq_none (by omega)]
        rfl
  exact congr (congrArg Act.mk ht) hd
/-- **A region that draws its order: what each operation leaves, told once.** D: the slots; T: what lies there. -/
theorem region_vals {P : Program} {ops : Array Oper} {Q : Exit → Act → World → Prop} {id : Nat} {a0 : Act} {w0 : World} (hm : P.follows .mixedOrders = true) (n : Nat) (hn : ops.size = n) (hb : backB ops = true)
    (D : Nat → Nat) (p : Nat → Bool) (hD : ∀ i, i < n → ∀ j, j < n → D i = D j → i = j) (hp : ∀ i, i < n → p (D i) = true) (hsz : ∀ i, i < n → D i < a0.tmps.size)
    (G : World → Prop) (hG : G w0.drew) (T : Nat → Value → World → Prop) (mono : ∀ i v w w', Keep (fun _ => False) w w' → T i v w → T i v w')
    (step : ∀ i, i < n → ∀ a w, G w → (∀ s, p s = false → a.tmps.getD s undef = a0.tmps.getD s undef) → (∀ j, depB ops i j = true → T j (a.tmps.getD (D j) undef) w) →
      ∀ K : Act → World → Prop, (∀ v w', G w' → Keep (fun _ => False) w w' → T i v w' → K (a.put (some (D i)) v) w') → wpOp P ops Q i K a w)
    (fin : ∀ a w, G w → (∀ i, i < n → T i (a.tmps.getD (D i) undef) w) → Q .normal ⟨(mixL p a a0.tmps.toList 0).toArray, a0.defers⟩ w) : (Code.region id ops true).wp P Q a0 w0 := by
  refine region_inv hm (fun listed a w => listed.size = n ∧ G w ∧ a.defers = a0.defers ∧ a.tmps.size = a0.tmps.size ∧ (∀ s, p s = false → a.tmps[s]? = a0.tmps[s]?) ∧ ∀ i, i < n → listed.getD i false = true → T i (a.tmps.getD (D i) undef) w) ?_ ?_ ?_
  · refine ⟨by simp [hn], hG, rfl, rfl, fun _ _ => rfl, fun i hi h => ?_⟩
    simp [Array.getD_eq_getD_getElem?, hn, hi] at h
  · rintro listed a w i ⟨hl, hg, hde, hs, hf, hT⟩ hr
    have hi : i < n := by
      obtain ⟨h1, o, ho, _⟩ := mem_ready.1 hr
      rw [← hn]
      rcases Nat.lt_or_ge i ops.size with h | h
      · exact h
      · rw [Array.getElem?_eq_none h] at ho; cases ho
    refine step i hi a w hg (fun s hps => by rw [Array.getD_eq_getD_getElem?, Array.getD_eq_getD_getElem?, hf s hps]) (fun j hj => ?_) _ ?_
    · have h1 := dep_listed hr hj
      refine hT j ?_ h1
      rcases Nat.lt_or_ge j n with h | h
      · exact h
      · rw [Array.getD_eq_getD_getElem?, Array.getElem?_eq_none (by omega)] at h1; cases h1
    · intro v w' hg' hk hv
      refine ⟨by simp [hl], hg', hde, by simp [Act.put, hs], fun s hps => ?_, fun j hj hlj => ?_⟩
      · have : D i ≠ s := fun e => by rw [← e, hp i hi] at hps; cases hps
        simp only [Act.put]
        rw [Array.getElem?_setIfInBounds_ne this]
        exact hf s hps
      · by_cases hij : i = j
        · subst hij
          have : (a.put (some (D i)) v).tmps.getD (D i) undef = v := by
            simp only [Act.put]
            rw [Array.getD_eq_getD_getElem?, Array.getElem?_setIfInBounds_self_of_lt (by rw [hs]; exact hsz i hi)]
            rfl
          rw [this]
          exact hv
        · have hne : D i ≠ D j := fun e => hij (hD i hi j hj e)
          have : (a.put (some (D i)) v).tmps.getD (D j) undef = a.tmps.getD (D j) undef := by
            simp only [Act.put]
            rw [Array.getD_eq_getD_getElem?, Array.getElem?_setIfInBounds_ne hne, Array.getD_eq_getD_getElem?]
          rw [this]
          refine mono j _ w w' hk (hT j hj ?_)
          rw [Array.getD_eq_getD_getElem?, Array.getElem?_setIfInBounds_ne hij, ← Array.getD_eq_getD_getElem?] at hlj
          exact hlj
  · rintro listed a w ⟨hl, hg, hde, hs, hf, hT⟩ hr
    have key := fin a w hg (fun i hi => hT i hi (all_listed hb (by omega) hr i (by omega)))
    rw [← mix_eq p hde hs hf] at key
    exact key
/-! The same, for a region whose last operations wait for all others. -/
def reachB (ops : Array Oper) : Nat → Nat → Nat → Bool
  | 0, _, _ => false
  | k + 1, i, j => depB ops i j || (List.range ops.size).any fun l => depB ops i l && reachB ops k l j
theorem reach_listed {ops : Array Oper} {listed : Array Bool} (hc : ∀ i j, listed.getD i false = true → depB ops i j = true → listed.getD j false = true) :
    ∀ (k i j : Nat), (∀ l, depB ops i l = true → listed.getD l false = true) → reachB ops k i j = true → listed.getD j false = true := by
  intro k
  induction k with
  | zero => intro i j _ h; cases h
  | succ k ih =>
    intro i j hi h
    unfold reachB at h
    rw [Bool.or_eq_true] at h
    rcases h with h | h
    · exact hi j h
    · obtain ⟨l, _, h1⟩ := List.any_eq_true.1 h
      rw [Bool.and_eq_true] at h1
      exact ih l j (fun l' h2 => hc l l' (hi l h1.1) h2) h1.2
theorem any_inv2 {P : Program} {md : Region.Mode} {ops : Array Oper} {Q : Exit → Act → World → Prop} (Inv : Array Bool → Act → World → Prop) (stop : Array Bool → Bool)
    (halt : ∀ listed a w, Inv listed a w → stop listed = true → wpAny P md ops Q (toCome listed) listed a w)
    (step : ∀ listed a w i, Inv listed a w → stop listed = false → i ∈ Region.ready md ops listed → wpOp P ops Q i (fun a' w' => Inv (listed.setIfInBounds i true) a' w') a w)
    (fin : ∀ listed a w, Inv listed a w → Region.ready md ops listed = [] → stop listed = true) :
    ∀ (fuel : Nat) (listed : Array Bool) (a : Act) (w : World), toCome listed = fuel → Inv listed a w → wpAny P md ops Q fuel listed a w := by
  intro fuel
  induction fuel with
  | zero =>
    intro listed a w hc hi
    cases hst : stop listed with
    | true => have := halt listed a w hi hst; rwa [hc] at this
    | false =>
      exfalso
      rcases List.eq_nil_or_concat (Region.ready md ops listed) with h | ⟨l, i, h⟩
      · rw [fin _ _ _ hi h] at hst; cases hst
      · have hm : i ∈ Region.ready md ops listed := by rw [h]; simp
        have := toCome_set listed i (mem_ready.1 hm).1
        omega
  | succ fuel ih =>
    intro listed a w hc hi
    cases hst : stop listed with
    | true => have := halt listed a w hi hst; rwa [hc] at this
    | false =>
      refine ⟨fun hr => (by rw [fin _ _ _ hi hr] at hst; cases hst), fun i hm => ?_⟩
      refine wpOp_mono (fun a' w' h => ih _ a' w' ?_ h) (step listed a w i hi hst hm)
      have := toCome_set listed i (mem_ready.1 hm).1
      omega
theorem region_vals2 {P : Program} {ops : Array Oper} {Q : Exit → Act → World → Prop} {id : Nat} {a0 : Act} {w0 : World} (hm : P.follows .mixedOrders = true) (n m : Nat) (hmn : m ≤ n) (hn : ops.size = n) (hb : backB ops = true)
    (hre : ((List.range n).all fun i => decide (i < m) || (List.range m).all fun j => reachB ops n i j) = true)
    (D : Nat → Nat) (p : Nat → Bool) (hD : ∀ i, i < m → ∀ j, j < m → D i = D j → i = j) (hp : ∀ i, i < m → p (D i) = true) (hsz : ∀ i, i < m → D i < a0.tmps.size)
    (G : World → Prop) (hG : G w0.drew) (A : Nat → Bool) (T : Nat → Value → World → Prop) (mono : ∀ i v w w', Keep (fun _ => False) w w' → T i v w → T i v w')
    (step : ∀ i, i < m → ∀ a w, G w → (∀ s, p s = false → a.tmps.getD s undef = a0.tmps.getD s undef) → (∀ j, depB ops i j = true → T j (a.tmps.getD (D j) undef) w) →
      ∀ K : Act → World → Prop, (∀ v w', G w' → Keep (fun _ => False) w w' → T i v w' → (A i = true → ∀ j u, A j = true → T j u w → u ≠ v) → K (a.put (some (D i)) v) w') → wpOp P ops Q i K a w)
    (fin : ∀ a w, G w → (∀ i, i < m → T i (a.tmps.getD (D i) undef) w) → (∀ i j, i < m → j < m → A i = true → A j = true → i ≠ j → a.tmps.getD (D i) undef ≠ a.tmps.getD (D j) undef) →
      a = ⟨(mixL p a a0.tmps.toList 0).toArray, a0.defers⟩ → wpAny P .any ops Q (n - m) (Array.replicate m true ++ Array.replicate (n - m) false) a w) : (Code.region id ops true).wp P Q a0 w0 := by
  refine wp_region_any hm (any_inv2 (fun listed a w => listed.size = n ∧ (∀ i j, listed.getD i false = true → depB ops i j = true → listed.getD j false = true) ∧ (∀ i, m ≤ i → listed.getD i false = false) ∧ G w ∧ a.defers = a0.defers ∧ a.tmps.size = a0.tmps.size ∧ (∀ s, p s = false → a.tmps[s]? = a0.tmps[s]?) ∧ (∀ i, i < m → listed.getD i false = true → T i (a.tmps.getD (D i) undef) w) ∧ (∀ i j, i < m → j < m → listed.getD i false = true → listed.getD j false = true → A i = true → A j = true → i ≠ j → a.tmps.getD (D i) undef ≠ a.tmps.getD (D j) undef))
    (fun listed => (List.range m).all fun i => listed.getD i false) ?_ ?_ ?_ ops.size _ a0 _ ?_ ?_)
  · rintro listed a w ⟨hl, _, hno, hg, hde, hs, hf, hT, hA⟩ hst
    have hall : ∀ i, i < m → listed.getD i false = true := fun i hi => List.all_eq_true.1 hst i (List.mem_range.2 hi)
    have he : listed = Array.replicate m true ++ Array.replicate (n - m) false := by
      refine Array.ext (by simp; omega) (fun i h1 h2 => ?_)
      by_cases hi : i < m
      · have := hall i hi
        rw [Array.getD_eq_getD_getElem?, Array.getElem?_eq_getElem h1] at this
        rw [Array.getElem_append_left (by simpa using hi)]
        simpa using this
      · have := hno i (by omega)
        rw [Array.getD_eq_getD_getElem?, Array.getElem?_eq_getElem h1] at this
        rw [Array.getElem_append_right (by simp; omega)]
        simpa using this
    have hc : toCome listed = n - m := by
      rw [he]
      unfold toCome
      simp [List.count_replicate]
    have key := fin a w hg (fun i hi => hT i hi (hall i hi)) (fun i j hi hj a1 a2 hne => hA i j hi hj (hall i hi) (hall j hj) a1 a2 hne) (mix_eq p hde hs hf)
    rw [← he, ← hc] at key
    exact key
  · rintro listed a w i ⟨hl, hcl, hno, hg, hde, hs, hf, hT, hA⟩ hst hr
    have hi : i < n := by
      obtain ⟨h1, o, ho, _⟩ := mem_ready.1 hr
      rw [← hn]
      rcases Nat.lt_or_ge i ops.size with h | h
      · exact h
      · rw [Array.getElem?_eq_none h] at ho; cases ho
    have hdl : ∀ j, depB ops i j = true → listed.getD j false = true := fun j hj => dep_listed hr hj
    have him : i < m := by
      rcases Nat.lt_or_ge i m with h | h
      · exact h
      · exfalso
        have h1 := List.all_eq_true.1 hre i (List.mem_range.2 hi)
        rw [decide_eq_false (by omega), Bool.false_or] at h1
        have : ((List.range m).all fun i => listed.getD i false) = true := List.all_eq_true.2 (fun j hj => reach_listed hcl n i j hdl (List.all_eq_true.1 h1 j hj))
        rw [this] at hst
        cases hst
    have hlt : ∀ j, listed.getD j false = true → j < m := fun j hj => by
      rcases Nat.lt_or_ge j m with h | h
      · exact h
      · rw [hno j h] at hj; cases hj
    refine step i him a w hg (fun s hps => by rw [Array.getD_eq_getD_getElem?, Array.getD_eq_getD_getElem?, hf s hps]) (fun j hj => hT j (hlt j (hdl j hj)) (hdl j hj)) _ ?_
    intro v w' hg' hk hv hfr
    have hgi : ∀ j, (listed.setIfInBounds i true).getD j false = true → j = i ∨ listed.getD j false = true := fun j hj => by
      by_cases hij : i = j
      · exact .inl hij.symm
      · rw [Array.getD_eq_getD_getElem?, Array.getElem?_setIfInBounds_ne hij, ← Array.getD_eq_getD_getElem?] at hj
        exact .inr hj
    have hself : (a.put (some (D i)) v).tmps.getD (D i) undef = v := by
      simp only [Act.put]
      rw [Array.getD_eq_getD_getElem?, Array.getElem?_setIfInBounds_self_of_lt (by rw [hs]; exact hsz i him)]
      rfl
    have hoth : ∀ j, j < m → j ≠ i → (a.put (some (D i)) v).tmps.getD (D j) undef = a.tmps.getD (D j) undef := fun j hj hji => by
      have hne : D i ≠ D j := fun e => hji (hD i him j hj e).symm
      simp only [Act.put]
      rw [Array.getD_eq_getD_getElem?, Array.getElem?_setIfInBounds_ne hne, Array.getD_eq_getD_getElem?]
    have hbig : ∀ j, listed.getD j false = true → (listed.setIfInBounds i true).getD j false = true := fun j hj => by
      by_cases hij : i = j
      · subst hij
        rw [Array.getD_eq_getD_getElem?, Array.getElem?_setIfInBounds_self_of_lt (by omega)]
        rfl
      · rw [Array.getD_eq_getD_getElem?, Array.getElem?_setIfInBounds_ne hij, ← Array.getD_eq_getD_getElem?]
        exact hj
    refine ⟨by simp [hl], ?_, ?_, hg', hde, by simp [Act.put, hs], fun s hps => ?_, fun j hj hlj => ?_, ?_⟩
    · intro j l hj hd
      rcases hgi j hj with rfl | hj
      · exact hbig l (hdl l hd)
      · exact hbig l (hcl j l hj hd)
    · intro j hj
      rw [Array.getD_eq_getD_getElem?, Array.getElem?_setIfInBounds_ne (by omega), ← Array.getD_eq_getD_getElem?]
      exact hno j hj
    · have : D i ≠ s := fun e => by rw [← e, hp i him] at hps; cases hps
      simp only [Act.put]
      rw [Array.getElem?_setIfInBounds_ne this]
      exact hf s hps
    · by_cases hij : j = i
      · subst hij
        rw [hself]
        exact hv
      · rw [hoth j hj hij]
        rcases hgi j hlj with e | hlj
        · exact absurd e hij
        · exact mono j _ w w' hk (hT j hj hlj)
    · intro j l hj hl' h1 h2 a1 a2 hne
      rcases hgi j h1 with e1 | g1
      · rcases hgi l h2 with e2 | g2
        · exact absurd (e1.trans e2.symm) hne
        · rw [e1, hself, hoth l hl' (fun e => hne (e1.trans e.symm))]
          exact (hfr (e1 ▸ a1) l _ a2 (hT l hl' g2)).symm
      · by_cases hji : j = i
        · rcases hgi l h2 with e2 | g2
          · exact absurd (hji.trans e2.symm) hne
          · rw [hji, hself, hoth l hl' (fun e => hne (hji.trans e.symm))]
            exact (hfr (hji ▸ a1) l _ a2 (hT l hl' g2)).symm
        · by_cases hli : l = i
          · rw [hli, hself, hoth j hj hji]
            exact hfr (hli ▸ a2) j _ a1 (hT j hj g1)
          · rcases hgi l h2 with e2 | g2
            · exact absurd e2 hli
            · rw [hoth j hj hji, hoth l hl' hli]
              exact hA j l hj hl' g1 g2 a1 a2 hne
  · rintro listed a w ⟨hl, hcl, hno, _⟩ hr
    have hal := all_listed hb (by omega) hr
    exact List.all_eq_true.2 (fun i hi => hal i (by have := List.mem_range.1 hi; omega))
  · unfold toCome
    rw [Array.toList_replicate]
    simp
  · refine ⟨by simp [hn], fun i j h _ => ?_, fun i _ => ?_, hG, rfl, rfl, fun _ _ => rfl, fun i hi h => ?_, fun i j hi _ h _ _ _ _ => ?_⟩
    · rw [Array.getD_eq_getD_getElem?, Array.getElem?_replicate] at h
      split at h <;> simp at h
    · rw [Array.getD_eq_getD_getElem?, Array.getElem?_replicate]
      split <;> rfl
    · rw [Array.getD_eq_getD_getElem?, Array.getElem?_replicate] at h
      split at h <;> simp at h
    · rw [Array.getD_eq_getD_getElem?, Array.getElem?_replicate] at h
      split at h <;> simp at h
end Go.Proofs.YtkjocmenpccooaaGreatDoor
