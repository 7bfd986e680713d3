/-
  What the map of SegWords holds: plain Lean, no program in sight.
-/
import Derived.Test.YtgnpeciedefeiaaCountsPlain
namespace Go.Proofs.Ytgnpeciedefeiaa
open Go.RowKit Go.Maps

abbrev kI (a : Int) : Lit := .int .i64 a
theorem kI_ne {a b : Int} (h : a ≠ b) : kI a ≠ kI b := fun e => h (by injection e)
theorem kI_lit (a : Int) : WideAt.IsKeyLit (kI a) := show WideAt.IsKeyLit (.int .i64 a) from True.intro

/-- A map whose keys are those of U, whose values are W's, of s entries. -/
structure Has (D : DataW Unit) (U : Int → Prop) (W : Int → Int) (s : Int) : Prop where
  yes : ∀ a, U a → Maps.has D (kI a) = true
  no : ∀ a, ¬ U a → Maps.has D (kI a) = false
  val : ∀ a, U a → ∀ z, D.atKey (kI a) z = .lit (.int .u64 (W a))
  size : (Maps.size D : Int) = s
  tidy : Tidy D

theorem Has.congr {D : DataW Unit} {U U' : Int → Prop} {W W' : Int → Int} {s s' : Int} (h : Has D U W s) (hu : ∀ a, U' a ↔ U a) (hw : ∀ a, U a → W' a = W a) (hs : s' = s) : Has D U' W' s' :=
  ⟨fun a ha => h.yes a ((hu a).1 ha), fun a ha => h.no a (fun x => ha ((hu a).2 x)), fun a ha z => by rw [h.val a ((hu a).1 ha) z, hw a ((hu a).1 ha)], by rw [hs]; exact h.size, h.tidy⟩
theorem Has.empty (W : Int → Int) : Has (.map []) (fun _ => False) W 0 := ⟨fun _ h => h.elim, fun _ _ => rfl, fun _ h => h.elim, rfl, tidy_empty⟩
theorem Has.del {D : DataW Unit} {U : Int → Prop} {W : Int → Int} {s : Int} (h : Has D U W s) (x : Int) (c : Int) (hc : (U x ∧ c = 1) ∨ (¬ U x ∧ c = 0)) : Has (D.del (kI x)) (fun a => U a ∧ a ≠ x) W (s - c) := by
  refine ⟨fun a ⟨ha, hn⟩ => by rw [has_del_other (kI_ne hn)]; exact h.yes a ha, fun a ha => ?_, fun a ⟨ha, hn⟩ z => by rw [atKey_del_other (kI_ne hn)]; exact h.val a ha z, ?_, h.tidy.del _⟩
  · by_cases e : a = x
    · subst e; exact has_del_same
    · rw [has_del_other (kI_ne e)]; exact h.no a (fun hu => ha ⟨hu, e⟩)
  · have := size_del (k := kI x) h.tidy
    have hs := h.size
    rcases hc with ⟨hu, rfl⟩ | ⟨hu, rfl⟩
    · rw [h.yes x hu] at this; simp at this; omega
    · rw [h.no x hu] at this; simp at this; omega
theorem Has.put {D : DataW Unit} {U : Int → Prop} {W : Int → Int} {s : Int} (h : Has D U W s) (x v : Int) (c : Int) (hc : (U x ∧ c = 0) ∨ (¬ U x ∧ c = 1)) : Has (D.put (kI x) (.lit (.int .u64 v))) (fun a => U a ∨ a = x) (fun a => if a = x then v else W a) (s + c) := by
  refine ⟨fun a ha => ?_, fun a ha => ?_, fun a ha z => ?_, ?_, h.tidy.put (kI_lit x) _⟩
  · by_cases e : a = x
    · subst e; exact has_put_same h.tidy.isMap (kI_lit a) _
    · rw [has_put_other (kI_ne e)]; exact h.yes a (ha.resolve_right e)
  · have e : a ≠ x := fun e => ha (.inr e)
    rw [has_put_other (kI_ne e)]; exact h.no a (fun hu => ha (.inl hu))
  · by_cases e : a = x
    · subst e; rw [atKey_put_same h.tidy.isMap (kI_lit a), if_pos rfl]
    · rw [atKey_put_other (kI_ne e), if_neg e]; exact h.val a (ha.resolve_right e) z
  · have := size_put (k := kI x) h.tidy (.lit (.int .u64 v))
    have hs := h.size
    rcases hc with ⟨hu, rfl⟩ | ⟨hu, rfl⟩
    · rw [h.yes x hu] at this; simp at this; omega
    · rw [h.no x hu] at this; simp at this; omega

/-- The words used of the first m. -/
def sumN (sg : Nat → Sg) : Nat → Int
  | 0 => 0
  | m + 1 => sumN sg m + (sg m).n
theorem sumN_congr (f h : Nat → Sg) : ∀ m, (∀ i, i < m → (f i).n = (h i).n) → sumN f m = sumN h m
  | 0, _ => rfl
  | m + 1, e => by
    simp only [sumN]
    rw [sumN_congr f h m (fun i hi => e i (by omega)), e m (by omega)]
theorem sumN_put (f : Nat → Sg) (k : Nat) (s : Sg) : ∀ m, k < m → sumN (fun i => if i = k then s else f i) m + (f k).n = sumN f m + s.n
  | 0, h => by omega
  | m + 1, h => by
    simp only [sumN]
    by_cases e : k = m
    · subst e
      rw [sumN_congr (fun i => if i = k then s else f i) f k (fun i hi => by simp [show i ≠ k from by omega]), if_pos rfl]
      omega
    · have := sumN_put f k s m (by omega)
      rw [if_neg (show ¬ m = k from by omega)]
      omega

/-- The word at an address. -/
def MemV.word (M : MemV) (a : Int) : Int := (M.sg (a / 64).toNat).words (a % 64).toNat
/-- The map holds just the words of the memory that are used. -/
def HoldsM (M : MemV) (D : DataW Unit) : Prop := Has D M.used M.word (sumN M.sg M.lim)

theorem used_parts {M : MemV} {a : Int} : M.used a ↔ 0 ≤ a ∧ a / 64 < M.lim ∧ 0 < (M.sg (a / 64).toNat).taken ∧ a % 64 < (M.sg (a / 64).toNat).n :=
  ⟨fun ⟨h0, ⟨_, h1, h2⟩, h3⟩ => ⟨h0, h1, h2, h3⟩, fun ⟨h0, h1, h2, h3⟩ => ⟨h0, ⟨by omega, h1, h2⟩, h3⟩⟩

theorem HoldsM.new (lim : Nat) : HoldsM (MemV.new lim) (.map []) := by
  have hz : ∀ m, sumN (fun _ => Sg.none) m = 0 := by
    intro m
    induction m with
    | zero => rfl
    | succ m ih => simp only [sumN, ih]; rfl
  refine (Has.empty (MemV.new lim).word).congr (fun a => ?_) (fun _ h => h.elim) (hz lim)
  rw [used_parts]
  constructor
  · rintro ⟨_, _, h, _⟩
    simp [MemV.new, Sg.none] at h
  · exact False.elim

theorem HoldsM.took {M : MemV} (ok : M.Ok) {D : DataW Unit} (h : HoldsM M D) {q : Nat} (hq : q < M.lim) (hz : (M.sg q).taken = 0) (gen kind : Int) : HoldsM (M.took q gen kind) D := by
  have hn := ok.no q hq hz
  refine h.congr (fun a => ?_) (fun a ha => ?_) ?_
  · rw [used_parts, used_parts]
    simp only [MemV.took, MemV.put]
    by_cases e : (a / 64).toNat = q
    · rw [if_pos e, e, hn]
      simp only [Sg.fresh, Sg.none]
      omega
    · rw [if_neg e]
  · rw [used_parts] at ha
    have e : (a / 64).toNat ≠ q := by
      intro e
      rw [e, hz] at ha
      omega
    simp only [MemV.word, MemV.took, MemV.put, if_neg e]
  · have := sumN_put M.sg q (Sg.fresh gen kind (M.count + 1)) M.lim hq
    rw [hn] at this
    have e1 : Sg.none.n = 0 := rfl
    have e2 : (Sg.fresh gen kind (M.count + 1)).n = 0 := rfl
    show sumN (fun i => if i = q then Sg.fresh gen kind (M.count + 1) else M.sg i) M.lim = sumN M.sg M.lim
    omega

/-- Behind j deletes of a segment that was given. -/
def Giving (M : MemV) (k j : Nat) (D : DataW Unit) : Prop :=
  Has D (fun a => M.used a ∧ ¬ ((k : Int) * 64 ≤ a ∧ a < k * 64 + j)) M.word (sumN M.sg M.lim - (if (j : Int) ≤ (M.sg k).n then (j : Int) else (M.sg k).n))
theorem Giving.start {M : MemV} (ok : M.Ok) {k : Nat} (hk : k < M.lim) {D : DataW Unit} (h : HoldsM M D) : Giving M k 0 D := by
  have := (ok.sg k hk).n0
  refine h.congr (fun a => ?_) (fun _ _ => rfl) ?_
  · constructor
    · exact fun h => h.1
    · exact fun h => ⟨h, by omega⟩
  · rw [if_pos (by omega)]; omega
theorem Giving.step {M : MemV} {k j : Nat} (hk : k < M.lim) (ht : 0 < (M.sg k).taken) (hj : j < 64) {D : DataW Unit} (h : Giving M k j D) : Giving M k (j + 1) (D.del (kI ((k : Int) * 64 + j))) := by
  have hu : M.used ((k : Int) * 64 + j) ↔ (j : Int) < (M.sg k).n := by
    rw [used_parts, show (((k : Int) * 64 + j) / 64).toNat = k from by omega, show ((k : Int) * 64 + j) % 64 = j from by omega]
    omega
  refine (h.del ((k : Int) * 64 + j) (if (j : Int) < (M.sg k).n then 1 else 0) ?_).congr (fun a => ?_) (fun _ _ => rfl) ?_
  · by_cases e : (j : Int) < (M.sg k).n
    · rw [if_pos e]; exact .inl ⟨⟨hu.2 e, by omega⟩, rfl⟩
    · rw [if_neg e]; exact .inr ⟨fun x => e (hu.1 x.1), rfl⟩
  · constructor
    · rintro ⟨h1, h2⟩; exact ⟨⟨h1, by omega⟩, by omega⟩
    · rintro ⟨⟨h1, h2⟩, h3⟩; exact ⟨h1, by omega⟩
  · by_cases e : (j : Int) < (M.sg k).n
    · rw [if_pos e, if_pos (by omega), if_pos (by omega)]; omega
    · rw [if_neg e, if_neg (by omega)]
      by_cases e' : (j : Int) ≤ (M.sg k).n
      · rw [if_pos e']; omega
      · rw [if_neg e']; omega
theorem Giving.done {M : MemV} (ok : M.Ok) {k : Nat} (hk : k < M.lim) {D : DataW Unit} (h : Giving M k 64 D) : HoldsM (M.gave k) D := by
  have hn := (ok.sg k hk).n64
  refine h.congr (fun a => ?_) (fun a ha => ?_) ?_
  · rw [used_parts, used_parts]
    simp only [MemV.gave, MemV.put]
    by_cases e : (a / 64).toNat = k
    · rw [if_pos e]
      simp only [Sg.none]
      omega
    · rw [if_neg e]
      omega
  · have h1 := used_parts.1 ha.1
    have e : (a / 64).toNat ≠ k := by omega
    simp only [MemV.word, MemV.gave, MemV.put, if_neg e]
  · have := sumN_put M.sg k Sg.none M.lim hk
    have e1 : Sg.none.n = 0 := rfl
    show sumN (fun i => if i = k then Sg.none else M.sg i) M.lim = _
    by_cases e : (((64 : Nat) : Int)) ≤ (M.sg k).n
    · rw [if_pos e]; omega
    · rw [if_neg e]; omega

/-- Behind i of the words that are newly used. -/
def Bumping (M : MemV) (k i : Nat) (D : DataW Unit) : Prop :=
  Has D (fun a => M.used a ∨ ((k : Int) * 64 + (M.sg k).n ≤ a ∧ a < k * 64 + (M.sg k).n + i)) M.word (sumN M.sg M.lim + i)
theorem Bumping.start {M : MemV} (k : Nat) {D : DataW Unit} (h : HoldsM M D) : Bumping M k 0 D := by
  refine h.congr (fun a => ?_) (fun _ _ => rfl) (by omega)
  constructor
  · rintro (h | h)
    · exact h
    · omega
  · exact .inl
theorem Bumping.not {M : MemV} (ok : M.Ok) {k i : Nat} (hk : k < M.lim) {D : DataW Unit} (h : Bumping M k i D) (hi : (i : Int) < 64 - (M.sg k).n) : Maps.has D (kI ((k : Int) * 64 + (M.sg k).n + i)) = false := by
  have n0 := (ok.sg k hk).n0
  refine h.no _ ?_
  rintro (h' | h')
  · have := used_parts.1 h'
    rw [show (((k : Int) * 64 + (M.sg k).n + i) / 64).toNat = k from by omega] at this
    omega
  · omega
theorem Bumping.step {M : MemV} (ok : M.Ok) {k i : Nat} (hk : k < M.lim) {D : DataW Unit} (h : Bumping M k i D) (hi : (i : Int) < 64 - (M.sg k).n) : Bumping M k (i + 1) (D.put (kI ((k : Int) * 64 + (M.sg k).n + i)) (.lit (.int .u64 0))) := by
  have n0 := (ok.sg k hk).n0
  have hno : ¬ (M.used ((k : Int) * 64 + (M.sg k).n + i) ∨ ((k : Int) * 64 + (M.sg k).n ≤ (k : Int) * 64 + (M.sg k).n + i ∧ (k : Int) * 64 + (M.sg k).n + i < k * 64 + (M.sg k).n + i)) := by
    rintro (h' | h')
    · have := used_parts.1 h'
      rw [show (((k : Int) * 64 + (M.sg k).n + i) / 64).toNat = k from by omega] at this
      omega
    · omega
  refine (h.put ((k : Int) * 64 + (M.sg k).n + i) 0 1 (.inr ⟨hno, rfl⟩)).congr (fun a => ?_) (fun a _ => ?_) (by omega)
  · constructor
    · rintro (h1 | h1)
      · exact .inl (.inl h1)
      · by_cases e : a = (k : Int) * 64 + (M.sg k).n + i
        · exact .inr e
        · exact .inl (.inr (by omega))
    · rintro ((h1 | h1) | h1)
      · exact .inl h1
      · exact .inr (by omega)
      · exact .inr (by omega)
  · by_cases e : a = (k : Int) * 64 + (M.sg k).n + i
    · rw [if_pos e]
      subst e
      simp only [MemV.word, show (((k : Int) * 64 + (M.sg k).n + i) / 64).toNat = k from by omega]
      exact (ok.sg k hk).wz _ (by omega)
    · rw [if_neg e]
theorem Bumping.done {M : MemV} (ok : M.Ok) {k n : Nat} (hk : k < M.lim) (ht : 0 < (M.sg k).taken) {D : DataW Unit} (h : Bumping M k n D) (hn : (n : Int) ≤ 64 - (M.sg k).n) : HoldsM (M.bumped k n) D := by
  have n0 := (ok.sg k hk).n0
  refine h.congr (fun a => ?_) (fun a _ => ?_) ?_
  · rw [used_parts, used_parts]
    simp only [MemV.bumped, MemV.put]
    by_cases e : (a / 64).toNat = k
    · rw [if_pos e, e]
      simp only
      omega
    · rw [if_neg e]
      omega
  · simp only [MemV.word, MemV.bumped, MemV.put]
    by_cases e : (a / 64).toNat = k
    · rw [if_pos e, e]
    · rw [if_neg e]
  · have g : sumN (M.bumped k n).sg (M.bumped k n).lim + (M.sg k).n = sumN M.sg M.lim + ((M.sg k).n + n) := sumN_put M.sg k { M.sg k with n := (M.sg k).n + n } M.lim hk
    omega

theorem HoldsM.write {M : MemV} {D : DataW Unit} (h : HoldsM M D) {a : Nat} (u : Int) (hk : a / 64 < M.lim) (hu : M.used a) : HoldsM (M.put (a / 64) ((M.sg (a / 64)).write (a % 64) u)) (D.put (kI a) (.lit (.int .u64 u))) := by
  refine (h.put (a : Int) u 0 (.inl ⟨hu, rfl⟩)).congr (fun b => ?_) (fun b hb => ?_) ?_
  · constructor
    · intro hb
      refine .inl ?_
      rw [used_parts] at hb ⊢
      simp only [MemV.put] at hb
      by_cases e : (b / 64).toNat = a / 64
      · rw [if_pos e] at hb
        rw [e]
        exact hb
      · rw [if_neg e] at hb
        exact hb
    · intro hb
      have hb' : M.used b := by
        rcases hb with hb | hb
        · exact hb
        · rw [hb]; exact hu
      rw [used_parts] at hb' ⊢
      simp only [MemV.put]
      by_cases e : (b / 64).toNat = a / 64
      · rw [if_pos e]
        rw [e] at hb'
        exact hb'
      · rw [if_neg e]
        exact hb'
  · have h0 : 0 ≤ b := by
      rcases hb with hb | hb
      · exact (used_parts.1 hb).1
      · omega
    simp only [MemV.word, MemV.put]
    by_cases e : (b / 64).toNat = a / 64
    · rw [if_pos e, e]
      simp only [Sg.write]
      by_cases e2 : (b % 64).toNat = a % 64
      · rw [if_pos e2, if_pos (by omega)]
      · rw [if_neg e2, if_neg (by omega)]
    · rw [if_neg e, if_neg (by omega)]
  · have := sumN_put M.sg (a / 64) ((M.sg (a / 64)).write (a % 64) u) M.lim hk
    show sumN (fun i => if i = a / 64 then (M.sg (a / 64)).write (a % 64) u else M.sg i) M.lim = _
    have e : ((M.sg (a / 64)).write (a % 64) u).n = (M.sg (a / 64)).n := rfl
    omega

theorem HoldsM.take {M M' : MemV} (ok : M.Ok) {D : DataW Unit} (h : HoldsM M D) {gen kind a f : Int} (R : TakeR M gen kind a f M') : HoldsM M' D := by
  rcases R with ⟨_, _, _, rfl⟩ | ⟨_, _, _, _, rfl⟩ | ⟨q, _, _, hq, hz, _, _, _, rfl⟩
  · exact h
  · exact h
  · exact h.took ok hq hz gen kind

theorem ownsMap_block {w w' : World} {P : Program} {k : TypeId} {R : Value → Option (DataW Unit × List MemPlace)} {b n : Nat} {D : DataW Unit} (h : w.ownsMap P k R b n D) (e : w'.heap[b]? = w.heap[b]?) : w'.ownsMap P k R b n D := by
  obtain ⟨es, clock, hb, F, hs, rfl⟩ := h
  exact ⟨es, clock, e.trans hb, F, hs, rfl⟩
theorem ownsMap_keep {S : Nat → Prop} {w w' : World} {P : Program} {k : TypeId} {R : Value → Option (DataW Unit × List MemPlace)} {b n : Nat} {D : DataW Unit} (h : w.ownsMap P k R b n D) (K : Keep S w w') (hs : ¬ S b) : w'.ownsMap P k R b n D :=
  ownsMap_block h (K.block b h.lt hs)

/-- The words used of the segments of a list. -/
def sumL (M : MemV) : List Nat → Int
  | [] => 0
  | i :: l => sumL M l + (M.sg i).n
theorem sumL_perm (M : MemV) {l l' : List Nat} (h : l.Perm l') : sumL M l = sumL M l' := by
  induction h with
  | nil => rfl
  | cons x _ ih => simp only [sumL, ih]
  | swap x y l => simp only [sumL]; omega
  | trans _ _ h1 h2 => exact h1.trans h2
theorem sumL_append (M : MemV) : ∀ l l' : List Nat, sumL M (l ++ l') = sumL M l + sumL M l'
  | [], l' => by simp [sumL]
  | x :: l, l' => by
    simp only [List.cons_append, sumL, sumL_append M l l']
    omega
theorem sumL_sel (M : MemV) (ok : M.Ok) : ∀ k, k ≤ M.lim → sumL M (sel M [] k) = sumN M.sg k
  | 0, _ => rfl
  | k + 1, hk => by
    rw [sel_succ, sumL_append, sumL_sel M ok k (by omega)]
    simp only [sumN]
    by_cases h : selB M [] k = true
    · rw [if_pos h]; simp only [sumL]; omega
    · rw [if_neg h]
      have h0 := ok.t0 k (by omega)
      have hz : (M.sg k).taken = 0 := by
        have : ¬ 0 < (M.sg k).taken := fun x => h (selB_nil.2 x)
        omega
      rw [ok.no k (by omega) hz]
      simp only [sumL]
      have : Sg.none.n = 0 := rfl
      omega
theorem sumL_all (M : MemV) (ok : M.Ok) {L : List Nat} (h : TakenL M [] L) : sumL M L = sumN M.sg M.lim := (sumL_perm M h.perm).trans (sumL_sel M ok M.lim (Nat.le_refl _))
theorem sumL_take (M : MemV) (L : List Nat) (k : Nat) (hk : k < L.length) : sumL M (L.take (k + 1)) = sumL M (L.take k) + (M.sg (L.getD k 0)).n := by
  rw [List.take_succ_eq_append_getElem hk, sumL_append, List.getD_eq_getElem?_getD, List.getElem?_eq_getElem hk]
  simp only [sumL, Option.getD_some]
  omega
theorem sumL_bd (M : MemV) (ok : M.Ok) : ∀ L : List Nat, (∀ i ∈ L, i < M.lim) → 0 ≤ sumL M L ∧ sumL M L ≤ 64 * L.length
  | [], _ => by simp [sumL]
  | x :: l, h => by
    have ih := sumL_bd M ok l (fun i hi => h i (List.mem_cons_of_mem _ hi))
    have o := ok.sg x (h x (List.mem_cons_self ..))
    have := o.n0
    have := o.n64
    simp only [sumL, List.length_cons]
    omega
theorem TakenL.at_ {M : MemV} {gs : List Int} {L : List Nat} (h : TakenL M gs L) {i : Nat} (hi : i < L.length) : L.getD i 0 < M.lim ∧ 0 < (M.sg (L.getD i 0)).taken := by
  refine h.mem ?_
  rw [List.getD_eq_getElem?_getD, List.getElem?_eq_getElem hi]
  exact List.getElem_mem _
end Go.Proofs.Ytgnpeciedefeiaa
