/-
  Stores into the document's memory, and one more element behind a slice that is owned: no program in sight.
-/
import Derived.Test.YtgnpeciedefeiaaRefPlain
import Derived.ArgAppend
namespace Go.Proofs.Ytgnpeciedefeiaa
open Go.RowKit

theorem own_mono {w : World} {base base' : Nat} {e : TypeId} {size : Nat} {v : Value} {n : Nat} {xs : List Value} (h : w.ownsRow base e size v n xs) (hb : base' ≤ base) : w.ownsRow base' e size v n xs :=
  ⟨h.1, h.2.imp id fun ⟨g, cap, cur, h1, h2, h3⟩ => ⟨g, cap, cur, h1, Nat.le_trans hb h2, h3⟩⟩
theorem grown_none {w w' : World} (h : w.grownBy w' none) (row : Option Nat) : w.grownBy w' row := ⟨h.os, h.tape, h.output, h.size, fun i hi _ => h.block i hi (by simp)⟩

/-- append to a slice that is owned: the new one lies in the old one's block, or in a new block. -/
theorem wpList_append_own2 {P : Program} (w : World) {ops : Array Oper} {rest : List Oper} {o : Oper} {a : Act} {Q : Exit → Act → World → Prop} (hgd : o.guard = none) (s x : Operand) (t : TypeId)
    (ho : o.op = .call { callee := .builtin .append, args := #[s, x], argTypes := #[t, t] })
    (base : Nat) (e : TypeId) (i : TypeInfo) (z : Value) (size bytes : Nat) (ht : P.underlying t = some (.slice e)) (hi : P.info? e = some i) (hz : i.zero = some z)
    (hsize : i.size = size) (hby : i.bytes = bytes) (hzs : z.cells.size = size) (hsz : 0 < size)
    (v : Value) (n : Nat) (xs : List Value) (hs : a.eval s = v) (hown : w.ownsRow base e size v n xs)
    (ad : Addr) (m c : Nat) (news : List Value) (hx : a.eval x = .slice (some ad) m c) (hl : news.length = m * size) (hnews : ∀ j u, news[j]? = some u → w.cell? (ad.add j) = some u) (h1 : ∀ u ∈ news, u.oneCell' = true)
    (h63 : n + m ≤ maxLen) (hbytes : (n + m) * bytes ≤ 140737488355328) (hbase : base ≤ w.heap.size) (hm : 0 < m)
    (h : ∀ v' w', w'.ownsRow base e size v' (n + m) (xs ++ news) → w.grownBy w' v.ownBlock → (∀ b, v'.ownBlock = some b → v.ownBlock = some b ∨ w.heap.size ≤ b) → wpList P ops Q rest (a.put o.dst v') w') : wpList P ops Q (o :: rest) a w := by
  have grow : ∀ (ao : Option Addr) (cap : Nat), v = .slice ao n cap → (ao = none → n = 0 ∧ cap = 0) → (∀ b, ao = some b → ∀ j u, xs[j]? = some u → w.cell? (b.add j) = some u) → cap < n + m → wpList P ops Q (o :: rest) a w := by
    intro ao cap hv h0 hcells hfull
    refine wpList_append_grows w hgd s x t ho e i z size bytes ht hi hz hsize hby hzs hsz ao n cap xs (hs.trans hv) h0 hown.1 hcells ad m c news hx hl hnews h1 hfull h63 hbytes ?_
    intro v' w' ho' hg'
    exact h v' w' (own_mono ho' hbase) (grown_none hg' _) (fun b hb => .inr (ho'.lt b hb).1)
  rcases hown.2 with ⟨hv, h0⟩ | ⟨g, cap, cur, hv, _⟩
  · subst h0
    exact grow none 0 hv (fun _ => ⟨rfl, rfl⟩) (fun b hb => by cases hb) (by omega)
  · by_cases hroom : n + m ≤ cap
    · subst hv
      refine wpList_append_fits w hgd s x t ho base e i size ht hi hsize g n cap xs hs hown ad m c news hx hl hnews h1 hroom ?_
      intro w' ho' hg'
      exact h _ w' ho' hg' (fun b hb => .inl hb)
    · refine grow (some ⟨g, 0, none⟩) cap hv (fun hb => by cases hb) (fun b hb => ?_) (by omega)
      obtain rfl : (⟨g, 0, none⟩ : Addr) = b := by injection hb
      exact hown.cells (by rw [hv]; rfl)

theorem TakenL.inj {M : MemV} {gs : List Int} {L : List Nat} (h : TakenL M gs L) {i j : Nat} (hi : i < L.length) (hj : j < L.length) (e : L.getD i 0 = L.getD j 0) : i = j := by
  rcases Nat.lt_trichotomy i j with hlt | rfl | hgt
  · exact absurd e (h.apart hj hlt)
  · rfl
  · exact absurd e.symm (h.apart hi hgt)
theorem TakenL.congr {M M' : MemV} {L : List Nat} (h : TakenL M [] L) (hl : M'.lim = M.lim) (ht : ∀ i, (M'.sg i).taken = (M.sg i).taken) : TakenL M' [] L := by
  refine ⟨?_, ?_⟩
  · have : sel M' [] M'.lim = sel M [] M.lim := by
      unfold sel
      rw [hl]
      refine List.filter_congr fun i _ => ?_
      simp [selB, ht]
    rw [this]
    exact h.perm
  · refine h.rise.imp ?_
    intro i j hij
    rw [ht, ht]
    exact hij

/-- One cell of the list is stored; the words may be others. -/
theorem RefAtN.setRow {w : World} {base q : Nat} {M M' : MemV} {L : List Nat} {v : Value} {wv wv' : Nat → Value} {cnt' : Nat → Nat} (T : TakenL M [] L) (bq : base ≤ q)
    (head : w.heap[q]? = some (.cells #[.int .i64 (M.lim : Int), v] 120 (0, 0))) (own : w.ownsRow base 125 9 v L.length (rcells M wv L))
    {i f : Nat} (hi : i < L.length) (hf : f < 9) {g cap : Nat} (hv : v = .slice (some ⟨g, 0, none⟩) L.length cap) (u : Value) (hlim : M'.lim = M.lim)
    (hu : rc M' wv' (L.getD i 0) f = u) (hrest : ∀ j, j ∈ L → ∀ e, e < 9 → ¬ (j = L.getD i 0 ∧ e = f) → rc M' wv' j e = rc M wv j e)
    (words : ∀ j ∈ L, w.ownsRow base 29 1 (wv' j) (cnt' j) (wcells (M'.sg j) (cnt' j)))
    (sep : ∀ i ∈ L, ∀ j ∈ L, i ≠ j → ∀ b, (wv' i).ownBlock = some b → (wv' j).ownBlock ≠ some b) :
    RefAtN (w.setCell ⟨g, i * 9 + f, none⟩ u) base q M' L v wv' cnt' := by
  subst hv
  obtain ⟨_, c, hc⟩ := own_type own (b := g) rfl
  have hgq : q ≠ g := by
    rintro rfl
    rw [head] at hc
    injection hc with hc
    injection hc with _ hc _
    exact absurd hc (by decide)
  have hmem : ∀ j, j < L.length → L.getD j 0 ∈ L := by
    intro j hj
    rw [List.getD_eq_getElem?_getD, List.getElem?_eq_getElem hj]
    exact List.getElem_mem _
  refine ⟨bq, ?_, ?_, fun j hj => own_setOther (words j hj) _ _ (own_type_ne own (words j hj) (by decide) (b := g) rfl), sep⟩
  · rw [Below.heap_setCell w _ u q hgq, hlim]; exact head
  · rw [← rcells_set M M' wv wv' L i f u hi hf hu (fun j hj e he hne => hrest _ (hmem j hj) e he (fun ⟨h1, h2⟩ => hne ⟨T.inj hj hi h1, h2⟩))]
    exact own_set own (by omega) u

/-- A word is stored. -/
theorem RefAtN.setWord {w : World} {base q : Nat} {M : MemV} {L : List Nat} {v : Value} {wv : Nat → Value} {cnt : Nat → Nat} (h : RefAtN w base q M L v wv cnt) {t : Nat} (ht : t ∈ L) {j : Nat} (hj : j < cnt t) {g cap : Nat} (hg : wv t = .slice (some ⟨g, 0, none⟩) (cnt t) cap) (u : Int) :
    RefAtN (w.setCell ⟨g, j, none⟩ (.int .u64 u)) base q (M.put t ((M.sg t).write j u)) L v wv cnt := by
  have hot := h.words t ht
  have hb : (wv t).ownBlock = some g := by rw [hg]; rfl
  obtain ⟨_, c, hc⟩ := own_type hot hb
  have hgq : q ≠ g := by
    rintro rfl
    rw [h.head] at hc
    injection hc with hc
    injection hc with _ hc _
    exact absurd hc (by decide)
  refine ⟨h.bq, by rw [Below.heap_setCell w _ _ q hgq]; exact h.head, ?_, fun i hi => ?_, h.sep⟩
  · rw [← rcells_ext (M := M) (M' := M.put t ((M.sg t).write j u)) (wv := wv) (wv' := wv) (L := L) ?_]
    · exact own_setOther h.own _ _ (own_type_ne hot h.own (by decide) hb)
    · intro i _ f hf
      by_cases e : i = t
      · subst e
        match f, hf with
        | 0, _ | 1, _ | 2, _ | 3, _ | 4, _ | 5, _ | 6, _ | 7, _ | 8, _ => simp [rc, MemV.put, Sg.write]
      · match f, hf with
        | 0, _ | 1, _ | 2, _ | 3, _ | 4, _ | 5, _ | 6, _ | 7, _ | 8, _ => simp [rc, MemV.put, e]
  · by_cases e : i = t
    · subst e
      rw [hg] at hot ⊢
      have := own_set hot (o := j) (by omega) (.int .u64 u)
      rwa [show (wcells (M.sg i) (cnt i)).set j (.int .u64 u) = wcells ((M.put i ((M.sg i).write j u)).sg i) (cnt i) from ?_] at this
      refine List.ext_getElem? fun o => ?_
      by_cases ho : o < cnt i
      · rw [wcells_get _ _ _ ho, List.getElem?_set]
        by_cases e2 : j = o
        · subst e2
          rw [if_pos rfl, if_pos (by rw [wcells_len]; exact ho)]
          simp [MemV.put, Sg.write]
        · rw [if_neg e2, wcells_get _ _ _ ho]
          simp [MemV.put, Sg.write, Ne.symm e2]
      · rw [List.getElem?_eq_none (by rw [List.length_set, wcells_len]; omega), List.getElem?_eq_none (by rw [wcells_len]; omega)]
    · have := own_setOther (h.words i hi) (⟨g, j, none⟩ : Addr) (.int .u64 u) (fun hbi => h.sep t ht i hi (Ne.symm e) g hb hbi)
      simpa [MemV.put, e] using this
end Go.Proofs.Ytgnpeciedefeiaa
