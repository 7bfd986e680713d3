/-
  The document's Copy.
-/
import Derived.Test.YtdfekphahdmffaaDoorNuMade
import Derived.Test.YtdfekphahdmffaaDoorLawEnv
import Derived.Deep.RegionLaw
namespace Go.Proofs.YtdfekphahdmffaaDoor
open Go.RowKit

/-- append to a slice that is owned, as one step of a region that draws. -/
theorem step_append_own {P : Program} {ops : Array Oper} {o : Oper} {a : Act} {w : World} {K : Act → World → Prop} {Q : Exit → Act → World → Prop} {E : Prop}
    (hg : o.guard = none) (s x : Operand) (t : TypeId) (hop : o.op = Op.call { callee := Callee.builtin Builtin.append, args := #[s, x], argTypes := #[t, t] })
    (base : Nat) (e : TypeId) (i : TypeInfo) (z : Value) (size bytes : Nat) (h1 : P.underlying t = some (.slice e)) (h2 : P.info? e = some i) (h3 : i.zero = some z) (h4 : i.size = size) (h5 : i.bytes = bytes) (h6 : z.cells.size = size) (h7 : 0 < size)
    (v : Value) (n : Nat) (xs : List Value) (hs : a.eval s = v) (hown : w.ownsRow base e size v n xs)
    (ad : Addr) (m c : Nat) (news : List Value) (hx : a.eval x = .slice (some ad) m c) (hn : news.length = m * size) (hc : ∀ j u, news[j]? = some u → w.cell? (ad.add j) = some u) (h1c : ∀ u ∈ news, u.oneCell' = true)
    (b1 : n + m ≤ maxLen) (b2 : (n + m) * bytes ≤ 140737488355328) (hb : base ≤ w.heap.size)
    (hK : ∀ v' w', w'.ownsRow base e size v' (n + m) (xs ++ news) → w.grownBy w' v.ownBlock → K (a.put o.dst v') w') :
    if Region.wanted o (yielded ops a.tmps) = true then Oper.wp P o a w K Q else E := by
  have hw : Region.wanted o (yielded ops a.tmps) = true := by simp [Region.wanted, hg]
  rw [if_pos hw]
  obtain ⟨v', w', hrun, r1, r2, _⟩ := run_append_own (P := P) w base t o.type e i z size bytes h1 h2 h3 h4 h5 h6 h7 v n xs hown ad m c news hn hc h1c b1 b2 hb
  unfold Oper.wp
  simp [execOp, hop, resolve, invoke, builtin, hs, hx, hrun, Result.andThen]
  exact hK v' w' r1 r2
theorem row_keep {S : Nat → Prop} {w w' : World} {base n k : Nat} {e : TypeId} {v : Value} {xs : List Value} (h : w.ownsRow base e k v n xs) (K : Keep S w w') (hs : ∀ b, v.ownBlock = some b → ¬ S b := by intro _ _ h; exact h) : w'.ownsRow base e k v n xs := by
  refine ⟨h.1, ?_⟩
  rcases h.2 with hn | ⟨g, cap, cur, hv, hg, hh, rest⟩
  · exact .inl hn
  · refine .inr ⟨g, cap, cur, hv, hg, ?_, rest⟩
    rw [K.block g (heap_lt hh) (hs g (by rw [hv]; rfl))]
    exact hh
/-- A copy. -/
def CopyPost (neg : Bool) (l : List Nat) (w : World) (e : Ending) (w' : World) : Prop :=
  ∃ (A : Option Addr) (n c : Nat), e = .returned (numArg neg A n c) ∧ OwnR 63 .u32 w' w.heap.size A n c l ∧ Keep (fun _ => False) w w'
set_option maxRecDepth 100000 in
set_option maxHeartbeats 4000000 in
theorem copy_any (neg : Bool) (A : Option Addr) (n c : Nat) (l : List Nat) (w : World) (h : LimbsAt w A n c l) :
    Calls Tryd.prog 28 #[numArg neg A n c] w (CopyPost neg l w) := by
  have K : Keep (fun _ => False) w ((w.alloc (.cells #[.bool neg, .slice A n c] 25)).alloc (.cells #[.bool false, .slice none 0 0] 25)) := ((Keep.refl _ _).alloc _).alloc _
  have hb1 : BoxAt ((w.alloc (.cells #[.bool neg, .slice A n c] 25)).alloc (.cells #[.bool false, .slice none 0 0] 25)) w.heap.size (.bool neg) (.slice A n c) := (BoxAt.new w _ _).keep ((Keep.refl _ _).alloc _)
  have hb2 : BoxAt ((w.alloc (.cells #[.bool neg, .slice A n c] 25)).alloc (.cells #[.bool false, .slice none 0 0] 25)) (w.heap.size + 1) (.bool false) (.slice none 0 0) := by
    have := BoxAt.new (w.alloc (.cells #[.bool neg, .slice A n c] 25)) (.bool false) (.slice none 0 0)
    rwa [World.size_alloc] at this
  have HL := Lib.hid (h.keep0 K)
  have HB1 := Lib.hid hb1
  have HB2 := Lib.hid hb2
  have HK := Lib.hid K
  have hmx := h.max
  clear h K hb1 hb2
  obtain ⟨i0, hi, hz0, hz1, hz2⟩ := info_parts info63
  rcases A with _ | ad
  · obtain ⟨hn, hl⟩ : n = 0 ∧ l = [] := by
      have hn : n = 0 := by
        rcases Nat.eq_zero_or_pos n with e | e
        · exact e
        · obtain ⟨b, off, e, _⟩ := HL.out.lt e
          cases e
      exact ⟨hn, List.eq_nil_of_length_eq_zero (by rw [HL.out.len, hn])⟩
    subst hn hl
    go_enter Tryd.func28, Tryd.ntmps28
    go_wp2_with fail
    go_big_region
    go_wp2_with fail
    have o : OwnR 63 .u32 (((w.alloc (.cells #[.bool neg, .slice none 0 c] 25)).alloc (.cells #[.bool neg, .slice (some ⟨w.heap.size + 1 + 1, 0, none⟩) 0 0] 25)).alloc (.cells #[] 63)).drew w.heap.size (some ⟨w.heap.size + 1 + 1, 0, none⟩) 0 0 [] := by
      have e := empty_own ((w.alloc (.cells #[.bool neg, .slice none 0 c] 25)).alloc (.cells #[.bool neg, .slice (some ⟨w.heap.size + 1 + 1, 0, none⟩) 0 0] 25)) 63
      rw [World.size_alloc, World.size_alloc] at e
      exact (OwnR.mono (e := 63) (q := .u32) (l := []) e (by omega)).keep0 (Keep.refl _ _).drew
    exact bodyPost_ret (v := numArg neg (some ⟨w.heap.size + 1 + 1, 0, none⟩) 0 0) (by simp [results, Tryd.results28, go_sem]) rfl ⟨_, 0, 0, rfl, o, (((Keep.refl _ _).alloc _).alloc _).alloc _ |>.drew⟩
  · go_enter Tryd.func28, Tryd.ntmps28
    go_wp2_with fail
    obtain ⟨c0, c1⟩ : _ ∧ _ := ⟨(show ((w.alloc (.cells #[.bool neg, .slice (some ad) n c] 25)).alloc (.cells #[.bool false, .slice none 0 0] 25)).cell? ⟨w.heap.size, 0, none⟩ = some (.bool neg) from by rw [cell_of_row _ _ _ _ _ _ HB1.out]; rfl), (show ((w.alloc (.cells #[.bool neg, .slice (some ad) n c] 25)).alloc (.cells #[.bool false, .slice none 0 0] 25)).cell? ⟨w.heap.size, 1, none⟩ = some (.slice (some ad) n c) from by rw [cell_of_row _ _ _ _ _ _ HB1.out]; rfl)⟩
    generalize hB0 : w.heap.size = B0 at HB1 HB2 c0 c1 ⊢
    have HBX := Lib.hid (Nat.le_of_eq hB0)
    clear hB0
    generalize (w.alloc (.cells #[.bool neg, .slice (some ad) n c] 25)).alloc (.cells #[.bool false, .slice none 0 0] 25) = w1 at HL HB1 HB2 HK c0 c1 ⊢
    have HMADE := Lib.hid (show (w1.alloc (.cells #[] 63)).drew.ownsRow w1.heap.size 63 1 (.slice (some ⟨w1.heap.size, 0, none⟩) 0 0) 0 [] from row_keep (empty_own w1 63) (Keep.refl (fun _ => False) (w1.alloc (.cells #[] 63))).drew)
    have HNEW := Lib.hid (show ∀ j u, (l.map fun x : Nat => Value.int .u32 (x : Int))[j]? = some u → (w1.alloc (.cells #[] 63)).drew.cell? (ad.add j) = some u from (HL.out.keep0 (((Keep.refl (fun _ => False) w1).alloc (.cells #[] 63)).drew)).row.news)
    have HLEN := Lib.hid HL.out.len
    have hlt1 := heap_lt HB1.out
    have hlt2 := heap_lt HB2.out
    have HLAY := Lib.hid (fun (w' : World) (K' : Keep (fun _ => False) w1 w') => (show w'.cell? ⟨B0 + 1, 0, none⟩ = some (.bool false) ∧ w'.cell? ⟨B0 + 1, 1, none⟩ = some (.slice none 0 0) ∧ w'.frozen? ⟨B0 + 1, 0, none⟩ = false ∧ w'.frozen? ⟨B0 + 1, 1, none⟩ = false ∧ w'.cell? ⟨B0, 0, none⟩ = some (.bool neg) ∧ w'.cell? ⟨B0, 1, none⟩ = some (.slice (some ad) n c) from by
      have g8 : w'.heap[B0]? = some (.cells #[.bool neg, .slice (some ad) n c] 25 (0, 0)) := HB1.out.keep K'
      have g : w'.heap[B0 + 1]? = some (.cells #[.bool false, .slice none 0 0] 25 (0, 0)) := HB2.out.keep K'
      exact ⟨by rw [cell_of_row w' _ _ _ _ _ g]; rfl, by rw [cell_of_row w' _ _ _ _ _ g]; rfl, by simp [World.frozen?, g], by simp [World.frozen?, g], by rw [cell_of_row w' _ _ _ _ _ g8]; rfl, by rw [cell_of_row w' _ _ _ _ _ g8]; rfl⟩))
    go_region_law (refine step_append_own rfl (.tmp 5) (.tmp 7) 23 rfl w1.heap.size 63 i0 (.int .u32 0) 1 4 Tryd.underlying23 hi hz0 hz1 hz2 rfl (by decide) (.slice (some ⟨w1.heap.size, 0, none⟩) 0 0) 0 [] (by rfl) (by exact HMADE.out) ad n c (l.map fun x : Nat => Value.int .u32 (x : Int)) (by rfl) (by rw [List.length_map, HLEN.out, Nat.mul_one]) (by exact HNEW.out) (by intro u hu; obtain ⟨y, _, rfl⟩ := List.mem_map.1 hu; rfl) (by unfold maxLen; omega) (by omega) (by simp) ?_; intro v1 w6 hown hgrow; have K6 : Keep (fun _ => False) w1 w6 := (((Keep.refl (fun _ => False) w1).alloc (.cells #[] 63)).drew).grown hgrow (fun k hk => .inr (Nat.le_of_eq (by simpa [Value.ownBlock] using hk))); obtain ⟨d0, d1, g0, g1, s0, s1⟩ := HLAY.out w6 K6; have hown2 : w6.ownsRow w1.heap.size 63 1 v1 (0 + n) (l.map fun x : Nat => Value.int .u32 (x : Int)) := hown; obtain ⟨A1, cc1, rfl, o6⟩ := own_slice hown2; have HK6 := Lib.hid K6; have HO6 := Lib.hid o6; clear hown hown2 hgrow K6 o6)
    all_goals
      have g6 : w6.heap[B0 + 1]? = some (.cells #[.bool false, .slice none 0 0] 25 (0, 0)) := HB2.out.keep HK6.out
      have HE := Lib.hid (two_cells g6 (.bool neg) (.slice A1 n cc1))
      have HKE := Lib.hid (two_keep (HK.out.trans HK6.out) (show w.heap.size ≤ B0 + 1 from by have := HBX.out; omega) (.bool neg) (.slice A1 n cc1))
      have HOO := Lib.hid ((two_own HO6.out hlt2 (.bool neg) (.slice A1 n cc1)).mono HK.out.size)
      clear g6
      go_wp2_with fail
      obtain ⟨e0, e1⟩ := HE.out
      exact bodyPost_ret (v := numArg neg A1 n cc1) (by simp [results, Tryd.results28, go_sem, e0, e1]) rfl ⟨A1, n, cc1, rfl, by have q := HOO.out; rwa [Nat.zero_add] at q, HKE.out⟩
end Go.Proofs.YtdfekphahdmffaaDoor
