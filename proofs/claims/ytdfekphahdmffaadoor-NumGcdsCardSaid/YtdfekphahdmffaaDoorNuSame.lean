/-
  num: what the laws ask of numbers: Same, long, abs.
-/
import Derived.Test.YtdfekphahdmffaaDoorNuCmp
namespace Go.Proofs.YtdfekphahdmffaaDoor
open Go.RowKit

/-- Are two numbers the same, limb by limb? -/
def sameB (neg : Bool) (l : List Nat) (neg' : Bool) (l' : List Nat) : Bool := decide (neg = neg' ∧ l = l')
theorem list_ext {l l' : List Nat} (hl : l.length = l'.length) (h : ∀ j, j < l.length → l.getD j 0 = l'.getD j 0) : l = l' := by
  refine List.ext_getElem hl fun j h1 h2 => ?_
  have := h j h1
  rw [List.getD_eq_getElem?_getD, List.getD_eq_getElem?_getD, List.getElem?_eq_getElem h1, List.getElem?_eq_getElem h2] at this
  exact this
set_option maxHeartbeats 400000 in
theorem long_any (neg : Bool) (A : Option Addr) (n c : Nat) (w : World) :
    Calls Tryd.prog 21 #[numArg neg A n c] w (BoolPost (decide (60 < n)) w) := by
  have K : Keep (fun _ => False) w (w.alloc (.cells #[.bool neg, .slice A n c] 25)) := (Keep.refl _ _).alloc _
  by_cases h : 60 < n
  · rw [decide_eq_true h]
    have hb : (60 : Int) < (n : Int) := by omega
    go_enter Tryd.func21, Tryd.ntmps21
    go_wp2_with fail
    go_ret
    exact ⟨by rfl, K⟩
  · rw [decide_eq_false h]
    have hb : decide ((60 : Int) < (n : Int)) = false := decide_eq_false (by omega)
    clear h
    go_enter Tryd.func21, Tryd.ntmps21
    go_wp2_with fail
    go_ret
    exact ⟨by rfl, K⟩
set_option maxHeartbeats 400000 in
theorem abs_any (neg : Bool) (A : Option Addr) (n c : Nat) (w : World) :
    Calls Tryd.prog 50 #[numArg neg A n c] w fun e w' => e = .returned (numArg false A n c) ∧ Keep (fun _ => False) w w' := by
  go_enter Tryd.func50, Tryd.ntmps50
  go_wp2_with fail
  exact bodyPost_ret (v := numArg false A n c) (by simp [results, Tryd.results50, go_sem]) rfl ⟨rfl, ((Keep.refl _ _).alloc _).alloc _⟩

set_option maxRecDepth 100000 in
set_option maxHeartbeats 2000000 in
theorem same_any (neg : Bool) (A : Option Addr) (n c : Nat) (l : List Nat) (neg' : Bool) (A' : Option Addr) (n' c' : Nat) (l' : List Nat) (w : World) (h : LimbsAt w A n c l) (h' : LimbsAt w A' n' c' l') :
    Calls Tryd.prog 17 #[numArg neg A n c, numArg neg' A' n' c'] w (BoolPost (sameB neg l neg' l') w) := by
  have K : Keep (fun _ => False) w ((w.alloc (.cells #[.bool neg, .slice A n c] 25)).alloc (.cells #[.bool neg', .slice A' n' c'] 25)) := ((Keep.refl _ _).alloc _).alloc _
  have hb1 : ((w.alloc (.cells #[.bool neg, .slice A n c] 25)).alloc (.cells #[.bool neg', .slice A' n' c'] 25)).heap[w.heap.size]? = some (.cells #[.bool neg, .slice A n c] 25 (0, 0)) := by
    rw [Below.heap_alloc _ _ _ (by simp)]; exact heap_alloc_new w _
  have hb2 : ((w.alloc (.cells #[.bool neg, .slice A n c] 25)).alloc (.cells #[.bool neg', .slice A' n' c'] 25)).heap[w.heap.size + 1]? = some (.cells #[.bool neg', .slice A' n' c'] 25 (0, 0)) := by
    have := heap_alloc_new (w.alloc (.cells #[.bool neg, .slice A n c] 25)) (.cells #[.bool neg', .slice A' n' c'] 25)
    rwa [World.size_alloc] at this
  have HH := Lib.hid (h.keep0 K)
  have HH' := Lib.hid (h'.keep0 K)
  have hlen := Lib.hid h.len
  have hlen' := Lib.hid h'.len
  have hm := h.max
  have hm' := h'.max
  clear h h'
  by_cases hneg : neg = neg'
  · subst hneg
    by_cases hn : n = n'
    · subst hn
      go_enter Tryd.func17, Tryd.ntmps17
      go_wp2_with fail
      generalize w.heap.size = Ba at hb1 hb2 ⊢
      generalize (w.alloc (.cells #[.bool neg, .slice A n c] 25)).alloc (.cells #[.bool neg, .slice A' n c'] 25) = w1 at K hb1 hb2 HH HH' ⊢
      have HC := Lib.hid (fun (w' : World) (K' : Keep (fun _ => False) w1 w') => (show w'.cell? ⟨Ba, 0, none⟩ = some (.bool neg) ∧ w'.cell? ⟨Ba, 1, none⟩ = some (.slice A n c) ∧ w'.cell? ⟨Ba + 1, 0, none⟩ = some (.bool neg) ∧ w'.cell? ⟨Ba + 1, 1, none⟩ = some (.slice A' n c') from by
        have g1 := K'.heap hb1 (by simp)
        have g2 := K'.heap hb2 (by simp)
        refine ⟨?_, ?_, ?_, ?_⟩
        · rw [cell_of_row w' _ _ _ _ _ g1]; rfl
        · rw [cell_of_row w' _ _ _ _ _ g1]; rfl
        · rw [cell_of_row w' _ _ _ _ _ g2]; rfl
        · rw [cell_of_row w' _ _ _ _ _ g2]; rfl))
      have HK := Lib.hid K
      clear hb1 hb2 K
      obtain ⟨c0, c1, c2, c3⟩ := HC.out _ (Keep.refl _ _)
      go_loopw [5] (fun iv wr => ∃ k : Nat, k ≤ n ∧ iv = .int .i64 (k : Int) ∧ (∀ j, j < k → l.getD j 0 = l'.getD j 0) ∧ Keep (fun _ => False) w1 wr) (fun iv _ => (n - (intOf iv).toNat))
      case atStart => exact ⟨0, Nat.zero_le _, rfl, fun j h1 => by omega, Keep.refl _ _⟩
      case round =>
        obtain ⟨k, hk, rfl, he, KW⟩ := hrel
        have HE := Lib.hid he
        clear he c0 c1 c2 c3
        obtain ⟨c0, c1, c2, c3⟩ := HC.out _ KW
        by_cases hkn : k < n
        · obtain ⟨b1, o1, rfl, hb1, q1⟩ := (HH.out.row.keep0 KW).2 k hkn
          obtain ⟨b2, o2, rfl, hb2, q2⟩ := (HH'.out.row.keep0 KW).2 k hkn
          obtain ⟨x, hx⟩ : ∃ x, x = l.getD k 0 := ⟨_, rfl⟩
          obtain ⟨y, hy⟩ : ∃ y, y = l'.getD k 0 := ⟨_, rfl⟩
          rw [← hx] at q1
          rw [← hy] at q2
          have HX := Lib.hid hx
          have HY := Lib.hid hy
          have i0 : (0 : Int) ≤ (k : Int) := by omega
          have i1 : (k : Int) < (n : Int) := by omega
          by_cases hxy : x = y
          · subst hxy
            clear hx hy
            go_wp2_with fail
            go_quiet (fail)
            go_wp2_with fail
            go_roundw
            case rel => exact ⟨k + 1, by omega, by go_num, fun j h1 => by
              by_cases e : j = k
              · rw [e, ← HX.out, ← HY.out]
              · exact HE.out j (by omega), KW.drewN _⟩
            case measure => simp [intOf]; omega
          · have hb : ((x : Int) != (y : Int)) = true := by
              rw [bne_iff_ne]; omega
            have hf : sameB neg l neg l' = false := decide_eq_false (fun e => hxy (by rw [hx, hy, e.2]))
            have HF := Lib.hid hf
            clear hx hy hxy hf
            go_wp2_with fail
            go_quiet (fail)
            go_wp2_with fail
            go_ret
            exact ⟨by rw [HF.out]; rfl, (HK.out.trans KW).drewN _⟩
        · have hl : l = l' := list_ext (by rw [hlen.out, hlen'.out]) (fun j hj => HE.out j (by rw [hlen.out] at hj; omega))
          have hd : decide ((k : Int) < (n : Int)) = false := decide_eq_false (by omega)
          have HL := Lib.hid (show sameB neg l neg l' = true from decide_eq_true ⟨rfl, hl⟩)
          clear hl
          go_wp2_with fail
          go_ret
          exact ⟨by rw [HL.out]; rfl, HK.out.trans KW⟩
    · have hq : ((n : Int) != (n' : Int)) = true := by rw [bne_iff_ne]; omega
      have HF := Lib.hid (show sameB neg l neg l' = false from decide_eq_false (fun e => hn (by rw [← hlen.out, ← hlen'.out, e.2])))
      have HK := Lib.hid K
      clear hn hb1 hb2 K
      go_enter Tryd.func17, Tryd.ntmps17
      go_wp2_with fail
      go_ret
      exact ⟨by rw [HF.out]; rfl, HK.out⟩
  · have HF := Lib.hid (show sameB neg l neg' l' = false from decide_eq_false (fun e => hneg e.1))
    have HK := Lib.hid K
    have hbn : (neg != neg') = true := by simpa using hneg
    have hbn2 : (!neg == neg') = true := by cases neg <;> cases neg' <;> simp at hneg ⊢
    clear hneg hb1 hb2 K
    go_enter Tryd.func17, Tryd.ntmps17
    go_wp2_with fail
    go_ret
    exact ⟨by rw [HF.out]; rfl, HK.out⟩
end Go.Proofs.YtdfekphahdmffaaDoor
