/-
  num: plus, less.
-/
import Derived.Test.YtdfekphahdmffaaDoorNuRow
import Derived.Test.YtdfekphahdmffaaDoorLess
import Derived.Laws.BitsLemmas
namespace Go.Proofs.YtdfekphahdmffaaDoor
open Go.RowKit

theorem wrap_u64_in {x : Int} (h0 : 0 ≤ x) (h1 : x ≤ 18446744073709551615) : IntKind.u64.wrap x = x := by
  rw [IntKind.wrap_u64]
  omega
theorem limb_quiet (A : Option Addr) (n c : Nat) (l : List Nat) (i x : Nat) (w : World) (h : LimbsAt w A n c l) (hi : i ≤ 1000000) (hx : x = l.getD i 0) (k : Nat) :
    Calls Tryd.prog 67 #[.slice A n c, .int .i64 (i : Int)] (w.drewN k) fun e w'' => e = .returned (.int .u64 (x : Int)) ∧ w'' = w.drewN k := by
  subst hx
  exact (limb_any A n c l i _ (h.keep0 ((Keep.refl _ _).drewN k)) hi).mono fun _ _ ⟨he, hw⟩ => ⟨he, hw.symm⟩

def U64Post (x : Nat) (w : World) (e : Ending) (w' : World) : Prop := e = .returned (.int .u64 (x : Int)) ∧ Keep (fun _ => False) w w'
set_option maxHeartbeats 800000 in
theorem clo96 (A : Option Addr) (n c : Nat) (l : List Nat) (A' : Option Addr) (n' c' : Nat) (l' : List Nat) (b1 b2 i cr : Nat) (w : World) (h : LimbsAt w A n c l) (h' : LimbsAt w A' n' c' l') (hi : i ≤ 1000000) (hc : cr ≤ 1)
    (c1 : w.cell? ⟨b1, 0, none⟩ = some (.slice A n c)) (c2 : w.cell? ⟨b2, 0, none⟩ = some (.slice A' n' c')) :
    Calls Tryd.prog 96 #[.int .i64 (i : Int), .int .u64 (cr : Int), .pointer (some ⟨b1, 0, none⟩), .pointer (some ⟨b2, 0, none⟩)] w (U64Post (plusF l l' i cr) w) := by
  have hx := low_cast h.low i
  have hy := low_cast h'.low i
  have E : ((plusF l l' i cr : Nat) : Int) = ((l.getD i 0 : Nat) : Int) + ((l'.getD i 0 : Nat) : Int) + (cr : Int) := by unfold plusF; omega
  have HE := Lib.hid E
  obtain ⟨x, hxx⟩ : ∃ x, x = l.getD i 0 := ⟨_, rfl⟩
  obtain ⟨y, hyy⟩ : ∃ y, y = l'.getD i 0 := ⟨_, rfl⟩
  have HL := Lib.hid (fun k => limb_quiet A n c l i x w h hi hxx k)
  have HL' := Lib.hid (fun k => limb_quiet A' n' c' l' i y w h' hi hyy k)
  rw [← hxx] at hx HE
  rw [← hyy] at hy HE
  have hw1 : IntKind.u64.wrap ((x : Int) + (y : Int)) = (x : Int) + (y : Int) := wrap_u64_in (by omega) (by omega)
  have hw2 : IntKind.u64.wrap ((x : Int) + (y : Int) + (cr : Int)) = (x : Int) + (y : Int) + (cr : Int) := wrap_u64_in (by omega) (by omega)
  clear hxx hyy E h h'
  go_enter Tryd.func96, Tryd.ntmps96
  go_wp2_with fail
  go_quiet ((go_at_call 67; first | with_reducible exact Calls.quiet_of_same (HL.out _) | with_reducible exact Calls.quiet_of_same (HL'.out _)))
  go_wp2_with fail
  go_ret
  exact ⟨by rw [HE.out]; rfl, (Keep.refl _ _).drewN _⟩

theorem and1 (c z : Nat) (hc : c ≤ 18446744073709551615) (hz : z = c % 2) : bits BinOp.and IntKind.u64 (c : Int) 1 = (z : Int) := by
  have h := bits_mask .u64 64 (by decide) (fun n h0 h1 => by rw [IntKind.wrap_u64]; omega) 1 (by decide) (c : Int) (by omega) (by omega)
  rw [hz]
  simpa using h
theorem less_wrap {x y z : Nat} (_hx : x ≤ 4294967295) (hy : y ≤ 4294967295) (hz : z ≤ 1) : IntKind.u64.wrap (IntKind.u64.wrap ((x : Int) - (y : Int)) - (z : Int)) = (((x + (BB * BB - y - z)) % (BB * BB) : Nat) : Int) := by
  rw [IntKind.wrap_u64, IntKind.wrap_u64, BB_sq]
  omega
set_option maxHeartbeats 800000 in
theorem clo95 (A : Option Addr) (n c : Nat) (l : List Nat) (A' : Option Addr) (n' c' : Nat) (l' : List Nat) (b1 b2 i cr : Nat) (w : World) (h : LimbsAt w A n c l) (h' : LimbsAt w A' n' c' l') (hi : i ≤ 1000000) (hc : cr ≤ 18446744073709551615)
    (c1 : w.cell? ⟨b1, 0, none⟩ = some (.slice A n c)) (c2 : w.cell? ⟨b2, 0, none⟩ = some (.slice A' n' c')) :
    Calls Tryd.prog 95 #[.int .i64 (i : Int), .int .u64 (cr : Int), .pointer (some ⟨b1, 0, none⟩), .pointer (some ⟨b2, 0, none⟩)] w (U64Post (lessF l l' i cr) w) := by
  have hx := low_cast h.low i
  have hy := low_cast h'.low i
  obtain ⟨x, hxx⟩ : ∃ x, x = l.getD i 0 := ⟨_, rfl⟩
  obtain ⟨y, hyy⟩ : ∃ y, y = l'.getD i 0 := ⟨_, rfl⟩
  obtain ⟨z, hz⟩ : ∃ z, z = cr % 2 := ⟨_, rfl⟩
  obtain ⟨f, hf⟩ : ∃ f, f = lessF l l' i cr := ⟨_, rfl⟩
  have HL := Lib.hid (fun k => limb_quiet A n c l i x w h hi hxx k)
  have HL' := Lib.hid (fun k => limb_quiet A' n' c' l' i y w h' hi hyy k)
  rw [← hxx] at hx
  rw [← hyy] at hy
  have hb := and1 cr z hc hz
  have hw : IntKind.u64.wrap (IntKind.u64.wrap ((x : Int) - (y : Int)) - (z : Int)) = (f : Int) := by
    rw [less_wrap (by omega) (by omega) (by omega), hf, hxx, hyy, hz]
    rfl
  rw [← hf]
  clear hxx hyy h h' hz hf hc
  go_enter Tryd.func95, Tryd.ntmps95
  go_wp2_with fail
  go_quiet ((go_at_call 67; first | with_reducible exact Calls.quiet_of_same (HL.out _) | with_reducible exact Calls.quiet_of_same (HL'.out _)))
  go_wp2_with fail
  go_ret
  exact ⟨by first | rfl | (rw [hw]; rfl), (Keep.refl _ _).drewN _⟩

theorem plus_le {l l' : List Nat} (h : Low BB l) (h' : Low BB l') (i : Nat) : plusF l l' i (rowC BB (plusF l l') i) ≤ 18446744073709551615 ∧ rowC BB (plusF l l') i ≤ 1 := by
  have h1 := (plus_inv BB2 h h' i).2
  have x := low_cast h i
  have y := low_cast h' i
  refine ⟨?_, h1⟩
  unfold plusF
  unfold plusF at h1
  omega
set_option maxRecDepth 100000 in
set_option maxHeartbeats 2000000 in
theorem plus_any (A : Option Addr) (n c : Nat) (l : List Nat) (A' : Option Addr) (n' c' : Nat) (l' : List Nat) (w : World) (h : LimbsAt w A n c l) (h' : LimbsAt w A' n' c' l') (hm : n ≤ 10000) (hm' : n' ≤ 10000) :
    Calls Tryd.prog 73 #[.slice A n c, .slice A' n' c'] w (OwnPost (rowL BB (plusF l l') (max n n' + 1)) w) := by
  have K : Keep (fun _ => False) w ((w.alloc (.cells #[.slice A n c] 23)).alloc (.cells #[.slice A' n' c'] 23)) := ((Keep.refl _ _).alloc _).alloc _
  have hb1 : ((w.alloc (.cells #[.slice A n c] 23)).alloc (.cells #[.slice A' n' c'] 23)).heap[w.heap.size]? = some (.cells #[.slice A n c] 23 (0, 0)) := by
    rw [Below.heap_alloc _ _ _ (by simp)]; exact heap_alloc_new w _
  have hb2 : ((w.alloc (.cells #[.slice A n c] 23)).alloc (.cells #[.slice A' n' c'] 23)).heap[w.heap.size + 1]? = some (.cells #[.slice A' n' c'] 23 (0, 0)) := by
    have := heap_alloc_new (w.alloc (.cells #[.slice A n c] 23)) (.cells #[.slice A' n' c'] 23)
    rwa [World.size_alloc] at this
  have h1 := h.keep0 K
  have h1' := h'.keep0 K
  have HCL := Lib.hid (fun (i : Nat) (w' : World) (hi : i < max n n' + 1) (K' : Keep (fun _ => False) ((w.alloc (.cells #[.slice A n c] 23)).alloc (.cells #[.slice A' n' c'] 23)) w') =>
    clo96 A n c l A' n' c' l' w.heap.size (w.heap.size + 1) i (rowC BB (plusF l l') i) w' (h1.keep0 K') (h1'.keep0 K') (by omega) (plus_le h.low h'.low i).2
      (by rw [cell_of_row w' _ _ _ _ _ (K'.heap hb1 (by simp))]; rfl) (by rw [cell_of_row w' _ _ _ _ _ (K'.heap hb2 (by simp))]; rfl))
  have HF := Lib.hid (fun (i : Nat) (_ : i < max n n' + 1) => (plus_le h.low h'.low i).1)
  clear hb1 hb2 h h' h1 h1'
  have fin : ∀ M, max n n' + 1 = M → M ≤ 100000 → Calls Tryd.prog 65 #[.int .i64 (M : Int), .func (.func 96) #[] #[.pointer (some ⟨w.heap.size, 0, none⟩), .pointer (some ⟨w.heap.size + 1, 0, none⟩)]] ((w.alloc (.cells #[.slice A n c] 23)).alloc (.cells #[.slice A' n' c'] 23)) (OwnPost (rowL BB (plusF l l') (max n n' + 1)) ((w.alloc (.cells #[.slice A n c] 23)).alloc (.cells #[.slice A' n' c'] 23))) := by
    rintro M rfl hM
    exact row96 _ _ _ _ _ hM HF.out (fun i w' hi K' => HCL.out i w' hi K')
  have FIN := Lib.hid fin
  have e1 : (n : Int) + 1 = ((n + 1 : Nat) : Int) := by omega
  have e2 : (n' : Int) + 1 = ((n' + 1 : Nat) : Int) := by omega
  have E1 := Lib.hid e1
  have E2 := Lib.hid e2
  clear fin e1 e2 HCL HF
  have fin2 : ∀ (e : Ending) (w' : World), OwnPost (rowL BB (plusF l l') (max n n' + 1)) ((w.alloc (.cells #[.slice A n c] 23)).alloc (.cells #[.slice A' n' c'] 23)) e w' → ∃ (A2 : Option Addr) (n2 c2 : Nat), e = .returned (.slice A2 n2 c2) ∧ OwnPost (rowL BB (plusF l l') (max n n' + 1)) w (.returned (.slice A2 n2 c2)) w' := by
    rintro e w' ⟨A2, n2, c2, rfl, own, k⟩
    exact ⟨A2, n2, c2, rfl, A2, n2, c2, rfl, own.mono K.size, K.trans k⟩
  have FIN2 := Lib.hid fin2
  clear fin2 K
  by_cases hlt : n < n'
  · go_enter Tryd.func73, Tryd.ntmps73
    go_wp2_with fail
    rw [E2.out]
    refine (FIN.out _ (by omega) (by omega)).mono ?_
    intro e w2 hp
    obtain ⟨A2, n2, c2, rfl, P⟩ := FIN2.out _ _ hp
    have HP := Lib.hid P
    clear P hp
    go_wp2_with fail
    go_ret
    exact HP.out
  · go_enter Tryd.func73, Tryd.ntmps73
    go_wp2_with fail
    rw [E1.out]
    refine (FIN.out _ (by omega) (by omega)).mono ?_
    intro e w2 hp
    obtain ⟨A2, n2, c2, rfl, P⟩ := FIN2.out _ _ hp
    have HP := Lib.hid P
    clear P hp
    go_wp2_with fail
    go_ret
    exact HP.out

theorem rowC_w64 (F : Nat → Nat → Nat) (hF : ∀ i c, F i c ≤ 18446744073709551615) : ∀ i, rowC BB F i ≤ 18446744073709551615
  | 0 => by unfold rowC; omega
  | i + 1 => by
    have := hF i (rowC BB F i)
    show F i (rowC BB F i) / BB ≤ _
    exact Nat.le_trans (Nat.div_le_self _ _) this
set_option maxRecDepth 100000 in
set_option maxHeartbeats 2000000 in
theorem less_any (A : Option Addr) (n c : Nat) (l : List Nat) (A' : Option Addr) (n' c' : Nat) (l' : List Nat) (w : World) (h : LimbsAt w A n c l) (h' : LimbsAt w A' n' c' l') (hm : n ≤ 10000) :
    Calls Tryd.prog 71 #[.slice A n c, .slice A' n' c'] w (OwnPost (rowL BB (lessF l l') n) w) := by
  have K : Keep (fun _ => False) w ((w.alloc (.cells #[.slice A n c] 23)).alloc (.cells #[.slice A' n' c'] 23)) := ((Keep.refl _ _).alloc _).alloc _
  have hb1 : ((w.alloc (.cells #[.slice A n c] 23)).alloc (.cells #[.slice A' n' c'] 23)).heap[w.heap.size]? = some (.cells #[.slice A n c] 23 (0, 0)) := by
    rw [Below.heap_alloc _ _ _ (by simp)]; exact heap_alloc_new w _
  have hb2 : ((w.alloc (.cells #[.slice A n c] 23)).alloc (.cells #[.slice A' n' c'] 23)).heap[w.heap.size + 1]? = some (.cells #[.slice A' n' c'] 23 (0, 0)) := by
    have := heap_alloc_new (w.alloc (.cells #[.slice A n c] 23)) (.cells #[.slice A' n' c'] 23)
    rwa [World.size_alloc] at this
  have h1 := h.keep0 K
  have h1' := h'.keep0 K
  have HCL := Lib.hid (fun (i : Nat) (w' : World) (hi : i < n) (K' : Keep (fun _ => False) ((w.alloc (.cells #[.slice A n c] 23)).alloc (.cells #[.slice A' n' c'] 23)) w') =>
    clo95 A n c l A' n' c' l' w.heap.size (w.heap.size + 1) i (rowC BB (lessF l l') i) w' (h1.keep0 K') (h1'.keep0 K') (by omega) (rowC_w64 _ (less_bound l l') i)
      (by rw [cell_of_row w' _ _ _ _ _ (K'.heap hb1 (by simp))]; rfl) (by rw [cell_of_row w' _ _ _ _ _ (K'.heap hb2 (by simp))]; rfl))
  have hm2 : n ≤ 100000 := by omega
  clear hb1 hb2 h h' h1 h1'
  go_enter Tryd.func71, Tryd.ntmps71
  go_wp2_with fail
  refine (row95 _ _ _ _ _ hm2 (fun i _ => less_bound l l' i _) (fun i w' hi K' => HCL.out i w' hi K')).mono ?_
  rintro e w2 ⟨A2, n2, c2, rfl, own, k2⟩
  have P : OwnPost (rowL BB (lessF l l') n) w (.returned (.slice A2 n2 c2)) w2 := ⟨A2, n2, c2, rfl, own.mono K.size, K.trans k2⟩
  have HP := Lib.hid P
  clear P own
  go_wp2_with fail
  go_ret
  exact HP.out
end Go.Proofs.YtdfekphahdmffaaDoor
