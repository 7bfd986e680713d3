/-
  num: parted.
-/
import Derived.Test.YtdfekphahdmffaaDoorNuAdd
import Derived.Test.YtdfekphahdmffaaDoorParts
import Derived.RegionTactic
import Derived.BigRegion
namespace Go.Proofs.YtdfekphahdmffaaDoor
open Go.RowKit

theorem or_low (x y : Nat) (hx : x ≤ 8589934590) (h2 : x % 2 = 0) (hy : y ≤ 1) : bits BinOp.or IntKind.u64 (x : Int) (y : Int) = (x : Int) + (y : Int) :=
  bits_join .u64 64 (by decide) (fun n h0 h1 => by rw [IntKind.wrap_u64]; omega) 1 (x : Int) (y : Int) (by omega) (by simp; omega) (by omega) (by omega) (by simp; omega) (by omega)
set_option maxHeartbeats 800000 in
theorem clo94 (A : Option Addr) (n c : Nat) (r : List Nat) (bit b1 b2 i cr : Nat) (w : World) (h : LimbsAt w A n c r) (hi : i < n) (hb : bit ≤ 1) (hc : cr ≤ 1)
    (c1 : w.cell? ⟨b1, 0, none⟩ = some (.int .u32 (bit : Int))) (c2 : w.cell? ⟨b2, 0, none⟩ = some (.slice A n c)) :
    Calls Tryd.prog 94 #[.int .i64 (i : Int), .int .u64 (cr : Int), .pointer (some ⟨b1, 0, none⟩), .pointer (some ⟨b2, 0, none⟩)] w (U64Post (dblF r bit i cr) w) := by
  have hx := low_cast h.low i
  have hn := h.max
  obtain ⟨b, off, rfl, _, hcx⟩ := h.row.2 i hi
  obtain ⟨x, hxx⟩ : ∃ x, x = r.getD i 0 := ⟨_, rfl⟩
  rw [← hxx] at hx hcx
  have E : dblF r bit i cr = 2 * x + if i = 0 then bit else cr := by rw [hxx]; rfl
  by_cases h0 : i = 0
  · subst h0
    rw [E, if_pos rfl]
    rw [Nat.add_zero] at hcx
    clear E hxx h
    go_enter Tryd.func94, Tryd.ntmps94
    have E2 : bits BinOp.or IntKind.u64 ((x : Int) * 2) (bit : Int) = ((2 * x + bit : Nat) : Int) := by
      have := or_low (2 * x) bit (by omega) (by omega) hb
      rw [show ((2 * x : Nat) : Int) = (x : Int) * 2 from by omega] at this
      rw [this]; omega
    have HE := Lib.hid E2
    clear E2
    go_wp2_with fail
    go_ret
    exact ⟨by rw [← HE.out]; rfl, Keep.refl _ _⟩
  · rw [E, if_neg h0]
    have hb0 : ((i : Int) == 0) = false := by simp; omega
    clear E hxx h h0
    go_enter Tryd.func94, Tryd.ntmps94
    have E2 : bits BinOp.or IntKind.u64 ((x : Int) * 2) (cr : Int) = ((2 * x + cr : Nat) : Int) := by
      have := or_low (2 * x) cr (by omega) (by omega) hc
      rw [show ((2 * x : Nat) : Int) = (x : Int) * 2 from by omega] at this
      rw [this]; omega
    have HE := Lib.hid E2
    clear E2
    go_wp2_with fail
    go_ret
    exact ⟨by rw [← HE.out]; rfl, Keep.refl _ _⟩

/-- A quotient and a rest, each in memory of its own. -/
def PartPost (a d : Nat) (w : World) (e : Ending) (w' : World) : Prop :=
  ∃ (A : Option Addr) (n c : Nat) (q : List Nat) (A' : Option Addr) (n' c' : Nat) (r : List Nat), e = .returned (.tuple #[.slice A n c, .slice A' n' c']) ∧
    OwnR 63 .u32 w' w.heap.size A n c q ∧ Low BB q ∧ lval q = a / d ∧ n ≤ 10000 ∧
    OwnR 63 .u32 w' w.heap.size A' n' c' r ∧ Low BB r ∧ lval r = a % d ∧ (n' ≤ 10000 ∧ n' ≤ (limbs d).length + 1) ∧ Keep (fun _ => False) w w'
theorem BB_two : BB = 2 ^ 32 := by unfold BB; rfl

theorem or_bit {y s : Nat} (hy : y + 2 ^ s < BB) (hd : 2 ^ (s + 1) ∣ y) : bits BinOp.or IntKind.u32 (y : Int) (2 ^ s % 4294967296) = ((y + 2 ^ s : Nat) : Int) := by
  unfold BB at hy
  have hp : 2 ^ s < 2 ^ (s + 1) := by rw [Nat.pow_succ]; have := Nat.two_pow_pos s; omega
  have e : ((2 : Int) ^ s % 4294967296) = ((2 ^ s : Nat) : Int) := by
    have : ((2 : Int) ^ s) = ((2 ^ s : Nat) : Int) := by simp
    rw [this]
    generalize 2 ^ s = z at *
    omega
  rw [e]
  have hm : y % 2 ^ (s + 1) = 0 := Nat.mod_eq_zero_of_dvd hd
  have h := bits_join .u32 32 (by decide) (fun n h0 h1 => by rw [IntKind.wrap_u32]; omega) (s + 1) (y : Int) ((2 ^ s : Nat) : Int) (by omega) (by
      have : ((2 : Int) ^ (s + 1)) = ((2 ^ (s + 1) : Nat) : Int) := by simp
      rw [this]; exact_mod_cast hm) (by omega) (Int.natCast_nonneg _) (by
      have : ((2 : Int) ^ (s + 1)) = ((2 ^ (s + 1) : Nat) : Int) := by simp
      rw [this]
      exact Int.ofNat_lt.2 hp) (by
      generalize 2 ^ s = z at *
      omega)
  rw [h, Int.natCast_add]
theorem cmpN_ge {a b : Nat} (h : b ≤ a) : 0 ≤ cmpN a b ∧ cmpN a b ≤ 1 := by
  unfold cmpN
  rw [if_neg (by omega)]
  split <;> omega
theorem bit_and {x s bit : Nat} (hx : x ≤ 4294967295) (h : bit = x / 2 ^ s % 2) : bits BinOp.and IntKind.u32 ((x : Int) / 2 ^ s) 1 = (bit : Int) := by
  have e : (x : Int) / 2 ^ s = ((x / 2 ^ s : Nat) : Int) := by simp
  have hle : x / 2 ^ s ≤ x := Nat.div_le_self _ _
  rw [e]
  generalize x / 2 ^ s = y at *
  have h := bits_mask .u32 32 (by decide) (fun n h0 h1 => by rw [IntKind.wrap_u32]; omega) 1 (by decide) (y : Int) (by omega) (by omega)
  rw [show (bit : Int) = ((y % 2 : Nat) : Int) from by omega]
  simpa using h
/-- The quotient's and the rest's memory while they are made. -/
structure Mid (w : World) (Bc Bq la : Nat) (A : Option Addr) (n c : Nat) (q r : List Nat) (wr : World) : Prop where
  hb : wr.heap[Bc]? = some (.cells #[.slice A n c] 23 (0, 0))
  q : OwnR 63 .u32 wr w.heap.size (some ⟨Bq, 0, none⟩) la la q
  r : OwnR 63 .u32 wr w.heap.size A n c r
  ne : ∀ b off, A = some ⟨b, off, none⟩ → b ≠ Bq ∧ b ≠ Bc
  K : Keep (fun _ => False) w wr
  hc : w.heap.size ≤ Bc
  hq : Bq ≠ Bc
theorem set_head {w : World} {b : Nat} {v u : Value} {t : TypeId} (h : w.heap[b]? = some (.cells #[v] t (0, 0))) : (w.setCell ⟨b, 0, none⟩ u).heap[b]? = some (.cells #[u] t (0, 0)) := by
  simp [World.setCell, Array.getElem?_modify, h]

namespace Mid
variable {w wr : World} {Bc Bq la n c n2 c2 : Nat} {A A2 : Option Addr} {q r r2 : List Nat}
theorem put (h : Mid w Bc Bq la A n c q r wr) {w3 : World} (k : Keep (fun _ => False) wr w3) (o : OwnR 63 .u32 w3 wr.heap.size A2 n2 c2 r2) : Mid w Bc Bq la A2 n2 c2 q r2 (w3.setCell ⟨Bc, 0, none⟩ (.slice A2 n2 c2)) := by
  have hBq := (h.q.fresh Bq 0 rfl).2
  have hBc := heap_lt h.hb
  have kc : Keep (fun b => b = Bc) w3 (w3.setCell ⟨Bc, 0, none⟩ (.slice A2 n2 c2)) := setCell_keep (S := fun b => b = Bc) rfl 0 _
  refine ⟨set_head (k.heap h.hb (by simp)), ?_, ?_, ?_, ?_, h.hc, h.hq⟩
  · exact (h.q.keep0 k).keep kc (fun b off e => by injection e with e; injection e with e _ _; rw [← e]; exact h.hq)
  · exact (o.mono h.K.size).keep kc (fun b off e => by have := (o.fresh b off e).1; show b ≠ Bc; omega)
  · intro b off e
    have := (o.fresh b off e).1
    omega
  · exact (h.K.trans k).into kc (by rintro i rfl; exact h.hc)
theorem bitQ (h : Mid w Bc Bq la A n c q r wr) {j : Nat} (hj : j < la) (x : Nat) : Mid w Bc Bq la A n c (q.set j x) r (wr.setCell ⟨Bq, j, none⟩ (.int .u32 (x : Int))) := by
  have kc : Keep (fun b => b = Bq) wr (wr.setCell ⟨Bq, j, none⟩ (.int .u32 (x : Int))) := setCell_keep (S := fun b => b = Bq) rfl j _
  refine ⟨kc.heap h.hb (fun e => h.hq e.symm), h.q.set hj x, h.r.keep kc (fun b off e => (h.ne b off e).1), h.ne, h.K.into kc ?_, h.hc, h.hq⟩
  intro i e
  rw [e]
  exact (h.q.fresh Bq 0 rfl).1
theorem drew (h : Mid w Bc Bq la A n c q r wr) : Mid w Bc Bq la A n c q r wr.drew := ⟨h.hb, h.q, h.r, h.ne, h.K.drew, h.hc, h.hq⟩
theorem step (h : Mid w Bc Bq la A n c q r wr) {w3 : World} (k : Keep (fun _ => False) wr w3) : Mid w Bc Bq la A n c q r w3 := ⟨k.heap h.hb (by simp), h.q.keep0 k, h.r.keep0 k, h.ne, h.K.trans k, h.hc, h.hq⟩
theorem cellC (h : Mid w Bc Bq la A n c q r wr) : wr.cell? ⟨Bc, 0, none⟩ = some (.slice A n c) := by rw [cell_of_row wr _ _ _ _ _ h.hb]; rfl
theorem frozenC (h : Mid w Bc Bq la A n c q r wr) : wr.frozen? ⟨Bc, 0, none⟩ = false := by simp [World.frozen?, h.hb]
theorem cellQ (h : Mid w Bc Bq la A n c q r wr) {j : Nat} (hj : j < la) : wr.cell? ⟨Bq, j, none⟩ = some (.int .u32 ((q.getD j 0 : Nat) : Int)) := by
  obtain ⟨b, off, e, _, hcx⟩ := h.q.row.2 j hj
  injection e with e
  injection e with e1 e2 _
  subst e1 e2
  rwa [Nat.zero_add] at hcx
end Mid
theorem dbl_row (Bc b1 : Nat) (A : Option Addr) (n c : Nat) (r : List Nat) (bit : Nat) (w : World) (h : LimbsAt w A n c r) (hb : w.heap[Bc]? = some (.cells #[.slice A n c] 23 (0, 0))) (hb1 : w.heap[b1]? = some (.cells #[.int .u32 (bit : Int)] 63 (0, 0))) (hbit : bit ≤ 1) :
    Calls Tryd.prog 65 #[.int .i64 (n : Int), .func (.func 94) #[] #[.pointer (some ⟨b1, 0, none⟩), .pointer (some ⟨Bc, 0, none⟩)]] w (OwnPost (rowL BB (dblF r bit) n) w) := by
  refine row94 n b1 Bc (dblF r bit) w h.max (fun i _ => ?_) (fun i w' hi K' => ?_)
  · have := (dbl_bound BB2 h.low hbit i).1
    unfold BB at this
    unfold BB
    omega
  · exact clo94 A n c r bit b1 Bc i _ w' (h.keep0 K') hi hbit (dbl_bound BB2 h.low hbit i).2 (by rw [cell_of_row w' _ _ _ _ _ (K'.heap hb1 (by simp))]; rfl) (by rw [cell_of_row w' _ _ _ _ _ (K'.heap hb (by simp))]; rfl)
/-- The state when k bits are left. -/
def PSt (w : World) (Bc Bq la lb a d k : Nat) (wr : World) : Prop :=
  ∃ (A : Option Addr) (c : Nat) (q r : List Nat), Mid w Bc Bq la A (lb + 1) c q r wr ∧ PartIn BB a d la lb k q r
theorem pst_init {w : World} {Bc Bq Br la lb a d : Nat} {wx : World} (hA : a < BB ^ la) (hb : wx.heap[Bc]? = some (.cells #[.slice (some ⟨Br, 0, none⟩) (lb + 1) (lb + 1)] 23 (0, 0)))
    (q : OwnR 63 .u32 wx w.heap.size (some ⟨Bq, 0, none⟩) la la (List.replicate la 0)) (r : OwnR 63 .u32 wx w.heap.size (some ⟨Br, 0, none⟩) (lb + 1) (lb + 1) (List.replicate (lb + 1) 0)) (hne : Br ≠ Bq) (hne2 : Br ≠ Bc) (hq : Bq ≠ Bc) (hc : w.heap.size ≤ Bc) (K : Keep (fun _ => False) w wx) : PSt w Bc Bq la lb a d (32 * la) wx :=
  ⟨_, _, _, _, ⟨hb, q, r, fun b off e => by injection e with e; injection e with e _ _; rw [← e]; exact ⟨hne, hne2⟩, K, hc, hq⟩, PartIn.start BB_two hA (by simp) (fun x hx => (List.mem_replicate.1 hx).2) (by simp) (fun x hx => (List.mem_replicate.1 hx).2)⟩
theorem two_made {w1 : World} {Bc N1 N2 : Nat} {v u : Value} (hb : w1.heap[Bc]? = some (.cells #[v] 23 (0, 0))) (h1 : N1 ≤ 100000) (h2 : N2 ≤ 100000) :
    OwnR 63 .u32 (((w1.setCell ⟨Bc, 0, none⟩ u).alloc (.cells (madeCells #[Value.int .u32 0] N1) 63)).alloc (.cells (madeCells #[Value.int .u32 0] N2) 63)).drew w1.heap.size (some ⟨w1.heap.size, 0, none⟩) N1 N1 (List.replicate N1 0) ∧
    OwnR 63 .u32 (((w1.setCell ⟨Bc, 0, none⟩ u).alloc (.cells (madeCells #[Value.int .u32 0] N1) 63)).alloc (.cells (madeCells #[Value.int .u32 0] N2) 63)).drew w1.heap.size (some ⟨w1.heap.size + 1, 0, none⟩) N2 N2 (List.replicate N2 0) ∧
    (((w1.setCell ⟨Bc, 0, none⟩ u).alloc (.cells (madeCells #[Value.int .u32 0] N1) 63)).alloc (.cells (madeCells #[Value.int .u32 0] N2) 63)).drew.heap[Bc]? = some (.cells #[u] 23 (0, 0)) ∧
    Keep (fun b => b = Bc) w1 (((w1.setCell ⟨Bc, 0, none⟩ u).alloc (.cells (madeCells #[Value.int .u32 0] N1) 63)).alloc (.cells (madeCells #[Value.int .u32 0] N2) 63)).drew := by
  have hs : (w1.setCell ⟨Bc, 0, none⟩ u).heap.size = w1.heap.size := by simp [World.setCell]
  have m1 := make_own (w1.setCell ⟨Bc, 0, none⟩ u) N1 h1
  rw [hs] at m1
  have m2 := make_own ((w1.setCell ⟨Bc, 0, none⟩ u).alloc (.cells (madeCells #[Value.int .u32 0] N1) 63)) N2 h2
  rw [World.size_alloc, hs] at m2
  have hB := heap_lt hb
  refine ⟨m1.keep0 (((Keep.refl _ _).alloc _).drew), (m2.mono (Nat.le_succ _)).keep0 ((Keep.refl _ _).drew), ?_, ?_⟩
  · show (((w1.setCell ⟨Bc, 0, none⟩ u).alloc _).alloc _).heap[Bc]? = _
    rw [Below.heap_alloc _ _ _ (by rw [World.size_alloc, hs]; omega), Below.heap_alloc _ _ _ (by rw [hs]; omega)]
    exact set_head hb
  · exact ((((Keep.refl (fun b => b = Bc) w1).setCell (p := ⟨Bc, 0, none⟩) (.inl rfl) u).alloc _).alloc _).drew

theorem part_done {w : World} {Bc Bq la lb a d : Nat} {A : Option Addr} {c : Nat} {q r : List Nat} {wr : World} (M : Mid w Bc Bq la A (lb + 1) c q r wr) (P : PartIn BB a d la lb 0 q r) (ha : la ≤ 10000) (hb : lb + 1 ≤ 10000) (hl : lb = (limbs d).length) :
    PartPost a d w (.returned (.tuple #[.slice (some ⟨Bq, 0, none⟩) la la, .slice A (lb + 1) c])) (wr.setCell ⟨Bc, 0, none⟩ (.slice A (lb + 1) c)).drew := by
  have kc : Keep (fun b => b = Bc) wr (wr.setCell ⟨Bc, 0, none⟩ (.slice A (lb + 1) c)).drew := (setCell_keep (S := fun b => b = Bc) rfl 0 _).drew
  have e1 : lval q = a / d := by have := P.qv; simpa using this
  have e2 : lval r = a % d := by have := P.rv; simpa using this
  exact ⟨_, _, _, q, _, _, _, r, rfl, M.q.keep kc (fun b off e => by injection e with e; injection e with e _ _; rw [← e]; exact M.hq), P.qlow, e1, ha,
    M.r.keep kc (fun b off e => (M.ne b off e).2), P.rlow, e2, ⟨hb, by omega⟩, M.K.into kc (by rintro i rfl; exact M.hc)⟩
set_option maxRecDepth 100000 in
set_option maxHeartbeats 8000000 in
theorem parted_any (A : Option Addr) (n c : Nat) (l : List Nat) (A' : Option Addr) (n' c' : Nat) (l' : List Nat) (w : World) (h : LimbsAt w A n c l) (h' : LimbsAt w A' n' c' l') (hm : n ≤ 9000) (hm' : n' ≤ 9000) (hD : 0 < lval l') :
    Calls Tryd.prog 69 #[.slice A n c, .slice A' n' c'] w (PartPost (lval l) (lval l') w) := by
  have K : Keep (fun _ => False) w (w.alloc (.cells #[.slice none 0 0] 23)) := (Keep.refl _ _).alloc _
  have hb : (w.alloc (.cells #[.slice none 0 0] 23)).heap[w.heap.size]? = some (.cells #[.slice none 0 0] 23 (0, 0)) := heap_alloc_new w _
  have h1 := h.keep0 K
  have h1' := h'.keep0 K
  have tl := tlen_le h1.low
  have tl' := tlen_le h1'.low
  rw [h1.len] at tl
  rw [h1'.len] at tl'
  go_enter Tryd.func69, Tryd.ntmps69
  go_wp2_with fail
  refine (trim_any A n c l _ h1).mono ?_
  rintro e w1 ⟨rfl, rfl⟩
  go_wp2_with fail
  refine (trim_any A' n' c' l' _ h1').mono ?_
  rintro e w1 ⟨rfl, rfl⟩
  have ha := h.trim
  have hd := h'.trim
  obtain ⟨la, hla⟩ : ∃ la, la = tlen l := ⟨_, rfl⟩
  obtain ⟨lb, hlb⟩ : ∃ lb, lb = tlen l' := ⟨_, rfl⟩
  obtain ⟨a, haa⟩ : ∃ a, a = limbs (lval l) := ⟨_, rfl⟩
  obtain ⟨d, hdd⟩ : ∃ d, d = limbs (lval l') := ⟨_, rfl⟩
  have hva : lval a = lval l := by rw [haa, lval_limbs]
  have hvd : lval d = lval l' := by rw [hdd, lval_limbs]
  rw [← hla, ← haa] at ha
  rw [← hlb, ← hdd] at hd
  rw [← hla] at tl
  rw [← hlb] at tl'
  rw [← hla, ← hlb]
  have hDd : 0 < lval d := by rw [hvd]; exact hD
  have HVA := Lib.hid hva
  have HVD := Lib.hid hvd
  have HLB := Lib.hid (show lb = (limbs (lval l')).length from hlb)
  clear hla hlb haa hdd h h' h1 h1' hva hvd hD
  go_wp2_with fail
  generalize hBc : w.heap.size = Bc at hb ⊢
  generalize w.alloc (.cells #[.slice none 0 0] 23) = w1 at K hb ⊢
  have HBC := Lib.hid hBc
  clear hBc
  have hmk1 := fun W : World => make_run la (by omega) W
  have hmk2 : ∀ W : World, (Instr.makeSlice 23 (.int .i64 ((lb : Int) + 1)) (.int .i64 ((lb : Int) + 1))).run Tryd.prog W = .ok (.slice (some ⟨W.heap.size, 0, none⟩) (lb + 1) (lb + 1)) (W.alloc (.cells (madeCells #[Value.int .u32 0] (lb + 1)) 63)) := fun W => make_run (lb + 1) (by omega) W
  have c0 : w1.cell? ⟨Bc, 0, none⟩ = some (.slice none 0 0) := by rw [cell_of_row w1 _ _ _ _ _ hb]; rfl
  have f0 : w1.frozen? ⟨Bc, 0, none⟩ = false := by simp [World.frozen?, hb]
  have hBl := heap_lt hb
  have hAl : lval l < BB ^ la := by rw [← HVA.out, ← ha.len]; exact val_lt ha.low
  have HAL := Lib.hid hAl
  have HDD := Lib.hid hDd
  clear hAl hDd
  go_cut [4] (fun qv wx => ∃ Bq : Nat, qv = .slice (some ⟨Bq, 0, none⟩) la la ∧ PSt w Bc Bq la lb (lval l) (lval l') (32 * la) wx ∧ Keep (fun b => b = Bc) w1 wx)
  case first =>
    go_region
    · go_wp2_with fail
      go_meet
      obtain ⟨m1, m2, m3, m4⟩ := two_made (u := .slice (some ⟨w1.heap.size + 1, 0, none⟩) (lb + 1) (lb + 1)) (N1 := la) (N2 := lb + 1) hb (by omega) (by omega)
      exact ⟨_, rfl, pst_init HAL.out m3 (m1.mono K.size) (m2.mono K.size) (by omega) (by omega) (by omega) (by rw [HBC.out]; exact Nat.le_refl _) (K.into m4 (by rintro i rfl; rw [HBC.out]; exact Nat.le_refl _)), m4⟩
    · go_wp2_with fail
      go_meet
      obtain ⟨m1, m2, m3, m4⟩ := two_made (u := .slice (some ⟨w1.heap.size, 0, none⟩) (lb + 1) (lb + 1)) (N1 := lb + 1) (N2 := la) hb (by omega) (by omega)
      exact ⟨_, rfl, pst_init HAL.out m3 (m2.mono K.size) (m1.mono K.size) (by omega) (by omega) (by omega) (by rw [HBC.out]; exact Nat.le_refl _) (K.into m4 (by rintro i rfl; rw [HBC.out]; exact Nat.le_refl _)), m4⟩
  case rest =>
    obtain ⟨Bq, rfl, st, kc⟩ := hcut
    have PST := Lib.hid st
    clear st hb c0 f0 hmk1 hmk2 
    go_wp2_with fail
    go_loopw [6] (fun iv wr => ∃ k : Nat, k ≤ 32 * la ∧ iv = .int .i64 ((k : Int) - 1) ∧ PSt w Bc Bq la lb (lval l) (lval l') k wr) (fun iv _ => (intOf iv + 1).toNat)
    case atStart => exact ⟨32 * la, Nat.le_refl _, by simp, PST.out⟩
    case round =>
      clear PST kc K
      obtain ⟨k, hk, rfl, A2, c2, q, r, M, P⟩ := hrel
      rcases Nat.eq_zero_or_pos k with rfl | hpos
      · have cC := M.cellC
        have fC := M.frozenC
        have cE : (wr.setCell ⟨Bc, 0, none⟩ (.slice A2 (lb + 1) c2)).drew.cell? ⟨Bc, 0, none⟩ = some (.slice A2 (lb + 1) c2) := by
          rw [cell_of_row _ _ _ _ _ _ (show (wr.setCell ⟨Bc, 0, none⟩ (.slice A2 (lb + 1) c2)).drew.heap[Bc]? = _ from set_head M.hb)]; rfl
        have HD := Lib.hid (part_done M P (by omega) (by omega) HLB.out)
        clear M P HDD HAL HVA HVD ha hd
        go_wp2_with fail
        go_big_region
        go_wp2_with fail
        refine bodyPost_ret (v := .tuple #[.slice (some ⟨Bq, 0, none⟩) la la, .slice A2 (lb + 1) c2]) ?_ rfl ?_
        · simp [results, Tryd.results69, go_sem, cE]
        · exact HD.out
      · obtain ⟨k, rfl⟩ : ∃ m, k = m + 1 := ⟨k - 1, by omega⟩
        have e1 : ((k + 1 : Nat) : Int) - 1 = (k : Int) := by omega
        rw [e1]
        have hj : k / 32 < la := by omega
        have ha2 := ha.keep0 M.K
        obtain ⟨ba, oa, rfl, _, hca⟩ := ha2.row.2 (k / 32) hj
        obtain ⟨x, hx⟩ : ∃ x, x = a.getD (k / 32) 0 := ⟨_, rfl⟩
        rw [← hx] at hca
        have hxl : x ≤ 4294967295 := by have := low_cast ha.low (k / 32); omega
        have cC := M.cellC
        have fC := M.frozenC
        have hBl := heap_lt M.hb
        obtain ⟨bit, hbit⟩ : ∃ bit, bit = lval l / 2 ^ k % 2 := ⟨_, rfl⟩
        have hand : bits BinOp.and IntKind.u32 ((x : Int) / 2 ^ (k % 32)) 1 = (bit : Int) := bit_and hxl (by rw [hbit, ← HVA.out, hx]; exact (bit_of BB_two ha.low (by rw [ha.len]; exact hj)).symm)
        have hb1 : bit ≤ 1 := by rw [hbit]; omega
        have HBIT := Lib.hid hbit
        have HM := Lib.hid M
        have HP := Lib.hid P
        clear M P ha2 hx hbit
        go_wp2_with fail
        have K2 : Keep (fun _ => False) wr (wr.alloc (.cells #[.int .u32 (bit : Int)] 63)) := (Keep.refl _ _).alloc _
        have hbb : (wr.alloc (.cells #[.int .u32 (bit : Int)] 63)).heap[wr.heap.size]? = some (.cells #[.int .u32 (bit : Int)] 63 (0, 0)) := heap_alloc_new wr _
        have hr := HM.out.r.toLimbs HP.out.rlow (by omega)
        have e2 : (lb : Int) + 1 = ((lb + 1 : Nat) : Int) := by omega
        rw [e2]
        refine (dbl_row Bc wr.heap.size A2 (lb + 1) c2 r bit _ (hr.keep0 K2) (K2.heap HM.out.hb (by simp)) hbb hb1).mono ?_
        rintro e w3 ⟨A3, n3, c3, rfl, own3, K3⟩
        have hn3 : n3 = lb + 1 := by have := own3.len; unfold rowL at this; simpa using this.symm
        subst hn3
        have hrv : lval (rowL BB (dblF r bit) (lb + 1)) = 2 * lval r + bit := by
          have hb2 := HP.out.rl
          have hlt : lval r < lval l' := by show val BB r < _; rw [HP.out.rv]; exact Nat.mod_lt _ (by rw [← HVD.out]; exact HDD.out)
          have hdl : lval d < BB ^ lb := by have := val_lt hd.low; rwa [hd.len] at this
          rw [HVD.out] at hdl
          have h2 := dbl_val BB2 (r := r) HP.out.rlow hb1 (by omega) (by
            rw [hb2, Nat.pow_succ]
            show 2 * lval r + bit < _
            have : BB ^ lb * 2 ≤ BB ^ lb * BB := Nat.mul_le_mul_left _ BB2
            omega)
          rw [hb2] at h2
          exact h2
        have hrl : (rowL BB (dblF r bit) (lb + 1)).length = lb + 1 := own3.len
        have hlow : Low BB (rowL BB (dblF r bit) (lb + 1)) := rowL_low (by unfold BB; omega) _ _
        have M3 := HM.out.put (K2.trans K3) (own3.mono K2.size)
        generalize rowL BB (dblF r bit) (lb + 1) = r2 at own3 hrv hrl hlow M3
        have hh3 := (K2.trans K3).heap HM.out.hb (by simp)
        have f3 : w3.frozen? ⟨Bc, 0, none⟩ = false := by simp [World.frozen?, hh3]
        have d3 : w3.cell? ⟨Bc, 0, none⟩ = some (.slice A2 (lb + 1) c2) := by rw [cell_of_row w3 _ _ _ _ _ hh3]; rfl
        have d4 := M3.cellC
        have f4 := M3.frozenC
        have HR := Lib.hid (And.intro hrv (And.intro hrl hlow))
        have HM3 := Lib.hid M3
        clear M3 own3 hrv hrl hlow K2 hbb hr K3 hh3 HM hca cC fC hand e1
        dsimp only
        go_wp2_with fail
        refine (order_any A3 (lb + 1) c3 r2 A' lb c' d _ (HM3.out.r.toLimbs HR.out.2.2 (by omega)) (hd.keep0 HM3.out.K)).mono ?_
        rintro e w5 ⟨rfl, K5⟩
        have M5 := HM3.out.step K5
        clear K5 HM3 d3 f3 d4 f4
        have d5 := M5.cellC
        have f5 := M5.frozenC
        rcases Nat.lt_or_ge (lval r2) (lval l') with hlt | hge
        · rw [show cmpN (lval r2) (lval d) = -1 from cmpN_lt (by rw [HVD.out]; exact hlt)]
          have R : PSt w Bc Bq la lb (lval l) (lval l') k w5 := ⟨_, _, _, _, M5, PartIn.small (by rw [← HVD.out]; exact HDD.out) HP.out HR.out.2.1 HR.out.2.2 (by rw [← HBIT.out]; exact HR.out.1) hlt⟩
          have HRR := Lib.hid R
          clear R M5 hlt
          dsimp only
          go_wp2_with fail
          go_roundw
          case rel => exact ⟨k, by omega, by go_num, HRR.out⟩
          case measure => simp [intOf]
        · obtain ⟨z, hz⟩ : ∃ z, z = cmpN (lval r2) (lval d) := ⟨_, rfl⟩
          have hz0 : 0 ≤ z ∧ z ≤ 1 := by rw [hz, HVD.out]; exact cmpN_ge hge
          obtain ⟨hz0, hz1⟩ := hz0
          rw [← hz]
          have HM5 := Lib.hid M5
          have hn := HM5.out.r.toLimbs HR.out.2.2 (by omega)
          have HLESS := Lib.hid (less_any A3 (lb + 1) c3 r2 A' lb c' d w5 hn (hd.keep0 HM5.out.K) (by omega))
          clear M5 hz hn
          dsimp only
          go_wp2_with fail
          refine HLESS.out.mono ?_
          rintro e w6 ⟨A6, n6, c6, rfl, own6, K6⟩
          have M6 := HM5.out.put K6 own6
          have hh6 := K6.heap HM5.out.hb (by simp)
          have f6 : w6.frozen? ⟨Bc, 0, none⟩ = false := by simp [World.frozen?, hh6]
          have d6 : w6.cell? ⟨Bc, 0, none⟩ = some (.slice A3 (lb + 1) c3) := by rw [cell_of_row w6 _ _ _ _ _ hh6]; rfl
          have hn6 : n6 = lb + 1 := by have := own6.len; unfold rowL at this; simpa using this.symm
          subst hn6
          have hge2 : lval d ≤ lval r2 := by rw [HVD.out]; exact hge
          have hv6 : lval (rowL BB (lessF r2 d) (lb + 1)) = lval r2 - lval l' := by
            have := less_val HR.out.2.2 hd.low hge2
            rw [HR.out.2.1] at this
            rw [← HVD.out]
            exact this
          obtain ⟨g1, g2, g3⟩ := PartIn.great (k := k) (r' := rowL BB (lessF r2 d) (lb + 1)) BB_two (by rw [← HVD.out]; exact HDD.out) HP.out hj own6.len (rowL_low (by unfold BB; omega) _ _) (by
            show lval _ = _
            rw [hv6, HR.out.1, HBIT.out]) (by rw [← HBIT.out]; have := HR.out.1; show lval l' ≤ 2 * lval r + bit; omega)
          have M7 := M6.bitQ hj (q.getD (k / 32) 0 + 2 ^ (k % 32))
          have R : PSt w Bc Bq la lb (lval l) (lval l') k _ := ⟨_, _, _, _, M7.drew, g1⟩
          have cq := M6.cellQ hj
          have fq := M6.q.frozen _ _ rfl (k / 32)
          obtain ⟨y, hy⟩ : ∃ y, y = q.getD (k / 32) 0 := ⟨_, rfl⟩
          rw [← hy] at R g2 g3 cq
          have HOR := Lib.hid (or_bit g2 g3)
          have HRR := Lib.hid R
          clear R g1 g2 g3 hy M7 hv6 hge hge2 M6 own6 K6 hh6 HLESS HM5 HBIT HP HVA HVD HAL HDD d5 f5 hz0 hz1 ha hd
          have hkm : (k : Int) ≤ 300000 := by omega
          clear tl tl'
          dsimp only
          go_wp2_with fail
          go_big_region
          rw [HOR.out]
          go_wp2_with fail
          go_roundw
          case rel => exact ⟨k, by omega, by go_num, HRR.out⟩
          case measure => simp [intOf]
end Go.Proofs.YtdfekphahdmffaaDoor
