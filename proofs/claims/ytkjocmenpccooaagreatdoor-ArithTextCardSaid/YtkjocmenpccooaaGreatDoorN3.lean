/-
  Numbers, by program: texts of another seat, turned to this one.
-/
import Derived.Test.YtkjocmenpccooaaGreatDoorN2
import Derived.Laws.BitsAllLaws
import Derived.ProofKit
import Derived.OpenShut
import Derived.LaidMore
import Derived.Lay
import Derived.SevenTiedAt
import Derived.Stop.Joined
import Derived.Stop.LaidErr
import Derived.Lib.SmallJoins
namespace Go.Proofs.YtkjocmenpccooaaGreatDoor
open Go.RowKit
theorem two2 : 2 ≤ 2 := Nat.le_refl 2
/-- The bits of a number. -/
abbrev bits2 (n : Nat) : List Nat := digs 2 n
/-- The value of bits. -/
abbrev bval (l : List Nat) : Nat := val 2 l
/-- How many bits are left when noughts at the end are cut off. -/
def blen (l : List Nat) : Nat := (bits2 (bval l)).length
theorem blen_of {l : List Nat} (low : Low 2 l) {k : Nat} (hk : k ≤ l.length) (hz : ∀ j, k ≤ j → j < l.length → l.getD j 0 = 0) (h : k = 0 ∨ l.getD (k - 1) 0 ≠ 0) : blen l = k ∧ l.take k = bits2 (bval l) := by
  have := take_digs two2 low hk hz h
  refine ⟨?_, this⟩
  have e := congrArg List.length this
  rw [List.length_take] at e
  show (digs 2 (val 2 l)).length = k
  omega
theorem blen_le {l : List Nat} (low : Low 2 l) : blen l ≤ l.length := by
  unfold blen bits2
  rw [digs_len_le two2]
  exact val_lt low
/-- A slice of bits that lies there. -/
structure BitsAt (w : World) (A : Option Addr) (n c : Nat) (l : List Nat) : Prop where
  row : RowAt .u8 w A n l
  low : Low 2 l
  cap : n ≤ c
  max : n ≤ 10000000
namespace BitsAt
variable {w w' : World} {A : Option Addr} {n c : Nat} {l : List Nat}
theorem len (h : BitsAt w A n c l) : l.length = n := h.row.1
theorem keep0 (h : BitsAt w A n c l) (k : Keep (fun _ => False) w w') : BitsAt w' A n c l := ⟨h.row.keep0 k, h.low, h.cap, h.max⟩
end BitsAt
theorem OwnR.toBits {w : World} {base n c : Nat} {A : Option Addr} {l : List Nat} (h : OwnR 5 .u8 w base A n c l) (low : Low 2 l) (hm : n ≤ 10000000) : BitsAt w A n c l := ⟨h.row, low, h.cap, hm⟩
theorem low2_cast {l : List Nat} (h : Low 2 l) (j : Nat) : l.getD j 0 = 0 ∨ l.getD j 0 = 1 := by
  have := h.getD (by omega) j
  omega
set_option maxRecDepth 100000 in
set_option maxHeartbeats 800000 in
theorem cut_any (A : Option Addr) (n c : Nat) (l : List Nat) (w : World) (hA : BitsAt w A n c l) :
    Calls Tryz.prog 166 #[.slice A n c] w fun e w' => e = .returned (.slice A (blen l) c) ∧ w = w' := by
  obtain ⟨h, low, hcap, hn⟩ := hA
  have hlen := h.1
  have LOW := Lib.hid low
  have HLEN := Lib.hid hlen
  clear low hlen
  go_enter Tryz.func166, Tryz.ntmps166
  go_wp2_with fail
  go_loop [3] (fun i => ∃ k : Nat, k ≤ n ∧ i = .int .i64 k ∧ ∀ j, k ≤ j → j < n → l.getD j 0 = 0) (fun i => (intOf i).toNat)
  case atStart => exact ⟨n, Nat.le_refl _, rfl, fun j h1 h2 => by omega⟩
  case round =>
    obtain ⟨k, hk, rfl, hz⟩ := hrel
    have HZ := Lib.hid hz
    clear hz
    by_cases h0 : k = 0
    · subst h0
      have ht := (blen_of LOW.out (k := 0) (Nat.zero_le _) (fun j h1 h2 => HZ.out j h1 (by rw [← HLEN.out]; exact h2)) (.inl rfl)).1
      have HT := Lib.hid ht
      clear ht
      go_wp2_with fail
      go_ret
      exact ⟨by rw [HT.out]; rfl, rfl⟩
    · obtain ⟨m, rfl⟩ : ∃ m, k = m + 1 := ⟨k - 1, by omega⟩
      obtain ⟨b, off, rfl, hb, hc⟩ := h.2 m (by omega)
      by_cases hx : l.getD m 0 = 0
      · rw [hx] at hc
        have HX := Lib.hid hx
        clear hx h0
        go_wp2_with fail
        go_round
        case rel => exact ⟨m, by omega, by go_num, fun j h1 h2 => by
          by_cases e : j = m
          · rw [e]; exact HX.out
          · exact HZ.out j (by omega) h2⟩
        case measure => simp [intOf]
      · have ht := (blen_of LOW.out (k := m + 1) (by rw [HLEN.out]; exact hk) (fun j h1 h2 => HZ.out j h1 (by rw [← HLEN.out]; exact h2)) (.inr (by simpa using hx))).1
        have HT := Lib.hid ht
        obtain ⟨x, hxx⟩ : ∃ x, x = l.getD m 0 := ⟨_, rfl⟩
        rw [← hxx] at hc hx
        have hb0 : (((x : Nat) : Int) == 0) = false := by simpa using hx
        clear ht h0 hxx hx
        have hc1 : (m : Int) + 1 ≤ (c : Int) := by omega
        go_wp2_with fail
        go_ret
        exact ⟨by rw [HT.out]; rfl, rfl⟩
/-- A value in memory of the call's own. -/
def BitPost (x : Int) (w : World) (e : Ending) (w' : World) : Prop :=
  Keep (fun _ => False) w w' ∧ ∃ (A : Option Addr) (n c : Nat), e = .returned (numArg (decide (x < 0)) A n c) ∧ OwnR 5 .u8 w' w.heap.size A n c (bits2 x.natAbs)
theorem btake {l : List Nat} (low : Low 2 l) : l.take (blen l) = bits2 (bval l) := by
  obtain ⟨k, hk, hz, h⟩ : ∃ k, k ≤ l.length ∧ (∀ j, k ≤ j → j < l.length → l.getD j 0 = 0) ∧ (k = 0 ∨ l.getD (k - 1) 0 ≠ 0) := by
    have : ∀ m, m ≤ l.length → (∀ j, m ≤ j → j < l.length → l.getD j 0 = 0) → ∃ k, k ≤ l.length ∧ (∀ j, k ≤ j → j < l.length → l.getD j 0 = 0) ∧ (k = 0 ∨ l.getD (k - 1) 0 ≠ 0) := by
      intro m
      induction m with
      | zero => intro hm hz; exact ⟨0, hm, hz, .inl rfl⟩
      | succ m ih =>
        intro hm hz
        by_cases e : l.getD m 0 = 0
        · refine ih (by omega) fun j hj hl => ?_
          by_cases e2 : j = m
          · rw [e2]; exact e
          · exact hz j (by omega) hl
        · exact ⟨m + 1, hm, hz, .inr (by simpa using e)⟩
    exact this l.length (Nat.le_refl _) (fun j hj hl => by omega)
  obtain ⟨h1, h2⟩ := blen_of low hk hz h
  rw [h1, h2]
/-- A sign and a magnitude. -/
def sgn (neg : Bool) (m : Nat) : Int := if neg then -(m : Int) else (m : Int)
theorem sgn_neg (neg : Bool) (m : Nat) : (neg && decide (0 < m)) = decide (sgn neg m < 0) := by
  unfold sgn
  cases neg
  · simp
  · rw [Bool.true_and, if_pos rfl]; exact decide_eq_decide.2 (by omega)
theorem blen_pos (l : List Nat) : 0 < blen l ↔ 0 < bval l := by
  unfold blen
  constructor
  · intro h
    rcases Nat.eq_zero_or_pos (bval l) with e | e
    · rw [e] at h
      unfold bits2 at h
      rw [digs_zero] at h
      simp at h
    · exact e
  · intro h
    rcases Nat.eq_zero_or_pos (bits2 (bval l)).length with e | e
    · have := digs_nil two2 (List.eq_nil_of_length_eq_zero e)
      omega
    · exact e
set_option maxRecDepth 100000 in
set_option maxHeartbeats 2000000 in
theorem value_any (base : Nat) (neg : Bool) (A : Option Addr) (n c : Nat) (l : List Nat) (w : World) (hA : OwnR 5 .u8 w base A n c l) (low : Low 2 l) (hm : n ≤ 10000000) :
    Calls Tryz.prog 129 #[.bool neg, .slice A n c] w fun e w' => Keep (fun _ => False) w w' ∧ e = .returned (numArg (decide (sgn neg (bval l) < 0)) A (blen l) c) ∧ OwnR 5 .u8 w' base A (blen l) c (bits2 (bval l)) := by
  have K : Keep (fun _ => False) w (w.alloc (.cells #[.bool false, .slice none 0 0] 131)) := (Keep.refl _ _).alloc _
  have hb : (w.alloc (.cells #[.bool false, .slice none 0 0] 131)).heap[w.heap.size]? = some (.cells #[.bool false, .slice none 0 0] 131 (0, 0)) := heap_alloc_new w _
  have own1 := hA.keep0 K
  have HB := Lib.hid (own1.toBits low hm)
  have hpos := blen_pos l
  have hsg := sgn_neg neg (bval l)
  have hle := blen_le low
  rw [hA.len] at hle
  have hO := hA.take hle
  rw [btake low] at hO
  have HO := Lib.hid hO
  have HSG := Lib.hid hsg
  have hcap := Nat.le_trans hle hA.cap
  clear hA own1 low hb hsg hO
  have hc2 : (blen l : Int) ≤ (c : Int) := by omega
  have HPOS := Lib.hid hpos
  clear hpos
  cases neg with
  | false =>
    go_enter Tryz.func129, Tryz.ntmps129
    go_wp2_with fail
    refine (cut_any A n c l _ HB.out).mono ?_
    rintro e w1 ⟨rfl, rfl⟩
    go_wp2_with fail
    refine bodyPost_ret (v := numArg false A (blen l) c) (by simp [results, Tryz.results129, go_sem]) rfl ⟨(Keep.refl _ _).alloc _, by rw [← HSG.out]; rfl, HO.out.keep0 ((Keep.refl _ _).alloc _)⟩
  | true =>
    by_cases h0 : 0 < blen l
    · have h0i : (0 : Int) < (blen l : Int) := by omega
      have hd := Lib.hid (show decide (sgn true (bval l) < 0) = true from by rw [← HSG.out, Bool.true_and]; exact decide_eq_true (HPOS.out.1 h0))
      go_enter Tryz.func129, Tryz.ntmps129
      go_wp2_with fail
      refine (cut_any A n c l _ HB.out).mono ?_
      rintro e w1 ⟨rfl, rfl⟩
      go_wp2_with fail
      refine bodyPost_ret (v := numArg true A (blen l) c) (by simp [results, Tryz.results129, go_sem]) rfl ⟨(Keep.refl _ _).alloc _, by rw [hd.out], HO.out.keep0 ((Keep.refl _ _).alloc _)⟩
    · have h0i : decide ((0 : Int) < (blen l : Int)) = false := decide_eq_false (by omega)
      have hd := Lib.hid (show decide (sgn true (bval l) < 0) = false from by rw [← HSG.out, Bool.true_and]; exact decide_eq_false (fun h => h0 (HPOS.out.2 h)))
      go_enter Tryz.func129, Tryz.ntmps129
      go_wp2_with fail
      refine (cut_any A n c l _ HB.out).mono ?_
      rintro e w1 ⟨rfl, rfl⟩
      go_wp2_with fail
      refine bodyPost_ret (v := numArg false A (blen l) c) (by simp [results, Tryz.results129, go_sem]) rfl ⟨(Keep.refl _ _).alloc _, by rw [hd.out], HO.out.keep0 ((Keep.refl _ _).alloc _)⟩
open Go.RowKit
theorem info5 : (Tryz.prog.info? 5).map (fun i => (i.zero, i.size, i.bytes)) = some (some (.int .u8 0), 1, 1) := by kernel_rfl
theorem new_bit (w5 : World) (x : Int) : ∀ j u, ([Value.int .u8 x] : List Value)[j]? = some u → (w5.alloc (.cells #[.int .u8 x] 5)).cell? ((⟨w5.heap.size, 0, none⟩ : Addr).add j) = some u := by
  intro j u hu
  match j with
  | 0 =>
    simp at hu
    subst hu
    rw [Addr.add_mid, cell_of_row _ _ _ _ _ _ (heap_alloc_new w5 _)]
    rfl
  | j + 1 => simp at hu
/-- Before a bit: i limbs are done, and k bits of the next. -/
structure VaSt (w1 : World) (l : List Nat) (i k : Nat) (bs : List Nat) (v : Value) (wr : World) : Prop where
  o : wr.ownsRow w1.heap.size 5 1 v (32 * i + k) (bs.map fun x : Nat => Value.int .u8 (x : Int))
  low : Low 2 bs
  v : bval bs = lval (l.take i) + BB ^ i * (l.getD i 0 % 2 ^ k)
  K : Keep (fun _ => False) w1 wr
theorem VaSt.len {w1 wr : World} {l bs : List Nat} {i k : Nat} {v : Value} (h : VaSt w1 l i k bs v wr) : bs.length = 32 * i + k := by have := h.o.1; simpa using this
theorem VaSt.carry {w1 wr : World} {l bs : List Nat} {i : Nat} {v : Value} (h : VaSt w1 l i 32 bs v wr) (low : Low BB l) : VaSt w1 l (i + 1) 0 bs v wr := by
  refine ⟨?_, h.low, ?_, h.K⟩
  · have := h.o
    rwa [show 32 * i + 32 = 32 * (i + 1) + 0 by omega] at this
  · rw [h.v, Nat.pow_zero, Nat.mod_one, Nat.mul_zero, Nat.add_zero, show lval (l.take (i + 1)) = lval (l.take i) + BB ^ i * l.getD i 0 from val_take_succ BB l i, Nat.mod_eq_of_lt (by have := low.getD (by unfold BB; omega) i; unfold BB at this; exact this)]
theorem VaSt.more {w1 wr w6 : World} {l bs : List Nat} {i k : Nat} {v v' : Value} (h : VaSt w1 l i k bs v wr) {b : Nat} (hb : b = l.getD i 0 / 2 ^ k % 2) {w5 : World} (K5 : Keep (fun _ => False) wr w5)
    (hown : w6.ownsRow w1.heap.size 5 1 v' (32 * i + k + 1) ((bs.map fun x : Nat => Value.int .u8 (x : Int)) ++ [.int .u8 (b : Int)])) (hgrow : w5.grownBy w6 v.ownBlock) : VaSt w1 l i (k + 1) (bs ++ [b]) v' w6 := by
  refine ⟨?_, h.low.append (by intro x hx; simp at hx; rw [hx, hb]; omega), ?_, ?_⟩
  · rw [List.map_append]; exact hown
  · rw [show bval (bs ++ [b]) = bval bs + 2 ^ bs.length * val 2 [b] from val_append 2 bs [b], h.v, h.len, Nat.mod_pow_succ, show val 2 [b] = b by simp [val], ← hb, Nat.mul_add, Nat.pow_add, Nat.pow_mul, show (2 : Nat) ^ 32 = BB from rfl]
    simp only [Nat.mul_assoc, Nat.add_assoc]
  · refine (h.K.trans K5).into (Keep.of_grown hgrow) (fun i' hi => ?_)
    rcases h.o.2 with ⟨hn, _⟩ | ⟨g, cap, cur, hv, hg, _⟩
    · rw [hn] at hi; cases hi
    · rw [hv] at hi
      have : i' = g := by simpa [Value.ownBlock] using hi
      omega
theorem bits_form {w : World} {base n : Nat} {v : Value} {xs : List Value} (h : w.ownsRow base 5 1 v n xs) : ∃ P c, v = .slice P n c := by
  rcases h.2 with ⟨hn, h0⟩ | ⟨g, cap, cur, hv, _⟩
  · exact ⟨none, 0, by rw [hn, h0]⟩
  · exact ⟨_, _, hv⟩
theorem row_kept {S : Nat → Prop} {w w' : World} {base n k : Nat} {e : TypeId} {v : Value} {xs : List Value} (h : w.ownsRow base e k v n xs) (K : Keep S w w') (hs : ∀ b, v.ownBlock = some b → ¬ S b) : w'.ownsRow base e k v n xs := by
  refine ⟨h.1, ?_⟩
  rcases h.2 with hn | ⟨g, cap, cur, hv, hg, hh, rest⟩
  · exact .inl hn
  · refine .inr ⟨g, cap, cur, hv, hg, ?_, rest⟩
    rw [K.block g (heap_lt hh) (hs g (by rw [hv]; rfl))]
    exact hh
theorem and_bit {x : Nat} (k : Nat) (hx : x < 4294967296) : bits BinOp.and IntKind.u32 ((x : Int) / 2 ^ k) 1 % 256 = ((x / 2 ^ k % 2 : Nat) : Int) := by
  have e1 : ((x : Int) / 2 ^ k) = ((x / 2 ^ k : Nat) : Int) := by simp
  have e2 : x / 2 ^ k < 4294967296 := Nat.lt_of_le_of_lt (Nat.div_le_self _ _) hx
  rw [e1, show (1 : Int) = ((1 : Nat) : Int) from rfl, u32_and_nat _ _ e2 (by omega), Nat.and_one_is_mod]
  omega
set_option maxRecDepth 100000 in
set_option maxHeartbeats 4000000 in
theorem val_any (neg : Bool) (A : Option Addr) (n c : Nat) (l : List Nat) (w : World) (h : LimbsAt w A n c l) (hm : n ≤ 9000) :
    Calls Tryz.prog 89 #[numArg neg A n c] w (BitPost (sval neg l) w) := by
  have K : Keep (fun _ => False) w ((w.alloc (.cells #[.bool neg, .slice A n c] 24)).alloc (.cells #[.bool false, .slice none 0 0] 131)) := ((Keep.refl _ _).alloc _).alloc _
  have hb1 : ((w.alloc (.cells #[.bool neg, .slice A n c] 24)).alloc (.cells #[.bool false, .slice none 0 0] 131)).heap[w.heap.size]? = some (.cells #[.bool neg, .slice A n c] 24 (0, 0)) := by
    rw [Below.heap_alloc _ _ _ (by simp)]; exact heap_alloc_new w _
  have hb2 : ((w.alloc (.cells #[.bool neg, .slice A n c] 24)).alloc (.cells #[.bool false, .slice none 0 0] 131)).heap[w.heap.size + 1]? = some (.cells #[.bool false, .slice none 0 0] 131 (0, 0)) := by
    have := heap_alloc_new (w.alloc (.cells #[.bool neg, .slice A n c] 24)) (.cells #[.bool false, .slice none 0 0] 131)
    rwa [World.size_alloc] at this
  have HL := Lib.hid (h.keep0 K)
  have HK := Lib.hid K
  have HB1 := Lib.hid hb1
  have HB2 := Lib.hid hb2
  have hmx := h.max
  clear h K hb1 hb2
  go_enter Tryz.func89, Tryz.ntmps89
  go_wp2_with fail
  generalize hBx : w.heap.size = Bx at HB1 HB2 ⊢
  have HBX := Lib.hid (Nat.le_of_eq hBx)
  clear hBx
  generalize (w.alloc (.cells #[.bool neg, .slice A n c] 24)).alloc (.cells #[.bool false, .slice none 0 0] 131) = w1 at HL HK HB1 HB2 ⊢
  have HC := Lib.hid (fun (w' : World) (K' : Keep (fun _ => False) w1 w') => (show w'.cell? ⟨Bx, 1, none⟩ = some (.slice A n c) from by rw [cell_of_row w' _ _ _ _ _ (K'.heap HB1.out (by simp))]; rfl))
  go_loopw [3, 4] (fun v iv wr => ∃ (i : Nat) (bs : List Nat), i ≤ n ∧ iv = .int .i64 (i : Int) ∧ VaSt w1 l i 0 bs v wr) (fun _ iv _ => n - (intOf iv).toNat)
  case atStart => exact ⟨0, [], Nat.zero_le _, rfl, World.ownsRow_nil _ _ _ _, Low.nil _, by rw [Nat.pow_zero, Nat.mod_one]; rfl, Keep.refl _ _⟩
  case round =>
    obtain ⟨i, bs, hi, rfl, st⟩ := hrel
    have c1 := HC.out _ st.K
    by_cases hin : i < n
    · have i0 : (0 : Int) ≤ (i : Int) := by omega
      have i1 : (i : Int) < (n : Int) := by omega
      have HS := Lib.hid st
      clear st
      go_wp2_with fail
      go_loopw [3, 5] (fun v kv wi => ∃ (k : Nat) (bs : List Nat), k ≤ 32 ∧ kv = .int .i64 (k : Int) ∧ VaSt w1 l i k bs v wi) (fun _ kv _ => 32 - (intOf kv).toNat)
      case atStart => exact ⟨0, bs, Nat.zero_le _, rfl, HS.out⟩
      case round =>
        clear HS c1
        obtain ⟨k, bs2, hk, rfl, st⟩ := hrel
        have c1 := HC.out _ st.K
        obtain ⟨P, cP, rfl⟩ := bits_form st.o
        by_cases hk32 : k < 32
        · have k0 : (0 : Int) ≤ (k : Int) := by omega
          have k1 : (k : Int) < 32 := by omega
          obtain ⟨b, off, rfl, hb, hc⟩ := (HL.out.keep0 st.K).row.2 i hin
          have hx := low_cast HL.out.low i
          obtain ⟨x, hxx⟩ : ∃ x, x = l.getD i 0 := ⟨_, rfl⟩
          rw [← hxx] at hc hx
          have HXX := Lib.hid hxx
          have HS2 := Lib.hid st
          clear hxx st
          obtain ⟨i5, h5, hz0, hz1, hz2⟩ := info_parts info5
          obtain ⟨y, hy⟩ : ∃ y, y = x / 2 ^ k % 2 := ⟨_, rfl⟩
          have hbit := and_bit (x := x) k (by omega)
          rw [← hy] at hbit
          have HY := Lib.hid hy
          have KW : Keep (fun _ => False) wr (wr.alloc (.cells #[.int .u8 (y : Int)] 5)) := (Keep.refl _ _).alloc _
          have HOWN := Lib.hid (row_kept HS2.out.o KW (fun _ _ => id))
          have HNEW := Lib.hid (new_bit wr (y : Int))
          have HBS := Lib.hid (Nat.le_trans HS2.out.K.size KW.size)
          have HKW := Lib.hid KW
          have hbl := HS2.out.len
          have HBL := Lib.hid hbl
          clear KW hy hbl
          go_wp2_with (at_builtin; rw [hbit]; refine wpList_append_own _ rfl (.tmp 17) (.tmp 27) 129 rfl w1.heap.size 5 i5 (.int .u8 0) 1 1 Tryz.underlying129 h5 hz0 hz1 hz2 rfl (by decide) _ _ _ rfl HOWN.out ⟨wr.heap.size, 0, none⟩ 1 1 [.int .u8 (y : Int)] rfl rfl HNEW.out ?a1 ?a2 ?a3 HBS.out ?_)
          case a1 => intro u hu; simp at hu; subst hu; rfl
          case a2 => unfold maxLen; omega
          case a3 => omega
          intro v' w6 hown hgrow _
          have N := HS2.out.more (b := y) (by rw [HY.out, HXX.out]) HKW.out hown hgrow
          obtain ⟨P2, cP2, rfl⟩ := bits_form N.o
          have HN := Lib.hid N
          clear N hown hgrow
          go_wp2_with fail
          go_roundw
          case rel => exact ⟨k + 1, _, by omega, by go_num, HN.out⟩
          case measure => simp [intOf]; omega
        · have hkd : decide ((k : Int) < 32) = false := decide_eq_false (by omega)
          obtain rfl : k = 32 := by omega
          have HS2 := Lib.hid (st.carry HL.out.low)
          clear st
          go_wp2_with fail
          go_roundw
          case rel => exact ⟨i + 1, _, by omega, by go_num, HS2.out⟩
          case measure => simp [intOf]; omega
    · have hd : decide ((i : Int) < (n : Int)) = false := decide_eq_false (by omega)
      obtain rfl : i = n := by omega
      have hv : bval bs = lval l := by rw [st.v, Nat.pow_zero, Nat.mod_one, Nat.mul_zero, Nat.add_zero, List.take_of_length_le (by rw [HL.out.len]; omega)]
      have hsl : sgn neg (bval bs) = sval neg l := by rw [hv]; rfl
      obtain ⟨P, cP, rfl⟩ := bits_form st.o
      have c0 : wr.cell? ⟨Bx, 0, none⟩ = some (.bool neg) := by rw [cell_of_row wr _ _ _ _ _ (st.K.heap HB1.out (by simp))]; rfl
      have hx2 := st.K.heap HB2.out (by simp)
      have HS := Lib.hid st
      have HV := Lib.hid (And.intro hv hsl)
      have hlt := Nat.lt_of_lt_of_le (heap_lt HB2.out) st.K.size
      have HX2 := Lib.hid hx2
      have HBL := Lib.hid (heap_lt HB2.out)
      clear st hv hsl hx2
      go_wp2_with fail
      refine (value_any w1.heap.size neg P (32 * i + 0) cP bs wr HS.out.o HS.out.low (by omega)).mono ?_
      rintro e w9 ⟨k9, rfl, o9⟩
      rw [HV.out.2]
      rw [HV.out.1] at o9
      have hb9 := k9.heap HX2.out (by simp)
      have d0 : w9.cell? ⟨Bx + 1, 0, none⟩ = some (.bool false) := by rw [cell_of_row w9 _ _ _ _ _ hb9]; rfl
      have d1 : w9.cell? ⟨Bx + 1, 1, none⟩ = some (.slice none 0 0) := by rw [cell_of_row w9 _ _ _ _ _ hb9]; rfl
      have g0 : w9.frozen? ⟨Bx + 1, 0, none⟩ = false := by simp [World.frozen?, hb9]
      have g1 : w9.frozen? ⟨Bx + 1, 1, none⟩ = false := by simp [World.frozen?, hb9]
      obtain ⟨q, hq⟩ : ∃ q, q = decide (sval neg l < 0) := ⟨_, rfl⟩
      rw [← hq]
      have HQ := Lib.hid hq
      have HE := Lib.hid (two_cells hb9 (.bool q) (.slice P (blen bs) cP))
      have HKK := Lib.hid (two_keep (HK.out.trans (HS.out.K.trans k9)) (Nat.le_trans HBX.out (Nat.le_succ Bx)) (.bool q) (.slice P (blen bs) cP))
      have HO := Lib.hid ((two_own o9 HBL.out (.bool q) (.slice P (blen bs) cP)).mono HK.out.size)
      clear hq k9 o9 hb9
      try dsimp only
      go_wp2_with fail
      obtain ⟨e0, e1⟩ := HE.out
      refine bodyPost_ret (v := numArg q P (blen bs) cP) (by simp [results, Tryz.results89, go_sem, e0, e1]) rfl ⟨HKK.out, P, blen bs, cP, by rw [← HQ.out], ?_⟩
      rw [sval_abs]
      exact HO.out
open Go.RowKit
theorem len_pow (m B a b k : Nat) (hB : B = 2 ^ a) (hk : k = a * b) : (digs 2 m).length ≤ k ↔ m < B ^ b := by
  subst hB hk
  rw [digs_len_le two2, Nat.pow_mul]
theorem fits_bits (x : Int) : Fits x ↔ (bits2 x.natAbs).length ≤ 1536 := (Fits_iff x).trans (len_pow x.natAbs BB 32 48 1536 rfl rfl).symm
/-- Before the bit i. -/
structure NmSt (w1 : World) (B2 : Nat) (neg : Bool) (l : List Nat) (i : Nat) (A : Option Addr) (n c : Nat) (ls : List Nat) (wr : World) : Prop where
  r : wr.heap[B2]? = some (.cells #[.bool neg, .slice A n c] 24 (0, 0))
  own : OwnR 39 .u32 wr w1.heap.size A n c ls
  low : Low BB ls
  v : lval ls = bval (l.take i)
  n : n = (i + 31) / 32
  K : Keep (fun b => b = B2) w1 wr
  lt : B2 < w1.heap.size
namespace NmSt
variable {w1 wr w5 w6 : World} {B2 : Nat} {neg : Bool} {l ls : List Nat} {i n c : Nat} {A : Option Addr}
theorem len (h : NmSt w1 B2 neg l i A n c ls wr) : ls.length = n := h.own.len
/-- A limb more. -/
theorem limb (h : NmSt w1 B2 neg l i A n c ls wr) (hi : i % 32 = 0) {v' : Value} (K5 : Keep (fun _ => False) wr w5)
    (hown : w6.ownsRow w1.heap.size 39 1 v' (n + 1) ((ls.map fun x : Nat => Value.int .u32 (x : Int)) ++ [.int .u32 0])) (hgrow : w5.grownBy w6 (Value.slice A n c).ownBlock) :
    ∃ A' c', v' = .slice A' (n + 1) c' ∧ w6.heap[B2]? = some (.cells #[.bool neg, .slice A n c] 24 (0, 0)) ∧ OwnR 39 .u32 (w6.setCell ⟨B2, 1, none⟩ v') w1.heap.size A' (n + 1) c' (ls ++ [0]) ∧ Low BB (ls ++ [0]) ∧ lval (ls ++ [0]) = bval (l.take i) ∧ n + 1 = i / 32 + 1 ∧
      (w6.setCell ⟨B2, 1, none⟩ v').heap[B2]? = some (.cells #[.bool neg, v'] 24 (0, 0)) ∧ Keep (fun b => b = B2) w1 (w6.setCell ⟨B2, 1, none⟩ v') ∧ Keep (fun b => b = B2) w1 w6 := by
  have hown2 : w6.ownsRow w1.heap.size 39 1 v' (n + 1) ((ls ++ [0]).map fun x : Nat => Value.int .u32 (x : Int)) := by rw [List.map_append]; exact hown
  obtain ⟨A', c', rfl, o6⟩ := own_slice hown2
  have hob : ∀ k, (Value.slice A n c).ownBlock = some k → w1.heap.size ≤ k := by
    intro k hk
    rcases h.own.2 with ⟨hn, _⟩ | ⟨g, cap, cur, hv, hg, _⟩
    · rw [hn] at hk; cases hk
    · rw [hv] at hk
      have : k = g := by simpa [Value.ownBlock] using hk.symm
      omega
  have hr6 : w6.heap[B2]? = some (.cells #[.bool neg, .slice A n c] 24 (0, 0)) := by
    have h5 := K5.heap h.r (by simp)
    exact (Keep.of_grown hgrow).heap h5 (fun e => by have := hob B2 e.symm; have := h.lt; omega)
  have KS : Keep (fun b => b = B2) w6 (w6.setCell ⟨B2, 1, none⟩ (.slice A' (n + 1) c')) := setCell_keep (S := fun b => b = B2) rfl 1 _
  refine ⟨A', c', rfl, hr6, o6.keep KS (fun b off e => by have := (o6.fresh b off e).1; have := h.lt; omega), h.low.append (by intro x hx; simp at hx; rw [hx]; unfold BB; omega), ?_, by have := h.n; omega, ?_, ?_, ?_⟩
  · rw [show lval (ls ++ [0]) = lval ls + BB ^ ls.length * val BB [0] from val_append BB ls [0], h.v]; simp [val]
  · simp [World.setCell, Array.getElem?_modify, hr6]
  · have k1 : Keep (fun b => b = B2) w1 w5 := h.K.join K5 (fun _ _ f => f.elim)
    exact (k1.grown hgrow (fun k hk => .inr (hob k hk))).join KS (fun _ _ e => e)
  · exact (h.K.join K5 (fun _ _ f => f.elim)).grown hgrow (fun k hk => .inr (hob k hk))
end NmSt
theorem NmSt.drew {w1 wr : World} {B2 : Nat} {neg : Bool} {l ls : List Nat} {i n c : Nat} {A : Option Addr} (h : NmSt w1 B2 neg l i A n c ls wr) : NmSt w1 B2 neg l i A n c ls wr.drew :=
  ⟨h.r, h.own.keep0 (Keep.refl _ wr).drew, h.low, h.v, h.n, h.K.drew, h.lt⟩
/-- Before the bit i, its limb there. -/
structure NmMid (w1 : World) (B2 : Nat) (neg : Bool) (l : List Nat) (i : Nat) (A : Option Addr) (n c : Nat) (ls : List Nat) (wr : World) : Prop where
  r : wr.heap[B2]? = some (.cells #[.bool neg, .slice A n c] 24 (0, 0))
  own : OwnR 39 .u32 wr w1.heap.size A n c ls
  low : Low BB ls
  v : lval ls = bval (l.take i)
  n : n = i / 32 + 1
  K : Keep (fun b => b = B2) w1 wr
  lt : B2 < w1.heap.size
theorem NmMid.zero {w1 wr : World} {B2 : Nat} {neg : Bool} {l ls : List Nat} {i n c : Nat} {A : Option Addr} (h : NmMid w1 B2 neg l i A n c ls wr) (hz : l.getD i 0 = 0) : NmSt w1 B2 neg l (i + 1) A n c ls wr :=
  ⟨h.r, h.own, h.low, by rw [h.v, show bval (l.take (i + 1)) = _ from val_take_succ 2 l i, hz, Nat.mul_zero, Nat.add_zero], by have := h.n; omega, h.K, h.lt⟩
theorem or_lowb {y s : Nat} (hy : y < 2 ^ s) (hs : s < 32) : bits BinOp.or IntKind.u32 (y : Int) (2 ^ s % 4294967296) = ((y + 2 ^ s : Nat) : Int) := by
  have h2 : 2 ^ s < 4294967296 := Nat.pow_lt_pow_right (a := 2) (by omega) hs
  have e : ((2 : Int) ^ s % 4294967296) = ((2 ^ s : Nat) : Int) := by
    have : ((2 : Int) ^ s) = ((2 ^ s : Nat) : Int) := by simp
    rw [this]
    generalize 2 ^ s = z at *
    omega
  rw [e, u32_or_nat _ _ (by omega) h2, Nat.or_comm]
  have := Nat.two_pow_add_eq_or_of_lt hy 1
  rw [Nat.mul_one] at this
  rw [← this, Nat.add_comm]
/-- The last limb is what lies above the full ones. -/
theorem last_limb {ls : List Nat} {i : Nat} (_low : Low BB ls) (hl : ls.length = i / 32 + 1) (hv : lval ls < 2 ^ i) : ls.getD (i / 32) 0 < 2 ^ (i % 32) := by
  have h1 : lval ls = lval (ls.take (i / 32)) + BB ^ (i / 32) * ls.getD (i / 32) 0 := by
    rw [← show lval (ls.take (i / 32 + 1)) = _ from val_take_succ BB ls (i / 32), List.take_of_length_le (by omega)]
  have h2 : 2 ^ i = BB ^ (i / 32) * 2 ^ (i % 32) := by
    rw [show BB = 2 ^ 32 from rfl, ← Nat.pow_mul, ← Nat.pow_add]
    congr 1
    omega
  rw [h2] at hv
  refine Nat.lt_of_mul_lt_mul_left (a := BB ^ (i / 32)) ?_
  omega
theorem set_limb {ls : List Nat} {i : Nat} (low : Low BB ls) (hl : ls.length = i / 32 + 1) (hv : lval ls < 2 ^ i) : Low BB (ls.set (i / 32) (ls.getD (i / 32) 0 + 2 ^ (i % 32))) ∧ lval (ls.set (i / 32) (ls.getD (i / 32) 0 + 2 ^ (i % 32))) = lval ls + 2 ^ i := by
  have hy := last_limb low hl hv
  have h3 : 2 ^ (i % 32) + 2 ^ (i % 32) ≤ BB := by
    rw [← Nat.two_mul, ← Nat.pow_succ', show BB = 2 ^ 32 from rfl]
    exact Nat.pow_le_pow_right (by omega) (by omega)
  have h2 : 2 ^ i = BB ^ (i / 32) * 2 ^ (i % 32) := by
    rw [show BB = 2 ^ 32 from rfl, ← Nat.pow_mul, ← Nat.pow_add]
    congr 1
    omega
  refine ⟨fun x hx => ?_, ?_⟩
  · rcases List.mem_or_eq_of_mem_set hx with h | h
    · exact low x h
    · omega
  · have := val_set BB ls (i / 32) (ls.getD (i / 32) 0 + 2 ^ (i % 32)) (by omega)
    rw [Nat.mul_add] at this
    show val BB _ = val BB ls + _
    omega
theorem NmMid.one {w1 wr : World} {B2 g : Nat} {neg : Bool} {l ls : List Nat} {i n c : Nat} (h : NmMid w1 B2 neg l i (some ⟨g, 0, none⟩) n c ls wr) (low : Low 2 l) (hz : l.getD i 0 = 1) :
    ls.getD (i / 32) 0 < 2 ^ (i % 32) ∧ (∀ w6, w6 = wr.setCell ⟨g, i / 32, none⟩ (.int .u32 ((ls.getD (i / 32) 0 + 2 ^ (i % 32) : Nat) : Int)) → NmSt w1 B2 neg l (i + 1) (some ⟨g, 0, none⟩) n c (ls.set (i / 32) (ls.getD (i / 32) 0 + 2 ^ (i % 32))) w6) := by
  have hlt : lval ls < 2 ^ i := by rw [h.v]; exact val_take_lt (by omega) low i
  have hlen : ls.length = i / 32 + 1 := by rw [h.own.len]; exact h.n
  obtain ⟨s1, s2⟩ := set_limb h.low hlen hlt
  refine ⟨last_limb h.low hlen hlt, ?_⟩
  rintro w6 rfl
  have hg := (h.own.fresh g 0 rfl).1
  have KS : Keep (fun b => b = g) wr (wr.setCell ⟨g, i / 32, none⟩ (.int .u32 ((ls.getD (i / 32) 0 + 2 ^ (i % 32) : Nat) : Int))) := setCell_keep (S := fun b => b = g) rfl _ _
  refine ⟨KS.heap h.r (by have := h.lt; omega), h.own.set (by rw [h.n]; omega) _, s1, ?_, by have := h.n; omega, h.K.join KS (fun b hb e => by rw [e] at hb; omega), h.lt⟩
  rw [s2, h.v, show bval (l.take (i + 1)) = _ from val_take_succ 2 l i, hz, Nat.mul_one]
/-- With no nought at the end of the bits there is none at the end of the limbs. -/
theorem num_tight {w1 wr : World} {B2 : Nat} {neg : Bool} {l ls : List Nat} {i n c : Nat} {A : Option Addr} (h : NmSt w1 B2 neg l i A n c ls wr) (hl : i = l.length) (ht : Tight l) : Tight ls := by
  have hv : lval ls = bval l := by rw [h.v, List.take_of_length_le (by omega)]
  have hn := h.n
  have hlen := h.len
  intro hlast
  have hne : ls ≠ [] := by intro e; rw [e] at hlast; simp at hlast
  have hpos : 0 < ls.length := List.length_pos_iff.2 hne
  have hi0 : 0 < i := by omega
  have e := (List.dropLast_concat_getLast hne).symm
  have h0 : ls.getLast hne = 0 := by rw [List.getLast?_eq_some_getLast hne] at hlast; exact Option.some.inj hlast
  have hv2 : lval ls = lval ls.dropLast := by
    show val BB ls = val BB ls.dropLast
    conv => lhs; rw [e]
    rw [val_append, h0]
    simp [val]
  have h1 : lval ls.dropLast < BB ^ (n - 1) := by
    have := val_lt (show Low BB ls.dropLast from fun x hx => h.low x (List.dropLast_subset _ hx))
    rwa [List.length_dropLast, hlen] at this
  have h2 : 2 ^ (i - 1) ≤ bval l := by
    have := pow_le_val (B := 2) (by omega) ht (by intro e; rw [e] at hl; simp at hl; omega)
    rwa [← hl] at this
  have h3 : BB ^ (n - 1) ≤ 2 ^ (i - 1) := by
    rw [show BB = 2 ^ 32 from rfl, ← Nat.pow_mul]
    exact Nat.pow_le_pow_right (by omega) (by omega)
  omega
set_option maxRecDepth 100000 in
set_option maxHeartbeats 8000000 in
theorem num_any (x : Int) (A : Option Addr) (n c : Nat) (w : World) (h : BitsAt w A n c (bits2 x.natAbs)) :
    Calls Tryz.prog 88 #[numArg (decide (x < 0)) A n c] w (ResPost x w) := by
  obtain ⟨neg, hneg⟩ : ∃ b, b = decide (x < 0) := ⟨_, rfl⟩
  rw [← hneg]
  have HNEG := Lib.hid hneg
  have hfit := fits_bits x
  rw [h.len] at hfit
  have HFIT := Lib.hid hfit
  have hmx := h.max
  obtain ⟨l, hl⟩ : ∃ l, l = bits2 x.natAbs := ⟨_, rfl⟩
  rw [← hl] at h
  have HLE := Lib.hid hl
  have HB := Lib.hid h
  have HBL := Lib.hid (fun (hn : 0 < n) (b off : Nat) (e : A = some ⟨b, off, none⟩) => (show b < w.heap.size from by obtain ⟨b', off', e', hb', _⟩ := h.row.2 0 hn; rw [e] at e'; injection e' with e'; injection e' with e1; rw [e1]; exact hb'))
  clear hneg hfit hl h
  have K : Keep (fun _ => False) w ((w.alloc (.cells #[.bool neg, .slice A n c] 131)).alloc (.cells #[.bool false, .slice none 0 0] 24)) := ((Keep.refl _ _).alloc _).alloc _
  have hb1 : ((w.alloc (.cells #[.bool neg, .slice A n c] 131)).alloc (.cells #[.bool false, .slice none 0 0] 24)).heap[w.heap.size]? = some (.cells #[.bool neg, .slice A n c] 131 (0, 0)) := by
    rw [Below.heap_alloc _ _ _ (by simp)]; exact heap_alloc_new w _
  have hb2 : ((w.alloc (.cells #[.bool neg, .slice A n c] 131)).alloc (.cells #[.bool false, .slice none 0 0] 24)).heap[w.heap.size + 1]? = some (.cells #[.bool false, .slice none 0 0] 24 (0, 0)) := by
    have := heap_alloc_new (w.alloc (.cells #[.bool neg, .slice A n c] 131)) (.cells #[.bool false, .slice none 0 0] 24)
    rwa [World.size_alloc] at this
  have HK := Lib.hid K
  have HB1 := Lib.hid hb1
  have HB2 := Lib.hid hb2
  clear K hb1 hb2
  by_cases hbig : 1536 < n
  · have hbi : (1536 : Int) < (n : Int) := by omega
    have HR := Lib.hid (show ResPost x w (.returned (.tuple #[numArg false none 0 0, .int .i64 6])) ((w.alloc (.cells #[.bool neg, .slice A n c] 131)).alloc (.cells #[.bool false, .slice none 0 0] 24)) from ⟨HK.out, .inl ⟨fun f => by have := HFIT.out.1 f; omega, rfl⟩⟩)
    clear HNEG HFIT
    go_enter Tryz.func88, Tryz.ntmps88
    go_wp2_with fail
    exact bodyPost_ret (v := .tuple #[numArg false none 0 0, .int .i64 6]) (by simp [results, Tryz.results88, go_sem]) rfl HR.out
  · have hbi : decide ((1536 : Int) < (n : Int)) = false := decide_eq_false (by omega)
    go_enter Tryz.func88, Tryz.ntmps88
    go_wp2_with fail
    have K3 : Keep (fun _ => False) w (((w.alloc (.cells #[.bool neg, .slice A n c] 131)).alloc (.cells #[.bool false, .slice none 0 0] 24)).alloc (.cells #[.bool neg, .slice none 0 0] 24)) := HK.out.alloc _
    have hb3 := heap_alloc_new ((w.alloc (.cells #[.bool neg, .slice A n c] 131)).alloc (.cells #[.bool false, .slice none 0 0] 24)) (.cells #[.bool neg, .slice none 0 0] 24)
    rw [World.size_alloc, World.size_alloc] at hb3
    have g1 := (((Keep.refl (fun _ => False) _).alloc (.cells #[.bool neg, .slice none 0 0] 24))).heap HB1.out (by simp)
    have g2 := (((Keep.refl (fun _ => False) _).alloc (.cells #[.bool neg, .slice none 0 0] 24))).heap HB2.out (by simp)
    have HBB := Lib.hid (HB.out.keep0 K3)
    clear HB HB1 HB2 HK
    have HK := Lib.hid K3
    have HB1 := Lib.hid g1
    have HB2 := Lib.hid g2
    have HB3 := Lib.hid hb3
    clear K3 g1 g2 hb3
    generalize hB0 : w.heap.size = B0 at HB1 HB2 HB3 ⊢
    have HBX := Lib.hid (Nat.le_of_eq hB0)
    clear hB0
    generalize ((w.alloc (.cells #[.bool neg, .slice A n c] 131)).alloc (.cells #[.bool false, .slice none 0 0] 24)).alloc (.cells #[.bool neg, .slice none 0 0] 24) = w1 at HBB HK HB1 HB2 HB3 ⊢
    have HC := Lib.hid (fun (w' : World) (K' : Keep (fun b => b = B0 + 1 + 1) w1 w') => (show w'.cell? ⟨B0, 1, none⟩ = some (.slice A n c) from by rw [cell_of_row w' _ _ _ _ _ (K'.heap HB1.out (by omega))]; rfl))
    go_loopw [5] (fun iv wr => ∃ (i : Nat) (A' : Option Addr) (n' c' : Nat) (ls : List Nat), i ≤ n ∧ iv = .int .i64 (i : Int) ∧ NmSt w1 (B0 + 1 + 1) neg l i A' n' c' ls wr) (fun iv _ => n - (intOf iv).toNat)
    case atStart => exact ⟨0, none, 0, 0, [], Nat.zero_le _, rfl, HB3.out, OwnR.nil _ _ _ _, Low.nil _, rfl, rfl, Keep.refl _ _, heap_lt HB3.out⟩
    case round =>
      obtain ⟨i, A2, n2, c2, ls, hi, rfl, st⟩ := hrel
      have c1 := HC.out _ st.K
      have r0 : wr.cell? ⟨B0 + 1 + 1, 0, none⟩ = some (.bool neg) := by rw [cell_of_row wr _ _ _ _ _ st.r]; rfl
      have r1 : wr.cell? ⟨B0 + 1 + 1, 1, none⟩ = some (.slice A2 n2 c2) := by rw [cell_of_row wr _ _ _ _ _ st.r]; rfl
      have z0 : wr.frozen? ⟨B0 + 1 + 1, 0, none⟩ = false := by simp [World.frozen?, st.r]
      have z1 : wr.frozen? ⟨B0 + 1 + 1, 1, none⟩ = false := by simp [World.frozen?, st.r]
      by_cases hin : i < n
      · have i0 : (0 : Int) ≤ (i : Int) := by omega
        have i1 : (i : Int) < (n : Int) := by omega
        obtain ⟨b, off, rfl, _, _⟩ := HBB.out.row.2 i hin
        have hbB : b < w.heap.size := HBL.out (by omega) b off rfl
        have HCB := Lib.hid (fun (w' : World) (K' : Keep (fun b => b = B0 + 1 + 1) w1 w') => (show w'.cell? ⟨b, off + i, none⟩ = some (.int .u8 ((l.getD i 0 : Nat) : Int)) from by
          obtain ⟨b', off', e', _, hc'⟩ := (HBB.out.row.keep K' (fun _ b2 off2 e2 => by injection e2 with e2; injection e2 with e2; have := HBX.out; omega)).2 i hin
          injection e' with e'
          injection e' with e1 e2
          rw [← e1, ← e2] at hc'
          exact hc'))
        have HBN := Lib.hid hbB
        clear hbB
        have HS := Lib.hid st
        clear st
        by_cases h32 : i % 32 = 0
        · have t32 : ((i : Int) % 32 == 0) = true := by rw [beq_iff_eq]; omega
          obtain ⟨i63, h63, hz0, hz1, hz2⟩ := info_parts info63
          have KW : Keep (fun _ => False) wr (wr.alloc (.cells #[.int .u32 0] 39)) := (Keep.refl _ _).alloc _
          have HOWN := Lib.hid (HS.out.own.keep0 KW)
          have HNEW := Lib.hid (show ∀ j u, ([Value.int .u32 0] : List Value)[j]? = some u → (wr.alloc (.cells #[.int .u32 0] 39)).cell? ((⟨wr.heap.size, 0, none⟩ : Addr).add j) = some u from by
            intro j u hu
            match j with
            | 0 =>
              simp at hu
              subst hu
              rw [Addr.add_mid, cell_of_row _ _ _ _ _ _ (heap_alloc_new wr _)]
              rfl
            | j + 1 => simp at hu)
          have HBS := Lib.hid (Nat.le_trans HS.out.K.size KW.size)
          have HKW := Lib.hid KW
          have hn2 := HS.out.n
          have HN2 := Lib.hid hn2
          clear KW hn2
          go_wp2_with (at_builtin; refine wpList_append_own _ rfl (.tmp 25) (.tmp 26) 22 rfl w1.heap.size 39 i63 (.int .u32 0) 1 4 Tryz.underlying22 h63 hz0 hz1 hz2 rfl (by decide) _ _ _ rfl HOWN.out ⟨wr.heap.size, 0, none⟩ 1 1 [.int .u32 0] rfl rfl HNEW.out ?a1 ?a2 ?a3 HBS.out ?_)
          case a1 => intro u hu; simp at hu; subst hu; rfl
          case a2 => have := HN2.out; unfold maxLen; omega
          case a3 => have := HN2.out; omega
          intro v' w6 hown hgrow _
          obtain ⟨A3, c3, rfl, hr6, o3, low3, v3, n3, r3, k3, k6⟩ := HS.out.limb h32 HKW.out hown hgrow
          have p0 : w6.cell? ⟨B0 + 1 + 1, 0, none⟩ = some (.bool neg) := by rw [cell_of_row w6 _ _ _ _ _ hr6]; rfl
          have p1 : w6.cell? ⟨B0 + 1 + 1, 1, none⟩ = some (.slice A2 n2 c2) := by rw [cell_of_row w6 _ _ _ _ _ hr6]; rfl
          have p2 : w6.frozen? ⟨B0 + 1 + 1, 1, none⟩ = false := by simp [World.frozen?, hr6]
          have HM := Lib.hid (show NmMid w1 (B0 + 1 + 1) neg l i A3 (n2 + 1) c3 (ls ++ [0]) (w6.setCell ⟨B0 + 1 + 1, 1, none⟩ (.slice A3 (n2 + 1) c3)) from ⟨r3, o3, low3, v3, n3, k3, HS.out.lt⟩)
          clear hown hgrow hr6 o3 low3 v3 n3 c1 r0 r1 z0 z1 r3 k3
          have c1 := HC.out _ k6
          have hcb := HCB.out _ k6
          have nB1 : B0 + 1 + 1 ≠ B0 := by omega
          have nB2 : B0 + 1 + 1 ≠ b := by have := HBN.out; have := HBX.out; omega
          clear k6
          have hq0 : 0 < n2 + 1 := by omega
          obtain ⟨g, cg, eg, hcg, _⟩ := World.ownsRow.form HM.out.own hq0
          injection eg with eg _ ec
          subst eg ec
          rcases low2_cast HBB.out.low i with hbit | hbit
          · rw [hbit] at hcb
            have HN := Lib.hid (HM.out.zero hbit)
            clear hbit
            try dsimp only
            go_wp2_with fail
            go_roundw
            case rel => exact ⟨i + 1, _, _, _, _, by omega, by go_num, HN.out⟩
            case measure => simp [intOf]; omega
          · rw [hbit] at hcb
            have HBIT := Lib.hid hbit
            clear hbit
            try dsimp only
            go_wp2_with fail
            clear p0 p1 p2 hcb nB1 nB2 c1 h32 t32
            generalize w6.setCell ⟨B0 + 1 + 1, 1, none⟩ (.slice (some ⟨g, 0, none⟩) (n2 + 1) c3) = w8 at HM ⊢
            obtain ⟨hy, hset⟩ := HM.out.one HBB.out.low HBIT.out
            obtain ⟨y, hye⟩ : ∃ y, y = (ls ++ [0]).getD (i / 32) 0 := ⟨_, rfl⟩
            rw [← hye] at hy hset
            have hcl := HM.out.own.row.2 (i / 32) (by have := HM.out.n; omega)
            rw [← hye] at hcl
            obtain ⟨b', off', e', _, hcl⟩ := hcl
            injection e' with e'
            injection e' with e1 e2 _
            subst e1 e2
            rw [Nat.zero_add] at hcl
            have hfz := HM.out.own.frozen _ 0 rfl (i / 32)
            have HOR := Lib.hid (or_lowb hy (Nat.mod_lt i (by omega)))
            have hr1 : (w8).cell? ⟨B0 + 1 + 1, 1, none⟩ = some (.slice (some ⟨g, 0, none⟩) (n2 + 1) c3) := by rw [cell_of_row _ _ _ _ _ _ HM.out.r]; rfl
            have j0 : i / 32 < n2 + 1 := by have := HM.out.n; omega
            have hkm : (i : Int) ≤ 300000 := by omega
            have HSET := Lib.hid hset
            clear hset hye hy
            go_big_region
            rw [HOR.out]
            go_wp2_with fail
            go_roundw
            case rel => exact ⟨i + 1, _, _, _, _, by omega, by go_num, (HSET.out _ rfl).drew⟩
            case measure => simp [intOf]; omega
        · have t32 : ((i : Int) % 32 == 0) = false := by rw [beq_eq_false_iff_ne]; omega
          have HM := Lib.hid (show NmMid w1 (B0 + 1 + 1) neg l i A2 n2 c2 ls wr from ⟨HS.out.r, HS.out.own, HS.out.low, HS.out.v, by have := HS.out.n; omega, HS.out.K, HS.out.lt⟩)
          have hcb := HCB.out _ HS.out.K
          have hq0 : 0 < n2 := by have := HM.out.n; omega
          obtain ⟨g, cg, eg, hcg, _⟩ := World.ownsRow.form HM.out.own hq0
          injection eg with eg _ ec
          subst eg ec
          rcases low2_cast HBB.out.low i with hbit | hbit
          · rw [hbit] at hcb
            have HN := Lib.hid (HM.out.zero hbit)
            clear hbit
            try dsimp only
            go_wp2_with fail
            go_roundw
            case rel => exact ⟨i + 1, _, _, _, _, by omega, by go_num, HN.out⟩
            case measure => simp [intOf]; omega
          · rw [hbit] at hcb
            have HBIT := Lib.hid hbit
            clear hbit
            try dsimp only
            go_wp2_with fail
            obtain ⟨hy, hset⟩ := HM.out.one HBB.out.low HBIT.out
            obtain ⟨y, hye⟩ : ∃ y, y = (ls).getD (i / 32) 0 := ⟨_, rfl⟩
            rw [← hye] at hy hset
            have hcl := HM.out.own.row.2 (i / 32) (by have := HM.out.n; omega)
            rw [← hye] at hcl
            obtain ⟨b', off', e', _, hcl⟩ := hcl
            injection e' with e'
            injection e' with e1 e2 _
            subst e1 e2
            rw [Nat.zero_add] at hcl
            have hfz := HM.out.own.frozen _ 0 rfl (i / 32)
            have HOR := Lib.hid (or_lowb hy (Nat.mod_lt i (by omega)))
            have hr1 : (wr).cell? ⟨B0 + 1 + 1, 1, none⟩ = some (.slice (some ⟨g, 0, none⟩) (n2) c2) := by rw [cell_of_row _ _ _ _ _ _ HM.out.r]; rfl
            have j0 : i / 32 < n2 := by have := HM.out.n; omega
            have hkm : (i : Int) ≤ 300000 := by omega
            have HSET := Lib.hid hset
            clear hset hye hy
            go_big_region
            rw [HOR.out]
            go_wp2_with fail
            go_roundw
            case rel => exact ⟨i + 1, _, _, _, _, by omega, by go_num, (HSET.out _ rfl).drew⟩
            case measure => simp [intOf]; omega
      · have hd : decide ((i : Int) < (n : Int)) = false := decide_eq_false (by omega)
        obtain rfl : i = n := by omega
        have hv : lval ls = x.natAbs := by rw [st.v, List.take_of_length_le (by rw [HBB.out.len]; omega), HLE.out]; exact val_digs two2 _
        have hL : ls = limbs x.natAbs := by
          rw [← hv]
          exact (digs_val BB2 st.low (num_tight st (by rw [HBB.out.len]) (by rw [HLE.out]; exact digs_tight two2 _))).symm
        have HS := Lib.hid st
        have HRES := Lib.hid (show ∀ w', Keep (fun b => b = B0 + 1) wr w' → ResPost x w (.returned (.tuple #[numArg neg A2 n2 c2, .int .i64 0])) w' from fun w' K' => ⟨((HK.out.into HS.out.K (by rintro b rfl; have := HBX.out; omega)).into K' (by rintro b rfl; have := HBX.out; omega)), .inr ⟨A2, n2, c2, HFIT.out.2 (by omega), by rw [HNEG.out], by
          rw [← hL]
          exact (HS.out.own.keep K' (fun b off e => by have := (HS.out.own.fresh b off e).1; have := HS.out.lt; omega)).mono HK.out.size⟩⟩)
        have hx2 : wr.heap[B0 + 1]? = some (.cells #[.bool false, .slice none 0 0] 24 (0, 0)) := st.K.heap HB2.out (by omega)
        have d0 : wr.cell? ⟨B0 + 1, 0, none⟩ = some (.bool false) := by rw [cell_of_row wr _ _ _ _ _ hx2]; rfl
        have d1 : wr.cell? ⟨B0 + 1, 1, none⟩ = some (.slice none 0 0) := by rw [cell_of_row wr _ _ _ _ _ hx2]; rfl
        have g0 : wr.frozen? ⟨B0 + 1, 0, none⟩ = false := by simp [World.frozen?, hx2]
        have g1 : wr.frozen? ⟨B0 + 1, 1, none⟩ = false := by simp [World.frozen?, hx2]
        have HE := Lib.hid (two_cells hx2 (.bool neg) (.slice A2 n2 c2))
        have HKE := Lib.hid (((Keep.refl (fun b => b = B0 + 1) wr).setCell (p := ⟨B0 + 1, 0, none⟩) (.inl rfl) (.bool neg)).setCell (p := ⟨B0 + 1, 1, none⟩) (.inl rfl) (.slice A2 n2 c2))
        clear hL hv hx2 st
        go_wp2_with fail
        obtain ⟨e0, e1⟩ := HE.out
        refine bodyPost_ret (v := .tuple #[numArg neg A2 n2 c2, .int .i64 0]) ?_ rfl (HRES.out _ HKE.out)
        simp [results, Tryz.results88, go_sem, e0, e1]
open Go.RowKit
theorem none_limbs (w : World) : LimbsAt w none 0 0 [] := ⟨RowAt.nil _ _ _, (by intro x hx; simp at hx), Nat.le_refl _, by omega⟩
open Go.ChangeShapes Go.WideShapes Go.ChangeAt Go.RowKit Go.Joins
section
variable {H : Type} {enc : TypeId × Value → H} {w : World} {spare : Nat → Bool} {held : Bool}
end
open Go.RowKit
/-- A number's block. -/
def BoxAt (w : World) (B : Nat) (u v : Value) : Prop := w.heap[B]? = some (.cells #[u, v] 24 (0, 0))
theorem BoxAt.keep {w w' : World} {B : Nat} {u v : Value} (h : BoxAt w B u v) (k : Keep (fun _ => False) w w') : BoxAt w' B u v := k.heap h (by simp)
theorem BoxAt.new (w : World) (u v : Value) : BoxAt (w.alloc (.cells #[u, v] 24)) w.heap.size u v := heap_alloc_new w _
/-- Blocks of numbers; numbers. -/
structure Env (w : World) (bs : List (Nat × Value × Value)) (ms : List (Option Addr × Nat × Nat × List Nat)) (w' : World) : Prop where
  k : Keep (fun _ => False) w w'
  b : ∀ x ∈ bs, BoxAt w' x.1 x.2.1 x.2.2
  m : ∀ x ∈ ms, LimbsAt w' x.1 x.2.1 x.2.2.1 x.2.2.2
namespace Env
variable {w w' w'' : World} {bs : List (Nat × Value × Value)} {ms : List (Option Addr × Nat × Nat × List Nat)}
theorem start (w : World) : Env w [] [] w := ⟨Keep.refl _ _, (fun _ h => by cases h), (fun _ h => by cases h)⟩
theorem keep (h : Env w bs ms w') (k : Keep (fun _ => False) w' w'') : Env w bs ms w'' := ⟨h.k.trans k, fun x hx => (h.b x hx).keep k, fun x hx => (h.m x hx).keep0 k⟩
theorem num (h : Env w bs ms w') {A : Option Addr} {n c : Nat} {l : List Nat} (hl : LimbsAt w' A n c l) : Env w bs ((A, n, c, l) :: ms) w' :=
  ⟨h.k, h.b, fun x hx => by
    rcases List.mem_cons.1 hx with rfl | hx
    · exact hl
    · exact h.m x hx⟩
theorem box (h : Env w bs ms w') (u v : Value) : Env w ((w'.heap.size, u, v) :: bs) ms (w'.alloc (.cells #[u, v] 24)) := by
  have k : Keep (fun _ => False) w' (w'.alloc (.cells #[u, v] 24)) := (Keep.refl _ _).alloc _
  refine ⟨h.k.trans k, fun x hx => ?_, fun x hx => (h.m x hx).keep0 k⟩
  rcases List.mem_cons.1 hx with rfl | hx
  · exact BoxAt.new w' u v
  · exact (h.b x hx).keep k
theorem cells (h : Env w bs ms w') {B : Nat} {u v : Value} (hm : (B, u, v) ∈ bs) : w'.cell? ⟨B, 0, none⟩ = some u ∧ w'.cell? ⟨B, 1, none⟩ = some v ∧ B < w'.heap.size := by
  have g := h.b _ hm
  exact ⟨by rw [cell_of_row w' _ _ _ _ _ g]; rfl, by rw [cell_of_row w' _ _ _ _ _ g]; rfl, heap_lt g⟩
end Env
theorem env1 (w : World) (u v : Value) : Env w [(w.heap.size, u, v)] [] (w.alloc (.cells #[u, v] 24)) := (Env.start w).box u v
open Go.RowKit
/-- What is answered where x is to be answered: the number, or that it is too big. -/
def Out (x : Int) (q : Bool) (l : List Nat) (f : Int) : Prop := (Fits x ∧ q = decide (x < 0) ∧ l = limbs x.natAbs ∧ f = 0) ∨ (¬ Fits x ∧ q = false ∧ l = [] ∧ f = 6)
namespace Out
variable {x : Int} {q q' : Bool} {l l' : List Nat} {f f' : Int}
theorem two (h : Out x q l f) : f = 0 ∨ f = 6 := by rcases h with ⟨_, _, _, h⟩ | ⟨_, _, _, h⟩ <;> simp [h]
end Out
theorem ResPost.gen {x : Int} {w w' : World} {e : Ending} (h : ResPost x w e w') : Keep (fun _ => False) w w' ∧ ∃ (q : Bool) (A : Option Addr) (n c : Nat) (l : List Nat) (f : Int), e = .returned (.tuple #[numArg q A n c, .int .i64 f]) ∧ LimbsAt w' A n c l ∧ n ≤ 48 ∧ Out x q l f := by
  obtain ⟨k, ⟨hn, he⟩ | ⟨A, n, c, hf, he, own⟩⟩ := h
  · exact ⟨k, false, none, 0, 0, [], 6, he, none_limbs _, by omega, .inr ⟨hn, rfl, rfl, rfl⟩⟩
  · exact ⟨k, _, A, n, c, _, 0, he, own.num hf, by have := own.len; unfold Fits at hf; omega, .inl ⟨hf, rfl, rfl, rfl⟩⟩
open Go.RowKit
open Go.RowKit
open Go.RowKit
open Go.RowKit
open Go.RowKit
open Go.RowKit
open Go.RowKit
open Go.RowKit
/-- A value whose sign is the letter z. -/
def ZPost (z : Bool) (x : Int) (m : Nat) (w : World) (e : Ending) (w' : World) : Prop :=
  ∃ (A : Option Addr) (n c : Nat), e = .returned (numArg z A n c) ∧ BitsAt w' A n c (bits2 x.natAbs) ∧ n ≤ m ∧ Keep (fun _ => False) w w'
theorem OwnR.bits {w : World} {base n c : Nat} {A : Option Addr} {m : Nat} (h : OwnR 5 .u8 w base A n c (bits2 m)) (hm : n ≤ 10000000) : BitsAt w A n c (bits2 m) := h.toBits (digs_low two2 _) hm
theorem BitPost.z {z : Bool} {x : Int} {m : Nat} {w w' : World} {e : Ending} (h : BitPost x w e w') (hz : z = decide (x < 0)) (hm : (bits2 x.natAbs).length ≤ m) (hm2 : m ≤ 10000000) : ZPost z x m w e w' := by
  obtain ⟨k, A, n, c, he, o⟩ := h
  have hl := o.len
  have hn : n ≤ m := by omega
  exact ⟨A, n, c, by rw [hz]; exact he, o.bits (by omega), hn, k⟩
theorem sval_len {w : World} {p : Bool} {A : Option Addr} {n c : Nat} {l : List Nat} (h : LimbsAt w A n c l) (hm : n ≤ 60) : (bits2 (sval p l).natAbs).length ≤ 1920 := by
  refine (len_pow _ BB 32 60 1920 rfl rfl).2 ?_
  rw [sval_abs]
  have h1 := val_lt h.low
  rw [h.len] at h1
  exact Nat.lt_of_lt_of_le h1 (Nat.pow_le_pow_right (by unfold BB; omega) hm)
theorem val_z {z p : Bool} {x : Int} {A : Option Addr} {n c : Nat} {l : List Nat} {w : World} (hz : z = decide (x < 0)) (hx : x = sval p l) (h : LimbsAt w A n c l) (hm : n ≤ 60) : Calls Tryz.prog 89 #[numArg p A n c] w (ZPost z x 1920 w) :=
  (val_any p A n c l w h (by omega)).mono fun e w' hp => by
    subst hx
    exact BitPost.z hp hz (sval_len h hm) (by omega)
open Go.RowKit
open Go.RowKit
open Go.RowKit
/-- May a number be? -/
def mayB (p : Bool) (l : List Nat) : Bool := decide (Fits (sval p l) ∧ p = decide (sval p l < 0) ∧ l = limbs (lval l))
theorem tight_iff {l : List Nat} (low : Low BB l) : tlen l = l.length ↔ l = limbs (lval l) := by
  constructor
  · intro h
    have := take_tlen low
    rw [h, List.take_of_length_le (Nat.le_refl _)] at this
    exact this
  · intro h
    unfold tlen
    rw [← h]
theorem may_eq {p : Bool} {l : List Nat} {n : Nat} (low : Low BB l) (hl : l.length = n) : mayB p l = (decide (n ≤ 48) && (decide (tlen l = n) && (!p || decide (0 < n)))) := by
  subst hl
  have h1 := tight_iff low
  unfold mayB
  by_cases ht : l = limbs (lval l)
  · have h2 := h1.2 ht
    have hf : Fits (sval p l) ↔ l.length ≤ 48 := by
      unfold Fits
      rw [sval_abs, ← ht]
    have hp : (p = decide (sval p l < 0)) ↔ ((!p || decide (0 < l.length)) = true) := by
      have hv : 0 < lval l ↔ 0 < l.length := by
        have := tlen_pos l
        rw [h2] at this
        exact this.symm
      unfold sval
      cases p
      · simp
      · simp
        omega
    rw [decide_eq_true h2]
    have e : (Fits (sval p l) ∧ p = decide (sval p l < 0) ∧ l = limbs (lval l)) ↔ (l.length ≤ 48 ∧ (!p || decide (0 < l.length)) = true) := by
      rw [hf, hp]
      exact ⟨fun h => ⟨h.1, h.2.1⟩, fun h => ⟨h.1, h.2, ht⟩⟩
    rw [decide_eq_decide.2 e, Bool.decide_and]
    simp
  · have h2 : ¬ tlen l = l.length := fun h => ht (h1.1 h)
    rw [decide_eq_false (fun h => ht h.2.2), decide_eq_false h2]
    simp
set_option maxRecDepth 100000 in
set_option maxHeartbeats 4000000 in
theorem may_A (p1 : Bool) (A1 : Option Addr) (n1 c1 : Nat) (l1 : List Nat) (w : World) (L1 : LimbsAt w A1 n1 c1 l1) (hn : ¬ n1 ≤ 48) :
    Calls Tryz.prog 63 #[numArg p1 A1 n1 c1] w (BoolPost false w) := by
  have t1 : decide ((n1 : Int) ≤ 48) = false := decide_eq_false (by omega)
  have t2 : decide (n1 ≤ 48) = false := decide_eq_false hn
  have HL := Lib.hid L1
  clear L1
  clear hn
  have X0 := env1 w (.bool p1) (.slice A1 n1 c1)
  go_enter Tryz.func63, Tryz.ntmps63
  go_wp2_with fail
  generalize w.heap.size = B0 at X0 ⊢
  generalize w.alloc (.cells #[.bool p1, .slice A1 n1 c1] 24) = w2 at X0 ⊢
  have HX := Lib.hid X0
  clear X0
  have HTR := Lib.hid (fun (k : Nat) => (show Calls Tryz.prog 69 #[.slice A1 n1 c1] (w2.drewN k) (fun e w9 => e = .returned (.slice A1 (tlen l1) c1) ∧ w9 = w2.drewN k) from (trim_any A1 n1 c1 l1 (w2.drewN k) (HL.out.keep0 (HX.out.k.trans ((Keep.refl _ _).drewN k)))).mono fun _ _ ⟨he, hw⟩ => ⟨he, hw.symm⟩))
  have HK := Lib.hid HX.out.k
  obtain ⟨r0, r1, rl⟩ := HX.out.cells (.head _)
  go_wp2_with fail
  go_quiet ((go_at_call 69; with_reducible exact Calls.quiet_of_same (HTR.out _)))
  go_wp2_with fail
  go_ret
  exact ⟨rfl, HK.out.drewN _⟩
set_option maxRecDepth 100000 in
set_option maxHeartbeats 4000000 in
theorem may_B (p1 : Bool) (A1 : Option Addr) (n1 c1 : Nat) (l1 : List Nat) (w : World) (L1 : LimbsAt w A1 n1 c1 l1) (hn : n1 ≤ 48) (ht : ¬ tlen l1 = n1) :
    Calls Tryz.prog 63 #[numArg p1 A1 n1 c1] w (BoolPost false w) := by
  obtain ⟨m, hm⟩ : ∃ m, m = tlen l1 := ⟨_, rfl⟩
  rw [← hm] at ht
  have HM := Lib.hid hm
  clear hm
  have t1 : (n1 : Int) ≤ 48 := by omega
  have t3 : ((m : Int) == (n1 : Int)) = false := by rw [beq_eq_false_iff_ne]; omega
  have t4 : decide (m = n1) = false := decide_eq_false ht
  have HL := Lib.hid L1
  clear L1
  clear hn ht
  have X0 := env1 w (.bool p1) (.slice A1 n1 c1)
  go_enter Tryz.func63, Tryz.ntmps63
  go_wp2_with fail
  generalize w.heap.size = B0 at X0 ⊢
  generalize w.alloc (.cells #[.bool p1, .slice A1 n1 c1] 24) = w2 at X0 ⊢
  have HX := Lib.hid X0
  clear X0
  have HTR := Lib.hid (fun (k : Nat) => (show Calls Tryz.prog 69 #[.slice A1 n1 c1] (w2.drewN k) (fun e w9 => e = .returned (.slice A1 m c1) ∧ w9 = w2.drewN k) from (trim_any A1 n1 c1 l1 (w2.drewN k) (HL.out.keep0 (HX.out.k.trans ((Keep.refl _ _).drewN k)))).mono fun _ _ ⟨he, hw⟩ => ⟨by rw [HM.out]; exact he, hw.symm⟩))
  have HK := Lib.hid HX.out.k
  obtain ⟨r0, r1, rl⟩ := HX.out.cells (.head _)
  go_wp2_with fail
  go_quiet ((go_at_call 69; with_reducible exact Calls.quiet_of_same (HTR.out _)))
  go_wp2_with fail
  go_ret
  exact ⟨rfl, HK.out.drewN _⟩
set_option maxRecDepth 100000 in
set_option maxHeartbeats 4000000 in
theorem may_C (p1 : Bool) (A1 : Option Addr) (n1 c1 : Nat) (l1 : List Nat) (w : World) (L1 : LimbsAt w A1 n1 c1 l1) (hn : n1 ≤ 48) (ht : tlen l1 = n1) (hp : p1 = false) :
    Calls Tryz.prog 63 #[numArg p1 A1 n1 c1] w (BoolPost true w) := by
  obtain ⟨m, hm⟩ : ∃ m, m = tlen l1 := ⟨_, rfl⟩
  rw [← hm] at ht
  have HM := Lib.hid hm
  clear hm
  have t1 : (n1 : Int) ≤ 48 := by omega
  subst ht
  subst hp
  have HL := Lib.hid L1
  clear L1
  clear hn
  have X0 := env1 w (.bool false) (.slice A1 m c1)
  go_enter Tryz.func63, Tryz.ntmps63
  go_wp2_with fail
  generalize w.heap.size = B0 at X0 ⊢
  generalize w.alloc (.cells #[.bool false, .slice A1 m c1] 24) = w2 at X0 ⊢
  have HX := Lib.hid X0
  clear X0
  have HTR := Lib.hid (fun (k : Nat) => (show Calls Tryz.prog 69 #[.slice A1 m c1] (w2.drewN k) (fun e w9 => e = .returned (.slice A1 m c1) ∧ w9 = w2.drewN k) from (trim_any A1 m c1 l1 (w2.drewN k) (HL.out.keep0 (HX.out.k.trans ((Keep.refl _ _).drewN k)))).mono fun _ _ ⟨he, hw⟩ => ⟨by rw [HM.out]; exact he, hw.symm⟩))
  have HK := Lib.hid HX.out.k
  obtain ⟨r0, r1, rl⟩ := HX.out.cells (.head _)
  go_wp2_with fail
  go_quiet ((go_at_call 69; with_reducible exact Calls.quiet_of_same (HTR.out _)))
  go_wp2_with fail
  go_ret
  exact ⟨rfl, HK.out.drewN _⟩
set_option maxRecDepth 100000 in
set_option maxHeartbeats 4000000 in
theorem may_D (p1 : Bool) (A1 : Option Addr) (n1 c1 : Nat) (l1 : List Nat) (w : World) (L1 : LimbsAt w A1 n1 c1 l1) (hn : n1 ≤ 48) (ht : tlen l1 = n1) (hp : p1 = true) (h0 : 0 < n1) :
    Calls Tryz.prog 63 #[numArg p1 A1 n1 c1] w (BoolPost true w) := by
  obtain ⟨m, hm⟩ : ∃ m, m = tlen l1 := ⟨_, rfl⟩
  rw [← hm] at ht
  have HM := Lib.hid hm
  clear hm
  have t1 : (n1 : Int) ≤ 48 := by omega
  subst ht
  subst hp
  have t5 : (0 : Int) < (m : Int) := by omega
  have t6 : decide (0 < m) = true := decide_eq_true h0
  have HL := Lib.hid L1
  clear L1
  clear hn h0
  have X0 := env1 w (.bool true) (.slice A1 m c1)
  go_enter Tryz.func63, Tryz.ntmps63
  go_wp2_with fail
  generalize w.heap.size = B0 at X0 ⊢
  generalize w.alloc (.cells #[.bool true, .slice A1 m c1] 24) = w2 at X0 ⊢
  have HX := Lib.hid X0
  clear X0
  have HTR := Lib.hid (fun (k : Nat) => (show Calls Tryz.prog 69 #[.slice A1 m c1] (w2.drewN k) (fun e w9 => e = .returned (.slice A1 m c1) ∧ w9 = w2.drewN k) from (trim_any A1 m c1 l1 (w2.drewN k) (HL.out.keep0 (HX.out.k.trans ((Keep.refl _ _).drewN k)))).mono fun _ _ ⟨he, hw⟩ => ⟨by rw [HM.out]; exact he, hw.symm⟩))
  have HK := Lib.hid HX.out.k
  obtain ⟨r0, r1, rl⟩ := HX.out.cells (.head _)
  go_wp2_with fail
  go_quiet ((go_at_call 69; with_reducible exact Calls.quiet_of_same (HTR.out _)))
  go_wp2_with fail
  go_ret
  exact ⟨rfl, HK.out.drewN _⟩
set_option maxRecDepth 100000 in
set_option maxHeartbeats 4000000 in
theorem may_E (p1 : Bool) (A1 : Option Addr) (n1 c1 : Nat) (l1 : List Nat) (w : World) (L1 : LimbsAt w A1 n1 c1 l1) (hn : n1 ≤ 48) (ht : tlen l1 = n1) (hp : p1 = true) (h0 : ¬ 0 < n1) :
    Calls Tryz.prog 63 #[numArg p1 A1 n1 c1] w (BoolPost false w) := by
  obtain ⟨m, hm⟩ : ∃ m, m = tlen l1 := ⟨_, rfl⟩
  rw [← hm] at ht
  have HM := Lib.hid hm
  clear hm
  have t1 : (n1 : Int) ≤ 48 := by omega
  subst ht
  subst hp
  have t5 : decide ((0 : Int) < (m : Int)) = false := decide_eq_false (by omega)
  have t6 : decide (0 < m) = false := decide_eq_false h0
  have HL := Lib.hid L1
  clear L1
  clear hn h0
  have X0 := env1 w (.bool true) (.slice A1 m c1)
  go_enter Tryz.func63, Tryz.ntmps63
  go_wp2_with fail
  generalize w.heap.size = B0 at X0 ⊢
  generalize w.alloc (.cells #[.bool true, .slice A1 m c1] 24) = w2 at X0 ⊢
  have HX := Lib.hid X0
  clear X0
  have HTR := Lib.hid (fun (k : Nat) => (show Calls Tryz.prog 69 #[.slice A1 m c1] (w2.drewN k) (fun e w9 => e = .returned (.slice A1 m c1) ∧ w9 = w2.drewN k) from (trim_any A1 m c1 l1 (w2.drewN k) (HL.out.keep0 (HX.out.k.trans ((Keep.refl _ _).drewN k)))).mono fun _ _ ⟨he, hw⟩ => ⟨by rw [HM.out]; exact he, hw.symm⟩))
  have HK := Lib.hid HX.out.k
  obtain ⟨r0, r1, rl⟩ := HX.out.cells (.head _)
  go_wp2_with fail
  go_quiet ((go_at_call 69; with_reducible exact Calls.quiet_of_same (HTR.out _)))
  go_wp2_with fail
  go_ret
  exact ⟨rfl, HK.out.drewN _⟩
theorem may_any (p : Bool) (A : Option Addr) (n c : Nat) (l : List Nat) (w : World) (h : LimbsAt w A n c l) :
    Calls Tryz.prog 63 #[numArg p A n c] w (BoolPost (mayB p l) w) := by
  rw [may_eq h.low h.len]
  by_cases hn : n ≤ 48
  · by_cases ht : tlen l = n
    · cases hp : p with
      | false => rw [decide_eq_true hn, decide_eq_true ht]; exact may_C _ A n c l w h hn ht rfl
      | true =>
        by_cases h0 : 0 < n
        · rw [decide_eq_true hn, decide_eq_true ht, decide_eq_true h0]; exact may_D _ A n c l w h hn ht rfl h0
        · rw [decide_eq_true hn, decide_eq_true ht, decide_eq_false h0]; exact may_E _ A n c l w h hn ht rfl h0
    · rw [decide_eq_true hn, decide_eq_false ht]; exact may_B p A n c l w h hn ht
  · rw [decide_eq_false hn]; exact may_A p A n c l w h hn
theorem may_out {p q : Bool} {l l2 : List Nat} {f : Int} (ho : Out (sval p l) q l2 f) : (f = 0 → sameB q l2 p l = mayB p l) ∧ (f = 6 → mayB p l = false) := by
  unfold mayB sameB
  rcases ho with ⟨hf, rfl, rfl, rfl⟩ | ⟨hf, rfl, rfl, rfl⟩
  · refine ⟨fun _ => decide_eq_decide.2 ?_, (fun h => by cases h)⟩
    rw [sval_abs]
    exact ⟨fun h => ⟨hf, h.1.symm, h.2.symm⟩, fun h => ⟨h.2.1.symm, h.2.2.symm⟩⟩
  · exact ⟨(fun h => by cases h), fun _ => decide_eq_false (fun h => hf h.1)⟩
set_option maxRecDepth 100000 in
set_option maxHeartbeats 4000000 in
theorem rmay_any (p1 : Bool) (A1 : Option Addr) (n1 c1 : Nat) (l1 : List Nat) (w : World) (L1 : LimbsAt w A1 n1 c1 l1) (hm : n1 ≤ 60) :
    Calls Tryz.prog 44 #[numArg p1 A1 n1 c1] w (BoolPost (mayB p1 l1) w) := by
  have HL := Lib.hid L1
  clear L1
  obtain ⟨xa, hxa⟩ : ∃ x, x = sval p1 l1 := ⟨_, rfl⟩
  obtain ⟨z1, hz1⟩ : ∃ z, z = decide (xa < 0) := ⟨_, rfl⟩
  have HV := Lib.hid hxa
  have HZ := Lib.hid hz1
  clear hxa hz1
  obtain ⟨mb, hmb⟩ : ∃ m, m = mayB p1 l1 := ⟨_, rfl⟩
  have HMB := Lib.hid hmb
  rw [← hmb]
  clear hmb
  have X0 := env1 w (.bool p1) (.slice A1 n1 c1)
  go_enter Tryz.func44, Tryz.ntmps44
  go_wp2_with fail
  generalize w.heap.size = B0 at X0 ⊢
  generalize w.alloc (.cells #[.bool p1, .slice A1 n1 c1] 24) = w2 at X0 ⊢
  have HX := Lib.hid (X0.num (HL.out.keep0 X0.k))
  clear X0
  obtain ⟨r0, r1, rl⟩ := HX.out.cells (.head _)
  try dsimp only
  go_wp2_with fail
  clear r0 r1 rl
  refine (val_z HZ.out HV.out (HX.out.m _ (.head _)) hm).mono ?_
  rintro e w3 ⟨A7, n7, c7, rfl, b7, hn7, k3⟩
  have HNM := Lib.hid (show Calls Tryz.prog 88 #[numArg z1 A7 n7 c7] w3 (ResPost xa w3) from by rw [HZ.out]; exact num_any xa A7 n7 c7 w3 b7)
  have HX1 := Lib.hid (HX.out.keep k3)
  clear HX k3
  have HX := Lib.hid HX1.out
  clear HX1
  clear b7
  obtain ⟨r0, r1, rl⟩ := HX.out.cells (.head _)
  try dsimp only
  go_wp2_with fail
  clear r0 r1 rl
  refine HNM.out.mono ?_
  intro e w_x hres
  obtain ⟨k_x, q_x, A_x, n_x, c_x, l_x, f_x, rfl, LM, ln_x, ho⟩ := hres.gen
  rw [HV.out] at ho
  have HO := Lib.hid ho
  clear ho hres HNM
  have HX1 := Lib.hid (HX.out.keep k_x)
  clear HX k_x
  have HX := Lib.hid HX1.out
  clear HX1
  have HX1 := Lib.hid (HX.out.num LM)
  clear HX LM
  have HX := Lib.hid HX1.out
  clear HX1
  rcases HO.out.two with hf | hf
  · have HS := Lib.hid ((may_out HO.out).1 hf)
    subst hf
    obtain ⟨r0, r1, rl⟩ := HX.out.cells (.head _)
    try dsimp only
    go_wp2_with fail
    clear r0 r1 rl
    have HX1 := Lib.hid (HX.out.box (.bool q_x) (.slice A_x n_x c_x))
    clear HX
    have HX := Lib.hid HX1.out
    clear HX1
    refine (same_any q_x A_x n_x c_x l_x p1 A1 n1 c1 l1 _ (HX.out.m _ (.head _)) (HX.out.m _ (.tail _ (.head _)))).mono ?_
    rintro e wi ⟨rfl, ki⟩
    rw [HS.out, ← HMB.out]
    have HX1 := Lib.hid (HX.out.keep ki)
    clear HX ki
    have HX := Lib.hid HX1.out
    clear HX1
    have HZ9 := Lib.hid HX.out.k
    obtain ⟨x0, x1, xl⟩ := HX.out.cells (.head _)
    obtain ⟨r0, r1, rl⟩ := HX.out.cells (.tail _ (.head _))
    try dsimp only
    go_wp2_with fail
    clear x0 x1 xl r0 r1 rl
    go_ret
    exact ⟨rfl, HZ9.out⟩
  · have HS := Lib.hid (HMB.out.trans ((may_out HO.out).2 hf))
    subst hf
    obtain ⟨r0, r1, rl⟩ := HX.out.cells (.head _)
    try dsimp only
    go_wp2_with fail
    clear r0 r1 rl
    have HX1 := Lib.hid (HX.out.box (.bool q_x) (.slice A_x n_x c_x))
    clear HX
    have HX := Lib.hid HX1.out
    clear HX1
    have HZ9 := Lib.hid HX.out.k
    go_ret
    exact ⟨by rw [HS.out]; rfl, HZ9.out⟩
end Go.Proofs.YtkjocmenpccooaaGreatDoor
