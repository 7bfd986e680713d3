/-
  Numbers, by program: texts of another seat, turned to this one.
-/
import Derived.Test.YtonnikipeokkaaaGreatDoorN2
import Derived.Laws.BitsAllLaws
import Derived.ProofKit
import Derived.OpenShut
import Derived.LaidMore
import Derived.Lay
import Derived.SevenTiedAt
import Derived.Stop.Joined
import Derived.Stop.LaidErr
import Derived.Lib.SmallJoins
namespace Go.Proofs.YtonnikipeokkaaaGreatDoor
open Go.RowKit
theorem two2 : 2 ≤ 2 := Nat.le_refl 2
/-- The bits of a number. -/
abbrev bits2 (n : Nat) : List Nat := digs 2 n
/-- The value of bits. -/
abbrev bval (l : List Nat) : Nat := val 2 l
/-- How many bits are left when noughts at the end are cut off. -/
def blen (l : List Nat) : Nat := (bits2 (bval l)).length
theorem blen_of {l : List Nat} (low : Low 2 l) {k : Nat} (hk : k ≤ l.length) (hz : ∀ j, k ≤ j → j < l.length → l.getD j 0 = 0) (h : k = 0 ∨ l.getD (k - 1) 0 ≠ 0) : blen l = k ∧ l.take k = bits2 (bval l) := by
  have := take_digs two2 low hk hz h
  refine ⟨?_, this⟩
  have e := congrArg List.length this
  rw [List.length_take] at e
  show (digs 2 (val 2 l)).length = k
  omega
theorem blen_le {l : List Nat} (low : Low 2 l) : blen l ≤ l.length := by
  unfold blen bits2
  rw [digs_len_le two2]
  exact val_lt low
/-- A slice of bits that lies there. -/
structure BitsAt (w : World) (A : Option Addr) (n c : Nat) (l : List Nat) : Prop where
  row : RowAt .u8 w A n l
  low : Low 2 l
  cap : n ≤ c
  max : n ≤ 10000000
namespace BitsAt
variable {w w' : World} {A : Option Addr} {n c : Nat} {l : List Nat}
theorem len (h : BitsAt w A n c l) : l.length = n := h.row.1
theorem keep0 (h : BitsAt w A n c l) (k : Keep (fun _ => False) w w') : BitsAt w' A n c l := ⟨h.row.keep0 k, h.low, h.cap, h.max⟩
end BitsAt
theorem OwnR.toBits {w : World} {base n c : Nat} {A : Option Addr} {l : List Nat} (h : OwnR 5 .u8 w base A n c l) (low : Low 2 l) (hm : n ≤ 10000000) : BitsAt w A n c l := ⟨h.row, low, h.cap, hm⟩
theorem low2_cast {l : List Nat} (h : Low 2 l) (j : Nat) : l.getD j 0 = 0 ∨ l.getD j 0 = 1 := by
  have := h.getD (by omega) j
  omega
set_option maxRecDepth 100000 in
set_option maxHeartbeats 800000 in
theorem cut_any (A : Option Addr) (n c : Nat) (l : List Nat) (w : World) (hA : BitsAt w A n c l) :
    Calls Tryz.prog 115 #[.slice A n c] w fun e w' => e = .returned (.slice A (blen l) c) ∧ w = w' := by
  obtain ⟨h, low, hcap, hn⟩ := hA
  have hlen := h.1
  have LOW := Lib.hid low
  have HLEN := Lib.hid hlen
  clear low hlen
  go_enter Tryz.func115, Tryz.ntmps115
  go_wp2_with fail
  go_loop [3] (fun i => ∃ k : Nat, k ≤ n ∧ i = .int .i64 k ∧ ∀ j, k ≤ j → j < n → l.getD j 0 = 0) (fun i => (intOf i).toNat)
  case atStart => exact ⟨n, Nat.le_refl _, rfl, fun j h1 h2 => by omega⟩
  case round =>
    obtain ⟨k, hk, rfl, hz⟩ := hrel
    have HZ := Lib.hid hz
    clear hz
    by_cases h0 : k = 0
    · subst h0
      have ht := (blen_of LOW.out (k := 0) (Nat.zero_le _) (fun j h1 h2 => HZ.out j h1 (by rw [← HLEN.out]; exact h2)) (.inl rfl)).1
      have HT := Lib.hid ht
      clear ht
      go_wp2_with fail
      go_ret
      exact ⟨by rw [HT.out]; rfl, rfl⟩
    · obtain ⟨m, rfl⟩ : ∃ m, k = m + 1 := ⟨k - 1, by omega⟩
      obtain ⟨b, off, rfl, hb, hc⟩ := h.2 m (by omega)
      by_cases hx : l.getD m 0 = 0
      · rw [hx] at hc
        have HX := Lib.hid hx
        clear hx h0
        go_wp2_with fail
        go_round
        case rel => exact ⟨m, by omega, by go_num, fun j h1 h2 => by
          by_cases e : j = m
          · rw [e]; exact HX.out
          · exact HZ.out j (by omega) h2⟩
        case measure => simp [intOf]
      · have ht := (blen_of LOW.out (k := m + 1) (by rw [HLEN.out]; exact hk) (fun j h1 h2 => HZ.out j h1 (by rw [← HLEN.out]; exact h2)) (.inr (by simpa using hx))).1
        have HT := Lib.hid ht
        obtain ⟨x, hxx⟩ : ∃ x, x = l.getD m 0 := ⟨_, rfl⟩
        rw [← hxx] at hc hx
        have hb0 : (((x : Nat) : Int) == 0) = false := by simpa using hx
        clear ht h0 hxx hx
        have hc1 : (m : Int) + 1 ≤ (c : Int) := by omega
        go_wp2_with fail
        go_ret
        exact ⟨by rw [HT.out]; rfl, rfl⟩
/-- A value in memory of the call's own. -/
def BitPost (x : Int) (w : World) (e : Ending) (w' : World) : Prop :=
  Keep (fun _ => False) w w' ∧ ∃ (A : Option Addr) (n c : Nat), e = .returned (numArg (decide (x < 0)) A n c) ∧ OwnR 5 .u8 w' w.heap.size A n c (bits2 x.natAbs)
theorem btake {l : List Nat} (low : Low 2 l) : l.take (blen l) = bits2 (bval l) := by
  obtain ⟨k, hk, hz, h⟩ : ∃ k, k ≤ l.length ∧ (∀ j, k ≤ j → j < l.length → l.getD j 0 = 0) ∧ (k = 0 ∨ l.getD (k - 1) 0 ≠ 0) := by
    have : ∀ m, m ≤ l.length → (∀ j, m ≤ j → j < l.length → l.getD j 0 = 0) → ∃ k, k ≤ l.length ∧ (∀ j, k ≤ j → j < l.length → l.getD j 0 = 0) ∧ (k = 0 ∨ l.getD (k - 1) 0 ≠ 0) := by
      intro m
      induction m with
      | zero => intro hm hz; exact ⟨0, hm, hz, .inl rfl⟩
      | succ m ih =>
        intro hm hz
        by_cases e : l.getD m 0 = 0
        · refine ih (by omega) fun j hj hl => ?_
          by_cases e2 : j = m
          · rw [e2]; exact e
          · exact hz j (by omega) hl
        · exact ⟨m + 1, hm, hz, .inr (by simpa using e)⟩
    exact this l.length (Nat.le_refl _) (fun j hj hl => by omega)
  obtain ⟨h1, h2⟩ := blen_of low hk hz h
  rw [h1, h2]
/-- A sign and a magnitude. -/
def sgn (neg : Bool) (m : Nat) : Int := if neg then -(m : Int) else (m : Int)
theorem sgn_neg (neg : Bool) (m : Nat) : (neg && decide (0 < m)) = decide (sgn neg m < 0) := by
  unfold sgn
  cases neg
  · simp
  · rw [Bool.true_and, if_pos rfl]; exact decide_eq_decide.2 (by omega)
theorem blen_pos (l : List Nat) : 0 < blen l ↔ 0 < bval l := by
  unfold blen
  constructor
  · intro h
    rcases Nat.eq_zero_or_pos (bval l) with e | e
    · rw [e] at h
      unfold bits2 at h
      rw [digs_zero] at h
      simp at h
    · exact e
  · intro h
    rcases Nat.eq_zero_or_pos (bits2 (bval l)).length with e | e
    · have := digs_nil two2 (List.eq_nil_of_length_eq_zero e)
      omega
    · exact e
open Go.RowKit
theorem info5 : (Tryz.prog.info? 5).map (fun i => (i.zero, i.size, i.bytes)) = some (some (.int .u8 0), 1, 1) := by kernel_rfl
theorem new_bit (w5 : World) (x : Int) : ∀ j u, ([Value.int .u8 x] : List Value)[j]? = some u → (w5.alloc (.cells #[.int .u8 x] 5)).cell? ((⟨w5.heap.size, 0, none⟩ : Addr).add j) = some u := by
  intro j u hu
  match j with
  | 0 =>
    simp at hu
    subst hu
    rw [Addr.add_mid, cell_of_row _ _ _ _ _ _ (heap_alloc_new w5 _)]
    rfl
  | j + 1 => simp at hu
/-- Before a bit: i limbs are done, and k bits of the next. -/
structure VaSt (w1 : World) (l : List Nat) (i k : Nat) (bs : List Nat) (v : Value) (wr : World) : Prop where
  o : wr.ownsRow w1.heap.size 5 1 v (32 * i + k) (bs.map fun x : Nat => Value.int .u8 (x : Int))
  low : Low 2 bs
  v : bval bs = lval (l.take i) + BB ^ i * (l.getD i 0 % 2 ^ k)
  K : Keep (fun _ => False) w1 wr
theorem VaSt.len {w1 wr : World} {l bs : List Nat} {i k : Nat} {v : Value} (h : VaSt w1 l i k bs v wr) : bs.length = 32 * i + k := by have := h.o.1; simpa using this
theorem VaSt.more {w1 wr w6 : World} {l bs : List Nat} {i k : Nat} {v v' : Value} (h : VaSt w1 l i k bs v wr) {b : Nat} (hb : b = l.getD i 0 / 2 ^ k % 2) {w5 : World} (K5 : Keep (fun _ => False) wr w5)
    (hown : w6.ownsRow w1.heap.size 5 1 v' (32 * i + k + 1) ((bs.map fun x : Nat => Value.int .u8 (x : Int)) ++ [.int .u8 (b : Int)])) (hgrow : w5.grownBy w6 v.ownBlock) : VaSt w1 l i (k + 1) (bs ++ [b]) v' w6 := by
  refine ⟨?_, h.low.append (by intro x hx; simp at hx; rw [hx, hb]; omega), ?_, ?_⟩
  · rw [List.map_append]; exact hown
  · rw [show bval (bs ++ [b]) = bval bs + 2 ^ bs.length * val 2 [b] from val_append 2 bs [b], h.v, h.len, Nat.mod_pow_succ, show val 2 [b] = b by simp [val], ← hb, Nat.mul_add, Nat.pow_add, Nat.pow_mul, show (2 : Nat) ^ 32 = BB from rfl]
    simp only [Nat.mul_assoc, Nat.add_assoc]
  · refine (h.K.trans K5).into (Keep.of_grown hgrow) (fun i' hi => ?_)
    rcases h.o.2 with ⟨hn, _⟩ | ⟨g, cap, cur, hv, hg, _⟩
    · rw [hn] at hi; cases hi
    · rw [hv] at hi
      have : i' = g := by simpa [Value.ownBlock] using hi
      omega
theorem bits_form {w : World} {base n : Nat} {v : Value} {xs : List Value} (h : w.ownsRow base 5 1 v n xs) : ∃ P c, v = .slice P n c := by
  rcases h.2 with ⟨hn, h0⟩ | ⟨g, cap, cur, hv, _⟩
  · exact ⟨none, 0, by rw [hn, h0]⟩
  · exact ⟨_, _, hv⟩
theorem row_kept {S : Nat → Prop} {w w' : World} {base n k : Nat} {e : TypeId} {v : Value} {xs : List Value} (h : w.ownsRow base e k v n xs) (K : Keep S w w') (hs : ∀ b, v.ownBlock = some b → ¬ S b) : w'.ownsRow base e k v n xs := by
  refine ⟨h.1, ?_⟩
  rcases h.2 with hn | ⟨g, cap, cur, hv, hg, hh, rest⟩
  · exact .inl hn
  · refine .inr ⟨g, cap, cur, hv, hg, ?_, rest⟩
    rw [K.block g (heap_lt hh) (hs g (by rw [hv]; rfl))]
    exact hh
open Go.RowKit
theorem len_pow (m B a b k : Nat) (hB : B = 2 ^ a) (hk : k = a * b) : (digs 2 m).length ≤ k ↔ m < B ^ b := by
  subst hB hk
  rw [digs_len_le two2, Nat.pow_mul]
theorem fits_bits (x : Int) : Fits x ↔ (bits2 x.natAbs).length ≤ 1536 := (Fits_iff x).trans (len_pow x.natAbs BB 32 48 1536 rfl rfl).symm
/-- Before the bit i. -/
structure NmSt (w1 : World) (B2 : Nat) (neg : Bool) (l : List Nat) (i : Nat) (A : Option Addr) (n c : Nat) (ls : List Nat) (wr : World) : Prop where
  r : wr.heap[B2]? = some (.cells #[.bool neg, .slice A n c] 24 (0, 0))
  own : OwnR 126 .u32 wr w1.heap.size A n c ls
  low : Low BB ls
  v : lval ls = bval (l.take i)
  n : n = (i + 31) / 32
  K : Keep (fun b => b = B2) w1 wr
  lt : B2 < w1.heap.size
namespace NmSt
variable {w1 wr w5 w6 : World} {B2 : Nat} {neg : Bool} {l ls : List Nat} {i n c : Nat} {A : Option Addr}
theorem len (h : NmSt w1 B2 neg l i A n c ls wr) : ls.length = n := h.own.len
/-- A limb more. -/
theorem limb (h : NmSt w1 B2 neg l i A n c ls wr) (hi : i % 32 = 0) {v' : Value} (K5 : Keep (fun _ => False) wr w5)
    (hown : w6.ownsRow w1.heap.size 126 1 v' (n + 1) ((ls.map fun x : Nat => Value.int .u32 (x : Int)) ++ [.int .u32 0])) (hgrow : w5.grownBy w6 (Value.slice A n c).ownBlock) :
    ∃ A' c', v' = .slice A' (n + 1) c' ∧ w6.heap[B2]? = some (.cells #[.bool neg, .slice A n c] 24 (0, 0)) ∧ OwnR 126 .u32 (w6.setCell ⟨B2, 1, none⟩ v') w1.heap.size A' (n + 1) c' (ls ++ [0]) ∧ Low BB (ls ++ [0]) ∧ lval (ls ++ [0]) = bval (l.take i) ∧ n + 1 = i / 32 + 1 ∧
      (w6.setCell ⟨B2, 1, none⟩ v').heap[B2]? = some (.cells #[.bool neg, v'] 24 (0, 0)) ∧ Keep (fun b => b = B2) w1 (w6.setCell ⟨B2, 1, none⟩ v') ∧ Keep (fun b => b = B2) w1 w6 := by
  have hown2 : w6.ownsRow w1.heap.size 126 1 v' (n + 1) ((ls ++ [0]).map fun x : Nat => Value.int .u32 (x : Int)) := by rw [List.map_append]; exact hown
  obtain ⟨A', c', rfl, o6⟩ := own_slice hown2
  have hob : ∀ k, (Value.slice A n c).ownBlock = some k → w1.heap.size ≤ k := by
    intro k hk
    rcases h.own.2 with ⟨hn, _⟩ | ⟨g, cap, cur, hv, hg, _⟩
    · rw [hn] at hk; cases hk
    · rw [hv] at hk
      have : k = g := by simpa [Value.ownBlock] using hk.symm
      omega
  have hr6 : w6.heap[B2]? = some (.cells #[.bool neg, .slice A n c] 24 (0, 0)) := by
    have h5 := K5.heap h.r (by simp)
    exact (Keep.of_grown hgrow).heap h5 (fun e => by have := hob B2 e.symm; have := h.lt; omega)
  have KS : Keep (fun b => b = B2) w6 (w6.setCell ⟨B2, 1, none⟩ (.slice A' (n + 1) c')) := setCell_keep (S := fun b => b = B2) rfl 1 _
  refine ⟨A', c', rfl, hr6, o6.keep KS (fun b off e => by have := (o6.fresh b off e).1; have := h.lt; omega), h.low.append (by intro x hx; simp at hx; rw [hx]; unfold BB; omega), ?_, by have := h.n; omega, ?_, ?_, ?_⟩
  · rw [show lval (ls ++ [0]) = lval ls + BB ^ ls.length * val BB [0] from val_append BB ls [0], h.v]; simp [val]
  · simp [World.setCell, Array.getElem?_modify, hr6]
  · have k1 : Keep (fun b => b = B2) w1 w5 := h.K.join K5 (fun _ _ f => f.elim)
    exact (k1.grown hgrow (fun k hk => .inr (hob k hk))).join KS (fun _ _ e => e)
  · exact (h.K.join K5 (fun _ _ f => f.elim)).grown hgrow (fun k hk => .inr (hob k hk))
end NmSt
theorem NmSt.drew {w1 wr : World} {B2 : Nat} {neg : Bool} {l ls : List Nat} {i n c : Nat} {A : Option Addr} (h : NmSt w1 B2 neg l i A n c ls wr) : NmSt w1 B2 neg l i A n c ls wr.drew :=
  ⟨h.r, h.own.keep0 (Keep.refl _ wr).drew, h.low, h.v, h.n, h.K.drew, h.lt⟩
/-- Before the bit i, its limb there. -/
structure NmMid (w1 : World) (B2 : Nat) (neg : Bool) (l : List Nat) (i : Nat) (A : Option Addr) (n c : Nat) (ls : List Nat) (wr : World) : Prop where
  r : wr.heap[B2]? = some (.cells #[.bool neg, .slice A n c] 24 (0, 0))
  own : OwnR 126 .u32 wr w1.heap.size A n c ls
  low : Low BB ls
  v : lval ls = bval (l.take i)
  n : n = i / 32 + 1
  K : Keep (fun b => b = B2) w1 wr
  lt : B2 < w1.heap.size
theorem NmMid.zero {w1 wr : World} {B2 : Nat} {neg : Bool} {l ls : List Nat} {i n c : Nat} {A : Option Addr} (h : NmMid w1 B2 neg l i A n c ls wr) (hz : l.getD i 0 = 0) : NmSt w1 B2 neg l (i + 1) A n c ls wr :=
  ⟨h.r, h.own, h.low, by rw [h.v, show bval (l.take (i + 1)) = _ from val_take_succ 2 l i, hz, Nat.mul_zero, Nat.add_zero], by have := h.n; omega, h.K, h.lt⟩
theorem or_lowb {y s : Nat} (hy : y < 2 ^ s) (hs : s < 32) : bits BinOp.or IntKind.u32 (y : Int) (2 ^ s % 4294967296) = ((y + 2 ^ s : Nat) : Int) := by
  have h2 : 2 ^ s < 4294967296 := Nat.pow_lt_pow_right (a := 2) (by omega) hs
  have e : ((2 : Int) ^ s % 4294967296) = ((2 ^ s : Nat) : Int) := by
    have : ((2 : Int) ^ s) = ((2 ^ s : Nat) : Int) := by simp
    rw [this]
    generalize 2 ^ s = z at *
    omega
  rw [e, u32_or_nat _ _ (by omega) h2, Nat.or_comm]
  have := Nat.two_pow_add_eq_or_of_lt hy 1
  rw [Nat.mul_one] at this
  rw [← this, Nat.add_comm]
/-- The last limb is what lies above the full ones. -/
theorem last_limb {ls : List Nat} {i : Nat} (_low : Low BB ls) (hl : ls.length = i / 32 + 1) (hv : lval ls < 2 ^ i) : ls.getD (i / 32) 0 < 2 ^ (i % 32) := by
  have h1 : lval ls = lval (ls.take (i / 32)) + BB ^ (i / 32) * ls.getD (i / 32) 0 := by
    rw [← show lval (ls.take (i / 32 + 1)) = _ from val_take_succ BB ls (i / 32), List.take_of_length_le (by omega)]
  have h2 : 2 ^ i = BB ^ (i / 32) * 2 ^ (i % 32) := by
    rw [show BB = 2 ^ 32 from rfl, ← Nat.pow_mul, ← Nat.pow_add]
    congr 1
    omega
  rw [h2] at hv
  refine Nat.lt_of_mul_lt_mul_left (a := BB ^ (i / 32)) ?_
  omega
theorem set_limb {ls : List Nat} {i : Nat} (low : Low BB ls) (hl : ls.length = i / 32 + 1) (hv : lval ls < 2 ^ i) : Low BB (ls.set (i / 32) (ls.getD (i / 32) 0 + 2 ^ (i % 32))) ∧ lval (ls.set (i / 32) (ls.getD (i / 32) 0 + 2 ^ (i % 32))) = lval ls + 2 ^ i := by
  have hy := last_limb low hl hv
  have h3 : 2 ^ (i % 32) + 2 ^ (i % 32) ≤ BB := by
    rw [← Nat.two_mul, ← Nat.pow_succ', show BB = 2 ^ 32 from rfl]
    exact Nat.pow_le_pow_right (by omega) (by omega)
  have h2 : 2 ^ i = BB ^ (i / 32) * 2 ^ (i % 32) := by
    rw [show BB = 2 ^ 32 from rfl, ← Nat.pow_mul, ← Nat.pow_add]
    congr 1
    omega
  refine ⟨fun x hx => ?_, ?_⟩
  · rcases List.mem_or_eq_of_mem_set hx with h | h
    · exact low x h
    · omega
  · have := val_set BB ls (i / 32) (ls.getD (i / 32) 0 + 2 ^ (i % 32)) (by omega)
    rw [Nat.mul_add] at this
    show val BB _ = val BB ls + _
    omega
theorem NmMid.one {w1 wr : World} {B2 g : Nat} {neg : Bool} {l ls : List Nat} {i n c : Nat} (h : NmMid w1 B2 neg l i (some ⟨g, 0, none⟩) n c ls wr) (low : Low 2 l) (hz : l.getD i 0 = 1) :
    ls.getD (i / 32) 0 < 2 ^ (i % 32) ∧ (∀ w6, w6 = wr.setCell ⟨g, i / 32, none⟩ (.int .u32 ((ls.getD (i / 32) 0 + 2 ^ (i % 32) : Nat) : Int)) → NmSt w1 B2 neg l (i + 1) (some ⟨g, 0, none⟩) n c (ls.set (i / 32) (ls.getD (i / 32) 0 + 2 ^ (i % 32))) w6) := by
  have hlt : lval ls < 2 ^ i := by rw [h.v]; exact val_take_lt (by omega) low i
  have hlen : ls.length = i / 32 + 1 := by rw [h.own.len]; exact h.n
  obtain ⟨s1, s2⟩ := set_limb h.low hlen hlt
  refine ⟨last_limb h.low hlen hlt, ?_⟩
  rintro w6 rfl
  have hg := (h.own.fresh g 0 rfl).1
  have KS : Keep (fun b => b = g) wr (wr.setCell ⟨g, i / 32, none⟩ (.int .u32 ((ls.getD (i / 32) 0 + 2 ^ (i % 32) : Nat) : Int))) := setCell_keep (S := fun b => b = g) rfl _ _
  refine ⟨KS.heap h.r (by have := h.lt; omega), h.own.set (by rw [h.n]; omega) _, s1, ?_, by have := h.n; omega, h.K.join KS (fun b hb e => by rw [e] at hb; omega), h.lt⟩
  rw [s2, h.v, show bval (l.take (i + 1)) = _ from val_take_succ 2 l i, hz, Nat.mul_one]
/-- With no nought at the end of the bits there is none at the end of the limbs. -/
theorem num_tight {w1 wr : World} {B2 : Nat} {neg : Bool} {l ls : List Nat} {i n c : Nat} {A : Option Addr} (h : NmSt w1 B2 neg l i A n c ls wr) (hl : i = l.length) (ht : Tight l) : Tight ls := by
  have hv : lval ls = bval l := by rw [h.v, List.take_of_length_le (by omega)]
  have hn := h.n
  have hlen := h.len
  intro hlast
  have hne : ls ≠ [] := by intro e; rw [e] at hlast; simp at hlast
  have hpos : 0 < ls.length := List.length_pos_iff.2 hne
  have hi0 : 0 < i := by omega
  have e := (List.dropLast_concat_getLast hne).symm
  have h0 : ls.getLast hne = 0 := by rw [List.getLast?_eq_some_getLast hne] at hlast; exact Option.some.inj hlast
  have hv2 : lval ls = lval ls.dropLast := by
    show val BB ls = val BB ls.dropLast
    conv => lhs; rw [e]
    rw [val_append, h0]
    simp [val]
  have h1 : lval ls.dropLast < BB ^ (n - 1) := by
    have := val_lt (show Low BB ls.dropLast from fun x hx => h.low x (List.dropLast_subset _ hx))
    rwa [List.length_dropLast, hlen] at this
  have h2 : 2 ^ (i - 1) ≤ bval l := by
    have := pow_le_val (B := 2) (by omega) ht (by intro e; rw [e] at hl; simp at hl; omega)
    rwa [← hl] at this
  have h3 : BB ^ (n - 1) ≤ 2 ^ (i - 1) := by
    rw [show BB = 2 ^ 32 from rfl, ← Nat.pow_mul]
    exact Nat.pow_le_pow_right (by omega) (by omega)
  omega
set_option maxRecDepth 100000 in
set_option maxHeartbeats 8000000 in
theorem num_any (x : Int) (A : Option Addr) (n c : Nat) (w : World) (h : BitsAt w A n c (bits2 x.natAbs)) :
    Calls Tryz.prog 68 #[numArg (decide (x < 0)) A n c] w (ResPost x w) := by
  obtain ⟨neg, hneg⟩ : ∃ b, b = decide (x < 0) := ⟨_, rfl⟩
  rw [← hneg]
  have HNEG := Lib.hid hneg
  have hfit := fits_bits x
  rw [h.len] at hfit
  have HFIT := Lib.hid hfit
  have hmx := h.max
  obtain ⟨l, hl⟩ : ∃ l, l = bits2 x.natAbs := ⟨_, rfl⟩
  rw [← hl] at h
  have HLE := Lib.hid hl
  have HB := Lib.hid h
  have HBL := Lib.hid (fun (hn : 0 < n) (b off : Nat) (e : A = some ⟨b, off, none⟩) => (show b < w.heap.size from by obtain ⟨b', off', e', hb', _⟩ := h.row.2 0 hn; rw [e] at e'; injection e' with e'; injection e' with e1; rw [e1]; exact hb'))
  clear hneg hfit hl h
  have K : Keep (fun _ => False) w ((w.alloc (.cells #[.bool neg, .slice A n c] 90)).alloc (.cells #[.bool false, .slice none 0 0] 24)) := ((Keep.refl _ _).alloc _).alloc _
  have hb1 : ((w.alloc (.cells #[.bool neg, .slice A n c] 90)).alloc (.cells #[.bool false, .slice none 0 0] 24)).heap[w.heap.size]? = some (.cells #[.bool neg, .slice A n c] 90 (0, 0)) := by
    rw [Below.heap_alloc _ _ _ (by simp)]; exact heap_alloc_new w _
  have hb2 : ((w.alloc (.cells #[.bool neg, .slice A n c] 90)).alloc (.cells #[.bool false, .slice none 0 0] 24)).heap[w.heap.size + 1]? = some (.cells #[.bool false, .slice none 0 0] 24 (0, 0)) := by
    have := heap_alloc_new (w.alloc (.cells #[.bool neg, .slice A n c] 90)) (.cells #[.bool false, .slice none 0 0] 24)
    rwa [World.size_alloc] at this
  have HK := Lib.hid K
  have HB1 := Lib.hid hb1
  have HB2 := Lib.hid hb2
  clear K hb1 hb2
  by_cases hbig : 1536 < n
  · have hbi : (1536 : Int) < (n : Int) := by omega
    have HR := Lib.hid (show ResPost x w (.returned (.tuple #[numArg false none 0 0, .int .i64 6])) ((w.alloc (.cells #[.bool neg, .slice A n c] 90)).alloc (.cells #[.bool false, .slice none 0 0] 24)) from ⟨HK.out, .inl ⟨fun f => by have := HFIT.out.1 f; omega, rfl⟩⟩)
    clear HNEG HFIT
    go_enter Tryz.func68, Tryz.ntmps68
    go_wp2_with fail
    exact bodyPost_ret (v := .tuple #[numArg false none 0 0, .int .i64 6]) (by simp [results, Tryz.results68, go_sem]) rfl HR.out
  · have hbi : decide ((1536 : Int) < (n : Int)) = false := decide_eq_false (by omega)
    go_enter Tryz.func68, Tryz.ntmps68
    go_wp2_with fail
    have K3 : Keep (fun _ => False) w (((w.alloc (.cells #[.bool neg, .slice A n c] 90)).alloc (.cells #[.bool false, .slice none 0 0] 24)).alloc (.cells #[.bool neg, .slice none 0 0] 24)) := HK.out.alloc _
    have hb3 := heap_alloc_new ((w.alloc (.cells #[.bool neg, .slice A n c] 90)).alloc (.cells #[.bool false, .slice none 0 0] 24)) (.cells #[.bool neg, .slice none 0 0] 24)
    rw [World.size_alloc, World.size_alloc] at hb3
    have g1 := (((Keep.refl (fun _ => False) _).alloc (.cells #[.bool neg, .slice none 0 0] 24))).heap HB1.out (by simp)
    have g2 := (((Keep.refl (fun _ => False) _).alloc (.cells #[.bool neg, .slice none 0 0] 24))).heap HB2.out (by simp)
    have HBB := Lib.hid (HB.out.keep0 K3)
    clear HB HB1 HB2 HK
    have HK := Lib.hid K3
    have HB1 := Lib.hid g1
    have HB2 := Lib.hid g2
    have HB3 := Lib.hid hb3
    clear K3 g1 g2 hb3
    generalize hB0 : w.heap.size = B0 at HB1 HB2 HB3 ⊢
    have HBX := Lib.hid (Nat.le_of_eq hB0)
    clear hB0
    generalize ((w.alloc (.cells #[.bool neg, .slice A n c] 90)).alloc (.cells #[.bool false, .slice none 0 0] 24)).alloc (.cells #[.bool neg, .slice none 0 0] 24) = w1 at HBB HK HB1 HB2 HB3 ⊢
    have HC := Lib.hid (fun (w' : World) (K' : Keep (fun b => b = B0 + 1 + 1) w1 w') => (show w'.cell? ⟨B0, 1, none⟩ = some (.slice A n c) from by rw [cell_of_row w' _ _ _ _ _ (K'.heap HB1.out (by omega))]; rfl))
    go_loopw [5] (fun iv wr => ∃ (i : Nat) (A' : Option Addr) (n' c' : Nat) (ls : List Nat), i ≤ n ∧ iv = .int .i64 (i : Int) ∧ NmSt w1 (B0 + 1 + 1) neg l i A' n' c' ls wr) (fun iv _ => n - (intOf iv).toNat)
    case atStart => exact ⟨0, none, 0, 0, [], Nat.zero_le _, rfl, HB3.out, OwnR.nil _ _ _ _, Low.nil _, rfl, rfl, Keep.refl _ _, heap_lt HB3.out⟩
    case round =>
      obtain ⟨i, A2, n2, c2, ls, hi, rfl, st⟩ := hrel
      have c1 := HC.out _ st.K
      have r0 : wr.cell? ⟨B0 + 1 + 1, 0, none⟩ = some (.bool neg) := by rw [cell_of_row wr _ _ _ _ _ st.r]; rfl
      have r1 : wr.cell? ⟨B0 + 1 + 1, 1, none⟩ = some (.slice A2 n2 c2) := by rw [cell_of_row wr _ _ _ _ _ st.r]; rfl
      have z0 : wr.frozen? ⟨B0 + 1 + 1, 0, none⟩ = false := by simp [World.frozen?, st.r]
      have z1 : wr.frozen? ⟨B0 + 1 + 1, 1, none⟩ = false := by simp [World.frozen?, st.r]
      by_cases hin : i < n
      · have i0 : (0 : Int) ≤ (i : Int) := by omega
        have i1 : (i : Int) < (n : Int) := by omega
        obtain ⟨b, off, rfl, _, _⟩ := HBB.out.row.2 i hin
        have hbB : b < w.heap.size := HBL.out (by omega) b off rfl
        have HCB := Lib.hid (fun (w' : World) (K' : Keep (fun b => b = B0 + 1 + 1) w1 w') => (show w'.cell? ⟨b, off + i, none⟩ = some (.int .u8 ((l.getD i 0 : Nat) : Int)) from by
          obtain ⟨b', off', e', _, hc'⟩ := (HBB.out.row.keep K' (fun _ b2 off2 e2 => by injection e2 with e2; injection e2 with e2; have := HBX.out; omega)).2 i hin
          injection e' with e'
          injection e' with e1 e2
          rw [← e1, ← e2] at hc'
          exact hc'))
        have HBN := Lib.hid hbB
        clear hbB
        have HS := Lib.hid st
        clear st
        by_cases h32 : i % 32 = 0
        · have t32 : ((i : Int) % 32 == 0) = true := by rw [beq_iff_eq]; omega
          obtain ⟨i63, h63, hz0, hz1, hz2⟩ := info_parts info63
          have KW : Keep (fun _ => False) wr (wr.alloc (.cells #[.int .u32 0] 126)) := (Keep.refl _ _).alloc _
          have HOWN := Lib.hid (HS.out.own.keep0 KW)
          have HNEW := Lib.hid (show ∀ j u, ([Value.int .u32 0] : List Value)[j]? = some u → (wr.alloc (.cells #[.int .u32 0] 126)).cell? ((⟨wr.heap.size, 0, none⟩ : Addr).add j) = some u from by
            intro j u hu
            match j with
            | 0 =>
              simp at hu
              subst hu
              rw [Addr.add_mid, cell_of_row _ _ _ _ _ _ (heap_alloc_new wr _)]
              rfl
            | j + 1 => simp at hu)
          have HBS := Lib.hid (Nat.le_trans HS.out.K.size KW.size)
          have HKW := Lib.hid KW
          have hn2 := HS.out.n
          have HN2 := Lib.hid hn2
          clear KW hn2
          go_wp2_with (at_builtin; refine wpList_append_own _ rfl (.tmp 25) (.tmp 26) 22 rfl w1.heap.size 126 i63 (.int .u32 0) 1 4 Tryz.underlying22 h63 hz0 hz1 hz2 rfl (by decide) _ _ _ rfl HOWN.out ⟨wr.heap.size, 0, none⟩ 1 1 [.int .u32 0] rfl rfl HNEW.out ?a1 ?a2 ?a3 HBS.out ?_)
          case a1 => intro u hu; simp at hu; subst hu; rfl
          case a2 => have := HN2.out; unfold maxLen; omega
          case a3 => have := HN2.out; omega
          intro v' w6 hown hgrow _
          obtain ⟨A3, c3, rfl, hr6, o3, low3, v3, n3, r3, k3, k6⟩ := HS.out.limb h32 HKW.out hown hgrow
          have p0 : w6.cell? ⟨B0 + 1 + 1, 0, none⟩ = some (.bool neg) := by rw [cell_of_row w6 _ _ _ _ _ hr6]; rfl
          have p1 : w6.cell? ⟨B0 + 1 + 1, 1, none⟩ = some (.slice A2 n2 c2) := by rw [cell_of_row w6 _ _ _ _ _ hr6]; rfl
          have p2 : w6.frozen? ⟨B0 + 1 + 1, 1, none⟩ = false := by simp [World.frozen?, hr6]
          have HM := Lib.hid (show NmMid w1 (B0 + 1 + 1) neg l i A3 (n2 + 1) c3 (ls ++ [0]) (w6.setCell ⟨B0 + 1 + 1, 1, none⟩ (.slice A3 (n2 + 1) c3)) from ⟨r3, o3, low3, v3, n3, k3, HS.out.lt⟩)
          clear hown hgrow hr6 o3 low3 v3 n3 c1 r0 r1 z0 z1 r3 k3
          have c1 := HC.out _ k6
          have hcb := HCB.out _ k6
          have nB1 : B0 + 1 + 1 ≠ B0 := by omega
          have nB2 : B0 + 1 + 1 ≠ b := by have := HBN.out; have := HBX.out; omega
          clear k6
          have hq0 : 0 < n2 + 1 := by omega
          obtain ⟨g, cg, eg, hcg, _⟩ := World.ownsRow.form HM.out.own hq0
          injection eg with eg _ ec
          subst eg ec
          rcases low2_cast HBB.out.low i with hbit | hbit
          · rw [hbit] at hcb
            have HN := Lib.hid (HM.out.zero hbit)
            clear hbit
            try dsimp only
            go_wp2_with fail
            go_roundw
            case rel => exact ⟨i + 1, _, _, _, _, by omega, by go_num, HN.out⟩
            case measure => simp [intOf]; omega
          · rw [hbit] at hcb
            have HBIT := Lib.hid hbit
            clear hbit
            try dsimp only
            go_wp2_with fail
            clear p0 p1 p2 hcb nB1 nB2 c1 h32 t32
            generalize w6.setCell ⟨B0 + 1 + 1, 1, none⟩ (.slice (some ⟨g, 0, none⟩) (n2 + 1) c3) = w8 at HM ⊢
            obtain ⟨hy, hset⟩ := HM.out.one HBB.out.low HBIT.out
            obtain ⟨y, hye⟩ : ∃ y, y = (ls ++ [0]).getD (i / 32) 0 := ⟨_, rfl⟩
            rw [← hye] at hy hset
            have hcl := HM.out.own.row.2 (i / 32) (by have := HM.out.n; omega)
            rw [← hye] at hcl
            obtain ⟨b', off', e', _, hcl⟩ := hcl
            injection e' with e'
            injection e' with e1 e2 _
            subst e1 e2
            rw [Nat.zero_add] at hcl
            have hfz := HM.out.own.frozen _ 0 rfl (i / 32)
            have HOR := Lib.hid (or_lowb hy (Nat.mod_lt i (by omega)))
            have hr1 : (w8).cell? ⟨B0 + 1 + 1, 1, none⟩ = some (.slice (some ⟨g, 0, none⟩) (n2 + 1) c3) := by rw [cell_of_row _ _ _ _ _ _ HM.out.r]; rfl
            have j0 : i / 32 < n2 + 1 := by have := HM.out.n; omega
            have hkm : (i : Int) ≤ 300000 := by omega
            have HSET := Lib.hid hset
            clear hset hye hy
            go_big_region
            rw [HOR.out]
            go_wp2_with fail
            go_roundw
            case rel => exact ⟨i + 1, _, _, _, _, by omega, by go_num, (HSET.out _ rfl).drew⟩
            case measure => simp [intOf]; omega
        · have t32 : ((i : Int) % 32 == 0) = false := by rw [beq_eq_false_iff_ne]; omega
          have HM := Lib.hid (show NmMid w1 (B0 + 1 + 1) neg l i A2 n2 c2 ls wr from ⟨HS.out.r, HS.out.own, HS.out.low, HS.out.v, by have := HS.out.n; omega, HS.out.K, HS.out.lt⟩)
          have hcb := HCB.out _ HS.out.K
          have hq0 : 0 < n2 := by have := HM.out.n; omega
          obtain ⟨g, cg, eg, hcg, _⟩ := World.ownsRow.form HM.out.own hq0
          injection eg with eg _ ec
          subst eg ec
          rcases low2_cast HBB.out.low i with hbit | hbit
          · rw [hbit] at hcb
            have HN := Lib.hid (HM.out.zero hbit)
            clear hbit
            try dsimp only
            go_wp2_with fail
            go_roundw
            case rel => exact ⟨i + 1, _, _, _, _, by omega, by go_num, HN.out⟩
            case measure => simp [intOf]; omega
          · rw [hbit] at hcb
            have HBIT := Lib.hid hbit
            clear hbit
            try dsimp only
            go_wp2_with fail
            obtain ⟨hy, hset⟩ := HM.out.one HBB.out.low HBIT.out
            obtain ⟨y, hye⟩ : ∃ y, y = (ls).getD (i / 32) 0 := ⟨_, rfl⟩
            rw [← hye] at hy hset
            have hcl := HM.out.own.row.2 (i / 32) (by have := HM.out.n; omega)
            rw [← hye] at hcl
            obtain ⟨b', off', e', _, hcl⟩ := hcl
            injection e' with e'
            injection e' with e1 e2 _
            subst e1 e2
            rw [Nat.zero_add] at hcl
            have hfz := HM.out.own.frozen _ 0 rfl (i / 32)
            have HOR := Lib.hid (or_lowb hy (Nat.mod_lt i (by omega)))
            have hr1 : (wr).cell? ⟨B0 + 1 + 1, 1, none⟩ = some (.slice (some ⟨g, 0, none⟩) (n2) c2) := by rw [cell_of_row _ _ _ _ _ _ HM.out.r]; rfl
            have j0 : i / 32 < n2 := by have := HM.out.n; omega
            have hkm : (i : Int) ≤ 300000 := by omega
            have HSET := Lib.hid hset
            clear hset hye hy
            go_big_region
            rw [HOR.out]
            go_wp2_with fail
            go_roundw
            case rel => exact ⟨i + 1, _, _, _, _, by omega, by go_num, (HSET.out _ rfl).drew⟩
            case measure => simp [intOf]; omega
      · have hd : decide ((i : Int) < (n : Int)) = false := decide_eq_false (by omega)
        obtain rfl : i = n := by omega
        have hv : lval ls = x.natAbs := by rw [st.v, List.take_of_length_le (by rw [HBB.out.len]; omega), HLE.out]; exact val_digs two2 _
        have hL : ls = limbs x.natAbs := by
          rw [← hv]
          exact (digs_val BB2 st.low (num_tight st (by rw [HBB.out.len]) (by rw [HLE.out]; exact digs_tight two2 _))).symm
        have HS := Lib.hid st
        have HRES := Lib.hid (show ∀ w', Keep (fun b => b = B0 + 1) wr w' → ResPost x w (.returned (.tuple #[numArg neg A2 n2 c2, .int .i64 0])) w' from fun w' K' => ⟨((HK.out.into HS.out.K (by rintro b rfl; have := HBX.out; omega)).into K' (by rintro b rfl; have := HBX.out; omega)), .inr ⟨A2, n2, c2, HFIT.out.2 (by omega), by rw [HNEG.out], by
          rw [← hL]
          exact (HS.out.own.keep K' (fun b off e => by have := (HS.out.own.fresh b off e).1; have := HS.out.lt; omega)).mono HK.out.size⟩⟩)
        have hx2 : wr.heap[B0 + 1]? = some (.cells #[.bool false, .slice none 0 0] 24 (0, 0)) := st.K.heap HB2.out (by omega)
        have d0 : wr.cell? ⟨B0 + 1, 0, none⟩ = some (.bool false) := by rw [cell_of_row wr _ _ _ _ _ hx2]; rfl
        have d1 : wr.cell? ⟨B0 + 1, 1, none⟩ = some (.slice none 0 0) := by rw [cell_of_row wr _ _ _ _ _ hx2]; rfl
        have g0 : wr.frozen? ⟨B0 + 1, 0, none⟩ = false := by simp [World.frozen?, hx2]
        have g1 : wr.frozen? ⟨B0 + 1, 1, none⟩ = false := by simp [World.frozen?, hx2]
        have HE := Lib.hid (two_cells hx2 (.bool neg) (.slice A2 n2 c2))
        have HKE := Lib.hid (((Keep.refl (fun b => b = B0 + 1) wr).setCell (p := ⟨B0 + 1, 0, none⟩) (.inl rfl) (.bool neg)).setCell (p := ⟨B0 + 1, 1, none⟩) (.inl rfl) (.slice A2 n2 c2))
        clear hL hv hx2 st
        go_wp2_with fail
        obtain ⟨e0, e1⟩ := HE.out
        refine bodyPost_ret (v := .tuple #[numArg neg A2 n2 c2, .int .i64 0]) ?_ rfl (HRES.out _ HKE.out)
        simp [results, Tryz.results68, go_sem, e0, e1]
open Go.RowKit
theorem none_limbs (w : World) : LimbsAt w none 0 0 [] := ⟨RowAt.nil _ _ _, (by intro x hx; simp at hx), Nat.le_refl _, by omega⟩
open Go.ChangeShapes Go.WideShapes Go.ChangeAt Go.RowKit Go.Joins
section
variable {H : Type} {enc : TypeId × Value → H} {w : World} {spare : Nat → Bool} {held : Bool}
end
open Go.RowKit
/-- A number's block. -/
def BoxAt (w : World) (B : Nat) (u v : Value) : Prop := w.heap[B]? = some (.cells #[u, v] 24 (0, 0))
theorem BoxAt.keep {w w' : World} {B : Nat} {u v : Value} (h : BoxAt w B u v) (k : Keep (fun _ => False) w w') : BoxAt w' B u v := k.heap h (by simp)
/-- Blocks of numbers; numbers. -/
structure Env (w : World) (bs : List (Nat × Value × Value)) (ms : List (Option Addr × Nat × Nat × List Nat)) (w' : World) : Prop where
  k : Keep (fun _ => False) w w'
  b : ∀ x ∈ bs, BoxAt w' x.1 x.2.1 x.2.2
  m : ∀ x ∈ ms, LimbsAt w' x.1 x.2.1 x.2.2.1 x.2.2.2
namespace Env
variable {w w' w'' : World} {bs : List (Nat × Value × Value)} {ms : List (Option Addr × Nat × Nat × List Nat)}
theorem start (w : World) : Env w [] [] w := ⟨Keep.refl _ _, (fun _ h => by cases h), (fun _ h => by cases h)⟩
theorem keep (h : Env w bs ms w') (k : Keep (fun _ => False) w' w'') : Env w bs ms w'' := ⟨h.k.trans k, fun x hx => (h.b x hx).keep k, fun x hx => (h.m x hx).keep0 k⟩
theorem num (h : Env w bs ms w') {A : Option Addr} {n c : Nat} {l : List Nat} (hl : LimbsAt w' A n c l) : Env w bs ((A, n, c, l) :: ms) w' :=
  ⟨h.k, h.b, fun x hx => by
    rcases List.mem_cons.1 hx with rfl | hx
    · exact hl
    · exact h.m x hx⟩
theorem cells (h : Env w bs ms w') {B : Nat} {u v : Value} (hm : (B, u, v) ∈ bs) : w'.cell? ⟨B, 0, none⟩ = some u ∧ w'.cell? ⟨B, 1, none⟩ = some v ∧ B < w'.heap.size := by
  have g := h.b _ hm
  exact ⟨by rw [cell_of_row w' _ _ _ _ _ g]; rfl, by rw [cell_of_row w' _ _ _ _ _ g]; rfl, heap_lt g⟩
end Env
open Go.RowKit
/-- What is answered where x is to be answered: the number, or that it is too big. -/
def Out (x : Int) (q : Bool) (l : List Nat) (f : Int) : Prop := (Fits x ∧ q = decide (x < 0) ∧ l = limbs x.natAbs ∧ f = 0) ∨ (¬ Fits x ∧ q = false ∧ l = [] ∧ f = 6)
namespace Out
variable {x : Int} {q q' : Bool} {l l' : List Nat} {f f' : Int}
theorem two (h : Out x q l f) : f = 0 ∨ f = 6 := by rcases h with ⟨_, _, _, h⟩ | ⟨_, _, _, h⟩ <;> simp [h]
end Out
open Go.RowKit
open Go.RowKit
open Go.RowKit
open Go.RowKit
open Go.RowKit
open Go.RowKit
open Go.RowKit
open Go.RowKit
/-- A value whose sign is the letter z. -/
def ZPost (z : Bool) (x : Int) (m : Nat) (w : World) (e : Ending) (w' : World) : Prop :=
  ∃ (A : Option Addr) (n c : Nat), e = .returned (numArg z A n c) ∧ BitsAt w' A n c (bits2 x.natAbs) ∧ n ≤ m ∧ Keep (fun _ => False) w w'
theorem OwnR.bits {w : World} {base n c : Nat} {A : Option Addr} {m : Nat} (h : OwnR 5 .u8 w base A n c (bits2 m)) (hm : n ≤ 10000000) : BitsAt w A n c (bits2 m) := h.toBits (digs_low two2 _) hm
theorem BitPost.z {z : Bool} {x : Int} {m : Nat} {w w' : World} {e : Ending} (h : BitPost x w e w') (hz : z = decide (x < 0)) (hm : (bits2 x.natAbs).length ≤ m) (hm2 : m ≤ 10000000) : ZPost z x m w e w' := by
  obtain ⟨k, A, n, c, he, o⟩ := h
  have hl := o.len
  have hn : n ≤ m := by omega
  exact ⟨A, n, c, by rw [hz]; exact he, o.bits (by omega), hn, k⟩
open Go.RowKit
open Go.RowKit
open Go.RowKit
end Go.Proofs.YtonnikipeokkaaaGreatDoor
