/-
  The document's Num: the number of a value.
-/
import Derived.Test.YtdfekphahdmffaaDoorRfValue
import Derived.Test.YtdfekphahdmffaaDoorTimes
namespace Go.Proofs.YtdfekphahdmffaaDoor
open Go.RowKit

/-- A value as an argument. -/
structure ValIn (x : Int) (A : Option Addr) (n c : Nat) (w : World) : Prop where
  b : BitsAt w A n c (bits2 x.natAbs)
theorem len_pow (m B a b k : Nat) (hB : B = 2 ^ a) (hk : k = a * b) : (digs 2 m).length ≤ k ↔ m < B ^ b := by
  subst hB hk
  rw [digs_len_le two2, Nat.pow_mul]
theorem fits_bits (x : Int) : Fits x ↔ (bits2 x.natAbs).length ≤ 1536 := (Fits_iff x).trans (len_pow x.natAbs BB 32 48 1536 rfl rfl).symm
/-- Before the bit i. -/
structure NmSt (w1 : World) (B2 : Nat) (neg : Bool) (l : List Nat) (i : Nat) (A : Option Addr) (n c : Nat) (ls : List Nat) (wr : World) : Prop where
  r : wr.heap[B2]? = some (.cells #[.bool neg, .slice A n c] 25 (0, 0))
  own : OwnR 63 .u32 wr w1.heap.size A n c ls
  low : Low BB ls
  v : lval ls = bval (l.take i)
  n : n = (i + 31) / 32
  K : Keep (fun b => b = B2) w1 wr
  lt : B2 < w1.heap.size
namespace NmSt
variable {w1 wr w5 w6 : World} {B2 : Nat} {neg : Bool} {l ls : List Nat} {i n c : Nat} {A : Option Addr}
theorem len (h : NmSt w1 B2 neg l i A n c ls wr) : ls.length = n := h.own.len
theorem skip (h : NmSt w1 B2 neg l i A n c ls wr) (hi : i % 32 ≠ 0) (hz : l.getD i 0 = 0) : NmSt w1 B2 neg l (i + 1) A n c ls wr :=
  ⟨h.r, h.own, h.low, by rw [h.v, show bval (l.take (i + 1)) = _ from val_take_succ 2 l i, hz, Nat.mul_zero, Nat.add_zero], by have := h.n; omega, h.K, h.lt⟩
/-- A limb more. -/
theorem limb (h : NmSt w1 B2 neg l i A n c ls wr) (hi : i % 32 = 0) {v' : Value} (K5 : Keep (fun _ => False) wr w5)
    (hown : w6.ownsRow w1.heap.size 63 1 v' (n + 1) ((ls.map fun x : Nat => Value.int .u32 (x : Int)) ++ [.int .u32 0])) (hgrow : w5.grownBy w6 (Value.slice A n c).ownBlock) :
    ∃ A' c', v' = .slice A' (n + 1) c' ∧ w6.heap[B2]? = some (.cells #[.bool neg, .slice A n c] 25 (0, 0)) ∧ OwnR 63 .u32 (w6.setCell ⟨B2, 1, none⟩ v') w1.heap.size A' (n + 1) c' (ls ++ [0]) ∧ Low BB (ls ++ [0]) ∧ lval (ls ++ [0]) = bval (l.take i) ∧ n + 1 = i / 32 + 1 ∧
      (w6.setCell ⟨B2, 1, none⟩ v').heap[B2]? = some (.cells #[.bool neg, v'] 25 (0, 0)) ∧ Keep (fun b => b = B2) w1 (w6.setCell ⟨B2, 1, none⟩ v') ∧ Keep (fun b => b = B2) w1 w6 := by
  have hown2 : w6.ownsRow w1.heap.size 63 1 v' (n + 1) ((ls ++ [0]).map fun x : Nat => Value.int .u32 (x : Int)) := by rw [List.map_append]; exact hown
  obtain ⟨A', c', rfl, o6⟩ := own_slice hown2
  have hob : ∀ k, (Value.slice A n c).ownBlock = some k → w1.heap.size ≤ k := by
    intro k hk
    rcases h.own.2 with ⟨hn, _⟩ | ⟨g, cap, cur, hv, hg, _⟩
    · rw [hn] at hk; cases hk
    · rw [hv] at hk
      have : k = g := by simpa [Value.ownBlock] using hk.symm
      omega
  have hr6 : w6.heap[B2]? = some (.cells #[.bool neg, .slice A n c] 25 (0, 0)) := by
    have h5 := K5.heap h.r (by simp)
    exact (Keep.of_grown hgrow).heap h5 (fun e => by have := hob B2 e.symm; have := h.lt; omega)
  have KS : Keep (fun b => b = B2) w6 (w6.setCell ⟨B2, 1, none⟩ (.slice A' (n + 1) c')) := setCell_keep (S := fun b => b = B2) rfl 1 _
  refine ⟨A', c', rfl, hr6, o6.keep KS (fun b off e => by have := (o6.fresh b off e).1; have := h.lt; omega), h.low.append (by intro x hx; simp at hx; rw [hx]; unfold BB; omega), ?_, by have := h.n; omega, ?_, ?_, ?_⟩
  · rw [show lval (ls ++ [0]) = lval ls + BB ^ ls.length * val BB [0] from val_append BB ls [0], h.v]; simp [val]
  · simp [World.setCell, Array.getElem?_modify, hr6]
  · have k1 : Keep (fun b => b = B2) w1 w5 := h.K.join K5 (fun _ _ f => f.elim)
    exact (k1.grown hgrow (fun k hk => .inr (hob k hk))).join KS (fun _ _ e => e)
  · exact (h.K.join K5 (fun _ _ f => f.elim)).grown hgrow (fun k hk => .inr (hob k hk))
end NmSt
theorem NmSt.drew {w1 wr : World} {B2 : Nat} {neg : Bool} {l ls : List Nat} {i n c : Nat} {A : Option Addr} (h : NmSt w1 B2 neg l i A n c ls wr) : NmSt w1 B2 neg l i A n c ls wr.drew :=
  ⟨h.r, h.own.keep0 (Keep.refl _ wr).drew, h.low, h.v, h.n, h.K.drew, h.lt⟩
/-- Before the bit i, its limb there. -/
structure NmMid (w1 : World) (B2 : Nat) (neg : Bool) (l : List Nat) (i : Nat) (A : Option Addr) (n c : Nat) (ls : List Nat) (wr : World) : Prop where
  r : wr.heap[B2]? = some (.cells #[.bool neg, .slice A n c] 25 (0, 0))
  own : OwnR 63 .u32 wr w1.heap.size A n c ls
  low : Low BB ls
  v : lval ls = bval (l.take i)
  n : n = i / 32 + 1
  K : Keep (fun b => b = B2) w1 wr
  lt : B2 < w1.heap.size
theorem NmMid.zero {w1 wr : World} {B2 : Nat} {neg : Bool} {l ls : List Nat} {i n c : Nat} {A : Option Addr} (h : NmMid w1 B2 neg l i A n c ls wr) (hz : l.getD i 0 = 0) : NmSt w1 B2 neg l (i + 1) A n c ls wr :=
  ⟨h.r, h.own, h.low, by rw [h.v, show bval (l.take (i + 1)) = _ from val_take_succ 2 l i, hz, Nat.mul_zero, Nat.add_zero], by have := h.n; omega, h.K, h.lt⟩
theorem or_lowb {y s : Nat} (hy : y < 2 ^ s) (hs : s < 32) : bits BinOp.or IntKind.u32 (y : Int) (2 ^ s % 4294967296) = ((y + 2 ^ s : Nat) : Int) := by
  have h2 : 2 ^ s < 4294967296 := Nat.pow_lt_pow_right (a := 2) (by omega) hs
  have e : ((2 : Int) ^ s % 4294967296) = ((2 ^ s : Nat) : Int) := by
    have : ((2 : Int) ^ s) = ((2 ^ s : Nat) : Int) := by simp
    rw [this]
    generalize 2 ^ s = z at *
    omega
  rw [e, u32_or_nat _ _ (by omega) h2, Nat.or_comm]
  have := Nat.two_pow_add_eq_or_of_lt hy 1
  rw [Nat.mul_one] at this
  rw [← this, Nat.add_comm]
/-- The last limb is what lies above the full ones. -/
theorem last_limb {ls : List Nat} {i : Nat} (_low : Low BB ls) (hl : ls.length = i / 32 + 1) (hv : lval ls < 2 ^ i) : ls.getD (i / 32) 0 < 2 ^ (i % 32) := by
  have h1 : lval ls = lval (ls.take (i / 32)) + BB ^ (i / 32) * ls.getD (i / 32) 0 := by
    rw [← show lval (ls.take (i / 32 + 1)) = _ from val_take_succ BB ls (i / 32), List.take_of_length_le (by omega)]
  have h2 : 2 ^ i = BB ^ (i / 32) * 2 ^ (i % 32) := by
    rw [show BB = 2 ^ 32 from rfl, ← Nat.pow_mul, ← Nat.pow_add]
    congr 1
    omega
  rw [h2] at hv
  refine Nat.lt_of_mul_lt_mul_left (a := BB ^ (i / 32)) ?_
  omega
theorem set_limb {ls : List Nat} {i : Nat} (low : Low BB ls) (hl : ls.length = i / 32 + 1) (hv : lval ls < 2 ^ i) : Low BB (ls.set (i / 32) (ls.getD (i / 32) 0 + 2 ^ (i % 32))) ∧ lval (ls.set (i / 32) (ls.getD (i / 32) 0 + 2 ^ (i % 32))) = lval ls + 2 ^ i := by
  have hy := last_limb low hl hv
  have h3 : 2 ^ (i % 32) + 2 ^ (i % 32) ≤ BB := by
    rw [← Nat.two_mul, ← Nat.pow_succ', show BB = 2 ^ 32 from rfl]
    exact Nat.pow_le_pow_right (by omega) (by omega)
  have h2 : 2 ^ i = BB ^ (i / 32) * 2 ^ (i % 32) := by
    rw [show BB = 2 ^ 32 from rfl, ← Nat.pow_mul, ← Nat.pow_add]
    congr 1
    omega
  refine ⟨fun x hx => ?_, ?_⟩
  · rcases List.mem_or_eq_of_mem_set hx with h | h
    · exact low x h
    · omega
  · have := val_set BB ls (i / 32) (ls.getD (i / 32) 0 + 2 ^ (i % 32)) (by omega)
    rw [Nat.mul_add] at this
    show val BB _ = val BB ls + _
    omega
theorem NmMid.one {w1 wr : World} {B2 g : Nat} {neg : Bool} {l ls : List Nat} {i n c : Nat} (h : NmMid w1 B2 neg l i (some ⟨g, 0, none⟩) n c ls wr) (low : Low 2 l) (hz : l.getD i 0 = 1) :
    ls.getD (i / 32) 0 < 2 ^ (i % 32) ∧ (∀ w6, w6 = wr.setCell ⟨g, i / 32, none⟩ (.int .u32 ((ls.getD (i / 32) 0 + 2 ^ (i % 32) : Nat) : Int)) → NmSt w1 B2 neg l (i + 1) (some ⟨g, 0, none⟩) n c (ls.set (i / 32) (ls.getD (i / 32) 0 + 2 ^ (i % 32))) w6) := by
  have hlt : lval ls < 2 ^ i := by rw [h.v]; exact val_take_lt (by omega) low i
  have hlen : ls.length = i / 32 + 1 := by rw [h.own.len]; exact h.n
  obtain ⟨s1, s2⟩ := set_limb h.low hlen hlt
  refine ⟨last_limb h.low hlen hlt, ?_⟩
  rintro w6 rfl
  have hg := (h.own.fresh g 0 rfl).1
  have KS : Keep (fun b => b = g) wr (wr.setCell ⟨g, i / 32, none⟩ (.int .u32 ((ls.getD (i / 32) 0 + 2 ^ (i % 32) : Nat) : Int))) := setCell_keep (S := fun b => b = g) rfl _ _
  refine ⟨KS.heap h.r (by have := h.lt; omega), h.own.set (by rw [h.n]; omega) _, s1, ?_, by have := h.n; omega, h.K.join KS (fun b hb e => by rw [e] at hb; omega), h.lt⟩
  rw [s2, h.v, show bval (l.take (i + 1)) = _ from val_take_succ 2 l i, hz, Nat.mul_one]
/-- With no nought at the end of the bits there is none at the end of the limbs. -/
theorem num_tight {w1 wr : World} {B2 : Nat} {neg : Bool} {l ls : List Nat} {i n c : Nat} {A : Option Addr} (h : NmSt w1 B2 neg l i A n c ls wr) (hl : i = l.length) (ht : Tight l) : Tight ls := by
  have hv : lval ls = bval l := by rw [h.v, List.take_of_length_le (by omega)]
  have hn := h.n
  have hlen := h.len
  intro hlast
  have hne : ls ≠ [] := by intro e; rw [e] at hlast; simp at hlast
  have hpos : 0 < ls.length := List.length_pos_iff.2 hne
  have hi0 : 0 < i := by omega
  have e := (List.dropLast_concat_getLast hne).symm
  have h0 : ls.getLast hne = 0 := by rw [List.getLast?_eq_some_getLast hne] at hlast; exact Option.some.inj hlast
  have hv2 : lval ls = lval ls.dropLast := by
    show val BB ls = val BB ls.dropLast
    conv => lhs; rw [e]
    rw [val_append, h0]
    simp [val]
  have h1 : lval ls.dropLast < BB ^ (n - 1) := by
    have := val_lt (show Low BB ls.dropLast from fun x hx => h.low x (List.dropLast_subset _ hx))
    rwa [List.length_dropLast, hlen] at this
  have h2 : 2 ^ (i - 1) ≤ bval l := by
    have := pow_le_val (B := 2) (by omega) ht (by intro e; rw [e] at hl; simp at hl; omega)
    rwa [← hl] at this
  have h3 : BB ^ (n - 1) ≤ 2 ^ (i - 1) := by
    rw [show BB = 2 ^ 32 from rfl, ← Nat.pow_mul]
    exact Nat.pow_le_pow_right (by omega) (by omega)
  omega
set_option maxRecDepth 100000 in
set_option maxHeartbeats 8000000 in
theorem num_any (x : Int) (A : Option Addr) (n c : Nat) (w : World) (h : BitsAt w A n c (bits2 x.natAbs)) :
    Calls Tryd.prog 52 #[numArg (decide (x < 0)) A n c] w (ResPost x w) := by
  obtain ⟨neg, hneg⟩ : ∃ b, b = decide (x < 0) := ⟨_, rfl⟩
  rw [← hneg]
  have HNEG := Lib.hid hneg
  have hfit := fits_bits x
  rw [h.len] at hfit
  have HFIT := Lib.hid hfit
  have hmx := h.max
  obtain ⟨l, hl⟩ : ∃ l, l = bits2 x.natAbs := ⟨_, rfl⟩
  rw [← hl] at h
  have HLE := Lib.hid hl
  have HB := Lib.hid h
  have HBL := Lib.hid (fun (hn : 0 < n) (b off : Nat) (e : A = some ⟨b, off, none⟩) => (show b < w.heap.size from by obtain ⟨b', off', e', hb', _⟩ := h.row.2 0 hn; rw [e] at e'; injection e' with e'; injection e' with e1; rw [e1]; exact hb'))
  clear hneg hfit hl h
  have K : Keep (fun _ => False) w ((w.alloc (.cells #[.bool neg, .slice A n c] 34)).alloc (.cells #[.bool false, .slice none 0 0] 25)) := ((Keep.refl _ _).alloc _).alloc _
  have hb1 : ((w.alloc (.cells #[.bool neg, .slice A n c] 34)).alloc (.cells #[.bool false, .slice none 0 0] 25)).heap[w.heap.size]? = some (.cells #[.bool neg, .slice A n c] 34 (0, 0)) := by
    rw [Below.heap_alloc _ _ _ (by simp)]; exact heap_alloc_new w _
  have hb2 : ((w.alloc (.cells #[.bool neg, .slice A n c] 34)).alloc (.cells #[.bool false, .slice none 0 0] 25)).heap[w.heap.size + 1]? = some (.cells #[.bool false, .slice none 0 0] 25 (0, 0)) := by
    have := heap_alloc_new (w.alloc (.cells #[.bool neg, .slice A n c] 34)) (.cells #[.bool false, .slice none 0 0] 25)
    rwa [World.size_alloc] at this
  have HK := Lib.hid K
  have HB1 := Lib.hid hb1
  have HB2 := Lib.hid hb2
  clear K hb1 hb2
  by_cases hbig : 1536 < n
  · have hbi : (1536 : Int) < (n : Int) := by omega
    have HR := Lib.hid (show ResPost x w (.returned (.tuple #[numArg false none 0 0, .int .i64 6])) ((w.alloc (.cells #[.bool neg, .slice A n c] 34)).alloc (.cells #[.bool false, .slice none 0 0] 25)) from ⟨HK.out, .inl ⟨fun f => by have := HFIT.out.1 f; omega, rfl⟩⟩)
    clear HNEG HFIT
    go_enter Tryd.func52, Tryd.ntmps52
    go_wp2_with fail
    exact bodyPost_ret (v := .tuple #[numArg false none 0 0, .int .i64 6]) (by simp [results, Tryd.results52, go_sem]) rfl HR.out
  · have hbi : decide ((1536 : Int) < (n : Int)) = false := decide_eq_false (by omega)
    go_enter Tryd.func52, Tryd.ntmps52
    go_wp2_with fail
    have K3 : Keep (fun _ => False) w (((w.alloc (.cells #[.bool neg, .slice A n c] 34)).alloc (.cells #[.bool false, .slice none 0 0] 25)).alloc (.cells #[.bool neg, .slice none 0 0] 25)) := HK.out.alloc _
    have hb3 := heap_alloc_new ((w.alloc (.cells #[.bool neg, .slice A n c] 34)).alloc (.cells #[.bool false, .slice none 0 0] 25)) (.cells #[.bool neg, .slice none 0 0] 25)
    rw [World.size_alloc, World.size_alloc] at hb3
    have g1 := (((Keep.refl (fun _ => False) _).alloc (.cells #[.bool neg, .slice none 0 0] 25))).heap HB1.out (by simp)
    have g2 := (((Keep.refl (fun _ => False) _).alloc (.cells #[.bool neg, .slice none 0 0] 25))).heap HB2.out (by simp)
    have HBB := Lib.hid (HB.out.keep0 K3)
    clear HB HB1 HB2 HK
    have HK := Lib.hid K3
    have HB1 := Lib.hid g1
    have HB2 := Lib.hid g2
    have HB3 := Lib.hid hb3
    clear K3 g1 g2 hb3
    generalize hB0 : w.heap.size = B0 at HB1 HB2 HB3 ⊢
    have HBX := Lib.hid (Nat.le_of_eq hB0)
    clear hB0
    generalize ((w.alloc (.cells #[.bool neg, .slice A n c] 34)).alloc (.cells #[.bool false, .slice none 0 0] 25)).alloc (.cells #[.bool neg, .slice none 0 0] 25) = w1 at HBB HK HB1 HB2 HB3 ⊢
    have HC := Lib.hid (fun (w' : World) (K' : Keep (fun b => b = B0 + 1 + 1) w1 w') => (show w'.cell? ⟨B0, 1, none⟩ = some (.slice A n c) from by rw [cell_of_row w' _ _ _ _ _ (K'.heap HB1.out (by omega))]; rfl))
    go_loopw [5] (fun iv wr => ∃ (i : Nat) (A' : Option Addr) (n' c' : Nat) (ls : List Nat), i ≤ n ∧ iv = .int .i64 (i : Int) ∧ NmSt w1 (B0 + 1 + 1) neg l i A' n' c' ls wr) (fun iv _ => n - (intOf iv).toNat)
    case atStart => exact ⟨0, none, 0, 0, [], Nat.zero_le _, rfl, HB3.out, OwnR.nil _ _ _ _, Low.nil _, rfl, rfl, Keep.refl _ _, heap_lt HB3.out⟩
    case round =>
      obtain ⟨i, A2, n2, c2, ls, hi, rfl, st⟩ := hrel
      have c1 := HC.out _ st.K
      have r0 : wr.cell? ⟨B0 + 1 + 1, 0, none⟩ = some (.bool neg) := by rw [cell_of_row wr _ _ _ _ _ st.r]; rfl
      have r1 : wr.cell? ⟨B0 + 1 + 1, 1, none⟩ = some (.slice A2 n2 c2) := by rw [cell_of_row wr _ _ _ _ _ st.r]; rfl
      have z0 : wr.frozen? ⟨B0 + 1 + 1, 0, none⟩ = false := by simp [World.frozen?, st.r]
      have z1 : wr.frozen? ⟨B0 + 1 + 1, 1, none⟩ = false := by simp [World.frozen?, st.r]
      by_cases hin : i < n
      · have i0 : (0 : Int) ≤ (i : Int) := by omega
        have i1 : (i : Int) < (n : Int) := by omega
        obtain ⟨b, off, rfl, _, _⟩ := HBB.out.row.2 i hin
        have hbB : b < w.heap.size := HBL.out (by omega) b off rfl
        have HCB := Lib.hid (fun (w' : World) (K' : Keep (fun b => b = B0 + 1 + 1) w1 w') => (show w'.cell? ⟨b, off + i, none⟩ = some (.int .u8 ((l.getD i 0 : Nat) : Int)) from by
          obtain ⟨b', off', e', _, hc'⟩ := (HBB.out.row.keep K' (fun _ b2 off2 e2 => by injection e2 with e2; injection e2 with e2; have := HBX.out; omega)).2 i hin
          injection e' with e'
          injection e' with e1 e2
          rw [← e1, ← e2] at hc'
          exact hc'))
        have HBN := Lib.hid hbB
        clear hbB
        have HS := Lib.hid st
        clear st
        by_cases h32 : i % 32 = 0
        · have t32 : ((i : Int) % 32 == 0) = true := by rw [beq_iff_eq]; omega
          obtain ⟨i63, h63, hz0, hz1, hz2⟩ := info_parts info63
          have KW : Keep (fun _ => False) wr (wr.alloc (.cells #[.int .u32 0] 63)) := (Keep.refl _ _).alloc _
          have HOWN := Lib.hid (HS.out.own.keep0 KW)
          have HNEW := Lib.hid (show ∀ j u, ([Value.int .u32 0] : List Value)[j]? = some u → (wr.alloc (.cells #[.int .u32 0] 63)).cell? ((⟨wr.heap.size, 0, none⟩ : Addr).add j) = some u from by
            intro j u hu
            match j with
            | 0 =>
              simp at hu
              subst hu
              rw [Addr.add_mid, cell_of_row _ _ _ _ _ _ (heap_alloc_new wr _)]
              rfl
            | j + 1 => simp at hu)
          have HBS := Lib.hid (Nat.le_trans HS.out.K.size KW.size)
          have HKW := Lib.hid KW
          have hn2 := HS.out.n
          have HN2 := Lib.hid hn2
          clear KW hn2
          go_wp2_with (at_builtin; refine wpList_append_own _ rfl (.tmp 25) (.tmp 26) 23 rfl w1.heap.size 63 i63 (.int .u32 0) 1 4 Tryd.underlying23 h63 hz0 hz1 hz2 rfl (by decide) _ _ _ rfl HOWN.out ⟨wr.heap.size, 0, none⟩ 1 1 [.int .u32 0] rfl rfl HNEW.out ?a1 ?a2 ?a3 HBS.out ?_)
          case a1 => intro u hu; simp at hu; subst hu; rfl
          case a2 => have := HN2.out; unfold maxLen; omega
          case a3 => have := HN2.out; omega
          intro v' w6 hown hgrow _
          obtain ⟨A3, c3, rfl, hr6, o3, low3, v3, n3, r3, k3, k6⟩ := HS.out.limb h32 HKW.out hown hgrow
          have p0 : w6.cell? ⟨B0 + 1 + 1, 0, none⟩ = some (.bool neg) := by rw [cell_of_row w6 _ _ _ _ _ hr6]; rfl
          have p1 : w6.cell? ⟨B0 + 1 + 1, 1, none⟩ = some (.slice A2 n2 c2) := by rw [cell_of_row w6 _ _ _ _ _ hr6]; rfl
          have p2 : w6.frozen? ⟨B0 + 1 + 1, 1, none⟩ = false := by simp [World.frozen?, hr6]
          have HM := Lib.hid (show NmMid w1 (B0 + 1 + 1) neg l i A3 (n2 + 1) c3 (ls ++ [0]) (w6.setCell ⟨B0 + 1 + 1, 1, none⟩ (.slice A3 (n2 + 1) c3)) from ⟨r3, o3, low3, v3, n3, k3, HS.out.lt⟩)
          clear hown hgrow hr6 o3 low3 v3 n3 c1 r0 r1 z0 z1 r3 k3
          have c1 := HC.out _ k6
          have hcb := HCB.out _ k6
          have nB1 : B0 + 1 + 1 ≠ B0 := by omega
          have nB2 : B0 + 1 + 1 ≠ b := by have := HBN.out; have := HBX.out; omega
          clear k6
          have hq0 : 0 < n2 + 1 := by omega
          obtain ⟨g, cg, eg, hcg, _⟩ := World.ownsRow.form HM.out.own hq0
          injection eg with eg _ ec
          subst eg ec
          rcases low2_cast HBB.out.low i with hbit | hbit
          · rw [hbit] at hcb
            have HN := Lib.hid (HM.out.zero hbit)
            clear hbit
            try dsimp only
            go_wp2_with fail
            go_roundw
            case rel => exact ⟨i + 1, _, _, _, _, by omega, by go_num, HN.out⟩
            case measure => simp [intOf]; omega
          · rw [hbit] at hcb
            have HBIT := Lib.hid hbit
            clear hbit
            try dsimp only
            go_wp2_with fail
            clear p0 p1 p2 hcb nB1 nB2 c1 h32 t32
            generalize w6.setCell ⟨B0 + 1 + 1, 1, none⟩ (.slice (some ⟨g, 0, none⟩) (n2 + 1) c3) = w8 at HM ⊢
            obtain ⟨hy, hset⟩ := HM.out.one HBB.out.low HBIT.out
            obtain ⟨y, hye⟩ : ∃ y, y = (ls ++ [0]).getD (i / 32) 0 := ⟨_, rfl⟩
            rw [← hye] at hy hset
            have hcl := HM.out.own.row.2 (i / 32) (by have := HM.out.n; omega)
            rw [← hye] at hcl
            obtain ⟨b', off', e', _, hcl⟩ := hcl
            injection e' with e'
            injection e' with e1 e2 _
            subst e1 e2
            rw [Nat.zero_add] at hcl
            have hfz := HM.out.own.frozen _ 0 rfl (i / 32)
            have HOR := Lib.hid (or_lowb hy (Nat.mod_lt i (by omega)))
            have hr1 : (w8).cell? ⟨B0 + 1 + 1, 1, none⟩ = some (.slice (some ⟨g, 0, none⟩) (n2 + 1) c3) := by rw [cell_of_row _ _ _ _ _ _ HM.out.r]; rfl
            have j0 : i / 32 < n2 + 1 := by have := HM.out.n; omega
            have hkm : (i : Int) ≤ 300000 := by omega
            have HSET := Lib.hid hset
            clear hset hye hy
            go_big_region
            rw [HOR.out]
            go_wp2_with fail
            go_roundw
            case rel => exact ⟨i + 1, _, _, _, _, by omega, by go_num, (HSET.out _ rfl).drew⟩
            case measure => simp [intOf]; omega
        · have t32 : ((i : Int) % 32 == 0) = false := by rw [beq_eq_false_iff_ne]; omega
          have HM := Lib.hid (show NmMid w1 (B0 + 1 + 1) neg l i A2 n2 c2 ls wr from ⟨HS.out.r, HS.out.own, HS.out.low, HS.out.v, by have := HS.out.n; omega, HS.out.K, HS.out.lt⟩)
          have hcb := HCB.out _ HS.out.K
          have hq0 : 0 < n2 := by have := HM.out.n; omega
          obtain ⟨g, cg, eg, hcg, _⟩ := World.ownsRow.form HM.out.own hq0
          injection eg with eg _ ec
          subst eg ec
          rcases low2_cast HBB.out.low i with hbit | hbit
          · rw [hbit] at hcb
            have HN := Lib.hid (HM.out.zero hbit)
            clear hbit
            try dsimp only
            go_wp2_with fail
            go_roundw
            case rel => exact ⟨i + 1, _, _, _, _, by omega, by go_num, HN.out⟩
            case measure => simp [intOf]; omega
          · rw [hbit] at hcb
            have HBIT := Lib.hid hbit
            clear hbit
            try dsimp only
            go_wp2_with fail
            obtain ⟨hy, hset⟩ := HM.out.one HBB.out.low HBIT.out
            obtain ⟨y, hye⟩ : ∃ y, y = (ls).getD (i / 32) 0 := ⟨_, rfl⟩
            rw [← hye] at hy hset
            have hcl := HM.out.own.row.2 (i / 32) (by have := HM.out.n; omega)
            rw [← hye] at hcl
            obtain ⟨b', off', e', _, hcl⟩ := hcl
            injection e' with e'
            injection e' with e1 e2 _
            subst e1 e2
            rw [Nat.zero_add] at hcl
            have hfz := HM.out.own.frozen _ 0 rfl (i / 32)
            have HOR := Lib.hid (or_lowb hy (Nat.mod_lt i (by omega)))
            have hr1 : (wr).cell? ⟨B0 + 1 + 1, 1, none⟩ = some (.slice (some ⟨g, 0, none⟩) (n2) c2) := by rw [cell_of_row _ _ _ _ _ _ HM.out.r]; rfl
            have j0 : i / 32 < n2 := by have := HM.out.n; omega
            have hkm : (i : Int) ≤ 300000 := by omega
            have HSET := Lib.hid hset
            clear hset hye hy
            go_big_region
            rw [HOR.out]
            go_wp2_with fail
            go_roundw
            case rel => exact ⟨i + 1, _, _, _, _, by omega, by go_num, (HSET.out _ rfl).drew⟩
            case measure => simp [intOf]; omega
      · have hd : decide ((i : Int) < (n : Int)) = false := decide_eq_false (by omega)
        obtain rfl : i = n := by omega
        have hv : lval ls = x.natAbs := by rw [st.v, List.take_of_length_le (by rw [HBB.out.len]; omega), HLE.out]; exact val_digs two2 _
        have hL : ls = limbs x.natAbs := by
          rw [← hv]
          exact (digs_val BB2 st.low (num_tight st (by rw [HBB.out.len]) (by rw [HLE.out]; exact digs_tight two2 _))).symm
        have HS := Lib.hid st
        have HRES := Lib.hid (show ∀ w', Keep (fun b => b = B0 + 1) wr w' → ResPost x w (.returned (.tuple #[numArg neg A2 n2 c2, .int .i64 0])) w' from fun w' K' => ⟨((HK.out.into HS.out.K (by rintro b rfl; have := HBX.out; omega)).into K' (by rintro b rfl; have := HBX.out; omega)), .inr ⟨A2, n2, c2, HFIT.out.2 (by omega), by rw [HNEG.out], by
          rw [← hL]
          exact (HS.out.own.keep K' (fun b off e => by have := (HS.out.own.fresh b off e).1; have := HS.out.lt; omega)).mono HK.out.size⟩⟩)
        have hx2 : wr.heap[B0 + 1]? = some (.cells #[.bool false, .slice none 0 0] 25 (0, 0)) := st.K.heap HB2.out (by omega)
        have d0 : wr.cell? ⟨B0 + 1, 0, none⟩ = some (.bool false) := by rw [cell_of_row wr _ _ _ _ _ hx2]; rfl
        have d1 : wr.cell? ⟨B0 + 1, 1, none⟩ = some (.slice none 0 0) := by rw [cell_of_row wr _ _ _ _ _ hx2]; rfl
        have g0 : wr.frozen? ⟨B0 + 1, 0, none⟩ = false := by simp [World.frozen?, hx2]
        have g1 : wr.frozen? ⟨B0 + 1, 1, none⟩ = false := by simp [World.frozen?, hx2]
        have HE := Lib.hid (two_cells hx2 (.bool neg) (.slice A2 n2 c2))
        have HKE := Lib.hid (((Keep.refl (fun b => b = B0 + 1) wr).setCell (p := ⟨B0 + 1, 0, none⟩) (.inl rfl) (.bool neg)).setCell (p := ⟨B0 + 1, 1, none⟩) (.inl rfl) (.slice A2 n2 c2))
        clear hL hv hx2 st
        go_wp2_with fail
        obtain ⟨e0, e1⟩ := HE.out
        refine bodyPost_ret (v := .tuple #[numArg neg A2 n2 c2, .int .i64 0]) ?_ rfl (HRES.out _ HKE.out)
        simp [results, Tryd.results52, go_sem, e0, e1]
end Go.Proofs.YtdfekphahdmffaaDoor
