/-
  The document's Value: a number's bits.
-/
import Derived.Test.YtdfekphahdmffaaDoorRfBase
import Derived.Laws.BitsAllLaws
namespace Go.Proofs.YtdfekphahdmffaaDoor
open Go.RowKit

theorem info5 : (Tryd.prog.info? 5).map (fun i => (i.zero, i.size, i.bytes)) = some (some (.int .u8 0), 1, 1) := by kernel_rfl
theorem new_bit (w5 : World) (x : Int) : ∀ j u, ([Value.int .u8 x] : List Value)[j]? = some u → (w5.alloc (.cells #[.int .u8 x] 5)).cell? ((⟨w5.heap.size, 0, none⟩ : Addr).add j) = some u := by
  intro j u hu
  match j with
  | 0 =>
    simp at hu
    subst hu
    rw [Addr.add_mid, cell_of_row _ _ _ _ _ _ (heap_alloc_new w5 _)]
    rfl
  | j + 1 => simp at hu
/-- Before a bit: i limbs are done, and k bits of the next. -/
structure VaSt (w1 : World) (l : List Nat) (i k : Nat) (bs : List Nat) (v : Value) (wr : World) : Prop where
  o : wr.ownsRow w1.heap.size 5 1 v (32 * i + k) (bs.map fun x : Nat => Value.int .u8 (x : Int))
  low : Low 2 bs
  v : bval bs = lval (l.take i) + BB ^ i * (l.getD i 0 % 2 ^ k)
  K : Keep (fun _ => False) w1 wr
theorem VaSt.len {w1 wr : World} {l bs : List Nat} {i k : Nat} {v : Value} (h : VaSt w1 l i k bs v wr) : bs.length = 32 * i + k := by have := h.o.1; simpa using this
theorem VaSt.carry {w1 wr : World} {l bs : List Nat} {i : Nat} {v : Value} (h : VaSt w1 l i 32 bs v wr) (low : Low BB l) : VaSt w1 l (i + 1) 0 bs v wr := by
  refine ⟨?_, h.low, ?_, h.K⟩
  · have := h.o
    rwa [show 32 * i + 32 = 32 * (i + 1) + 0 by omega] at this
  · rw [h.v, Nat.pow_zero, Nat.mod_one, Nat.mul_zero, Nat.add_zero, show lval (l.take (i + 1)) = lval (l.take i) + BB ^ i * l.getD i 0 from val_take_succ BB l i, Nat.mod_eq_of_lt (by have := low.getD (by unfold BB; omega) i; unfold BB at this; exact this)]
theorem VaSt.more {w1 wr w6 : World} {l bs : List Nat} {i k : Nat} {v v' : Value} (h : VaSt w1 l i k bs v wr) {b : Nat} (hb : b = l.getD i 0 / 2 ^ k % 2) {w5 : World} (K5 : Keep (fun _ => False) wr w5)
    (hown : w6.ownsRow w1.heap.size 5 1 v' (32 * i + k + 1) ((bs.map fun x : Nat => Value.int .u8 (x : Int)) ++ [.int .u8 (b : Int)])) (hgrow : w5.grownBy w6 v.ownBlock) : VaSt w1 l i (k + 1) (bs ++ [b]) v' w6 := by
  refine ⟨?_, h.low.append (by intro x hx; simp at hx; rw [hx, hb]; omega), ?_, ?_⟩
  · rw [List.map_append]; exact hown
  · rw [show bval (bs ++ [b]) = bval bs + 2 ^ bs.length * val 2 [b] from val_append 2 bs [b], h.v, h.len, Nat.mod_pow_succ, show val 2 [b] = b by simp [val], ← hb, Nat.mul_add, Nat.pow_add, Nat.pow_mul, show (2 : Nat) ^ 32 = BB from rfl]
    simp only [Nat.mul_assoc, Nat.add_assoc]
  · refine (h.K.trans K5).into (Keep.of_grown hgrow) (fun i' hi => ?_)
    rcases h.o.2 with ⟨hn, _⟩ | ⟨g, cap, cur, hv, hg, _⟩
    · rw [hn] at hi; cases hi
    · rw [hv] at hi
      have : i' = g := by simpa [Value.ownBlock] using hi
      omega
theorem bits_form {w : World} {base n : Nat} {v : Value} {xs : List Value} (h : w.ownsRow base 5 1 v n xs) : ∃ P c, v = .slice P n c := by
  rcases h.2 with ⟨hn, h0⟩ | ⟨g, cap, cur, hv, _⟩
  · exact ⟨none, 0, by rw [hn, h0]⟩
  · exact ⟨_, _, hv⟩

theorem row_kept {S : Nat → Prop} {w w' : World} {base n k : Nat} {e : TypeId} {v : Value} {xs : List Value} (h : w.ownsRow base e k v n xs) (K : Keep S w w') (hs : ∀ b, v.ownBlock = some b → ¬ S b) : w'.ownsRow base e k v n xs := by
  refine ⟨h.1, ?_⟩
  rcases h.2 with hn | ⟨g, cap, cur, hv, hg, hh, rest⟩
  · exact .inl hn
  · refine .inr ⟨g, cap, cur, hv, hg, ?_, rest⟩
    rw [K.block g (heap_lt hh) (hs g (by rw [hv]; rfl))]
    exact hh
theorem and_bit {x : Nat} (k : Nat) (hx : x < 4294967296) : bits BinOp.and IntKind.u32 ((x : Int) / 2 ^ k) 1 % 256 = ((x / 2 ^ k % 2 : Nat) : Int) := by
  have e1 : ((x : Int) / 2 ^ k) = ((x / 2 ^ k : Nat) : Int) := by simp
  have e2 : x / 2 ^ k < 4294967296 := Nat.lt_of_le_of_lt (Nat.div_le_self _ _) hx
  rw [e1, show (1 : Int) = ((1 : Nat) : Int) from rfl, u32_and_nat _ _ e2 (by omega), Nat.and_one_is_mod]
  omega
set_option maxRecDepth 100000 in
set_option maxHeartbeats 4000000 in
theorem val_any (neg : Bool) (A : Option Addr) (n c : Nat) (l : List Nat) (w : World) (h : LimbsAt w A n c l) (hm : n ≤ 9000) :
    Calls Tryd.prog 24 #[numArg neg A n c] w (BitPost (sval neg l) w) := by
  have K : Keep (fun _ => False) w ((w.alloc (.cells #[.bool neg, .slice A n c] 25)).alloc (.cells #[.bool false, .slice none 0 0] 34)) := ((Keep.refl _ _).alloc _).alloc _
  have hb1 : ((w.alloc (.cells #[.bool neg, .slice A n c] 25)).alloc (.cells #[.bool false, .slice none 0 0] 34)).heap[w.heap.size]? = some (.cells #[.bool neg, .slice A n c] 25 (0, 0)) := by
    rw [Below.heap_alloc _ _ _ (by simp)]; exact heap_alloc_new w _
  have hb2 : ((w.alloc (.cells #[.bool neg, .slice A n c] 25)).alloc (.cells #[.bool false, .slice none 0 0] 34)).heap[w.heap.size + 1]? = some (.cells #[.bool false, .slice none 0 0] 34 (0, 0)) := by
    have := heap_alloc_new (w.alloc (.cells #[.bool neg, .slice A n c] 25)) (.cells #[.bool false, .slice none 0 0] 34)
    rwa [World.size_alloc] at this
  have HL := Lib.hid (h.keep0 K)
  have HK := Lib.hid K
  have HB1 := Lib.hid hb1
  have HB2 := Lib.hid hb2
  have hmx := h.max
  clear h K hb1 hb2
  go_enter Tryd.func24, Tryd.ntmps24
  go_wp2_with fail
  generalize hBx : w.heap.size = Bx at HB1 HB2 ⊢
  have HBX := Lib.hid (Nat.le_of_eq hBx)
  clear hBx
  generalize (w.alloc (.cells #[.bool neg, .slice A n c] 25)).alloc (.cells #[.bool false, .slice none 0 0] 34) = w1 at HL HK HB1 HB2 ⊢
  have HC := Lib.hid (fun (w' : World) (K' : Keep (fun _ => False) w1 w') => (show w'.cell? ⟨Bx, 1, none⟩ = some (.slice A n c) from by rw [cell_of_row w' _ _ _ _ _ (K'.heap HB1.out (by simp))]; rfl))
  go_loopw [3, 4] (fun v iv wr => ∃ (i : Nat) (bs : List Nat), i ≤ n ∧ iv = .int .i64 (i : Int) ∧ VaSt w1 l i 0 bs v wr) (fun _ iv _ => n - (intOf iv).toNat)
  case atStart => exact ⟨0, [], Nat.zero_le _, rfl, World.ownsRow_nil _ _ _ _, Low.nil _, by rw [Nat.pow_zero, Nat.mod_one]; rfl, Keep.refl _ _⟩
  case round =>
    obtain ⟨i, bs, hi, rfl, st⟩ := hrel
    have c1 := HC.out _ st.K
    by_cases hin : i < n
    · have i0 : (0 : Int) ≤ (i : Int) := by omega
      have i1 : (i : Int) < (n : Int) := by omega
      have HS := Lib.hid st
      clear st
      go_wp2_with fail
      go_loopw [3, 5] (fun v kv wi => ∃ (k : Nat) (bs : List Nat), k ≤ 32 ∧ kv = .int .i64 (k : Int) ∧ VaSt w1 l i k bs v wi) (fun _ kv _ => 32 - (intOf kv).toNat)
      case atStart => exact ⟨0, bs, Nat.zero_le _, rfl, HS.out⟩
      case round =>
        clear HS c1
        obtain ⟨k, bs2, hk, rfl, st⟩ := hrel
        have c1 := HC.out _ st.K
        obtain ⟨P, cP, rfl⟩ := bits_form st.o
        by_cases hk32 : k < 32
        · have k0 : (0 : Int) ≤ (k : Int) := by omega
          have k1 : (k : Int) < 32 := by omega
          obtain ⟨b, off, rfl, hb, hc⟩ := (HL.out.keep0 st.K).row.2 i hin
          have hx := low_cast HL.out.low i
          obtain ⟨x, hxx⟩ : ∃ x, x = l.getD i 0 := ⟨_, rfl⟩
          rw [← hxx] at hc hx
          have HXX := Lib.hid hxx
          have HS2 := Lib.hid st
          clear hxx st
          obtain ⟨i5, h5, hz0, hz1, hz2⟩ := info_parts info5
          obtain ⟨y, hy⟩ : ∃ y, y = x / 2 ^ k % 2 := ⟨_, rfl⟩
          have hbit := and_bit (x := x) k (by omega)
          rw [← hy] at hbit
          have HY := Lib.hid hy
          have KW : Keep (fun _ => False) wr (wr.alloc (.cells #[.int .u8 (y : Int)] 5)) := (Keep.refl _ _).alloc _
          have HOWN := Lib.hid (row_kept HS2.out.o KW (fun _ _ => id))
          have HNEW := Lib.hid (new_bit wr (y : Int))
          have HBS := Lib.hid (Nat.le_trans HS2.out.K.size KW.size)
          have HKW := Lib.hid KW
          have hbl := HS2.out.len
          have HBL := Lib.hid hbl
          clear KW hy hbl
          go_wp2_with (at_builtin; rw [hbit]; refine wpList_append_own _ rfl (.tmp 17) (.tmp 27) 32 rfl w1.heap.size 5 i5 (.int .u8 0) 1 1 Tryd.underlying32 h5 hz0 hz1 hz2 rfl (by decide) _ _ _ rfl HOWN.out ⟨wr.heap.size, 0, none⟩ 1 1 [.int .u8 (y : Int)] rfl rfl HNEW.out ?a1 ?a2 ?a3 HBS.out ?_)
          case a1 => intro u hu; simp at hu; subst hu; rfl
          case a2 => unfold maxLen; omega
          case a3 => omega
          intro v' w6 hown hgrow _
          have N := HS2.out.more (b := y) (by rw [HY.out, HXX.out]) HKW.out hown hgrow
          obtain ⟨P2, cP2, rfl⟩ := bits_form N.o
          have HN := Lib.hid N
          clear N hown hgrow
          go_wp2_with fail
          go_roundw
          case rel => exact ⟨k + 1, _, by omega, by go_num, HN.out⟩
          case measure => simp [intOf]; omega
        · have hkd : decide ((k : Int) < 32) = false := decide_eq_false (by omega)
          obtain rfl : k = 32 := by omega
          have HS2 := Lib.hid (st.carry HL.out.low)
          clear st
          go_wp2_with fail
          go_roundw
          case rel => exact ⟨i + 1, _, by omega, by go_num, HS2.out⟩
          case measure => simp [intOf]; omega
    · have hd : decide ((i : Int) < (n : Int)) = false := decide_eq_false (by omega)
      obtain rfl : i = n := by omega
      have hv : bval bs = lval l := by rw [st.v, Nat.pow_zero, Nat.mod_one, Nat.mul_zero, Nat.add_zero, List.take_of_length_le (by rw [HL.out.len]; omega)]
      have hsl : sgn neg (bval bs) = sval neg l := by rw [hv]; rfl
      obtain ⟨P, cP, rfl⟩ := bits_form st.o
      have c0 : wr.cell? ⟨Bx, 0, none⟩ = some (.bool neg) := by rw [cell_of_row wr _ _ _ _ _ (st.K.heap HB1.out (by simp))]; rfl
      have hx2 := st.K.heap HB2.out (by simp)
      have HS := Lib.hid st
      have HV := Lib.hid (And.intro hv hsl)
      have hlt := Nat.lt_of_lt_of_le (heap_lt HB2.out) st.K.size
      have HX2 := Lib.hid hx2
      have HBL := Lib.hid (heap_lt HB2.out)
      clear st hv hsl hx2
      go_wp2_with fail
      refine (value_any w1.heap.size neg P (32 * i + 0) cP bs wr HS.out.o HS.out.low (by omega)).mono ?_
      rintro e w9 ⟨k9, rfl, o9⟩
      rw [HV.out.2]
      rw [HV.out.1] at o9
      have hb9 := k9.heap HX2.out (by simp)
      have d0 : w9.cell? ⟨Bx + 1, 0, none⟩ = some (.bool false) := by rw [cell_of_row w9 _ _ _ _ _ hb9]; rfl
      have d1 : w9.cell? ⟨Bx + 1, 1, none⟩ = some (.slice none 0 0) := by rw [cell_of_row w9 _ _ _ _ _ hb9]; rfl
      have g0 : w9.frozen? ⟨Bx + 1, 0, none⟩ = false := by simp [World.frozen?, hb9]
      have g1 : w9.frozen? ⟨Bx + 1, 1, none⟩ = false := by simp [World.frozen?, hb9]
      obtain ⟨q, hq⟩ : ∃ q, q = decide (sval neg l < 0) := ⟨_, rfl⟩
      rw [← hq]
      have HQ := Lib.hid hq
      have HE := Lib.hid (two_cells hb9 (.bool q) (.slice P (blen bs) cP))
      have HKK := Lib.hid (two_keep (HK.out.trans (HS.out.K.trans k9)) (Nat.le_trans HBX.out (Nat.le_succ Bx)) (.bool q) (.slice P (blen bs) cP))
      have HO := Lib.hid ((two_own o9 HBL.out (.bool q) (.slice P (blen bs) cP)).mono HK.out.size)
      clear hq k9 o9 hb9
      try dsimp only
      go_wp2_with fail
      obtain ⟨e0, e1⟩ := HE.out
      refine bodyPost_ret (v := numArg q P (blen bs) cP) (by simp [results, Tryd.results24, go_sem, e0, e1]) rfl ⟨HKK.out, P, blen bs, cP, by rw [← HQ.out], ?_⟩
      rw [sval_abs]
      exact HO.out
end Go.Proofs.YtdfekphahdmffaaDoor
