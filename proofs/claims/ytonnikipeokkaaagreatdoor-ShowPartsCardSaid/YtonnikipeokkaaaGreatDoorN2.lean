/-
  Numbers, by program: texts of another seat, turned to this one.
-/
import Derived.Test.YtonnikipeokkaaaGreatDoorN1
import Derived.Shelf.Strconv.Itoa1
import Derived.Shelf.Strconv.Itoa2
import Derived.Lib.ItoaMem
import Derived.Lib.SmallJoins
import Derived.Lib.ItoaNum
import Derived.Shelf.Strings.SlTrimAscii
import Derived.Laws.IdiomStrings
import Derived.Test.YtonnikipeokkaaaGreatDoorShelf
namespace Go.Proofs.YtonnikipeokkaaaGreatDoor
open Go.RowKit Go.Sort Go.Lib
/-- The table that numDigits reads. -/
def PowTab (w : World) : Prop := Lib.TabIs Tryz.prog w "internal/strconv.uint64pow10" .u64 Lib.pow10Tab
open Go.Lib
/-- k digits of r, noughts ahead. -/
def padN : Nat → Nat → List UInt8
  | 0, _ => []
  | k + 1, r => padN k (r / 10) ++ [UInt8.ofNat (48 + r % 10)]
theorem dec_small {u : Nat} (h : u < 10) : decDigits u = [UInt8.ofNat (48 + u)] := by rw [decDigits, dif_pos h]
theorem dec_big {u : Nat} (h : ¬ u < 10) : decDigits u = decDigits (u / 10) ++ [UInt8.ofNat (48 + u % 10)] := by rw [decDigits, dif_neg h]
theorem dec_split : ∀ (k q r : Nat), 0 < q → r < 10 ^ k → decDigits (q * 10 ^ k + r) = decDigits q ++ padN k r
  | 0, q, r, _, hr => by
    obtain rfl : r = 0 := by simpa using hr
    simp [padN]
  | k + 1, q, r, hq, hr => by
    have hp : 0 < 10 ^ k := Nat.pow_pos (by omega)
    rw [Nat.pow_succ] at hr ⊢
    have e1 : q * (10 ^ k * 10) = 10 * (q * 10 ^ k) := by rw [← Nat.mul_assoc, Nat.mul_comm]
    have hge : 1 ≤ q * 10 ^ k := Nat.mul_pos hq hp
    rw [e1, dec_big (by omega)]
    rw [show (10 * (q * 10 ^ k) + r) / 10 = q * 10 ^ k + r / 10 from by omega, show (10 * (q * 10 ^ k) + r) % 10 = r % 10 from by omega, dec_split k q (r / 10) hq (by omega), padN, List.append_assoc]
theorem pad_zero : ∀ k, padN k 0 = List.replicate k 48
  | 0 => rfl
  | k + 1 => by
    rw [padN, Nat.zero_div, pad_zero k, List.replicate_succ']
    rfl
theorem dec_le : ∀ (k r : Nat), r < 10 ^ (k + 1) → (decDigits r).length ≤ k + 1
  | 0, r, h => by rw [dec_small (by simpa using h)]; simp
  | k + 1, r, h => by
    by_cases h2 : r < 10
    · rw [dec_small h2]; simp
    · rw [dec_big h2, List.length_append]
      rw [Nat.pow_succ] at h
      have := dec_le k (r / 10) (by omega)
      simpa using this
theorem pad_eq : ∀ (k r : Nat), r < 10 ^ (k + 1) → padN (k + 1) r = List.replicate (k + 1 - (decDigits r).length) 48 ++ decDigits r
  | 0, r, h => by
    have h1 : r < 10 := by simpa using h
    rw [dec_small h1]
    simp [padN, Nat.mod_eq_of_lt h1]
  | k + 1, r, h => by
    rw [padN]
    rw [Nat.pow_succ] at h
    by_cases h2 : r < 10
    · rw [show r / 10 = 0 from by omega, pad_zero, dec_small h2, Nat.mod_eq_of_lt h2]
      simp
    · have hl := dec_le k (r / 10) (by omega)
      rw [pad_eq k (r / 10) (by omega), dec_big h2, List.append_assoc, List.length_append]
      simp
/-- One round of the outer loop. -/
theorem chunk_more {v q r : Nat} (hv : v = q * 10 ^ 9 + r) (hq : 0 < q) (hr : r < 10 ^ 9) : decDigits v = decDigits q ++ (List.replicate (9 - (decDigits r).length) 48 ++ decDigits r) := by
  rw [hv, dec_split 9 q r hq hr, pad_eq 8 r hr]
/-- The chunks so far, the last first, behind what is left. -/
def TextSt (V v : Nat) (ps : List (List UInt8)) : Prop := (v = 0 ∧ ps ≠ [] ∧ decDigits V = ps.reverse.flatten) ∨ (0 < v ∧ decDigits V = decDigits v ++ ps.reverse.flatten)
theorem TextSt.more {V v q r : Nat} {ps : List (List UInt8)} (h : TextSt V v ps) (hv0 : 0 < v) (hv : v = q * 10 ^ 9 + r) (hr : r < 10 ^ 9) (hq : 0 < q) : TextSt V q (ps ++ [List.replicate (9 - (decDigits r).length) 48 ++ decDigits r]) := by
  rcases h with ⟨h0, _⟩ | ⟨_, h⟩
  · omega
  · refine .inr ⟨hq, ?_⟩
    rw [h, chunk_more hv hq hr]
    simp
theorem TextSt.last {V v r : Nat} {ps : List (List UInt8)} (h : TextSt V v ps) (hv0 : 0 < v) (hv : v = r) : TextSt V 0 (ps ++ [decDigits r]) := by
  rcases h with ⟨h0, _⟩ | ⟨_, h⟩
  · omega
  · refine .inl ⟨rfl, by simp, ?_⟩
    rw [h, hv]
    simp
/-- Division of limbs by a small number, from above, k limbs are left. -/
structure DivSt (B D k : Nat) (l m : List Nat) (c : Nat) : Prop where
  len : m.length = l.length
  low : Low B m
  same : ∀ j, j < k → m.getD j 0 = l.getD j 0
  lt : c < D
  v : val B (l.drop k) = val B (m.drop k) * D + c
theorem DivSt.start {B D : Nat} {l : List Nat} (hD : 0 < D) (h : Low B l) : DivSt B D l.length l l 0 :=
  ⟨rfl, h, fun _ _ => rfl, hD, by simp [val]⟩
theorem DivSt.done {B D : Nat} {l m : List Nat} {c : Nat} (hD : 0 < D) (h : DivSt B D 0 l m c) : val B m = val B l / D ∧ c = val B l % D := by
  have hv := h.v
  have hc := h.lt
  rw [List.drop_zero, List.drop_zero] at hv
  rw [hv, Nat.mul_comm, Nat.mul_add_div hD, Nat.div_eq_of_lt hc, Nat.mul_add_mod, Nat.mod_eq_of_lt hc]
  exact ⟨rfl, rfl⟩
open Go.RowKit Go.Sort Go.Lib
/-- A row of strings that the call has made itself. -/
def OwnS (w : World) (base : Nat) (v : Value) (ps : List (List UInt8)) : Prop := w.ownsRow base 9 1 v ps.length (ps.map encStr)
open Go.RowKit Go.Sort Go.Lib
theorem PowTab.keep {w w' : World} (h : PowTab w) (k : Keep (fun _ => False) w w') : PowTab w' :=
  Joins.tab_stays (g := (Tryz.prog.globalNamed "internal/strconv.uint64pow10").getD 0) (by kernel_rfl) h k.below0 (Nat.le_refl _)
/-- Nine digits. -/
def GG : Nat := 1000000000
/-- What is known before a round: v is left of V. -/
structure TxSt (w : World) (V v : Nat) (A : Option Addr) (n c : Nat) (pv : Value) (ps : List (List UInt8)) (wr : World) : Prop where
  m : OwnR 126 .u32 wr w.heap.size A n c (limbs v)
  p : OwnS wr w.heap.size pv ps
  K : Keep (fun _ => False) w wr
  n : n ≤ 9000
  t : (V = 0 ∧ v = 0 ∧ ps = []) ∨ TextSt V v ps
  s : v + ps.length ≤ V
  g : v * GG ^ ps.length ≤ V
  b : ps.length ≤ 10001
theorem OwnS.keep {S : Nat → Prop} {w w' : World} {base : Nat} {v : Value} {ps : List (List UInt8)} (h : OwnS w base v ps) (K : Keep S w w') (hs : ∀ b, v.ownBlock = some b → ¬ S b) : OwnS w' base v ps := by
  refine ⟨h.1, ?_⟩
  rcases h.2 with hn | ⟨g, cap, cur, hv, hg, hh, rest⟩
  · exact .inl hn
  · refine .inr ⟨g, cap, cur, hv, hg, ?_, rest⟩
    rw [K.block g (heap_lt hh) (hs g (by rw [hv]; rfl))]
    exact hh
theorem OwnS.form {w : World} {base : Nat} {pv : Value} {k : Nat} {xs : List Value} (h : w.ownsRow base 9 1 pv k xs) : ∃ P c, pv = .slice P k c := by
  rcases h.2 with ⟨hn, h0⟩ | ⟨g, cap, cur, hv, _⟩
  · exact ⟨none, 0, by rw [hn, h0]⟩
  · exact ⟨_, _, hv⟩
theorem txt_ne {w : World} {base n c : Nat} {b : Nat} {m : List Nat} {pv : Value} {ps : List (List UInt8)} (h : OwnR 126 .u32 w base (some ⟨b, 0, none⟩) n c m) (hp : OwnS w base pv ps) : pv.ownBlock ≠ some b := by
  rcases h.2 with ⟨hn, _⟩ | ⟨g, cap, cur, hv, hg, hh, _⟩
  · cases hn
  · simp only [Value.slice.injEq, Option.some.injEq, Addr.mk.injEq, and_true, true_and] at hv
    obtain ⟨rfl, rfl⟩ := hv
    rcases hp.2 with ⟨hn2, _⟩ | ⟨g2, cap2, cur2, hv2, hg2, hh2, _⟩
    · rw [hn2]; intro e; cases e
    · rw [hv2]
      intro e
      have e2 : g2 = b := by simpa [Value.ownBlock] using e
      rw [e2, hh] at hh2
      simp at hh2
theorem TxSt.next {w1 wr0 wr w5 w6 : World} {V v b n3 c3 cr : Nat} {pv pv' : Value} {ps : List (List UInt8)} {m : List Nat} {t : ByteArray} {ch : List UInt8} (H : TxSt w1 V v (some ⟨b, 0, none⟩) n3 c3 pv ps wr0) (hlen : ps.length ≤ 10000) (hv : 0 < v)
    (K1 : Keep (fun x => x = b) wr0 wr) (own : OwnR 126 .u32 wr w1.heap.size (some ⟨b, 0, none⟩) n3 c3 m) (low : Low BB m) (dv : lval m = v / GG) (dc : cr = v % GG) (K5 : Keep (fun _ => False) wr w5) (ht : t = ⟨ch.toArray⟩)
    (hch : (0 < v / GG ∧ ch = List.replicate (9 - (decDigits cr).length) 48 ++ decDigits cr) ∨ (v / GG = 0 ∧ ch = decDigits cr))
    (hown : w6.ownsRow w1.heap.size 9 1 pv' (ps.length + 1) (ps.map encStr ++ [.string t])) (hgrow : (w5.alloc (.cells #[.string t] 9)).grownBy w6 pv.ownBlock) :
    TxSt w1 V (v / GG) (some ⟨b, 0, none⟩) (tlen m) c3 pv' (ps ++ [ch]) w6 := by
  have hbb := (H.m.fresh b 0 rfl).1
  have KA : Keep (fun _ => False) w1 wr := H.K.into K1 (by rintro i rfl; exact hbb)
  have hne0 := txt_ne H.m H.p
  have hp := H.p.keep K1 (fun g hg e => hne0 (by rw [hg, e]))
  have KW : Keep (fun _ => False) wr (w5.alloc (.cells #[.string t] 9)) := K5.alloc _
  have hp2 := hp.keep KW (fun _ _ => id)
  have KG := Keep.of_grown hgrow
  have hle := tlen_le low
  rw [own.len] at hle
  have o6 : OwnR 126 .u32 w6 w1.heap.size (some ⟨b, 0, none⟩) n3 c3 m := (own.keep0 KW).keep KG (fun k off e hk => by injection e with e; injection e with e _ _; rw [← e] at hk; exact hne0 hk.symm)
  have hGG : GG = 10 ^ 9 := rfl
  have hvs : v = v / GG * 10 ^ 9 + cr := by rw [dc, ← hGG]; exact (Nat.div_add_mod' v GG).symm
  have hcr : cr < 10 ^ 9 := by rw [dc, ← hGG]; exact Nat.mod_lt _ (by unfold GG; omega)
  have hT : TextSt V v ps := by
    rcases H.t with ⟨_, h0, _⟩ | h
    · omega
    · exact h
  refine ⟨?_, ?_, ?_, Nat.le_trans hle H.n, .inr ?_, ?_, ?_, by rw [List.length_append]; simp; omega⟩
  · have := o6.take hle
    rw [take_tlen low, dv] at this
    exact this
  · show w6.ownsRow _ 9 1 pv' (ps ++ [ch]).length ((ps ++ [ch]).map encStr)
    rw [List.length_append, List.map_append]
    rw [ht] at hown
    exact hown
  · refine (KA.trans KW).into KG (fun i hi => ?_)
    rcases hp2.2 with ⟨hn, _⟩ | ⟨g, cap, cur, hv2, hg, _⟩
    · rw [hn] at hi; cases hi
    · rw [hv2] at hi
      have : i = g := by simpa [Value.ownBlock] using hi
      omega
  · rcases hch with ⟨hq, e⟩ | ⟨hq, e⟩
    · rw [e]; exact hT.more hv hvs hcr hq
    · rw [e, hq]; exact hT.last hv (by rw [hq] at hvs; omega)
  · rw [List.length_append]
    have : v / GG < v := Nat.div_lt_self hv (by unfold GG; omega)
    have := H.s
    simp
    omega
  · rw [List.length_append]
    show v / GG * GG ^ (ps.length + 1) ≤ V
    rw [Nat.pow_succ, Nat.mul_comm (GG ^ _), ← Nat.mul_assoc]
    exact Nat.le_trans (Nat.mul_le_mul_right _ (Nat.div_mul_le_self v GG)) H.g
/-- A row times ten, with a digit. -/
def decF (r : List Nat) (dig k c : Nat) : Nat := 10 * r.getD k 0 + if k = 0 then dig else c
theorem dec_inv {B : Nat} (hB : 10 ≤ B) {r : List Nat} (hr : Low B r) {dig : Nat} (hb : dig ≤ 9) : ∀ k, val B (rowL B (decF r dig) (k + 1)) + B ^ (k + 1) * rowC B (decF r dig) (k + 1) = 10 * val B (r.take (k + 1)) + dig ∧ rowC B (decF r dig) (k + 1) ≤ 9
  | 0 => by
    have x := hr.getD (by omega) 0
    refine ⟨?_, ?_⟩
    · rw [val_rowL_succ, val_take_succ]
      simp [rowL, val, decF]
    · show decF r dig 0 0 / B ≤ 9
      unfold decF
      rw [if_pos rfl]
      have := (Nat.div_lt_iff_lt_mul (by omega : 0 < B)).2 (show 10 * r.getD 0 0 + dig < 10 * B by omega)
      omega
  | k + 1 => by
    obtain ⟨h1, h2⟩ := dec_inv hB hr hb k
    have x := hr.getD (by omega) (k + 1)
    have e : decF r dig (k + 1) (rowC B (decF r dig) (k + 1)) = 10 * r.getD (k + 1) 0 + rowC B (decF r dig) (k + 1) := by
      unfold decF
      rw [if_neg (by omega)]
    refine ⟨?_, ?_⟩
    · rw [val_rowL_succ, val_take_succ, e, Nat.mul_add, Nat.mul_add, Nat.mul_left_comm]
      omega
    · show decF r dig (k + 1) (rowC B (decF r dig) (k + 1)) / B ≤ 9
      rw [e]
      have := (Nat.div_lt_iff_lt_mul (by omega : 0 < B)).2 (show 10 * r.getD (k + 1) 0 + rowC B (decF r dig) (k + 1) < 10 * B by omega)
      omega
theorem dec_val {B : Nat} (hB : 10 ≤ B) {r : List Nat} (hr : Low B r) {dig : Nat} (hb : dig ≤ 9) : val B (rowL B (decF r dig) (r.length + 1)) = 10 * val B r + dig := by
  obtain ⟨h1, _⟩ := dec_inv hB hr hb r.length
  rw [List.take_of_length_le (Nat.le_succ _)] at h1
  rcases Nat.eq_zero_or_pos (rowC B (decF r dig) (r.length + 1)) with h0 | h0
  · rw [h0] at h1; omega
  · have h3 := val_lt hr
    have : B ^ (r.length + 1) * 1 ≤ B ^ (r.length + 1) * rowC B (decF r dig) (r.length + 1) := Nat.mul_le_mul_left _ h0
    have h4 : B ^ r.length * 10 ≤ B ^ r.length * B := Nat.mul_le_mul_left _ hB
    rw [Nat.pow_succ] at this
    rw [Nat.pow_succ] at h1
    omega
theorem dec_bound2 {B : Nat} (hB : 10 ≤ B) {r : List Nat} (hr : Low B r) {dig : Nat} (hb : dig ≤ 9) (k : Nat) : decF r dig k (rowC B (decF r dig) k) < 10 * B ∧ rowC B (decF r dig) k ≤ 9 := by
  have x := hr.getD (by omega) k
  have hc : rowC B (decF r dig) k ≤ 9 := by
    cases k with
    | zero => show 0 ≤ 9; omega
    | succ k => exact (dec_inv hB hr hb k).2
  refine ⟨?_, hc⟩
  unfold decF
  unfold decF at hc
  split <;> omega
open Go.RowKit
set_option maxRecDepth 100000 in
set_option maxHeartbeats 800000 in
theorem clo66 (A : Option Addr) (n c : Nat) (r : List Nat) (dig b1 b2 i cr : Nat) (w : World) (h : LimbsAt w A n c r) (hi : i ≤ 1000000) (hd : dig ≤ 9) (hc : cr ≤ 9)
    (c1 : w.cell? ⟨b1, 0, none⟩ = some (.int .u8 ((48 + dig : Nat) : Int))) (c2 : w.cell? ⟨b2, 0, none⟩ = some (.slice A n c)) :
    Calls Tryz.prog 156 #[.int .i64 (i : Int), .int .u64 (cr : Int), .pointer (some ⟨b1, 0, none⟩), .pointer (some ⟨b2, 0, none⟩)] w (U64Post (decF r dig i cr) w) := by
  have hx := low_cast h.low i
  obtain ⟨x, hxx⟩ : ∃ x, x = r.getD i 0 := ⟨_, rfl⟩
  have E : decF r dig i cr = 10 * x + if i = 0 then dig else cr := by rw [hxx]; rfl
  have HL := Lib.hid (limb_any A n c r i w h hi)
  rw [← hxx] at hx HL
  rw [E]
  clear hxx E h
  have e8 : ((48 + dig : Nat) : Int) - 48 = (dig : Int) := by omega
  by_cases h0 : i = 0
  · subst h0
    rw [if_pos rfl]
    go_enter Tryz.func156, Tryz.ntmps156
    go_wp2_with fail
    refine HL.out.mono ?_
    rintro e w' ⟨rfl, rfl⟩
    try dsimp only
    go_wp2_with fail
    go_ret
    exact ⟨by simp; try omega, Keep.refl _ _⟩
  · rw [if_neg h0]
    have hb0 : ((i : Int) == 0) = false := by simp; omega
    go_enter Tryz.func156, Tryz.ntmps156
    go_wp2_with fail
    refine HL.out.mono ?_
    rintro e w' ⟨rfl, rfl⟩
    try dsimp only
    go_wp2_with fail
    go_ret
    exact ⟨by simp; try omega, Keep.refl _ _⟩
theorem dig_row (Bc b1 : Nat) (A : Option Addr) (n c : Nat) (r : List Nat) (dig : Nat) (w : World) (h : LimbsAt w A n c r) (hn : n ≤ 9000) (hb : w.heap[Bc]? = some (.cells #[.slice A n c] 22 (0, 0))) (hb1 : w.heap[b1]? = some (.cells #[.int .u8 ((48 + dig : Nat) : Int)] 5 (0, 0))) (hd : dig ≤ 9) :
    Calls Tryz.prog 155 #[.int .i64 ((n + 1 : Nat) : Int), .func (.func 156) #[] #[.pointer (some ⟨b1, 0, none⟩), .pointer (some ⟨Bc, 0, none⟩)]] w (OwnPost (rowL BB (decF r dig) (n + 1)) w) := by
  have hBB : 10 ≤ BB := by unfold BB; omega
  refine row66 (n + 1) b1 Bc (decF r dig) w (by omega) (fun i _ => ?_) (fun i w' hi K' => ?_)
  · have := (dec_bound2 hBB h.low hd i).1
    unfold BB at this
    unfold BB
    omega
  · exact clo66 A n c r dig b1 Bc i _ w' (h.keep0 K') (by omega) hd (dec_bound2 hBB h.low hd i).2 (by rw [cell_of_row w' _ _ _ _ _ (K'.heap hb1 (by simp))]; rfl) (by rw [cell_of_row w' _ _ _ _ _ (K'.heap hb (by simp))]; rfl)
open Go.RowKit Go.Sort Go.Lib
theorem trimDigits_any (s : ByteArray) (w : World) (hs : s.size ≤ 9223372036854775807) :
    Calls Tryz.prog 154 #[.string s, .string ⟨#[48, 49, 50, 51, 52, 53, 54, 55, 56, 57]⟩] w fun e w' => e = .returned (.string ⟨(Lib.trimS s.data.toList [48, 49, 50, 51, 52, 53, 54, 55, 56, 57]).toArray⟩) ∧ Keep (fun _ => False) w w' := by
  refine (Any.strings_Trim_laid Tryz.lays160 (by kernel_rfl) s ⟨#[48, 49, 50, 51, 52, 53, 54, 55, 56, 57]⟩ w hs (by decide) (ascii_of_all (by decide))).mono ?_
  rintro e w' ⟨rfl, hb⟩
  exact ⟨rfl, Keep.of_below hb⟩
open Go.Lib
theorem drop_nil {p : UInt8 → Bool} : ∀ l : List UInt8, l.dropWhile p = [] ↔ ∀ x ∈ l, p x = true
  | [] => by simp
  | x :: l => by
    by_cases h : p x = true
    · simp [h, drop_nil l]
    · simp [h]
theorem drop_head {p : UInt8 → Bool} : ∀ (l : List UInt8) (x : UInt8) (xs : List UInt8), l.dropWhile p = x :: xs → p x = false
  | [], _, _, h => by simp at h
  | y :: l, x, xs, h => by
    by_cases hy : p y = true
    · rw [List.dropWhile_cons, if_pos hy] at h
      exact drop_head l x xs h
    · rw [List.dropWhile_cons, if_neg hy] at h
      injection h with h1 _
      rw [← h1]
      simpa using hy
theorem trim_nil (l cs : List UInt8) : Lib.trimS l cs = [] ↔ ∀ x ∈ l, cs.contains x = true := by
  unfold Lib.trimS Lib.trimLeftS Lib.trimRightS
  rw [drop_nil]
  constructor
  · intro h
    cases hd : l.reverse.dropWhile (cs.contains ·) with
    | nil =>
      have := (drop_nil _).1 hd
      intro x hx
      exact this x (by simpa using hx)
    | cons x xs =>
      have h1 := drop_head _ _ _ hd
      rw [hd] at h
      have := h x (by simp)
      rw [this] at h1
      cases h1
  · intro h x hx
    have hx2 : x ∈ l.reverse.dropWhile (cs.contains ·) := by simpa using hx
    exact h x (by simpa using (List.dropWhile_sublist (cs.contains ·)).mem hx2)
/-- The value of decimal digits, the first the greatest. -/
def decVal (l : List UInt8) : Nat := l.foldl (fun n b => 10 * n + (b.toNat - 48)) 0
theorem decVal_snoc (l : List UInt8) (b : UInt8) : decVal (l ++ [b]) = 10 * decVal l + (b.toNat - 48) := by
  unfold decVal; simp
/-- Is a byte a digit? -/
def digB (b : UInt8) : Bool := [48, 49, 50, 51, 52, 53, 54, 55, 56, 57].contains b
theorem digB_iff (b : UInt8) : digB b = true ↔ 48 ≤ b.toNat ∧ b.toNat ≤ 57 := by
  revert b
  have H : ∀ i : Fin 256, digB (UInt8.ofNat i.val) = true ↔ 48 ≤ i.val ∧ i.val ≤ 57 := by decide +kernel
  intro b
  have := H ⟨b.toNat, b.toNat_lt⟩
  simpa using this
theorem trim_digits (l : List UInt8) : Lib.trimS l [48, 49, 50, 51, 52, 53, 54, 55, 56, 57] = [] ↔ l.all digB = true := by
  rw [trim_nil, List.all_eq_true]
  rfl
theorem decVal_take_succ (l : List UInt8) (k : Nat) (h : k < l.length) : decVal (l.take (k + 1)) = 10 * decVal (l.take k) + (l[k].toNat - 48) := by
  rw [List.take_succ_eq_append_getElem h, decVal_snoc]
theorem decVal_take_le (l : List UInt8) : ∀ k j, decVal (l.take k) ≤ decVal (l.take (k + j))
  | _, 0 => Nat.le_refl _
  | k, j + 1 => by
    have h := decVal_take_le l k j
    by_cases hl : k + j < l.length
    · have := decVal_take_succ l (k + j) hl
      show _ ≤ decVal (l.take (k + j + 1))
      omega
    · rw [List.take_of_length_le (by omega : l.length ≤ k + j)] at h
      show _ ≤ decVal (l.take (k + j + 1))
      rw [List.take_of_length_le (by omega : l.length ≤ k + j + 1)]
      exact h
theorem decVal_pre (l : List UInt8) (k : Nat) : decVal (l.take k) ≤ decVal l := by
  have h := decVal_take_le l k l.length
  rwa [List.take_of_length_le (by omega : l.length ≤ k + l.length)] at h
/-- Has a text a sign? -/
def signB (l : List UInt8) : Bool := Lib.hasPrefix l [45] || Lib.hasPrefix l [43]
/-- What is behind the sign. -/
def body (l : List UInt8) : List UInt8 := if signB l then l.drop 1 else l
/-- The number that a text means. -/
def parseV (l : List UInt8) : Option Int :=
  if body l = [] ∨ (body l).all digB = false then none
  else some (if Lib.hasPrefix l [45] then -(decVal (body l) : Int) else (decVal (body l) : Int))
theorem sval_dec (neg : Bool) (n : Nat) : sval neg (limbs n) = if neg then -(n : Int) else (n : Int) := by
  unfold sval
  rw [show lval (limbs n) = n from val_digs BB2 n]
theorem fits_grow {l : List UInt8} {k : Nat} {neg : Bool} (h : 48 < (limbs (decVal (l.take k))).length) : ¬ Fits (if neg then -(decVal l : Int) else (decVal l : Int)) := by
  intro f
  rw [Fits_iff] at f
  have e : (if neg = true then -(decVal l : Int) else (decVal l : Int)).natAbs = decVal l := by cases neg <;> simp
  rw [e] at f
  have := decVal_pre l k
  exact absurd ((digs_len_le BB2 (decVal (l.take k)) 48).2 (Nat.lt_of_le_of_lt this f)) (Nat.not_le.2 h)
open Go.RowKit Go.Sort Go.Lib
def ParsePost (l : List UInt8) (w : World) (e : Ending) (w' : World) : Prop :=
  match parseV l with
  | none => e = .returned (.tuple #[numArg false none 0 0, .int .i64 9]) ∧ Keep (fun _ => False) w w'
  | some x => ResPost x w e w'
theorem prefix_drop {s : ByteArray} {b : UInt8} (h : Lib.hasPrefix s.data.toList [b] = true) : (1 : Int) ≤ (s.size : Int) ∧ (s.extract 1 s.size).data.toList = s.data.toList.drop 1 := by
  have h1 : 1 ≤ s.data.toList.length := by
    cases hl : s.data.toList with
    | nil => rw [hl] at h; cases h
    | cons _ _ => simp
  have h2 : s.data.toList.length = s.size := (Lib.size_eq s).symm
  refine ⟨by omega, ?_⟩
  rw [Lib.extract_data, ← h2, ← List.length_drop, List.take_length]
/-- What is known before a round of Parse. -/
structure PrSt (w : World) (Bx Bm bb : Nat) (bv : Obj) (l : List UInt8) (k : Nat) (A : Option Addr) (n c : Nat) (wr : World) : Prop where
  x : wr.heap[Bx]? = some (.cells #[.bool false, .slice none 0 0] 24 (0, 0))
  m : wr.heap[Bm]? = some (.cells #[.slice A n c] 22 (0, 0))
  b : wr.heap[bb]? = some bv
  own : OwnR 126 .u32 wr (Bm + 1) A n c (limbs (decVal (l.take k)))
  n : n ≤ 48
  K : Keep (fun _ => False) w wr
  xm : Bx ≠ Bm
  bm : bb ≠ Bm
  wm : w.heap.size ≤ Bm
theorem PrSt.next {w wr w4 : World} {Bx Bm bb : Nat} {bv : Obj} {l : List UInt8} {k n c : Nat} {A : Option Addr} (H : PrSt w Bx Bm bb bv l k A n c wr) {u : Value} (hk : k < l.length) (hd : digB l[k] = true)
    {A' : Option Addr} {c' : Nat} (own : OwnR 126 .u32 w4 (wr.alloc (.cells #[u] 5)).heap.size A' (n + 1) c' (rowL BB (decF (limbs (decVal (l.take k))) (l[k].toNat - 48)) (n + 1))) (k4 : Keep (fun _ => False) (wr.alloc (.cells #[u] 5)) w4)
    (t : Nat) (ht : t = tlen (rowL BB (decF (limbs (decVal (l.take k))) (l[k].toNat - 48)) (n + 1))) :
    t = (limbs (decVal (l.take (k + 1)))).length ∧ (t ≤ 48 → PrSt w Bx Bm bb bv l (k + 1) A' t c' (w4.setCell ⟨Bm, 0, none⟩ (.slice A' t c'))) := by
  have hn : n = (limbs (decVal (l.take k))).length := H.own.len.symm
  have hdg := (digB_iff _).1 hd
  have hBB : 10 ≤ BB := by unfold BB; omega
  have low : Low BB (limbs (decVal (l.take k))) := digs_low BB2 _
  have E : lval (rowL BB (decF (limbs (decVal (l.take k))) (l[k].toNat - 48)) (n + 1)) = decVal (l.take (k + 1)) := by
    rw [hn, decVal_take_succ l k hk]
    have := dec_val hBB low (dig := l[k].toNat - 48) (by omega)
    rw [show val BB (limbs (decVal (l.take k))) = decVal (l.take k) from val_digs BB2 _] at this
    exact this
  have low2 : Low BB (rowL BB (decF (limbs (decVal (l.take k))) (l[k].toNat - 48)) (n + 1)) := rowL_low (by omega) _ _
  have e1 : t = (limbs (decVal (l.take (k + 1)))).length := by rw [ht, ← E]; rfl
  refine ⟨e1, fun ht48 => ?_⟩
  have tl := tlen_le low2
  rw [own.len] at tl
  have KA : Keep (fun _ => False) wr w4 := ((Keep.refl _ _).alloc _).trans k4
  have hx4 := KA.heap H.x (by simp)
  have hm4 := KA.heap H.m (by simp)
  have hb4 := KA.heap H.b (by simp)
  have KS : Keep (fun x => x = Bm) w4 (w4.setCell ⟨Bm, 0, none⟩ (.slice A' t c')) := setCell_keep (S := fun x => x = Bm) rfl 0 _
  have hsz := heap_lt H.m
  have htl : t ≤ n + 1 := by rw [ht]; exact tl
  have o2 := own.take htl
  rw [show List.take t (rowL BB (decF (limbs (decVal (l.take k))) (l[k].toNat - 48)) (n + 1)) = limbs (decVal (l.take (k + 1))) from by rw [ht, take_tlen low2, E]] at o2
  refine ⟨KS.heap hx4 H.xm, ?_, KS.heap hb4 H.bm, ?_, ht48, (H.K.trans KA).into KS (by rintro i rfl; exact H.wm), H.xm, H.bm, H.wm⟩
  · simp [World.setCell, Array.getElem?_modify, hm4]
  · refine (OwnR.mono o2 (base' := Bm + 1) (by simp; omega)).keep KS (fun b off e hb => ?_)
    have := (o2.fresh b off e).1
    simp at this
    omega
/-- Before the first round. -/
theorem PrSt.start {w W w3 : World} {Bx Bm bb : Nat} {C : Array Value} {fr : Nat × Nat} {l : List UInt8} (hx : W.heap[Bx]? = some (.cells #[.bool false, .slice none 0 0] 24 (0, 0))) (hm : W.heap[Bm]? = some (.cells #[.slice none 0 0] 22 (0, 0))) (K : Keep (fun _ => False) w W) (hxm : Bx ≠ Bm) (hwm : w.heap.size ≤ Bm) (hbb : bb = W.heap.size)
    (e : w3 = W.drew.alloc (.cells C 5 fr)) : PrSt w Bx Bm bb (.cells C 5 fr) l 0 none 0 0 w3 := by
  have k : Keep (fun _ => False) W w3 := by rw [e]; exact (Keep.refl _ _).drew.alloc _
  have hb3 : w3.heap[bb]? = some (.cells C 5 fr) := by
    rw [e, hbb]
    show (W.heap.push (.cells C 5 fr))[W.heap.size]? = _
    simp
  refine ⟨k.heap hx (by simp), k.heap hm (by simp), hb3, ?_, by omega, K.trans k, hxm, ?_, hwm⟩
  · rw [List.take_zero]
    show OwnR 126 .u32 w3 _ none 0 0 (limbs 0)
    unfold limbs
    rw [digs_zero]
    exact OwnR.nil _ _ _ _
  · have := heap_lt hm; omega
theorem PrSt.byte {w wr : World} {Bx Bm bb : Nat} {d : ByteArray} {cap : Nat} {fr : Nat × Nat} {l : List UInt8} {k n c : Nat} {A : Option Addr} (H : PrSt w Bx Bm bb (.cells (bytesRow d cap) 5 fr) l k A n c wr) (hd : d.data.toList = l) (hk : k < l.length) : wr.cell? ⟨bb, k, none⟩ = some (.int .u8 (l[k].toNat : Int)) := by
  subst hd
  have hk2 : k < d.data.size := by simpa using hk
  unfold World.cell?
  rw [H.b]
  have := bytesRow_at d cap k hk2
  simp only [this]
  simp
set_option maxRecDepth 100000 in
set_option maxHeartbeats 4000000 in
theorem parse_neg (s : ByteArray) (w : World) (hs : s.size ≤ 1000000) (hneg : Lib.hasPrefix s.data.toList [45] = true) : Calls Tryz.prog 129 #[.string s] w (ParsePost s.data.toList w) := by
  have K : Keep (fun _ => False) w (w.alloc (.cells #[.bool false, .slice none 0 0] 24)) := (Keep.refl _ _).alloc _
  have hb : (w.alloc (.cells #[.bool false, .slice none 0 0] 24)).heap[w.heap.size]? = some (.cells #[.bool false, .slice none 0 0] 24 (0, 0)) := heap_alloc_new w _
  have HK := Lib.hid K
  have HB := Lib.hid hb
  obtain ⟨h1, h2⟩ := prefix_drop hneg
  have hbody : body s.data.toList = s.data.toList.drop 1 := by unfold body signB; rw [hneg]; rfl
  rw [← hbody] at h2
  have HN := Lib.hid hneg
  
  have H2 := Lib.hid h2
  have hsz : (body s.data.toList).length ≤ 1000000 := by
    unfold body
    have := Lib.size_eq s
    split
    · rw [List.length_drop]; omega
    · omega
  have HSZ := Lib.hid (show ((s.extract 1 s.size)).size ≤ 9223372036854775807 from by rw [Lib.size_eq, h2]; omega)
  clear K hb hbody h2 hneg
  by_cases hE : body s.data.toList = []
  · have hP : parseV s.data.toList = none := by unfold parseV; rw [if_pos (.inl hE)]
    have he : (s.extract 1 s.size).toList.isEmpty = true := by rw [Lib.toList_data, H2.out, hE]; rfl
    have HPV := Lib.hid hP
    clear hE hP hsz
    go_enter Tryz.func129, Tryz.ntmps129
    go_wp2_with fail
    refine (Tryz.strings_HasPrefix s ⟨#[45]⟩ _).mono ?_
    rintro e w1 ⟨rfl, rfl⟩
    rw [show Lib.hasPrefix s.data.toList (⟨#[45]⟩ : ByteArray).data.toList = true from HN.out]
    try dsimp only
    go_wp2_with fail
    have KE : Keep (fun _ => False) w (w.alloc (.cells #[.bool false, .slice none 0 0] 24)) := HK.out
    refine bodyPost_ret (v := .tuple #[numArg false none 0 0, .int .i64 9]) ?_ rfl ?_
    · simp [results, Tryz.results129, go_sem]
    · unfold ParsePost
      rw [HPV.out]
      exact ⟨rfl, KE⟩
  have he : (s.extract 1 s.size).toList.isEmpty = false := by
    rw [Lib.toList_data, H2.out]
    cases h : body s.data.toList with
    | nil => exact absurd h hE
    | cons _ _ => rfl
  by_cases hA : (body s.data.toList).all digB = true
  · have hP : parseV s.data.toList = some (if true = true then -(decVal (body s.data.toList) : Int) else (decVal (body s.data.toList) : Int)) := by
      unfold parseV
      rw [if_neg (by simp [hE, hA]), HN.out]
    have HPV := Lib.hid hP
    have HA := Lib.hid hA
    clear hE hP hA
    go_enter Tryz.func129, Tryz.ntmps129
    go_wp2_with fail
    refine (Tryz.strings_HasPrefix s ⟨#[45]⟩ _).mono ?_
    rintro e w1 ⟨rfl, rfl⟩
    rw [show Lib.hasPrefix s.data.toList (⟨#[45]⟩ : ByteArray).data.toList = true from HN.out]
    try dsimp only
    go_wp2_with fail
    refine (trimDigits_any (s.extract 1 s.size) _ HSZ.out).mono ?_
    rintro e w2 ⟨rfl, k2⟩
    obtain ⟨t, ht⟩ : ∃ t : ByteArray, t = ⟨(Lib.trimS (s.extract 1 s.size).data.toList [48, 49, 50, 51, 52, 53, 54, 55, 56, 57]).toArray⟩ := ⟨_, rfl⟩
    rw [← ht]
    have hte : t.toList.isEmpty = true := by
      rw [Lib.toList_data, ht]
      show (Lib.trimS (s.extract 1 s.size).data.toList [48, 49, 50, 51, 52, 53, 54, 55, 56, 57]).isEmpty = true
      rw [H2.out]
      rw [(trim_digits _).2 HA.out]; rfl
    have K2 := HK.out.trans k2
    have hb2 := k2.heap HB.out (by simp)
    clear ht
    try dsimp only
    generalize hBx : w.heap.size = Bx at hb2 ⊢
    have HBX := Lib.hid (Nat.le_of_eq hBx)
    have HB2 := Lib.hid hb2
    clear hBx hb2 k2
    have HLT := Lib.hid (heap_lt HB2.out)
    go_wp2_with fail
    have KW : Keep (fun _ => False) w (w2.alloc (.cells #[.slice none 0 0] 22)) := K2.alloc _
    have hm : (w2.alloc (.cells #[.slice none 0 0] 22)).heap[w2.heap.size]? = some (.cells #[.slice none 0 0] 22 (0, 0)) := heap_alloc_new w2 _
    have hx : (w2.alloc (.cells #[.slice none 0 0] 22)).heap[Bx]? = some (.cells #[.bool false, .slice none 0 0] 24 (0, 0)) := by
      rw [Below.heap_alloc _ _ _ HLT.out]; exact HB2.out
    have hxm : Bx ≠ w2.heap.size := by have := HLT.out; omega
    have hwm : w.heap.size ≤ w2.heap.size := K2.size
    generalize w2.heap.size = Bm at hm hxm hwm ⊢
    generalize w2.alloc (.cells #[.slice none 0 0] 22) = W at KW hm hx ⊢
    have hconv := run_bytes_of_string (P := Tryz.prog) W 9 70 5 (s.extract 1 s.size) rfl rfl rfl
    have hds : ((s.extract 1 s.size)).size = (body s.data.toList).length := (Lib.size_eq _).trans (congrArg List.length H2.out)
    have HST := Lib.hid (fun (w3 : World) (bb : Nat) (C : Array Value) (fr : Nat × Nat) (hbb : bb = W.heap.size) (e : w3 = W.drew.alloc (.cells C 5 fr)) => PrSt.start (l := body s.data.toList) hx hm KW hxm hwm hbb e)
    clear HB HK HB2 K2 KW hm hx hxm hwm HLT
    generalize hcap : grownCap W ((s.extract 1 s.size)).size 0 5 = cap at hconv
    clear hcap
    generalize hC : bytesRow (s.extract 1 s.size) cap = C at hconv
    generalize hfr : (C.size, C.size + 1) = fr at hconv
    clear hfr
    generalize hw3 : W.drew.alloc (.cells C 5 fr) = w3 at hconv
    generalize hbb : W.heap.size = bb at hconv
    have hst := HST.out w3 bb C fr hbb.symm hw3.symm
    have hbyte := fun (k n c : Nat) (A : Option Addr) (wr : World) (H : PrSt w Bx Bm bb (.cells C 5 fr) (body s.data.toList) k A n c wr) (hk : k < (body s.data.toList).length) => PrSt.byte (d := (s.extract 1 s.size)) (cap := cap) (by rw [hC]; exact H) H2.out hk
    rw [hds] at hconv
    clear HST hw3 hbb hC hds
    have HBY := Lib.hid hbyte
    have HST := Lib.hid hst
    clear hbyte hst
    generalize hl : body s.data.toList = l at *
    clear hl
    rw [hconv]
    try dsimp only
    go_wp2_with fail
    clear hconv he hte h1
    go_loopw [30] (fun iv wr => ∃ (k : Nat) (A : Option Addr) (n c : Nat), k ≤ l.length ∧ iv = .int .i64 (k : Int) ∧ PrSt w Bx Bm bb (.cells C 5 fr) l k A n c wr) (fun iv _ => l.length - (RowKit.intOf iv).toNat)
    case atStart => exact ⟨0, _, _, _, Nat.zero_le _, rfl, HST.out⟩
    case round =>
      clear HST
      obtain ⟨k, A, n, c, hk, rfl, st⟩ := hrel
      have HS := Lib.hid st
      have cm : wr.cell? ⟨Bm, 0, none⟩ = some (.slice A n c) := by rw [cell_of_row wr _ _ _ _ _ st.m]; rfl
      have hBm := heap_lt st.m
      have hn := st.n
      clear st
      by_cases hkl : k < l.length
      · have i0 : (0 : Int) ≤ (k : Int) := by omega
        have i1 : (k : Int) < (l.length : Int) := by omega
        have hby := HBY.out k n c A wr HS.out hkl
        have hdg := List.all_eq_true.1 HA.out _ (List.getElem_mem hkl)
        have HD := Lib.hid hdg
        have hdg2 := (digB_iff _).1 hdg
        have e48 : (l[k].toNat : Int) = ((48 + (l[k].toNat - 48) : Nat) : Int) := by omega
        have HDG := Lib.hid (And.intro hdg2 e48)
        rw [e48] at hby
        obtain ⟨dg, hdge⟩ : ∃ x, x = l[k].toNat - 48 := ⟨_, rfl⟩
        have HDGE := Lib.hid hdge
        rw [← hdge] at hby
        clear hdg hdg2 e48 hdge
        have HR := Lib.hid (show Calls Tryz.prog 155 #[.int .i64 ((n : Int) + 1), .func (.func 156) #[] #[.pointer (some ⟨wr.heap.size, 0, none⟩), .pointer (some ⟨Bm, 0, none⟩)]] (wr.alloc (.cells #[.int .u8 (48 + (dg : Int))] 5)) (OwnPost (rowL BB (decF (limbs (decVal (l.take k))) dg) (n + 1)) (wr.alloc (.cells #[.int .u8 (48 + (dg : Int))] 5))) from
          dig_row Bm wr.heap.size A n c (limbs (decVal (l.take k))) dg _ ((HS.out.own.toLimbs (digs_low BB2 _) (by omega)).keep0 ((Keep.refl _ _).alloc _)) (by omega) (by rw [Below.heap_alloc _ _ _ hBm]; exact HS.out.m) (heap_alloc_new wr _) (by have := HDG.out.1; have := HDGE.out; omega))
        go_wp2_with fail
        refine HR.out.mono ?_
        rintro e w4 ⟨A2, n2, c2, rfl, own, k4⟩
        obtain rfl : n2 = n + 1 := by have := own.len; rw [rowL_len] at this; exact this.symm
        have low2 : Low BB (rowL BB (decF (limbs (decVal (l.take k))) dg) (n + 1)) := rowL_low (by unfold BB; omega) _ _
        have hL := own.toLimbs low2 (by omega)
        obtain ⟨t5, ht⟩ : ∃ x, x = tlen (rowL BB (decF (limbs (decVal (l.take k))) dg) (n + 1)) := ⟨_, rfl⟩
        have hNX := HS.out.next (u := .int .u8 (48 + (dg : Int))) hkl HD.out (A' := A2) (c' := c2) (w4 := w4) (by rw [← HDGE.out]; exact own) k4 t5 (by rw [← HDGE.out]; exact ht)
        have KA : Keep (fun _ => False) wr w4 := ((Keep.refl _ _).alloc _).trans k4
        have hm4 := KA.heap HS.out.m (by simp)
        have hx4 := KA.heap HS.out.x (by simp)
        have q0 : w4.cell? ⟨Bm, 0, none⟩ = some (.slice A n c) := by rw [cell_of_row w4 _ _ _ _ _ hm4]; rfl
        have q1 : w4.frozen? ⟨Bm, 0, none⟩ = false := by simp [World.frozen?, hm4]
        have HT := Lib.hid ht
        have HNX := Lib.hid hNX
        have HX4 := Lib.hid hx4
        have HKA := Lib.hid (HS.out.K.trans KA)
        clear HR own k4 low2 hNX KA hm4 hx4 cm hBm
        try dsimp only
        go_wp2_with fail
        refine (trim_any A2 (n + 1) c2 _ w4 hL).mono ?_
        rintro e wx ⟨rfl, rfl⟩
        rw [← HT.out]
        clear hL ht
        have hxm := HS.out.xm
        have hmx : Bm ≠ Bx := fun e => hxm e.symm
        by_cases hbig : 48 < t5
        · have hbi : (48 : Int) < (t5 : Int) := by omega
          have hnf := fits_grow (neg := true) (l := l) (k := k + 1) (by rw [← HNX.out.1]; exact hbig)
          have HNF := Lib.hid hnf
          have s0 : w4.cell? ⟨Bx, 0, none⟩ = some (.bool false) := by rw [cell_of_row w4 _ _ _ _ _ HX4.out]; rfl
          have s1 : w4.cell? ⟨Bx, 1, none⟩ = some (.slice none 0 0) := by rw [cell_of_row w4 _ _ _ _ _ HX4.out]; rfl
          have s2 : w4.frozen? ⟨Bx, 0, none⟩ = false := by simp [World.frozen?, HX4.out]
          have s3 : w4.frozen? ⟨Bx, 1, none⟩ = false := by simp [World.frozen?, HX4.out]
          have KS : Keep (fun x => x = Bm) w4 (w4.setCell ⟨Bm, 0, none⟩ (.slice A2 t5 c2)) := setCell_keep (S := fun x => x = Bm) rfl 0 _
          have HE2 := Lib.hid (two_cells (KS.heap HX4.out hxm) (.bool false) (.slice none 0 0))
          have HKE := Lib.hid (two_keep (HKA.out.into KS (by rintro i rfl; exact HS.out.wm)) HBX.out (.bool false) (.slice none 0 0))
          clear hbig hnf KS
          try dsimp only
          go_wp2_with fail
          obtain ⟨e0, e1⟩ := HE2.out
          refine bodyPost_ret (v := .tuple #[numArg false none 0 0, .int .i64 6]) ?_ rfl ?_
          · simp [results, Tryz.results129, go_sem, e0, e1]
          · unfold ParsePost
            rw [HPV.out]
            exact ⟨HKE.out, .inl ⟨HNF.out, rfl⟩⟩
        · have hbi : decide ((48 : Int) < (t5 : Int)) = false := decide_eq_false (by omega)
          have HN5 := Lib.hid (HNX.out.2 (by omega))
          try dsimp only
          go_wp2_with fail
          go_roundw
          case rel => exact ⟨k + 1, _, _, _, by omega, by go_num, HN5.out⟩
          case measure => simp [RowKit.intOf]; omega
      · have hd : decide ((k : Int) < (l.length : Int)) = false := decide_eq_false (by omega)
        have ek : k = l.length := by omega
        have hE : sval true (limbs (decVal (l.take k))) = (if true = true then -(decVal l : Int) else (decVal l : Int)) := by rw [sval_dec, ek, List.take_length]
        have HEQ := Lib.hid hE
        have hLm := HS.out.own.toLimbs (digs_low BB2 _) (by omega)
        have HR := Lib.hid (fun (e : Ending) (w2 : World) => res_two (x := sval true (limbs (decVal (l.take k)))) (e := e) (w2 := w2) HS.out.K HBX.out (heap_lt HS.out.x) HS.out.x)
        clear hE ek
        go_wp2_with fail
        refine (made_any true A n c _ _ hLm).mono ?_
        intro e w9 hres
        obtain ⟨ng, A9, n9, c9, f9, rfl, c0, c1, f0, f1, e0, e1, P⟩ := HR.out _ _ hres
        rw [HEQ.out] at P
        have HP9 := Lib.hid P
        have HEE := Lib.hid (And.intro e0 e1)
        clear hres P hLm e0 e1
        try dsimp only
        go_wp2_with fail
        refine bodyPost_ret (v := .tuple #[numArg ng A9 n9 c9, .int .i64 f9]) ?_ rfl (by unfold ParsePost; rw [HPV.out]; exact HP9.out)
        obtain ⟨e0, e1⟩ := HEE.out
        simp [results, Tryz.results129, go_sem, e0, e1]
  · have hP : parseV s.data.toList = none := by
      unfold parseV
      rw [if_pos (.inr (by simpa using hA))]
    have HPV := Lib.hid hP
    have HA := Lib.hid hA
    clear hE hP hA hsz
    go_enter Tryz.func129, Tryz.ntmps129
    go_wp2_with fail
    refine (Tryz.strings_HasPrefix s ⟨#[45]⟩ _).mono ?_
    rintro e w1 ⟨rfl, rfl⟩
    rw [show Lib.hasPrefix s.data.toList (⟨#[45]⟩ : ByteArray).data.toList = true from HN.out]
    try dsimp only
    go_wp2_with fail
    refine (trimDigits_any (s.extract 1 s.size) _ HSZ.out).mono ?_
    rintro e w2 ⟨rfl, k2⟩
    obtain ⟨t, ht⟩ : ∃ t : ByteArray, t = ⟨(Lib.trimS (s.extract 1 s.size).data.toList [48, 49, 50, 51, 52, 53, 54, 55, 56, 57]).toArray⟩ := ⟨_, rfl⟩
    rw [← ht]
    have hte : t.toList.isEmpty = false := by
      rw [Lib.toList_data, ht]
      show (Lib.trimS (s.extract 1 s.size).data.toList [48, 49, 50, 51, 52, 53, 54, 55, 56, 57]).isEmpty = false
      rw [H2.out]
      cases h : Lib.trimS (body s.data.toList) [48, 49, 50, 51, 52, 53, 54, 55, 56, 57] with
      | nil => exact absurd ((trim_digits _).1 h) HA.out
      | cons _ _ => rfl
    have K2 := HK.out.trans k2
    have hb2 := k2.heap HB.out (by simp)
    clear ht
    try dsimp only
    have r0 : w2.cell? ⟨w.heap.size, 0, none⟩ = some (.bool false) := by rw [cell_of_row w2 _ _ _ _ _ hb2]; rfl
    have r1 : w2.cell? ⟨w.heap.size, 1, none⟩ = some (.slice none 0 0) := by rw [cell_of_row w2 _ _ _ _ _ hb2]; rfl
    have f0 : w2.frozen? ⟨w.heap.size, 0, none⟩ = false := by simp [World.frozen?, hb2]
    have f1 : w2.frozen? ⟨w.heap.size, 1, none⟩ = false := by simp [World.frozen?, hb2]
    have HE2 := Lib.hid (two_cells hb2 (.bool false) (.slice none 0 0))
    have HKE := Lib.hid (two_keep K2 (Nat.le_refl w.heap.size) (.bool false) (.slice none 0 0))
    clear K2 k2 hb2
    go_wp2_with fail
    obtain ⟨e0, e1⟩ := HE2.out
    refine bodyPost_ret (v := .tuple #[numArg false none 0 0, .int .i64 9]) ?_ rfl ?_
    · simp [results, Tryz.results129, go_sem, e0, e1]
    · unfold ParsePost
      rw [HPV.out]
      exact ⟨rfl, HKE.out⟩
set_option maxRecDepth 100000 in
set_option maxHeartbeats 4000000 in
theorem parse_plus (s : ByteArray) (w : World) (hs : s.size ≤ 1000000) (hneg : Lib.hasPrefix s.data.toList [45] = false) (hplus : Lib.hasPrefix s.data.toList [43] = true) : Calls Tryz.prog 129 #[.string s] w (ParsePost s.data.toList w) := by
  have K : Keep (fun _ => False) w (w.alloc (.cells #[.bool false, .slice none 0 0] 24)) := (Keep.refl _ _).alloc _
  have hb : (w.alloc (.cells #[.bool false, .slice none 0 0] 24)).heap[w.heap.size]? = some (.cells #[.bool false, .slice none 0 0] 24 (0, 0)) := heap_alloc_new w _
  have HK := Lib.hid K
  have HB := Lib.hid hb
  obtain ⟨h1, h2⟩ := prefix_drop hplus
  have hbody : body s.data.toList = s.data.toList.drop 1 := by unfold body signB; rw [hneg, hplus]; rfl
  rw [← hbody] at h2
  have HN := Lib.hid hneg
  have HP := Lib.hid hplus
  have H2 := Lib.hid h2
  have hsz : (body s.data.toList).length ≤ 1000000 := by
    unfold body
    have := Lib.size_eq s
    split
    · rw [List.length_drop]; omega
    · omega
  have HSZ := Lib.hid (show ((s.extract 1 s.size)).size ≤ 9223372036854775807 from by rw [Lib.size_eq, h2]; omega)
  clear K hb hbody h2 hneg hplus
  by_cases hE : body s.data.toList = []
  · have hP : parseV s.data.toList = none := by unfold parseV; rw [if_pos (.inl hE)]
    have he : (s.extract 1 s.size).toList.isEmpty = true := by rw [Lib.toList_data, H2.out, hE]; rfl
    have HPV := Lib.hid hP
    clear hE hP hsz
    go_enter Tryz.func129, Tryz.ntmps129
    go_wp2_with fail
    refine (Tryz.strings_HasPrefix s ⟨#[45]⟩ _).mono ?_
    rintro e w1 ⟨rfl, rfl⟩
    rw [show Lib.hasPrefix s.data.toList (⟨#[45]⟩ : ByteArray).data.toList = false from HN.out]
    try dsimp only
    go_wp2_with fail
    refine (Tryz.strings_HasPrefix s ⟨#[43]⟩ _).mono ?_
    rintro e w1 ⟨rfl, rfl⟩
    rw [show Lib.hasPrefix s.data.toList (⟨#[43]⟩ : ByteArray).data.toList = true from HP.out]
    try dsimp only
    go_wp2_with fail
    have KE : Keep (fun _ => False) w (w.alloc (.cells #[.bool false, .slice none 0 0] 24)) := HK.out
    refine bodyPost_ret (v := .tuple #[numArg false none 0 0, .int .i64 9]) ?_ rfl ?_
    · simp [results, Tryz.results129, go_sem]
    · unfold ParsePost
      rw [HPV.out]
      exact ⟨rfl, KE⟩
  have he : (s.extract 1 s.size).toList.isEmpty = false := by
    rw [Lib.toList_data, H2.out]
    cases h : body s.data.toList with
    | nil => exact absurd h hE
    | cons _ _ => rfl
  by_cases hA : (body s.data.toList).all digB = true
  · have hP : parseV s.data.toList = some (if false = true then -(decVal (body s.data.toList) : Int) else (decVal (body s.data.toList) : Int)) := by
      unfold parseV
      rw [if_neg (by simp [hE, hA]), HN.out]
    have HPV := Lib.hid hP
    have HA := Lib.hid hA
    clear hE hP hA
    go_enter Tryz.func129, Tryz.ntmps129
    go_wp2_with fail
    refine (Tryz.strings_HasPrefix s ⟨#[45]⟩ _).mono ?_
    rintro e w1 ⟨rfl, rfl⟩
    rw [show Lib.hasPrefix s.data.toList (⟨#[45]⟩ : ByteArray).data.toList = false from HN.out]
    try dsimp only
    go_wp2_with fail
    refine (Tryz.strings_HasPrefix s ⟨#[43]⟩ _).mono ?_
    rintro e w1 ⟨rfl, rfl⟩
    rw [show Lib.hasPrefix s.data.toList (⟨#[43]⟩ : ByteArray).data.toList = true from HP.out]
    try dsimp only
    go_wp2_with fail
    refine (trimDigits_any (s.extract 1 s.size) _ HSZ.out).mono ?_
    rintro e w2 ⟨rfl, k2⟩
    obtain ⟨t, ht⟩ : ∃ t : ByteArray, t = ⟨(Lib.trimS (s.extract 1 s.size).data.toList [48, 49, 50, 51, 52, 53, 54, 55, 56, 57]).toArray⟩ := ⟨_, rfl⟩
    rw [← ht]
    have hte : t.toList.isEmpty = true := by
      rw [Lib.toList_data, ht]
      show (Lib.trimS (s.extract 1 s.size).data.toList [48, 49, 50, 51, 52, 53, 54, 55, 56, 57]).isEmpty = true
      rw [H2.out]
      rw [(trim_digits _).2 HA.out]; rfl
    have K2 := HK.out.trans k2
    have hb2 := k2.heap HB.out (by simp)
    clear ht
    try dsimp only
    generalize hBx : w.heap.size = Bx at hb2 ⊢
    have HBX := Lib.hid (Nat.le_of_eq hBx)
    have HB2 := Lib.hid hb2
    clear hBx hb2 k2
    have HLT := Lib.hid (heap_lt HB2.out)
    go_wp2_with fail
    have KW : Keep (fun _ => False) w (w2.alloc (.cells #[.slice none 0 0] 22)) := K2.alloc _
    have hm : (w2.alloc (.cells #[.slice none 0 0] 22)).heap[w2.heap.size]? = some (.cells #[.slice none 0 0] 22 (0, 0)) := heap_alloc_new w2 _
    have hx : (w2.alloc (.cells #[.slice none 0 0] 22)).heap[Bx]? = some (.cells #[.bool false, .slice none 0 0] 24 (0, 0)) := by
      rw [Below.heap_alloc _ _ _ HLT.out]; exact HB2.out
    have hxm : Bx ≠ w2.heap.size := by have := HLT.out; omega
    have hwm : w.heap.size ≤ w2.heap.size := K2.size
    generalize w2.heap.size = Bm at hm hxm hwm ⊢
    generalize w2.alloc (.cells #[.slice none 0 0] 22) = W at KW hm hx ⊢
    have hconv := run_bytes_of_string (P := Tryz.prog) W 9 70 5 (s.extract 1 s.size) rfl rfl rfl
    have hds : ((s.extract 1 s.size)).size = (body s.data.toList).length := (Lib.size_eq _).trans (congrArg List.length H2.out)
    have HST := Lib.hid (fun (w3 : World) (bb : Nat) (C : Array Value) (fr : Nat × Nat) (hbb : bb = W.heap.size) (e : w3 = W.drew.alloc (.cells C 5 fr)) => PrSt.start (l := body s.data.toList) hx hm KW hxm hwm hbb e)
    clear HB HK HB2 K2 KW hm hx hxm hwm HLT
    generalize hcap : grownCap W ((s.extract 1 s.size)).size 0 5 = cap at hconv
    clear hcap
    generalize hC : bytesRow (s.extract 1 s.size) cap = C at hconv
    generalize hfr : (C.size, C.size + 1) = fr at hconv
    clear hfr
    generalize hw3 : W.drew.alloc (.cells C 5 fr) = w3 at hconv
    generalize hbb : W.heap.size = bb at hconv
    have hst := HST.out w3 bb C fr hbb.symm hw3.symm
    have hbyte := fun (k n c : Nat) (A : Option Addr) (wr : World) (H : PrSt w Bx Bm bb (.cells C 5 fr) (body s.data.toList) k A n c wr) (hk : k < (body s.data.toList).length) => PrSt.byte (d := (s.extract 1 s.size)) (cap := cap) (by rw [hC]; exact H) H2.out hk
    rw [hds] at hconv
    clear HST hw3 hbb hC hds
    have HBY := Lib.hid hbyte
    have HST := Lib.hid hst
    clear hbyte hst
    generalize hl : body s.data.toList = l at *
    clear hl
    rw [hconv]
    try dsimp only
    go_wp2_with fail
    clear hconv he hte h1
    go_loopw [30] (fun iv wr => ∃ (k : Nat) (A : Option Addr) (n c : Nat), k ≤ l.length ∧ iv = .int .i64 (k : Int) ∧ PrSt w Bx Bm bb (.cells C 5 fr) l k A n c wr) (fun iv _ => l.length - (RowKit.intOf iv).toNat)
    case atStart => exact ⟨0, _, _, _, Nat.zero_le _, rfl, HST.out⟩
    case round =>
      clear HST
      obtain ⟨k, A, n, c, hk, rfl, st⟩ := hrel
      have HS := Lib.hid st
      have cm : wr.cell? ⟨Bm, 0, none⟩ = some (.slice A n c) := by rw [cell_of_row wr _ _ _ _ _ st.m]; rfl
      have hBm := heap_lt st.m
      have hn := st.n
      clear st
      by_cases hkl : k < l.length
      · have i0 : (0 : Int) ≤ (k : Int) := by omega
        have i1 : (k : Int) < (l.length : Int) := by omega
        have hby := HBY.out k n c A wr HS.out hkl
        have hdg := List.all_eq_true.1 HA.out _ (List.getElem_mem hkl)
        have HD := Lib.hid hdg
        have hdg2 := (digB_iff _).1 hdg
        have e48 : (l[k].toNat : Int) = ((48 + (l[k].toNat - 48) : Nat) : Int) := by omega
        have HDG := Lib.hid (And.intro hdg2 e48)
        rw [e48] at hby
        obtain ⟨dg, hdge⟩ : ∃ x, x = l[k].toNat - 48 := ⟨_, rfl⟩
        have HDGE := Lib.hid hdge
        rw [← hdge] at hby
        clear hdg hdg2 e48 hdge
        have HR := Lib.hid (show Calls Tryz.prog 155 #[.int .i64 ((n : Int) + 1), .func (.func 156) #[] #[.pointer (some ⟨wr.heap.size, 0, none⟩), .pointer (some ⟨Bm, 0, none⟩)]] (wr.alloc (.cells #[.int .u8 (48 + (dg : Int))] 5)) (OwnPost (rowL BB (decF (limbs (decVal (l.take k))) dg) (n + 1)) (wr.alloc (.cells #[.int .u8 (48 + (dg : Int))] 5))) from
          dig_row Bm wr.heap.size A n c (limbs (decVal (l.take k))) dg _ ((HS.out.own.toLimbs (digs_low BB2 _) (by omega)).keep0 ((Keep.refl _ _).alloc _)) (by omega) (by rw [Below.heap_alloc _ _ _ hBm]; exact HS.out.m) (heap_alloc_new wr _) (by have := HDG.out.1; have := HDGE.out; omega))
        go_wp2_with fail
        refine HR.out.mono ?_
        rintro e w4 ⟨A2, n2, c2, rfl, own, k4⟩
        obtain rfl : n2 = n + 1 := by have := own.len; rw [rowL_len] at this; exact this.symm
        have low2 : Low BB (rowL BB (decF (limbs (decVal (l.take k))) dg) (n + 1)) := rowL_low (by unfold BB; omega) _ _
        have hL := own.toLimbs low2 (by omega)
        obtain ⟨t5, ht⟩ : ∃ x, x = tlen (rowL BB (decF (limbs (decVal (l.take k))) dg) (n + 1)) := ⟨_, rfl⟩
        have hNX := HS.out.next (u := .int .u8 (48 + (dg : Int))) hkl HD.out (A' := A2) (c' := c2) (w4 := w4) (by rw [← HDGE.out]; exact own) k4 t5 (by rw [← HDGE.out]; exact ht)
        have KA : Keep (fun _ => False) wr w4 := ((Keep.refl _ _).alloc _).trans k4
        have hm4 := KA.heap HS.out.m (by simp)
        have hx4 := KA.heap HS.out.x (by simp)
        have q0 : w4.cell? ⟨Bm, 0, none⟩ = some (.slice A n c) := by rw [cell_of_row w4 _ _ _ _ _ hm4]; rfl
        have q1 : w4.frozen? ⟨Bm, 0, none⟩ = false := by simp [World.frozen?, hm4]
        have HT := Lib.hid ht
        have HNX := Lib.hid hNX
        have HX4 := Lib.hid hx4
        have HKA := Lib.hid (HS.out.K.trans KA)
        clear HR own k4 low2 hNX KA hm4 hx4 cm hBm
        try dsimp only
        go_wp2_with fail
        refine (trim_any A2 (n + 1) c2 _ w4 hL).mono ?_
        rintro e wx ⟨rfl, rfl⟩
        rw [← HT.out]
        clear hL ht
        have hxm := HS.out.xm
        have hmx : Bm ≠ Bx := fun e => hxm e.symm
        by_cases hbig : 48 < t5
        · have hbi : (48 : Int) < (t5 : Int) := by omega
          have hnf := fits_grow (neg := false) (l := l) (k := k + 1) (by rw [← HNX.out.1]; exact hbig)
          have HNF := Lib.hid hnf
          have s0 : w4.cell? ⟨Bx, 0, none⟩ = some (.bool false) := by rw [cell_of_row w4 _ _ _ _ _ HX4.out]; rfl
          have s1 : w4.cell? ⟨Bx, 1, none⟩ = some (.slice none 0 0) := by rw [cell_of_row w4 _ _ _ _ _ HX4.out]; rfl
          have s2 : w4.frozen? ⟨Bx, 0, none⟩ = false := by simp [World.frozen?, HX4.out]
          have s3 : w4.frozen? ⟨Bx, 1, none⟩ = false := by simp [World.frozen?, HX4.out]
          have KS : Keep (fun x => x = Bm) w4 (w4.setCell ⟨Bm, 0, none⟩ (.slice A2 t5 c2)) := setCell_keep (S := fun x => x = Bm) rfl 0 _
          have HE2 := Lib.hid (two_cells (KS.heap HX4.out hxm) (.bool false) (.slice none 0 0))
          have HKE := Lib.hid (two_keep (HKA.out.into KS (by rintro i rfl; exact HS.out.wm)) HBX.out (.bool false) (.slice none 0 0))
          clear hbig hnf KS
          try dsimp only
          go_wp2_with fail
          obtain ⟨e0, e1⟩ := HE2.out
          refine bodyPost_ret (v := .tuple #[numArg false none 0 0, .int .i64 6]) ?_ rfl ?_
          · simp [results, Tryz.results129, go_sem, e0, e1]
          · unfold ParsePost
            rw [HPV.out]
            exact ⟨HKE.out, .inl ⟨HNF.out, rfl⟩⟩
        · have hbi : decide ((48 : Int) < (t5 : Int)) = false := decide_eq_false (by omega)
          have HN5 := Lib.hid (HNX.out.2 (by omega))
          try dsimp only
          go_wp2_with fail
          go_roundw
          case rel => exact ⟨k + 1, _, _, _, by omega, by go_num, HN5.out⟩
          case measure => simp [RowKit.intOf]; omega
      · have hd : decide ((k : Int) < (l.length : Int)) = false := decide_eq_false (by omega)
        have ek : k = l.length := by omega
        have hE : sval false (limbs (decVal (l.take k))) = (if false = true then -(decVal l : Int) else (decVal l : Int)) := by rw [sval_dec, ek, List.take_length]
        have HEQ := Lib.hid hE
        have hLm := HS.out.own.toLimbs (digs_low BB2 _) (by omega)
        have HR := Lib.hid (fun (e : Ending) (w2 : World) => res_two (x := sval false (limbs (decVal (l.take k)))) (e := e) (w2 := w2) HS.out.K HBX.out (heap_lt HS.out.x) HS.out.x)
        clear hE ek
        go_wp2_with fail
        refine (made_any false A n c _ _ hLm).mono ?_
        intro e w9 hres
        obtain ⟨ng, A9, n9, c9, f9, rfl, c0, c1, f0, f1, e0, e1, P⟩ := HR.out _ _ hres
        rw [HEQ.out] at P
        have HP9 := Lib.hid P
        have HEE := Lib.hid (And.intro e0 e1)
        clear hres P hLm e0 e1
        try dsimp only
        go_wp2_with fail
        refine bodyPost_ret (v := .tuple #[numArg ng A9 n9 c9, .int .i64 f9]) ?_ rfl (by unfold ParsePost; rw [HPV.out]; exact HP9.out)
        obtain ⟨e0, e1⟩ := HEE.out
        simp [results, Tryz.results129, go_sem, e0, e1]
  · have hP : parseV s.data.toList = none := by
      unfold parseV
      rw [if_pos (.inr (by simpa using hA))]
    have HPV := Lib.hid hP
    have HA := Lib.hid hA
    clear hE hP hA hsz
    go_enter Tryz.func129, Tryz.ntmps129
    go_wp2_with fail
    refine (Tryz.strings_HasPrefix s ⟨#[45]⟩ _).mono ?_
    rintro e w1 ⟨rfl, rfl⟩
    rw [show Lib.hasPrefix s.data.toList (⟨#[45]⟩ : ByteArray).data.toList = false from HN.out]
    try dsimp only
    go_wp2_with fail
    refine (Tryz.strings_HasPrefix s ⟨#[43]⟩ _).mono ?_
    rintro e w1 ⟨rfl, rfl⟩
    rw [show Lib.hasPrefix s.data.toList (⟨#[43]⟩ : ByteArray).data.toList = true from HP.out]
    try dsimp only
    go_wp2_with fail
    refine (trimDigits_any (s.extract 1 s.size) _ HSZ.out).mono ?_
    rintro e w2 ⟨rfl, k2⟩
    obtain ⟨t, ht⟩ : ∃ t : ByteArray, t = ⟨(Lib.trimS (s.extract 1 s.size).data.toList [48, 49, 50, 51, 52, 53, 54, 55, 56, 57]).toArray⟩ := ⟨_, rfl⟩
    rw [← ht]
    have hte : t.toList.isEmpty = false := by
      rw [Lib.toList_data, ht]
      show (Lib.trimS (s.extract 1 s.size).data.toList [48, 49, 50, 51, 52, 53, 54, 55, 56, 57]).isEmpty = false
      rw [H2.out]
      cases h : Lib.trimS (body s.data.toList) [48, 49, 50, 51, 52, 53, 54, 55, 56, 57] with
      | nil => exact absurd ((trim_digits _).1 h) HA.out
      | cons _ _ => rfl
    have K2 := HK.out.trans k2
    have hb2 := k2.heap HB.out (by simp)
    clear ht
    try dsimp only
    have r0 : w2.cell? ⟨w.heap.size, 0, none⟩ = some (.bool false) := by rw [cell_of_row w2 _ _ _ _ _ hb2]; rfl
    have r1 : w2.cell? ⟨w.heap.size, 1, none⟩ = some (.slice none 0 0) := by rw [cell_of_row w2 _ _ _ _ _ hb2]; rfl
    have f0 : w2.frozen? ⟨w.heap.size, 0, none⟩ = false := by simp [World.frozen?, hb2]
    have f1 : w2.frozen? ⟨w.heap.size, 1, none⟩ = false := by simp [World.frozen?, hb2]
    have HE2 := Lib.hid (two_cells hb2 (.bool false) (.slice none 0 0))
    have HKE := Lib.hid (two_keep K2 (Nat.le_refl w.heap.size) (.bool false) (.slice none 0 0))
    clear K2 k2 hb2
    go_wp2_with fail
    obtain ⟨e0, e1⟩ := HE2.out
    refine bodyPost_ret (v := .tuple #[numArg false none 0 0, .int .i64 9]) ?_ rfl ?_
    · simp [results, Tryz.results129, go_sem, e0, e1]
    · unfold ParsePost
      rw [HPV.out]
      exact ⟨rfl, HKE.out⟩
set_option maxRecDepth 100000 in
set_option maxHeartbeats 4000000 in
theorem parse_none (s : ByteArray) (w : World) (hs : s.size ≤ 1000000) (hneg : Lib.hasPrefix s.data.toList [45] = false) (hplus : Lib.hasPrefix s.data.toList [43] = false) : Calls Tryz.prog 129 #[.string s] w (ParsePost s.data.toList w) := by
  have K : Keep (fun _ => False) w (w.alloc (.cells #[.bool false, .slice none 0 0] 24)) := (Keep.refl _ _).alloc _
  have hb : (w.alloc (.cells #[.bool false, .slice none 0 0] 24)).heap[w.heap.size]? = some (.cells #[.bool false, .slice none 0 0] 24 (0, 0)) := heap_alloc_new w _
  have HK := Lib.hid K
  have HB := Lib.hid hb
  have hbody : body s.data.toList = s.data.toList := by unfold body signB; rw [hneg, hplus]; rfl
  have h2 : s.data.toList = body s.data.toList := hbody.symm
  have HN := Lib.hid hneg
  have HP := Lib.hid hplus
  have H2 := Lib.hid h2
  have hsz : (body s.data.toList).length ≤ 1000000 := by
    unfold body
    have := Lib.size_eq s
    split
    · rw [List.length_drop]; omega
    · omega
  have HSZ := Lib.hid (show (s).size ≤ 9223372036854775807 from by rw [Lib.size_eq, h2]; omega)
  clear K hb hbody h2 hneg hplus
  by_cases hE : body s.data.toList = []
  · have hP : parseV s.data.toList = none := by unfold parseV; rw [if_pos (.inl hE)]
    have he : s.toList.isEmpty = true := by rw [Lib.toList_data, H2.out, hE]; rfl
    have HPV := Lib.hid hP
    clear hE hP hsz
    go_enter Tryz.func129, Tryz.ntmps129
    go_wp2_with fail
    refine (Tryz.strings_HasPrefix s ⟨#[45]⟩ _).mono ?_
    rintro e w1 ⟨rfl, rfl⟩
    rw [show Lib.hasPrefix s.data.toList (⟨#[45]⟩ : ByteArray).data.toList = false from HN.out]
    try dsimp only
    go_wp2_with fail
    refine (Tryz.strings_HasPrefix s ⟨#[43]⟩ _).mono ?_
    rintro e w1 ⟨rfl, rfl⟩
    rw [show Lib.hasPrefix s.data.toList (⟨#[43]⟩ : ByteArray).data.toList = false from HP.out]
    try dsimp only
    go_wp2_with fail
    have KE : Keep (fun _ => False) w (w.alloc (.cells #[.bool false, .slice none 0 0] 24)) := HK.out
    refine bodyPost_ret (v := .tuple #[numArg false none 0 0, .int .i64 9]) ?_ rfl ?_
    · simp [results, Tryz.results129, go_sem]
    · unfold ParsePost
      rw [HPV.out]
      exact ⟨rfl, KE⟩
  have he : s.toList.isEmpty = false := by
    rw [Lib.toList_data, H2.out]
    cases h : body s.data.toList with
    | nil => exact absurd h hE
    | cons _ _ => rfl
  by_cases hA : (body s.data.toList).all digB = true
  · have hP : parseV s.data.toList = some (if false = true then -(decVal (body s.data.toList) : Int) else (decVal (body s.data.toList) : Int)) := by
      unfold parseV
      rw [if_neg (by simp [hE, hA]), HN.out]
    have HPV := Lib.hid hP
    have HA := Lib.hid hA
    clear hE hP hA
    go_enter Tryz.func129, Tryz.ntmps129
    go_wp2_with fail
    refine (Tryz.strings_HasPrefix s ⟨#[45]⟩ _).mono ?_
    rintro e w1 ⟨rfl, rfl⟩
    rw [show Lib.hasPrefix s.data.toList (⟨#[45]⟩ : ByteArray).data.toList = false from HN.out]
    try dsimp only
    go_wp2_with fail
    refine (Tryz.strings_HasPrefix s ⟨#[43]⟩ _).mono ?_
    rintro e w1 ⟨rfl, rfl⟩
    rw [show Lib.hasPrefix s.data.toList (⟨#[43]⟩ : ByteArray).data.toList = false from HP.out]
    try dsimp only
    go_wp2_with fail
    refine (trimDigits_any s _ HSZ.out).mono ?_
    rintro e w2 ⟨rfl, k2⟩
    obtain ⟨t, ht⟩ : ∃ t : ByteArray, t = ⟨(Lib.trimS s.data.toList [48, 49, 50, 51, 52, 53, 54, 55, 56, 57]).toArray⟩ := ⟨_, rfl⟩
    rw [← ht]
    have hte : t.toList.isEmpty = true := by
      rw [Lib.toList_data, ht]
      show (Lib.trimS s.data.toList [48, 49, 50, 51, 52, 53, 54, 55, 56, 57]).isEmpty = true
      rw [H2.out]
      rw [(trim_digits _).2 HA.out]; rfl
    have K2 := HK.out.trans k2
    have hb2 := k2.heap HB.out (by simp)
    clear ht
    try dsimp only
    generalize hBx : w.heap.size = Bx at hb2 ⊢
    have HBX := Lib.hid (Nat.le_of_eq hBx)
    have HB2 := Lib.hid hb2
    clear hBx hb2 k2
    have HLT := Lib.hid (heap_lt HB2.out)
    go_wp2_with fail
    have KW : Keep (fun _ => False) w (w2.alloc (.cells #[.slice none 0 0] 22)) := K2.alloc _
    have hm : (w2.alloc (.cells #[.slice none 0 0] 22)).heap[w2.heap.size]? = some (.cells #[.slice none 0 0] 22 (0, 0)) := heap_alloc_new w2 _
    have hx : (w2.alloc (.cells #[.slice none 0 0] 22)).heap[Bx]? = some (.cells #[.bool false, .slice none 0 0] 24 (0, 0)) := by
      rw [Below.heap_alloc _ _ _ HLT.out]; exact HB2.out
    have hxm : Bx ≠ w2.heap.size := by have := HLT.out; omega
    have hwm : w.heap.size ≤ w2.heap.size := K2.size
    generalize w2.heap.size = Bm at hm hxm hwm ⊢
    generalize w2.alloc (.cells #[.slice none 0 0] 22) = W at KW hm hx ⊢
    have hconv := run_bytes_of_string (P := Tryz.prog) W 9 70 5 s rfl rfl rfl
    have hds : (s).size = (body s.data.toList).length := (Lib.size_eq _).trans (congrArg List.length H2.out)
    have HST := Lib.hid (fun (w3 : World) (bb : Nat) (C : Array Value) (fr : Nat × Nat) (hbb : bb = W.heap.size) (e : w3 = W.drew.alloc (.cells C 5 fr)) => PrSt.start (l := body s.data.toList) hx hm KW hxm hwm hbb e)
    clear HB HK HB2 K2 KW hm hx hxm hwm HLT
    generalize hcap : grownCap W (s).size 0 5 = cap at hconv
    clear hcap
    generalize hC : bytesRow s cap = C at hconv
    generalize hfr : (C.size, C.size + 1) = fr at hconv
    clear hfr
    generalize hw3 : W.drew.alloc (.cells C 5 fr) = w3 at hconv
    generalize hbb : W.heap.size = bb at hconv
    have hst := HST.out w3 bb C fr hbb.symm hw3.symm
    have hbyte := fun (k n c : Nat) (A : Option Addr) (wr : World) (H : PrSt w Bx Bm bb (.cells C 5 fr) (body s.data.toList) k A n c wr) (hk : k < (body s.data.toList).length) => PrSt.byte (d := s) (cap := cap) (by rw [hC]; exact H) H2.out hk
    rw [hds] at hconv
    clear HST hw3 hbb hC hds
    have HBY := Lib.hid hbyte
    have HST := Lib.hid hst
    clear hbyte hst
    generalize hl : body s.data.toList = l at *
    clear hl
    rw [hconv]
    try dsimp only
    go_wp2_with fail
    clear hconv he hte
    go_loopw [30] (fun iv wr => ∃ (k : Nat) (A : Option Addr) (n c : Nat), k ≤ l.length ∧ iv = .int .i64 (k : Int) ∧ PrSt w Bx Bm bb (.cells C 5 fr) l k A n c wr) (fun iv _ => l.length - (RowKit.intOf iv).toNat)
    case atStart => exact ⟨0, _, _, _, Nat.zero_le _, rfl, HST.out⟩
    case round =>
      clear HST
      obtain ⟨k, A, n, c, hk, rfl, st⟩ := hrel
      have HS := Lib.hid st
      have cm : wr.cell? ⟨Bm, 0, none⟩ = some (.slice A n c) := by rw [cell_of_row wr _ _ _ _ _ st.m]; rfl
      have hBm := heap_lt st.m
      have hn := st.n
      clear st
      by_cases hkl : k < l.length
      · have i0 : (0 : Int) ≤ (k : Int) := by omega
        have i1 : (k : Int) < (l.length : Int) := by omega
        have hby := HBY.out k n c A wr HS.out hkl
        have hdg := List.all_eq_true.1 HA.out _ (List.getElem_mem hkl)
        have HD := Lib.hid hdg
        have hdg2 := (digB_iff _).1 hdg
        have e48 : (l[k].toNat : Int) = ((48 + (l[k].toNat - 48) : Nat) : Int) := by omega
        have HDG := Lib.hid (And.intro hdg2 e48)
        rw [e48] at hby
        obtain ⟨dg, hdge⟩ : ∃ x, x = l[k].toNat - 48 := ⟨_, rfl⟩
        have HDGE := Lib.hid hdge
        rw [← hdge] at hby
        clear hdg hdg2 e48 hdge
        have HR := Lib.hid (show Calls Tryz.prog 155 #[.int .i64 ((n : Int) + 1), .func (.func 156) #[] #[.pointer (some ⟨wr.heap.size, 0, none⟩), .pointer (some ⟨Bm, 0, none⟩)]] (wr.alloc (.cells #[.int .u8 (48 + (dg : Int))] 5)) (OwnPost (rowL BB (decF (limbs (decVal (l.take k))) dg) (n + 1)) (wr.alloc (.cells #[.int .u8 (48 + (dg : Int))] 5))) from
          dig_row Bm wr.heap.size A n c (limbs (decVal (l.take k))) dg _ ((HS.out.own.toLimbs (digs_low BB2 _) (by omega)).keep0 ((Keep.refl _ _).alloc _)) (by omega) (by rw [Below.heap_alloc _ _ _ hBm]; exact HS.out.m) (heap_alloc_new wr _) (by have := HDG.out.1; have := HDGE.out; omega))
        go_wp2_with fail
        refine HR.out.mono ?_
        rintro e w4 ⟨A2, n2, c2, rfl, own, k4⟩
        obtain rfl : n2 = n + 1 := by have := own.len; rw [rowL_len] at this; exact this.symm
        have low2 : Low BB (rowL BB (decF (limbs (decVal (l.take k))) dg) (n + 1)) := rowL_low (by unfold BB; omega) _ _
        have hL := own.toLimbs low2 (by omega)
        obtain ⟨t5, ht⟩ : ∃ x, x = tlen (rowL BB (decF (limbs (decVal (l.take k))) dg) (n + 1)) := ⟨_, rfl⟩
        have hNX := HS.out.next (u := .int .u8 (48 + (dg : Int))) hkl HD.out (A' := A2) (c' := c2) (w4 := w4) (by rw [← HDGE.out]; exact own) k4 t5 (by rw [← HDGE.out]; exact ht)
        have KA : Keep (fun _ => False) wr w4 := ((Keep.refl _ _).alloc _).trans k4
        have hm4 := KA.heap HS.out.m (by simp)
        have hx4 := KA.heap HS.out.x (by simp)
        have q0 : w4.cell? ⟨Bm, 0, none⟩ = some (.slice A n c) := by rw [cell_of_row w4 _ _ _ _ _ hm4]; rfl
        have q1 : w4.frozen? ⟨Bm, 0, none⟩ = false := by simp [World.frozen?, hm4]
        have HT := Lib.hid ht
        have HNX := Lib.hid hNX
        have HX4 := Lib.hid hx4
        have HKA := Lib.hid (HS.out.K.trans KA)
        clear HR own k4 low2 hNX KA hm4 hx4 cm hBm
        try dsimp only
        go_wp2_with fail
        refine (trim_any A2 (n + 1) c2 _ w4 hL).mono ?_
        rintro e wx ⟨rfl, rfl⟩
        rw [← HT.out]
        clear hL ht
        have hxm := HS.out.xm
        have hmx : Bm ≠ Bx := fun e => hxm e.symm
        by_cases hbig : 48 < t5
        · have hbi : (48 : Int) < (t5 : Int) := by omega
          have hnf := fits_grow (neg := false) (l := l) (k := k + 1) (by rw [← HNX.out.1]; exact hbig)
          have HNF := Lib.hid hnf
          have s0 : w4.cell? ⟨Bx, 0, none⟩ = some (.bool false) := by rw [cell_of_row w4 _ _ _ _ _ HX4.out]; rfl
          have s1 : w4.cell? ⟨Bx, 1, none⟩ = some (.slice none 0 0) := by rw [cell_of_row w4 _ _ _ _ _ HX4.out]; rfl
          have s2 : w4.frozen? ⟨Bx, 0, none⟩ = false := by simp [World.frozen?, HX4.out]
          have s3 : w4.frozen? ⟨Bx, 1, none⟩ = false := by simp [World.frozen?, HX4.out]
          have KS : Keep (fun x => x = Bm) w4 (w4.setCell ⟨Bm, 0, none⟩ (.slice A2 t5 c2)) := setCell_keep (S := fun x => x = Bm) rfl 0 _
          have HE2 := Lib.hid (two_cells (KS.heap HX4.out hxm) (.bool false) (.slice none 0 0))
          have HKE := Lib.hid (two_keep (HKA.out.into KS (by rintro i rfl; exact HS.out.wm)) HBX.out (.bool false) (.slice none 0 0))
          clear hbig hnf KS
          try dsimp only
          go_wp2_with fail
          obtain ⟨e0, e1⟩ := HE2.out
          refine bodyPost_ret (v := .tuple #[numArg false none 0 0, .int .i64 6]) ?_ rfl ?_
          · simp [results, Tryz.results129, go_sem, e0, e1]
          · unfold ParsePost
            rw [HPV.out]
            exact ⟨HKE.out, .inl ⟨HNF.out, rfl⟩⟩
        · have hbi : decide ((48 : Int) < (t5 : Int)) = false := decide_eq_false (by omega)
          have HN5 := Lib.hid (HNX.out.2 (by omega))
          try dsimp only
          go_wp2_with fail
          go_roundw
          case rel => exact ⟨k + 1, _, _, _, by omega, by go_num, HN5.out⟩
          case measure => simp [RowKit.intOf]; omega
      · have hd : decide ((k : Int) < (l.length : Int)) = false := decide_eq_false (by omega)
        have ek : k = l.length := by omega
        have hE : sval false (limbs (decVal (l.take k))) = (if false = true then -(decVal l : Int) else (decVal l : Int)) := by rw [sval_dec, ek, List.take_length]
        have HEQ := Lib.hid hE
        have hLm := HS.out.own.toLimbs (digs_low BB2 _) (by omega)
        have HR := Lib.hid (fun (e : Ending) (w2 : World) => res_two (x := sval false (limbs (decVal (l.take k)))) (e := e) (w2 := w2) HS.out.K HBX.out (heap_lt HS.out.x) HS.out.x)
        clear hE ek
        go_wp2_with fail
        refine (made_any false A n c _ _ hLm).mono ?_
        intro e w9 hres
        obtain ⟨ng, A9, n9, c9, f9, rfl, c0, c1, f0, f1, e0, e1, P⟩ := HR.out _ _ hres
        rw [HEQ.out] at P
        have HP9 := Lib.hid P
        have HEE := Lib.hid (And.intro e0 e1)
        clear hres P hLm e0 e1
        try dsimp only
        go_wp2_with fail
        refine bodyPost_ret (v := .tuple #[numArg ng A9 n9 c9, .int .i64 f9]) ?_ rfl (by unfold ParsePost; rw [HPV.out]; exact HP9.out)
        obtain ⟨e0, e1⟩ := HEE.out
        simp [results, Tryz.results129, go_sem, e0, e1]
  · have hP : parseV s.data.toList = none := by
      unfold parseV
      rw [if_pos (.inr (by simpa using hA))]
    have HPV := Lib.hid hP
    have HA := Lib.hid hA
    clear hE hP hA hsz
    go_enter Tryz.func129, Tryz.ntmps129
    go_wp2_with fail
    refine (Tryz.strings_HasPrefix s ⟨#[45]⟩ _).mono ?_
    rintro e w1 ⟨rfl, rfl⟩
    rw [show Lib.hasPrefix s.data.toList (⟨#[45]⟩ : ByteArray).data.toList = false from HN.out]
    try dsimp only
    go_wp2_with fail
    refine (Tryz.strings_HasPrefix s ⟨#[43]⟩ _).mono ?_
    rintro e w1 ⟨rfl, rfl⟩
    rw [show Lib.hasPrefix s.data.toList (⟨#[43]⟩ : ByteArray).data.toList = false from HP.out]
    try dsimp only
    go_wp2_with fail
    refine (trimDigits_any s _ HSZ.out).mono ?_
    rintro e w2 ⟨rfl, k2⟩
    obtain ⟨t, ht⟩ : ∃ t : ByteArray, t = ⟨(Lib.trimS s.data.toList [48, 49, 50, 51, 52, 53, 54, 55, 56, 57]).toArray⟩ := ⟨_, rfl⟩
    rw [← ht]
    have hte : t.toList.isEmpty = false := by
      rw [Lib.toList_data, ht]
      show (Lib.trimS s.data.toList [48, 49, 50, 51, 52, 53, 54, 55, 56, 57]).isEmpty = false
      rw [H2.out]
      cases h : Lib.trimS (body s.data.toList) [48, 49, 50, 51, 52, 53, 54, 55, 56, 57] with
      | nil => exact absurd ((trim_digits _).1 h) HA.out
      | cons _ _ => rfl
    have K2 := HK.out.trans k2
    have hb2 := k2.heap HB.out (by simp)
    clear ht
    try dsimp only
    have r0 : w2.cell? ⟨w.heap.size, 0, none⟩ = some (.bool false) := by rw [cell_of_row w2 _ _ _ _ _ hb2]; rfl
    have r1 : w2.cell? ⟨w.heap.size, 1, none⟩ = some (.slice none 0 0) := by rw [cell_of_row w2 _ _ _ _ _ hb2]; rfl
    have f0 : w2.frozen? ⟨w.heap.size, 0, none⟩ = false := by simp [World.frozen?, hb2]
    have f1 : w2.frozen? ⟨w.heap.size, 1, none⟩ = false := by simp [World.frozen?, hb2]
    have HE2 := Lib.hid (two_cells hb2 (.bool false) (.slice none 0 0))
    have HKE := Lib.hid (two_keep K2 (Nat.le_refl w.heap.size) (.bool false) (.slice none 0 0))
    clear K2 k2 hb2
    go_wp2_with fail
    obtain ⟨e0, e1⟩ := HE2.out
    refine bodyPost_ret (v := .tuple #[numArg false none 0 0, .int .i64 9]) ?_ rfl ?_
    · simp [results, Tryz.results129, go_sem, e0, e1]
    · unfold ParsePost
      rw [HPV.out]
      exact ⟨rfl, HKE.out⟩
theorem parse_any (s : ByteArray) (w : World) (hs : s.size ≤ 1000000) : Calls Tryz.prog 129 #[.string s] w (ParsePost s.data.toList w) := by
  by_cases h1 : Lib.hasPrefix s.data.toList [45] = true
  · exact parse_neg s w hs h1
  · by_cases h2 : Lib.hasPrefix s.data.toList [43] = true
    · exact parse_plus s w hs (by simpa using h1) h2
    · exact parse_none s w hs (by simpa using h1) (by simpa using h2)
end Go.Proofs.YtonnikipeokkaaaGreatDoor
