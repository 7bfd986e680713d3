/-
  Numbers, by program: texts of another seat, turned to this one.
-/
import Derived.Test.YtkjocmenpccooaaGreatDoorN1
import Derived.Shelf.Strconv.Itoa1
import Derived.Shelf.Strconv.Itoa2
import Derived.Lib.ItoaMem
import Derived.Lib.SmallJoins
import Derived.Lib.ItoaNum
import Derived.Shelf.Strings.SlTrimAscii
import Derived.Laws.IdiomStrings
import Derived.Test.YtkjocmenpccooaaGreatDoorShelf
namespace Go.Proofs.YtkjocmenpccooaaGreatDoor
open Go.RowKit Go.Sort Go.Lib
/-- The table that numDigits reads. -/
def PowTab (w : World) : Prop := Lib.TabIs Tryz.prog w "internal/strconv.uint64pow10" .u64 Lib.pow10Tab
abbrev encB : UInt8 → Value := fun (b : UInt8) => Value.int .u8 (b.toNat : Int)
theorem holds24 (w : World) (nd : Nat) (hs : nd ≤ 24) : Holds encB (w.alloc (.cells Lib.zeros24 233)) w.heap.size 0 (Array.replicate nd (0 : UInt8)) := fun j hj => by
  have hj' : j < nd := by simpa using hj
  refine ⟨?_, World.frozen?_alloc_new _ _ _ _⟩
  rw [World.cell?_alloc_new, zeros24_at _ (by omega), getElem!_pos _ j hj]
  simp
def StrPost (l : List UInt8) (w : World) (e : Ending) (w' : World) : Prop := e = .returned (.string ⟨l.toArray⟩) ∧ Keep (fun _ => False) w w'
theorem keep_put (w : World) (o : Obj) (dk : Array UInt8) (k : Nat) : Keep (fun _ => False) w ((putRow encB (w.alloc o) w.heap.size 0 dk).drewN k) := by
  rw [alloc_eq_grow]
  obtain ⟨os', _, e⟩ := putRow_grow_new encB w #[o] w.heap.size 0 dk (Nat.le_refl _)
  rw [e]
  have g : Keep (fun _ => False) w (grow w os') := ⟨rfl, rfl, rfl, by simp, fun i hi _ => heap_grow_old w os' hi⟩
  exact g.drewN k
set_option maxHeartbeats 4000000 in
set_option maxRecDepth 100000 in
theorem fmt_any (u : Nat) (w : World) (hu64 : u < 18446744073709551616) (htab : PowTab w) :
    Calls Tryz.prog 143 #[.int .u64 (u : Int), .int .i64 10] w (StrPost (Lib.decDigits u) w) := by
  by_cases hs : u < 100
  · have hi : (u : Int) < 100 := by omega
    go_enter Tryz.func143, Tryz.ntmps143
    go_wp2_with fail
    refine (Tryz.internal_strconv_small u hs w).mono ?_
    rintro e w' ⟨rfl, rfl⟩
    try dsimp only
    go_wp2_with fail
    go_ret
    exact ⟨rfl, Keep.refl _ _⟩
  · have hi : decide ((u : Int) < 100) = false := decide_eq_false (by omega)
    have hu1 : 1 ≤ u := by omega
    have hnd20 : Lib.nDigits u ≤ 20 := by have := Lib.numDigits_eq u hu1 hu64; split at this <;> omega
    have hal : Tryz.prog.arrayLen 233 = 24 := by kernel_rfl
    have hsl : ∀ W, (Instr.sliceAt 233 (.pointer (some ⟨w.heap.size, 0, none⟩)) none (some (.int .i64 (Lib.nDigits u : Int))) none).run Tryz.prog W = .ok (.slice (some ⟨w.heap.size, 0, none⟩) (Lib.nDigits u) 24) W := fun W => by
      rw [run_sliceAt_array_h W 233 ⟨w.heap.size, 0, none⟩ (by kernel_rfl) .i64 (Lib.nDigits u : Int) (by omega) (by rw [hal]; omega)]
      go_simp
    have hH0 := holds24 w (Lib.nDigits u) (by omega)
    have hfmt := Tryz.internal_strconv_formatBase10 w.heap.size 0 24 u (Array.replicate (Lib.nDigits u) 0) (w.alloc (.cells Lib.zeros24 233)) hH0 (by rw [Array.size_replicate]; exact Lib.lt_pow_nDigits u) hu64 (by rw [Array.size_replicate]; omega)
    rw [Array.size_replicate] at hfmt
    have HH0 := Lib.hid hH0
    have HF := Lib.hid hfmt
    have HU := Lib.hid (And.intro hu1 hu64)
    have HT := Lib.hid (Lib.tabIs_alloc htab (.cells Lib.zeros24 233))
    clear hH0 hal hfmt hs hu1 hu64 htab
    go_enter Tryz.func143, Tryz.ntmps143
    go_wp2_with fail
    refine (Tryz.internal_strconv_numDigits u HU.out.1 HU.out.2 _ HT.out).mono ?_
    rintro e w' ⟨rfl, rfl⟩
    try dsimp only
    go_wp2_with fail
    refine HF.out.mono ?_
    rintro e w' ⟨rfl, k, v', dk, rfl, hF⟩
    have hcv : (convert 129 9 (.slice (some ⟨w.heap.size, 0, none⟩) (Lib.nDigits u) 24)).run Tryz.prog ((putRow encB (w.alloc (.cells Lib.zeros24 233)) w.heap.size 0 dk).drewN k) = .ok (.string ⟨(Lib.decDigits u).toArray⟩) ((putRow encB (w.alloc (.cells Lib.zeros24 233)) w.heap.size 0 dk).drewN k) := by
      have h := run_convert_bytes_back (P := Tryz.prog) ((putRow encB (w.alloc (.cells Lib.zeros24 233)) w.heap.size 0 dk).drewN k) 129 9 5 ⟨w.heap.size, 0, none⟩ 24 (Lib.decDigits u) Tryz.underlying129 Tryz.underlying5 Tryz.underlying9 (fun j hj => by
        rw [Lib.row_is_numeral hF j hj, Lib.add_plain, World.cell?_drewN]
        exact cell?_putRow encB _ w.heap.size 0 _ dk HH0.out (by rw [hF.size, Array.size_replicate]) j (by rw [hF.size]; rw [Lib.decDigits_length] at hj; exact hj))
      rw [Lib.decDigits_length] at h
      exact h
    have P := keep_put w (.cells Lib.zeros24 233) dk k
    have HP := Lib.hid P
    clear P hF
    try dsimp only
    go_wp2_with fail
    go_ret
    exact ⟨rfl, HP.out⟩
set_option maxRecDepth 100000 in
set_option maxHeartbeats 400000 in
theorem format_any (u : Nat) (w : World) (hu64 : u < 18446744073709551616) (htab : PowTab w) :
    Calls Tryz.prog 107 #[.int .u64 (u : Int), .int .i64 10] w (StrPost (Lib.decDigits u) w) := by
  have HF := Lib.hid (fmt_any u w hu64 htab)
  clear htab
  go_enter Tryz.func107, Tryz.ntmps107
  go_wp2_with fail
  refine HF.out.mono ?_
  rintro e w' ⟨rfl, K⟩
  try dsimp only
  go_wp2_with fail
  go_ret
  exact ⟨rfl, K⟩
open Go.Lib
/-- k digits of r, noughts ahead. -/
def padN : Nat → Nat → List UInt8
  | 0, _ => []
  | k + 1, r => padN k (r / 10) ++ [UInt8.ofNat (48 + r % 10)]
theorem dec_small {u : Nat} (h : u < 10) : decDigits u = [UInt8.ofNat (48 + u)] := by rw [decDigits, dif_pos h]
theorem dec_big {u : Nat} (h : ¬ u < 10) : decDigits u = decDigits (u / 10) ++ [UInt8.ofNat (48 + u % 10)] := by rw [decDigits, dif_neg h]
theorem dec_split : ∀ (k q r : Nat), 0 < q → r < 10 ^ k → decDigits (q * 10 ^ k + r) = decDigits q ++ padN k r
  | 0, q, r, _, hr => by
    obtain rfl : r = 0 := by simpa using hr
    simp [padN]
  | k + 1, q, r, hq, hr => by
    have hp : 0 < 10 ^ k := Nat.pow_pos (by omega)
    rw [Nat.pow_succ] at hr ⊢
    have e1 : q * (10 ^ k * 10) = 10 * (q * 10 ^ k) := by rw [← Nat.mul_assoc, Nat.mul_comm]
    have hge : 1 ≤ q * 10 ^ k := Nat.mul_pos hq hp
    rw [e1, dec_big (by omega)]
    rw [show (10 * (q * 10 ^ k) + r) / 10 = q * 10 ^ k + r / 10 from by omega, show (10 * (q * 10 ^ k) + r) % 10 = r % 10 from by omega, dec_split k q (r / 10) hq (by omega), padN, List.append_assoc]
theorem pad_zero : ∀ k, padN k 0 = List.replicate k 48
  | 0 => rfl
  | k + 1 => by
    rw [padN, Nat.zero_div, pad_zero k, List.replicate_succ']
    rfl
theorem dec_pos (r : Nat) : 1 ≤ (decDigits r).length := by
  by_cases h : r < 10
  · rw [dec_small h]; simp
  · rw [dec_big h]; simp
theorem dec_le : ∀ (k r : Nat), r < 10 ^ (k + 1) → (decDigits r).length ≤ k + 1
  | 0, r, h => by rw [dec_small (by simpa using h)]; simp
  | k + 1, r, h => by
    by_cases h2 : r < 10
    · rw [dec_small h2]; simp
    · rw [dec_big h2, List.length_append]
      rw [Nat.pow_succ] at h
      have := dec_le k (r / 10) (by omega)
      simpa using this
theorem pad_eq : ∀ (k r : Nat), r < 10 ^ (k + 1) → padN (k + 1) r = List.replicate (k + 1 - (decDigits r).length) 48 ++ decDigits r
  | 0, r, h => by
    have h1 : r < 10 := by simpa using h
    rw [dec_small h1]
    simp [padN, Nat.mod_eq_of_lt h1]
  | k + 1, r, h => by
    rw [padN]
    rw [Nat.pow_succ] at h
    by_cases h2 : r < 10
    · rw [show r / 10 = 0 from by omega, pad_zero, dec_small h2, Nat.mod_eq_of_lt h2]
      simp
    · have hl := dec_le k (r / 10) (by omega)
      rw [pad_eq k (r / 10) (by omega), dec_big h2, List.append_assoc, List.length_append]
      simp
/-- One round of the outer loop. -/
theorem chunk_more {v q r : Nat} (hv : v = q * 10 ^ 9 + r) (hq : 0 < q) (hr : r < 10 ^ 9) : decDigits v = decDigits q ++ (List.replicate (9 - (decDigits r).length) 48 ++ decDigits r) := by
  rw [hv, dec_split 9 q r hq hr, pad_eq 8 r hr]
/-- The chunks so far, the last first, behind what is left. -/
def TextSt (V v : Nat) (ps : List (List UInt8)) : Prop := (v = 0 ∧ ps ≠ [] ∧ decDigits V = ps.reverse.flatten) ∨ (0 < v ∧ decDigits V = decDigits v ++ ps.reverse.flatten)
theorem TextSt.more {V v q r : Nat} {ps : List (List UInt8)} (h : TextSt V v ps) (hv0 : 0 < v) (hv : v = q * 10 ^ 9 + r) (hr : r < 10 ^ 9) (hq : 0 < q) : TextSt V q (ps ++ [List.replicate (9 - (decDigits r).length) 48 ++ decDigits r]) := by
  rcases h with ⟨h0, _⟩ | ⟨_, h⟩
  · omega
  · refine .inr ⟨hq, ?_⟩
    rw [h, chunk_more hv hq hr]
    simp
theorem TextSt.last {V v r : Nat} {ps : List (List UInt8)} (h : TextSt V v ps) (hv0 : 0 < v) (hv : v = r) : TextSt V 0 (ps ++ [decDigits r]) := by
  rcases h with ⟨h0, _⟩ | ⟨_, h⟩
  · omega
  · refine .inl ⟨rfl, by simp, ?_⟩
    rw [h, hv]
    simp
/-- Division of limbs by a small number, from above, k limbs are left. -/
structure DivSt (B D k : Nat) (l m : List Nat) (c : Nat) : Prop where
  len : m.length = l.length
  low : Low B m
  same : ∀ j, j < k → m.getD j 0 = l.getD j 0
  lt : c < D
  v : val B (l.drop k) = val B (m.drop k) * D + c
theorem val_drop_succ (B : Nat) (l : List Nat) (k : Nat) (h : k < l.length) : val B (l.drop k) = l.getD k 0 + B * val B (l.drop (k + 1)) := by
  rw [List.drop_eq_getElem_cons h, val, List.getD_eq_getElem?_getD, List.getElem?_eq_getElem h]
  rfl
theorem DivSt.start {B D : Nat} {l : List Nat} (hD : 0 < D) (h : Low B l) : DivSt B D l.length l l 0 :=
  ⟨rfl, h, fun _ _ => rfl, hD, by simp [val]⟩
theorem DivSt.step {B D k : Nat} {l m : List Nat} {c : Nat} (_hB : 0 < B) (hD : 0 < D) (hl : Low B l) (h : DivSt B D (k + 1) l m c) (hk : k < l.length) :
    (c * B + m.getD k 0) / D < B ∧ DivSt B D k l (m.set k ((c * B + m.getD k 0) / D)) ((c * B + m.getD k 0) % D) := by
  have hx := hl.getD _hB k
  rw [h.same k (by omega)]
  generalize hl0 : l.getD k 0 = x at *
  have hc := h.lt
  have hlt : (c * B + x) / D < B := by
    rw [Nat.div_lt_iff_lt_mul hD]
    have : (c + 1) * B ≤ D * B := Nat.mul_le_mul_right _ hc
    rw [Nat.add_mul, Nat.one_mul] at this
    rw [Nat.mul_comm B D]
    omega
  refine ⟨hlt, by rw [List.length_set]; exact h.len, h.low.set _ hlt, ?_, Nat.mod_lt _ hD, ?_⟩
  · intro j hj
    rw [List.getD_eq_getElem?_getD, List.getElem?_set_ne (by omega), ← List.getD_eq_getElem?_getD]
    exact h.same j (by omega)
  · have hkm : k < (m.set k ((c * B + x) / D)).length := by rw [List.length_set, h.len]; exact hk
    rw [val_drop_succ B l k hk, val_drop_succ B (m.set k ((c * B + x) / D)) k hkm, hl0, h.v, List.drop_set_of_lt (by omega)]
    have eg : (m.set k ((c * B + x) / D)).getD k 0 = (c * B + x) / D := by
      rw [List.getD_eq_getElem?_getD, List.getElem?_set_self (by rw [h.len]; exact hk)]; rfl
    rw [eg]
    have e := Nat.div_add_mod (c * B + x) D
    generalize (c * B + x) / D = a at *
    generalize (c * B + x) % D = b at *
    generalize val B (m.drop (k + 1)) = y at *
    rw [Nat.mul_add, Nat.add_mul, ← Nat.mul_assoc, Nat.mul_comm B c, Nat.mul_comm a D]
    have : B * y * D = B * (y * D) := Nat.mul_assoc _ _ _
    rw [this] at *
    omega
theorem DivSt.done {B D : Nat} {l m : List Nat} {c : Nat} (hD : 0 < D) (h : DivSt B D 0 l m c) : val B m = val B l / D ∧ c = val B l % D := by
  have hv := h.v
  have hc := h.lt
  rw [List.drop_zero, List.drop_zero] at hv
  rw [hv, Nat.mul_comm, Nat.mul_add_div hD, Nat.div_eq_of_lt hc, Nat.mul_add_mod, Nat.mod_eq_of_lt hc]
  exact ⟨rfl, rfl⟩
open Go.RowKit Go.Sort Go.Lib
/-- A row of strings that the call has made itself. -/
def OwnS (w : World) (base : Nat) (v : Value) (ps : List (List UInt8)) : Prop := w.ownsRow base 9 1 v ps.length (ps.map encStr)
theorem own_holds {w : World} {base g cap : Nat} {ps : List (List UInt8)} (h : OwnS w base (.slice (some ⟨g, 0, none⟩) ps.length cap) ps) : Holds encStr w g 0 ps.toArray := by
  intro j hj
  have hj' : j < ps.length := by simpa using hj
  refine ⟨?_, ?_⟩
  · have := World.ownsRow.cellAt h j (by rw [Nat.mul_one]; exact hj')
    rw [Nat.zero_add]
    rw [this]
    simp [hj']
  · rcases h.2 with ⟨hn, _⟩ | ⟨g2, cap2, cur2, hv, hg, hh, _⟩
    · cases hn
    · injection hv with e _ _
      injection e with e
      injection e with e _ _
      subst e
      simp [World.frozen?, hh]
theorem join_empty : ∀ l : List (List UInt8), Lib.join l [] = l.flatten := by
  intro l
  cases l with
  | nil => rfl
  | cons x r =>
    rw [Lib.join_cons]
    simp [Lib.joinTail]
theorem rev_post {w w' : World} {base g cap n : Nat} {ps : List (List UInt8)} (h : OwnS w base (.slice (some ⟨g, 0, none⟩) ps.length cap) ps) (hw : w' = putRow encStr (Sort.ahead w n) g 0 ps.reverse.toArray) :
    Keep (fun x => x = g) w w' ∧ (∀ (j : Nat) x, (ps.reverse.map fun s : List UInt8 => (⟨s.toArray⟩ : ByteArray))[j]? = some x → w'.cell? ⟨g, 0 + j, none⟩ = some (.string x)) := by
  subst hw
  refine ⟨?_, ?_⟩
  · refine ⟨rfl, rfl, rfl, by simp [putRow, mapBlock, Sort.ahead], fun i _ hs => ?_⟩
    simp only [putRow, mapBlock, Sort.ahead, Array.getElem?_modify]
    rw [if_neg (fun e => hs e.symm)]
  · intro j x hx
    have hH := own_holds h
    have hj : j < ps.length := by
      rcases Nat.lt_or_ge j ps.length with h' | h'
      · exact h'
      · rw [List.getElem?_eq_none (by simp; omega)] at hx; cases hx
    have hH2 : Holds encStr (Sort.ahead w n) g 0 ps.toArray := fun i hi => hH i hi
    rw [cell?_putRow encStr (Sort.ahead w n) g 0 ps.toArray ps.reverse.toArray hH2 (by simp) j (by simpa using hj)]
    rw [List.getElem?_map, List.getElem?_eq_getElem (by simpa using hj)] at hx
    simp only [Option.map_some, Option.some.injEq] at hx
    rw [← hx]
    rw [getElem!_pos _ j (by simpa using hj)]
    simp
open Go.RowKit Go.Sort Go.Lib
theorem PowTab.keep {w w' : World} (h : PowTab w) (k : Keep (fun _ => False) w w') : PowTab w' :=
  Joins.tab_stays (g := (Tryz.prog.globalNamed "internal/strconv.uint64pow10").getD 0) (by kernel_rfl) h k.below0 (Nat.le_refl _)
/-- Nine digits. -/
def GG : Nat := 1000000000
theorem len_bound {V v k n : Nat} (h : v * GG ^ k ≤ V) (hv : 0 < v) (hV : V < BB ^ n) (hn : n ≤ 9000) : k ≤ 10000 := by
  have h1 : GG ^ k ≤ V := Nat.le_trans (Nat.le_mul_of_pos_left _ hv) h
  have h2 : (2 ^ 29) ^ k ≤ GG ^ k := Nat.pow_le_pow_left (by unfold GG; omega) k
  have h3 : (2 ^ 29) ^ k < (2 ^ 32) ^ n := by rw [← BB_two]; omega
  rw [← Nat.pow_mul, ← Nat.pow_mul] at h3
  have := (Nat.pow_lt_pow_iff_right (by omega)).1 h3
  omega
theorem info9 : (Tryz.prog.info? 9).map (fun i => (i.zero, i.size, i.bytes)) = some (some (.string ⟨#[]⟩), 1, 16) := by kernel_rfl
/-- What is known before a round: v is left of V. -/
structure TxSt (w : World) (V v : Nat) (A : Option Addr) (n c : Nat) (pv : Value) (ps : List (List UInt8)) (wr : World) : Prop where
  m : OwnR 39 .u32 wr w.heap.size A n c (limbs v)
  p : OwnS wr w.heap.size pv ps
  K : Keep (fun _ => False) w wr
  n : n ≤ 9000
  t : (V = 0 ∧ v = 0 ∧ ps = []) ∨ TextSt V v ps
  s : v + ps.length ≤ V
  g : v * GG ^ ps.length ≤ V
  b : ps.length ≤ 10001
theorem OwnS.keep {S : Nat → Prop} {w w' : World} {base : Nat} {v : Value} {ps : List (List UInt8)} (h : OwnS w base v ps) (K : Keep S w w') (hs : ∀ b, v.ownBlock = some b → ¬ S b) : OwnS w' base v ps := by
  refine ⟨h.1, ?_⟩
  rcases h.2 with hn | ⟨g, cap, cur, hv, hg, hh, rest⟩
  · exact .inl hn
  · refine .inr ⟨g, cap, cur, hv, hg, ?_, rest⟩
    rw [K.block g (heap_lt hh) (hs g (by rw [hv]; rfl))]
    exact hh
theorem OwnS.form {w : World} {base : Nat} {pv : Value} {k : Nat} {xs : List Value} (h : w.ownsRow base 9 1 pv k xs) : ∃ P c, pv = .slice P k c := by
  rcases h.2 with ⟨hn, h0⟩ | ⟨g, cap, cur, hv, _⟩
  · exact ⟨none, 0, by rw [hn, h0]⟩
  · exact ⟨_, _, hv⟩
theorem txt_ne {w : World} {base n c : Nat} {b : Nat} {m : List Nat} {pv : Value} {ps : List (List UInt8)} (h : OwnR 39 .u32 w base (some ⟨b, 0, none⟩) n c m) (hp : OwnS w base pv ps) : pv.ownBlock ≠ some b := by
  rcases h.2 with ⟨hn, _⟩ | ⟨g, cap, cur, hv, hg, hh, _⟩
  · cases hn
  · simp only [Value.slice.injEq, Option.some.injEq, Addr.mk.injEq, and_true, true_and] at hv
    obtain ⟨rfl, rfl⟩ := hv
    rcases hp.2 with ⟨hn2, _⟩ | ⟨g2, cap2, cur2, hv2, hg2, hh2, _⟩
    · rw [hn2]; intro e; cases e
    · rw [hv2]
      intro e
      have e2 : g2 = b := by simpa [Value.ownBlock] using e
      rw [e2, hh] at hh2
      simp at hh2
theorem TxSt.next {w1 wr0 wr w5 w6 : World} {V v b n3 c3 cr : Nat} {pv pv' : Value} {ps : List (List UInt8)} {m : List Nat} {t : ByteArray} {ch : List UInt8} (H : TxSt w1 V v (some ⟨b, 0, none⟩) n3 c3 pv ps wr0) (hlen : ps.length ≤ 10000) (hv : 0 < v)
    (K1 : Keep (fun x => x = b) wr0 wr) (own : OwnR 39 .u32 wr w1.heap.size (some ⟨b, 0, none⟩) n3 c3 m) (low : Low BB m) (dv : lval m = v / GG) (dc : cr = v % GG) (K5 : Keep (fun _ => False) wr w5) (ht : t = ⟨ch.toArray⟩)
    (hch : (0 < v / GG ∧ ch = List.replicate (9 - (decDigits cr).length) 48 ++ decDigits cr) ∨ (v / GG = 0 ∧ ch = decDigits cr))
    (hown : w6.ownsRow w1.heap.size 9 1 pv' (ps.length + 1) (ps.map encStr ++ [.string t])) (hgrow : (w5.alloc (.cells #[.string t] 9)).grownBy w6 pv.ownBlock) :
    TxSt w1 V (v / GG) (some ⟨b, 0, none⟩) (tlen m) c3 pv' (ps ++ [ch]) w6 := by
  have hbb := (H.m.fresh b 0 rfl).1
  have KA : Keep (fun _ => False) w1 wr := H.K.into K1 (by rintro i rfl; exact hbb)
  have hne0 := txt_ne H.m H.p
  have hp := H.p.keep K1 (fun g hg e => hne0 (by rw [hg, e]))
  have KW : Keep (fun _ => False) wr (w5.alloc (.cells #[.string t] 9)) := K5.alloc _
  have hp2 := hp.keep KW (fun _ _ => id)
  have KG := Keep.of_grown hgrow
  have hle := tlen_le low
  rw [own.len] at hle
  have o6 : OwnR 39 .u32 w6 w1.heap.size (some ⟨b, 0, none⟩) n3 c3 m := (own.keep0 KW).keep KG (fun k off e hk => by injection e with e; injection e with e _ _; rw [← e] at hk; exact hne0 hk.symm)
  have hGG : GG = 10 ^ 9 := rfl
  have hvs : v = v / GG * 10 ^ 9 + cr := by rw [dc, ← hGG]; exact (Nat.div_add_mod' v GG).symm
  have hcr : cr < 10 ^ 9 := by rw [dc, ← hGG]; exact Nat.mod_lt _ (by unfold GG; omega)
  have hT : TextSt V v ps := by
    rcases H.t with ⟨_, h0, _⟩ | h
    · omega
    · exact h
  refine ⟨?_, ?_, ?_, Nat.le_trans hle H.n, .inr ?_, ?_, ?_, by rw [List.length_append]; simp; omega⟩
  · have := o6.take hle
    rw [take_tlen low, dv] at this
    exact this
  · show w6.ownsRow _ 9 1 pv' (ps ++ [ch]).length ((ps ++ [ch]).map encStr)
    rw [List.length_append, List.map_append]
    rw [ht] at hown
    exact hown
  · refine (KA.trans KW).into KG (fun i hi => ?_)
    rcases hp2.2 with ⟨hn, _⟩ | ⟨g, cap, cur, hv2, hg, _⟩
    · rw [hn] at hi; cases hi
    · rw [hv2] at hi
      have : i = g := by simpa [Value.ownBlock] using hi
      omega
  · rcases hch with ⟨hq, e⟩ | ⟨hq, e⟩
    · rw [e]; exact hT.more hv hvs hcr hq
    · rw [e, hq]; exact hT.last hv (by rw [hq] at hvs; omega)
  · rw [List.length_append]
    have : v / GG < v := Nat.div_lt_self hv (by unfold GG; omega)
    have := H.s
    simp
    omega
  · rw [List.length_append]
    show v / GG * GG ^ (ps.length + 1) ≤ V
    rw [Nat.pow_succ, Nat.mul_comm (GG ^ _), ← Nat.mul_assoc]
    exact Nat.le_trans (Nat.mul_le_mul_right _ (Nat.div_mul_le_self v GG)) H.g
theorem new_str (w5 : World) (t : ByteArray) : ∀ j u, ([Value.string t] : List Value)[j]? = some u → (w5.alloc (.cells #[.string t] 9)).cell? ((⟨w5.heap.size, 0, none⟩ : Addr).add j) = some u := by
  intro j u hu
  match j with
  | 0 =>
    simp at hu
    subst hu
    rw [Addr.add_mid, cell_of_row _ _ _ _ _ _ (heap_alloc_new w5 _)]
    rfl
  | j + 1 => simp at hu
theorem repeat_one (z : Nat) : repeatL [48] z = List.replicate z 48 := by
  induction z with
  | zero => rfl
  | succ z ih => rw [repeatL, ih, List.replicate_succ]; rfl
theorem cat_str {t : ByteArray} {d : List UInt8} {z k : Nat} (ht : t = ⟨d.toArray⟩) (hz : z = k) : ({ data := (repeatL [48] z).toArray } : ByteArray) ++ t = ⟨(List.replicate k 48 ++ d).toArray⟩ := by
  rw [ht, hz, repeat_one]
  apply ByteArray.ext
  simp [ByteArray.data_append]
theorem dec_bound {V n : Nat} (hV : V < BB ^ n) (hn : n ≤ 9000) : (decDigits V).length ≤ 288001 := by
  have h1 : BB ^ n ≤ 10 ^ (32 * n) := by
    rw [BB_two, ← Nat.pow_mul]
    exact Nat.pow_le_pow_left (by omega) _
  have h2 : 10 ^ (32 * n) < 10 ^ (32 * n + 1) := Nat.pow_lt_pow_right (by omega) (by omega)
  have := dec_le (32 * n) V (by omega)
  omega
/-- What Reverse and Join make. -/
theorem text_end {wr w5 : World} {base g cap q : Nat} {ps : List (List UInt8)} (o : OwnS wr base (.slice (some ⟨g, 0, none⟩) ps.length cap) ps) (hg : g < wr.heap.size) (hw : w5 = putRow encStr (Sort.ahead wr q) g 0 ps.reverse.toArray) (hl : ps.length ≤ 100000) (hs : ps.reverse.flatten.length ≤ 1000000) :
    Calls Tryz.prog 110 #[.slice (some ⟨g, 0, none⟩) ps.length cap, .string ⟨#[]⟩] w5 fun e w' => e = .returned (.string ⟨(ps.reverse.flatten).toArray⟩) ∧ Keep (fun x => x = g) wr w' := by
  obtain ⟨k, hc⟩ := rev_post o hw
  have e1 : (ps.reverse.map fun s : List UInt8 => (⟨s.toArray⟩ : ByteArray)).length = ps.length := by simp
  have e2 : ((ps.reverse.map fun s : List UInt8 => (⟨s.toArray⟩ : ByteArray)).map (·.data.toList)) = ps.reverse := by
    rw [List.map_map, show ((fun x : ByteArray => x.data.toList) ∘ fun s : List UInt8 => (⟨s.toArray⟩ : ByteArray)) = id from funext fun _ => rfl, List.map_id]
  have hcap : ps.length ≤ cap := by
    rcases o.2 with ⟨hn, _⟩ | ⟨g2, cap2, cur2, hv, _, _, h1, _⟩
    · cases hn
    · injection hv with _ _ e3
      omega
  have J := Tryz.strings_Join g 0 cap (ps.reverse.map fun s : List UInt8 => (⟨s.toArray⟩ : ByteArray)) ⟨#[]⟩ w5 hc (Nat.lt_of_lt_of_le hg k.size) (by rw [e1]; omega) (by rw [e1]; exact hcap) (by rw [e2]; show (Lib.join ps.reverse []).length ≤ _; rw [join_empty]; omega)
  rw [e1, e2] at J
  have ej : Lib.join ps.reverse (⟨#[]⟩ : ByteArray).data.toList = ps.reverse.flatten := join_empty _
  rw [ej] at J
  refine J.mono ?_
  rintro e w' ⟨he, hb⟩
  exact ⟨he, k.join (Keep.of_below hb) (fun _ _ h => h.elim)⟩
theorem or_carry {c y : Nat} (hc : (c : Int) ≤ 999999999) (hy : y ≤ 4294967295) : bits BinOp.or IntKind.u64 ((c : Int) * 4294967296) (y : Int) = ((c * BB + y : Nat) : Int) := by
  have h := bits_join .u64 64 (by decide) (fun n h0 h1 => by rw [IntKind.wrap_u64]; omega) 32 ((c : Int) * 4294967296) (y : Int) (by omega) (by omega) (by omega) (by omega) (by omega) (by omega)
  rw [h]
  unfold BB
  omega
set_option maxRecDepth 100000 in
set_option maxHeartbeats 4000000 in
theorem text_any (neg : Bool) (A : Option Addr) (n c : Nat) (l : List Nat) (w : World) (h : LimbsAt w A n c l) (hm : n ≤ 9000) (htab : PowTab w) :
    Calls Tryz.prog 64 #[numArg neg A n c] w (StrPost (Lib.itoa (sval neg l)) w) := by
  have K : Keep (fun _ => False) w (w.alloc (.cells #[.bool neg, .slice A n c] 24)) := (Keep.refl _ _).alloc _
  have hb : (w.alloc (.cells #[.bool neg, .slice A n c] 24)).heap[w.heap.size]? = some (.cells #[.bool neg, .slice A n c] 24 (0, 0)) := heap_alloc_new w _
  have h1 := h.keep0 K
  have tl := tlen_le h1.low
  rw [h1.len] at tl
  have HTAB := Lib.hid htab
  clear htab
  go_enter Tryz.func64, Tryz.ntmps64
  go_wp2_with fail
  refine (trim_any A n c l _ h1).mono ?_
  rintro e w1x ⟨rfl, rfl⟩
  try dsimp only
  go_wp2_with fail
  refine (clone_any A (tlen l) c (limbs (lval l)) _ h1.trim).mono ?_
  rintro e w2 ⟨A2, n2, c2, rfl, own, k2⟩
  have hn2 : n2 ≤ 9000 := by
    have := own.len
    have e : (limbs (lval l)).length = tlen l := rfl
    omega
  have ST : TxSt (w.alloc (.cells #[.bool neg, .slice A n c] 24)) (lval l) (lval l) A2 n2 c2 (.slice none 0 0) [] w2 := ⟨own, World.ownsRow_nil _ _ _ _, k2, hn2, by
    rcases Nat.eq_zero_or_pos (lval l) with h0 | h0
    · exact .inl ⟨h0, h0, rfl⟩
    · exact .inr (.inr ⟨h0, by simp⟩), by simp, by simp, by simp⟩
  have HV := Lib.hid (show lval l < BB ^ n by have := val_lt h.low; rwa [h.len] at this)
  have HST := Lib.hid ST
  have HB := Lib.hid hb
  have HTB := Lib.hid (HTAB.out.keep K)
  have HK := Lib.hid K
  clear ST own k2 hb K h1 h tl hn2
  generalize w.heap.size = Bx at HB ⊢
  generalize w.alloc (.cells #[.bool neg, .slice A n c] 24) = w1 at HST HB HTB HK ⊢
  try dsimp only
  go_wp2_with fail
  go_loopw [3, 4] (fun mv pv wr => ∃ (v : Nat) (A : Option Addr) (n c : Nat) (ps : List (List UInt8)), mv = .slice A n c ∧ TxSt w1 (lval l) v A n c pv ps wr) (fun _ pv _ => match pv with | .slice _ k _ => lval l - k | _ => 0)
  case atStart => exact ⟨_, _, _, _, _, rfl, HST.out⟩
  case round =>
    clear HST
    obtain ⟨v, A3, n3, c3, ps, rfl, st⟩ := hrel
    have hn3 : (limbs v).length = n3 := st.m.len
    obtain ⟨P, cP, rfl⟩ := OwnS.form st.p
    by_cases h0 : v = 0
    · subst h0
      obtain rfl : n3 = 0 := by rw [← hn3]; unfold limbs; rw [digs_zero]; rfl
      have hbw := st.K.heap HB.out (by simp)
      have q0 : wr.cell? ⟨Bx, 0, none⟩ = some (.bool neg) := by rw [cell_of_row wr _ _ _ _ _ hbw]; rfl
      have HS := Lib.hid st
      clear st hbw hn3
      by_cases hps : ps = []
      · subst hps
        have hV : lval l = 0 := by
          rcases HS.out.t with ⟨h, _⟩ | ⟨_, h, _⟩ | ⟨h, _⟩
          · exact h
          · exact absurd rfl h
          · omega
        have e : Lib.itoa (sval neg l) = [48] := by rw [(sval_zero neg l).2 hV]; rw [show (0 : Int) = ((0 : Nat) : Int) from rfl, Lib.itoa_nonneg, dec_small (by omega)]; rfl
        have HE := Lib.hid e
        clear e hV
        go_wp2_with fail
        go_ret
        exact ⟨by rw [HE.out]; rfl, HK.out.trans HS.out.K⟩
      · have hk : 0 < ps.length := List.length_pos_iff.2 hps
        have hki : ((ps.length : Int) == 0) = false := by simp; omega
        have HPS := Lib.hid hps
        clear hps
        obtain ⟨g, cg, eg, _, hlt⟩ := World.ownsRow.form HS.out.p hk
        injection eg with e1 _ e3
        subst e1 e3
        have hgb := (World.ownsRow.lt HS.out.p g rfl).1
        have hfl : ps.reverse.flatten = decDigits (lval l) := by
          rcases HS.out.t with ⟨_, _, h⟩ | ⟨_, _, h⟩ | ⟨h, _⟩
          · exact absurd h HPS.out
          · exact h.symm
          · omega
        have hdb := dec_bound HV.out hm
        have hV1 : 1 ≤ lval l := by have := HS.out.s; omega
        have hpb := HS.out.b
        have HF := Lib.hid (And.intro hfl (And.intro hdb (And.intro hV1 (And.intro hpb (And.intro hgb hlt)))))
        clear hfl hdb hV1 hpb hgb hlt
        cases neg with
        | false =>
          go_wp2_with fail
          refine (Tryz.slices_Reverse_string g 0 cP ps wr (own_holds HS.out.p) (by have := HF.out.2.2.2.1; omega)).mono ?_
          rintro e w7 ⟨rfl, q, hw⟩
          have HW := Lib.hid hw
          clear hw
          try dsimp only
          go_wp2_with fail
          refine (text_end HS.out.p HF.out.2.2.2.2.2 HW.out (by have := HF.out.2.2.2.1; omega) (by rw [HF.out.1]; have := HF.out.2.1; omega)).mono ?_
          rintro e w8 ⟨rfl, k8⟩
          have R : StrPost (Lib.itoa (sval false l)) w (.returned (.string ⟨(ps.reverse.flatten).toArray⟩)) w8 := ⟨by rw [HF.out.1, show sval false l = ((lval l : Nat) : Int) from rfl, Lib.itoa_nonneg], HK.out.trans (HS.out.K.into k8 (by rintro i rfl; exact HF.out.2.2.2.2.1))⟩
          have HR := Lib.hid R
          clear R k8
          try dsimp only
          go_wp2_with fail
          go_ret
          exact HR.out
        | true =>
          obtain ⟨i9, h9, hz0, hz1, hz2⟩ := info_parts info9
          have KW : Keep (fun _ => False) wr (wr.alloc (.cells #[.string ⟨#[45]⟩] 9)) := (Keep.refl _ _).alloc _
          have HP6 := Lib.hid (HS.out.p.keep KW (fun _ _ => id))
          have HNEW := Lib.hid (new_str wr ⟨#[45]⟩)
          have HBS := Lib.hid (Nat.le_trans HS.out.K.size KW.size)
          have HKW := Lib.hid KW
          clear KW
          go_wp2_with (at_builtin; refine wpList_append_own _ rfl (.tmp 61) (.tmp 62) 159 rfl w1.heap.size 9 i9 (.string ⟨#[]⟩) 1 16 Tryz.underlying159 h9 hz0 hz1 hz2 rfl (by decide) _ _ _ rfl HP6.out ⟨wr.heap.size, 0, none⟩ 1 1 [.string ⟨#[45]⟩] rfl rfl HNEW.out ?a1 ?a2 ?a3 HBS.out ?_)
          case a1 => first | rfl | (intro u hu; simp at hu; subst hu; rfl)
          case a2 => have := HF.out.2.2.2.1; unfold maxLen; omega
          case a3 => have := HF.out.2.2.2.1; omega
          intro pv' w6 hown hgrow _
          have o6 : OwnS w6 w1.heap.size pv' (ps ++ [[45]]) := by
            show w6.ownsRow _ 9 1 pv' (ps ++ [[45]]).length ((ps ++ [[45]]).map encStr)
            rw [List.length_append, List.map_append]
            exact hown
          have K6 : Keep (fun _ => False) w1 w6 := (HS.out.K.trans HKW.out).into (Keep.of_grown hgrow) (fun i hi => by
            have e : i = g := by simpa [Value.ownBlock] using hi
            have := HF.out.2.2.2.2.1
            omega)
          obtain ⟨g2, cg2, eg2, _, hlt2⟩ := World.ownsRow.form hown (by omega)
          subst eg2
          have hgb2 := (World.ownsRow.lt hown g2 rfl).1
          obtain ⟨ps2, hps2⟩ : ∃ x, x = ps ++ [([45] : List UInt8)] := ⟨_, rfl⟩
          have el : ps.length + 1 = ps2.length := by rw [hps2]; simp
          rw [← hps2] at o6
          have efl : ps2.reverse.flatten = 45 :: decDigits (lval l) := by rw [hps2, ← HF.out.1]; simp
          have HEF := Lib.hid (And.intro efl el)
          have HO6 := Lib.hid o6
          have HX := Lib.hid (And.intro K6 (And.intro hlt2 hgb2))
          clear o6 K6 hlt2 hgb2 hown hgrow
          rw [el] at HO6 ⊢
          clear efl hps2 el
          go_wp2_with fail
          refine (Tryz.slices_Reverse_string g2 0 cg2 ps2 w6 (own_holds HO6.out) (by have := HF.out.2.2.2.1; have := HEF.out.2; omega)).mono ?_
          rintro e w7 ⟨rfl, q, hw⟩
          have HW := Lib.hid hw
          clear hw
          try dsimp only
          go_wp2_with fail
          refine (text_end HO6.out HX.out.2.1 HW.out (by have := HF.out.2.2.2.1; have := HEF.out.2; omega) (by rw [HEF.out.1]; have := HF.out.2.1; rw [List.length_cons]; omega)).mono ?_
          rintro e w8 ⟨rfl, k8⟩
          have R : StrPost (Lib.itoa (sval true l)) w (.returned (.string ⟨(ps2.reverse.flatten).toArray⟩)) w8 := ⟨by rw [HEF.out.1, show sval true l = -((lval l : Nat) : Int) from rfl, Lib.itoa_neg _ HF.out.2.2.1], HK.out.trans (HX.out.1.into k8 (by rintro i rfl; exact HX.out.2.2))⟩
          have HR := Lib.hid R
          clear R k8
          try dsimp only
          go_wp2_with fail
          go_ret
          exact HR.out
    · have hpos : 0 < n3 := by
        rw [← hn3]
        exact Nat.pos_of_ne_zero (fun e => h0 (by have := congrArg lval (List.eq_nil_of_length_eq_zero e); rw [lval_limbs] at this; exact this))
      obtain ⟨b, c', e1, hcn, hlt⟩ := World.ownsRow.form st.m hpos
      injection e1 with e1 _ e3
      subst e1 e3
      have HS := Lib.hid st
      have hn := st.n
      clear st hn3
      go_wp2_with fail
      have low3 : Low BB (limbs v) := digs_low BB2 _
      go_loopw [5, 6] (fun cv iv wi => ∃ (k : Nat) (m : List Nat) (cr : Nat), k ≤ n3 ∧ iv = .int .i64 ((k : Int) - 1) ∧ cv = .int .u64 (cr : Int) ∧ OwnR 39 .u32 wi w1.heap.size (some ⟨b, 0, none⟩) n3 c3 m ∧ DivSt BB GG k (limbs v) m cr ∧ Keep (fun x => x = b) wr wi) (fun _ iv _ => (RowKit.intOf iv + 1).toNat)
      case atStart =>
        refine ⟨n3, _, 0, Nat.le_refl _, rfl, rfl, HS.out.m, ?_, Keep.refl _ _⟩
        have := DivSt.start (B := BB) (D := GG) (by unfold GG; omega) low3
        rwa [HS.out.m.len] at this
      case round =>
        obtain ⟨k, m, cr, hk, rfl, rfl, own, D, kk⟩ := hrel
        rcases Nat.eq_zero_or_pos k with rfl | hkp
        · obtain ⟨dv, dc⟩ := D.done (by unfold GG; omega)
          have hcr : (cr : Int) ≤ 999999999 := by have := D.lt; unfold GG at this; omega
          have hlm := own.toLimbs D.low (by omega)
          have HO := Lib.hid own
          have HDV := Lib.hid (And.intro (show lval m = v / GG by rw [← lval_limbs v]; exact dv) (show cr = v % GG by rw [← lval_limbs v]; exact dc))
          have HL := Lib.hid D.low
          have HKK := Lib.hid kk
          clear dv dc D own kk
          go_wp2_with fail
          refine (trim_any _ n3 c3 m _ hlm).mono ?_
          rintro e w4 ⟨rfl, rfl⟩
          try dsimp only
          go_wp2_with fail
          have hbb := (HS.out.m.fresh b 0 rfl).1
          have KA : Keep (fun _ => False) w1 wr := HS.out.K.into HKK.out (by rintro i rfl; exact hbb)
          have hp := HS.out.p.keep HKK.out (fun g hg e => txt_ne HS.out.m HS.out.p (by rw [hg, e]))
          have HKA := Lib.hid KA
          have HPP := Lib.hid hp
          have hts : (decDigits cr).length ≤ 9 := dec_le 8 cr (by omega)
          refine (format_any cr _ (by omega) (HTB.out.keep KA)).mono ?_
          rintro e w5 ⟨rfl, k5⟩
          obtain ⟨t, ht⟩ : ∃ t : ByteArray, t = ⟨(decDigits cr).toArray⟩ := ⟨_, rfl⟩
          have hsz : (t.size : Int) ≤ 9 := by rw [ht]; simp [ByteArray.size]; omega
          rw [← ht]
          have HT := Lib.hid ht
          have htl := tlen_pos m
          have HTL := Lib.hid htl
          have HK5 := Lib.hid k5
          have hsz2 : (0 : Int) ≤ (t.size : Int) := by omega
          clear hp ht KA hts htl k5 hlm hbb
          by_cases hq : 0 < tlen m
          · have hqi : (0 : Int) < (tlen m : Int) := by omega
            obtain ⟨z, hz⟩ : ∃ z : Nat, (9 : Int) - (t.size : Int) = (z : Int) ∧ z = 9 - (decDigits cr).length := ⟨9 - (decDigits cr).length, by rw [HT.out]; simp [ByteArray.size]; have := dec_le 8 cr (by omega); omega, rfl⟩
            obtain ⟨hz, hz'⟩ := hz
            have HZ := Lib.hid hz'
            clear hz'
            try dsimp only
            go_wp2_with fail
            refine (Tryz.strings_Repeat ⟨#[48]⟩ z w5 (by omega) (by simp [ByteArray.size]; omega)).mono ?_
            rintro e w7 ⟨rfl, b7⟩
            have HK7 := Lib.hid (HK5.out.trans (Keep.of_below b7))
            have hcl : (9223372036854775807 < (repeatL [48] z).length + t.size) = False := eq_false (by rw [repeat_one, List.length_replicate]; omega)
            clear b7
            obtain ⟨i9, h9, hz0, hz1, hz2⟩ := info_parts info9
            have KW : Keep (fun _ => False) wr (w7.alloc (.cells #[.string (({ data := (repeatL [48] z).toArray } : ByteArray) ++ t)] 9)) := HK7.out.alloc _
            have HP6 := Lib.hid ((HPP.out).keep KW (fun _ _ => id))
            have HNEW := Lib.hid (new_str w7 (({ data := (repeatL [48] z).toArray } : ByteArray) ++ t))
            have HLEN := Lib.hid (len_bound HS.out.g (Nat.pos_of_ne_zero h0) HV.out hm)
            have HBS := Lib.hid (Nat.le_trans HKA.out.size KW.size)
            clear KW
            try dsimp only
            go_wp2_with (at_builtin; refine wpList_append_own _ rfl (.tmp 52) (.tmp 54) 159 rfl w1.heap.size 9 i9 (.string ⟨#[]⟩) 1 16 Tryz.underlying159 h9 hz0 hz1 hz2 rfl (by decide) _ _ _ rfl HP6.out ⟨w7.heap.size, 0, none⟩ 1 1 [.string (({ data := (repeatL [48] z).toArray } : ByteArray) ++ t)] rfl rfl HNEW.out ?a1 ?a2 ?a3 HBS.out ?_)
            case a1 => intro u hu; simp at hu; subst hu; rfl
            case a2 => have := HLEN.out; unfold maxLen; omega
            case a3 => have := HLEN.out; omega
            intro pv' w6 hown hgrow _
            have N := TxSt.next HS.out HLEN.out (Nat.pos_of_ne_zero h0) HKK.out HO.out HL.out HDV.out.1 HDV.out.2 HK7.out (cat_str HT.out HZ.out) (.inl ⟨by have := HTL.out; rw [← HDV.out.1]; omega, rfl⟩) hown hgrow
            obtain ⟨P', cP', rfl⟩ := OwnS.form N.p
            have hps := HS.out.s
            have HN := Lib.hid N
            clear N hown hgrow
            go_wp2_with fail
            go_roundw
            case rel => exact ⟨_, _, _, _, _, rfl, HN.out⟩
            case measure =>
              simp only [List.length_append, List.length_singleton]
              have := Nat.pos_of_ne_zero h0
              omega
          · have hqi : decide ((0 : Int) < (tlen m : Int)) = false := decide_eq_false (by omega)
            obtain ⟨i9, h9, hz0, hz1, hz2⟩ := info_parts info9
            have KW : Keep (fun _ => False) wr (w5.alloc (.cells #[.string t] 9)) := HK5.out.alloc _
            have HP6 := Lib.hid ((HPP.out).keep KW (fun _ _ => id))
            have HNEW := Lib.hid (new_str w5 t)
            have HLEN := Lib.hid (len_bound HS.out.g (Nat.pos_of_ne_zero h0) HV.out hm)
            have HBS := Lib.hid (Nat.le_trans HKA.out.size KW.size)
            clear KW
            try dsimp only
            go_wp2_with (at_builtin; refine wpList_append_own _ rfl (.tmp 52) (.tmp 54) 159 rfl w1.heap.size 9 i9 (.string ⟨#[]⟩) 1 16 Tryz.underlying159 h9 hz0 hz1 hz2 rfl (by decide) _ _ _ rfl HP6.out ⟨w5.heap.size, 0, none⟩ 1 1 [.string t] rfl rfl HNEW.out ?a1 ?a2 ?a3 HBS.out ?_)
            case a1 => intro u hu; simp at hu; subst hu; rfl
            case a2 => have := HLEN.out; unfold maxLen; omega
            case a3 => have := HLEN.out; omega
            intro pv' w6 hown hgrow _
            have N := TxSt.next HS.out HLEN.out (Nat.pos_of_ne_zero h0) HKK.out HO.out HL.out HDV.out.1 HDV.out.2 HK5.out HT.out (.inr ⟨by have := HTL.out; rw [← HDV.out.1]; omega, rfl⟩) hown hgrow
            obtain ⟨P', cP', rfl⟩ := OwnS.form N.p
            have hps := HS.out.s
            have HN := Lib.hid N
            clear N hown hgrow
            go_wp2_with fail
            go_roundw
            case rel => exact ⟨_, _, _, _, _, rfl, HN.out⟩
            case measure =>
              simp only [List.length_append, List.length_singleton]
              have := Nat.pos_of_ne_zero h0
              omega
        · obtain ⟨k, rfl⟩ : ∃ j, k = j + 1 := ⟨k - 1, by omega⟩
          have hkl : k < n3 := by omega
          have hkl2 : k < (limbs v).length := by rw [HS.out.m.len]; exact hkl
          obtain ⟨s1, s2⟩ := D.step (by unfold BB; omega) (by unfold GG; omega) low3 hkl2
          have hy := low_cast D.low k
          have hcr : (cr : Int) ≤ 999999999 := by have := D.lt; unfold GG at this; omega
          obtain ⟨b', o', e1, _, hcx⟩ := own.row.2 k hkl
          injection e1 with e1
          injection e1 with e1 e2 _
          subst e1 e2
          rw [Nat.zero_add] at hcx
          have hfz := own.frozen _ _ rfl k
          obtain ⟨y, hyy⟩ : ∃ y, y = m.getD k 0 := ⟨_, rfl⟩
          rw [← hyy] at s1 s2 hy hcx
          have hor := or_carry hcr (y := y) (by omega)
          obtain ⟨x, hx⟩ : ∃ x, x = cr * BB + y := ⟨_, rfl⟩
          rw [← hx] at s1 s2 hor
          have hxl : (x : Int) ≤ 4300000000000000000 := by rw [hx]; unfold BB; omega
          have hq : (x : Int) / 1000000000 = ((x / GG : Nat) : Int) := by unfold GG; omega
          have hr : (x : Int) % 1000000000 = ((x % GG : Nat) : Int) := by unfold GG; omega
          have ek : ((k + 1 : Nat) : Int) - 1 = (k : Int) := by omega
          rw [ek]
          have own2 := own.set hkl (x / GG)
          have kk2 : Keep (fun z => z = b) _ _ := kk.setCell (p := ⟨b, k, none⟩) (.inl rfl) (.int .u32 ((x / GG : Nat) : Int))
          have HO := Lib.hid own2
          have HD := Lib.hid s2
          have HKK := Lib.hid kk2
          have HQ := Lib.hid hq
          have HR := Lib.hid hr
          have hql : (x : Int) / 1000000000 ≤ 4294967295 := by rw [hq]; have := s1; unfold BB at this; generalize x / GG = z at *; omega
          clear own own2 kk kk2 D s1 s2 hyy hx hq hr ek hkl2 low3
          go_wp2_with fail
          go_roundw
          case rel => exact ⟨k, _, _, by omega, by go_num, by rw [HR.out], by rw [HQ.out]; exact HO.out, HD.out, by rw [HQ.out]; exact HKK.out⟩
          case measure => simp [RowKit.intOf]
/-- A row times ten, with a digit. -/
def decF (r : List Nat) (dig k c : Nat) : Nat := 10 * r.getD k 0 + if k = 0 then dig else c
theorem dec_inv {B : Nat} (hB : 10 ≤ B) {r : List Nat} (hr : Low B r) {dig : Nat} (hb : dig ≤ 9) : ∀ k, val B (rowL B (decF r dig) (k + 1)) + B ^ (k + 1) * rowC B (decF r dig) (k + 1) = 10 * val B (r.take (k + 1)) + dig ∧ rowC B (decF r dig) (k + 1) ≤ 9
  | 0 => by
    have x := hr.getD (by omega) 0
    refine ⟨?_, ?_⟩
    · rw [val_rowL_succ, val_take_succ]
      simp [rowL, val, decF]
    · show decF r dig 0 0 / B ≤ 9
      unfold decF
      rw [if_pos rfl]
      have := (Nat.div_lt_iff_lt_mul (by omega : 0 < B)).2 (show 10 * r.getD 0 0 + dig < 10 * B by omega)
      omega
  | k + 1 => by
    obtain ⟨h1, h2⟩ := dec_inv hB hr hb k
    have x := hr.getD (by omega) (k + 1)
    have e : decF r dig (k + 1) (rowC B (decF r dig) (k + 1)) = 10 * r.getD (k + 1) 0 + rowC B (decF r dig) (k + 1) := by
      unfold decF
      rw [if_neg (by omega)]
    refine ⟨?_, ?_⟩
    · rw [val_rowL_succ, val_take_succ, e, Nat.mul_add, Nat.mul_add, Nat.mul_left_comm]
      omega
    · show decF r dig (k + 1) (rowC B (decF r dig) (k + 1)) / B ≤ 9
      rw [e]
      have := (Nat.div_lt_iff_lt_mul (by omega : 0 < B)).2 (show 10 * r.getD (k + 1) 0 + rowC B (decF r dig) (k + 1) < 10 * B by omega)
      omega
theorem dec_val {B : Nat} (hB : 10 ≤ B) {r : List Nat} (hr : Low B r) {dig : Nat} (hb : dig ≤ 9) : val B (rowL B (decF r dig) (r.length + 1)) = 10 * val B r + dig := by
  obtain ⟨h1, _⟩ := dec_inv hB hr hb r.length
  rw [List.take_of_length_le (Nat.le_succ _)] at h1
  rcases Nat.eq_zero_or_pos (rowC B (decF r dig) (r.length + 1)) with h0 | h0
  · rw [h0] at h1; omega
  · have h3 := val_lt hr
    have : B ^ (r.length + 1) * 1 ≤ B ^ (r.length + 1) * rowC B (decF r dig) (r.length + 1) := Nat.mul_le_mul_left _ h0
    have h4 : B ^ r.length * 10 ≤ B ^ r.length * B := Nat.mul_le_mul_left _ hB
    rw [Nat.pow_succ] at this
    rw [Nat.pow_succ] at h1
    omega
theorem dec_bound2 {B : Nat} (hB : 10 ≤ B) {r : List Nat} (hr : Low B r) {dig : Nat} (hb : dig ≤ 9) (k : Nat) : decF r dig k (rowC B (decF r dig) k) < 10 * B ∧ rowC B (decF r dig) k ≤ 9 := by
  have x := hr.getD (by omega) k
  have hc : rowC B (decF r dig) k ≤ 9 := by
    cases k with
    | zero => show 0 ≤ 9; omega
    | succ k => exact (dec_inv hB hr hb k).2
  refine ⟨?_, hc⟩
  unfold decF
  unfold decF at hc
  split <;> omega
open Go.RowKit
set_option maxRecDepth 100000 in
set_option maxHeartbeats 800000 in
theorem clo66 (A : Option Addr) (n c : Nat) (r : List Nat) (dig b1 b2 i cr : Nat) (w : World) (h : LimbsAt w A n c r) (hi : i ≤ 1000000) (hd : dig ≤ 9) (hc : cr ≤ 9)
    (c1 : w.cell? ⟨b1, 0, none⟩ = some (.int .u8 ((48 + dig : Nat) : Int))) (c2 : w.cell? ⟨b2, 0, none⟩ = some (.slice A n c)) :
    Calls Tryz.prog 114 #[.int .i64 (i : Int), .int .u64 (cr : Int), .pointer (some ⟨b1, 0, none⟩), .pointer (some ⟨b2, 0, none⟩)] w (U64Post (decF r dig i cr) w) := by
  have hx := low_cast h.low i
  obtain ⟨x, hxx⟩ : ∃ x, x = r.getD i 0 := ⟨_, rfl⟩
  have E : decF r dig i cr = 10 * x + if i = 0 then dig else cr := by rw [hxx]; rfl
  have HL := Lib.hid (limb_any A n c r i w h hi)
  rw [← hxx] at hx HL
  rw [E]
  clear hxx E h
  have e8 : ((48 + dig : Nat) : Int) - 48 = (dig : Int) := by omega
  by_cases h0 : i = 0
  · subst h0
    rw [if_pos rfl]
    go_enter Tryz.func114, Tryz.ntmps114
    go_wp2_with fail
    refine HL.out.mono ?_
    rintro e w' ⟨rfl, rfl⟩
    try dsimp only
    go_wp2_with fail
    go_ret
    exact ⟨by simp; try omega, Keep.refl _ _⟩
  · rw [if_neg h0]
    have hb0 : ((i : Int) == 0) = false := by simp; omega
    go_enter Tryz.func114, Tryz.ntmps114
    go_wp2_with fail
    refine HL.out.mono ?_
    rintro e w' ⟨rfl, rfl⟩
    try dsimp only
    go_wp2_with fail
    go_ret
    exact ⟨by simp; try omega, Keep.refl _ _⟩
theorem dig_row (Bc b1 : Nat) (A : Option Addr) (n c : Nat) (r : List Nat) (dig : Nat) (w : World) (h : LimbsAt w A n c r) (hn : n ≤ 9000) (hb : w.heap[Bc]? = some (.cells #[.slice A n c] 22 (0, 0))) (hb1 : w.heap[b1]? = some (.cells #[.int .u8 ((48 + dig : Nat) : Int)] 5 (0, 0))) (hd : dig ≤ 9) :
    Calls Tryz.prog 113 #[.int .i64 ((n + 1 : Nat) : Int), .func (.func 114) #[] #[.pointer (some ⟨b1, 0, none⟩), .pointer (some ⟨Bc, 0, none⟩)]] w (OwnPost (rowL BB (decF r dig) (n + 1)) w) := by
  have hBB : 10 ≤ BB := by unfold BB; omega
  refine row66 (n + 1) b1 Bc (decF r dig) w (by omega) (fun i _ => ?_) (fun i w' hi K' => ?_)
  · have := (dec_bound2 hBB h.low hd i).1
    unfold BB at this
    unfold BB
    omega
  · exact clo66 A n c r dig b1 Bc i _ w' (h.keep0 K') (by omega) hd (dec_bound2 hBB h.low hd i).2 (by rw [cell_of_row w' _ _ _ _ _ (K'.heap hb1 (by simp))]; rfl) (by rw [cell_of_row w' _ _ _ _ _ (K'.heap hb (by simp))]; rfl)
open Go.RowKit Go.Sort Go.Lib
theorem trimDigits_any (s : ByteArray) (w : World) (hs : s.size ≤ 9223372036854775807) :
    Calls Tryz.prog 112 #[.string s, .string ⟨#[48, 49, 50, 51, 52, 53, 54, 55, 56, 57]⟩] w fun e w' => e = .returned (.string ⟨(Lib.trimS s.data.toList [48, 49, 50, 51, 52, 53, 54, 55, 56, 57]).toArray⟩) ∧ Keep (fun _ => False) w w' := by
  refine (Any.strings_Trim_laid Tryz.lays160 (by kernel_rfl) s ⟨#[48, 49, 50, 51, 52, 53, 54, 55, 56, 57]⟩ w hs (by decide) (ascii_of_all (by decide))).mono ?_
  rintro e w' ⟨rfl, hb⟩
  exact ⟨rfl, Keep.of_below hb⟩
open Go.Lib
theorem drop_nil {p : UInt8 → Bool} : ∀ l : List UInt8, l.dropWhile p = [] ↔ ∀ x ∈ l, p x = true
  | [] => by simp
  | x :: l => by
    by_cases h : p x = true
    · simp [h, drop_nil l]
    · simp [h]
theorem drop_head {p : UInt8 → Bool} : ∀ (l : List UInt8) (x : UInt8) (xs : List UInt8), l.dropWhile p = x :: xs → p x = false
  | [], _, _, h => by simp at h
  | y :: l, x, xs, h => by
    by_cases hy : p y = true
    · rw [List.dropWhile_cons, if_pos hy] at h
      exact drop_head l x xs h
    · rw [List.dropWhile_cons, if_neg hy] at h
      injection h with h1 _
      rw [← h1]
      simpa using hy
theorem trim_nil (l cs : List UInt8) : Lib.trimS l cs = [] ↔ ∀ x ∈ l, cs.contains x = true := by
  unfold Lib.trimS Lib.trimLeftS Lib.trimRightS
  rw [drop_nil]
  constructor
  · intro h
    cases hd : l.reverse.dropWhile (cs.contains ·) with
    | nil =>
      have := (drop_nil _).1 hd
      intro x hx
      exact this x (by simpa using hx)
    | cons x xs =>
      have h1 := drop_head _ _ _ hd
      rw [hd] at h
      have := h x (by simp)
      rw [this] at h1
      cases h1
  · intro h x hx
    have hx2 : x ∈ l.reverse.dropWhile (cs.contains ·) := by simpa using hx
    exact h x (by simpa using (List.dropWhile_sublist (cs.contains ·)).mem hx2)
/-- The value of decimal digits, the first the greatest. -/
def decVal (l : List UInt8) : Nat := l.foldl (fun n b => 10 * n + (b.toNat - 48)) 0
theorem decVal_snoc (l : List UInt8) (b : UInt8) : decVal (l ++ [b]) = 10 * decVal l + (b.toNat - 48) := by
  unfold decVal; simp
/-- Is a byte a digit? -/
def digB (b : UInt8) : Bool := [48, 49, 50, 51, 52, 53, 54, 55, 56, 57].contains b
theorem digB_iff (b : UInt8) : digB b = true ↔ 48 ≤ b.toNat ∧ b.toNat ≤ 57 := by
  revert b
  have H : ∀ i : Fin 256, digB (UInt8.ofNat i.val) = true ↔ 48 ≤ i.val ∧ i.val ≤ 57 := by decide +kernel
  intro b
  have := H ⟨b.toNat, b.toNat_lt⟩
  simpa using this
theorem trim_digits (l : List UInt8) : Lib.trimS l [48, 49, 50, 51, 52, 53, 54, 55, 56, 57] = [] ↔ l.all digB = true := by
  rw [trim_nil, List.all_eq_true]
  rfl
theorem decVal_take_succ (l : List UInt8) (k : Nat) (h : k < l.length) : decVal (l.take (k + 1)) = 10 * decVal (l.take k) + (l[k].toNat - 48) := by
  rw [List.take_succ_eq_append_getElem h, decVal_snoc]
theorem decVal_take_le (l : List UInt8) : ∀ k j, decVal (l.take k) ≤ decVal (l.take (k + j))
  | _, 0 => Nat.le_refl _
  | k, j + 1 => by
    have h := decVal_take_le l k j
    by_cases hl : k + j < l.length
    · have := decVal_take_succ l (k + j) hl
      show _ ≤ decVal (l.take (k + j + 1))
      omega
    · rw [List.take_of_length_le (by omega : l.length ≤ k + j)] at h
      show _ ≤ decVal (l.take (k + j + 1))
      rw [List.take_of_length_le (by omega : l.length ≤ k + j + 1)]
      exact h
theorem decVal_pre (l : List UInt8) (k : Nat) : decVal (l.take k) ≤ decVal l := by
  have h := decVal_take_le l k l.length
  rwa [List.take_of_length_le (by omega : l.length ≤ k + l.length)] at h
/-- Has a text a sign? -/
def signB (l : List UInt8) : Bool := Lib.hasPrefix l [45] || Lib.hasPrefix l [43]
/-- What is behind the sign. -/
def body (l : List UInt8) : List UInt8 := if signB l then l.drop 1 else l
/-- The number that a text means. -/
def parseV (l : List UInt8) : Option Int :=
  if body l = [] ∨ (body l).all digB = false then none
  else some (if Lib.hasPrefix l [45] then -(decVal (body l) : Int) else (decVal (body l) : Int))
theorem sval_dec (neg : Bool) (n : Nat) : sval neg (limbs n) = if neg then -(n : Int) else (n : Int) := by
  unfold sval
  rw [show lval (limbs n) = n from val_digs BB2 n]
theorem fits_grow {l : List UInt8} {k : Nat} {neg : Bool} (h : 48 < (limbs (decVal (l.take k))).length) : ¬ Fits (if neg then -(decVal l : Int) else (decVal l : Int)) := by
  intro f
  rw [Fits_iff] at f
  have e : (if neg = true then -(decVal l : Int) else (decVal l : Int)).natAbs = decVal l := by cases neg <;> simp
  rw [e] at f
  have := decVal_pre l k
  exact absurd ((digs_len_le BB2 (decVal (l.take k)) 48).2 (Nat.lt_of_le_of_lt this f)) (Nat.not_le.2 h)
open Go.RowKit Go.Sort Go.Lib
def ParsePost (l : List UInt8) (w : World) (e : Ending) (w' : World) : Prop :=
  match parseV l with
  | none => e = .returned (.tuple #[numArg false none 0 0, .int .i64 9]) ∧ Keep (fun _ => False) w w'
  | some x => ResPost x w e w'
theorem prefix_drop {s : ByteArray} {b : UInt8} (h : Lib.hasPrefix s.data.toList [b] = true) : (1 : Int) ≤ (s.size : Int) ∧ (s.extract 1 s.size).data.toList = s.data.toList.drop 1 := by
  have h1 : 1 ≤ s.data.toList.length := by
    cases hl : s.data.toList with
    | nil => rw [hl] at h; cases h
    | cons _ _ => simp
  have h2 : s.data.toList.length = s.size := (Lib.size_eq s).symm
  refine ⟨by omega, ?_⟩
  rw [Lib.extract_data, ← h2, ← List.length_drop, List.take_length]
/-- What is known before a round of Parse. -/
structure PrSt (w : World) (Bx Bm bb : Nat) (bv : Obj) (l : List UInt8) (k : Nat) (A : Option Addr) (n c : Nat) (wr : World) : Prop where
  x : wr.heap[Bx]? = some (.cells #[.bool false, .slice none 0 0] 24 (0, 0))
  m : wr.heap[Bm]? = some (.cells #[.slice A n c] 22 (0, 0))
  b : wr.heap[bb]? = some bv
  own : OwnR 39 .u32 wr (Bm + 1) A n c (limbs (decVal (l.take k)))
  n : n ≤ 48
  K : Keep (fun _ => False) w wr
  xm : Bx ≠ Bm
  bm : bb ≠ Bm
  wm : w.heap.size ≤ Bm
theorem PrSt.next {w wr w4 : World} {Bx Bm bb : Nat} {bv : Obj} {l : List UInt8} {k n c : Nat} {A : Option Addr} (H : PrSt w Bx Bm bb bv l k A n c wr) {u : Value} (hk : k < l.length) (hd : digB l[k] = true)
    {A' : Option Addr} {c' : Nat} (own : OwnR 39 .u32 w4 (wr.alloc (.cells #[u] 5)).heap.size A' (n + 1) c' (rowL BB (decF (limbs (decVal (l.take k))) (l[k].toNat - 48)) (n + 1))) (k4 : Keep (fun _ => False) (wr.alloc (.cells #[u] 5)) w4)
    (t : Nat) (ht : t = tlen (rowL BB (decF (limbs (decVal (l.take k))) (l[k].toNat - 48)) (n + 1))) :
    t = (limbs (decVal (l.take (k + 1)))).length ∧ (t ≤ 48 → PrSt w Bx Bm bb bv l (k + 1) A' t c' (w4.setCell ⟨Bm, 0, none⟩ (.slice A' t c'))) := by
  have hn : n = (limbs (decVal (l.take k))).length := H.own.len.symm
  have hdg := (digB_iff _).1 hd
  have hBB : 10 ≤ BB := by unfold BB; omega
  have low : Low BB (limbs (decVal (l.take k))) := digs_low BB2 _
  have E : lval (rowL BB (decF (limbs (decVal (l.take k))) (l[k].toNat - 48)) (n + 1)) = decVal (l.take (k + 1)) := by
    rw [hn, decVal_take_succ l k hk]
    have := dec_val hBB low (dig := l[k].toNat - 48) (by omega)
    rw [show val BB (limbs (decVal (l.take k))) = decVal (l.take k) from val_digs BB2 _] at this
    exact this
  have low2 : Low BB (rowL BB (decF (limbs (decVal (l.take k))) (l[k].toNat - 48)) (n + 1)) := rowL_low (by omega) _ _
  have e1 : t = (limbs (decVal (l.take (k + 1)))).length := by rw [ht, ← E]; rfl
  refine ⟨e1, fun ht48 => ?_⟩
  have tl := tlen_le low2
  rw [own.len] at tl
  have KA : Keep (fun _ => False) wr w4 := ((Keep.refl _ _).alloc _).trans k4
  have hx4 := KA.heap H.x (by simp)
  have hm4 := KA.heap H.m (by simp)
  have hb4 := KA.heap H.b (by simp)
  have KS : Keep (fun x => x = Bm) w4 (w4.setCell ⟨Bm, 0, none⟩ (.slice A' t c')) := setCell_keep (S := fun x => x = Bm) rfl 0 _
  have hsz := heap_lt H.m
  have htl : t ≤ n + 1 := by rw [ht]; exact tl
  have o2 := own.take htl
  rw [show List.take t (rowL BB (decF (limbs (decVal (l.take k))) (l[k].toNat - 48)) (n + 1)) = limbs (decVal (l.take (k + 1))) from by rw [ht, take_tlen low2, E]] at o2
  refine ⟨KS.heap hx4 H.xm, ?_, KS.heap hb4 H.bm, ?_, ht48, (H.K.trans KA).into KS (by rintro i rfl; exact H.wm), H.xm, H.bm, H.wm⟩
  · simp [World.setCell, Array.getElem?_modify, hm4]
  · refine (OwnR.mono o2 (base' := Bm + 1) (by simp; omega)).keep KS (fun b off e hb => ?_)
    have := (o2.fresh b off e).1
    simp at this
    omega
/-- Before the first round. -/
theorem PrSt.start {w W w3 : World} {Bx Bm bb : Nat} {C : Array Value} {fr : Nat × Nat} {l : List UInt8} (hx : W.heap[Bx]? = some (.cells #[.bool false, .slice none 0 0] 24 (0, 0))) (hm : W.heap[Bm]? = some (.cells #[.slice none 0 0] 22 (0, 0))) (K : Keep (fun _ => False) w W) (hxm : Bx ≠ Bm) (hwm : w.heap.size ≤ Bm) (hbb : bb = W.heap.size)
    (e : w3 = W.drew.alloc (.cells C 5 fr)) : PrSt w Bx Bm bb (.cells C 5 fr) l 0 none 0 0 w3 := by
  have k : Keep (fun _ => False) W w3 := by rw [e]; exact (Keep.refl _ _).drew.alloc _
  have hb3 : w3.heap[bb]? = some (.cells C 5 fr) := by
    rw [e, hbb]
    show (W.heap.push (.cells C 5 fr))[W.heap.size]? = _
    simp
  refine ⟨k.heap hx (by simp), k.heap hm (by simp), hb3, ?_, by omega, K.trans k, hxm, ?_, hwm⟩
  · rw [List.take_zero]
    show OwnR 39 .u32 w3 _ none 0 0 (limbs 0)
    unfold limbs
    rw [digs_zero]
    exact OwnR.nil _ _ _ _
  · have := heap_lt hm; omega
theorem PrSt.byte {w wr : World} {Bx Bm bb : Nat} {d : ByteArray} {cap : Nat} {fr : Nat × Nat} {l : List UInt8} {k n c : Nat} {A : Option Addr} (H : PrSt w Bx Bm bb (.cells (bytesRow d cap) 5 fr) l k A n c wr) (hd : d.data.toList = l) (hk : k < l.length) : wr.cell? ⟨bb, k, none⟩ = some (.int .u8 (l[k].toNat : Int)) := by
  subst hd
  have hk2 : k < d.data.size := by simpa using hk
  unfold World.cell?
  rw [H.b]
  have := bytesRow_at d cap k hk2
  simp only [this]
  simp
set_option maxRecDepth 100000 in
set_option maxHeartbeats 4000000 in
theorem parse_neg (s : ByteArray) (w : World) (hs : s.size ≤ 1000000) (hneg : Lib.hasPrefix s.data.toList [45] = true) : Calls Tryz.prog 66 #[.string s] w (ParsePost s.data.toList w) := by
  have K : Keep (fun _ => False) w (w.alloc (.cells #[.bool false, .slice none 0 0] 24)) := (Keep.refl _ _).alloc _
  have hb : (w.alloc (.cells #[.bool false, .slice none 0 0] 24)).heap[w.heap.size]? = some (.cells #[.bool false, .slice none 0 0] 24 (0, 0)) := heap_alloc_new w _
  have HK := Lib.hid K
  have HB := Lib.hid hb
  obtain ⟨h1, h2⟩ := prefix_drop hneg
  have hbody : body s.data.toList = s.data.toList.drop 1 := by unfold body signB; rw [hneg]; rfl
  rw [← hbody] at h2
  have HN := Lib.hid hneg
  
  have H2 := Lib.hid h2
  have hsz : (body s.data.toList).length ≤ 1000000 := by
    unfold body
    have := Lib.size_eq s
    split
    · rw [List.length_drop]; omega
    · omega
  have HSZ := Lib.hid (show ((s.extract 1 s.size)).size ≤ 9223372036854775807 from by rw [Lib.size_eq, h2]; omega)
  clear K hb hbody h2 hneg
  by_cases hE : body s.data.toList = []
  · have hP : parseV s.data.toList = none := by unfold parseV; rw [if_pos (.inl hE)]
    have he : (s.extract 1 s.size).toList.isEmpty = true := by rw [Lib.toList_data, H2.out, hE]; rfl
    have HPV := Lib.hid hP
    clear hE hP hsz
    go_enter Tryz.func66, Tryz.ntmps66
    go_wp2_with fail
    refine (Tryz.strings_HasPrefix s ⟨#[45]⟩ _).mono ?_
    rintro e w1 ⟨rfl, rfl⟩
    rw [show Lib.hasPrefix s.data.toList (⟨#[45]⟩ : ByteArray).data.toList = true from HN.out]
    try dsimp only
    go_wp2_with fail
    have KE : Keep (fun _ => False) w (w.alloc (.cells #[.bool false, .slice none 0 0] 24)) := HK.out
    refine bodyPost_ret (v := .tuple #[numArg false none 0 0, .int .i64 9]) ?_ rfl ?_
    · simp [results, Tryz.results66, go_sem]
    · unfold ParsePost
      rw [HPV.out]
      exact ⟨rfl, KE⟩
  have he : (s.extract 1 s.size).toList.isEmpty = false := by
    rw [Lib.toList_data, H2.out]
    cases h : body s.data.toList with
    | nil => exact absurd h hE
    | cons _ _ => rfl
  by_cases hA : (body s.data.toList).all digB = true
  · have hP : parseV s.data.toList = some (if true = true then -(decVal (body s.data.toList) : Int) else (decVal (body s.data.toList) : Int)) := by
      unfold parseV
      rw [if_neg (by simp [hE, hA]), HN.out]
    have HPV := Lib.hid hP
    have HA := Lib.hid hA
    clear hE hP hA
    go_enter Tryz.func66, Tryz.ntmps66
    go_wp2_with fail
    refine (Tryz.strings_HasPrefix s ⟨#[45]⟩ _).mono ?_
    rintro e w1 ⟨rfl, rfl⟩
    rw [show Lib.hasPrefix s.data.toList (⟨#[45]⟩ : ByteArray).data.toList = true from HN.out]
    try dsimp only
    go_wp2_with fail
    refine (trimDigits_any (s.extract 1 s.size) _ HSZ.out).mono ?_
    rintro e w2 ⟨rfl, k2⟩
    obtain ⟨t, ht⟩ : ∃ t : ByteArray, t = ⟨(Lib.trimS (s.extract 1 s.size).data.toList [48, 49, 50, 51, 52, 53, 54, 55, 56, 57]).toArray⟩ := ⟨_, rfl⟩
    rw [← ht]
    have hte : t.toList.isEmpty = true := by
      rw [Lib.toList_data, ht]
      show (Lib.trimS (s.extract 1 s.size).data.toList [48, 49, 50, 51, 52, 53, 54, 55, 56, 57]).isEmpty = true
      rw [H2.out]
      rw [(trim_digits _).2 HA.out]; rfl
    have K2 := HK.out.trans k2
    have hb2 := k2.heap HB.out (by simp)
    clear ht
    try dsimp only
    generalize hBx : w.heap.size = Bx at hb2 ⊢
    have HBX := Lib.hid (Nat.le_of_eq hBx)
    have HB2 := Lib.hid hb2
    clear hBx hb2 k2
    have HLT := Lib.hid (heap_lt HB2.out)
    go_wp2_with fail
    have KW : Keep (fun _ => False) w (w2.alloc (.cells #[.slice none 0 0] 22)) := K2.alloc _
    have hm : (w2.alloc (.cells #[.slice none 0 0] 22)).heap[w2.heap.size]? = some (.cells #[.slice none 0 0] 22 (0, 0)) := heap_alloc_new w2 _
    have hx : (w2.alloc (.cells #[.slice none 0 0] 22)).heap[Bx]? = some (.cells #[.bool false, .slice none 0 0] 24 (0, 0)) := by
      rw [Below.heap_alloc _ _ _ HLT.out]; exact HB2.out
    have hxm : Bx ≠ w2.heap.size := by have := HLT.out; omega
    have hwm : w.heap.size ≤ w2.heap.size := K2.size
    generalize w2.heap.size = Bm at hm hxm hwm ⊢
    generalize w2.alloc (.cells #[.slice none 0 0] 22) = W at KW hm hx ⊢
    have hconv := run_bytes_of_string (P := Tryz.prog) W 9 129 5 (s.extract 1 s.size) rfl rfl rfl
    have hds : ((s.extract 1 s.size)).size = (body s.data.toList).length := (Lib.size_eq _).trans (congrArg List.length H2.out)
    have HST := Lib.hid (fun (w3 : World) (bb : Nat) (C : Array Value) (fr : Nat × Nat) (hbb : bb = W.heap.size) (e : w3 = W.drew.alloc (.cells C 5 fr)) => PrSt.start (l := body s.data.toList) hx hm KW hxm hwm hbb e)
    clear HB HK HB2 K2 KW hm hx hxm hwm HLT
    generalize hcap : grownCap W ((s.extract 1 s.size)).size 0 5 = cap at hconv
    clear hcap
    generalize hC : bytesRow (s.extract 1 s.size) cap = C at hconv
    generalize hfr : (C.size, C.size + 1) = fr at hconv
    clear hfr
    generalize hw3 : W.drew.alloc (.cells C 5 fr) = w3 at hconv
    generalize hbb : W.heap.size = bb at hconv
    have hst := HST.out w3 bb C fr hbb.symm hw3.symm
    have hbyte := fun (k n c : Nat) (A : Option Addr) (wr : World) (H : PrSt w Bx Bm bb (.cells C 5 fr) (body s.data.toList) k A n c wr) (hk : k < (body s.data.toList).length) => PrSt.byte (d := (s.extract 1 s.size)) (cap := cap) (by rw [hC]; exact H) H2.out hk
    rw [hds] at hconv
    clear HST hw3 hbb hC hds
    have HBY := Lib.hid hbyte
    have HST := Lib.hid hst
    clear hbyte hst
    generalize hl : body s.data.toList = l at *
    clear hl
    rw [hconv]
    try dsimp only
    go_wp2_with fail
    clear hconv he hte h1
    go_loopw [30] (fun iv wr => ∃ (k : Nat) (A : Option Addr) (n c : Nat), k ≤ l.length ∧ iv = .int .i64 (k : Int) ∧ PrSt w Bx Bm bb (.cells C 5 fr) l k A n c wr) (fun iv _ => l.length - (RowKit.intOf iv).toNat)
    case atStart => exact ⟨0, _, _, _, Nat.zero_le _, rfl, HST.out⟩
    case round =>
      clear HST
      obtain ⟨k, A, n, c, hk, rfl, st⟩ := hrel
      have HS := Lib.hid st
      have cm : wr.cell? ⟨Bm, 0, none⟩ = some (.slice A n c) := by rw [cell_of_row wr _ _ _ _ _ st.m]; rfl
      have hBm := heap_lt st.m
      have hn := st.n
      clear st
      by_cases hkl : k < l.length
      · have i0 : (0 : Int) ≤ (k : Int) := by omega
        have i1 : (k : Int) < (l.length : Int) := by omega
        have hby := HBY.out k n c A wr HS.out hkl
        have hdg := List.all_eq_true.1 HA.out _ (List.getElem_mem hkl)
        have HD := Lib.hid hdg
        have hdg2 := (digB_iff _).1 hdg
        have e48 : (l[k].toNat : Int) = ((48 + (l[k].toNat - 48) : Nat) : Int) := by omega
        have HDG := Lib.hid (And.intro hdg2 e48)
        rw [e48] at hby
        obtain ⟨dg, hdge⟩ : ∃ x, x = l[k].toNat - 48 := ⟨_, rfl⟩
        have HDGE := Lib.hid hdge
        rw [← hdge] at hby
        clear hdg hdg2 e48 hdge
        have HR := Lib.hid (show Calls Tryz.prog 113 #[.int .i64 ((n : Int) + 1), .func (.func 114) #[] #[.pointer (some ⟨wr.heap.size, 0, none⟩), .pointer (some ⟨Bm, 0, none⟩)]] (wr.alloc (.cells #[.int .u8 (48 + (dg : Int))] 5)) (OwnPost (rowL BB (decF (limbs (decVal (l.take k))) dg) (n + 1)) (wr.alloc (.cells #[.int .u8 (48 + (dg : Int))] 5))) from
          dig_row Bm wr.heap.size A n c (limbs (decVal (l.take k))) dg _ ((HS.out.own.toLimbs (digs_low BB2 _) (by omega)).keep0 ((Keep.refl _ _).alloc _)) (by omega) (by rw [Below.heap_alloc _ _ _ hBm]; exact HS.out.m) (heap_alloc_new wr _) (by have := HDG.out.1; have := HDGE.out; omega))
        go_wp2_with fail
        refine HR.out.mono ?_
        rintro e w4 ⟨A2, n2, c2, rfl, own, k4⟩
        obtain rfl : n2 = n + 1 := by have := own.len; rw [rowL_len] at this; exact this.symm
        have low2 : Low BB (rowL BB (decF (limbs (decVal (l.take k))) dg) (n + 1)) := rowL_low (by unfold BB; omega) _ _
        have hL := own.toLimbs low2 (by omega)
        obtain ⟨t5, ht⟩ : ∃ x, x = tlen (rowL BB (decF (limbs (decVal (l.take k))) dg) (n + 1)) := ⟨_, rfl⟩
        have hNX := HS.out.next (u := .int .u8 (48 + (dg : Int))) hkl HD.out (A' := A2) (c' := c2) (w4 := w4) (by rw [← HDGE.out]; exact own) k4 t5 (by rw [← HDGE.out]; exact ht)
        have KA : Keep (fun _ => False) wr w4 := ((Keep.refl _ _).alloc _).trans k4
        have hm4 := KA.heap HS.out.m (by simp)
        have hx4 := KA.heap HS.out.x (by simp)
        have q0 : w4.cell? ⟨Bm, 0, none⟩ = some (.slice A n c) := by rw [cell_of_row w4 _ _ _ _ _ hm4]; rfl
        have q1 : w4.frozen? ⟨Bm, 0, none⟩ = false := by simp [World.frozen?, hm4]
        have HT := Lib.hid ht
        have HNX := Lib.hid hNX
        have HX4 := Lib.hid hx4
        have HKA := Lib.hid (HS.out.K.trans KA)
        clear HR own k4 low2 hNX KA hm4 hx4 cm hBm
        try dsimp only
        go_wp2_with fail
        refine (trim_any A2 (n + 1) c2 _ w4 hL).mono ?_
        rintro e wx ⟨rfl, rfl⟩
        rw [← HT.out]
        clear hL ht
        have hxm := HS.out.xm
        have hmx : Bm ≠ Bx := fun e => hxm e.symm
        by_cases hbig : 48 < t5
        · have hbi : (48 : Int) < (t5 : Int) := by omega
          have hnf := fits_grow (neg := true) (l := l) (k := k + 1) (by rw [← HNX.out.1]; exact hbig)
          have HNF := Lib.hid hnf
          have s0 : w4.cell? ⟨Bx, 0, none⟩ = some (.bool false) := by rw [cell_of_row w4 _ _ _ _ _ HX4.out]; rfl
          have s1 : w4.cell? ⟨Bx, 1, none⟩ = some (.slice none 0 0) := by rw [cell_of_row w4 _ _ _ _ _ HX4.out]; rfl
          have s2 : w4.frozen? ⟨Bx, 0, none⟩ = false := by simp [World.frozen?, HX4.out]
          have s3 : w4.frozen? ⟨Bx, 1, none⟩ = false := by simp [World.frozen?, HX4.out]
          have KS : Keep (fun x => x = Bm) w4 (w4.setCell ⟨Bm, 0, none⟩ (.slice A2 t5 c2)) := setCell_keep (S := fun x => x = Bm) rfl 0 _
          have HE2 := Lib.hid (two_cells (KS.heap HX4.out hxm) (.bool false) (.slice none 0 0))
          have HKE := Lib.hid (two_keep (HKA.out.into KS (by rintro i rfl; exact HS.out.wm)) HBX.out (.bool false) (.slice none 0 0))
          clear hbig hnf KS
          try dsimp only
          go_wp2_with fail
          obtain ⟨e0, e1⟩ := HE2.out
          refine bodyPost_ret (v := .tuple #[numArg false none 0 0, .int .i64 6]) ?_ rfl ?_
          · simp [results, Tryz.results66, go_sem, e0, e1]
          · unfold ParsePost
            rw [HPV.out]
            exact ⟨HKE.out, .inl ⟨HNF.out, rfl⟩⟩
        · have hbi : decide ((48 : Int) < (t5 : Int)) = false := decide_eq_false (by omega)
          have HN5 := Lib.hid (HNX.out.2 (by omega))
          try dsimp only
          go_wp2_with fail
          go_roundw
          case rel => exact ⟨k + 1, _, _, _, by omega, by go_num, HN5.out⟩
          case measure => simp [RowKit.intOf]; omega
      · have hd : decide ((k : Int) < (l.length : Int)) = false := decide_eq_false (by omega)
        have ek : k = l.length := by omega
        have hE : sval true (limbs (decVal (l.take k))) = (if true = true then -(decVal l : Int) else (decVal l : Int)) := by rw [sval_dec, ek, List.take_length]
        have HEQ := Lib.hid hE
        have hLm := HS.out.own.toLimbs (digs_low BB2 _) (by omega)
        have HR := Lib.hid (fun (e : Ending) (w2 : World) => res_two (x := sval true (limbs (decVal (l.take k)))) (e := e) (w2 := w2) HS.out.K HBX.out (heap_lt HS.out.x) HS.out.x)
        clear hE ek
        go_wp2_with fail
        refine (made_any true A n c _ _ hLm).mono ?_
        intro e w9 hres
        obtain ⟨ng, A9, n9, c9, f9, rfl, c0, c1, f0, f1, e0, e1, P⟩ := HR.out _ _ hres
        rw [HEQ.out] at P
        have HP9 := Lib.hid P
        have HEE := Lib.hid (And.intro e0 e1)
        clear hres P hLm e0 e1
        try dsimp only
        go_wp2_with fail
        refine bodyPost_ret (v := .tuple #[numArg ng A9 n9 c9, .int .i64 f9]) ?_ rfl (by unfold ParsePost; rw [HPV.out]; exact HP9.out)
        obtain ⟨e0, e1⟩ := HEE.out
        simp [results, Tryz.results66, go_sem, e0, e1]
  · have hP : parseV s.data.toList = none := by
      unfold parseV
      rw [if_pos (.inr (by simpa using hA))]
    have HPV := Lib.hid hP
    have HA := Lib.hid hA
    clear hE hP hA hsz
    go_enter Tryz.func66, Tryz.ntmps66
    go_wp2_with fail
    refine (Tryz.strings_HasPrefix s ⟨#[45]⟩ _).mono ?_
    rintro e w1 ⟨rfl, rfl⟩
    rw [show Lib.hasPrefix s.data.toList (⟨#[45]⟩ : ByteArray).data.toList = true from HN.out]
    try dsimp only
    go_wp2_with fail
    refine (trimDigits_any (s.extract 1 s.size) _ HSZ.out).mono ?_
    rintro e w2 ⟨rfl, k2⟩
    obtain ⟨t, ht⟩ : ∃ t : ByteArray, t = ⟨(Lib.trimS (s.extract 1 s.size).data.toList [48, 49, 50, 51, 52, 53, 54, 55, 56, 57]).toArray⟩ := ⟨_, rfl⟩
    rw [← ht]
    have hte : t.toList.isEmpty = false := by
      rw [Lib.toList_data, ht]
      show (Lib.trimS (s.extract 1 s.size).data.toList [48, 49, 50, 51, 52, 53, 54, 55, 56, 57]).isEmpty = false
      rw [H2.out]
      cases h : Lib.trimS (body s.data.toList) [48, 49, 50, 51, 52, 53, 54, 55, 56, 57] with
      | nil => exact absurd ((trim_digits _).1 h) HA.out
      | cons _ _ => rfl
    have K2 := HK.out.trans k2
    have hb2 := k2.heap HB.out (by simp)
    clear ht
    try dsimp only
    have r0 : w2.cell? ⟨w.heap.size, 0, none⟩ = some (.bool false) := by rw [cell_of_row w2 _ _ _ _ _ hb2]; rfl
    have r1 : w2.cell? ⟨w.heap.size, 1, none⟩ = some (.slice none 0 0) := by rw [cell_of_row w2 _ _ _ _ _ hb2]; rfl
    have f0 : w2.frozen? ⟨w.heap.size, 0, none⟩ = false := by simp [World.frozen?, hb2]
    have f1 : w2.frozen? ⟨w.heap.size, 1, none⟩ = false := by simp [World.frozen?, hb2]
    have HE2 := Lib.hid (two_cells hb2 (.bool false) (.slice none 0 0))
    have HKE := Lib.hid (two_keep K2 (Nat.le_refl w.heap.size) (.bool false) (.slice none 0 0))
    clear K2 k2 hb2
    go_wp2_with fail
    obtain ⟨e0, e1⟩ := HE2.out
    refine bodyPost_ret (v := .tuple #[numArg false none 0 0, .int .i64 9]) ?_ rfl ?_
    · simp [results, Tryz.results66, go_sem, e0, e1]
    · unfold ParsePost
      rw [HPV.out]
      exact ⟨rfl, HKE.out⟩
set_option maxRecDepth 100000 in
set_option maxHeartbeats 4000000 in
theorem parse_plus (s : ByteArray) (w : World) (hs : s.size ≤ 1000000) (hneg : Lib.hasPrefix s.data.toList [45] = false) (hplus : Lib.hasPrefix s.data.toList [43] = true) : Calls Tryz.prog 66 #[.string s] w (ParsePost s.data.toList w) := by
  have K : Keep (fun _ => False) w (w.alloc (.cells #[.bool false, .slice none 0 0] 24)) := (Keep.refl _ _).alloc _
  have hb : (w.alloc (.cells #[.bool false, .slice none 0 0] 24)).heap[w.heap.size]? = some (.cells #[.bool false, .slice none 0 0] 24 (0, 0)) := heap_alloc_new w _
  have HK := Lib.hid K
  have HB := Lib.hid hb
  obtain ⟨h1, h2⟩ := prefix_drop hplus
  have hbody : body s.data.toList = s.data.toList.drop 1 := by unfold body signB; rw [hneg, hplus]; rfl
  rw [← hbody] at h2
  have HN := Lib.hid hneg
  have HP := Lib.hid hplus
  have H2 := Lib.hid h2
  have hsz : (body s.data.toList).length ≤ 1000000 := by
    unfold body
    have := Lib.size_eq s
    split
    · rw [List.length_drop]; omega
    · omega
  have HSZ := Lib.hid (show ((s.extract 1 s.size)).size ≤ 9223372036854775807 from by rw [Lib.size_eq, h2]; omega)
  clear K hb hbody h2 hneg hplus
  by_cases hE : body s.data.toList = []
  · have hP : parseV s.data.toList = none := by unfold parseV; rw [if_pos (.inl hE)]
    have he : (s.extract 1 s.size).toList.isEmpty = true := by rw [Lib.toList_data, H2.out, hE]; rfl
    have HPV := Lib.hid hP
    clear hE hP hsz
    go_enter Tryz.func66, Tryz.ntmps66
    go_wp2_with fail
    refine (Tryz.strings_HasPrefix s ⟨#[45]⟩ _).mono ?_
    rintro e w1 ⟨rfl, rfl⟩
    rw [show Lib.hasPrefix s.data.toList (⟨#[45]⟩ : ByteArray).data.toList = false from HN.out]
    try dsimp only
    go_wp2_with fail
    refine (Tryz.strings_HasPrefix s ⟨#[43]⟩ _).mono ?_
    rintro e w1 ⟨rfl, rfl⟩
    rw [show Lib.hasPrefix s.data.toList (⟨#[43]⟩ : ByteArray).data.toList = true from HP.out]
    try dsimp only
    go_wp2_with fail
    have KE : Keep (fun _ => False) w (w.alloc (.cells #[.bool false, .slice none 0 0] 24)) := HK.out
    refine bodyPost_ret (v := .tuple #[numArg false none 0 0, .int .i64 9]) ?_ rfl ?_
    · simp [results, Tryz.results66, go_sem]
    · unfold ParsePost
      rw [HPV.out]
      exact ⟨rfl, KE⟩
  have he : (s.extract 1 s.size).toList.isEmpty = false := by
    rw [Lib.toList_data, H2.out]
    cases h : body s.data.toList with
    | nil => exact absurd h hE
    | cons _ _ => rfl
  by_cases hA : (body s.data.toList).all digB = true
  · have hP : parseV s.data.toList = some (if false = true then -(decVal (body s.data.toList) : Int) else (decVal (body s.data.toList) : Int)) := by
      unfold parseV
      rw [if_neg (by simp [hE, hA]), HN.out]
    have HPV := Lib.hid hP
    have HA := Lib.hid hA
    clear hE hP hA
    go_enter Tryz.func66, Tryz.ntmps66
    go_wp2_with fail
    refine (Tryz.strings_HasPrefix s ⟨#[45]⟩ _).mono ?_
    rintro e w1 ⟨rfl, rfl⟩
    rw [show Lib.hasPrefix s.data.toList (⟨#[45]⟩ : ByteArray).data.toList = false from HN.out]
    try dsimp only
    go_wp2_with fail
    refine (Tryz.strings_HasPrefix s ⟨#[43]⟩ _).mono ?_
    rintro e w1 ⟨rfl, rfl⟩
    rw [show Lib.hasPrefix s.data.toList (⟨#[43]⟩ : ByteArray).data.toList = true from HP.out]
    try dsimp only
    go_wp2_with fail
    refine (trimDigits_any (s.extract 1 s.size) _ HSZ.out).mono ?_
    rintro e w2 ⟨rfl, k2⟩
    obtain ⟨t, ht⟩ : ∃ t : ByteArray, t = ⟨(Lib.trimS (s.extract 1 s.size).data.toList [48, 49, 50, 51, 52, 53, 54, 55, 56, 57]).toArray⟩ := ⟨_, rfl⟩
    rw [← ht]
    have hte : t.toList.isEmpty = true := by
      rw [Lib.toList_data, ht]
      show (Lib.trimS (s.extract 1 s.size).data.toList [48, 49, 50, 51, 52, 53, 54, 55, 56, 57]).isEmpty = true
      rw [H2.out]
      rw [(trim_digits _).2 HA.out]; rfl
    have K2 := HK.out.trans k2
    have hb2 := k2.heap HB.out (by simp)
    clear ht
    try dsimp only
    generalize hBx : w.heap.size = Bx at hb2 ⊢
    have HBX := Lib.hid (Nat.le_of_eq hBx)
    have HB2 := Lib.hid hb2
    clear hBx hb2 k2
    have HLT := Lib.hid (heap_lt HB2.out)
    go_wp2_with fail
    have KW : Keep (fun _ => False) w (w2.alloc (.cells #[.slice none 0 0] 22)) := K2.alloc _
    have hm : (w2.alloc (.cells #[.slice none 0 0] 22)).heap[w2.heap.size]? = some (.cells #[.slice none 0 0] 22 (0, 0)) := heap_alloc_new w2 _
    have hx : (w2.alloc (.cells #[.slice none 0 0] 22)).heap[Bx]? = some (.cells #[.bool false, .slice none 0 0] 24 (0, 0)) := by
      rw [Below.heap_alloc _ _ _ HLT.out]; exact HB2.out
    have hxm : Bx ≠ w2.heap.size := by have := HLT.out; omega
    have hwm : w.heap.size ≤ w2.heap.size := K2.size
    generalize w2.heap.size = Bm at hm hxm hwm ⊢
    generalize w2.alloc (.cells #[.slice none 0 0] 22) = W at KW hm hx ⊢
    have hconv := run_bytes_of_string (P := Tryz.prog) W 9 129 5 (s.extract 1 s.size) rfl rfl rfl
    have hds : ((s.extract 1 s.size)).size = (body s.data.toList).length := (Lib.size_eq _).trans (congrArg List.length H2.out)
    have HST := Lib.hid (fun (w3 : World) (bb : Nat) (C : Array Value) (fr : Nat × Nat) (hbb : bb = W.heap.size) (e : w3 = W.drew.alloc (.cells C 5 fr)) => PrSt.start (l := body s.data.toList) hx hm KW hxm hwm hbb e)
    clear HB HK HB2 K2 KW hm hx hxm hwm HLT
    generalize hcap : grownCap W ((s.extract 1 s.size)).size 0 5 = cap at hconv
    clear hcap
    generalize hC : bytesRow (s.extract 1 s.size) cap = C at hconv
    generalize hfr : (C.size, C.size + 1) = fr at hconv
    clear hfr
    generalize hw3 : W.drew.alloc (.cells C 5 fr) = w3 at hconv
    generalize hbb : W.heap.size = bb at hconv
    have hst := HST.out w3 bb C fr hbb.symm hw3.symm
    have hbyte := fun (k n c : Nat) (A : Option Addr) (wr : World) (H : PrSt w Bx Bm bb (.cells C 5 fr) (body s.data.toList) k A n c wr) (hk : k < (body s.data.toList).length) => PrSt.byte (d := (s.extract 1 s.size)) (cap := cap) (by rw [hC]; exact H) H2.out hk
    rw [hds] at hconv
    clear HST hw3 hbb hC hds
    have HBY := Lib.hid hbyte
    have HST := Lib.hid hst
    clear hbyte hst
    generalize hl : body s.data.toList = l at *
    clear hl
    rw [hconv]
    try dsimp only
    go_wp2_with fail
    clear hconv he hte h1
    go_loopw [30] (fun iv wr => ∃ (k : Nat) (A : Option Addr) (n c : Nat), k ≤ l.length ∧ iv = .int .i64 (k : Int) ∧ PrSt w Bx Bm bb (.cells C 5 fr) l k A n c wr) (fun iv _ => l.length - (RowKit.intOf iv).toNat)
    case atStart => exact ⟨0, _, _, _, Nat.zero_le _, rfl, HST.out⟩
    case round =>
      clear HST
      obtain ⟨k, A, n, c, hk, rfl, st⟩ := hrel
      have HS := Lib.hid st
      have cm : wr.cell? ⟨Bm, 0, none⟩ = some (.slice A n c) := by rw [cell_of_row wr _ _ _ _ _ st.m]; rfl
      have hBm := heap_lt st.m
      have hn := st.n
      clear st
      by_cases hkl : k < l.length
      · have i0 : (0 : Int) ≤ (k : Int) := by omega
        have i1 : (k : Int) < (l.length : Int) := by omega
        have hby := HBY.out k n c A wr HS.out hkl
        have hdg := List.all_eq_true.1 HA.out _ (List.getElem_mem hkl)
        have HD := Lib.hid hdg
        have hdg2 := (digB_iff _).1 hdg
        have e48 : (l[k].toNat : Int) = ((48 + (l[k].toNat - 48) : Nat) : Int) := by omega
        have HDG := Lib.hid (And.intro hdg2 e48)
        rw [e48] at hby
        obtain ⟨dg, hdge⟩ : ∃ x, x = l[k].toNat - 48 := ⟨_, rfl⟩
        have HDGE := Lib.hid hdge
        rw [← hdge] at hby
        clear hdg hdg2 e48 hdge
        have HR := Lib.hid (show Calls Tryz.prog 113 #[.int .i64 ((n : Int) + 1), .func (.func 114) #[] #[.pointer (some ⟨wr.heap.size, 0, none⟩), .pointer (some ⟨Bm, 0, none⟩)]] (wr.alloc (.cells #[.int .u8 (48 + (dg : Int))] 5)) (OwnPost (rowL BB (decF (limbs (decVal (l.take k))) dg) (n + 1)) (wr.alloc (.cells #[.int .u8 (48 + (dg : Int))] 5))) from
          dig_row Bm wr.heap.size A n c (limbs (decVal (l.take k))) dg _ ((HS.out.own.toLimbs (digs_low BB2 _) (by omega)).keep0 ((Keep.refl _ _).alloc _)) (by omega) (by rw [Below.heap_alloc _ _ _ hBm]; exact HS.out.m) (heap_alloc_new wr _) (by have := HDG.out.1; have := HDGE.out; omega))
        go_wp2_with fail
        refine HR.out.mono ?_
        rintro e w4 ⟨A2, n2, c2, rfl, own, k4⟩
        obtain rfl : n2 = n + 1 := by have := own.len; rw [rowL_len] at this; exact this.symm
        have low2 : Low BB (rowL BB (decF (limbs (decVal (l.take k))) dg) (n + 1)) := rowL_low (by unfold BB; omega) _ _
        have hL := own.toLimbs low2 (by omega)
        obtain ⟨t5, ht⟩ : ∃ x, x = tlen (rowL BB (decF (limbs (decVal (l.take k))) dg) (n + 1)) := ⟨_, rfl⟩
        have hNX := HS.out.next (u := .int .u8 (48 + (dg : Int))) hkl HD.out (A' := A2) (c' := c2) (w4 := w4) (by rw [← HDGE.out]; exact own) k4 t5 (by rw [← HDGE.out]; exact ht)
        have KA : Keep (fun _ => False) wr w4 := ((Keep.refl _ _).alloc _).trans k4
        have hm4 := KA.heap HS.out.m (by simp)
        have hx4 := KA.heap HS.out.x (by simp)
        have q0 : w4.cell? ⟨Bm, 0, none⟩ = some (.slice A n c) := by rw [cell_of_row w4 _ _ _ _ _ hm4]; rfl
        have q1 : w4.frozen? ⟨Bm, 0, none⟩ = false := by simp [World.frozen?, hm4]
        have HT := Lib.hid ht
        have HNX := Lib.hid hNX
        have HX4 := Lib.hid hx4
        have HKA := Lib.hid (HS.out.K.trans KA)
        clear HR own k4 low2 hNX KA hm4 hx4 cm hBm
        try dsimp only
        go_wp2_with fail
        refine (trim_any A2 (n + 1) c2 _ w4 hL).mono ?_
        rintro e wx ⟨rfl, rfl⟩
        rw [← HT.out]
        clear hL ht
        have hxm := HS.out.xm
        have hmx : Bm ≠ Bx := fun e => hxm e.symm
        by_cases hbig : 48 < t5
        · have hbi : (48 : Int) < (t5 : Int) := by omega
          have hnf := fits_grow (neg := false) (l := l) (k := k + 1) (by rw [← HNX.out.1]; exact hbig)
          have HNF := Lib.hid hnf
          have s0 : w4.cell? ⟨Bx, 0, none⟩ = some (.bool false) := by rw [cell_of_row w4 _ _ _ _ _ HX4.out]; rfl
          have s1 : w4.cell? ⟨Bx, 1, none⟩ = some (.slice none 0 0) := by rw [cell_of_row w4 _ _ _ _ _ HX4.out]; rfl
          have s2 : w4.frozen? ⟨Bx, 0, none⟩ = false := by simp [World.frozen?, HX4.out]
          have s3 : w4.frozen? ⟨Bx, 1, none⟩ = false := by simp [World.frozen?, HX4.out]
          have KS : Keep (fun x => x = Bm) w4 (w4.setCell ⟨Bm, 0, none⟩ (.slice A2 t5 c2)) := setCell_keep (S := fun x => x = Bm) rfl 0 _
          have HE2 := Lib.hid (two_cells (KS.heap HX4.out hxm) (.bool false) (.slice none 0 0))
          have HKE := Lib.hid (two_keep (HKA.out.into KS (by rintro i rfl; exact HS.out.wm)) HBX.out (.bool false) (.slice none 0 0))
          clear hbig hnf KS
          try dsimp only
          go_wp2_with fail
          obtain ⟨e0, e1⟩ := HE2.out
          refine bodyPost_ret (v := .tuple #[numArg false none 0 0, .int .i64 6]) ?_ rfl ?_
          · simp [results, Tryz.results66, go_sem, e0, e1]
          · unfold ParsePost
            rw [HPV.out]
            exact ⟨HKE.out, .inl ⟨HNF.out, rfl⟩⟩
        · have hbi : decide ((48 : Int) < (t5 : Int)) = false := decide_eq_false (by omega)
          have HN5 := Lib.hid (HNX.out.2 (by omega))
          try dsimp only
          go_wp2_with fail
          go_roundw
          case rel => exact ⟨k + 1, _, _, _, by omega, by go_num, HN5.out⟩
          case measure => simp [RowKit.intOf]; omega
      · have hd : decide ((k : Int) < (l.length : Int)) = false := decide_eq_false (by omega)
        have ek : k = l.length := by omega
        have hE : sval false (limbs (decVal (l.take k))) = (if false = true then -(decVal l : Int) else (decVal l : Int)) := by rw [sval_dec, ek, List.take_length]
        have HEQ := Lib.hid hE
        have hLm := HS.out.own.toLimbs (digs_low BB2 _) (by omega)
        have HR := Lib.hid (fun (e : Ending) (w2 : World) => res_two (x := sval false (limbs (decVal (l.take k)))) (e := e) (w2 := w2) HS.out.K HBX.out (heap_lt HS.out.x) HS.out.x)
        clear hE ek
        go_wp2_with fail
        refine (made_any false A n c _ _ hLm).mono ?_
        intro e w9 hres
        obtain ⟨ng, A9, n9, c9, f9, rfl, c0, c1, f0, f1, e0, e1, P⟩ := HR.out _ _ hres
        rw [HEQ.out] at P
        have HP9 := Lib.hid P
        have HEE := Lib.hid (And.intro e0 e1)
        clear hres P hLm e0 e1
        try dsimp only
        go_wp2_with fail
        refine bodyPost_ret (v := .tuple #[numArg ng A9 n9 c9, .int .i64 f9]) ?_ rfl (by unfold ParsePost; rw [HPV.out]; exact HP9.out)
        obtain ⟨e0, e1⟩ := HEE.out
        simp [results, Tryz.results66, go_sem, e0, e1]
  · have hP : parseV s.data.toList = none := by
      unfold parseV
      rw [if_pos (.inr (by simpa using hA))]
    have HPV := Lib.hid hP
    have HA := Lib.hid hA
    clear hE hP hA hsz
    go_enter Tryz.func66, Tryz.ntmps66
    go_wp2_with fail
    refine (Tryz.strings_HasPrefix s ⟨#[45]⟩ _).mono ?_
    rintro e w1 ⟨rfl, rfl⟩
    rw [show Lib.hasPrefix s.data.toList (⟨#[45]⟩ : ByteArray).data.toList = false from HN.out]
    try dsimp only
    go_wp2_with fail
    refine (Tryz.strings_HasPrefix s ⟨#[43]⟩ _).mono ?_
    rintro e w1 ⟨rfl, rfl⟩
    rw [show Lib.hasPrefix s.data.toList (⟨#[43]⟩ : ByteArray).data.toList = true from HP.out]
    try dsimp only
    go_wp2_with fail
    refine (trimDigits_any (s.extract 1 s.size) _ HSZ.out).mono ?_
    rintro e w2 ⟨rfl, k2⟩
    obtain ⟨t, ht⟩ : ∃ t : ByteArray, t = ⟨(Lib.trimS (s.extract 1 s.size).data.toList [48, 49, 50, 51, 52, 53, 54, 55, 56, 57]).toArray⟩ := ⟨_, rfl⟩
    rw [← ht]
    have hte : t.toList.isEmpty = false := by
      rw [Lib.toList_data, ht]
      show (Lib.trimS (s.extract 1 s.size).data.toList [48, 49, 50, 51, 52, 53, 54, 55, 56, 57]).isEmpty = false
      rw [H2.out]
      cases h : Lib.trimS (body s.data.toList) [48, 49, 50, 51, 52, 53, 54, 55, 56, 57] with
      | nil => exact absurd ((trim_digits _).1 h) HA.out
      | cons _ _ => rfl
    have K2 := HK.out.trans k2
    have hb2 := k2.heap HB.out (by simp)
    clear ht
    try dsimp only
    have r0 : w2.cell? ⟨w.heap.size, 0, none⟩ = some (.bool false) := by rw [cell_of_row w2 _ _ _ _ _ hb2]; rfl
    have r1 : w2.cell? ⟨w.heap.size, 1, none⟩ = some (.slice none 0 0) := by rw [cell_of_row w2 _ _ _ _ _ hb2]; rfl
    have f0 : w2.frozen? ⟨w.heap.size, 0, none⟩ = false := by simp [World.frozen?, hb2]
    have f1 : w2.frozen? ⟨w.heap.size, 1, none⟩ = false := by simp [World.frozen?, hb2]
    have HE2 := Lib.hid (two_cells hb2 (.bool false) (.slice none 0 0))
    have HKE := Lib.hid (two_keep K2 (Nat.le_refl w.heap.size) (.bool false) (.slice none 0 0))
    clear K2 k2 hb2
    go_wp2_with fail
    obtain ⟨e0, e1⟩ := HE2.out
    refine bodyPost_ret (v := .tuple #[numArg false none 0 0, .int .i64 9]) ?_ rfl ?_
    · simp [results, Tryz.results66, go_sem, e0, e1]
    · unfold ParsePost
      rw [HPV.out]
      exact ⟨rfl, HKE.out⟩
set_option maxRecDepth 100000 in
set_option maxHeartbeats 4000000 in
theorem parse_none (s : ByteArray) (w : World) (hs : s.size ≤ 1000000) (hneg : Lib.hasPrefix s.data.toList [45] = false) (hplus : Lib.hasPrefix s.data.toList [43] = false) : Calls Tryz.prog 66 #[.string s] w (ParsePost s.data.toList w) := by
  have K : Keep (fun _ => False) w (w.alloc (.cells #[.bool false, .slice none 0 0] 24)) := (Keep.refl _ _).alloc _
  have hb : (w.alloc (.cells #[.bool false, .slice none 0 0] 24)).heap[w.heap.size]? = some (.cells #[.bool false, .slice none 0 0] 24 (0, 0)) := heap_alloc_new w _
  have HK := Lib.hid K
  have HB := Lib.hid hb
  have hbody : body s.data.toList = s.data.toList := by unfold body signB; rw [hneg, hplus]; rfl
  have h2 : s.data.toList = body s.data.toList := hbody.symm
  have HN := Lib.hid hneg
  have HP := Lib.hid hplus
  have H2 := Lib.hid h2
  have hsz : (body s.data.toList).length ≤ 1000000 := by
    unfold body
    have := Lib.size_eq s
    split
    · rw [List.length_drop]; omega
    · omega
  have HSZ := Lib.hid (show (s).size ≤ 9223372036854775807 from by rw [Lib.size_eq, h2]; omega)
  clear K hb hbody h2 hneg hplus
  by_cases hE : body s.data.toList = []
  · have hP : parseV s.data.toList = none := by unfold parseV; rw [if_pos (.inl hE)]
    have he : s.toList.isEmpty = true := by rw [Lib.toList_data, H2.out, hE]; rfl
    have HPV := Lib.hid hP
    clear hE hP hsz
    go_enter Tryz.func66, Tryz.ntmps66
    go_wp2_with fail
    refine (Tryz.strings_HasPrefix s ⟨#[45]⟩ _).mono ?_
    rintro e w1 ⟨rfl, rfl⟩
    rw [show Lib.hasPrefix s.data.toList (⟨#[45]⟩ : ByteArray).data.toList = false from HN.out]
    try dsimp only
    go_wp2_with fail
    refine (Tryz.strings_HasPrefix s ⟨#[43]⟩ _).mono ?_
    rintro e w1 ⟨rfl, rfl⟩
    rw [show Lib.hasPrefix s.data.toList (⟨#[43]⟩ : ByteArray).data.toList = false from HP.out]
    try dsimp only
    go_wp2_with fail
    have KE : Keep (fun _ => False) w (w.alloc (.cells #[.bool false, .slice none 0 0] 24)) := HK.out
    refine bodyPost_ret (v := .tuple #[numArg false none 0 0, .int .i64 9]) ?_ rfl ?_
    · simp [results, Tryz.results66, go_sem]
    · unfold ParsePost
      rw [HPV.out]
      exact ⟨rfl, KE⟩
  have he : s.toList.isEmpty = false := by
    rw [Lib.toList_data, H2.out]
    cases h : body s.data.toList with
    | nil => exact absurd h hE
    | cons _ _ => rfl
  by_cases hA : (body s.data.toList).all digB = true
  · have hP : parseV s.data.toList = some (if false = true then -(decVal (body s.data.toList) : Int) else (decVal (body s.data.toList) : Int)) := by
      unfold parseV
      rw [if_neg (by simp [hE, hA]), HN.out]
    have HPV := Lib.hid hP
    have HA := Lib.hid hA
    clear hE hP hA
    go_enter Tryz.func66, Tryz.ntmps66
    go_wp2_with fail
    refine (Tryz.strings_HasPrefix s ⟨#[45]⟩ _).mono ?_
    rintro e w1 ⟨rfl, rfl⟩
    rw [show Lib.hasPrefix s.data.toList (⟨#[45]⟩ : ByteArray).data.toList = false from HN.out]
    try dsimp only
    go_wp2_with fail
    refine (Tryz.strings_HasPrefix s ⟨#[43]⟩ _).mono ?_
    rintro e w1 ⟨rfl, rfl⟩
    rw [show Lib.hasPrefix s.data.toList (⟨#[43]⟩ : ByteArray).data.toList = false from HP.out]
    try dsimp only
    go_wp2_with fail
    refine (trimDigits_any s _ HSZ.out).mono ?_
    rintro e w2 ⟨rfl, k2⟩
    obtain ⟨t, ht⟩ : ∃ t : ByteArray, t = ⟨(Lib.trimS s.data.toList [48, 49, 50, 51, 52, 53, 54, 55, 56, 57]).toArray⟩ := ⟨_, rfl⟩
    rw [← ht]
    have hte : t.toList.isEmpty = true := by
      rw [Lib.toList_data, ht]
      show (Lib.trimS s.data.toList [48, 49, 50, 51, 52, 53, 54, 55, 56, 57]).isEmpty = true
      rw [H2.out]
      rw [(trim_digits _).2 HA.out]; rfl
    have K2 := HK.out.trans k2
    have hb2 := k2.heap HB.out (by simp)
    clear ht
    try dsimp only
    generalize hBx : w.heap.size = Bx at hb2 ⊢
    have HBX := Lib.hid (Nat.le_of_eq hBx)
    have HB2 := Lib.hid hb2
    clear hBx hb2 k2
    have HLT := Lib.hid (heap_lt HB2.out)
    go_wp2_with fail
    have KW : Keep (fun _ => False) w (w2.alloc (.cells #[.slice none 0 0] 22)) := K2.alloc _
    have hm : (w2.alloc (.cells #[.slice none 0 0] 22)).heap[w2.heap.size]? = some (.cells #[.slice none 0 0] 22 (0, 0)) := heap_alloc_new w2 _
    have hx : (w2.alloc (.cells #[.slice none 0 0] 22)).heap[Bx]? = some (.cells #[.bool false, .slice none 0 0] 24 (0, 0)) := by
      rw [Below.heap_alloc _ _ _ HLT.out]; exact HB2.out
    have hxm : Bx ≠ w2.heap.size := by have := HLT.out; omega
    have hwm : w.heap.size ≤ w2.heap.size := K2.size
    generalize w2.heap.size = Bm at hm hxm hwm ⊢
    generalize w2.alloc (.cells #[.slice none 0 0] 22) = W at KW hm hx ⊢
    have hconv := run_bytes_of_string (P := Tryz.prog) W 9 129 5 s rfl rfl rfl
    have hds : (s).size = (body s.data.toList).length := (Lib.size_eq _).trans (congrArg List.length H2.out)
    have HST := Lib.hid (fun (w3 : World) (bb : Nat) (C : Array Value) (fr : Nat × Nat) (hbb : bb = W.heap.size) (e : w3 = W.drew.alloc (.cells C 5 fr)) => PrSt.start (l := body s.data.toList) hx hm KW hxm hwm hbb e)
    clear HB HK HB2 K2 KW hm hx hxm hwm HLT
    generalize hcap : grownCap W (s).size 0 5 = cap at hconv
    clear hcap
    generalize hC : bytesRow s cap = C at hconv
    generalize hfr : (C.size, C.size + 1) = fr at hconv
    clear hfr
    generalize hw3 : W.drew.alloc (.cells C 5 fr) = w3 at hconv
    generalize hbb : W.heap.size = bb at hconv
    have hst := HST.out w3 bb C fr hbb.symm hw3.symm
    have hbyte := fun (k n c : Nat) (A : Option Addr) (wr : World) (H : PrSt w Bx Bm bb (.cells C 5 fr) (body s.data.toList) k A n c wr) (hk : k < (body s.data.toList).length) => PrSt.byte (d := s) (cap := cap) (by rw [hC]; exact H) H2.out hk
    rw [hds] at hconv
    clear HST hw3 hbb hC hds
    have HBY := Lib.hid hbyte
    have HST := Lib.hid hst
    clear hbyte hst
    generalize hl : body s.data.toList = l at *
    clear hl
    rw [hconv]
    try dsimp only
    go_wp2_with fail
    clear hconv he hte
    go_loopw [30] (fun iv wr => ∃ (k : Nat) (A : Option Addr) (n c : Nat), k ≤ l.length ∧ iv = .int .i64 (k : Int) ∧ PrSt w Bx Bm bb (.cells C 5 fr) l k A n c wr) (fun iv _ => l.length - (RowKit.intOf iv).toNat)
    case atStart => exact ⟨0, _, _, _, Nat.zero_le _, rfl, HST.out⟩
    case round =>
      clear HST
      obtain ⟨k, A, n, c, hk, rfl, st⟩ := hrel
      have HS := Lib.hid st
      have cm : wr.cell? ⟨Bm, 0, none⟩ = some (.slice A n c) := by rw [cell_of_row wr _ _ _ _ _ st.m]; rfl
      have hBm := heap_lt st.m
      have hn := st.n
      clear st
      by_cases hkl : k < l.length
      · have i0 : (0 : Int) ≤ (k : Int) := by omega
        have i1 : (k : Int) < (l.length : Int) := by omega
        have hby := HBY.out k n c A wr HS.out hkl
        have hdg := List.all_eq_true.1 HA.out _ (List.getElem_mem hkl)
        have HD := Lib.hid hdg
        have hdg2 := (digB_iff _).1 hdg
        have e48 : (l[k].toNat : Int) = ((48 + (l[k].toNat - 48) : Nat) : Int) := by omega
        have HDG := Lib.hid (And.intro hdg2 e48)
        rw [e48] at hby
        obtain ⟨dg, hdge⟩ : ∃ x, x = l[k].toNat - 48 := ⟨_, rfl⟩
        have HDGE := Lib.hid hdge
        rw [← hdge] at hby
        clear hdg hdg2 e48 hdge
        have HR := Lib.hid (show Calls Tryz.prog 113 #[.int .i64 ((n : Int) + 1), .func (.func 114) #[] #[.pointer (some ⟨wr.heap.size, 0, none⟩), .pointer (some ⟨Bm, 0, none⟩)]] (wr.alloc (.cells #[.int .u8 (48 + (dg : Int))] 5)) (OwnPost (rowL BB (decF (limbs (decVal (l.take k))) dg) (n + 1)) (wr.alloc (.cells #[.int .u8 (48 + (dg : Int))] 5))) from
          dig_row Bm wr.heap.size A n c (limbs (decVal (l.take k))) dg _ ((HS.out.own.toLimbs (digs_low BB2 _) (by omega)).keep0 ((Keep.refl _ _).alloc _)) (by omega) (by rw [Below.heap_alloc _ _ _ hBm]; exact HS.out.m) (heap_alloc_new wr _) (by have := HDG.out.1; have := HDGE.out; omega))
        go_wp2_with fail
        refine HR.out.mono ?_
        rintro e w4 ⟨A2, n2, c2, rfl, own, k4⟩
        obtain rfl : n2 = n + 1 := by have := own.len; rw [rowL_len] at this; exact this.symm
        have low2 : Low BB (rowL BB (decF (limbs (decVal (l.take k))) dg) (n + 1)) := rowL_low (by unfold BB; omega) _ _
        have hL := own.toLimbs low2 (by omega)
        obtain ⟨t5, ht⟩ : ∃ x, x = tlen (rowL BB (decF (limbs (decVal (l.take k))) dg) (n + 1)) := ⟨_, rfl⟩
        have hNX := HS.out.next (u := .int .u8 (48 + (dg : Int))) hkl HD.out (A' := A2) (c' := c2) (w4 := w4) (by rw [← HDGE.out]; exact own) k4 t5 (by rw [← HDGE.out]; exact ht)
        have KA : Keep (fun _ => False) wr w4 := ((Keep.refl _ _).alloc _).trans k4
        have hm4 := KA.heap HS.out.m (by simp)
        have hx4 := KA.heap HS.out.x (by simp)
        have q0 : w4.cell? ⟨Bm, 0, none⟩ = some (.slice A n c) := by rw [cell_of_row w4 _ _ _ _ _ hm4]; rfl
        have q1 : w4.frozen? ⟨Bm, 0, none⟩ = false := by simp [World.frozen?, hm4]
        have HT := Lib.hid ht
        have HNX := Lib.hid hNX
        have HX4 := Lib.hid hx4
        have HKA := Lib.hid (HS.out.K.trans KA)
        clear HR own k4 low2 hNX KA hm4 hx4 cm hBm
        try dsimp only
        go_wp2_with fail
        refine (trim_any A2 (n + 1) c2 _ w4 hL).mono ?_
        rintro e wx ⟨rfl, rfl⟩
        rw [← HT.out]
        clear hL ht
        have hxm := HS.out.xm
        have hmx : Bm ≠ Bx := fun e => hxm e.symm
        by_cases hbig : 48 < t5
        · have hbi : (48 : Int) < (t5 : Int) := by omega
          have hnf := fits_grow (neg := false) (l := l) (k := k + 1) (by rw [← HNX.out.1]; exact hbig)
          have HNF := Lib.hid hnf
          have s0 : w4.cell? ⟨Bx, 0, none⟩ = some (.bool false) := by rw [cell_of_row w4 _ _ _ _ _ HX4.out]; rfl
          have s1 : w4.cell? ⟨Bx, 1, none⟩ = some (.slice none 0 0) := by rw [cell_of_row w4 _ _ _ _ _ HX4.out]; rfl
          have s2 : w4.frozen? ⟨Bx, 0, none⟩ = false := by simp [World.frozen?, HX4.out]
          have s3 : w4.frozen? ⟨Bx, 1, none⟩ = false := by simp [World.frozen?, HX4.out]
          have KS : Keep (fun x => x = Bm) w4 (w4.setCell ⟨Bm, 0, none⟩ (.slice A2 t5 c2)) := setCell_keep (S := fun x => x = Bm) rfl 0 _
          have HE2 := Lib.hid (two_cells (KS.heap HX4.out hxm) (.bool false) (.slice none 0 0))
          have HKE := Lib.hid (two_keep (HKA.out.into KS (by rintro i rfl; exact HS.out.wm)) HBX.out (.bool false) (.slice none 0 0))
          clear hbig hnf KS
          try dsimp only
          go_wp2_with fail
          obtain ⟨e0, e1⟩ := HE2.out
          refine bodyPost_ret (v := .tuple #[numArg false none 0 0, .int .i64 6]) ?_ rfl ?_
          · simp [results, Tryz.results66, go_sem, e0, e1]
          · unfold ParsePost
            rw [HPV.out]
            exact ⟨HKE.out, .inl ⟨HNF.out, rfl⟩⟩
        · have hbi : decide ((48 : Int) < (t5 : Int)) = false := decide_eq_false (by omega)
          have HN5 := Lib.hid (HNX.out.2 (by omega))
          try dsimp only
          go_wp2_with fail
          go_roundw
          case rel => exact ⟨k + 1, _, _, _, by omega, by go_num, HN5.out⟩
          case measure => simp [RowKit.intOf]; omega
      · have hd : decide ((k : Int) < (l.length : Int)) = false := decide_eq_false (by omega)
        have ek : k = l.length := by omega
        have hE : sval false (limbs (decVal (l.take k))) = (if false = true then -(decVal l : Int) else (decVal l : Int)) := by rw [sval_dec, ek, List.take_length]
        have HEQ := Lib.hid hE
        have hLm := HS.out.own.toLimbs (digs_low BB2 _) (by omega)
        have HR := Lib.hid (fun (e : Ending) (w2 : World) => res_two (x := sval false (limbs (decVal (l.take k)))) (e := e) (w2 := w2) HS.out.K HBX.out (heap_lt HS.out.x) HS.out.x)
        clear hE ek
        go_wp2_with fail
        refine (made_any false A n c _ _ hLm).mono ?_
        intro e w9 hres
        obtain ⟨ng, A9, n9, c9, f9, rfl, c0, c1, f0, f1, e0, e1, P⟩ := HR.out _ _ hres
        rw [HEQ.out] at P
        have HP9 := Lib.hid P
        have HEE := Lib.hid (And.intro e0 e1)
        clear hres P hLm e0 e1
        try dsimp only
        go_wp2_with fail
        refine bodyPost_ret (v := .tuple #[numArg ng A9 n9 c9, .int .i64 f9]) ?_ rfl (by unfold ParsePost; rw [HPV.out]; exact HP9.out)
        obtain ⟨e0, e1⟩ := HEE.out
        simp [results, Tryz.results66, go_sem, e0, e1]
  · have hP : parseV s.data.toList = none := by
      unfold parseV
      rw [if_pos (.inr (by simpa using hA))]
    have HPV := Lib.hid hP
    have HA := Lib.hid hA
    clear hE hP hA hsz
    go_enter Tryz.func66, Tryz.ntmps66
    go_wp2_with fail
    refine (Tryz.strings_HasPrefix s ⟨#[45]⟩ _).mono ?_
    rintro e w1 ⟨rfl, rfl⟩
    rw [show Lib.hasPrefix s.data.toList (⟨#[45]⟩ : ByteArray).data.toList = false from HN.out]
    try dsimp only
    go_wp2_with fail
    refine (Tryz.strings_HasPrefix s ⟨#[43]⟩ _).mono ?_
    rintro e w1 ⟨rfl, rfl⟩
    rw [show Lib.hasPrefix s.data.toList (⟨#[43]⟩ : ByteArray).data.toList = false from HP.out]
    try dsimp only
    go_wp2_with fail
    refine (trimDigits_any s _ HSZ.out).mono ?_
    rintro e w2 ⟨rfl, k2⟩
    obtain ⟨t, ht⟩ : ∃ t : ByteArray, t = ⟨(Lib.trimS s.data.toList [48, 49, 50, 51, 52, 53, 54, 55, 56, 57]).toArray⟩ := ⟨_, rfl⟩
    rw [← ht]
    have hte : t.toList.isEmpty = false := by
      rw [Lib.toList_data, ht]
      show (Lib.trimS s.data.toList [48, 49, 50, 51, 52, 53, 54, 55, 56, 57]).isEmpty = false
      rw [H2.out]
      cases h : Lib.trimS (body s.data.toList) [48, 49, 50, 51, 52, 53, 54, 55, 56, 57] with
      | nil => exact absurd ((trim_digits _).1 h) HA.out
      | cons _ _ => rfl
    have K2 := HK.out.trans k2
    have hb2 := k2.heap HB.out (by simp)
    clear ht
    try dsimp only
    have r0 : w2.cell? ⟨w.heap.size, 0, none⟩ = some (.bool false) := by rw [cell_of_row w2 _ _ _ _ _ hb2]; rfl
    have r1 : w2.cell? ⟨w.heap.size, 1, none⟩ = some (.slice none 0 0) := by rw [cell_of_row w2 _ _ _ _ _ hb2]; rfl
    have f0 : w2.frozen? ⟨w.heap.size, 0, none⟩ = false := by simp [World.frozen?, hb2]
    have f1 : w2.frozen? ⟨w.heap.size, 1, none⟩ = false := by simp [World.frozen?, hb2]
    have HE2 := Lib.hid (two_cells hb2 (.bool false) (.slice none 0 0))
    have HKE := Lib.hid (two_keep K2 (Nat.le_refl w.heap.size) (.bool false) (.slice none 0 0))
    clear K2 k2 hb2
    go_wp2_with fail
    obtain ⟨e0, e1⟩ := HE2.out
    refine bodyPost_ret (v := .tuple #[numArg false none 0 0, .int .i64 9]) ?_ rfl ?_
    · simp [results, Tryz.results66, go_sem, e0, e1]
    · unfold ParsePost
      rw [HPV.out]
      exact ⟨rfl, HKE.out⟩
theorem parse_any (s : ByteArray) (w : World) (hs : s.size ≤ 1000000) : Calls Tryz.prog 66 #[.string s] w (ParsePost s.data.toList w) := by
  by_cases h1 : Lib.hasPrefix s.data.toList [45] = true
  · exact parse_neg s w hs h1
  · by_cases h2 : Lib.hasPrefix s.data.toList [43] = true
    · exact parse_plus s w hs (by simpa using h1) h2
    · exact parse_none s w hs (by simpa using h1) (by simpa using h2)
end Go.Proofs.YtkjocmenpccooaaGreatDoor
