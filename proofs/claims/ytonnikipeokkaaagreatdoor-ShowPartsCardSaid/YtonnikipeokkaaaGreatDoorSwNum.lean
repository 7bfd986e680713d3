/-
  The texts of numbers, and May: the program's and the document's. (Texts of another seat, turned to this one by program.)
-/
import Derived.Test.YtonnikipeokkaaaGreatDoorPnNum
import Derived.Test.YtonnikipeokkaaaGreatDoorN2
import Derived.Laws.IdiomStrings
namespace Go.Proofs.YtonnikipeokkaaaGreatDoor
open Go.RowKit
theorem lval_limbs (v : Nat) : lval (limbs v) = v := val_digs BB2 v
section
variable {B : Nat} (hB : B = 2 ^ 32)
include hB
end
theorem BB_two : BB = 2 ^ 32 := by unfold BB; rfl
theorem sval_zero (neg : Bool) (l : List Nat) : sval neg l = 0 ↔ lval l = 0 := by
  unfold sval; cases neg <;> simp
open Go.RowKit Go.Sort Go.Lib
abbrev encB : UInt8 → Value := fun (b : UInt8) => Value.int .u8 (b.toNat : Int)
theorem holds24 (w : World) (nd : Nat) (hs : nd ≤ 24) : Holds encB (w.alloc (.cells Lib.zeros24 236)) w.heap.size 0 (Array.replicate nd (0 : UInt8)) := fun j hj => by
  have hj' : j < nd := by simpa using hj
  refine ⟨?_, World.frozen?_alloc_new _ _ _ _⟩
  rw [World.cell?_alloc_new, zeros24_at _ (by omega), getElem!_pos _ j hj]
  simp
def StrPost (l : List UInt8) (w : World) (e : Ending) (w' : World) : Prop := e = .returned (.string ⟨l.toArray⟩) ∧ Keep (fun _ => False) w w'
theorem keep_put (w : World) (o : Obj) (dk : Array UInt8) (k : Nat) : Keep (fun _ => False) w ((putRow encB (w.alloc o) w.heap.size 0 dk).drewN k) := by
  rw [alloc_eq_grow]
  obtain ⟨os', _, e⟩ := putRow_grow_new encB w #[o] w.heap.size 0 dk (Nat.le_refl _)
  rw [e]
  have g : Keep (fun _ => False) w (grow w os') := ⟨rfl, rfl, rfl, by simp, fun i hi _ => heap_grow_old w os' hi⟩
  exact g.drewN k
set_option maxHeartbeats 4000000 in
set_option maxRecDepth 100000 in
theorem fmt_any (u : Nat) (w : World) (hu64 : u < 18446744073709551616) (htab : PowTab w) :
    Calls Tryz.prog 163 #[.int .u64 (u : Int), .int .i64 10] w (StrPost (Lib.decDigits u) w) := by
  by_cases hs : u < 100
  · have hi : (u : Int) < 100 := by omega
    go_enter Tryz.func163, Tryz.ntmps163
    go_wp2_with fail
    refine (Tryz.internal_strconv_small u hs w).mono ?_
    rintro e w' ⟨rfl, rfl⟩
    try dsimp only
    go_wp2_with fail
    go_ret
    exact ⟨rfl, Keep.refl _ _⟩
  · have hi : decide ((u : Int) < 100) = false := decide_eq_false (by omega)
    have hu1 : 1 ≤ u := by omega
    have hnd20 : Lib.nDigits u ≤ 20 := by have := Lib.numDigits_eq u hu1 hu64; split at this <;> omega
    have hal : Tryz.prog.arrayLen 236 = 24 := by kernel_rfl
    have hsl : ∀ W, (Instr.sliceAt 236 (.pointer (some ⟨w.heap.size, 0, none⟩)) none (some (.int .i64 (Lib.nDigits u : Int))) none).run Tryz.prog W = .ok (.slice (some ⟨w.heap.size, 0, none⟩) (Lib.nDigits u) 24) W := fun W => by
      rw [run_sliceAt_array_h W 236 ⟨w.heap.size, 0, none⟩ (by kernel_rfl) .i64 (Lib.nDigits u : Int) (by omega) (by rw [hal]; omega)]
      go_simp
    have hH0 := holds24 w (Lib.nDigits u) (by omega)
    have hfmt := Tryz.internal_strconv_formatBase10 w.heap.size 0 24 u (Array.replicate (Lib.nDigits u) 0) (w.alloc (.cells Lib.zeros24 236)) hH0 (by rw [Array.size_replicate]; exact Lib.lt_pow_nDigits u) hu64 (by rw [Array.size_replicate]; omega)
    rw [Array.size_replicate] at hfmt
    have HH0 := Lib.hid hH0
    have HF := Lib.hid hfmt
    have HU := Lib.hid (And.intro hu1 hu64)
    have HT := Lib.hid (Lib.tabIs_alloc htab (.cells Lib.zeros24 236))
    clear hH0 hal hfmt hs hu1 hu64 htab
    go_enter Tryz.func163, Tryz.ntmps163
    go_wp2_with fail
    refine (Tryz.internal_strconv_numDigits u HU.out.1 HU.out.2 _ HT.out).mono ?_
    rintro e w' ⟨rfl, rfl⟩
    try dsimp only
    go_wp2_with fail
    refine HF.out.mono ?_
    rintro e w' ⟨rfl, k, v', dk, rfl, hF⟩
    have hcv : (convert 70 9 (.slice (some ⟨w.heap.size, 0, none⟩) (Lib.nDigits u) 24)).run Tryz.prog ((putRow encB (w.alloc (.cells Lib.zeros24 236)) w.heap.size 0 dk).drewN k) = .ok (.string ⟨(Lib.decDigits u).toArray⟩) ((putRow encB (w.alloc (.cells Lib.zeros24 236)) w.heap.size 0 dk).drewN k) := by
      have h := run_convert_bytes_back (P := Tryz.prog) ((putRow encB (w.alloc (.cells Lib.zeros24 236)) w.heap.size 0 dk).drewN k) 70 9 5 ⟨w.heap.size, 0, none⟩ 24 (Lib.decDigits u) Tryz.underlying70 Tryz.underlying5 Tryz.underlying9 (fun j hj => by
        rw [Lib.row_is_numeral hF j hj, Lib.add_plain, World.cell?_drewN]
        exact cell?_putRow encB _ w.heap.size 0 _ dk HH0.out (by rw [hF.size, Array.size_replicate]) j (by rw [hF.size]; rw [Lib.decDigits_length] at hj; exact hj))
      rw [Lib.decDigits_length] at h
      exact h
    have P := keep_put w (.cells Lib.zeros24 236) dk k
    have HP := Lib.hid P
    clear P hF
    try dsimp only
    go_wp2_with fail
    go_ret
    exact ⟨rfl, HP.out⟩
set_option maxRecDepth 100000 in
set_option maxHeartbeats 400000 in
theorem format_any (u : Nat) (w : World) (hu64 : u < 18446744073709551616) (htab : PowTab w) :
    Calls Tryz.prog 142 #[.int .u64 (u : Int), .int .i64 10] w (StrPost (Lib.decDigits u) w) := by
  have HF := Lib.hid (fmt_any u w hu64 htab)
  clear htab
  go_enter Tryz.func142, Tryz.ntmps142
  go_wp2_with fail
  refine HF.out.mono ?_
  rintro e w' ⟨rfl, K⟩
  try dsimp only
  go_wp2_with fail
  go_ret
  exact ⟨rfl, K⟩
open Go.Lib
theorem val_drop_succ (B : Nat) (l : List Nat) (k : Nat) (h : k < l.length) : val B (l.drop k) = l.getD k 0 + B * val B (l.drop (k + 1)) := by
  rw [List.drop_eq_getElem_cons h, val, List.getD_eq_getElem?_getD, List.getElem?_eq_getElem h]
  rfl
theorem DivSt.step {B D k : Nat} {l m : List Nat} {c : Nat} (_hB : 0 < B) (hD : 0 < D) (hl : Low B l) (h : DivSt B D (k + 1) l m c) (hk : k < l.length) :
    (c * B + m.getD k 0) / D < B ∧ DivSt B D k l (m.set k ((c * B + m.getD k 0) / D)) ((c * B + m.getD k 0) % D) := by
  have hx := hl.getD _hB k
  rw [h.same k (by omega)]
  generalize hl0 : l.getD k 0 = x at *
  have hc := h.lt
  have hlt : (c * B + x) / D < B := by
    rw [Nat.div_lt_iff_lt_mul hD]
    have : (c + 1) * B ≤ D * B := Nat.mul_le_mul_right _ hc
    rw [Nat.add_mul, Nat.one_mul] at this
    rw [Nat.mul_comm B D]
    omega
  refine ⟨hlt, by rw [List.length_set]; exact h.len, h.low.set _ hlt, ?_, Nat.mod_lt _ hD, ?_⟩
  · intro j hj
    rw [List.getD_eq_getElem?_getD, List.getElem?_set_ne (by omega), ← List.getD_eq_getElem?_getD]
    exact h.same j (by omega)
  · have hkm : k < (m.set k ((c * B + x) / D)).length := by rw [List.length_set, h.len]; exact hk
    rw [val_drop_succ B l k hk, val_drop_succ B (m.set k ((c * B + x) / D)) k hkm, hl0, h.v, List.drop_set_of_lt (by omega)]
    have eg : (m.set k ((c * B + x) / D)).getD k 0 = (c * B + x) / D := by
      rw [List.getD_eq_getElem?_getD, List.getElem?_set_self (by rw [h.len]; exact hk)]; rfl
    rw [eg]
    have e := Nat.div_add_mod (c * B + x) D
    generalize (c * B + x) / D = a at *
    generalize (c * B + x) % D = b at *
    generalize val B (m.drop (k + 1)) = y at *
    rw [Nat.mul_add, Nat.add_mul, ← Nat.mul_assoc, Nat.mul_comm B c, Nat.mul_comm a D]
    have : B * y * D = B * (y * D) := Nat.mul_assoc _ _ _
    rw [this] at *
    omega
theorem own_holds {w : World} {base g cap : Nat} {ps : List (List UInt8)} (h : OwnS w base (.slice (some ⟨g, 0, none⟩) ps.length cap) ps) : Holds encStr w g 0 ps.toArray := by
  intro j hj
  have hj' : j < ps.length := by simpa using hj
  refine ⟨?_, ?_⟩
  · have := World.ownsRow.cellAt h j (by rw [Nat.mul_one]; exact hj')
    rw [Nat.zero_add]
    rw [this]
    simp [hj']
  · rcases h.2 with ⟨hn, _⟩ | ⟨g2, cap2, cur2, hv, hg, hh, _⟩
    · cases hn
    · injection hv with e _ _
      injection e with e
      injection e with e _ _
      subst e
      simp [World.frozen?, hh]
theorem join_empty : ∀ l : List (List UInt8), Lib.join l [] = l.flatten := by
  intro l
  cases l with
  | nil => rfl
  | cons x r =>
    rw [Lib.join_cons]
    simp [Lib.joinTail]
theorem rev_post {w w' : World} {base g cap n : Nat} {ps : List (List UInt8)} (h : OwnS w base (.slice (some ⟨g, 0, none⟩) ps.length cap) ps) (hw : w' = putRow encStr (Sort.ahead w n) g 0 ps.reverse.toArray) :
    Keep (fun x => x = g) w w' ∧ (∀ (j : Nat) x, (ps.reverse.map fun s : List UInt8 => (⟨s.toArray⟩ : ByteArray))[j]? = some x → w'.cell? ⟨g, 0 + j, none⟩ = some (.string x)) := by
  subst hw
  refine ⟨?_, ?_⟩
  · refine ⟨rfl, rfl, rfl, by simp [putRow, mapBlock, Sort.ahead], fun i _ hs => ?_⟩
    simp only [putRow, mapBlock, Sort.ahead, Array.getElem?_modify]
    rw [if_neg (fun e => hs e.symm)]
  · intro j x hx
    have hH := own_holds h
    have hj : j < ps.length := by
      rcases Nat.lt_or_ge j ps.length with h' | h'
      · exact h'
      · rw [List.getElem?_eq_none (by simp; omega)] at hx; cases hx
    have hH2 : Holds encStr (Sort.ahead w n) g 0 ps.toArray := fun i hi => hH i hi
    rw [cell?_putRow encStr (Sort.ahead w n) g 0 ps.toArray ps.reverse.toArray hH2 (by simp) j (by simpa using hj)]
    rw [List.getElem?_map, List.getElem?_eq_getElem (by simpa using hj)] at hx
    simp only [Option.map_some, Option.some.injEq] at hx
    rw [← hx]
    rw [getElem!_pos _ j (by simpa using hj)]
    simp
theorem len_bound {V v k n : Nat} (h : v * GG ^ k ≤ V) (hv : 0 < v) (hV : V < BB ^ n) (hn : n ≤ 9000) : k ≤ 10000 := by
  have h1 : GG ^ k ≤ V := Nat.le_trans (Nat.le_mul_of_pos_left _ hv) h
  have h2 : (2 ^ 29) ^ k ≤ GG ^ k := Nat.pow_le_pow_left (by unfold GG; omega) k
  have h3 : (2 ^ 29) ^ k < (2 ^ 32) ^ n := by rw [← BB_two]; omega
  rw [← Nat.pow_mul, ← Nat.pow_mul] at h3
  have := (Nat.pow_lt_pow_iff_right (by omega)).1 h3
  omega
theorem info9 : (Tryz.prog.info? 9).map (fun i => (i.zero, i.size, i.bytes)) = some (some (.string ⟨#[]⟩), 1, 16) := by kernel_rfl
theorem new_str (w5 : World) (t : ByteArray) : ∀ j u, ([Value.string t] : List Value)[j]? = some u → (w5.alloc (.cells #[.string t] 9)).cell? ((⟨w5.heap.size, 0, none⟩ : Addr).add j) = some u := by
  intro j u hu
  match j with
  | 0 =>
    simp at hu
    subst hu
    rw [Addr.add_mid, cell_of_row _ _ _ _ _ _ (heap_alloc_new w5 _)]
    rfl
  | j + 1 => simp at hu
theorem repeat_one (z : Nat) : repeatL [48] z = List.replicate z 48 := by
  induction z with
  | zero => rfl
  | succ z ih => rw [repeatL, ih, List.replicate_succ]; rfl
theorem cat_str {t : ByteArray} {d : List UInt8} {z k : Nat} (ht : t = ⟨d.toArray⟩) (hz : z = k) : ({ data := (repeatL [48] z).toArray } : ByteArray) ++ t = ⟨(List.replicate k 48 ++ d).toArray⟩ := by
  rw [ht, hz, repeat_one]
  apply ByteArray.ext
  simp [ByteArray.data_append]
theorem dec_bound {V n : Nat} (hV : V < BB ^ n) (hn : n ≤ 9000) : (decDigits V).length ≤ 288001 := by
  have h1 : BB ^ n ≤ 10 ^ (32 * n) := by
    rw [BB_two, ← Nat.pow_mul]
    exact Nat.pow_le_pow_left (by omega) _
  have h2 : 10 ^ (32 * n) < 10 ^ (32 * n + 1) := Nat.pow_lt_pow_right (by omega) (by omega)
  have := dec_le (32 * n) V (by omega)
  omega
/-- What Reverse and Join make. -/
theorem text_end {wr w5 : World} {base g cap q : Nat} {ps : List (List UInt8)} (o : OwnS wr base (.slice (some ⟨g, 0, none⟩) ps.length cap) ps) (hg : g < wr.heap.size) (hw : w5 = putRow encStr (Sort.ahead wr q) g 0 ps.reverse.toArray) (hl : ps.length ≤ 100000) (hs : ps.reverse.flatten.length ≤ 1000000) :
    Calls Tryz.prog 145 #[.slice (some ⟨g, 0, none⟩) ps.length cap, .string ⟨#[]⟩] w5 fun e w' => e = .returned (.string ⟨(ps.reverse.flatten).toArray⟩) ∧ Keep (fun x => x = g) wr w' := by
  obtain ⟨k, hc⟩ := rev_post o hw
  have e1 : (ps.reverse.map fun s : List UInt8 => (⟨s.toArray⟩ : ByteArray)).length = ps.length := by simp
  have e2 : ((ps.reverse.map fun s : List UInt8 => (⟨s.toArray⟩ : ByteArray)).map (·.data.toList)) = ps.reverse := by
    rw [List.map_map, show ((fun x : ByteArray => x.data.toList) ∘ fun s : List UInt8 => (⟨s.toArray⟩ : ByteArray)) = id from funext fun _ => rfl, List.map_id]
  have hcap : ps.length ≤ cap := by
    rcases o.2 with ⟨hn, _⟩ | ⟨g2, cap2, cur2, hv, _, _, h1, _⟩
    · cases hn
    · injection hv with _ _ e3
      omega
  have J := Tryz.strings_Join g 0 cap (ps.reverse.map fun s : List UInt8 => (⟨s.toArray⟩ : ByteArray)) ⟨#[]⟩ w5 hc (Nat.lt_of_lt_of_le hg k.size) (by rw [e1]; omega) (by rw [e1]; exact hcap) (by rw [e2]; show (Lib.join ps.reverse []).length ≤ _; rw [join_empty]; omega)
  rw [e1, e2] at J
  have ej : Lib.join ps.reverse (⟨#[]⟩ : ByteArray).data.toList = ps.reverse.flatten := join_empty _
  rw [ej] at J
  refine J.mono ?_
  rintro e w' ⟨he, hb⟩
  exact ⟨he, k.join (Keep.of_below hb) (fun _ _ h => h.elim)⟩
theorem or_carry {c y : Nat} (hc : (c : Int) ≤ 999999999) (hy : y ≤ 4294967295) : bits BinOp.or IntKind.u64 ((c : Int) * 4294967296) (y : Int) = ((c * BB + y : Nat) : Int) := by
  have h := bits_join .u64 64 (by decide) (fun n h0 h1 => by rw [IntKind.wrap_u64]; omega) 32 ((c : Int) * 4294967296) (y : Int) (by omega) (by omega) (by omega) (by omega) (by omega) (by omega)
  rw [h]
  unfold BB
  omega
set_option maxRecDepth 100000 in
set_option maxHeartbeats 4000000 in
theorem text_any (neg : Bool) (A : Option Addr) (n c : Nat) (l : List Nat) (w : World) (h : LimbsAt w A n c l) (hm : n ≤ 9000) (htab : PowTab w) :
    Calls Tryz.prog 108 #[numArg neg A n c] w (StrPost (Lib.itoa (sval neg l)) w) := by
  have K : Keep (fun _ => False) w (w.alloc (.cells #[.bool neg, .slice A n c] 24)) := (Keep.refl _ _).alloc _
  have hb : (w.alloc (.cells #[.bool neg, .slice A n c] 24)).heap[w.heap.size]? = some (.cells #[.bool neg, .slice A n c] 24 (0, 0)) := heap_alloc_new w _
  have h1 := h.keep0 K
  have tl := tlen_le h1.low
  rw [h1.len] at tl
  have HTAB := Lib.hid htab
  clear htab
  go_enter Tryz.func108, Tryz.ntmps108
  go_wp2_with fail
  refine (trim_any A n c l _ h1).mono ?_
  rintro e w1x ⟨rfl, rfl⟩
  try dsimp only
  go_wp2_with fail
  refine (clone_any A (tlen l) c (limbs (lval l)) _ h1.trim).mono ?_
  rintro e w2 ⟨A2, n2, c2, rfl, own, k2⟩
  have hn2 : n2 ≤ 9000 := by
    have := own.len
    have e : (limbs (lval l)).length = tlen l := rfl
    omega
  have ST : TxSt (w.alloc (.cells #[.bool neg, .slice A n c] 24)) (lval l) (lval l) A2 n2 c2 (.slice none 0 0) [] w2 := ⟨own, World.ownsRow_nil _ _ _ _, k2, hn2, by
    rcases Nat.eq_zero_or_pos (lval l) with h0 | h0
    · exact .inl ⟨h0, h0, rfl⟩
    · exact .inr (.inr ⟨h0, by simp⟩), by simp, by simp, by simp⟩
  have HV := Lib.hid (show lval l < BB ^ n by have := val_lt h.low; rwa [h.len] at this)
  have HST := Lib.hid ST
  have HB := Lib.hid hb
  have HTB := Lib.hid (HTAB.out.keep K)
  have HK := Lib.hid K
  clear ST own k2 hb K h1 h tl hn2
  generalize w.heap.size = Bx at HB ⊢
  generalize w.alloc (.cells #[.bool neg, .slice A n c] 24) = w1 at HST HB HTB HK ⊢
  try dsimp only
  go_wp2_with fail
  go_loopw [3, 4] (fun mv pv wr => ∃ (v : Nat) (A : Option Addr) (n c : Nat) (ps : List (List UInt8)), mv = .slice A n c ∧ TxSt w1 (lval l) v A n c pv ps wr) (fun _ pv _ => match pv with | .slice _ k _ => lval l - k | _ => 0)
  case atStart => exact ⟨_, _, _, _, _, rfl, HST.out⟩
  case round =>
    clear HST
    obtain ⟨v, A3, n3, c3, ps, rfl, st⟩ := hrel
    have hn3 : (limbs v).length = n3 := st.m.len
    obtain ⟨P, cP, rfl⟩ := OwnS.form st.p
    by_cases h0 : v = 0
    · subst h0
      obtain rfl : n3 = 0 := by rw [← hn3]; unfold limbs; rw [digs_zero]; rfl
      have hbw := st.K.heap HB.out (by simp)
      have q0 : wr.cell? ⟨Bx, 0, none⟩ = some (.bool neg) := by rw [cell_of_row wr _ _ _ _ _ hbw]; rfl
      have HS := Lib.hid st
      clear st hbw hn3
      by_cases hps : ps = []
      · subst hps
        have hV : lval l = 0 := by
          rcases HS.out.t with ⟨h, _⟩ | ⟨_, h, _⟩ | ⟨h, _⟩
          · exact h
          · exact absurd rfl h
          · omega
        have e : Lib.itoa (sval neg l) = [48] := by rw [(sval_zero neg l).2 hV]; rw [show (0 : Int) = ((0 : Nat) : Int) from rfl, Lib.itoa_nonneg, dec_small (by omega)]; rfl
        have HE := Lib.hid e
        clear e hV
        go_wp2_with fail
        go_ret
        exact ⟨by rw [HE.out]; rfl, HK.out.trans HS.out.K⟩
      · have hk : 0 < ps.length := List.length_pos_iff.2 hps
        have hki : ((ps.length : Int) == 0) = false := by simp; omega
        have HPS := Lib.hid hps
        clear hps
        obtain ⟨g, cg, eg, _, hlt⟩ := World.ownsRow.form HS.out.p hk
        injection eg with e1 _ e3
        subst e1 e3
        have hgb := (World.ownsRow.lt HS.out.p g rfl).1
        have hfl : ps.reverse.flatten = decDigits (lval l) := by
          rcases HS.out.t with ⟨_, _, h⟩ | ⟨_, _, h⟩ | ⟨h, _⟩
          · exact absurd h HPS.out
          · exact h.symm
          · omega
        have hdb := dec_bound HV.out hm
        have hV1 : 1 ≤ lval l := by have := HS.out.s; omega
        have hpb := HS.out.b
        have HF := Lib.hid (And.intro hfl (And.intro hdb (And.intro hV1 (And.intro hpb (And.intro hgb hlt)))))
        clear hfl hdb hV1 hpb hgb hlt
        cases neg with
        | false =>
          go_wp2_with fail
          refine (Tryz.slices_Reverse_string g 0 cP ps wr (own_holds HS.out.p) (by have := HF.out.2.2.2.1; omega)).mono ?_
          rintro e w7 ⟨rfl, q, hw⟩
          have HW := Lib.hid hw
          clear hw
          try dsimp only
          go_wp2_with fail
          refine (text_end HS.out.p HF.out.2.2.2.2.2 HW.out (by have := HF.out.2.2.2.1; omega) (by rw [HF.out.1]; have := HF.out.2.1; omega)).mono ?_
          rintro e w8 ⟨rfl, k8⟩
          have R : StrPost (Lib.itoa (sval false l)) w (.returned (.string ⟨(ps.reverse.flatten).toArray⟩)) w8 := ⟨by rw [HF.out.1, show sval false l = ((lval l : Nat) : Int) from rfl, Lib.itoa_nonneg], HK.out.trans (HS.out.K.into k8 (by rintro i rfl; exact HF.out.2.2.2.2.1))⟩
          have HR := Lib.hid R
          clear R k8
          try dsimp only
          go_wp2_with fail
          go_ret
          exact HR.out
        | true =>
          obtain ⟨i9, h9, hz0, hz1, hz2⟩ := info_parts info9
          have KW : Keep (fun _ => False) wr (wr.alloc (.cells #[.string ⟨#[45]⟩] 9)) := (Keep.refl _ _).alloc _
          have HP6 := Lib.hid (HS.out.p.keep KW (fun _ _ => id))
          have HNEW := Lib.hid (new_str wr ⟨#[45]⟩)
          have HBS := Lib.hid (Nat.le_trans HS.out.K.size KW.size)
          have HKW := Lib.hid KW
          clear KW
          go_wp2_with (at_builtin; refine wpList_append_own _ rfl (.tmp 61) (.tmp 62) 51 rfl w1.heap.size 9 i9 (.string ⟨#[]⟩) 1 16 Tryz.underlying51 h9 hz0 hz1 hz2 rfl (by decide) _ _ _ rfl HP6.out ⟨wr.heap.size, 0, none⟩ 1 1 [.string ⟨#[45]⟩] rfl rfl HNEW.out ?a1 ?a2 ?a3 HBS.out ?_)
          case a1 => first | rfl | (intro u hu; simp at hu; subst hu; rfl)
          case a2 => have := HF.out.2.2.2.1; unfold maxLen; omega
          case a3 => have := HF.out.2.2.2.1; omega
          intro pv' w6 hown hgrow _
          have o6 : OwnS w6 w1.heap.size pv' (ps ++ [[45]]) := by
            show w6.ownsRow _ 9 1 pv' (ps ++ [[45]]).length ((ps ++ [[45]]).map encStr)
            rw [List.length_append, List.map_append]
            exact hown
          have K6 : Keep (fun _ => False) w1 w6 := (HS.out.K.trans HKW.out).into (Keep.of_grown hgrow) (fun i hi => by
            have e : i = g := by simpa [Value.ownBlock] using hi
            have := HF.out.2.2.2.2.1
            omega)
          obtain ⟨g2, cg2, eg2, _, hlt2⟩ := World.ownsRow.form hown (by omega)
          subst eg2
          have hgb2 := (World.ownsRow.lt hown g2 rfl).1
          obtain ⟨ps2, hps2⟩ : ∃ x, x = ps ++ [([45] : List UInt8)] := ⟨_, rfl⟩
          have el : ps.length + 1 = ps2.length := by rw [hps2]; simp
          rw [← hps2] at o6
          have efl : ps2.reverse.flatten = 45 :: decDigits (lval l) := by rw [hps2, ← HF.out.1]; simp
          have HEF := Lib.hid (And.intro efl el)
          have HO6 := Lib.hid o6
          have HX := Lib.hid (And.intro K6 (And.intro hlt2 hgb2))
          clear o6 K6 hlt2 hgb2 hown hgrow
          rw [el] at HO6 ⊢
          clear efl hps2 el
          go_wp2_with fail
          refine (Tryz.slices_Reverse_string g2 0 cg2 ps2 w6 (own_holds HO6.out) (by have := HF.out.2.2.2.1; have := HEF.out.2; omega)).mono ?_
          rintro e w7 ⟨rfl, q, hw⟩
          have HW := Lib.hid hw
          clear hw
          try dsimp only
          go_wp2_with fail
          refine (text_end HO6.out HX.out.2.1 HW.out (by have := HF.out.2.2.2.1; have := HEF.out.2; omega) (by rw [HEF.out.1]; have := HF.out.2.1; rw [List.length_cons]; omega)).mono ?_
          rintro e w8 ⟨rfl, k8⟩
          have R : StrPost (Lib.itoa (sval true l)) w (.returned (.string ⟨(ps2.reverse.flatten).toArray⟩)) w8 := ⟨by rw [HEF.out.1, show sval true l = -((lval l : Nat) : Int) from rfl, Lib.itoa_neg _ HF.out.2.2.1], HK.out.trans (HX.out.1.into k8 (by rintro i rfl; exact HX.out.2.2))⟩
          have HR := Lib.hid R
          clear R k8
          try dsimp only
          go_wp2_with fail
          go_ret
          exact HR.out
    · have hpos : 0 < n3 := by
        rw [← hn3]
        exact Nat.pos_of_ne_zero (fun e => h0 (by have := congrArg lval (List.eq_nil_of_length_eq_zero e); rw [lval_limbs] at this; exact this))
      obtain ⟨b, c', e1, hcn, hlt⟩ := World.ownsRow.form st.m hpos
      injection e1 with e1 _ e3
      subst e1 e3
      have HS := Lib.hid st
      have hn := st.n
      clear st hn3
      go_wp2_with fail
      have low3 : Low BB (limbs v) := digs_low BB2 _
      go_loopw [5, 6] (fun cv iv wi => ∃ (k : Nat) (m : List Nat) (cr : Nat), k ≤ n3 ∧ iv = .int .i64 ((k : Int) - 1) ∧ cv = .int .u64 (cr : Int) ∧ OwnR 126 .u32 wi w1.heap.size (some ⟨b, 0, none⟩) n3 c3 m ∧ DivSt BB GG k (limbs v) m cr ∧ Keep (fun x => x = b) wr wi) (fun _ iv _ => (RowKit.intOf iv + 1).toNat)
      case atStart =>
        refine ⟨n3, _, 0, Nat.le_refl _, rfl, rfl, HS.out.m, ?_, Keep.refl _ _⟩
        have := DivSt.start (B := BB) (D := GG) (by unfold GG; omega) low3
        rwa [HS.out.m.len] at this
      case round =>
        obtain ⟨k, m, cr, hk, rfl, rfl, own, D, kk⟩ := hrel
        rcases Nat.eq_zero_or_pos k with rfl | hkp
        · obtain ⟨dv, dc⟩ := D.done (by unfold GG; omega)
          have hcr : (cr : Int) ≤ 999999999 := by have := D.lt; unfold GG at this; omega
          have hlm := own.toLimbs D.low (by omega)
          have HO := Lib.hid own
          have HDV := Lib.hid (And.intro (show lval m = v / GG by rw [← lval_limbs v]; exact dv) (show cr = v % GG by rw [← lval_limbs v]; exact dc))
          have HL := Lib.hid D.low
          have HKK := Lib.hid kk
          clear dv dc D own kk
          go_wp2_with fail
          refine (trim_any _ n3 c3 m _ hlm).mono ?_
          rintro e w4 ⟨rfl, rfl⟩
          try dsimp only
          go_wp2_with fail
          have hbb := (HS.out.m.fresh b 0 rfl).1
          have KA : Keep (fun _ => False) w1 wr := HS.out.K.into HKK.out (by rintro i rfl; exact hbb)
          have hp := HS.out.p.keep HKK.out (fun g hg e => txt_ne HS.out.m HS.out.p (by rw [hg, e]))
          have HKA := Lib.hid KA
          have HPP := Lib.hid hp
          have hts : (decDigits cr).length ≤ 9 := dec_le 8 cr (by omega)
          refine (format_any cr _ (by omega) (HTB.out.keep KA)).mono ?_
          rintro e w5 ⟨rfl, k5⟩
          obtain ⟨t, ht⟩ : ∃ t : ByteArray, t = ⟨(decDigits cr).toArray⟩ := ⟨_, rfl⟩
          have hsz : (t.size : Int) ≤ 9 := by rw [ht]; simp [ByteArray.size]; omega
          rw [← ht]
          have HT := Lib.hid ht
          have htl := tlen_pos m
          have HTL := Lib.hid htl
          have HK5 := Lib.hid k5
          have hsz2 : (0 : Int) ≤ (t.size : Int) := by omega
          clear hp ht KA hts htl k5 hlm hbb
          by_cases hq : 0 < tlen m
          · have hqi : (0 : Int) < (tlen m : Int) := by omega
            obtain ⟨z, hz⟩ : ∃ z : Nat, (9 : Int) - (t.size : Int) = (z : Int) ∧ z = 9 - (decDigits cr).length := ⟨9 - (decDigits cr).length, by rw [HT.out]; simp [ByteArray.size]; have := dec_le 8 cr (by omega); omega, rfl⟩
            obtain ⟨hz, hz'⟩ := hz
            have HZ := Lib.hid hz'
            clear hz'
            try dsimp only
            go_wp2_with fail
            refine (Tryz.strings_Repeat ⟨#[48]⟩ z w5 (by omega) (by simp [ByteArray.size]; omega)).mono ?_
            rintro e w7 ⟨rfl, b7⟩
            have HK7 := Lib.hid (HK5.out.trans (Keep.of_below b7))
            have hcl : (9223372036854775807 < (repeatL [48] z).length + t.size) = False := eq_false (by rw [repeat_one, List.length_replicate]; omega)
            clear b7
            obtain ⟨i9, h9, hz0, hz1, hz2⟩ := info_parts info9
            have KW : Keep (fun _ => False) wr (w7.alloc (.cells #[.string (({ data := (repeatL [48] z).toArray } : ByteArray) ++ t)] 9)) := HK7.out.alloc _
            have HP6 := Lib.hid ((HPP.out).keep KW (fun _ _ => id))
            have HNEW := Lib.hid (new_str w7 (({ data := (repeatL [48] z).toArray } : ByteArray) ++ t))
            have HLEN := Lib.hid (len_bound HS.out.g (Nat.pos_of_ne_zero h0) HV.out hm)
            have HBS := Lib.hid (Nat.le_trans HKA.out.size KW.size)
            clear KW
            try dsimp only
            go_wp2_with (at_builtin; refine wpList_append_own _ rfl (.tmp 52) (.tmp 54) 51 rfl w1.heap.size 9 i9 (.string ⟨#[]⟩) 1 16 Tryz.underlying51 h9 hz0 hz1 hz2 rfl (by decide) _ _ _ rfl HP6.out ⟨w7.heap.size, 0, none⟩ 1 1 [.string (({ data := (repeatL [48] z).toArray } : ByteArray) ++ t)] rfl rfl HNEW.out ?a1 ?a2 ?a3 HBS.out ?_)
            case a1 => intro u hu; simp at hu; subst hu; rfl
            case a2 => have := HLEN.out; unfold maxLen; omega
            case a3 => have := HLEN.out; omega
            intro pv' w6 hown hgrow _
            have N := TxSt.next HS.out HLEN.out (Nat.pos_of_ne_zero h0) HKK.out HO.out HL.out HDV.out.1 HDV.out.2 HK7.out (cat_str HT.out HZ.out) (.inl ⟨by have := HTL.out; rw [← HDV.out.1]; omega, rfl⟩) hown hgrow
            obtain ⟨P', cP', rfl⟩ := OwnS.form N.p
            have hps := HS.out.s
            have HN := Lib.hid N
            clear N hown hgrow
            go_wp2_with fail
            go_roundw
            case rel => exact ⟨_, _, _, _, _, rfl, HN.out⟩
            case measure =>
              simp only [List.length_append, List.length_singleton]
              have := Nat.pos_of_ne_zero h0
              omega
          · have hqi : decide ((0 : Int) < (tlen m : Int)) = false := decide_eq_false (by omega)
            obtain ⟨i9, h9, hz0, hz1, hz2⟩ := info_parts info9
            have KW : Keep (fun _ => False) wr (w5.alloc (.cells #[.string t] 9)) := HK5.out.alloc _
            have HP6 := Lib.hid ((HPP.out).keep KW (fun _ _ => id))
            have HNEW := Lib.hid (new_str w5 t)
            have HLEN := Lib.hid (len_bound HS.out.g (Nat.pos_of_ne_zero h0) HV.out hm)
            have HBS := Lib.hid (Nat.le_trans HKA.out.size KW.size)
            clear KW
            try dsimp only
            go_wp2_with (at_builtin; refine wpList_append_own _ rfl (.tmp 52) (.tmp 54) 51 rfl w1.heap.size 9 i9 (.string ⟨#[]⟩) 1 16 Tryz.underlying51 h9 hz0 hz1 hz2 rfl (by decide) _ _ _ rfl HP6.out ⟨w5.heap.size, 0, none⟩ 1 1 [.string t] rfl rfl HNEW.out ?a1 ?a2 ?a3 HBS.out ?_)
            case a1 => intro u hu; simp at hu; subst hu; rfl
            case a2 => have := HLEN.out; unfold maxLen; omega
            case a3 => have := HLEN.out; omega
            intro pv' w6 hown hgrow _
            have N := TxSt.next HS.out HLEN.out (Nat.pos_of_ne_zero h0) HKK.out HO.out HL.out HDV.out.1 HDV.out.2 HK5.out HT.out (.inr ⟨by have := HTL.out; rw [← HDV.out.1]; omega, rfl⟩) hown hgrow
            obtain ⟨P', cP', rfl⟩ := OwnS.form N.p
            have hps := HS.out.s
            have HN := Lib.hid N
            clear N hown hgrow
            go_wp2_with fail
            go_roundw
            case rel => exact ⟨_, _, _, _, _, rfl, HN.out⟩
            case measure =>
              simp only [List.length_append, List.length_singleton]
              have := Nat.pos_of_ne_zero h0
              omega
        · obtain ⟨k, rfl⟩ : ∃ j, k = j + 1 := ⟨k - 1, by omega⟩
          have hkl : k < n3 := by omega
          have hkl2 : k < (limbs v).length := by rw [HS.out.m.len]; exact hkl
          obtain ⟨s1, s2⟩ := D.step (by unfold BB; omega) (by unfold GG; omega) low3 hkl2
          have hy := low_cast D.low k
          have hcr : (cr : Int) ≤ 999999999 := by have := D.lt; unfold GG at this; omega
          obtain ⟨b', o', e1, _, hcx⟩ := own.row.2 k hkl
          injection e1 with e1
          injection e1 with e1 e2 _
          subst e1 e2
          rw [Nat.zero_add] at hcx
          have hfz := own.frozen _ _ rfl k
          obtain ⟨y, hyy⟩ : ∃ y, y = m.getD k 0 := ⟨_, rfl⟩
          rw [← hyy] at s1 s2 hy hcx
          have hor := or_carry hcr (y := y) (by omega)
          obtain ⟨x, hx⟩ : ∃ x, x = cr * BB + y := ⟨_, rfl⟩
          rw [← hx] at s1 s2 hor
          have hxl : (x : Int) ≤ 4300000000000000000 := by rw [hx]; unfold BB; omega
          have hq : (x : Int) / 1000000000 = ((x / GG : Nat) : Int) := by unfold GG; omega
          have hr : (x : Int) % 1000000000 = ((x % GG : Nat) : Int) := by unfold GG; omega
          have ek : ((k + 1 : Nat) : Int) - 1 = (k : Int) := by omega
          rw [ek]
          have own2 := own.set hkl (x / GG)
          have kk2 : Keep (fun z => z = b) _ _ := kk.setCell (p := ⟨b, k, none⟩) (.inl rfl) (.int .u32 ((x / GG : Nat) : Int))
          have HO := Lib.hid own2
          have HD := Lib.hid s2
          have HKK := Lib.hid kk2
          have HQ := Lib.hid hq
          have HR := Lib.hid hr
          have hql : (x : Int) / 1000000000 ≤ 4294967295 := by rw [hq]; have := s1; unfold BB at this; generalize x / GG = z at *; omega
          clear own own2 kk kk2 D s1 s2 hyy hx hq hr ek hkl2 low3
          go_wp2_with fail
          go_roundw
          case rel => exact ⟨k, _, _, by omega, by go_num, by rw [HR.out], by rw [HQ.out]; exact HO.out, HD.out, by rw [HQ.out]; exact HKK.out⟩
          case measure => simp [RowKit.intOf]
open Go.ChangeShapes Go.WideShapes Go.ChangeAt Go.RowKit Go.Joins
theorem tight_iff {l : List Nat} (low : Low BB l) : tlen l = l.length ↔ l = limbs (lval l) := by
  constructor
  · intro h
    have := take_tlen low
    rw [h, List.take_of_length_le (Nat.le_refl _)] at this
    exact this
  · intro h
    unfold tlen
    rw [← h]
theorem may_eq {p : Bool} {l : List Nat} {n : Nat} (low : Low BB l) (hl : l.length = n) : mayB p l = (decide (n ≤ 48) && (decide (tlen l = n) && (!p || decide (0 < n)))) := by
  subst hl
  have h1 := tight_iff low
  unfold mayB
  by_cases ht : l = limbs (lval l)
  · have h2 := h1.2 ht
    have hf : Fits (sval p l) ↔ l.length ≤ 48 := by
      unfold Fits
      rw [sval_abs, ← ht]
    have hp : (p = decide (sval p l < 0)) ↔ ((!p || decide (0 < l.length)) = true) := by
      have hv : 0 < lval l ↔ 0 < l.length := by
        have := tlen_pos l
        rw [h2] at this
        exact this.symm
      unfold sval
      cases p
      · simp
      · simp
        omega
    rw [decide_eq_true h2]
    have e : (Fits (sval p l) ∧ p = decide (sval p l < 0) ∧ l = limbs (lval l)) ↔ (l.length ≤ 48 ∧ (!p || decide (0 < l.length)) = true) := by
      rw [hf, hp]
      exact ⟨fun h => ⟨h.1, h.2.1⟩, fun h => ⟨h.1, h.2, ht⟩⟩
    rw [decide_eq_decide.2 e, Bool.decide_and]
    simp
  · have h2 : ¬ tlen l = l.length := fun h => ht (h1.1 h)
    rw [decide_eq_false (fun h => ht h.2.2), decide_eq_false h2]
    simp
set_option maxRecDepth 100000 in
set_option maxHeartbeats 4000000 in
theorem may_A (p1 : Bool) (A1 : Option Addr) (n1 c1 : Nat) (l1 : List Nat) (w : World) (L1 : LimbsAt w A1 n1 c1 l1) (hn : ¬ n1 ≤ 48) :
    Calls Tryz.prog 135 #[numArg p1 A1 n1 c1] w (BoolPost false w) := by
  have t1 : decide ((n1 : Int) ≤ 48) = false := decide_eq_false (by omega)
  have t2 : decide (n1 ≤ 48) = false := decide_eq_false hn
  have HL := Lib.hid L1
  clear L1
  clear hn
  have X0 := env1 w (.bool p1) (.slice A1 n1 c1)
  go_enter Tryz.func135, Tryz.ntmps135
  go_wp2_with fail
  generalize w.heap.size = B0 at X0 ⊢
  generalize w.alloc (.cells #[.bool p1, .slice A1 n1 c1] 24) = w2 at X0 ⊢
  have HX := Lib.hid X0
  clear X0
  have HTR := Lib.hid (fun (k : Nat) => (show Calls Tryz.prog 141 #[.slice A1 n1 c1] (w2.drewN k) (fun e w9 => e = .returned (.slice A1 (tlen l1) c1) ∧ w9 = w2.drewN k) from (trim_any A1 n1 c1 l1 (w2.drewN k) (HL.out.keep0 (HX.out.k.trans ((Keep.refl _ _).drewN k)))).mono fun _ _ ⟨he, hw⟩ => ⟨he, hw.symm⟩))
  have HK := Lib.hid HX.out.k
  obtain ⟨r0, r1, rl⟩ := HX.out.cells (.head _)
  go_wp2_with fail
  go_quiet ((go_at_call 141; with_reducible exact Calls.quiet_of_same (HTR.out _)))
  go_wp2_with fail
  go_ret
  exact ⟨rfl, HK.out.drewN _⟩
set_option maxRecDepth 100000 in
set_option maxHeartbeats 4000000 in
theorem may_B (p1 : Bool) (A1 : Option Addr) (n1 c1 : Nat) (l1 : List Nat) (w : World) (L1 : LimbsAt w A1 n1 c1 l1) (hn : n1 ≤ 48) (ht : ¬ tlen l1 = n1) :
    Calls Tryz.prog 135 #[numArg p1 A1 n1 c1] w (BoolPost false w) := by
  obtain ⟨m, hm⟩ : ∃ m, m = tlen l1 := ⟨_, rfl⟩
  rw [← hm] at ht
  have HM := Lib.hid hm
  clear hm
  have t1 : (n1 : Int) ≤ 48 := by omega
  have t3 : ((m : Int) == (n1 : Int)) = false := by rw [beq_eq_false_iff_ne]; omega
  have t4 : decide (m = n1) = false := decide_eq_false ht
  have HL := Lib.hid L1
  clear L1
  clear hn ht
  have X0 := env1 w (.bool p1) (.slice A1 n1 c1)
  go_enter Tryz.func135, Tryz.ntmps135
  go_wp2_with fail
  generalize w.heap.size = B0 at X0 ⊢
  generalize w.alloc (.cells #[.bool p1, .slice A1 n1 c1] 24) = w2 at X0 ⊢
  have HX := Lib.hid X0
  clear X0
  have HTR := Lib.hid (fun (k : Nat) => (show Calls Tryz.prog 141 #[.slice A1 n1 c1] (w2.drewN k) (fun e w9 => e = .returned (.slice A1 m c1) ∧ w9 = w2.drewN k) from (trim_any A1 n1 c1 l1 (w2.drewN k) (HL.out.keep0 (HX.out.k.trans ((Keep.refl _ _).drewN k)))).mono fun _ _ ⟨he, hw⟩ => ⟨by rw [HM.out]; exact he, hw.symm⟩))
  have HK := Lib.hid HX.out.k
  obtain ⟨r0, r1, rl⟩ := HX.out.cells (.head _)
  go_wp2_with fail
  go_quiet ((go_at_call 141; with_reducible exact Calls.quiet_of_same (HTR.out _)))
  go_wp2_with fail
  go_ret
  exact ⟨rfl, HK.out.drewN _⟩
set_option maxRecDepth 100000 in
set_option maxHeartbeats 4000000 in
theorem may_C (p1 : Bool) (A1 : Option Addr) (n1 c1 : Nat) (l1 : List Nat) (w : World) (L1 : LimbsAt w A1 n1 c1 l1) (hn : n1 ≤ 48) (ht : tlen l1 = n1) (hp : p1 = false) :
    Calls Tryz.prog 135 #[numArg p1 A1 n1 c1] w (BoolPost true w) := by
  obtain ⟨m, hm⟩ : ∃ m, m = tlen l1 := ⟨_, rfl⟩
  rw [← hm] at ht
  have HM := Lib.hid hm
  clear hm
  have t1 : (n1 : Int) ≤ 48 := by omega
  subst ht
  subst hp
  have HL := Lib.hid L1
  clear L1
  clear hn
  have X0 := env1 w (.bool false) (.slice A1 m c1)
  go_enter Tryz.func135, Tryz.ntmps135
  go_wp2_with fail
  generalize w.heap.size = B0 at X0 ⊢
  generalize w.alloc (.cells #[.bool false, .slice A1 m c1] 24) = w2 at X0 ⊢
  have HX := Lib.hid X0
  clear X0
  have HTR := Lib.hid (fun (k : Nat) => (show Calls Tryz.prog 141 #[.slice A1 m c1] (w2.drewN k) (fun e w9 => e = .returned (.slice A1 m c1) ∧ w9 = w2.drewN k) from (trim_any A1 m c1 l1 (w2.drewN k) (HL.out.keep0 (HX.out.k.trans ((Keep.refl _ _).drewN k)))).mono fun _ _ ⟨he, hw⟩ => ⟨by rw [HM.out]; exact he, hw.symm⟩))
  have HK := Lib.hid HX.out.k
  obtain ⟨r0, r1, rl⟩ := HX.out.cells (.head _)
  go_wp2_with fail
  go_quiet ((go_at_call 141; with_reducible exact Calls.quiet_of_same (HTR.out _)))
  go_wp2_with fail
  go_ret
  exact ⟨rfl, HK.out.drewN _⟩
set_option maxRecDepth 100000 in
set_option maxHeartbeats 4000000 in
theorem may_D (p1 : Bool) (A1 : Option Addr) (n1 c1 : Nat) (l1 : List Nat) (w : World) (L1 : LimbsAt w A1 n1 c1 l1) (hn : n1 ≤ 48) (ht : tlen l1 = n1) (hp : p1 = true) (h0 : 0 < n1) :
    Calls Tryz.prog 135 #[numArg p1 A1 n1 c1] w (BoolPost true w) := by
  obtain ⟨m, hm⟩ : ∃ m, m = tlen l1 := ⟨_, rfl⟩
  rw [← hm] at ht
  have HM := Lib.hid hm
  clear hm
  have t1 : (n1 : Int) ≤ 48 := by omega
  subst ht
  subst hp
  have t5 : (0 : Int) < (m : Int) := by omega
  have t6 : decide (0 < m) = true := decide_eq_true h0
  have HL := Lib.hid L1
  clear L1
  clear hn h0
  have X0 := env1 w (.bool true) (.slice A1 m c1)
  go_enter Tryz.func135, Tryz.ntmps135
  go_wp2_with fail
  generalize w.heap.size = B0 at X0 ⊢
  generalize w.alloc (.cells #[.bool true, .slice A1 m c1] 24) = w2 at X0 ⊢
  have HX := Lib.hid X0
  clear X0
  have HTR := Lib.hid (fun (k : Nat) => (show Calls Tryz.prog 141 #[.slice A1 m c1] (w2.drewN k) (fun e w9 => e = .returned (.slice A1 m c1) ∧ w9 = w2.drewN k) from (trim_any A1 m c1 l1 (w2.drewN k) (HL.out.keep0 (HX.out.k.trans ((Keep.refl _ _).drewN k)))).mono fun _ _ ⟨he, hw⟩ => ⟨by rw [HM.out]; exact he, hw.symm⟩))
  have HK := Lib.hid HX.out.k
  obtain ⟨r0, r1, rl⟩ := HX.out.cells (.head _)
  go_wp2_with fail
  go_quiet ((go_at_call 141; with_reducible exact Calls.quiet_of_same (HTR.out _)))
  go_wp2_with fail
  go_ret
  exact ⟨rfl, HK.out.drewN _⟩
set_option maxRecDepth 100000 in
set_option maxHeartbeats 4000000 in
theorem may_E (p1 : Bool) (A1 : Option Addr) (n1 c1 : Nat) (l1 : List Nat) (w : World) (L1 : LimbsAt w A1 n1 c1 l1) (hn : n1 ≤ 48) (ht : tlen l1 = n1) (hp : p1 = true) (h0 : ¬ 0 < n1) :
    Calls Tryz.prog 135 #[numArg p1 A1 n1 c1] w (BoolPost false w) := by
  obtain ⟨m, hm⟩ : ∃ m, m = tlen l1 := ⟨_, rfl⟩
  rw [← hm] at ht
  have HM := Lib.hid hm
  clear hm
  have t1 : (n1 : Int) ≤ 48 := by omega
  subst ht
  subst hp
  have t5 : decide ((0 : Int) < (m : Int)) = false := decide_eq_false (by omega)
  have t6 : decide (0 < m) = false := decide_eq_false h0
  have HL := Lib.hid L1
  clear L1
  clear hn h0
  have X0 := env1 w (.bool true) (.slice A1 m c1)
  go_enter Tryz.func135, Tryz.ntmps135
  go_wp2_with fail
  generalize w.heap.size = B0 at X0 ⊢
  generalize w.alloc (.cells #[.bool true, .slice A1 m c1] 24) = w2 at X0 ⊢
  have HX := Lib.hid X0
  clear X0
  have HTR := Lib.hid (fun (k : Nat) => (show Calls Tryz.prog 141 #[.slice A1 m c1] (w2.drewN k) (fun e w9 => e = .returned (.slice A1 m c1) ∧ w9 = w2.drewN k) from (trim_any A1 m c1 l1 (w2.drewN k) (HL.out.keep0 (HX.out.k.trans ((Keep.refl _ _).drewN k)))).mono fun _ _ ⟨he, hw⟩ => ⟨by rw [HM.out]; exact he, hw.symm⟩))
  have HK := Lib.hid HX.out.k
  obtain ⟨r0, r1, rl⟩ := HX.out.cells (.head _)
  go_wp2_with fail
  go_quiet ((go_at_call 141; with_reducible exact Calls.quiet_of_same (HTR.out _)))
  go_wp2_with fail
  go_ret
  exact ⟨rfl, HK.out.drewN _⟩
theorem may_any (p : Bool) (A : Option Addr) (n c : Nat) (l : List Nat) (w : World) (h : LimbsAt w A n c l) :
    Calls Tryz.prog 135 #[numArg p A n c] w (BoolPost (mayB p l) w) := by
  rw [may_eq h.low h.len]
  by_cases hn : n ≤ 48
  · by_cases ht : tlen l = n
    · cases hp : p with
      | false => rw [decide_eq_true hn, decide_eq_true ht]; exact may_C _ A n c l w h hn ht rfl
      | true =>
        by_cases h0 : 0 < n
        · rw [decide_eq_true hn, decide_eq_true ht, decide_eq_true h0]; exact may_D _ A n c l w h hn ht rfl h0
        · rw [decide_eq_true hn, decide_eq_true ht, decide_eq_false h0]; exact may_E _ A n c l w h hn ht rfl h0
    · rw [decide_eq_true hn, decide_eq_false ht]; exact may_B p A n c l w h hn ht
  · rw [decide_eq_false hn]; exact may_A p A n c l w h hn
open Go.RowKit Go.Lib
end Go.Proofs.YtonnikipeokkaaaGreatDoor
