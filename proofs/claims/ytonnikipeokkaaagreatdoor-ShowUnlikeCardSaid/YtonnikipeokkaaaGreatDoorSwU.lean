/-
  Data that are written alike are the same: plain Lean, no program in sight.
-/
import Derived.Test.YtonnikipeokkaaaGreatDoorSwR
import Derived.Test.YtonnikipeokkaaaGreatDoorPnMay
import Derived.Lib.RuneBytes
import Derived.Lib.MapLaws
namespace Go.Proofs.YtonnikipeokkaaaGreatDoor
open Go.RowKit Go.Lib

/-! ### chars as bytes -/
theorem nat_byte {n : Nat} (h : n < 256) : (UInt8.ofNat n).toNat = n := by
  simp only [UInt8.toNat_ofNat']
  omega
theorem decode_utf {c : Nat} (h : charB c = true) (x : List UInt8) : decodeL (utfB c ++ x) = (c, (utfB c).length) := by
  have hc := of_decide_eq_true h
  rw [decodeL_N]
  unfold utfB
  split
  · rename_i g
    simp only [List.cons_append, List.nil_append, List.getD_cons_zero, List.getD_cons_succ, List.length_cons, List.length_nil]
    rw [nat_byte (by omega)]
    unfold decodeN
    rw [if_pos g]
  split
  · rename_i g0 g
    simp only [List.cons_append, List.nil_append, List.getD_cons_zero, List.getD_cons_succ, List.length_cons, List.length_nil]
    rw [nat_byte (by omega), nat_byte (by omega)]
    unfold decodeN
    rw [if_neg (by omega), if_pos ⟨by omega, by omega, by omega⟩, if_pos (by omega)]
    exact Prod.ext (by show _ = c; omega) rfl
  split
  · rename_i g0 g1 g
    simp only [List.cons_append, List.nil_append, List.getD_cons_zero, List.getD_cons_succ, List.length_cons, List.length_nil]
    rw [nat_byte (by omega), nat_byte (by omega), nat_byte (by omega)]
    unfold decodeN
    rw [if_neg (by omega), if_neg (by omega), if_pos ⟨by omega, ⟨by omega, by omega⟩, by omega, by omega⟩, if_pos ⟨by omega, by omega⟩]
    exact Prod.ext (by show _ = c; omega) rfl
  · rename_i g0 g1 g
    simp only [List.cons_append, List.nil_append, List.getD_cons_zero, List.getD_cons_succ, List.length_cons, List.length_nil]
    rw [nat_byte (by omega), nat_byte (by omega), nat_byte (by omega), nat_byte (by omega)]
    unfold decodeN
    rw [if_neg (by omega), if_neg (by omega), if_neg (by omega), if_pos ⟨by omega, ⟨by omega, by omega⟩, ⟨by omega, by omega⟩, by omega, by omega⟩, if_pos ⟨by omega, by omega⟩]
    exact Prod.ext (by show _ = c; omega) rfl
theorem utf_pos (c : Nat) : 1 ≤ (utfB c).length := by
  unfold utfB
  split
  · simp
  · split
    · simp
    · split <;> simp
theorem utf_low {c : Nat} (h : c < 128) : utfB c = [UInt8.ofNat c] := by unfold utfB; rw [if_pos h]
theorem utf_high {c : Nat} (h : ¬ c < 128) (h2 : c < 1114112) : ∀ b ∈ utfB c, 128 ≤ b.toNat := by
  unfold utfB
  rw [if_neg h]
  split
  · intro b hb
    simp only [List.mem_cons, List.not_mem_nil, or_false] at hb
    rcases hb with rfl | rfl <;> rw [nat_byte (by omega)] <;> omega
  · split
    · intro b hb
      simp only [List.mem_cons, List.not_mem_nil, or_false] at hb
      rcases hb with rfl | rfl | rfl <;> rw [nat_byte (by omega)] <;> omega
    · intro b hb
      simp only [List.mem_cons, List.not_mem_nil, or_false] at hb
      rcases hb with rfl | rfl | rfl | rfl <;> rw [nat_byte (by omega)] <;> omega
theorem charB_lt {c : Nat} (h : charB c = true) : c < 1114112 := by have := of_decide_eq_true h; omega
theorem decode_good {c : Nat} (h : charB c = true) (x : List UInt8) : ¬ ((decodeL (utfB c ++ x)).1 = 65533 ∧ (decodeL (utfB c ++ x)).2 = 1) := by
  rw [decode_utf h]
  rintro ⟨h1, h2⟩
  simp only at h1 h2
  subst h1
  revert h2
  decide
theorem rune_utf {c : Nat} (h : charB c = true) : encodeRune (c : Int) = utfB c := by
  have hc := of_decide_eq_true h
  unfold encodeRune utfB
  by_cases c0 : c < 0x80
  · rw [if_pos c0, encodeRuneZ_one (by omega) (by omega)]
    rfl
  rw [if_neg c0]
  by_cases c1 : c < 0x800
  · rw [if_pos c1, encodeRuneZ_two (by omega) (by omega)]
    have e1 : (192 + (c : Int) / 64).toNat = 0xC0 + c / 64 := by omega
    have e2 : (128 + (c : Int) % 64).toNat = 0x80 + c % 64 := by omega
    simp only [List.map_cons, List.map_nil, e1, e2]
  rw [if_neg c1]
  by_cases c2 : c < 0x10000
  · rw [if_pos c2, encodeRuneZ_three (by omega)]
    have e1 : (224 + (c : Int) / 4096).toNat = 0xE0 + c / 4096 := by omega
    have e2 : (128 + (c : Int) / 64 % 64).toNat = 0x80 + c / 64 % 64 := by omega
    have e3 : (128 + (c : Int) % 64).toNat = 0x80 + c % 64 := by omega
    simp only [List.map_cons, List.map_nil, e1, e2, e3]
  · rw [if_neg c2, encodeRuneZ_four (by omega) (by omega)]
    have e1 : (240 + (c : Int) / 262144).toNat = 0xF0 + c / 262144 := by omega
    have e2 : (128 + (c : Int) / 4096 % 64).toNat = 0x80 + c / 4096 % 64 := by omega
    have e3 : (128 + (c : Int) / 64 % 64).toNat = 0x80 + c / 64 % 64 := by omega
    have e4 : (128 + (c : Int) % 64).toNat = 0x80 + c % 64 := by omega
    simp only [List.map_cons, List.map_nil, e1, e2, e3, e4]
/-- A text's chars are its bytes. -/
theorem runes_bytes : ∀ (m : Nat) (l : List UInt8) (r : List Nat), l.length ≤ m → runesL l = some r → r.flatMap utfB = l ∧ ∀ c ∈ r, charB c = true := by
  intro m
  induction m with
  | zero =>
    intro l r h hr
    obtain rfl : l = [] := List.eq_nil_of_length_eq_zero (by omega)
    rw [runesL_nil] at hr
    injection hr with hr
    subst hr
    exact ⟨rfl, fun c hc => by cases hc⟩
  | succ m ih =>
    intro l r h hr
    by_cases hl : l = []
    · subst hl
      rw [runesL_nil] at hr
      injection hr with hr
      subst hr
      exact ⟨rfl, fun c hc => by cases hc⟩
    · rw [runesL_step _ hl] at hr
      split at hr
      · cases hr
      · rename_i hg
        cases hx : runesL (l.drop (decodeL l).2) with
        | none => rw [hx] at hr; cases hr
        | some q =>
          rw [hx] at hr
          injection hr with hr
          have hw := decodeL_wd hl
          obtain ⟨h1, h2⟩ := ih (l.drop (decodeL l).2) q (by rw [List.length_drop]; omega) hx
          have hc := decode_char l
          have he := encode_decode l hl hg
          rw [rune_utf hc] at he
          subst hr
          refine ⟨?_, fun c hm => ?_⟩
          · rw [List.flatMap_cons, h1, he, List.take_append_drop]
          · rcases List.mem_cons.1 hm with rfl | hm
            · exact hc
            · exact h2 c hm
/-! ### what ends a token -/
/-- Nothing, a blank, or a bracket that closes. -/
def Dl (x : List UInt8) : Prop := x = [] ∨ ∃ d t, x = d :: t ∧ (d = 32 ∨ d = 41)
theorem Dl.nil : Dl [] := .inl rfl
theorem Dl.blank (t : List UInt8) : Dl (32 :: t) := .inr ⟨_, _, rfl, .inl rfl⟩
theorem Dl.shut (t : List UInt8) : Dl (41 :: t) := .inr ⟨_, _, rfl, .inr rfl⟩
theorem tw_dl {p : UInt8 → Bool} (h1 : p 32 = false) (h2 : p 41 = false) {x : List UInt8} (hx : Dl x) : ∀ t : List UInt8, (∀ b ∈ t, p b = true) → (t ++ x).takeWhile p = t
  | [], _ => by
    rcases hx with rfl | ⟨d, t, rfl, rfl | rfl⟩
    · rfl
    · rw [List.nil_append, List.takeWhile_cons, if_neg (by rw [h1]; decide)]
    · rw [List.nil_append, List.takeWhile_cons, if_neg (by rw [h2]; decide)]
  | b :: t, h => by
    rw [List.cons_append, List.takeWhile_cons, if_pos (h b (List.mem_cons_self ..)), tw_dl h1 h2 hx t (fun c hc => h c (List.mem_cons_of_mem _ hc))]
theorem word_not {b : UInt8} (h : wordB b = true) : b ≠ 40 ∧ b ≠ 91 ∧ b ≠ 41 ∧ b ≠ 93 ∧ b ≠ 39 ∧ b ≠ 96 ∧ b ≠ 44 ∧ b ≠ 34 ∧ b ≠ 124 := by
  refine ⟨?_, ?_, ?_, ?_, ?_, ?_, ?_, ?_, ?_⟩ <;> (rintro rfl; revert h; decide)
/-- A word's token. -/
theorem word_tok {c : UInt8} {w x : List UInt8} {k : Nat} {d : Leaf} (hw : ∀ b ∈ c :: w, wordB b = true) (h35 : c = 35 → w.head? ≠ some 92) (hx : Dl x) (hv : wordV (c :: w) = .ok (k, d)) :
    tokL (c :: w ++ x) = .ok ⟨k, (c :: w).length, false, d⟩ := by
  obtain ⟨n1, n2, n3, n4, n5, n6, n7, n8, n9⟩ := word_not (hw c (List.mem_cons_self ..))
  have ht := tw_dl (p := wordB) (by decide) (by decide) hx (c :: w) hw
  rw [List.cons_append] at ht ⊢
  rw [tokL, if_neg (by simp [n1, n2]), if_neg (by simp [n3, n4]), if_neg n5, if_neg n6, if_neg n7, if_neg (by simp [n8, n9]), if_neg, if_neg, ht, hv]
  · rintro ⟨rfl, h⟩
    cases w with
    | nil =>
      rcases hx with rfl | ⟨d, t, rfl, rfl | rfl⟩
      · cases h
      · revert h; simp
      · revert h; simp
    | cons b w => exact h35 rfl h
  · rintro ⟨rfl, h⟩
    cases w with
    | nil =>
      rcases hx with rfl | ⟨d, t, rfl, rfl | rfl⟩
      · cases h
      · revert h; simp
      · revert h; simp
    | cons b w =>
      rw [List.cons_append, List.head?_cons] at h
      injection h with h
      exact (word_not (hw b (by simp))).1 h
/-! ### chars -/
theorem char_word {a : UInt8} {u x : List UInt8} (ha : a.toNat < 128) (hu : ∀ b ∈ u, (!delimB b) = true) (hu0 : u ≠ []) (hx : Dl x) :
    charL (a :: u ++ x) = match namedL (a :: u) with
      | some v => .ok (v, 1 + u.length)
      | none => if a.toNat = 120 then (match hexC u with | some r => .ok (r, 1 + u.length) | none => .error 9) else .error 9 := by
  have ht := tw_dl (p := fun b => !delimB b) (by decide) (by decide) hx u hu
  have hl : 0 < u.length := List.length_pos_iff.2 hu0
  unfold charL
  rw [List.cons_append, if_neg (by simp), decodeL_ascii a (u ++ x) ha, if_neg (by rintro ⟨h, _⟩; simp only at h; omega)]
  simp only [List.drop_succ_cons, List.drop_zero]
  rw [ht, if_neg (by omega)]
  have e : (a :: (u ++ x)).take (1 + u.length) = a :: u := by
    rw [Nat.add_comm, List.take_succ_cons, List.take_left]
  have e2 : (u ++ x).take u.length = u := List.take_left
  rw [e, e2]
  rfl
theorem char_lone {c : Nat} (h : charB c = true) {x : List UInt8} (hx : Dl x) : charL (utfB c ++ x) = .ok (c, (utfB c).length) := by
  have ht := tw_dl (p := fun b => !delimB b) (by decide) (by decide) hx [] (by simp)
  unfold charL
  have hp := utf_pos c
  rw [if_neg (by intro e; have := congrArg List.length e; rw [List.length_append, List.length_nil] at this; omega), if_neg (decode_good h x), decode_utf h]
  simp only
  rw [List.drop_left]
  rw [List.nil_append] at ht
  rw [ht, if_pos List.length_nil]
theorem hex_facts (c : Nat) (h : c < 32 ∨ 127 ≤ c ∧ c ≤ 159) : namedL (120 :: hexT c) = none ∧ hexC (hexT c) = some c ∧ (hexT c).all (fun b => !delimB b && b != 59) = true ∧ hexT c ≠ [] := by
  have H : ∀ i : Fin 160, (i.val < 32 ∨ 127 ≤ i.val ∧ i.val ≤ 159) → namedL (120 :: hexT i.val) = none ∧ hexC (hexT i.val) = some i.val ∧ (hexT i.val).all (fun b => !delimB b && b != 59) = true ∧ hexT i.val ≠ [] := by decide +kernel
  exact H ⟨c, by omega⟩ h
theorem char_enc {c : Nat} (h : charB c = true) {x : List UInt8} (hx : Dl x) : charL (cnameL c ++ x) = .ok (c, (cnameL c).length) := by
  unfold cnameL
  split
  · rename_i e; subst e; exact char_word (by decide) (by decide) (by decide) hx
  split
  · rename_i e; subst e; exact char_word (by decide) (by decide) (by decide) hx
  split
  · rename_i e; subst e; exact char_word (by decide) (by decide) (by decide) hx
  split
  · rename_i e; subst e; exact char_word (by decide) (by decide) (by decide) hx
  split
  · rename_i e; subst e; exact char_word (by decide) (by decide) (by decide) hx
  split
  · rename_i e; subst e; exact char_word (by decide) (by decide) (by decide) hx
  split
  · rename_i e; subst e; exact char_word (by decide) (by decide) (by decide) hx
  split
  · rename_i e; subst e; exact char_word (by decide) (by decide) (by decide) hx
  split
  · rename_i e; subst e; exact char_word (by decide) (by decide) (by decide) hx
  split
  · rename_i e
    obtain ⟨f1, f2, f3, f4⟩ := hex_facts c e
    rw [char_word (by decide) (fun b hb => by have := List.all_eq_true.1 f3 b hb; rw [Bool.and_eq_true] at this; exact this.1) f4 hx, f1, f2]
    simp [Nat.add_comm]
  · exact char_lone h hx
/-! ### texts between two signs -/
theorem quo_bytes (y : UInt8) (z : List UInt8) : ∀ l : List UInt8, (∀ b ∈ l, b ≠ y ∧ b ≠ 92) → quoL y 0 (l ++ z) = (quoL y 0 z).up l l.length
  | [], _ => by rw [List.nil_append, List.length_nil, QuoR.up_zero]
  | b :: l, h => by
    rw [List.cons_append, quoL, if_neg (h b (List.mem_cons_self ..)).1, if_pos (h b (List.mem_cons_self ..)).2, quo_bytes y z l (fun c hc => h c (List.mem_cons_of_mem _ hc)), QuoR.up_up, List.length_cons, Nat.add_comm 1]
    rfl
/-- One escape. -/
theorem quo_esc {y : UInt8} (hy : y ≠ 92) {u z out : List UInt8} (he : escL y (u ++ z) = .ok out u.length) : quoL y 0 (92 :: u ++ z) = (quoL y 0 z).up out (92 :: u).length := by
  rw [List.cons_append, quoL, if_neg (fun e => hy e.symm), if_neg (by simp), he]
  simp only
  rw [quoL_pass _ _ _ (by rw [List.length_append]; omega), QuoR.up_up, List.drop_left, List.append_nil, List.length_cons, Nat.add_comm 1]
theorem semi_at {h z : List UInt8} (hh : ∀ b ∈ h, (b != 59) = true) : semi (h ++ 59 :: z) = some h.length := by
  have e : (h ++ 59 :: z).takeWhile (fun b => b != 59) = h := by
    induction h with
    | nil => rfl
    | cons b h ih => rw [List.cons_append, List.takeWhile_cons, if_pos (hh b (List.mem_cons_self ..)), ih (fun c hc => hh c (List.mem_cons_of_mem _ hc))]
  unfold semi
  rw [e, if_pos (by rw [List.length_append, List.length_cons]; omega)]
theorem quo_char (y : Nat) (hy : y = 34 ∨ y = 124) {c : Nat} (h : charB c = true) (z : List UInt8) : quoL (UInt8.ofNat y) 0 (escQ y c ++ z) = (quoL (UInt8.ofNat y) 0 z).up (utfB c) (escQ y c).length := by
  have hy92 : UInt8.ofNat y ≠ 92 := by rcases hy with rfl | rfl <;> decide
  have key : ∀ u out : List UInt8, escL (UInt8.ofNat y) (u ++ z) = .ok out u.length → out = utfB c → quoL (UInt8.ofNat y) 0 (92 :: u ++ z) = (quoL (UInt8.ofNat y) 0 z).up (utfB c) (92 :: u).length := by
    intro u out he e
    subst e
    exact quo_esc hy92 he
  unfold escQ
  split
  · rename_i g
    have hlow : c < 128 := by omega
    rw [utf_low hlow] at key ⊢
    refine key _ [UInt8.ofNat c] ?_ rfl
    rcases g with rfl | rfl
    · rcases hy with rfl | rfl <;> rfl
    · rfl
  split
  · rename_i g; subst g; exact key [110] [10] rfl rfl
  split
  · rename_i g; subst g; exact key [116] [9] rfl rfl
  split
  · rename_i g; subst g; exact key [114] [13] rfl rfl
  split
  · rename_i g
    obtain ⟨f1, f2, f3, f4⟩ := hex_facts c (by omega)
    refine key (120 :: (hexT c ++ [59])) (utfB c) ?_ rfl
    have hs := semi_at (h := hexT c) (z := z) (fun b hb => by have := List.all_eq_true.1 f3 b hb; rw [Bool.and_eq_true] at this; exact this.2)
    rw [List.cons_append, List.append_assoc]
    show escL (UInt8.ofNat y) (120 :: (hexT c ++ 59 :: z)) = _
    rw [((escL_x (UInt8.ofNat y) (hexT c ++ 59 :: z)).2 _ hs).2 c (by rw [List.take_left]; exact f2)]
    congr 1
    simp
  · rename_i g1 g2 g3 g4 g5
    refine quo_bytes _ z _ (fun b hb => ?_)
    by_cases hlow : c < 128
    · rw [utf_low hlow] at hb
      rw [List.mem_singleton.1 hb]
      refine ⟨fun e => ?_, fun e => ?_⟩
      · have := congrArg UInt8.toNat e
        rw [nat_byte (by omega), nat_byte (by omega)] at this
        omega
      · have := congrArg UInt8.toNat e
        rw [nat_byte (by omega)] at this
        have e92 : (92 : UInt8).toNat = 92 := rfl
        omega
    · have := utf_high hlow (charB_lt h) b hb
      refine ⟨?_, ?_⟩
      · rintro rfl
        rw [nat_byte (by omega)] at this
        omega
      · rintro rfl
        revert this
        decide
theorem quo_enc (y : Nat) (hy : y = 34 ∨ y = 124) (x : List UInt8) : ∀ r : List Nat, (∀ c ∈ r, charB c = true) → quoL (UInt8.ofNat y) 0 (r.flatMap (escQ y) ++ UInt8.ofNat y :: x) = .ok (r.flatMap utfB) ((r.flatMap (escQ y)).length + 1)
  | [], _ => by
    rw [List.flatMap_nil, List.nil_append, quoL, if_pos rfl]
    rfl
  | c :: r, h => by
    rw [List.flatMap_cons, List.append_assoc, quo_char y hy (h c (List.mem_cons_self ..)), quo_enc y hy x r (fun d hd => h d (List.mem_cons_of_mem _ hd)), List.flatMap_cons, List.length_append]
    show QuoR.ok _ _ = QuoR.ok _ _
    rw [Nat.add_assoc]
theorem quote_tok (y : Nat) (hy : y = 34 ∨ y = 124) {t : List UInt8} {r : List Nat} (hr : runesL t = some r) (h62 : r.length ≤ 62) (h0 : y = 124 → t ≠ []) (x : List UInt8) :
    tokL (quoteL y t ++ x) = .ok ⟨9, (quoteL y t).length, false, if y = 124 then .sym t else .str t⟩ := by
  obtain ⟨hb, hc⟩ := runes_bytes _ t r (Nat.le_refl _) hr
  have hq := quo_enc y hy x r hc
  unfold quoteL
  rw [hr, Option.getD_some, List.cons_append, List.append_assoc, List.singleton_append]
  have ht : textL (UInt8.ofNat y == 124) t = .ok (if y = 124 then .sym t else .str t) := by
    unfold textL
    rw [hr]
    simp only
    rcases hy with rfl | rfl
    · rw [if_neg (by simp), if_neg (by omega)]
      rfl
    · rw [if_neg (by rintro ⟨_, e⟩; exact h0 rfl e), if_neg (by omega)]
      rfl
  have hy2 : UInt8.ofNat y = 34 ∨ UInt8.ofNat y = 124 := by rcases hy with rfl | rfl <;> decide
  have hn : UInt8.ofNat y ≠ 40 ∧ UInt8.ofNat y ≠ 91 ∧ UInt8.ofNat y ≠ 41 ∧ UInt8.ofNat y ≠ 93 ∧ UInt8.ofNat y ≠ 39 ∧ UInt8.ofNat y ≠ 96 ∧ UInt8.ofNat y ≠ 44 := by rcases hy with rfl | rfl <;> decide
  obtain ⟨n1, n2, n3, n4, n5, n6, n7⟩ := hn
  rw [tokL, if_neg (by simp [n1, n2]), if_neg (by simp [n3, n4]), if_neg n5, if_neg n6, if_neg n7, if_pos hy2, hq, hb]
  simp only
  rw [ht]
  congr 2
  simp [Nat.add_comm]
end Go.Proofs.YtonnikipeokkaaaGreatDoor
