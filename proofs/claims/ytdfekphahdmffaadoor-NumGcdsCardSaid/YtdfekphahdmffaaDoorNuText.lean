/-
  num: Text.
-/
import Derived.Test.YtdfekphahdmffaaDoorNuRev
import Derived.Test.YtdfekphahdmffaaDoorChunks
namespace Go.Proofs.YtdfekphahdmffaaDoor
open Go.RowKit Go.Sort Go.Lib

theorem PowTab.keep {w w' : World} (h : PowTab w) (k : Keep (fun _ => False) w w') : PowTab w' :=
  Joins.tab_stays (g := (Tryd.prog.globalNamed "internal/strconv.uint64pow10").getD 0) (by kernel_rfl) h k.below0 (Nat.le_refl _)
/-- Nine digits. -/
def GG : Nat := 1000000000
theorem len_bound {V v k n : Nat} (h : v * GG ^ k ≤ V) (hv : 0 < v) (hV : V < BB ^ n) (hn : n ≤ 9000) : k ≤ 10000 := by
  have h1 : GG ^ k ≤ V := Nat.le_trans (Nat.le_mul_of_pos_left _ hv) h
  have h2 : (2 ^ 29) ^ k ≤ GG ^ k := Nat.pow_le_pow_left (by unfold GG; omega) k
  have h3 : (2 ^ 29) ^ k < (2 ^ 32) ^ n := by rw [← BB_two]; omega
  rw [← Nat.pow_mul, ← Nat.pow_mul] at h3
  have := (Nat.pow_lt_pow_iff_right (by omega)).1 h3
  omega
theorem info9 : (Tryd.prog.info? 9).map (fun i => (i.zero, i.size, i.bytes)) = some (some (.string ⟨#[]⟩), 1, 16) := by kernel_rfl
/-- What is known before a round: v is left of V. -/
structure TxSt (w : World) (V v : Nat) (A : Option Addr) (n c : Nat) (pv : Value) (ps : List (List UInt8)) (wr : World) : Prop where
  m : OwnR 63 .u32 wr w.heap.size A n c (limbs v)
  p : OwnS wr w.heap.size pv ps
  K : Keep (fun _ => False) w wr
  n : n ≤ 9000
  t : (V = 0 ∧ v = 0 ∧ ps = []) ∨ TextSt V v ps
  s : v + ps.length ≤ V
  g : v * GG ^ ps.length ≤ V
  b : ps.length ≤ 10001
theorem OwnS.keep {S : Nat → Prop} {w w' : World} {base : Nat} {v : Value} {ps : List (List UInt8)} (h : OwnS w base v ps) (K : Keep S w w') (hs : ∀ b, v.ownBlock = some b → ¬ S b) : OwnS w' base v ps := by
  refine ⟨h.1, ?_⟩
  rcases h.2 with hn | ⟨g, cap, cur, hv, hg, hh, rest⟩
  · exact .inl hn
  · refine .inr ⟨g, cap, cur, hv, hg, ?_, rest⟩
    rw [K.block g (heap_lt hh) (hs g (by rw [hv]; rfl))]
    exact hh
theorem OwnS.form {w : World} {base : Nat} {pv : Value} {k : Nat} {xs : List Value} (h : w.ownsRow base 9 1 pv k xs) : ∃ P c, pv = .slice P k c := by
  rcases h.2 with ⟨hn, h0⟩ | ⟨g, cap, cur, hv, _⟩
  · exact ⟨none, 0, by rw [hn, h0]⟩
  · exact ⟨_, _, hv⟩
theorem txt_ne {w : World} {base n c : Nat} {b : Nat} {m : List Nat} {pv : Value} {ps : List (List UInt8)} (h : OwnR 63 .u32 w base (some ⟨b, 0, none⟩) n c m) (hp : OwnS w base pv ps) : pv.ownBlock ≠ some b := by
  rcases h.2 with ⟨hn, _⟩ | ⟨g, cap, cur, hv, hg, hh, _⟩
  · cases hn
  · simp only [Value.slice.injEq, Option.some.injEq, Addr.mk.injEq, and_true, true_and] at hv
    obtain ⟨rfl, rfl⟩ := hv
    rcases hp.2 with ⟨hn2, _⟩ | ⟨g2, cap2, cur2, hv2, hg2, hh2, _⟩
    · rw [hn2]; intro e; cases e
    · rw [hv2]
      intro e
      have e2 : g2 = b := by simpa [Value.ownBlock] using e
      rw [e2, hh] at hh2
      simp at hh2
theorem TxSt.next {w1 wr0 wr w5 w6 : World} {V v b n3 c3 cr : Nat} {pv pv' : Value} {ps : List (List UInt8)} {m : List Nat} {t : ByteArray} {ch : List UInt8} (H : TxSt w1 V v (some ⟨b, 0, none⟩) n3 c3 pv ps wr0) (hlen : ps.length ≤ 10000) (hv : 0 < v)
    (K1 : Keep (fun x => x = b) wr0 wr) (own : OwnR 63 .u32 wr w1.heap.size (some ⟨b, 0, none⟩) n3 c3 m) (low : Low BB m) (dv : lval m = v / GG) (dc : cr = v % GG) (K5 : Keep (fun _ => False) wr w5) (ht : t = ⟨ch.toArray⟩)
    (hch : (0 < v / GG ∧ ch = List.replicate (9 - (decDigits cr).length) 48 ++ decDigits cr) ∨ (v / GG = 0 ∧ ch = decDigits cr))
    (hown : w6.ownsRow w1.heap.size 9 1 pv' (ps.length + 1) (ps.map encStr ++ [.string t])) (hgrow : (w5.alloc (.cells #[.string t] 9)).grownBy w6 pv.ownBlock) :
    TxSt w1 V (v / GG) (some ⟨b, 0, none⟩) (tlen m) c3 pv' (ps ++ [ch]) w6 := by
  have hbb := (H.m.fresh b 0 rfl).1
  have KA : Keep (fun _ => False) w1 wr := H.K.into K1 (by rintro i rfl; exact hbb)
  have hne0 := txt_ne H.m H.p
  have hp := H.p.keep K1 (fun g hg e => hne0 (by rw [hg, e]))
  have KW : Keep (fun _ => False) wr (w5.alloc (.cells #[.string t] 9)) := K5.alloc _
  have hp2 := hp.keep KW (fun _ _ => id)
  have KG := Keep.of_grown hgrow
  have hle := tlen_le low
  rw [own.len] at hle
  have o6 : OwnR 63 .u32 w6 w1.heap.size (some ⟨b, 0, none⟩) n3 c3 m := (own.keep0 KW).keep KG (fun k off e hk => by injection e with e; injection e with e _ _; rw [← e] at hk; exact hne0 hk.symm)
  have hGG : GG = 10 ^ 9 := rfl
  have hvs : v = v / GG * 10 ^ 9 + cr := by rw [dc, ← hGG]; exact (Nat.div_add_mod' v GG).symm
  have hcr : cr < 10 ^ 9 := by rw [dc, ← hGG]; exact Nat.mod_lt _ (by unfold GG; omega)
  have hT : TextSt V v ps := by
    rcases H.t with ⟨_, h0, _⟩ | h
    · omega
    · exact h
  refine ⟨?_, ?_, ?_, Nat.le_trans hle H.n, .inr ?_, ?_, ?_, by rw [List.length_append]; simp; omega⟩
  · have := o6.take hle
    rw [take_tlen low, dv] at this
    exact this
  · show w6.ownsRow _ 9 1 pv' (ps ++ [ch]).length ((ps ++ [ch]).map encStr)
    rw [List.length_append, List.map_append]
    rw [ht] at hown
    exact hown
  · refine (KA.trans KW).into KG (fun i hi => ?_)
    rcases hp2.2 with ⟨hn, _⟩ | ⟨g, cap, cur, hv2, hg, _⟩
    · rw [hn] at hi; cases hi
    · rw [hv2] at hi
      have : i = g := by simpa [Value.ownBlock] using hi
      omega
  · rcases hch with ⟨hq, e⟩ | ⟨hq, e⟩
    · rw [e]; exact hT.more hv hvs hcr hq
    · rw [e, hq]; exact hT.last hv (by rw [hq] at hvs; omega)
  · rw [List.length_append]
    have : v / GG < v := Nat.div_lt_self hv (by unfold GG; omega)
    have := H.s
    simp
    omega
  · rw [List.length_append]
    show v / GG * GG ^ (ps.length + 1) ≤ V
    rw [Nat.pow_succ, Nat.mul_comm (GG ^ _), ← Nat.mul_assoc]
    exact Nat.le_trans (Nat.mul_le_mul_right _ (Nat.div_mul_le_self v GG)) H.g
theorem new_str (w5 : World) (t : ByteArray) : ∀ j u, ([Value.string t] : List Value)[j]? = some u → (w5.alloc (.cells #[.string t] 9)).cell? ((⟨w5.heap.size, 0, none⟩ : Addr).add j) = some u := by
  intro j u hu
  match j with
  | 0 =>
    simp at hu
    subst hu
    rw [Addr.add_mid, cell_of_row _ _ _ _ _ _ (heap_alloc_new w5 _)]
    rfl
  | j + 1 => simp at hu
theorem repeat_one (z : Nat) : repeatL [48] z = List.replicate z 48 := by
  induction z with
  | zero => rfl
  | succ z ih => rw [repeatL, ih, List.replicate_succ]; rfl
theorem cat_str {t : ByteArray} {d : List UInt8} {z k : Nat} (ht : t = ⟨d.toArray⟩) (hz : z = k) : ({ data := (repeatL [48] z).toArray } : ByteArray) ++ t = ⟨(List.replicate k 48 ++ d).toArray⟩ := by
  rw [ht, hz, repeat_one]
  apply ByteArray.ext
  simp [ByteArray.data_append]
theorem dec_bound {V n : Nat} (hV : V < BB ^ n) (hn : n ≤ 9000) : (decDigits V).length ≤ 288001 := by
  have h1 : BB ^ n ≤ 10 ^ (32 * n) := by
    rw [BB_two, ← Nat.pow_mul]
    exact Nat.pow_le_pow_left (by omega) _
  have h2 : 10 ^ (32 * n) < 10 ^ (32 * n + 1) := Nat.pow_lt_pow_right (by omega) (by omega)
  have := dec_le (32 * n) V (by omega)
  omega
/-- What Reverse and Join make. -/
theorem text_end {wr w5 : World} {base g cap q : Nat} {ps : List (List UInt8)} (o : OwnS wr base (.slice (some ⟨g, 0, none⟩) ps.length cap) ps) (hg : g < wr.heap.size) (hw : w5 = putRow encStr (Sort.ahead wr q) g 0 ps.reverse.toArray) (hl : ps.length ≤ 100000) (hs : ps.reverse.flatten.length ≤ 1000000) :
    Calls Tryd.prog 58 #[.slice (some ⟨g, 0, none⟩) ps.length cap, .string ⟨#[]⟩] w5 fun e w' => e = .returned (.string ⟨(ps.reverse.flatten).toArray⟩) ∧ Keep (fun x => x = g) wr w' := by
  obtain ⟨k, hc⟩ := rev_post o hw
  have e1 : (ps.reverse.map fun s : List UInt8 => (⟨s.toArray⟩ : ByteArray)).length = ps.length := by simp
  have e2 : ((ps.reverse.map fun s : List UInt8 => (⟨s.toArray⟩ : ByteArray)).map (·.data.toList)) = ps.reverse := by
    rw [List.map_map, show ((fun x : ByteArray => x.data.toList) ∘ fun s : List UInt8 => (⟨s.toArray⟩ : ByteArray)) = id from funext fun _ => rfl, List.map_id]
  have hcap : ps.length ≤ cap := by
    rcases o.2 with ⟨hn, _⟩ | ⟨g2, cap2, cur2, hv, _, _, h1, _⟩
    · cases hn
    · injection hv with _ _ e3
      omega
  have J := Tryd.strings_Join g 0 cap (ps.reverse.map fun s : List UInt8 => (⟨s.toArray⟩ : ByteArray)) ⟨#[]⟩ w5 hc (Nat.lt_of_lt_of_le hg k.size) (by rw [e1]; omega) (by rw [e1]; exact hcap) (by rw [e2]; show (Lib.join ps.reverse []).length ≤ _; rw [join_empty]; omega)
  rw [e1, e2] at J
  have ej : Lib.join ps.reverse (⟨#[]⟩ : ByteArray).data.toList = ps.reverse.flatten := join_empty _
  rw [ej] at J
  refine J.mono ?_
  rintro e w' ⟨he, hb⟩
  exact ⟨he, k.join (Keep.of_below hb) (fun _ _ h => h.elim)⟩
theorem or_carry {c y : Nat} (hc : (c : Int) ≤ 999999999) (hy : y ≤ 4294967295) : bits BinOp.or IntKind.u64 ((c : Int) * 4294967296) (y : Int) = ((c * BB + y : Nat) : Int) := by
  have h := bits_join .u64 64 (by decide) (fun n h0 h1 => by rw [IntKind.wrap_u64]; omega) 32 ((c : Int) * 4294967296) (y : Int) (by omega) (by omega) (by omega) (by omega) (by omega) (by omega)
  rw [h]
  unfold BB
  omega

set_option maxRecDepth 100000 in
set_option maxHeartbeats 4000000 in
theorem text_any (neg : Bool) (A : Option Addr) (n c : Nat) (l : List Nat) (w : World) (h : LimbsAt w A n c l) (hm : n ≤ 9000) (htab : PowTab w) :
    Calls Tryd.prog 22 #[numArg neg A n c] w (StrPost (Lib.itoa (sval neg l)) w) := by
  have K : Keep (fun _ => False) w (w.alloc (.cells #[.bool neg, .slice A n c] 25)) := (Keep.refl _ _).alloc _
  have hb : (w.alloc (.cells #[.bool neg, .slice A n c] 25)).heap[w.heap.size]? = some (.cells #[.bool neg, .slice A n c] 25 (0, 0)) := heap_alloc_new w _
  have h1 := h.keep0 K
  have tl := tlen_le h1.low
  rw [h1.len] at tl
  have HTAB := Lib.hid htab
  clear htab
  go_enter Tryd.func22, Tryd.ntmps22
  go_wp2_with fail
  refine (trim_any A n c l _ h1).mono ?_
  rintro e w1x ⟨rfl, rfl⟩
  try dsimp only
  go_wp2_with fail
  refine (clone_any A (tlen l) c (limbs (lval l)) _ h1.trim).mono ?_
  rintro e w2 ⟨A2, n2, c2, rfl, own, k2⟩
  have hn2 : n2 ≤ 9000 := by
    have := own.len
    have e : (limbs (lval l)).length = tlen l := rfl
    omega
  have ST : TxSt (w.alloc (.cells #[.bool neg, .slice A n c] 25)) (lval l) (lval l) A2 n2 c2 (.slice none 0 0) [] w2 := ⟨own, World.ownsRow_nil _ _ _ _, k2, hn2, by
    rcases Nat.eq_zero_or_pos (lval l) with h0 | h0
    · exact .inl ⟨h0, h0, rfl⟩
    · exact .inr (.inr ⟨h0, by simp⟩), by simp, by simp, by simp⟩
  have HV := Lib.hid (show lval l < BB ^ n by have := val_lt h.low; rwa [h.len] at this)
  have HST := Lib.hid ST
  have HB := Lib.hid hb
  have HTB := Lib.hid (HTAB.out.keep K)
  have HK := Lib.hid K
  clear ST own k2 hb K h1 h tl hn2
  generalize w.heap.size = Bx at HB ⊢
  generalize w.alloc (.cells #[.bool neg, .slice A n c] 25) = w1 at HST HB HTB HK ⊢
  try dsimp only
  go_wp2_with fail
  go_loopw [3, 4] (fun mv pv wr => ∃ (v : Nat) (A : Option Addr) (n c : Nat) (ps : List (List UInt8)), mv = .slice A n c ∧ TxSt w1 (lval l) v A n c pv ps wr) (fun _ pv _ => match pv with | .slice _ k _ => lval l - k | _ => 0)
  case atStart => exact ⟨_, _, _, _, _, rfl, HST.out⟩
  case round =>
    clear HST
    obtain ⟨v, A3, n3, c3, ps, rfl, st⟩ := hrel
    have hn3 : (limbs v).length = n3 := st.m.len
    obtain ⟨P, cP, rfl⟩ := OwnS.form st.p
    by_cases h0 : v = 0
    · subst h0
      obtain rfl : n3 = 0 := by rw [← hn3]; unfold limbs; rw [digs_zero]; rfl
      have hbw := st.K.heap HB.out (by simp)
      have q0 : wr.cell? ⟨Bx, 0, none⟩ = some (.bool neg) := by rw [cell_of_row wr _ _ _ _ _ hbw]; rfl
      have HS := Lib.hid st
      clear st hbw hn3
      by_cases hps : ps = []
      · subst hps
        have hV : lval l = 0 := by
          rcases HS.out.t with ⟨h, _⟩ | ⟨_, h, _⟩ | ⟨h, _⟩
          · exact h
          · exact absurd rfl h
          · omega
        have e : Lib.itoa (sval neg l) = [48] := by rw [(sval_zero neg l).2 hV]; rw [show (0 : Int) = ((0 : Nat) : Int) from rfl, Lib.itoa_nonneg, dec_small (by omega)]; rfl
        have HE := Lib.hid e
        clear e hV
        go_wp2_with fail
        go_ret
        exact ⟨by rw [HE.out]; rfl, HK.out.trans HS.out.K⟩
      · have hk : 0 < ps.length := List.length_pos_iff.2 hps
        have hki : ((ps.length : Int) == 0) = false := by simp; omega
        have HPS := Lib.hid hps
        clear hps
        obtain ⟨g, cg, eg, _, hlt⟩ := World.ownsRow.form HS.out.p hk
        injection eg with e1 _ e3
        subst e1 e3
        have hgb := (World.ownsRow.lt HS.out.p g rfl).1
        have hfl : ps.reverse.flatten = decDigits (lval l) := by
          rcases HS.out.t with ⟨_, _, h⟩ | ⟨_, _, h⟩ | ⟨h, _⟩
          · exact absurd h HPS.out
          · exact h.symm
          · omega
        have hdb := dec_bound HV.out hm
        have hV1 : 1 ≤ lval l := by have := HS.out.s; omega
        have hpb := HS.out.b
        have HF := Lib.hid (And.intro hfl (And.intro hdb (And.intro hV1 (And.intro hpb (And.intro hgb hlt)))))
        clear hfl hdb hV1 hpb hgb hlt
        cases neg with
        | false =>
          go_wp2_with fail
          refine (Tryd.slices_Reverse_string g 0 cP ps wr (own_holds HS.out.p) (by have := HF.out.2.2.2.1; omega)).mono ?_
          rintro e w7 ⟨rfl, q, hw⟩
          have HW := Lib.hid hw
          clear hw
          try dsimp only
          go_wp2_with fail
          refine (text_end HS.out.p HF.out.2.2.2.2.2 HW.out (by have := HF.out.2.2.2.1; omega) (by rw [HF.out.1]; have := HF.out.2.1; omega)).mono ?_
          rintro e w8 ⟨rfl, k8⟩
          have R : StrPost (Lib.itoa (sval false l)) w (.returned (.string ⟨(ps.reverse.flatten).toArray⟩)) w8 := ⟨by rw [HF.out.1, show sval false l = ((lval l : Nat) : Int) from rfl, Lib.itoa_nonneg], HK.out.trans (HS.out.K.into k8 (by rintro i rfl; exact HF.out.2.2.2.2.1))⟩
          have HR := Lib.hid R
          clear R k8
          try dsimp only
          go_wp2_with fail
          go_ret
          exact HR.out
        | true =>
          obtain ⟨i9, h9, hz0, hz1, hz2⟩ := info_parts info9
          have KW : Keep (fun _ => False) wr (wr.alloc (.cells #[.string ⟨#[45]⟩] 9)) := (Keep.refl _ _).alloc _
          have HP6 := Lib.hid (HS.out.p.keep KW (fun _ _ => id))
          have HNEW := Lib.hid (new_str wr ⟨#[45]⟩)
          have HBS := Lib.hid (Nat.le_trans HS.out.K.size KW.size)
          have HKW := Lib.hid KW
          clear KW
          go_wp2_with (at_builtin; refine wpList_append_own _ rfl (.tmp 61) (.tmp 62) 69 rfl w1.heap.size 9 i9 (.string ⟨#[]⟩) 1 16 Tryd.underlying69 h9 hz0 hz1 hz2 rfl (by decide) _ _ _ rfl HP6.out ⟨wr.heap.size, 0, none⟩ 1 1 [.string ⟨#[45]⟩] rfl rfl HNEW.out ?a1 ?a2 ?a3 HBS.out ?_)
          case a1 => first | rfl | (intro u hu; simp at hu; subst hu; rfl)
          case a2 => have := HF.out.2.2.2.1; unfold maxLen; omega
          case a3 => have := HF.out.2.2.2.1; omega
          intro pv' w6 hown hgrow _
          have o6 : OwnS w6 w1.heap.size pv' (ps ++ [[45]]) := by
            show w6.ownsRow _ 9 1 pv' (ps ++ [[45]]).length ((ps ++ [[45]]).map encStr)
            rw [List.length_append, List.map_append]
            exact hown
          have K6 : Keep (fun _ => False) w1 w6 := (HS.out.K.trans HKW.out).into (Keep.of_grown hgrow) (fun i hi => by
            have e : i = g := by simpa [Value.ownBlock] using hi
            have := HF.out.2.2.2.2.1
            omega)
          obtain ⟨g2, cg2, eg2, _, hlt2⟩ := World.ownsRow.form hown (by omega)
          subst eg2
          have hgb2 := (World.ownsRow.lt hown g2 rfl).1
          obtain ⟨ps2, hps2⟩ : ∃ x, x = ps ++ [([45] : List UInt8)] := ⟨_, rfl⟩
          have el : ps.length + 1 = ps2.length := by rw [hps2]; simp
          rw [← hps2] at o6
          have efl : ps2.reverse.flatten = 45 :: decDigits (lval l) := by rw [hps2, ← HF.out.1]; simp
          have HEF := Lib.hid (And.intro efl el)
          have HO6 := Lib.hid o6
          have HX := Lib.hid (And.intro K6 (And.intro hlt2 hgb2))
          clear o6 K6 hlt2 hgb2 hown hgrow
          rw [el] at HO6 ⊢
          clear efl hps2 el
          go_wp2_with fail
          refine (Tryd.slices_Reverse_string g2 0 cg2 ps2 w6 (own_holds HO6.out) (by have := HF.out.2.2.2.1; have := HEF.out.2; omega)).mono ?_
          rintro e w7 ⟨rfl, q, hw⟩
          have HW := Lib.hid hw
          clear hw
          try dsimp only
          go_wp2_with fail
          refine (text_end HO6.out HX.out.2.1 HW.out (by have := HF.out.2.2.2.1; have := HEF.out.2; omega) (by rw [HEF.out.1]; have := HF.out.2.1; rw [List.length_cons]; omega)).mono ?_
          rintro e w8 ⟨rfl, k8⟩
          have R : StrPost (Lib.itoa (sval true l)) w (.returned (.string ⟨(ps2.reverse.flatten).toArray⟩)) w8 := ⟨by rw [HEF.out.1, show sval true l = -((lval l : Nat) : Int) from rfl, Lib.itoa_neg _ HF.out.2.2.1], HK.out.trans (HX.out.1.into k8 (by rintro i rfl; exact HX.out.2.2))⟩
          have HR := Lib.hid R
          clear R k8
          try dsimp only
          go_wp2_with fail
          go_ret
          exact HR.out
    · have hpos : 0 < n3 := by
        rw [← hn3]
        exact Nat.pos_of_ne_zero (fun e => h0 (by have := congrArg lval (List.eq_nil_of_length_eq_zero e); rw [lval_limbs] at this; exact this))
      obtain ⟨b, c', e1, hcn, hlt⟩ := World.ownsRow.form st.m hpos
      injection e1 with e1 _ e3
      subst e1 e3
      have HS := Lib.hid st
      have hn := st.n
      clear st hn3
      go_wp2_with fail
      have low3 : Low BB (limbs v) := digs_low BB2 _
      go_loopw [5, 6] (fun cv iv wi => ∃ (k : Nat) (m : List Nat) (cr : Nat), k ≤ n3 ∧ iv = .int .i64 ((k : Int) - 1) ∧ cv = .int .u64 (cr : Int) ∧ OwnR 63 .u32 wi w1.heap.size (some ⟨b, 0, none⟩) n3 c3 m ∧ DivSt BB GG k (limbs v) m cr ∧ Keep (fun x => x = b) wr wi) (fun _ iv _ => (RowKit.intOf iv + 1).toNat)
      case atStart =>
        refine ⟨n3, _, 0, Nat.le_refl _, rfl, rfl, HS.out.m, ?_, Keep.refl _ _⟩
        have := DivSt.start (B := BB) (D := GG) (by unfold GG; omega) low3
        rwa [HS.out.m.len] at this
      case round =>
        obtain ⟨k, m, cr, hk, rfl, rfl, own, D, kk⟩ := hrel
        rcases Nat.eq_zero_or_pos k with rfl | hkp
        · obtain ⟨dv, dc⟩ := D.done (by unfold GG; omega)
          have hcr : (cr : Int) ≤ 999999999 := by have := D.lt; unfold GG at this; omega
          have hlm := own.toLimbs D.low (by omega)
          have HO := Lib.hid own
          have HDV := Lib.hid (And.intro (show lval m = v / GG by rw [← lval_limbs v]; exact dv) (show cr = v % GG by rw [← lval_limbs v]; exact dc))
          have HL := Lib.hid D.low
          have HKK := Lib.hid kk
          clear dv dc D own kk
          go_wp2_with fail
          refine (trim_any _ n3 c3 m _ hlm).mono ?_
          rintro e w4 ⟨rfl, rfl⟩
          try dsimp only
          go_wp2_with fail
          have hbb := (HS.out.m.fresh b 0 rfl).1
          have KA : Keep (fun _ => False) w1 wr := HS.out.K.into HKK.out (by rintro i rfl; exact hbb)
          have hp := HS.out.p.keep HKK.out (fun g hg e => txt_ne HS.out.m HS.out.p (by rw [hg, e]))
          have HKA := Lib.hid KA
          have HPP := Lib.hid hp
          have hts : (decDigits cr).length ≤ 9 := dec_le 8 cr (by omega)
          refine (format_any cr _ (by omega) (HTB.out.keep KA)).mono ?_
          rintro e w5 ⟨rfl, k5⟩
          obtain ⟨t, ht⟩ : ∃ t : ByteArray, t = ⟨(decDigits cr).toArray⟩ := ⟨_, rfl⟩
          have hsz : (t.size : Int) ≤ 9 := by rw [ht]; simp [ByteArray.size]; omega
          rw [← ht]
          have HT := Lib.hid ht
          have htl := tlen_pos m
          have HTL := Lib.hid htl
          have HK5 := Lib.hid k5
          have hsz2 : (0 : Int) ≤ (t.size : Int) := by omega
          clear hp ht KA hts htl k5 hlm hbb
          by_cases hq : 0 < tlen m
          · have hqi : (0 : Int) < (tlen m : Int) := by omega
            obtain ⟨z, hz⟩ : ∃ z : Nat, (9 : Int) - (t.size : Int) = (z : Int) ∧ z = 9 - (decDigits cr).length := ⟨9 - (decDigits cr).length, by rw [HT.out]; simp [ByteArray.size]; have := dec_le 8 cr (by omega); omega, rfl⟩
            obtain ⟨hz, hz'⟩ := hz
            have HZ := Lib.hid hz'
            clear hz'
            try dsimp only
            go_wp2_with fail
            refine (Tryd.strings_Repeat ⟨#[48]⟩ z w5 (by omega) (by simp [ByteArray.size]; omega)).mono ?_
            rintro e w7 ⟨rfl, b7⟩
            have HK7 := Lib.hid (HK5.out.trans (Keep.of_below b7))
            have hcl : (9223372036854775807 < (repeatL [48] z).length + t.size) = False := eq_false (by rw [repeat_one, List.length_replicate]; omega)
            clear b7
            obtain ⟨i9, h9, hz0, hz1, hz2⟩ := info_parts info9
            have KW : Keep (fun _ => False) wr (w7.alloc (.cells #[.string (({ data := (repeatL [48] z).toArray } : ByteArray) ++ t)] 9)) := HK7.out.alloc _
            have HP6 := Lib.hid ((HPP.out).keep KW (fun _ _ => id))
            have HNEW := Lib.hid (new_str w7 (({ data := (repeatL [48] z).toArray } : ByteArray) ++ t))
            have HLEN := Lib.hid (len_bound HS.out.g (Nat.pos_of_ne_zero h0) HV.out hm)
            have HBS := Lib.hid (Nat.le_trans HKA.out.size KW.size)
            clear KW
            try dsimp only
            go_wp2_with (at_builtin; refine wpList_append_own _ rfl (.tmp 52) (.tmp 54) 69 rfl w1.heap.size 9 i9 (.string ⟨#[]⟩) 1 16 Tryd.underlying69 h9 hz0 hz1 hz2 rfl (by decide) _ _ _ rfl HP6.out ⟨w7.heap.size, 0, none⟩ 1 1 [.string (({ data := (repeatL [48] z).toArray } : ByteArray) ++ t)] rfl rfl HNEW.out ?a1 ?a2 ?a3 HBS.out ?_)
            case a1 => intro u hu; simp at hu; subst hu; rfl
            case a2 => have := HLEN.out; unfold maxLen; omega
            case a3 => have := HLEN.out; omega
            intro pv' w6 hown hgrow _
            have N := TxSt.next HS.out HLEN.out (Nat.pos_of_ne_zero h0) HKK.out HO.out HL.out HDV.out.1 HDV.out.2 HK7.out (cat_str HT.out HZ.out) (.inl ⟨by have := HTL.out; rw [← HDV.out.1]; omega, rfl⟩) hown hgrow
            obtain ⟨P', cP', rfl⟩ := OwnS.form N.p
            have hps := HS.out.s
            have HN := Lib.hid N
            clear N hown hgrow
            go_wp2_with fail
            go_roundw
            case rel => exact ⟨_, _, _, _, _, rfl, HN.out⟩
            case measure =>
              simp only [List.length_append, List.length_singleton]
              have := Nat.pos_of_ne_zero h0
              omega
          · have hqi : decide ((0 : Int) < (tlen m : Int)) = false := decide_eq_false (by omega)
            obtain ⟨i9, h9, hz0, hz1, hz2⟩ := info_parts info9
            have KW : Keep (fun _ => False) wr (w5.alloc (.cells #[.string t] 9)) := HK5.out.alloc _
            have HP6 := Lib.hid ((HPP.out).keep KW (fun _ _ => id))
            have HNEW := Lib.hid (new_str w5 t)
            have HLEN := Lib.hid (len_bound HS.out.g (Nat.pos_of_ne_zero h0) HV.out hm)
            have HBS := Lib.hid (Nat.le_trans HKA.out.size KW.size)
            clear KW
            try dsimp only
            go_wp2_with (at_builtin; refine wpList_append_own _ rfl (.tmp 52) (.tmp 54) 69 rfl w1.heap.size 9 i9 (.string ⟨#[]⟩) 1 16 Tryd.underlying69 h9 hz0 hz1 hz2 rfl (by decide) _ _ _ rfl HP6.out ⟨w5.heap.size, 0, none⟩ 1 1 [.string t] rfl rfl HNEW.out ?a1 ?a2 ?a3 HBS.out ?_)
            case a1 => intro u hu; simp at hu; subst hu; rfl
            case a2 => have := HLEN.out; unfold maxLen; omega
            case a3 => have := HLEN.out; omega
            intro pv' w6 hown hgrow _
            have N := TxSt.next HS.out HLEN.out (Nat.pos_of_ne_zero h0) HKK.out HO.out HL.out HDV.out.1 HDV.out.2 HK5.out HT.out (.inr ⟨by have := HTL.out; rw [← HDV.out.1]; omega, rfl⟩) hown hgrow
            obtain ⟨P', cP', rfl⟩ := OwnS.form N.p
            have hps := HS.out.s
            have HN := Lib.hid N
            clear N hown hgrow
            go_wp2_with fail
            go_roundw
            case rel => exact ⟨_, _, _, _, _, rfl, HN.out⟩
            case measure =>
              simp only [List.length_append, List.length_singleton]
              have := Nat.pos_of_ne_zero h0
              omega
        · obtain ⟨k, rfl⟩ : ∃ j, k = j + 1 := ⟨k - 1, by omega⟩
          have hkl : k < n3 := by omega
          have hkl2 : k < (limbs v).length := by rw [HS.out.m.len]; exact hkl
          obtain ⟨s1, s2⟩ := D.step (by unfold BB; omega) (by unfold GG; omega) low3 hkl2
          have hy := low_cast D.low k
          have hcr : (cr : Int) ≤ 999999999 := by have := D.lt; unfold GG at this; omega
          obtain ⟨b', o', e1, _, hcx⟩ := own.row.2 k hkl
          injection e1 with e1
          injection e1 with e1 e2 _
          subst e1 e2
          rw [Nat.zero_add] at hcx
          have hfz := own.frozen _ _ rfl k
          obtain ⟨y, hyy⟩ : ∃ y, y = m.getD k 0 := ⟨_, rfl⟩
          rw [← hyy] at s1 s2 hy hcx
          have hor := or_carry hcr (y := y) (by omega)
          obtain ⟨x, hx⟩ : ∃ x, x = cr * BB + y := ⟨_, rfl⟩
          rw [← hx] at s1 s2 hor
          have hxl : (x : Int) ≤ 4300000000000000000 := by rw [hx]; unfold BB; omega
          have hq : (x : Int) / 1000000000 = ((x / GG : Nat) : Int) := by unfold GG; omega
          have hr : (x : Int) % 1000000000 = ((x % GG : Nat) : Int) := by unfold GG; omega
          have ek : ((k + 1 : Nat) : Int) - 1 = (k : Int) := by omega
          rw [ek]
          have own2 := own.set hkl (x / GG)
          have kk2 : Keep (fun z => z = b) _ _ := kk.setCell (p := ⟨b, k, none⟩) (.inl rfl) (.int .u32 ((x / GG : Nat) : Int))
          have HO := Lib.hid own2
          have HD := Lib.hid s2
          have HKK := Lib.hid kk2
          have HQ := Lib.hid hq
          have HR := Lib.hid hr
          have hql : (x : Int) / 1000000000 ≤ 4294967295 := by rw [hq]; have := s1; unfold BB at this; generalize x / GG = z at *; omega
          clear own own2 kk kk2 D s1 s2 hyy hx hq hr ek hkl2 low3
          go_wp2_with fail
          go_roundw
          case rel => exact ⟨k, _, _, by omega, by go_num, by rw [HR.out], by rw [HQ.out]; exact HO.out, HD.out, by rw [HQ.out]; exact HKK.out⟩
          case measure => simp [RowKit.intOf]
end Go.Proofs.YtdfekphahdmffaaDoor
