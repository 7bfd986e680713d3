/-
  The law NumGcds: its walk.
-/
import Derived.Test.YtdfekphahdmffaaDoorGcdsL
import Derived.Test.YtdfekphahdmffaaDoorLawEnd
import Derived.Test.YtdfekphahdmffaaDoorRfCopy
import Derived.BigQuiet
namespace Go.Proofs.YtdfekphahdmffaaDoor
open Go.RowKit

set_option maxRecDepth 100000 in
set_option maxHeartbeats 4000000 in
theorem gcds_long (A : Option Addr) (len c : Nat) (w : World) (ht : PowTab w) (h : 8 < len) : Calls Tryd.prog 7 #[.slice A len c] w (BoolPost true w) := by
  have HT := Lib.hid ht
  have t1 : (8 : Int) < (len : Int) := by omega
  clear ht h
  go_enter Tryd.func7, Tryd.ntmps7
  go_wp2_with fail
  refine (awake_any _ HT.out).mono ?_
  rintro e wz ⟨rfl, kz⟩
  have HZ := Lib.hid kz
  clear kz
  try dsimp only
  go_wp2_with fail
  go_ret
  exact ⟨rfl, HZ.out⟩
set_option maxRecDepth 100000 in
set_option maxHeartbeats 16000000 in
theorem gcds_main (A : Option Addr) (len c : Nat) (ns : Nat → NumV) (w : World) (ht : PowTab w) (hN : NumsX w A ns len) (h : ¬ 8 < len) : Calls Tryd.prog 7 #[.slice A len c] w (BoolPost true w) := by
  have HT := Lib.hid ht
  have HN := Lib.hid hN
  have t1 : decide ((8 : Int) < (len : Int)) = false := decide_eq_false (by omega)
  have t2 : decide (8 < len) = false := decide_eq_false h
  have hle : len ≤ 8 := by omega
  clear ht hN h
  go_enter Tryd.func7, Tryd.ntmps7
  go_wp2_with fail
  clear t1 t2
  go_loopw [3, 4, 5] (fun wv vv iv wr => ∃ (k : Nat) (cs : List NumV) (vs : List ValV), k ≤ len ∧ iv = .int .i64 (k : Int) ∧ cs.length = k ∧ vs.length = k ∧ (∀ j, j < k → (ns j).n ≤ 60) ∧ GSt w ns cs vs wv vv wr) (fun _ _ iv _ => len - (intOf iv).toNat)
  case atStart => exact ⟨0, [], [], Nat.zero_le _, rfl, rfl, rfl, fun j hj => absurd hj (Nat.not_lt_zero j), GSt.start w ns⟩
  case round =>
    obtain ⟨k, cs, vs, hk, rfl, hcl, hvl, hsh, st⟩ := hrel
    obtain ⟨Pw, cw, rfl⟩ := own_form st.wo
    obtain ⟨Pv, cv, rfl⟩ := own_form st.vo
    have HS := Lib.hid st
    have HCL := Lib.hid (And.intro hcl hvl)
    have HSH := Lib.hid hsh
    have hcs : cs.length ≤ 8 := by omega
    have hvs : vs.length ≤ 8 := by omega
    clear st hcl hvl hsh
    by_cases hkn : k < len
    · have i0 : (0 : Int) ≤ (k : Int) := by omega
      have i1 : (k : Int) < (len : Int) := by omega
      obtain ⟨b, off, rfl, hb, c0, c1, hx⟩ := HN.out.at_ HS.out.K hkn
      obtain ⟨xk, hxk⟩ : ∃ x, x = ns k := ⟨_, rfl⟩
      rw [← hxk] at c0 c1 hx
      have HXK := Lib.hid hxk
      have HLX := Lib.hid hx
      clear hxk hx
      go_wp2_with fail
      refine (long_any xk.neg xk.A xk.n xk.c _).mono ?_
      rintro e w2 ⟨rfl, k2⟩
      have HCC := Lib.hid (fun (w' : World) (K' : Keep (fun _ => False) wr w') => (show w'.cell? ⟨b, off + k * 2, none⟩ = some (.bool xk.neg) ∧ w'.cell? ⟨b, off + k * 2 + 1, none⟩ = some (.slice xk.A xk.n xk.c) ∧ b < w'.heap.size from ⟨(K'.cell (p := ⟨b, off + k * 2, none⟩) hb (by simp)).trans c0, (K'.cell (p := ⟨b, off + k * 2 + 1, none⟩) hb (by simp)).trans c1, Nat.lt_of_lt_of_le hb K'.size⟩))
      by_cases hlg : 60 < xk.n
      · rw [decide_eq_true hlg]
        have HK := Lib.hid (HS.out.K.trans k2)
        clear hlg k2 c0 c1 hb
        try dsimp only
        go_wp2_with fail
        refine (awake_any _ (HT.out.keep HK.out)).mono ?_
        rintro e wz ⟨rfl, kz⟩
        have HZ := Lib.hid (HK.out.trans kz)
        clear kz
        try dsimp only
        go_wp2_with fail
        go_ret
        exact ⟨rfl, HZ.out⟩
      · rw [decide_eq_false hlg]
        have hn60 : xk.n ≤ 60 := by omega
        have HS2 := Lib.hid (HS.out.keep k2)
        obtain ⟨c0, c1, hb⟩ := HCC.out _ k2
        have HL2 := Lib.hid ((HLX.out.keep0 k2).toAt (by omega))
        have HK2 := Lib.hid k2
        clear hlg k2
        try dsimp only
        go_wp2_with fail
        refine (copy_any xk.neg xk.A xk.n xk.c xk.l _ HL2.out).mono ?_
        rintro e w3 ⟨A5, n5, c5, rfl, o5, k3⟩
        have hn5 : n5 ≤ 60 := by have h8 := o5.len; have h9 := HL2.out.len; omega
        have HS3 := Lib.hid (HS2.out.keep k3)
        have KA : Keep (fun _ => False) w3 (w3.alloc (.cells #[.bool xk.neg, .slice A5 n5 c5] 25)) := (Keep.refl _ _).alloc _
        have HSA := Lib.hid (HS3.out.keep KA)
        have HO5 := Lib.hid ((o5.keep0 KA).mono (base' := w.heap.size) (Nat.le_trans HS2.out.K.size (Nat.le_refl _)))
        have HNW := Lib.hid (new_two w3 (.bool xk.neg) (.slice A5 n5 c5) 25)
        have HBZ := Lib.hid (show w.heap.size ≤ (w3.alloc (.cells #[.bool xk.neg, .slice A5 n5 c5] 25)).heap.size from HSA.out.K.size)
        have HKA := Lib.hid (HK2.out.trans (k3.trans KA))
        obtain ⟨i5, h5, hz0, hz1, hz2⟩ := info_parts info25
        clear o5 k3 KA c0 c1 hb
        try dsimp only
        go_wp2_with (at_builtin; refine wpList_append_own _ rfl (.tmp 25) (.tmp 31) 48 rfl w.heap.size 25 i5 (.agg #[.bool false, .slice none 0 0]) 2 32 Tryd.underlying48 h5 hz0 hz1 hz2 rfl (by decide) _ _ _ rfl HSA.out.wo ⟨w3.heap.size, 0, none⟩ 1 1 [.bool xk.neg, .slice A5 n5 c5] rfl rfl HNW.out ?a1 ?a2 ?a3 HBZ.out ?_)
        case a1 => intro u hu; simp at hu; rcases hu with rfl | rfl <;> rfl
        case a2 => unfold maxLen; omega
        case a3 => omega
        intro wv2 w6 hown hgrow _
        obtain ⟨Pw2, cw2, rfl⟩ := own_form hown
        have N := HSA.out.addW (x := ⟨xk.neg, A5, n5, c5, xk.l⟩) (by rw [HCL.out.1, ← HXK.out]) (by rw [HCL.out.1, ← HXK.out]) hn5 HL2.out.low HO5.out hown hgrow
        have HS6 := Lib.hid N
        obtain ⟨b2, off2, e2, hb, c0, c1, hx⟩ := HN.out.at_ N.K hkn
        injection e2 with e2
        injection e2 with eb eo _
        subst eb eo
        rw [← HXK.out] at c0 c1 hx
        have HL6 := Lib.hid (hx.toAt (by omega))
        clear N hown hgrow hx HSA HO5 HNW HBZ HKA h5 hz0 hz1 hz2
        try dsimp only
        go_wp2_with fail
        refine (val_any xk.neg xk.A xk.n xk.c xk.l _ HL6.out (by omega)).mono ?_
        rintro e w7 ⟨k7, A7, n7, c7, rfl, o7⟩
        obtain ⟨z, hz⟩ : ∃ z, z = decide (sval xk.neg xk.l < 0) := ⟨_, rfl⟩
        rw [← hz]
        have HZ := Lib.hid hz
        have hn7 : n7 ≤ 1920 := by rw [← o7.len]; exact sval_len HL6.out hn60
        have KA : Keep (fun _ => False) w7 (w7.alloc (.cells #[.bool z, .slice A7 n7 c7] 34)) := (Keep.refl _ _).alloc _
        have HSA := Lib.hid ((HS6.out.keep k7).keep KA)
        have HO7 := Lib.hid ((o7.keep0 KA).mono (base' := w.heap.size) HS6.out.K.size)
        have HNW := Lib.hid (new_two w7 (.bool z) (.slice A7 n7 c7) 34)
        have HBZ := Lib.hid (show w.heap.size ≤ (w7.alloc (.cells #[.bool z, .slice A7 n7 c7] 34)).heap.size from HSA.out.K.size)
        obtain ⟨i6, h6, hy0, hy1, hy2⟩ := info_parts info34
        clear hz o7 k7 KA c0 c1 hb
        try dsimp only
        go_wp2_with (at_builtin; refine wpList_append_own _ rfl (.tmp 33) (.tmp 39) 49 rfl w.heap.size 34 i6 (.agg #[.bool false, .slice none 0 0]) 2 32 Tryd.underlying49 h6 hy0 hy1 hy2 rfl (by decide) _ _ _ rfl HSA.out.vo ⟨w7.heap.size, 0, none⟩ 1 1 [.bool z, .slice A7 n7 c7] rfl rfl HNW.out ?b1 ?b2 ?b3 HBZ.out ?_)
        case b1 => intro u hu; simp at hu; rcases hu with rfl | rfl <;> rfl
        case b2 => unfold maxLen; omega
        case b3 => omega
        intro vv2 w8 hown hgrow _
        obtain ⟨Pv2, cv2, rfl⟩ := own_form hown
        have N := HSA.out.addV (x := ⟨z, A7, n7, c7, (sval xk.neg xk.l).natAbs⟩) (by rw [HCL.out.2, ← HXK.out]; exact HZ.out) (by rw [HCL.out.2, ← HXK.out]) hn7 HO7.out hown hgrow
        have HS8 := Lib.hid N
        clear N hown hgrow
        go_wp2_with fail
        go_roundw
        case rel => exact ⟨k + 1, _, _, by omega, by go_num, by rw [List.length_append, HCL.out.1]; rfl, by rw [List.length_append, HCL.out.2]; rfl, fun j hj => by
          by_cases e : j = k
          · rw [e, ← HXK.out]; exact hn60
          · exact HSH.out j (by omega), HS8.out⟩
        case measure => simp [intOf]; omega
    · have i1 : decide ((k : Int) < (len : Int)) = false := decide_eq_false (by omega)
      obtain rfl : k = len := by omega
      have hcl := HCL.out.1
      have hvl := HCL.out.2
      have HNA := Lib.hid ((HN.out.toAt (fun j hj => by have := HSH.out j hj; omega)).keepN HS.out.K)
      go_wp2_with fail
      clear i1
      refine (gcd_any A k c ns _ HNA.out (by omega) (fun j hj => by have := HSH.out j hj; omega)).mono ?_
      intro e w_x hres
      obtain ⟨k_x, q_x, A_x, n_x, c_x, l_x, f_x, rfl, OW, LM, ln_x, ho⟩ := hres.own
      have HO_x := Lib.hid ho
      have HX := Lib.hid (((Env.start w_x).num LM).box (.bool q_x) (.slice A_x n_x c_x))
      have KA : Keep (fun _ => False) w_x (w_x.alloc (.cells #[.bool q_x, .slice A_x n_x c_x] 25)) := (Keep.refl _ _).alloc _
      have OW_x := Lib.hid (OW.keep0 KA)
      have K0 := Lib.hid (k_x.trans KA)
      clear ho hres OW LM k_x KA
      try dsimp only
      go_wp2_with fail
      generalize w_x.alloc (.cells #[.bool q_x, .slice A_x n_x c_x] 25) = w5 at HX OW_x K0 ⊢
      have HBX := Lib.hid (HX.out.cells (.head _)).2.2
      generalize w_x.heap.size = Bx at HX HBX ⊢
      obtain ⟨V1, V2, V3⟩ := (HS.out.keep K0.out).vals
      rw [hvl] at V1 V2 V3
      have HGQ := Lib.hid (vgcd_eq k V3)
      have HV1 := Lib.hid V1
      have HV2 := Lib.hid V2
      clear V1 V2 V3
      obtain ⟨GG, hGG⟩ : ∃ G, G = gcdTo ns k := ⟨_, rfl⟩
      rw [← hGG] at HO_x HGQ
      clear hGG
      have HZF := Lib.hid (show false = decide (((GG : Nat) : Int) < 0) from by symm; rw [decide_eq_false_iff_not]; omega)
      have Kd : Keep (fun _ => False) w5 w5.drew := (Keep.refl _ _).drew
      have HCC := Lib.hid (fun (w' : World) (K' : Keep (fun _ => False) w5 w') => (show w'.cell? ⟨Bx, 0, none⟩ = some (.bool q_x) ∧ w'.cell? ⟨Bx, 1, none⟩ = some (.slice A_x n_x c_x) from by
        obtain ⟨xa, xb, _⟩ := (HX.out.keep K').cells (.head _)
        exact ⟨xa, xb⟩))
      refine wp_region_held_drew (S := fun w' => w'.cell? ⟨Bx, 0, none⟩ = some (.bool q_x) ∧ w'.cell? ⟨Bx, 1, none⟩ = some (.slice A_x n_x c_x)) (by kernel_rfl) (HCC.out _ Kd) (fun hHeld => ?_)
      refine wpAnyH_take (i := 0) (oi := _) (v := ?_) rfl (by kernel_rfl) (by kernel_rfl) (by kernel_rfl) (fun _ _ _ h => h) (Or.inl ⟨by rfl, ?_⟩) (by assumption) ?_
      rotate_left
      · (intro w hSw; (try dsimp only at hSw); go_simp)
        all_goals with_reducible rfl
      refine wpAnyH_take (i := 1) (oi := _) (v := ?_) rfl (by kernel_rfl) (by kernel_rfl) (by kernel_rfl) (fun _ _ _ h => h) (Or.inl ⟨by rfl, ?_⟩) (by assumption) ?_
      rotate_left
      · (intro w hSw; (try dsimp only at hSw); go_simp)
        all_goals with_reducible rfl
      try dsimp only [List.getElem_toArray, List.getElem_cons_succ, List.getElem_cons_zero]
      try simp only [Act.put, List.setIfInBounds_toArray, List.set_cons_zero, List.set_cons_succ]
      refine wpAnyH_take (i := 2) (oi := _) (v := ?_) rfl (by kernel_rfl) (by kernel_rfl) (by kernel_rfl) (fun _ _ _ h => h) (Or.inl ⟨by rfl, ?_⟩) (by assumption) ?_
      rotate_left
      · (intro w hSw; (try dsimp only at hSw); go_simp)
        all_goals with_reducible rfl
      try dsimp only [List.getElem_toArray, List.getElem_cons_succ, List.getElem_cons_zero]
      try simp only [Act.put, List.setIfInBounds_toArray, List.set_cons_zero, List.set_cons_succ]
      refine wpAnyH_ready (rs := [3]) (by kernel_rfl) (by simp) ?_
      refine AllReadyH.cons (o := _) rfl (fun K hK => ?_) AllReadyH.nil
      go_simp
      refine (rgcd_any Pv k cv (vsF vs) _ (fun i hi => HV1.out.at_ Kd hi) (by omega) HV2.out).mono ?_
      rintro e wr1 ⟨A9, n9, c9, rfl, b9, hn9, kr⟩
      rw [HGQ.out] at b9
      have HB9 := Lib.hid b9
      clear b9
      have K1 : Keep (fun _ => False) w5 wr1 := Keep.trans Kd kr
      clear kr 
      try dsimp only
      go_wp2_with fail
      refine hK.out _ _ (HCC.out _ K1) (fun hHeld => ?_)
      clear hK K
      try dsimp only [List.getElem_toArray, List.getElem_cons_succ, List.getElem_cons_zero]
      try simp only [Act.put, List.setIfInBounds_toArray, List.set_cons_zero, List.set_cons_succ]
      refine wpAnyH_ready (rs := [4]) (by kernel_rfl) (by simp) ?_
      refine AllReadyH.cons (o := _) rfl (fun K hK => ?_) AllReadyH.nil
      go_simp
      refine (is_z HZF.out HO_x.out ((HX.out.keep K1).m _ (.head _)) HB9.out).mono ?_
      rintro e wr2 ⟨rfl, kr⟩
      have K2 : Keep (fun _ => False) w5 wr2 := Keep.trans K1 kr
      clear kr K1
      try dsimp only
      go_wp2_with fail
      refine hK.out _ _ (HCC.out _ K2) (fun hHeld => ?_)
      clear hK K
      refine wpAnyH_take (i := 5) (oi := _) (v := ?_) rfl (by kernel_rfl) (by kernel_rfl) (by kernel_rfl) (fun _ _ _ h => h) (Or.inl ⟨by rfl, ?_⟩) (by assumption) ?_
      rotate_left
      · (intro w hSw; (try dsimp only at hSw); go_simp)
        all_goals with_reducible rfl
      try dsimp only [List.getElem_toArray, List.getElem_cons_succ, List.getElem_cons_zero]
      try simp only [Act.put, List.setIfInBounds_toArray, List.set_cons_zero, List.set_cons_succ]
      refine wpAnyH_done (by kernel_rfl) ?_ _
      have KK := K2
      clear K2
      have OW9 := Lib.hid (OW_x.out.keep0 KK)
      have K09 := Lib.hid (K0.out.trans KK)
      have HX1 := Lib.hid (HX.out.keep KK)
      clear HX
      have HX := Lib.hid HX1.out
      clear HX1
      clear HCC KK
      obtain ⟨x0, x1, xl⟩ := HX.out.cells (.head _)
      try dsimp only
      go_wp2_with fail
      clear x0 x1 xl
      refine (spoil_any _ q_x A_x n_x c_x l_x _ OW9.out (by omega)).mono ?_
      rintro e ws ⟨rfl, ks⟩
      have hk := K09.out.into ks (by rintro i ⟨_, hi⟩; exact (OW9.out.fresh i 0 hi).1)
      have HSS := Lib.hid (HS.out.keep hk)
      clear hk ks HX OW9 K09 OW_x K0 HNA HBX
      try dsimp only
      go_wp2_with fail
      go_loopw [8] (fun iv wr => ∃ j : Nat, j ≤ k ∧ iv = .int .i64 (j : Int) ∧ Keep (fun _ => False) ws wr) (fun iv _ => k - (intOf iv).toNat)
      case atStart => exact ⟨0, Nat.zero_le _, rfl, Keep.refl _ _⟩
      case round =>
        obtain ⟨j, hj, rfl, ki⟩ := hrel
        by_cases hjn : j < k
        · have j0 : (0 : Int) ≤ (j : Int) := by omega
          have j1 : (j : Int) < (k : Int) := by omega
          have j2 : (j : Int) < (cs.length : Int) := by omega
          have HSJ := Lib.hid (HSS.out.keep ki)
          obtain ⟨x, hx⟩ : ∃ x, cs[j]? = some x := ⟨cs[j]'(by omega), List.getElem?_eq_getElem (by omega)⟩
          obtain ⟨g, cg, eg, hg, d0, d1, LX, hxn⟩ := HSJ.out.copy_at hx
          injection eg with eg _ ec
          subst eg ec
          obtain ⟨b, off, rfl, hb, c0, c1, hl⟩ := HN.out.at_ HSJ.out.K hjn
          have LN := hl.toAt (by have := HSH.out j hjn; omega)
          obtain ⟨xj, hxj⟩ : ∃ y, y = ns j := ⟨_, rfl⟩
          rw [← hxj] at c0 c1 LN LX hxn
          have HSM := Lib.hid (fun (w' : World) (K' : Keep (fun _ => False) wr w') => (show Calls Tryd.prog 17 #[numArg xj.neg xj.A xj.n xj.c, numArg x.neg x.A x.n x.c] w' (BoolPost true w') from by
            have := same_any xj.neg xj.A xj.n xj.c xj.l x.neg x.A x.n x.c xj.l w' (LN.keep0 K') (LX.keep0 K')
            rw [hxn, same_self] at this
            rw [hxn]; exact this))
          have HKI := Lib.hid ki
          clear LN LX hxn hl hx hxj ki
          have HSR := Lib.hid (fun (w' : World) (K' : Keep (fun _ => False) wr w') => (show w'.cell? ⟨b, off + j * 2, none⟩ = some (.bool xj.neg) ∧ w'.cell? ⟨b, off + j * 2 + 1, none⟩ = some (.slice xj.A xj.n xj.c) ∧ w'.cell? ⟨g, j * 2, none⟩ = some (.bool x.neg) ∧ w'.cell? ⟨g, j * 2 + 1, none⟩ = some (.slice x.A x.n x.c) ∧ Keep (fun _ => False) wr w' from ⟨(K'.cell (p := ⟨b, off + j * 2, none⟩) hb (by simp)).trans c0, (K'.cell (p := ⟨b, off + j * 2 + 1, none⟩) hb (by simp)).trans c1, (K'.cell (p := ⟨g, j * 2, none⟩) hg (by simp)).trans d0, (K'.cell (p := ⟨g, j * 2 + 1, none⟩) hg (by simp)).trans d1, K'⟩))
          have Kd : Keep (fun _ => False) wr wr.drew := (Keep.refl _ _).drew
          go_wp2_with fail
          go_region_held3 (fun w' => w'.cell? ⟨b, off + j * 2, none⟩ = some (.bool xj.neg) ∧ w'.cell? ⟨b, off + j * 2 + 1, none⟩ = some (.slice xj.A xj.n xj.c) ∧ w'.cell? ⟨g, j * 2, none⟩ = some (.bool x.neg) ∧ w'.cell? ⟨g, j * 2 + 1, none⟩ = some (.slice x.A x.n x.c) ∧ Keep (fun _ => False) wr w')
            (first | exact HSR.out _ Kd | exact HSR.out _ (by assumption))
            ((go_at_call 17; go_split_ands; (with_reducible refine (HSM.out _ (by assumption)).mono ?_); rintro e w9 ⟨rfl, k9⟩; have K9 := Keep.trans (by assumption) k9))
          have HK9 := Lib.hid (HKI.out.trans K9)
          clear k9 K9 Kd HSR HSM c0 c1 d0 d1 hb hg
          go_wp2_with fail
          go_roundw
          case rel => exact ⟨j + 1, by omega, by go_num, HK9.out⟩
          case measure => simp [intOf]; omega
        · have j1 : decide ((j : Int) < (k : Int)) = false := decide_eq_false (by omega)
          have HK := Lib.hid (HSS.out.K.trans ki)
          clear ki
          go_wp2_with fail
          refine (awake_any _ (HT.out.keep HK.out)).mono ?_
          rintro e wz ⟨rfl, kz⟩
          have HZ := Lib.hid (HK.out.trans kz)
          clear kz
          try dsimp only
          go_wp2_with fail
          go_ret
          exact ⟨rfl, HZ.out⟩
end Go.Proofs.YtdfekphahdmffaaDoor
