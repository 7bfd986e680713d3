/-
  The law NumDivides: its walk.
-/
import Derived.Test.YtdfekphahdmffaaDoorRfDivide
import Derived.Test.YtdfekphahdmffaaDoorNuQuo
import Derived.Test.YtdfekphahdmffaaDoorRfCopy
import Derived.BigQuiet
namespace Go.Proofs.YtdfekphahdmffaaDoor
open Go.RowKit

set_option maxRecDepth 100000 in
set_option maxHeartbeats 4000000 in
theorem divides_long1 (p1 : Bool) (A1 : Option Addr) (n1 c1 : Nat) (p2 : Bool) (A2 : Option Addr) (n2 c2 : Nat) (w : World) (ht : PowTab w) (h1 : 60 < n1) :
    Calls Tryd.prog 6 #[numArg p1 A1 n1 c1, numArg p2 A2 n2 c2] w (BoolPost true w) := by
  have X0 := env2 w (.bool p1) (.slice A1 n1 c1) (.bool p2) (.slice A2 n2 c2)
  have HT := Lib.hid ht
  clear ht
  go_enter Tryd.func6, Tryd.ntmps6
  go_wp2_with fail
  have hw1 : ((w.alloc (.cells #[.bool p1, .slice A1 n1 c1] 25)).alloc (.cells #[.bool p2, .slice A2 n2 c2] 25)).heap.size = w.heap.size + 1 + 1 := by simp only [World.size_alloc]
  generalize hB0 : w.heap.size = B0 at X0 hw1 ⊢
  have HSZ := Lib.hid (Nat.le_of_eq hB0)
  clear hB0
  generalize (w.alloc (.cells #[.bool p1, .slice A1 n1 c1] 25)).alloc (.cells #[.bool p2, .slice A2 n2 c2] 25) = w1 at X0 hw1 ⊢
  have HX := Lib.hid X0
  have HW1 := Lib.hid hw1
  clear X0 hw1
  refine (long_any p1 A1 n1 c1 _).mono ?_
  rintro e w2 ⟨rfl, k2⟩
  rw [show decide (60 < n1) = true from decide_eq_true (by omega)]
  have HX1 := Lib.hid (HX.out.keep k2)
  clear HX k2
  have HX := Lib.hid HX1.out
  clear HX1
  obtain ⟨s0, s1, sl⟩ := HX.out.cells (.head _)
  obtain ⟨r0, r1, rl⟩ := HX.out.cells (.tail _ (.head _))
  try dsimp only
  go_wp2_with fail
  clear s0 s1 sl r0 r1 rl
  refine (awake_any _ (HT.out.keep HX.out.k)).mono ?_
  rintro e wz ⟨rfl, kz⟩
  have HZ := Lib.hid (HX.out.k.trans kz)
  clear kz
  try dsimp only
  go_wp2_with fail
  go_ret
  exact ⟨rfl, HZ.out⟩
set_option maxRecDepth 100000 in
set_option maxHeartbeats 4000000 in
theorem divides_long2 (p1 : Bool) (A1 : Option Addr) (n1 c1 : Nat) (p2 : Bool) (A2 : Option Addr) (n2 c2 : Nat) (w : World) (ht : PowTab w) (h1 : n1 ≤ 60) (h2 : 60 < n2) :
    Calls Tryd.prog 6 #[numArg p1 A1 n1 c1, numArg p2 A2 n2 c2] w (BoolPost true w) := by
  have X0 := env2 w (.bool p1) (.slice A1 n1 c1) (.bool p2) (.slice A2 n2 c2)
  have HT := Lib.hid ht
  clear ht
  go_enter Tryd.func6, Tryd.ntmps6
  go_wp2_with fail
  have hw1 : ((w.alloc (.cells #[.bool p1, .slice A1 n1 c1] 25)).alloc (.cells #[.bool p2, .slice A2 n2 c2] 25)).heap.size = w.heap.size + 1 + 1 := by simp only [World.size_alloc]
  generalize hB0 : w.heap.size = B0 at X0 hw1 ⊢
  have HSZ := Lib.hid (Nat.le_of_eq hB0)
  clear hB0
  generalize (w.alloc (.cells #[.bool p1, .slice A1 n1 c1] 25)).alloc (.cells #[.bool p2, .slice A2 n2 c2] 25) = w1 at X0 hw1 ⊢
  have HX := Lib.hid X0
  have HW1 := Lib.hid hw1
  clear X0 hw1
  refine (long_any p1 A1 n1 c1 _).mono ?_
  rintro e w2 ⟨rfl, k2⟩
  rw [show decide (60 < n1) = false from decide_eq_false (by omega)]
  have HX1 := Lib.hid (HX.out.keep k2)
  clear HX k2
  have HX := Lib.hid HX1.out
  clear HX1
  obtain ⟨s0, s1, sl⟩ := HX.out.cells (.head _)
  obtain ⟨r0, r1, rl⟩ := HX.out.cells (.tail _ (.head _))
  try dsimp only
  go_wp2_with fail
  clear s0 s1 sl r0 r1 rl
  refine (long_any p2 A2 n2 c2 _).mono ?_
  rintro e w2 ⟨rfl, k2⟩
  rw [show decide (60 < n2) = true from decide_eq_true (by omega)]
  have HX1 := Lib.hid (HX.out.keep k2)
  clear HX k2
  have HX := Lib.hid HX1.out
  clear HX1
  obtain ⟨s0, s1, sl⟩ := HX.out.cells (.head _)
  obtain ⟨r0, r1, rl⟩ := HX.out.cells (.tail _ (.head _))
  try dsimp only
  go_wp2_with fail
  clear s0 s1 sl r0 r1 rl
  refine (awake_any _ (HT.out.keep HX.out.k)).mono ?_
  rintro e wz ⟨rfl, kz⟩
  have HZ := Lib.hid (HX.out.k.trans kz)
  clear kz
  try dsimp only
  go_wp2_with fail
  go_ret
  exact ⟨rfl, HZ.out⟩
set_option maxRecDepth 100000 in
set_option maxHeartbeats 4000000 in
theorem divides_short (p1 : Bool) (A1 : Option Addr) (n1 c1 : Nat) (p2 : Bool) (A2 : Option Addr) (n2 c2 : Nat) (l1 l2 : List Nat) (w : World) (ht : PowTab w) (h1 : n1 ≤ 60) (h2 : n2 ≤ 60) (L1 : LimbsAt w A1 n1 c1 l1) (L2 : LimbsAt w A2 n2 c2 l2) :
    Calls Tryd.prog 6 #[numArg p1 A1 n1 c1, numArg p2 A2 n2 c2] w (BoolPost true w) := by
  have HL := Lib.hid (And.intro L1 L2)
  clear L1 L2
  obtain ⟨xa, hxa⟩ : ∃ x, x = sval p1 l1 := ⟨_, rfl⟩
  obtain ⟨xb, hxb⟩ : ∃ x, x = sval p2 l2 := ⟨_, rfl⟩
  obtain ⟨z1, hz1⟩ : ∃ z, z = decide (xa < 0) := ⟨_, rfl⟩
  obtain ⟨z2, hz2⟩ : ∃ z, z = decide (xb < 0) := ⟨_, rfl⟩
  obtain ⟨z3, hz3⟩ : ∃ z, z = decide (xa.tdiv xb < 0) := ⟨_, rfl⟩
  obtain ⟨z4, hz4⟩ : ∃ z, z = decide (xa.tmod xb < 0) := ⟨_, rfl⟩
  obtain ⟨z5, hz5⟩ : ∃ z, z = decide (xa.fmod xb < 0) := ⟨_, rfl⟩
  have HZ2 := Lib.hid (And.intro hz3 (And.intro hz4 hz5))
  clear hz3 hz4 hz5
  have HV := Lib.hid (And.intro hxa hxb)
  have HZ := Lib.hid (And.intro hz1 (And.intro hz2 (show True from trivial)))
  clear hxa hxb hz1 hz2
  have X0 := env2 w (.bool p1) (.slice A1 n1 c1) (.bool p2) (.slice A2 n2 c2)
  have HT := Lib.hid ht
  clear ht
  go_enter Tryd.func6, Tryd.ntmps6
  go_wp2_with fail
  have hw1 : ((w.alloc (.cells #[.bool p1, .slice A1 n1 c1] 25)).alloc (.cells #[.bool p2, .slice A2 n2 c2] 25)).heap.size = w.heap.size + 1 + 1 := by simp only [World.size_alloc]
  generalize hB0 : w.heap.size = B0 at X0 hw1 ⊢
  have HSZ := Lib.hid (Nat.le_of_eq hB0)
  clear hB0
  generalize (w.alloc (.cells #[.bool p1, .slice A1 n1 c1] 25)).alloc (.cells #[.bool p2, .slice A2 n2 c2] 25) = w1 at X0 hw1 ⊢
  have HX := Lib.hid X0
  have HW1 := Lib.hid hw1
  clear X0 hw1
  refine (long_any p1 A1 n1 c1 _).mono ?_
  rintro e w2 ⟨rfl, k2⟩
  rw [show decide (60 < n1) = false from decide_eq_false (by omega)]
  have HX1 := Lib.hid (HX.out.keep k2)
  clear HX k2
  have HX := Lib.hid HX1.out
  clear HX1
  obtain ⟨s0, s1, sl⟩ := HX.out.cells (.head _)
  obtain ⟨r0, r1, rl⟩ := HX.out.cells (.tail _ (.head _))
  try dsimp only
  go_wp2_with fail
  clear s0 s1 sl r0 r1 rl
  refine (long_any p2 A2 n2 c2 _).mono ?_
  rintro e w2 ⟨rfl, k2⟩
  rw [show decide (60 < n2) = false from decide_eq_false (by omega)]
  have HX1 := Lib.hid (HX.out.keep k2)
  clear HX k2
  have HX := Lib.hid HX1.out
  clear HX1
  obtain ⟨s0, s1, sl⟩ := HX.out.cells (.head _)
  obtain ⟨r0, r1, rl⟩ := HX.out.cells (.tail _ (.head _))
  try dsimp only
  go_wp2_with fail
  clear s0 s1 sl r0 r1 rl
  have CP1 := Lib.hid (fun (w' : World) (K' : Keep (fun _ => False) w2 w') => copy_any p1 A1 n1 c1 l1 w' (HL.out.1.keep0 (HX.out.k.trans K')))
  have CP2 := Lib.hid (fun (w' : World) (K' : Keep (fun _ => False) w2 w') => copy_any p2 A2 n2 c2 l2 w' (HL.out.2.keep0 (HX.out.k.trans K')))
  have Kd : Keep (fun _ => False) w2 w2.drew := (Keep.refl _ _).drew
  obtain ⟨s0, s1, sl⟩ := HX.out.cells (.head _)
  obtain ⟨r0, r1, rl⟩ := HX.out.cells (.tail _ (.head _))
  have HLO := Lib.hid (And.intro HL.out.1.low (And.intro HL.out.2.low (And.intro HL.out.1.len HL.out.2.len)))
  go_cut [5, 6] (fun v5 v6 wx => ∃ (B5 B6 : Nat) (A5 : Option Addr) (n5 c5 : Nat) (A6 : Option Addr) (n6 c6 : Nat), v5 = .pointer (some ⟨B5, 0, none⟩) ∧ v6 = .pointer (some ⟨B6, 0, none⟩) ∧ n5 ≤ 60 ∧ n6 ≤ 60 ∧ Env w [(B6, .bool p2, .slice A6 n6 c6), (B5, .bool p1, .slice A5 n5 c5), (B0 + 1, .bool p2, .slice A2 n2 c2), (B0, .bool p1, .slice A1 n1 c1)] [(A6, n6, c6, l2), (A5, n5, c5, l1)] wx)
  case first =>
    have HCC := Lib.hid (fun (w' : World) (K' : Keep (fun _ => False) w2 w') => (show w'.cell? ⟨B0, 0, none⟩ = some (.bool p1) ∧ w'.cell? ⟨B0, 1, none⟩ = some (.slice A1 n1 c1) ∧ w'.cell? ⟨B0 + 1, 0, none⟩ = some (.bool p2) ∧ w'.cell? ⟨B0 + 1, 1, none⟩ = some (.slice A2 n2 c2) from by
      obtain ⟨ra, rb, _⟩ := (HX.out.keep K').cells (.tail _ (.head _))
      obtain ⟨sa, sb, _⟩ := (HX.out.keep K').cells (.head _)
      exact ⟨ra, rb, sa, sb⟩))
    refine wp_region_held_drew (S := fun w' => w'.cell? ⟨B0, 0, none⟩ = some (.bool p1) ∧ w'.cell? ⟨B0, 1, none⟩ = some (.slice A1 n1 c1) ∧ w'.cell? ⟨B0 + 1, 0, none⟩ = some (.bool p2) ∧ w'.cell? ⟨B0 + 1, 1, none⟩ = some (.slice A2 n2 c2)) (by kernel_rfl) (HCC.out _ Kd) (fun hHeld => ?_)
    refine wpAnyH_take (i := 0) (oi := _) (v := ?_) rfl (by kernel_rfl) (by kernel_rfl) (by kernel_rfl) (fun _ _ _ h => h) (Or.inl ⟨by rfl, ?_⟩) (by assumption) ?_
    rotate_left
    · (intro w hSw; (try dsimp only at hSw); go_simp)
      all_goals with_reducible rfl
    refine wpAnyH_take (i := 2) (oi := _) (v := ?_) rfl (by kernel_rfl) (by kernel_rfl) (by kernel_rfl) (fun _ _ _ h => h) (Or.inl ⟨by rfl, ?_⟩) (by assumption) ?_
    rotate_left
    · (intro w hSw; (try dsimp only at hSw); go_simp)
      all_goals with_reducible rfl
    have HX1 := Lib.hid (HX.out.keep Kd)
    clear HX s0 s1 sl r0 r1 rl
    have HX := Lib.hid HX1.out
    clear HX1
    generalize w2.drew = wd at HX Kd hHeld ⊢
    try dsimp only [List.getElem_toArray, List.getElem_cons_succ, List.getElem_cons_zero]
    try simp only [Act.put, List.setIfInBounds_toArray, List.set_cons_zero, List.set_cons_succ]
    refine wpAnyH_ready (rs := [1, 4, 5]) (by kernel_rfl) (by simp) ?_
    refine AllReadyH.cons (o := _) rfl (fun K hK => ?_) (AllReadyH.cons (o := _) rfl (fun K hK => ?_) (AllReadyH.cons (o := _) rfl (fun K hK => ?_) (AllReadyH.nil)))
    · go_simp
      refine (CP1.out _ Kd).mono ?_
      rintro e w_10 ⟨A5, n5, c5, rfl, oo, kk⟩
      have K10 : Keep (fun _ => False) w2 w_10 := Keep.trans Kd kk
      have ln5 : n5 ≤ 60 := by have := oo.len; have := HLO.out.2.2.1; omega
      have HX1 := Lib.hid ((HX.out.keep kk).num (oo.toLimbs HLO.out.1 (by omega)))
      clear HX oo kk
      have HX := Lib.hid HX1.out
      clear HX1
      try dsimp only
      go_wp2_with fail
      refine hK.out _ _ (HCC.out _ K10) (fun hHeld => ?_)
      clear hK K
      try dsimp only [List.getElem_toArray, List.getElem_cons_succ, List.getElem_cons_zero]
      try simp only [Act.put, List.setIfInBounds_toArray, List.set_cons_zero, List.set_cons_succ]
      refine wpAnyH_ready (rs := [3, 4, 5]) (by kernel_rfl) (by simp) ?_
      refine AllReadyH.cons (o := _) rfl (fun K hK => ?_) (AllReadyH.cons (o := _) rfl (fun K hK => ?_) (AllReadyH.cons (o := _) rfl (fun K hK => ?_) (AllReadyH.nil)))
      · go_simp
        refine (CP2.out _ K10).mono ?_
        rintro e w_11 ⟨A6, n6, c6, rfl, oo, kk⟩
        have K11 : Keep (fun _ => False) w2 w_11 := Keep.trans K10 kk
        have ln6 : n6 ≤ 60 := by have := oo.len; have := HLO.out.2.2.2; omega
        have HX1 := Lib.hid ((HX.out.keep kk).num (oo.toLimbs HLO.out.2.1 (by omega)))
        clear HX oo kk
        have HX := Lib.hid HX1.out
        clear HX1
        try dsimp only
        go_wp2_with fail
        refine hK.out _ _ (HCC.out _ K11) (fun hHeld => ?_)
        clear hK K
        try dsimp only [List.getElem_toArray, List.getElem_cons_succ, List.getElem_cons_zero]
        try simp only [Act.put, List.setIfInBounds_toArray, List.set_cons_zero, List.set_cons_succ]
        refine wpAnyH_ready (rs := [4, 5]) (by kernel_rfl) (by simp) ?_
        refine AllReadyH.cons (o := _) rfl (fun K hK => ?_) (AllReadyH.cons (o := _) rfl (fun K hK => ?_) (AllReadyH.nil))
        · go_simp
          have HLTB5 := Lib.hid (show B0 < w_11.heap.size ∧ B0 + 1 < w_11.heap.size ∧ w2.heap.size ≤ w_11.heap.size from ⟨(HX.out.cells (.tail _ (.head _))).2.2, (HX.out.cells (.head _)).2.2, K11.size⟩)
          have K12 : Keep (fun _ => False) w2 (w_11.alloc (.cells #[.bool false, .slice none 0 0] 25)) := K11.alloc _
          have HX1 := Lib.hid (HX.out.box (.bool false) (.slice none 0 0))
          clear HX
          have HX := Lib.hid HX1.out
          clear HX1
          refine hK.out _ _ (HCC.out _ K12) (fun hHeld => ?_)
          clear hK K
          generalize w_11.heap.size = B5 at HX HLTB5 hHeld ⊢
          generalize w_11.alloc (.cells #[.bool false, .slice none 0 0] 25) = w_12 at HX K12 hHeld ⊢
          try dsimp only [List.getElem_toArray, List.getElem_cons_succ, List.getElem_cons_zero]
          try simp only [Act.put, List.setIfInBounds_toArray, List.set_cons_zero, List.set_cons_succ]
          refine wpAnyH_ready (rs := [5]) (by kernel_rfl) (by simp) ?_
          refine AllReadyH.cons (o := _) rfl (fun K hK => ?_) (AllReadyH.nil)
          · go_simp
            have HLTB6 := Lib.hid (show B0 < w_12.heap.size ∧ B0 + 1 < w_12.heap.size ∧ w2.heap.size ≤ w_12.heap.size ∧ B5 < w_12.heap.size from ⟨(HX.out.cells (.tail _ (.tail _ (.head _)))).2.2, (HX.out.cells (.tail _ (.head _))).2.2, K12.size, (HX.out.cells (.head _)).2.2⟩)
            have K13 : Keep (fun _ => False) w2 (w_12.alloc (.cells #[.bool false, .slice none 0 0] 25)) := K12.alloc _
            have HX1 := Lib.hid (HX.out.box (.bool false) (.slice none 0 0))
            clear HX
            have HX := Lib.hid HX1.out
            clear HX1
            refine hK.out _ _ (HCC.out _ K13) (fun hHeld => ?_)
            clear hK K
            generalize w_12.heap.size = B6 at HX HLTB6 hHeld ⊢
            generalize w_12.alloc (.cells #[.bool false, .slice none 0 0] 25) = w_13 at HX K13 hHeld ⊢
            try dsimp only [List.getElem_toArray, List.getElem_cons_succ, List.getElem_cons_zero]
            try simp only [Act.put, List.setIfInBounds_toArray, List.set_cons_zero, List.set_cons_succ]
            refine wpAnyH_ready (rs := [6]) (by kernel_rfl) (by simp) ?_
            refine AllReadyH.cons (o := _) rfl (fun K hK => ?_) (AllReadyH.nil)
            · skip
              obtain ⟨d0, d1, dl⟩ := HX.out.cells (.tail _ (.head _))
              obtain ⟨f0, f1⟩ := HX.out.frozen (.tail _ (.head _))
              go_simp
              clear d0 d1 dl f0 f1
              have K14 : Keep (fun _ => False) w2 ((w_13.setCell ⟨B5, 0, none⟩ (.bool p1)).setCell ⟨B5, 1, none⟩ (.slice A5 n5 c5)) := two_keep K13 (by have := HLTB5.out; omega) _ _
              have HX1 := Lib.hid (HX.out.set (bs' := [(B6, .bool false, .slice none 0 0), (B0 + 1, .bool p2, .slice A2 n2 c2), (B0, .bool p1, .slice A1 n1 c1)]) (.tail _ (.head _)) (by have := HLTB5.out; have := HX.out.k.size; have := HSZ.out; omega) (List.forall_mem_cons.2 ⟨⟨(.head _), by dsimp only; have := HLTB5.out; have := HLTB6.out; omega⟩, (List.forall_mem_cons.2 ⟨⟨(.tail _ (.tail _ (.head _))), by dsimp only; have := HLTB5.out; have := HLTB6.out; omega⟩, (List.forall_mem_cons.2 ⟨⟨(.tail _ (.tail _ (.tail _ (.head _)))), by dsimp only; have := HLTB5.out; have := HLTB6.out; omega⟩, (fun _ h => by cases h)⟩)⟩)⟩) (.bool p1) (.slice A5 n5 c5))
              clear HX
              have HX := Lib.hid HX1.out
              clear HX1
              refine hK.out _ _ (HCC.out _ K14) (fun hHeld => ?_)
              clear hK K
              generalize (w_13.setCell ⟨B5, 0, none⟩ (.bool p1)).setCell ⟨B5, 1, none⟩ (.slice A5 n5 c5) = w_14 at HX K14 hHeld ⊢
              try dsimp only [List.getElem_toArray, List.getElem_cons_succ, List.getElem_cons_zero]
              try simp only [Act.put, List.setIfInBounds_toArray, List.set_cons_zero, List.set_cons_succ]
              refine wpAnyH_ready (rs := [7]) (by kernel_rfl) (by simp) ?_
              refine AllReadyH.cons (o := _) rfl (fun K hK => ?_) (AllReadyH.nil)
              · skip
                obtain ⟨d0, d1, dl⟩ := HX.out.cells (.tail _ (.head _))
                obtain ⟨f0, f1⟩ := HX.out.frozen (.tail _ (.head _))
                go_simp
                clear d0 d1 dl f0 f1
                have K15 : Keep (fun _ => False) w2 ((w_14.setCell ⟨B6, 0, none⟩ (.bool p2)).setCell ⟨B6, 1, none⟩ (.slice A6 n6 c6)) := two_keep K14 (by have := HLTB6.out; omega) _ _
                have HX1 := Lib.hid (HX.out.set (bs' := [(B5, .bool p1, .slice A5 n5 c5), (B0 + 1, .bool p2, .slice A2 n2 c2), (B0, .bool p1, .slice A1 n1 c1)]) (.tail _ (.head _)) (by have := HLTB6.out; have := HX.out.k.size; have := HSZ.out; omega) (List.forall_mem_cons.2 ⟨⟨(.head _), by dsimp only; have := HLTB5.out; have := HLTB6.out; omega⟩, (List.forall_mem_cons.2 ⟨⟨(.tail _ (.tail _ (.head _))), by dsimp only; have := HLTB5.out; have := HLTB6.out; omega⟩, (List.forall_mem_cons.2 ⟨⟨(.tail _ (.tail _ (.tail _ (.head _)))), by dsimp only; have := HLTB5.out; have := HLTB6.out; omega⟩, (fun _ h => by cases h)⟩)⟩)⟩) (.bool p2) (.slice A6 n6 c6))
                clear HX
                have HX := Lib.hid HX1.out
                clear HX1
                refine hK.out _ _ (HCC.out _ K15) (fun hHeld => ?_)
                clear hK K
                generalize (w_14.setCell ⟨B6, 0, none⟩ (.bool p2)).setCell ⟨B6, 1, none⟩ (.slice A6 n6 c6) = w_15 at HX K15 hHeld ⊢
                try dsimp only [List.getElem_toArray, List.getElem_cons_succ, List.getElem_cons_zero]
                try simp only [Act.put, List.setIfInBounds_toArray, List.set_cons_zero, List.set_cons_succ]
                refine wpAnyH_done (by kernel_rfl) ?_ _
                go_wp2_with fail
                go_meet
                exact ⟨B5, B6, A5, n5, c5, A6, n6, c6, rfl, rfl, ln5, ln6, HX.out⟩
        · go_simp
          have HLTB6 := Lib.hid (show B0 < w_11.heap.size ∧ B0 + 1 < w_11.heap.size ∧ w2.heap.size ≤ w_11.heap.size from ⟨(HX.out.cells (.tail _ (.head _))).2.2, (HX.out.cells (.head _)).2.2, K11.size⟩)
          have K12 : Keep (fun _ => False) w2 (w_11.alloc (.cells #[.bool false, .slice none 0 0] 25)) := K11.alloc _
          have HX1 := Lib.hid (HX.out.box (.bool false) (.slice none 0 0))
          clear HX
          have HX := Lib.hid HX1.out
          clear HX1
          refine hK.out _ _ (HCC.out _ K12) (fun hHeld => ?_)
          clear hK K
          generalize w_11.heap.size = B6 at HX HLTB6 hHeld ⊢
          generalize w_11.alloc (.cells #[.bool false, .slice none 0 0] 25) = w_12 at HX K12 hHeld ⊢
          try dsimp only [List.getElem_toArray, List.getElem_cons_succ, List.getElem_cons_zero]
          try simp only [Act.put, List.setIfInBounds_toArray, List.set_cons_zero, List.set_cons_succ]
          refine wpAnyH_ready (rs := [4]) (by kernel_rfl) (by simp) ?_
          refine AllReadyH.cons (o := _) rfl (fun K hK => ?_) (AllReadyH.nil)
          · go_simp
            have HLTB5 := Lib.hid (show B0 < w_12.heap.size ∧ B0 + 1 < w_12.heap.size ∧ w2.heap.size ≤ w_12.heap.size ∧ B6 < w_12.heap.size from ⟨(HX.out.cells (.tail _ (.tail _ (.head _)))).2.2, (HX.out.cells (.tail _ (.head _))).2.2, K12.size, (HX.out.cells (.head _)).2.2⟩)
            have K13 : Keep (fun _ => False) w2 (w_12.alloc (.cells #[.bool false, .slice none 0 0] 25)) := K12.alloc _
            have HX1 := Lib.hid (HX.out.box (.bool false) (.slice none 0 0))
            clear HX
            have HX := Lib.hid HX1.out
            clear HX1
            refine hK.out _ _ (HCC.out _ K13) (fun hHeld => ?_)
            clear hK K
            generalize w_12.heap.size = B5 at HX HLTB5 hHeld ⊢
            generalize w_12.alloc (.cells #[.bool false, .slice none 0 0] 25) = w_13 at HX K13 hHeld ⊢
            try dsimp only [List.getElem_toArray, List.getElem_cons_succ, List.getElem_cons_zero]
            try simp only [Act.put, List.setIfInBounds_toArray, List.set_cons_zero, List.set_cons_succ]
            refine wpAnyH_ready (rs := [6]) (by kernel_rfl) (by simp) ?_
            refine AllReadyH.cons (o := _) rfl (fun K hK => ?_) (AllReadyH.nil)
            · skip
              obtain ⟨d0, d1, dl⟩ := HX.out.cells (.head _)
              obtain ⟨f0, f1⟩ := HX.out.frozen (.head _)
              go_simp
              clear d0 d1 dl f0 f1
              have K14 : Keep (fun _ => False) w2 ((w_13.setCell ⟨B5, 0, none⟩ (.bool p1)).setCell ⟨B5, 1, none⟩ (.slice A5 n5 c5)) := two_keep K13 (by have := HLTB5.out; omega) _ _
              have HX1 := Lib.hid (HX.out.set (bs' := [(B6, .bool false, .slice none 0 0), (B0 + 1, .bool p2, .slice A2 n2 c2), (B0, .bool p1, .slice A1 n1 c1)]) (.head _) (by have := HLTB5.out; have := HX.out.k.size; have := HSZ.out; omega) (List.forall_mem_cons.2 ⟨⟨(.tail _ (.head _)), by dsimp only; have := HLTB5.out; have := HLTB6.out; omega⟩, (List.forall_mem_cons.2 ⟨⟨(.tail _ (.tail _ (.head _))), by dsimp only; have := HLTB5.out; have := HLTB6.out; omega⟩, (List.forall_mem_cons.2 ⟨⟨(.tail _ (.tail _ (.tail _ (.head _)))), by dsimp only; have := HLTB5.out; have := HLTB6.out; omega⟩, (fun _ h => by cases h)⟩)⟩)⟩) (.bool p1) (.slice A5 n5 c5))
              clear HX
              have HX := Lib.hid HX1.out
              clear HX1
              refine hK.out _ _ (HCC.out _ K14) (fun hHeld => ?_)
              clear hK K
              generalize (w_13.setCell ⟨B5, 0, none⟩ (.bool p1)).setCell ⟨B5, 1, none⟩ (.slice A5 n5 c5) = w_14 at HX K14 hHeld ⊢
              try dsimp only [List.getElem_toArray, List.getElem_cons_succ, List.getElem_cons_zero]
              try simp only [Act.put, List.setIfInBounds_toArray, List.set_cons_zero, List.set_cons_succ]
              refine wpAnyH_ready (rs := [7]) (by kernel_rfl) (by simp) ?_
              refine AllReadyH.cons (o := _) rfl (fun K hK => ?_) (AllReadyH.nil)
              · skip
                obtain ⟨d0, d1, dl⟩ := HX.out.cells (.tail _ (.head _))
                obtain ⟨f0, f1⟩ := HX.out.frozen (.tail _ (.head _))
                go_simp
                clear d0 d1 dl f0 f1
                have K15 : Keep (fun _ => False) w2 ((w_14.setCell ⟨B6, 0, none⟩ (.bool p2)).setCell ⟨B6, 1, none⟩ (.slice A6 n6 c6)) := two_keep K14 (by have := HLTB6.out; omega) _ _
                have HX1 := Lib.hid (HX.out.set (bs' := [(B5, .bool p1, .slice A5 n5 c5), (B0 + 1, .bool p2, .slice A2 n2 c2), (B0, .bool p1, .slice A1 n1 c1)]) (.tail _ (.head _)) (by have := HLTB6.out; have := HX.out.k.size; have := HSZ.out; omega) (List.forall_mem_cons.2 ⟨⟨(.head _), by dsimp only; have := HLTB5.out; have := HLTB6.out; omega⟩, (List.forall_mem_cons.2 ⟨⟨(.tail _ (.tail _ (.head _))), by dsimp only; have := HLTB5.out; have := HLTB6.out; omega⟩, (List.forall_mem_cons.2 ⟨⟨(.tail _ (.tail _ (.tail _ (.head _)))), by dsimp only; have := HLTB5.out; have := HLTB6.out; omega⟩, (fun _ h => by cases h)⟩)⟩)⟩) (.bool p2) (.slice A6 n6 c6))
                clear HX
                have HX := Lib.hid HX1.out
                clear HX1
                refine hK.out _ _ (HCC.out _ K15) (fun hHeld => ?_)
                clear hK K
                generalize (w_14.setCell ⟨B6, 0, none⟩ (.bool p2)).setCell ⟨B6, 1, none⟩ (.slice A6 n6 c6) = w_15 at HX K15 hHeld ⊢
                try dsimp only [List.getElem_toArray, List.getElem_cons_succ, List.getElem_cons_zero]
                try simp only [Act.put, List.setIfInBounds_toArray, List.set_cons_zero, List.set_cons_succ]
                refine wpAnyH_done (by kernel_rfl) ?_ _
                go_wp2_with fail
                go_meet
                exact ⟨B5, B6, A5, n5, c5, A6, n6, c6, rfl, rfl, ln5, ln6, HX.out⟩
      · go_simp
        have HLTB5 := Lib.hid (show B0 < w_10.heap.size ∧ B0 + 1 < w_10.heap.size ∧ w2.heap.size ≤ w_10.heap.size from ⟨(HX.out.cells (.tail _ (.head _))).2.2, (HX.out.cells (.head _)).2.2, K10.size⟩)
        have K11 : Keep (fun _ => False) w2 (w_10.alloc (.cells #[.bool false, .slice none 0 0] 25)) := K10.alloc _
        have HX1 := Lib.hid (HX.out.box (.bool false) (.slice none 0 0))
        clear HX
        have HX := Lib.hid HX1.out
        clear HX1
        refine hK.out _ _ (HCC.out _ K11) (fun hHeld => ?_)
        clear hK K
        generalize w_10.heap.size = B5 at HX HLTB5 hHeld ⊢
        generalize w_10.alloc (.cells #[.bool false, .slice none 0 0] 25) = w_11 at HX K11 hHeld ⊢
        try dsimp only [List.getElem_toArray, List.getElem_cons_succ, List.getElem_cons_zero]
        try simp only [Act.put, List.setIfInBounds_toArray, List.set_cons_zero, List.set_cons_succ]
        refine wpAnyH_ready (rs := [3, 5]) (by kernel_rfl) (by simp) ?_
        refine AllReadyH.cons (o := _) rfl (fun K hK => ?_) (AllReadyH.cons (o := _) rfl (fun K hK => ?_) (AllReadyH.nil))
        · go_simp
          refine (CP2.out _ K11).mono ?_
          rintro e w_12 ⟨A6, n6, c6, rfl, oo, kk⟩
          have K12 : Keep (fun _ => False) w2 w_12 := Keep.trans K11 kk
          have ln6 : n6 ≤ 60 := by have := oo.len; have := HLO.out.2.2.2; omega
          have HX1 := Lib.hid ((HX.out.keep kk).num (oo.toLimbs HLO.out.2.1 (by omega)))
          clear HX oo kk
          have HX := Lib.hid HX1.out
          clear HX1
          try dsimp only
          go_wp2_with fail
          refine hK.out _ _ (HCC.out _ K12) (fun hHeld => ?_)
          clear hK K
          try dsimp only [List.getElem_toArray, List.getElem_cons_succ, List.getElem_cons_zero]
          try simp only [Act.put, List.setIfInBounds_toArray, List.set_cons_zero, List.set_cons_succ]
          refine wpAnyH_ready (rs := [5]) (by kernel_rfl) (by simp) ?_
          refine AllReadyH.cons (o := _) rfl (fun K hK => ?_) (AllReadyH.nil)
          · go_simp
            have HLTB6 := Lib.hid (show B0 < w_12.heap.size ∧ B0 + 1 < w_12.heap.size ∧ w2.heap.size ≤ w_12.heap.size ∧ B5 < w_12.heap.size from ⟨(HX.out.cells (.tail _ (.tail _ (.head _)))).2.2, (HX.out.cells (.tail _ (.head _))).2.2, K12.size, (HX.out.cells (.head _)).2.2⟩)
            have K13 : Keep (fun _ => False) w2 (w_12.alloc (.cells #[.bool false, .slice none 0 0] 25)) := K12.alloc _
            have HX1 := Lib.hid (HX.out.box (.bool false) (.slice none 0 0))
            clear HX
            have HX := Lib.hid HX1.out
            clear HX1
            refine hK.out _ _ (HCC.out _ K13) (fun hHeld => ?_)
            clear hK K
            generalize w_12.heap.size = B6 at HX HLTB6 hHeld ⊢
            generalize w_12.alloc (.cells #[.bool false, .slice none 0 0] 25) = w_13 at HX K13 hHeld ⊢
            try dsimp only [List.getElem_toArray, List.getElem_cons_succ, List.getElem_cons_zero]
            try simp only [Act.put, List.setIfInBounds_toArray, List.set_cons_zero, List.set_cons_succ]
            refine wpAnyH_ready (rs := [6]) (by kernel_rfl) (by simp) ?_
            refine AllReadyH.cons (o := _) rfl (fun K hK => ?_) (AllReadyH.nil)
            · skip
              obtain ⟨d0, d1, dl⟩ := HX.out.cells (.tail _ (.head _))
              obtain ⟨f0, f1⟩ := HX.out.frozen (.tail _ (.head _))
              go_simp
              clear d0 d1 dl f0 f1
              have K14 : Keep (fun _ => False) w2 ((w_13.setCell ⟨B5, 0, none⟩ (.bool p1)).setCell ⟨B5, 1, none⟩ (.slice A5 n5 c5)) := two_keep K13 (by have := HLTB5.out; omega) _ _
              have HX1 := Lib.hid (HX.out.set (bs' := [(B6, .bool false, .slice none 0 0), (B0 + 1, .bool p2, .slice A2 n2 c2), (B0, .bool p1, .slice A1 n1 c1)]) (.tail _ (.head _)) (by have := HLTB5.out; have := HX.out.k.size; have := HSZ.out; omega) (List.forall_mem_cons.2 ⟨⟨(.head _), by dsimp only; have := HLTB5.out; have := HLTB6.out; omega⟩, (List.forall_mem_cons.2 ⟨⟨(.tail _ (.tail _ (.head _))), by dsimp only; have := HLTB5.out; have := HLTB6.out; omega⟩, (List.forall_mem_cons.2 ⟨⟨(.tail _ (.tail _ (.tail _ (.head _)))), by dsimp only; have := HLTB5.out; have := HLTB6.out; omega⟩, (fun _ h => by cases h)⟩)⟩)⟩) (.bool p1) (.slice A5 n5 c5))
              clear HX
              have HX := Lib.hid HX1.out
              clear HX1
              refine hK.out _ _ (HCC.out _ K14) (fun hHeld => ?_)
              clear hK K
              generalize (w_13.setCell ⟨B5, 0, none⟩ (.bool p1)).setCell ⟨B5, 1, none⟩ (.slice A5 n5 c5) = w_14 at HX K14 hHeld ⊢
              try dsimp only [List.getElem_toArray, List.getElem_cons_succ, List.getElem_cons_zero]
              try simp only [Act.put, List.setIfInBounds_toArray, List.set_cons_zero, List.set_cons_succ]
              refine wpAnyH_ready (rs := [7]) (by kernel_rfl) (by simp) ?_
              refine AllReadyH.cons (o := _) rfl (fun K hK => ?_) (AllReadyH.nil)
              · skip
                obtain ⟨d0, d1, dl⟩ := HX.out.cells (.tail _ (.head _))
                obtain ⟨f0, f1⟩ := HX.out.frozen (.tail _ (.head _))
                go_simp
                clear d0 d1 dl f0 f1
                have K15 : Keep (fun _ => False) w2 ((w_14.setCell ⟨B6, 0, none⟩ (.bool p2)).setCell ⟨B6, 1, none⟩ (.slice A6 n6 c6)) := two_keep K14 (by have := HLTB6.out; omega) _ _
                have HX1 := Lib.hid (HX.out.set (bs' := [(B5, .bool p1, .slice A5 n5 c5), (B0 + 1, .bool p2, .slice A2 n2 c2), (B0, .bool p1, .slice A1 n1 c1)]) (.tail _ (.head _)) (by have := HLTB6.out; have := HX.out.k.size; have := HSZ.out; omega) (List.forall_mem_cons.2 ⟨⟨(.head _), by dsimp only; have := HLTB5.out; have := HLTB6.out; omega⟩, (List.forall_mem_cons.2 ⟨⟨(.tail _ (.tail _ (.head _))), by dsimp only; have := HLTB5.out; have := HLTB6.out; omega⟩, (List.forall_mem_cons.2 ⟨⟨(.tail _ (.tail _ (.tail _ (.head _)))), by dsimp only; have := HLTB5.out; have := HLTB6.out; omega⟩, (fun _ h => by cases h)⟩)⟩)⟩) (.bool p2) (.slice A6 n6 c6))
                clear HX
                have HX := Lib.hid HX1.out
                clear HX1
                refine hK.out _ _ (HCC.out _ K15) (fun hHeld => ?_)
                clear hK K
                generalize (w_14.setCell ⟨B6, 0, none⟩ (.bool p2)).setCell ⟨B6, 1, none⟩ (.slice A6 n6 c6) = w_15 at HX K15 hHeld ⊢
                try dsimp only [List.getElem_toArray, List.getElem_cons_succ, List.getElem_cons_zero]
                try simp only [Act.put, List.setIfInBounds_toArray, List.set_cons_zero, List.set_cons_succ]
                refine wpAnyH_done (by kernel_rfl) ?_ _
                go_wp2_with fail
                go_meet
                exact ⟨B5, B6, A5, n5, c5, A6, n6, c6, rfl, rfl, ln5, ln6, HX.out⟩
        · go_simp
          have HLTB6 := Lib.hid (show B0 < w_11.heap.size ∧ B0 + 1 < w_11.heap.size ∧ w2.heap.size ≤ w_11.heap.size ∧ B5 < w_11.heap.size from ⟨(HX.out.cells (.tail _ (.tail _ (.head _)))).2.2, (HX.out.cells (.tail _ (.head _))).2.2, K11.size, (HX.out.cells (.head _)).2.2⟩)
          have K12 : Keep (fun _ => False) w2 (w_11.alloc (.cells #[.bool false, .slice none 0 0] 25)) := K11.alloc _
          have HX1 := Lib.hid (HX.out.box (.bool false) (.slice none 0 0))
          clear HX
          have HX := Lib.hid HX1.out
          clear HX1
          refine hK.out _ _ (HCC.out _ K12) (fun hHeld => ?_)
          clear hK K
          generalize w_11.heap.size = B6 at HX HLTB6 hHeld ⊢
          generalize w_11.alloc (.cells #[.bool false, .slice none 0 0] 25) = w_12 at HX K12 hHeld ⊢
          try dsimp only [List.getElem_toArray, List.getElem_cons_succ, List.getElem_cons_zero]
          try simp only [Act.put, List.setIfInBounds_toArray, List.set_cons_zero, List.set_cons_succ]
          refine wpAnyH_ready (rs := [3]) (by kernel_rfl) (by simp) ?_
          refine AllReadyH.cons (o := _) rfl (fun K hK => ?_) (AllReadyH.nil)
          · go_simp
            refine (CP2.out _ K12).mono ?_
            rintro e w_13 ⟨A6, n6, c6, rfl, oo, kk⟩
            have K13 : Keep (fun _ => False) w2 w_13 := Keep.trans K12 kk
            have ln6 : n6 ≤ 60 := by have := oo.len; have := HLO.out.2.2.2; omega
            have HX1 := Lib.hid ((HX.out.keep kk).num (oo.toLimbs HLO.out.2.1 (by omega)))
            clear HX oo kk
            have HX := Lib.hid HX1.out
            clear HX1
            try dsimp only
            go_wp2_with fail
            refine hK.out _ _ (HCC.out _ K13) (fun hHeld => ?_)
            clear hK K
            try dsimp only [List.getElem_toArray, List.getElem_cons_succ, List.getElem_cons_zero]
            try simp only [Act.put, List.setIfInBounds_toArray, List.set_cons_zero, List.set_cons_succ]
            refine wpAnyH_ready (rs := [6]) (by kernel_rfl) (by simp) ?_
            refine AllReadyH.cons (o := _) rfl (fun K hK => ?_) (AllReadyH.nil)
            · skip
              obtain ⟨d0, d1, dl⟩ := HX.out.cells (.tail _ (.head _))
              obtain ⟨f0, f1⟩ := HX.out.frozen (.tail _ (.head _))
              go_simp
              clear d0 d1 dl f0 f1
              have K14 : Keep (fun _ => False) w2 ((w_13.setCell ⟨B5, 0, none⟩ (.bool p1)).setCell ⟨B5, 1, none⟩ (.slice A5 n5 c5)) := two_keep K13 (by have := HLTB5.out; omega) _ _
              have HX1 := Lib.hid (HX.out.set (bs' := [(B6, .bool false, .slice none 0 0), (B0 + 1, .bool p2, .slice A2 n2 c2), (B0, .bool p1, .slice A1 n1 c1)]) (.tail _ (.head _)) (by have := HLTB5.out; have := HX.out.k.size; have := HSZ.out; omega) (List.forall_mem_cons.2 ⟨⟨(.head _), by dsimp only; have := HLTB5.out; have := HLTB6.out; omega⟩, (List.forall_mem_cons.2 ⟨⟨(.tail _ (.tail _ (.head _))), by dsimp only; have := HLTB5.out; have := HLTB6.out; omega⟩, (List.forall_mem_cons.2 ⟨⟨(.tail _ (.tail _ (.tail _ (.head _)))), by dsimp only; have := HLTB5.out; have := HLTB6.out; omega⟩, (fun _ h => by cases h)⟩)⟩)⟩) (.bool p1) (.slice A5 n5 c5))
              clear HX
              have HX := Lib.hid HX1.out
              clear HX1
              refine hK.out _ _ (HCC.out _ K14) (fun hHeld => ?_)
              clear hK K
              generalize (w_13.setCell ⟨B5, 0, none⟩ (.bool p1)).setCell ⟨B5, 1, none⟩ (.slice A5 n5 c5) = w_14 at HX K14 hHeld ⊢
              try dsimp only [List.getElem_toArray, List.getElem_cons_succ, List.getElem_cons_zero]
              try simp only [Act.put, List.setIfInBounds_toArray, List.set_cons_zero, List.set_cons_succ]
              refine wpAnyH_ready (rs := [7]) (by kernel_rfl) (by simp) ?_
              refine AllReadyH.cons (o := _) rfl (fun K hK => ?_) (AllReadyH.nil)
              · skip
                obtain ⟨d0, d1, dl⟩ := HX.out.cells (.tail _ (.head _))
                obtain ⟨f0, f1⟩ := HX.out.frozen (.tail _ (.head _))
                go_simp
                clear d0 d1 dl f0 f1
                have K15 : Keep (fun _ => False) w2 ((w_14.setCell ⟨B6, 0, none⟩ (.bool p2)).setCell ⟨B6, 1, none⟩ (.slice A6 n6 c6)) := two_keep K14 (by have := HLTB6.out; omega) _ _
                have HX1 := Lib.hid (HX.out.set (bs' := [(B5, .bool p1, .slice A5 n5 c5), (B0 + 1, .bool p2, .slice A2 n2 c2), (B0, .bool p1, .slice A1 n1 c1)]) (.tail _ (.head _)) (by have := HLTB6.out; have := HX.out.k.size; have := HSZ.out; omega) (List.forall_mem_cons.2 ⟨⟨(.head _), by dsimp only; have := HLTB5.out; have := HLTB6.out; omega⟩, (List.forall_mem_cons.2 ⟨⟨(.tail _ (.tail _ (.head _))), by dsimp only; have := HLTB5.out; have := HLTB6.out; omega⟩, (List.forall_mem_cons.2 ⟨⟨(.tail _ (.tail _ (.tail _ (.head _)))), by dsimp only; have := HLTB5.out; have := HLTB6.out; omega⟩, (fun _ h => by cases h)⟩)⟩)⟩) (.bool p2) (.slice A6 n6 c6))
                clear HX
                have HX := Lib.hid HX1.out
                clear HX1
                refine hK.out _ _ (HCC.out _ K15) (fun hHeld => ?_)
                clear hK K
                generalize (w_14.setCell ⟨B6, 0, none⟩ (.bool p2)).setCell ⟨B6, 1, none⟩ (.slice A6 n6 c6) = w_15 at HX K15 hHeld ⊢
                try dsimp only [List.getElem_toArray, List.getElem_cons_succ, List.getElem_cons_zero]
                try simp only [Act.put, List.setIfInBounds_toArray, List.set_cons_zero, List.set_cons_succ]
                refine wpAnyH_done (by kernel_rfl) ?_ _
                go_wp2_with fail
                go_meet
                exact ⟨B5, B6, A5, n5, c5, A6, n6, c6, rfl, rfl, ln5, ln6, HX.out⟩
      · go_simp
        have HLTB6 := Lib.hid (show B0 < w_10.heap.size ∧ B0 + 1 < w_10.heap.size ∧ w2.heap.size ≤ w_10.heap.size from ⟨(HX.out.cells (.tail _ (.head _))).2.2, (HX.out.cells (.head _)).2.2, K10.size⟩)
        have K11 : Keep (fun _ => False) w2 (w_10.alloc (.cells #[.bool false, .slice none 0 0] 25)) := K10.alloc _
        have HX1 := Lib.hid (HX.out.box (.bool false) (.slice none 0 0))
        clear HX
        have HX := Lib.hid HX1.out
        clear HX1
        refine hK.out _ _ (HCC.out _ K11) (fun hHeld => ?_)
        clear hK K
        generalize w_10.heap.size = B6 at HX HLTB6 hHeld ⊢
        generalize w_10.alloc (.cells #[.bool false, .slice none 0 0] 25) = w_11 at HX K11 hHeld ⊢
        try dsimp only [List.getElem_toArray, List.getElem_cons_succ, List.getElem_cons_zero]
        try simp only [Act.put, List.setIfInBounds_toArray, List.set_cons_zero, List.set_cons_succ]
        refine wpAnyH_ready (rs := [3, 4]) (by kernel_rfl) (by simp) ?_
        refine AllReadyH.cons (o := _) rfl (fun K hK => ?_) (AllReadyH.cons (o := _) rfl (fun K hK => ?_) (AllReadyH.nil))
        · go_simp
          refine (CP2.out _ K11).mono ?_
          rintro e w_12 ⟨A6, n6, c6, rfl, oo, kk⟩
          have K12 : Keep (fun _ => False) w2 w_12 := Keep.trans K11 kk
          have ln6 : n6 ≤ 60 := by have := oo.len; have := HLO.out.2.2.2; omega
          have HX1 := Lib.hid ((HX.out.keep kk).num (oo.toLimbs HLO.out.2.1 (by omega)))
          clear HX oo kk
          have HX := Lib.hid HX1.out
          clear HX1
          try dsimp only
          go_wp2_with fail
          refine hK.out _ _ (HCC.out _ K12) (fun hHeld => ?_)
          clear hK K
          try dsimp only [List.getElem_toArray, List.getElem_cons_succ, List.getElem_cons_zero]
          try simp only [Act.put, List.setIfInBounds_toArray, List.set_cons_zero, List.set_cons_succ]
          refine wpAnyH_ready (rs := [4]) (by kernel_rfl) (by simp) ?_
          refine AllReadyH.cons (o := _) rfl (fun K hK => ?_) (AllReadyH.nil)
          · go_simp
            have HLTB5 := Lib.hid (show B0 < w_12.heap.size ∧ B0 + 1 < w_12.heap.size ∧ w2.heap.size ≤ w_12.heap.size ∧ B6 < w_12.heap.size from ⟨(HX.out.cells (.tail _ (.tail _ (.head _)))).2.2, (HX.out.cells (.tail _ (.head _))).2.2, K12.size, (HX.out.cells (.head _)).2.2⟩)
            have K13 : Keep (fun _ => False) w2 (w_12.alloc (.cells #[.bool false, .slice none 0 0] 25)) := K12.alloc _
            have HX1 := Lib.hid (HX.out.box (.bool false) (.slice none 0 0))
            clear HX
            have HX := Lib.hid HX1.out
            clear HX1
            refine hK.out _ _ (HCC.out _ K13) (fun hHeld => ?_)
            clear hK K
            generalize w_12.heap.size = B5 at HX HLTB5 hHeld ⊢
            generalize w_12.alloc (.cells #[.bool false, .slice none 0 0] 25) = w_13 at HX K13 hHeld ⊢
            try dsimp only [List.getElem_toArray, List.getElem_cons_succ, List.getElem_cons_zero]
            try simp only [Act.put, List.setIfInBounds_toArray, List.set_cons_zero, List.set_cons_succ]
            refine wpAnyH_ready (rs := [6]) (by kernel_rfl) (by simp) ?_
            refine AllReadyH.cons (o := _) rfl (fun K hK => ?_) (AllReadyH.nil)
            · skip
              obtain ⟨d0, d1, dl⟩ := HX.out.cells (.head _)
              obtain ⟨f0, f1⟩ := HX.out.frozen (.head _)
              go_simp
              clear d0 d1 dl f0 f1
              have K14 : Keep (fun _ => False) w2 ((w_13.setCell ⟨B5, 0, none⟩ (.bool p1)).setCell ⟨B5, 1, none⟩ (.slice A5 n5 c5)) := two_keep K13 (by have := HLTB5.out; omega) _ _
              have HX1 := Lib.hid (HX.out.set (bs' := [(B6, .bool false, .slice none 0 0), (B0 + 1, .bool p2, .slice A2 n2 c2), (B0, .bool p1, .slice A1 n1 c1)]) (.head _) (by have := HLTB5.out; have := HX.out.k.size; have := HSZ.out; omega) (List.forall_mem_cons.2 ⟨⟨(.tail _ (.head _)), by dsimp only; have := HLTB5.out; have := HLTB6.out; omega⟩, (List.forall_mem_cons.2 ⟨⟨(.tail _ (.tail _ (.head _))), by dsimp only; have := HLTB5.out; have := HLTB6.out; omega⟩, (List.forall_mem_cons.2 ⟨⟨(.tail _ (.tail _ (.tail _ (.head _)))), by dsimp only; have := HLTB5.out; have := HLTB6.out; omega⟩, (fun _ h => by cases h)⟩)⟩)⟩) (.bool p1) (.slice A5 n5 c5))
              clear HX
              have HX := Lib.hid HX1.out
              clear HX1
              refine hK.out _ _ (HCC.out _ K14) (fun hHeld => ?_)
              clear hK K
              generalize (w_13.setCell ⟨B5, 0, none⟩ (.bool p1)).setCell ⟨B5, 1, none⟩ (.slice A5 n5 c5) = w_14 at HX K14 hHeld ⊢
              try dsimp only [List.getElem_toArray, List.getElem_cons_succ, List.getElem_cons_zero]
              try simp only [Act.put, List.setIfInBounds_toArray, List.set_cons_zero, List.set_cons_succ]
              refine wpAnyH_ready (rs := [7]) (by kernel_rfl) (by simp) ?_
              refine AllReadyH.cons (o := _) rfl (fun K hK => ?_) (AllReadyH.nil)
              · skip
                obtain ⟨d0, d1, dl⟩ := HX.out.cells (.tail _ (.head _))
                obtain ⟨f0, f1⟩ := HX.out.frozen (.tail _ (.head _))
                go_simp
                clear d0 d1 dl f0 f1
                have K15 : Keep (fun _ => False) w2 ((w_14.setCell ⟨B6, 0, none⟩ (.bool p2)).setCell ⟨B6, 1, none⟩ (.slice A6 n6 c6)) := two_keep K14 (by have := HLTB6.out; omega) _ _
                have HX1 := Lib.hid (HX.out.set (bs' := [(B5, .bool p1, .slice A5 n5 c5), (B0 + 1, .bool p2, .slice A2 n2 c2), (B0, .bool p1, .slice A1 n1 c1)]) (.tail _ (.head _)) (by have := HLTB6.out; have := HX.out.k.size; have := HSZ.out; omega) (List.forall_mem_cons.2 ⟨⟨(.head _), by dsimp only; have := HLTB5.out; have := HLTB6.out; omega⟩, (List.forall_mem_cons.2 ⟨⟨(.tail _ (.tail _ (.head _))), by dsimp only; have := HLTB5.out; have := HLTB6.out; omega⟩, (List.forall_mem_cons.2 ⟨⟨(.tail _ (.tail _ (.tail _ (.head _)))), by dsimp only; have := HLTB5.out; have := HLTB6.out; omega⟩, (fun _ h => by cases h)⟩)⟩)⟩) (.bool p2) (.slice A6 n6 c6))
                clear HX
                have HX := Lib.hid HX1.out
                clear HX1
                refine hK.out _ _ (HCC.out _ K15) (fun hHeld => ?_)
                clear hK K
                generalize (w_14.setCell ⟨B6, 0, none⟩ (.bool p2)).setCell ⟨B6, 1, none⟩ (.slice A6 n6 c6) = w_15 at HX K15 hHeld ⊢
                try dsimp only [List.getElem_toArray, List.getElem_cons_succ, List.getElem_cons_zero]
                try simp only [Act.put, List.setIfInBounds_toArray, List.set_cons_zero, List.set_cons_succ]
                refine wpAnyH_done (by kernel_rfl) ?_ _
                go_wp2_with fail
                go_meet
                exact ⟨B5, B6, A5, n5, c5, A6, n6, c6, rfl, rfl, ln5, ln6, HX.out⟩
        · go_simp
          have HLTB5 := Lib.hid (show B0 < w_11.heap.size ∧ B0 + 1 < w_11.heap.size ∧ w2.heap.size ≤ w_11.heap.size ∧ B6 < w_11.heap.size from ⟨(HX.out.cells (.tail _ (.tail _ (.head _)))).2.2, (HX.out.cells (.tail _ (.head _))).2.2, K11.size, (HX.out.cells (.head _)).2.2⟩)
          have K12 : Keep (fun _ => False) w2 (w_11.alloc (.cells #[.bool false, .slice none 0 0] 25)) := K11.alloc _
          have HX1 := Lib.hid (HX.out.box (.bool false) (.slice none 0 0))
          clear HX
          have HX := Lib.hid HX1.out
          clear HX1
          refine hK.out _ _ (HCC.out _ K12) (fun hHeld => ?_)
          clear hK K
          generalize w_11.heap.size = B5 at HX HLTB5 hHeld ⊢
          generalize w_11.alloc (.cells #[.bool false, .slice none 0 0] 25) = w_12 at HX K12 hHeld ⊢
          try dsimp only [List.getElem_toArray, List.getElem_cons_succ, List.getElem_cons_zero]
          try simp only [Act.put, List.setIfInBounds_toArray, List.set_cons_zero, List.set_cons_succ]
          refine wpAnyH_ready (rs := [3]) (by kernel_rfl) (by simp) ?_
          refine AllReadyH.cons (o := _) rfl (fun K hK => ?_) (AllReadyH.nil)
          · go_simp
            refine (CP2.out _ K12).mono ?_
            rintro e w_13 ⟨A6, n6, c6, rfl, oo, kk⟩
            have K13 : Keep (fun _ => False) w2 w_13 := Keep.trans K12 kk
            have ln6 : n6 ≤ 60 := by have := oo.len; have := HLO.out.2.2.2; omega
            have HX1 := Lib.hid ((HX.out.keep kk).num (oo.toLimbs HLO.out.2.1 (by omega)))
            clear HX oo kk
            have HX := Lib.hid HX1.out
            clear HX1
            try dsimp only
            go_wp2_with fail
            refine hK.out _ _ (HCC.out _ K13) (fun hHeld => ?_)
            clear hK K
            try dsimp only [List.getElem_toArray, List.getElem_cons_succ, List.getElem_cons_zero]
            try simp only [Act.put, List.setIfInBounds_toArray, List.set_cons_zero, List.set_cons_succ]
            refine wpAnyH_ready (rs := [6]) (by kernel_rfl) (by simp) ?_
            refine AllReadyH.cons (o := _) rfl (fun K hK => ?_) (AllReadyH.nil)
            · skip
              obtain ⟨d0, d1, dl⟩ := HX.out.cells (.head _)
              obtain ⟨f0, f1⟩ := HX.out.frozen (.head _)
              go_simp
              clear d0 d1 dl f0 f1
              have K14 : Keep (fun _ => False) w2 ((w_13.setCell ⟨B5, 0, none⟩ (.bool p1)).setCell ⟨B5, 1, none⟩ (.slice A5 n5 c5)) := two_keep K13 (by have := HLTB5.out; omega) _ _
              have HX1 := Lib.hid (HX.out.set (bs' := [(B6, .bool false, .slice none 0 0), (B0 + 1, .bool p2, .slice A2 n2 c2), (B0, .bool p1, .slice A1 n1 c1)]) (.head _) (by have := HLTB5.out; have := HX.out.k.size; have := HSZ.out; omega) (List.forall_mem_cons.2 ⟨⟨(.tail _ (.head _)), by dsimp only; have := HLTB5.out; have := HLTB6.out; omega⟩, (List.forall_mem_cons.2 ⟨⟨(.tail _ (.tail _ (.head _))), by dsimp only; have := HLTB5.out; have := HLTB6.out; omega⟩, (List.forall_mem_cons.2 ⟨⟨(.tail _ (.tail _ (.tail _ (.head _)))), by dsimp only; have := HLTB5.out; have := HLTB6.out; omega⟩, (fun _ h => by cases h)⟩)⟩)⟩) (.bool p1) (.slice A5 n5 c5))
              clear HX
              have HX := Lib.hid HX1.out
              clear HX1
              refine hK.out _ _ (HCC.out _ K14) (fun hHeld => ?_)
              clear hK K
              generalize (w_13.setCell ⟨B5, 0, none⟩ (.bool p1)).setCell ⟨B5, 1, none⟩ (.slice A5 n5 c5) = w_14 at HX K14 hHeld ⊢
              try dsimp only [List.getElem_toArray, List.getElem_cons_succ, List.getElem_cons_zero]
              try simp only [Act.put, List.setIfInBounds_toArray, List.set_cons_zero, List.set_cons_succ]
              refine wpAnyH_ready (rs := [7]) (by kernel_rfl) (by simp) ?_
              refine AllReadyH.cons (o := _) rfl (fun K hK => ?_) (AllReadyH.nil)
              · skip
                obtain ⟨d0, d1, dl⟩ := HX.out.cells (.tail _ (.head _))
                obtain ⟨f0, f1⟩ := HX.out.frozen (.tail _ (.head _))
                go_simp
                clear d0 d1 dl f0 f1
                have K15 : Keep (fun _ => False) w2 ((w_14.setCell ⟨B6, 0, none⟩ (.bool p2)).setCell ⟨B6, 1, none⟩ (.slice A6 n6 c6)) := two_keep K14 (by have := HLTB6.out; omega) _ _
                have HX1 := Lib.hid (HX.out.set (bs' := [(B5, .bool p1, .slice A5 n5 c5), (B0 + 1, .bool p2, .slice A2 n2 c2), (B0, .bool p1, .slice A1 n1 c1)]) (.tail _ (.head _)) (by have := HLTB6.out; have := HX.out.k.size; have := HSZ.out; omega) (List.forall_mem_cons.2 ⟨⟨(.head _), by dsimp only; have := HLTB5.out; have := HLTB6.out; omega⟩, (List.forall_mem_cons.2 ⟨⟨(.tail _ (.tail _ (.head _))), by dsimp only; have := HLTB5.out; have := HLTB6.out; omega⟩, (List.forall_mem_cons.2 ⟨⟨(.tail _ (.tail _ (.tail _ (.head _)))), by dsimp only; have := HLTB5.out; have := HLTB6.out; omega⟩, (fun _ h => by cases h)⟩)⟩)⟩) (.bool p2) (.slice A6 n6 c6))
                clear HX
                have HX := Lib.hid HX1.out
                clear HX1
                refine hK.out _ _ (HCC.out _ K15) (fun hHeld => ?_)
                clear hK K
                generalize (w_14.setCell ⟨B6, 0, none⟩ (.bool p2)).setCell ⟨B6, 1, none⟩ (.slice A6 n6 c6) = w_15 at HX K15 hHeld ⊢
                try dsimp only [List.getElem_toArray, List.getElem_cons_succ, List.getElem_cons_zero]
                try simp only [Act.put, List.setIfInBounds_toArray, List.set_cons_zero, List.set_cons_succ]
                refine wpAnyH_done (by kernel_rfl) ?_ _
                go_wp2_with fail
                go_meet
                exact ⟨B5, B6, A5, n5, c5, A6, n6, c6, rfl, rfl, ln5, ln6, HX.out⟩
    · go_simp
      have HLTB5 := Lib.hid (show B0 < wd.heap.size ∧ B0 + 1 < wd.heap.size ∧ w2.heap.size ≤ wd.heap.size from ⟨(HX.out.cells (.tail _ (.head _))).2.2, (HX.out.cells (.head _)).2.2, Kd.size⟩)
      have K10 : Keep (fun _ => False) w2 (wd.alloc (.cells #[.bool false, .slice none 0 0] 25)) := Kd.alloc _
      have HX1 := Lib.hid (HX.out.box (.bool false) (.slice none 0 0))
      clear HX
      have HX := Lib.hid HX1.out
      clear HX1
      refine hK.out _ _ (HCC.out _ K10) (fun hHeld => ?_)
      clear hK K
      generalize wd.heap.size = B5 at HX HLTB5 hHeld ⊢
      generalize wd.alloc (.cells #[.bool false, .slice none 0 0] 25) = w_10 at HX K10 hHeld ⊢
      try dsimp only [List.getElem_toArray, List.getElem_cons_succ, List.getElem_cons_zero]
      try simp only [Act.put, List.setIfInBounds_toArray, List.set_cons_zero, List.set_cons_succ]
      refine wpAnyH_ready (rs := [1, 5]) (by kernel_rfl) (by simp) ?_
      refine AllReadyH.cons (o := _) rfl (fun K hK => ?_) (AllReadyH.cons (o := _) rfl (fun K hK => ?_) (AllReadyH.nil))
      · go_simp
        refine (CP1.out _ K10).mono ?_
        rintro e w_11 ⟨A5, n5, c5, rfl, oo, kk⟩
        have K11 : Keep (fun _ => False) w2 w_11 := Keep.trans K10 kk
        have ln5 : n5 ≤ 60 := by have := oo.len; have := HLO.out.2.2.1; omega
        have HX1 := Lib.hid ((HX.out.keep kk).num (oo.toLimbs HLO.out.1 (by omega)))
        clear HX oo kk
        have HX := Lib.hid HX1.out
        clear HX1
        try dsimp only
        go_wp2_with fail
        refine hK.out _ _ (HCC.out _ K11) (fun hHeld => ?_)
        clear hK K
        try dsimp only [List.getElem_toArray, List.getElem_cons_succ, List.getElem_cons_zero]
        try simp only [Act.put, List.setIfInBounds_toArray, List.set_cons_zero, List.set_cons_succ]
        refine wpAnyH_ready (rs := [3, 5]) (by kernel_rfl) (by simp) ?_
        refine AllReadyH.cons (o := _) rfl (fun K hK => ?_) (AllReadyH.cons (o := _) rfl (fun K hK => ?_) (AllReadyH.nil))
        · go_simp
          refine (CP2.out _ K11).mono ?_
          rintro e w_12 ⟨A6, n6, c6, rfl, oo, kk⟩
          have K12 : Keep (fun _ => False) w2 w_12 := Keep.trans K11 kk
          have ln6 : n6 ≤ 60 := by have := oo.len; have := HLO.out.2.2.2; omega
          have HX1 := Lib.hid ((HX.out.keep kk).num (oo.toLimbs HLO.out.2.1 (by omega)))
          clear HX oo kk
          have HX := Lib.hid HX1.out
          clear HX1
          try dsimp only
          go_wp2_with fail
          refine hK.out _ _ (HCC.out _ K12) (fun hHeld => ?_)
          clear hK K
          try dsimp only [List.getElem_toArray, List.getElem_cons_succ, List.getElem_cons_zero]
          try simp only [Act.put, List.setIfInBounds_toArray, List.set_cons_zero, List.set_cons_succ]
          refine wpAnyH_ready (rs := [5]) (by kernel_rfl) (by simp) ?_
          refine AllReadyH.cons (o := _) rfl (fun K hK => ?_) (AllReadyH.nil)
          · go_simp
            have HLTB6 := Lib.hid (show B0 < w_12.heap.size ∧ B0 + 1 < w_12.heap.size ∧ w2.heap.size ≤ w_12.heap.size ∧ B5 < w_12.heap.size from ⟨(HX.out.cells (.tail _ (.tail _ (.head _)))).2.2, (HX.out.cells (.tail _ (.head _))).2.2, K12.size, (HX.out.cells (.head _)).2.2⟩)
            have K13 : Keep (fun _ => False) w2 (w_12.alloc (.cells #[.bool false, .slice none 0 0] 25)) := K12.alloc _
            have HX1 := Lib.hid (HX.out.box (.bool false) (.slice none 0 0))
            clear HX
            have HX := Lib.hid HX1.out
            clear HX1
            refine hK.out _ _ (HCC.out _ K13) (fun hHeld => ?_)
            clear hK K
            generalize w_12.heap.size = B6 at HX HLTB6 hHeld ⊢
            generalize w_12.alloc (.cells #[.bool false, .slice none 0 0] 25) = w_13 at HX K13 hHeld ⊢
            try dsimp only [List.getElem_toArray, List.getElem_cons_succ, List.getElem_cons_zero]
            try simp only [Act.put, List.setIfInBounds_toArray, List.set_cons_zero, List.set_cons_succ]
            refine wpAnyH_ready (rs := [6]) (by kernel_rfl) (by simp) ?_
            refine AllReadyH.cons (o := _) rfl (fun K hK => ?_) (AllReadyH.nil)
            · skip
              obtain ⟨d0, d1, dl⟩ := HX.out.cells (.tail _ (.head _))
              obtain ⟨f0, f1⟩ := HX.out.frozen (.tail _ (.head _))
              go_simp
              clear d0 d1 dl f0 f1
              have K14 : Keep (fun _ => False) w2 ((w_13.setCell ⟨B5, 0, none⟩ (.bool p1)).setCell ⟨B5, 1, none⟩ (.slice A5 n5 c5)) := two_keep K13 (by have := HLTB5.out; omega) _ _
              have HX1 := Lib.hid (HX.out.set (bs' := [(B6, .bool false, .slice none 0 0), (B0 + 1, .bool p2, .slice A2 n2 c2), (B0, .bool p1, .slice A1 n1 c1)]) (.tail _ (.head _)) (by have := HLTB5.out; have := HX.out.k.size; have := HSZ.out; omega) (List.forall_mem_cons.2 ⟨⟨(.head _), by dsimp only; have := HLTB5.out; have := HLTB6.out; omega⟩, (List.forall_mem_cons.2 ⟨⟨(.tail _ (.tail _ (.head _))), by dsimp only; have := HLTB5.out; have := HLTB6.out; omega⟩, (List.forall_mem_cons.2 ⟨⟨(.tail _ (.tail _ (.tail _ (.head _)))), by dsimp only; have := HLTB5.out; have := HLTB6.out; omega⟩, (fun _ h => by cases h)⟩)⟩)⟩) (.bool p1) (.slice A5 n5 c5))
              clear HX
              have HX := Lib.hid HX1.out
              clear HX1
              refine hK.out _ _ (HCC.out _ K14) (fun hHeld => ?_)
              clear hK K
              generalize (w_13.setCell ⟨B5, 0, none⟩ (.bool p1)).setCell ⟨B5, 1, none⟩ (.slice A5 n5 c5) = w_14 at HX K14 hHeld ⊢
              try dsimp only [List.getElem_toArray, List.getElem_cons_succ, List.getElem_cons_zero]
              try simp only [Act.put, List.setIfInBounds_toArray, List.set_cons_zero, List.set_cons_succ]
              refine wpAnyH_ready (rs := [7]) (by kernel_rfl) (by simp) ?_
              refine AllReadyH.cons (o := _) rfl (fun K hK => ?_) (AllReadyH.nil)
              · skip
                obtain ⟨d0, d1, dl⟩ := HX.out.cells (.tail _ (.head _))
                obtain ⟨f0, f1⟩ := HX.out.frozen (.tail _ (.head _))
                go_simp
                clear d0 d1 dl f0 f1
                have K15 : Keep (fun _ => False) w2 ((w_14.setCell ⟨B6, 0, none⟩ (.bool p2)).setCell ⟨B6, 1, none⟩ (.slice A6 n6 c6)) := two_keep K14 (by have := HLTB6.out; omega) _ _
                have HX1 := Lib.hid (HX.out.set (bs' := [(B5, .bool p1, .slice A5 n5 c5), (B0 + 1, .bool p2, .slice A2 n2 c2), (B0, .bool p1, .slice A1 n1 c1)]) (.tail _ (.head _)) (by have := HLTB6.out; have := HX.out.k.size; have := HSZ.out; omega) (List.forall_mem_cons.2 ⟨⟨(.head _), by dsimp only; have := HLTB5.out; have := HLTB6.out; omega⟩, (List.forall_mem_cons.2 ⟨⟨(.tail _ (.tail _ (.head _))), by dsimp only; have := HLTB5.out; have := HLTB6.out; omega⟩, (List.forall_mem_cons.2 ⟨⟨(.tail _ (.tail _ (.tail _ (.head _)))), by dsimp only; have := HLTB5.out; have := HLTB6.out; omega⟩, (fun _ h => by cases h)⟩)⟩)⟩) (.bool p2) (.slice A6 n6 c6))
                clear HX
                have HX := Lib.hid HX1.out
                clear HX1
                refine hK.out _ _ (HCC.out _ K15) (fun hHeld => ?_)
                clear hK K
                generalize (w_14.setCell ⟨B6, 0, none⟩ (.bool p2)).setCell ⟨B6, 1, none⟩ (.slice A6 n6 c6) = w_15 at HX K15 hHeld ⊢
                try dsimp only [List.getElem_toArray, List.getElem_cons_succ, List.getElem_cons_zero]
                try simp only [Act.put, List.setIfInBounds_toArray, List.set_cons_zero, List.set_cons_succ]
                refine wpAnyH_done (by kernel_rfl) ?_ _
                go_wp2_with fail
                go_meet
                exact ⟨B5, B6, A5, n5, c5, A6, n6, c6, rfl, rfl, ln5, ln6, HX.out⟩
        · go_simp
          have HLTB6 := Lib.hid (show B0 < w_11.heap.size ∧ B0 + 1 < w_11.heap.size ∧ w2.heap.size ≤ w_11.heap.size ∧ B5 < w_11.heap.size from ⟨(HX.out.cells (.tail _ (.tail _ (.head _)))).2.2, (HX.out.cells (.tail _ (.head _))).2.2, K11.size, (HX.out.cells (.head _)).2.2⟩)
          have K12 : Keep (fun _ => False) w2 (w_11.alloc (.cells #[.bool false, .slice none 0 0] 25)) := K11.alloc _
          have HX1 := Lib.hid (HX.out.box (.bool false) (.slice none 0 0))
          clear HX
          have HX := Lib.hid HX1.out
          clear HX1
          refine hK.out _ _ (HCC.out _ K12) (fun hHeld => ?_)
          clear hK K
          generalize w_11.heap.size = B6 at HX HLTB6 hHeld ⊢
          generalize w_11.alloc (.cells #[.bool false, .slice none 0 0] 25) = w_12 at HX K12 hHeld ⊢
          try dsimp only [List.getElem_toArray, List.getElem_cons_succ, List.getElem_cons_zero]
          try simp only [Act.put, List.setIfInBounds_toArray, List.set_cons_zero, List.set_cons_succ]
          refine wpAnyH_ready (rs := [3]) (by kernel_rfl) (by simp) ?_
          refine AllReadyH.cons (o := _) rfl (fun K hK => ?_) (AllReadyH.nil)
          · go_simp
            refine (CP2.out _ K12).mono ?_
            rintro e w_13 ⟨A6, n6, c6, rfl, oo, kk⟩
            have K13 : Keep (fun _ => False) w2 w_13 := Keep.trans K12 kk
            have ln6 : n6 ≤ 60 := by have := oo.len; have := HLO.out.2.2.2; omega
            have HX1 := Lib.hid ((HX.out.keep kk).num (oo.toLimbs HLO.out.2.1 (by omega)))
            clear HX oo kk
            have HX := Lib.hid HX1.out
            clear HX1
            try dsimp only
            go_wp2_with fail
            refine hK.out _ _ (HCC.out _ K13) (fun hHeld => ?_)
            clear hK K
            try dsimp only [List.getElem_toArray, List.getElem_cons_succ, List.getElem_cons_zero]
            try simp only [Act.put, List.setIfInBounds_toArray, List.set_cons_zero, List.set_cons_succ]
            refine wpAnyH_ready (rs := [6]) (by kernel_rfl) (by simp) ?_
            refine AllReadyH.cons (o := _) rfl (fun K hK => ?_) (AllReadyH.nil)
            · skip
              obtain ⟨d0, d1, dl⟩ := HX.out.cells (.tail _ (.head _))
              obtain ⟨f0, f1⟩ := HX.out.frozen (.tail _ (.head _))
              go_simp
              clear d0 d1 dl f0 f1
              have K14 : Keep (fun _ => False) w2 ((w_13.setCell ⟨B5, 0, none⟩ (.bool p1)).setCell ⟨B5, 1, none⟩ (.slice A5 n5 c5)) := two_keep K13 (by have := HLTB5.out; omega) _ _
              have HX1 := Lib.hid (HX.out.set (bs' := [(B6, .bool false, .slice none 0 0), (B0 + 1, .bool p2, .slice A2 n2 c2), (B0, .bool p1, .slice A1 n1 c1)]) (.tail _ (.head _)) (by have := HLTB5.out; have := HX.out.k.size; have := HSZ.out; omega) (List.forall_mem_cons.2 ⟨⟨(.head _), by dsimp only; have := HLTB5.out; have := HLTB6.out; omega⟩, (List.forall_mem_cons.2 ⟨⟨(.tail _ (.tail _ (.head _))), by dsimp only; have := HLTB5.out; have := HLTB6.out; omega⟩, (List.forall_mem_cons.2 ⟨⟨(.tail _ (.tail _ (.tail _ (.head _)))), by dsimp only; have := HLTB5.out; have := HLTB6.out; omega⟩, (fun _ h => by cases h)⟩)⟩)⟩) (.bool p1) (.slice A5 n5 c5))
              clear HX
              have HX := Lib.hid HX1.out
              clear HX1
              refine hK.out _ _ (HCC.out _ K14) (fun hHeld => ?_)
              clear hK K
              generalize (w_13.setCell ⟨B5, 0, none⟩ (.bool p1)).setCell ⟨B5, 1, none⟩ (.slice A5 n5 c5) = w_14 at HX K14 hHeld ⊢
              try dsimp only [List.getElem_toArray, List.getElem_cons_succ, List.getElem_cons_zero]
              try simp only [Act.put, List.setIfInBounds_toArray, List.set_cons_zero, List.set_cons_succ]
              refine wpAnyH_ready (rs := [7]) (by kernel_rfl) (by simp) ?_
              refine AllReadyH.cons (o := _) rfl (fun K hK => ?_) (AllReadyH.nil)
              · skip
                obtain ⟨d0, d1, dl⟩ := HX.out.cells (.tail _ (.head _))
                obtain ⟨f0, f1⟩ := HX.out.frozen (.tail _ (.head _))
                go_simp
                clear d0 d1 dl f0 f1
                have K15 : Keep (fun _ => False) w2 ((w_14.setCell ⟨B6, 0, none⟩ (.bool p2)).setCell ⟨B6, 1, none⟩ (.slice A6 n6 c6)) := two_keep K14 (by have := HLTB6.out; omega) _ _
                have HX1 := Lib.hid (HX.out.set (bs' := [(B5, .bool p1, .slice A5 n5 c5), (B0 + 1, .bool p2, .slice A2 n2 c2), (B0, .bool p1, .slice A1 n1 c1)]) (.tail _ (.head _)) (by have := HLTB6.out; have := HX.out.k.size; have := HSZ.out; omega) (List.forall_mem_cons.2 ⟨⟨(.head _), by dsimp only; have := HLTB5.out; have := HLTB6.out; omega⟩, (List.forall_mem_cons.2 ⟨⟨(.tail _ (.tail _ (.head _))), by dsimp only; have := HLTB5.out; have := HLTB6.out; omega⟩, (List.forall_mem_cons.2 ⟨⟨(.tail _ (.tail _ (.tail _ (.head _)))), by dsimp only; have := HLTB5.out; have := HLTB6.out; omega⟩, (fun _ h => by cases h)⟩)⟩)⟩) (.bool p2) (.slice A6 n6 c6))
                clear HX
                have HX := Lib.hid HX1.out
                clear HX1
                refine hK.out _ _ (HCC.out _ K15) (fun hHeld => ?_)
                clear hK K
                generalize (w_14.setCell ⟨B6, 0, none⟩ (.bool p2)).setCell ⟨B6, 1, none⟩ (.slice A6 n6 c6) = w_15 at HX K15 hHeld ⊢
                try dsimp only [List.getElem_toArray, List.getElem_cons_succ, List.getElem_cons_zero]
                try simp only [Act.put, List.setIfInBounds_toArray, List.set_cons_zero, List.set_cons_succ]
                refine wpAnyH_done (by kernel_rfl) ?_ _
                go_wp2_with fail
                go_meet
                exact ⟨B5, B6, A5, n5, c5, A6, n6, c6, rfl, rfl, ln5, ln6, HX.out⟩
      · go_simp
        have HLTB6 := Lib.hid (show B0 < w_10.heap.size ∧ B0 + 1 < w_10.heap.size ∧ w2.heap.size ≤ w_10.heap.size ∧ B5 < w_10.heap.size from ⟨(HX.out.cells (.tail _ (.tail _ (.head _)))).2.2, (HX.out.cells (.tail _ (.head _))).2.2, K10.size, (HX.out.cells (.head _)).2.2⟩)
        have K11 : Keep (fun _ => False) w2 (w_10.alloc (.cells #[.bool false, .slice none 0 0] 25)) := K10.alloc _
        have HX1 := Lib.hid (HX.out.box (.bool false) (.slice none 0 0))
        clear HX
        have HX := Lib.hid HX1.out
        clear HX1
        refine hK.out _ _ (HCC.out _ K11) (fun hHeld => ?_)
        clear hK K
        generalize w_10.heap.size = B6 at HX HLTB6 hHeld ⊢
        generalize w_10.alloc (.cells #[.bool false, .slice none 0 0] 25) = w_11 at HX K11 hHeld ⊢
        try dsimp only [List.getElem_toArray, List.getElem_cons_succ, List.getElem_cons_zero]
        try simp only [Act.put, List.setIfInBounds_toArray, List.set_cons_zero, List.set_cons_succ]
        refine wpAnyH_ready (rs := [1]) (by kernel_rfl) (by simp) ?_
        refine AllReadyH.cons (o := _) rfl (fun K hK => ?_) (AllReadyH.nil)
        · go_simp
          refine (CP1.out _ K11).mono ?_
          rintro e w_12 ⟨A5, n5, c5, rfl, oo, kk⟩
          have K12 : Keep (fun _ => False) w2 w_12 := Keep.trans K11 kk
          have ln5 : n5 ≤ 60 := by have := oo.len; have := HLO.out.2.2.1; omega
          have HX1 := Lib.hid ((HX.out.keep kk).num (oo.toLimbs HLO.out.1 (by omega)))
          clear HX oo kk
          have HX := Lib.hid HX1.out
          clear HX1
          try dsimp only
          go_wp2_with fail
          refine hK.out _ _ (HCC.out _ K12) (fun hHeld => ?_)
          clear hK K
          try dsimp only [List.getElem_toArray, List.getElem_cons_succ, List.getElem_cons_zero]
          try simp only [Act.put, List.setIfInBounds_toArray, List.set_cons_zero, List.set_cons_succ]
          refine wpAnyH_ready (rs := [3]) (by kernel_rfl) (by simp) ?_
          refine AllReadyH.cons (o := _) rfl (fun K hK => ?_) (AllReadyH.nil)
          · go_simp
            refine (CP2.out _ K12).mono ?_
            rintro e w_13 ⟨A6, n6, c6, rfl, oo, kk⟩
            have K13 : Keep (fun _ => False) w2 w_13 := Keep.trans K12 kk
            have ln6 : n6 ≤ 60 := by have := oo.len; have := HLO.out.2.2.2; omega
            have HX1 := Lib.hid ((HX.out.keep kk).num (oo.toLimbs HLO.out.2.1 (by omega)))
            clear HX oo kk
            have HX := Lib.hid HX1.out
            clear HX1
            try dsimp only
            go_wp2_with fail
            refine hK.out _ _ (HCC.out _ K13) (fun hHeld => ?_)
            clear hK K
            try dsimp only [List.getElem_toArray, List.getElem_cons_succ, List.getElem_cons_zero]
            try simp only [Act.put, List.setIfInBounds_toArray, List.set_cons_zero, List.set_cons_succ]
            refine wpAnyH_ready (rs := [6]) (by kernel_rfl) (by simp) ?_
            refine AllReadyH.cons (o := _) rfl (fun K hK => ?_) (AllReadyH.nil)
            · skip
              obtain ⟨d0, d1, dl⟩ := HX.out.cells (.tail _ (.head _))
              obtain ⟨f0, f1⟩ := HX.out.frozen (.tail _ (.head _))
              go_simp
              clear d0 d1 dl f0 f1
              have K14 : Keep (fun _ => False) w2 ((w_13.setCell ⟨B5, 0, none⟩ (.bool p1)).setCell ⟨B5, 1, none⟩ (.slice A5 n5 c5)) := two_keep K13 (by have := HLTB5.out; omega) _ _
              have HX1 := Lib.hid (HX.out.set (bs' := [(B6, .bool false, .slice none 0 0), (B0 + 1, .bool p2, .slice A2 n2 c2), (B0, .bool p1, .slice A1 n1 c1)]) (.tail _ (.head _)) (by have := HLTB5.out; have := HX.out.k.size; have := HSZ.out; omega) (List.forall_mem_cons.2 ⟨⟨(.head _), by dsimp only; have := HLTB5.out; have := HLTB6.out; omega⟩, (List.forall_mem_cons.2 ⟨⟨(.tail _ (.tail _ (.head _))), by dsimp only; have := HLTB5.out; have := HLTB6.out; omega⟩, (List.forall_mem_cons.2 ⟨⟨(.tail _ (.tail _ (.tail _ (.head _)))), by dsimp only; have := HLTB5.out; have := HLTB6.out; omega⟩, (fun _ h => by cases h)⟩)⟩)⟩) (.bool p1) (.slice A5 n5 c5))
              clear HX
              have HX := Lib.hid HX1.out
              clear HX1
              refine hK.out _ _ (HCC.out _ K14) (fun hHeld => ?_)
              clear hK K
              generalize (w_13.setCell ⟨B5, 0, none⟩ (.bool p1)).setCell ⟨B5, 1, none⟩ (.slice A5 n5 c5) = w_14 at HX K14 hHeld ⊢
              try dsimp only [List.getElem_toArray, List.getElem_cons_succ, List.getElem_cons_zero]
              try simp only [Act.put, List.setIfInBounds_toArray, List.set_cons_zero, List.set_cons_succ]
              refine wpAnyH_ready (rs := [7]) (by kernel_rfl) (by simp) ?_
              refine AllReadyH.cons (o := _) rfl (fun K hK => ?_) (AllReadyH.nil)
              · skip
                obtain ⟨d0, d1, dl⟩ := HX.out.cells (.tail _ (.head _))
                obtain ⟨f0, f1⟩ := HX.out.frozen (.tail _ (.head _))
                go_simp
                clear d0 d1 dl f0 f1
                have K15 : Keep (fun _ => False) w2 ((w_14.setCell ⟨B6, 0, none⟩ (.bool p2)).setCell ⟨B6, 1, none⟩ (.slice A6 n6 c6)) := two_keep K14 (by have := HLTB6.out; omega) _ _
                have HX1 := Lib.hid (HX.out.set (bs' := [(B5, .bool p1, .slice A5 n5 c5), (B0 + 1, .bool p2, .slice A2 n2 c2), (B0, .bool p1, .slice A1 n1 c1)]) (.tail _ (.head _)) (by have := HLTB6.out; have := HX.out.k.size; have := HSZ.out; omega) (List.forall_mem_cons.2 ⟨⟨(.head _), by dsimp only; have := HLTB5.out; have := HLTB6.out; omega⟩, (List.forall_mem_cons.2 ⟨⟨(.tail _ (.tail _ (.head _))), by dsimp only; have := HLTB5.out; have := HLTB6.out; omega⟩, (List.forall_mem_cons.2 ⟨⟨(.tail _ (.tail _ (.tail _ (.head _)))), by dsimp only; have := HLTB5.out; have := HLTB6.out; omega⟩, (fun _ h => by cases h)⟩)⟩)⟩) (.bool p2) (.slice A6 n6 c6))
                clear HX
                have HX := Lib.hid HX1.out
                clear HX1
                refine hK.out _ _ (HCC.out _ K15) (fun hHeld => ?_)
                clear hK K
                generalize (w_14.setCell ⟨B6, 0, none⟩ (.bool p2)).setCell ⟨B6, 1, none⟩ (.slice A6 n6 c6) = w_15 at HX K15 hHeld ⊢
                try dsimp only [List.getElem_toArray, List.getElem_cons_succ, List.getElem_cons_zero]
                try simp only [Act.put, List.setIfInBounds_toArray, List.set_cons_zero, List.set_cons_succ]
                refine wpAnyH_done (by kernel_rfl) ?_ _
                go_wp2_with fail
                go_meet
                exact ⟨B5, B6, A5, n5, c5, A6, n6, c6, rfl, rfl, ln5, ln6, HX.out⟩
    · go_simp
      have HLTB6 := Lib.hid (show B0 < wd.heap.size ∧ B0 + 1 < wd.heap.size ∧ w2.heap.size ≤ wd.heap.size from ⟨(HX.out.cells (.tail _ (.head _))).2.2, (HX.out.cells (.head _)).2.2, Kd.size⟩)
      have K10 : Keep (fun _ => False) w2 (wd.alloc (.cells #[.bool false, .slice none 0 0] 25)) := Kd.alloc _
      have HX1 := Lib.hid (HX.out.box (.bool false) (.slice none 0 0))
      clear HX
      have HX := Lib.hid HX1.out
      clear HX1
      refine hK.out _ _ (HCC.out _ K10) (fun hHeld => ?_)
      clear hK K
      generalize wd.heap.size = B6 at HX HLTB6 hHeld ⊢
      generalize wd.alloc (.cells #[.bool false, .slice none 0 0] 25) = w_10 at HX K10 hHeld ⊢
      try dsimp only [List.getElem_toArray, List.getElem_cons_succ, List.getElem_cons_zero]
      try simp only [Act.put, List.setIfInBounds_toArray, List.set_cons_zero, List.set_cons_succ]
      refine wpAnyH_ready (rs := [1, 4]) (by kernel_rfl) (by simp) ?_
      refine AllReadyH.cons (o := _) rfl (fun K hK => ?_) (AllReadyH.cons (o := _) rfl (fun K hK => ?_) (AllReadyH.nil))
      · go_simp
        refine (CP1.out _ K10).mono ?_
        rintro e w_11 ⟨A5, n5, c5, rfl, oo, kk⟩
        have K11 : Keep (fun _ => False) w2 w_11 := Keep.trans K10 kk
        have ln5 : n5 ≤ 60 := by have := oo.len; have := HLO.out.2.2.1; omega
        have HX1 := Lib.hid ((HX.out.keep kk).num (oo.toLimbs HLO.out.1 (by omega)))
        clear HX oo kk
        have HX := Lib.hid HX1.out
        clear HX1
        try dsimp only
        go_wp2_with fail
        refine hK.out _ _ (HCC.out _ K11) (fun hHeld => ?_)
        clear hK K
        try dsimp only [List.getElem_toArray, List.getElem_cons_succ, List.getElem_cons_zero]
        try simp only [Act.put, List.setIfInBounds_toArray, List.set_cons_zero, List.set_cons_succ]
        refine wpAnyH_ready (rs := [3, 4]) (by kernel_rfl) (by simp) ?_
        refine AllReadyH.cons (o := _) rfl (fun K hK => ?_) (AllReadyH.cons (o := _) rfl (fun K hK => ?_) (AllReadyH.nil))
        · go_simp
          refine (CP2.out _ K11).mono ?_
          rintro e w_12 ⟨A6, n6, c6, rfl, oo, kk⟩
          have K12 : Keep (fun _ => False) w2 w_12 := Keep.trans K11 kk
          have ln6 : n6 ≤ 60 := by have := oo.len; have := HLO.out.2.2.2; omega
          have HX1 := Lib.hid ((HX.out.keep kk).num (oo.toLimbs HLO.out.2.1 (by omega)))
          clear HX oo kk
          have HX := Lib.hid HX1.out
          clear HX1
          try dsimp only
          go_wp2_with fail
          refine hK.out _ _ (HCC.out _ K12) (fun hHeld => ?_)
          clear hK K
          try dsimp only [List.getElem_toArray, List.getElem_cons_succ, List.getElem_cons_zero]
          try simp only [Act.put, List.setIfInBounds_toArray, List.set_cons_zero, List.set_cons_succ]
          refine wpAnyH_ready (rs := [4]) (by kernel_rfl) (by simp) ?_
          refine AllReadyH.cons (o := _) rfl (fun K hK => ?_) (AllReadyH.nil)
          · go_simp
            have HLTB5 := Lib.hid (show B0 < w_12.heap.size ∧ B0 + 1 < w_12.heap.size ∧ w2.heap.size ≤ w_12.heap.size ∧ B6 < w_12.heap.size from ⟨(HX.out.cells (.tail _ (.tail _ (.head _)))).2.2, (HX.out.cells (.tail _ (.head _))).2.2, K12.size, (HX.out.cells (.head _)).2.2⟩)
            have K13 : Keep (fun _ => False) w2 (w_12.alloc (.cells #[.bool false, .slice none 0 0] 25)) := K12.alloc _
            have HX1 := Lib.hid (HX.out.box (.bool false) (.slice none 0 0))
            clear HX
            have HX := Lib.hid HX1.out
            clear HX1
            refine hK.out _ _ (HCC.out _ K13) (fun hHeld => ?_)
            clear hK K
            generalize w_12.heap.size = B5 at HX HLTB5 hHeld ⊢
            generalize w_12.alloc (.cells #[.bool false, .slice none 0 0] 25) = w_13 at HX K13 hHeld ⊢
            try dsimp only [List.getElem_toArray, List.getElem_cons_succ, List.getElem_cons_zero]
            try simp only [Act.put, List.setIfInBounds_toArray, List.set_cons_zero, List.set_cons_succ]
            refine wpAnyH_ready (rs := [6]) (by kernel_rfl) (by simp) ?_
            refine AllReadyH.cons (o := _) rfl (fun K hK => ?_) (AllReadyH.nil)
            · skip
              obtain ⟨d0, d1, dl⟩ := HX.out.cells (.head _)
              obtain ⟨f0, f1⟩ := HX.out.frozen (.head _)
              go_simp
              clear d0 d1 dl f0 f1
              have K14 : Keep (fun _ => False) w2 ((w_13.setCell ⟨B5, 0, none⟩ (.bool p1)).setCell ⟨B5, 1, none⟩ (.slice A5 n5 c5)) := two_keep K13 (by have := HLTB5.out; omega) _ _
              have HX1 := Lib.hid (HX.out.set (bs' := [(B6, .bool false, .slice none 0 0), (B0 + 1, .bool p2, .slice A2 n2 c2), (B0, .bool p1, .slice A1 n1 c1)]) (.head _) (by have := HLTB5.out; have := HX.out.k.size; have := HSZ.out; omega) (List.forall_mem_cons.2 ⟨⟨(.tail _ (.head _)), by dsimp only; have := HLTB5.out; have := HLTB6.out; omega⟩, (List.forall_mem_cons.2 ⟨⟨(.tail _ (.tail _ (.head _))), by dsimp only; have := HLTB5.out; have := HLTB6.out; omega⟩, (List.forall_mem_cons.2 ⟨⟨(.tail _ (.tail _ (.tail _ (.head _)))), by dsimp only; have := HLTB5.out; have := HLTB6.out; omega⟩, (fun _ h => by cases h)⟩)⟩)⟩) (.bool p1) (.slice A5 n5 c5))
              clear HX
              have HX := Lib.hid HX1.out
              clear HX1
              refine hK.out _ _ (HCC.out _ K14) (fun hHeld => ?_)
              clear hK K
              generalize (w_13.setCell ⟨B5, 0, none⟩ (.bool p1)).setCell ⟨B5, 1, none⟩ (.slice A5 n5 c5) = w_14 at HX K14 hHeld ⊢
              try dsimp only [List.getElem_toArray, List.getElem_cons_succ, List.getElem_cons_zero]
              try simp only [Act.put, List.setIfInBounds_toArray, List.set_cons_zero, List.set_cons_succ]
              refine wpAnyH_ready (rs := [7]) (by kernel_rfl) (by simp) ?_
              refine AllReadyH.cons (o := _) rfl (fun K hK => ?_) (AllReadyH.nil)
              · skip
                obtain ⟨d0, d1, dl⟩ := HX.out.cells (.tail _ (.head _))
                obtain ⟨f0, f1⟩ := HX.out.frozen (.tail _ (.head _))
                go_simp
                clear d0 d1 dl f0 f1
                have K15 : Keep (fun _ => False) w2 ((w_14.setCell ⟨B6, 0, none⟩ (.bool p2)).setCell ⟨B6, 1, none⟩ (.slice A6 n6 c6)) := two_keep K14 (by have := HLTB6.out; omega) _ _
                have HX1 := Lib.hid (HX.out.set (bs' := [(B5, .bool p1, .slice A5 n5 c5), (B0 + 1, .bool p2, .slice A2 n2 c2), (B0, .bool p1, .slice A1 n1 c1)]) (.tail _ (.head _)) (by have := HLTB6.out; have := HX.out.k.size; have := HSZ.out; omega) (List.forall_mem_cons.2 ⟨⟨(.head _), by dsimp only; have := HLTB5.out; have := HLTB6.out; omega⟩, (List.forall_mem_cons.2 ⟨⟨(.tail _ (.tail _ (.head _))), by dsimp only; have := HLTB5.out; have := HLTB6.out; omega⟩, (List.forall_mem_cons.2 ⟨⟨(.tail _ (.tail _ (.tail _ (.head _)))), by dsimp only; have := HLTB5.out; have := HLTB6.out; omega⟩, (fun _ h => by cases h)⟩)⟩)⟩) (.bool p2) (.slice A6 n6 c6))
                clear HX
                have HX := Lib.hid HX1.out
                clear HX1
                refine hK.out _ _ (HCC.out _ K15) (fun hHeld => ?_)
                clear hK K
                generalize (w_14.setCell ⟨B6, 0, none⟩ (.bool p2)).setCell ⟨B6, 1, none⟩ (.slice A6 n6 c6) = w_15 at HX K15 hHeld ⊢
                try dsimp only [List.getElem_toArray, List.getElem_cons_succ, List.getElem_cons_zero]
                try simp only [Act.put, List.setIfInBounds_toArray, List.set_cons_zero, List.set_cons_succ]
                refine wpAnyH_done (by kernel_rfl) ?_ _
                go_wp2_with fail
                go_meet
                exact ⟨B5, B6, A5, n5, c5, A6, n6, c6, rfl, rfl, ln5, ln6, HX.out⟩
        · go_simp
          have HLTB5 := Lib.hid (show B0 < w_11.heap.size ∧ B0 + 1 < w_11.heap.size ∧ w2.heap.size ≤ w_11.heap.size ∧ B6 < w_11.heap.size from ⟨(HX.out.cells (.tail _ (.tail _ (.head _)))).2.2, (HX.out.cells (.tail _ (.head _))).2.2, K11.size, (HX.out.cells (.head _)).2.2⟩)
          have K12 : Keep (fun _ => False) w2 (w_11.alloc (.cells #[.bool false, .slice none 0 0] 25)) := K11.alloc _
          have HX1 := Lib.hid (HX.out.box (.bool false) (.slice none 0 0))
          clear HX
          have HX := Lib.hid HX1.out
          clear HX1
          refine hK.out _ _ (HCC.out _ K12) (fun hHeld => ?_)
          clear hK K
          generalize w_11.heap.size = B5 at HX HLTB5 hHeld ⊢
          generalize w_11.alloc (.cells #[.bool false, .slice none 0 0] 25) = w_12 at HX K12 hHeld ⊢
          try dsimp only [List.getElem_toArray, List.getElem_cons_succ, List.getElem_cons_zero]
          try simp only [Act.put, List.setIfInBounds_toArray, List.set_cons_zero, List.set_cons_succ]
          refine wpAnyH_ready (rs := [3]) (by kernel_rfl) (by simp) ?_
          refine AllReadyH.cons (o := _) rfl (fun K hK => ?_) (AllReadyH.nil)
          · go_simp
            refine (CP2.out _ K12).mono ?_
            rintro e w_13 ⟨A6, n6, c6, rfl, oo, kk⟩
            have K13 : Keep (fun _ => False) w2 w_13 := Keep.trans K12 kk
            have ln6 : n6 ≤ 60 := by have := oo.len; have := HLO.out.2.2.2; omega
            have HX1 := Lib.hid ((HX.out.keep kk).num (oo.toLimbs HLO.out.2.1 (by omega)))
            clear HX oo kk
            have HX := Lib.hid HX1.out
            clear HX1
            try dsimp only
            go_wp2_with fail
            refine hK.out _ _ (HCC.out _ K13) (fun hHeld => ?_)
            clear hK K
            try dsimp only [List.getElem_toArray, List.getElem_cons_succ, List.getElem_cons_zero]
            try simp only [Act.put, List.setIfInBounds_toArray, List.set_cons_zero, List.set_cons_succ]
            refine wpAnyH_ready (rs := [6]) (by kernel_rfl) (by simp) ?_
            refine AllReadyH.cons (o := _) rfl (fun K hK => ?_) (AllReadyH.nil)
            · skip
              obtain ⟨d0, d1, dl⟩ := HX.out.cells (.head _)
              obtain ⟨f0, f1⟩ := HX.out.frozen (.head _)
              go_simp
              clear d0 d1 dl f0 f1
              have K14 : Keep (fun _ => False) w2 ((w_13.setCell ⟨B5, 0, none⟩ (.bool p1)).setCell ⟨B5, 1, none⟩ (.slice A5 n5 c5)) := two_keep K13 (by have := HLTB5.out; omega) _ _
              have HX1 := Lib.hid (HX.out.set (bs' := [(B6, .bool false, .slice none 0 0), (B0 + 1, .bool p2, .slice A2 n2 c2), (B0, .bool p1, .slice A1 n1 c1)]) (.head _) (by have := HLTB5.out; have := HX.out.k.size; have := HSZ.out; omega) (List.forall_mem_cons.2 ⟨⟨(.tail _ (.head _)), by dsimp only; have := HLTB5.out; have := HLTB6.out; omega⟩, (List.forall_mem_cons.2 ⟨⟨(.tail _ (.tail _ (.head _))), by dsimp only; have := HLTB5.out; have := HLTB6.out; omega⟩, (List.forall_mem_cons.2 ⟨⟨(.tail _ (.tail _ (.tail _ (.head _)))), by dsimp only; have := HLTB5.out; have := HLTB6.out; omega⟩, (fun _ h => by cases h)⟩)⟩)⟩) (.bool p1) (.slice A5 n5 c5))
              clear HX
              have HX := Lib.hid HX1.out
              clear HX1
              refine hK.out _ _ (HCC.out _ K14) (fun hHeld => ?_)
              clear hK K
              generalize (w_13.setCell ⟨B5, 0, none⟩ (.bool p1)).setCell ⟨B5, 1, none⟩ (.slice A5 n5 c5) = w_14 at HX K14 hHeld ⊢
              try dsimp only [List.getElem_toArray, List.getElem_cons_succ, List.getElem_cons_zero]
              try simp only [Act.put, List.setIfInBounds_toArray, List.set_cons_zero, List.set_cons_succ]
              refine wpAnyH_ready (rs := [7]) (by kernel_rfl) (by simp) ?_
              refine AllReadyH.cons (o := _) rfl (fun K hK => ?_) (AllReadyH.nil)
              · skip
                obtain ⟨d0, d1, dl⟩ := HX.out.cells (.tail _ (.head _))
                obtain ⟨f0, f1⟩ := HX.out.frozen (.tail _ (.head _))
                go_simp
                clear d0 d1 dl f0 f1
                have K15 : Keep (fun _ => False) w2 ((w_14.setCell ⟨B6, 0, none⟩ (.bool p2)).setCell ⟨B6, 1, none⟩ (.slice A6 n6 c6)) := two_keep K14 (by have := HLTB6.out; omega) _ _
                have HX1 := Lib.hid (HX.out.set (bs' := [(B5, .bool p1, .slice A5 n5 c5), (B0 + 1, .bool p2, .slice A2 n2 c2), (B0, .bool p1, .slice A1 n1 c1)]) (.tail _ (.head _)) (by have := HLTB6.out; have := HX.out.k.size; have := HSZ.out; omega) (List.forall_mem_cons.2 ⟨⟨(.head _), by dsimp only; have := HLTB5.out; have := HLTB6.out; omega⟩, (List.forall_mem_cons.2 ⟨⟨(.tail _ (.tail _ (.head _))), by dsimp only; have := HLTB5.out; have := HLTB6.out; omega⟩, (List.forall_mem_cons.2 ⟨⟨(.tail _ (.tail _ (.tail _ (.head _)))), by dsimp only; have := HLTB5.out; have := HLTB6.out; omega⟩, (fun _ h => by cases h)⟩)⟩)⟩) (.bool p2) (.slice A6 n6 c6))
                clear HX
                have HX := Lib.hid HX1.out
                clear HX1
                refine hK.out _ _ (HCC.out _ K15) (fun hHeld => ?_)
                clear hK K
                generalize (w_14.setCell ⟨B6, 0, none⟩ (.bool p2)).setCell ⟨B6, 1, none⟩ (.slice A6 n6 c6) = w_15 at HX K15 hHeld ⊢
                try dsimp only [List.getElem_toArray, List.getElem_cons_succ, List.getElem_cons_zero]
                try simp only [Act.put, List.setIfInBounds_toArray, List.set_cons_zero, List.set_cons_succ]
                refine wpAnyH_done (by kernel_rfl) ?_ _
                go_wp2_with fail
                go_meet
                exact ⟨B5, B6, A5, n5, c5, A6, n6, c6, rfl, rfl, ln5, ln6, HX.out⟩
      · go_simp
        have HLTB5 := Lib.hid (show B0 < w_10.heap.size ∧ B0 + 1 < w_10.heap.size ∧ w2.heap.size ≤ w_10.heap.size ∧ B6 < w_10.heap.size from ⟨(HX.out.cells (.tail _ (.tail _ (.head _)))).2.2, (HX.out.cells (.tail _ (.head _))).2.2, K10.size, (HX.out.cells (.head _)).2.2⟩)
        have K11 : Keep (fun _ => False) w2 (w_10.alloc (.cells #[.bool false, .slice none 0 0] 25)) := K10.alloc _
        have HX1 := Lib.hid (HX.out.box (.bool false) (.slice none 0 0))
        clear HX
        have HX := Lib.hid HX1.out
        clear HX1
        refine hK.out _ _ (HCC.out _ K11) (fun hHeld => ?_)
        clear hK K
        generalize w_10.heap.size = B5 at HX HLTB5 hHeld ⊢
        generalize w_10.alloc (.cells #[.bool false, .slice none 0 0] 25) = w_11 at HX K11 hHeld ⊢
        try dsimp only [List.getElem_toArray, List.getElem_cons_succ, List.getElem_cons_zero]
        try simp only [Act.put, List.setIfInBounds_toArray, List.set_cons_zero, List.set_cons_succ]
        refine wpAnyH_ready (rs := [1]) (by kernel_rfl) (by simp) ?_
        refine AllReadyH.cons (o := _) rfl (fun K hK => ?_) (AllReadyH.nil)
        · go_simp
          refine (CP1.out _ K11).mono ?_
          rintro e w_12 ⟨A5, n5, c5, rfl, oo, kk⟩
          have K12 : Keep (fun _ => False) w2 w_12 := Keep.trans K11 kk
          have ln5 : n5 ≤ 60 := by have := oo.len; have := HLO.out.2.2.1; omega
          have HX1 := Lib.hid ((HX.out.keep kk).num (oo.toLimbs HLO.out.1 (by omega)))
          clear HX oo kk
          have HX := Lib.hid HX1.out
          clear HX1
          try dsimp only
          go_wp2_with fail
          refine hK.out _ _ (HCC.out _ K12) (fun hHeld => ?_)
          clear hK K
          try dsimp only [List.getElem_toArray, List.getElem_cons_succ, List.getElem_cons_zero]
          try simp only [Act.put, List.setIfInBounds_toArray, List.set_cons_zero, List.set_cons_succ]
          refine wpAnyH_ready (rs := [3]) (by kernel_rfl) (by simp) ?_
          refine AllReadyH.cons (o := _) rfl (fun K hK => ?_) (AllReadyH.nil)
          · go_simp
            refine (CP2.out _ K12).mono ?_
            rintro e w_13 ⟨A6, n6, c6, rfl, oo, kk⟩
            have K13 : Keep (fun _ => False) w2 w_13 := Keep.trans K12 kk
            have ln6 : n6 ≤ 60 := by have := oo.len; have := HLO.out.2.2.2; omega
            have HX1 := Lib.hid ((HX.out.keep kk).num (oo.toLimbs HLO.out.2.1 (by omega)))
            clear HX oo kk
            have HX := Lib.hid HX1.out
            clear HX1
            try dsimp only
            go_wp2_with fail
            refine hK.out _ _ (HCC.out _ K13) (fun hHeld => ?_)
            clear hK K
            try dsimp only [List.getElem_toArray, List.getElem_cons_succ, List.getElem_cons_zero]
            try simp only [Act.put, List.setIfInBounds_toArray, List.set_cons_zero, List.set_cons_succ]
            refine wpAnyH_ready (rs := [6]) (by kernel_rfl) (by simp) ?_
            refine AllReadyH.cons (o := _) rfl (fun K hK => ?_) (AllReadyH.nil)
            · skip
              obtain ⟨d0, d1, dl⟩ := HX.out.cells (.head _)
              obtain ⟨f0, f1⟩ := HX.out.frozen (.head _)
              go_simp
              clear d0 d1 dl f0 f1
              have K14 : Keep (fun _ => False) w2 ((w_13.setCell ⟨B5, 0, none⟩ (.bool p1)).setCell ⟨B5, 1, none⟩ (.slice A5 n5 c5)) := two_keep K13 (by have := HLTB5.out; omega) _ _
              have HX1 := Lib.hid (HX.out.set (bs' := [(B6, .bool false, .slice none 0 0), (B0 + 1, .bool p2, .slice A2 n2 c2), (B0, .bool p1, .slice A1 n1 c1)]) (.head _) (by have := HLTB5.out; have := HX.out.k.size; have := HSZ.out; omega) (List.forall_mem_cons.2 ⟨⟨(.tail _ (.head _)), by dsimp only; have := HLTB5.out; have := HLTB6.out; omega⟩, (List.forall_mem_cons.2 ⟨⟨(.tail _ (.tail _ (.head _))), by dsimp only; have := HLTB5.out; have := HLTB6.out; omega⟩, (List.forall_mem_cons.2 ⟨⟨(.tail _ (.tail _ (.tail _ (.head _)))), by dsimp only; have := HLTB5.out; have := HLTB6.out; omega⟩, (fun _ h => by cases h)⟩)⟩)⟩) (.bool p1) (.slice A5 n5 c5))
              clear HX
              have HX := Lib.hid HX1.out
              clear HX1
              refine hK.out _ _ (HCC.out _ K14) (fun hHeld => ?_)
              clear hK K
              generalize (w_13.setCell ⟨B5, 0, none⟩ (.bool p1)).setCell ⟨B5, 1, none⟩ (.slice A5 n5 c5) = w_14 at HX K14 hHeld ⊢
              try dsimp only [List.getElem_toArray, List.getElem_cons_succ, List.getElem_cons_zero]
              try simp only [Act.put, List.setIfInBounds_toArray, List.set_cons_zero, List.set_cons_succ]
              refine wpAnyH_ready (rs := [7]) (by kernel_rfl) (by simp) ?_
              refine AllReadyH.cons (o := _) rfl (fun K hK => ?_) (AllReadyH.nil)
              · skip
                obtain ⟨d0, d1, dl⟩ := HX.out.cells (.tail _ (.head _))
                obtain ⟨f0, f1⟩ := HX.out.frozen (.tail _ (.head _))
                go_simp
                clear d0 d1 dl f0 f1
                have K15 : Keep (fun _ => False) w2 ((w_14.setCell ⟨B6, 0, none⟩ (.bool p2)).setCell ⟨B6, 1, none⟩ (.slice A6 n6 c6)) := two_keep K14 (by have := HLTB6.out; omega) _ _
                have HX1 := Lib.hid (HX.out.set (bs' := [(B5, .bool p1, .slice A5 n5 c5), (B0 + 1, .bool p2, .slice A2 n2 c2), (B0, .bool p1, .slice A1 n1 c1)]) (.tail _ (.head _)) (by have := HLTB6.out; have := HX.out.k.size; have := HSZ.out; omega) (List.forall_mem_cons.2 ⟨⟨(.head _), by dsimp only; have := HLTB5.out; have := HLTB6.out; omega⟩, (List.forall_mem_cons.2 ⟨⟨(.tail _ (.tail _ (.head _))), by dsimp only; have := HLTB5.out; have := HLTB6.out; omega⟩, (List.forall_mem_cons.2 ⟨⟨(.tail _ (.tail _ (.tail _ (.head _)))), by dsimp only; have := HLTB5.out; have := HLTB6.out; omega⟩, (fun _ h => by cases h)⟩)⟩)⟩) (.bool p2) (.slice A6 n6 c6))
                clear HX
                have HX := Lib.hid HX1.out
                clear HX1
                refine hK.out _ _ (HCC.out _ K15) (fun hHeld => ?_)
                clear hK K
                generalize (w_14.setCell ⟨B6, 0, none⟩ (.bool p2)).setCell ⟨B6, 1, none⟩ (.slice A6 n6 c6) = w_15 at HX K15 hHeld ⊢
                try dsimp only [List.getElem_toArray, List.getElem_cons_succ, List.getElem_cons_zero]
                try simp only [Act.put, List.setIfInBounds_toArray, List.set_cons_zero, List.set_cons_succ]
                refine wpAnyH_done (by kernel_rfl) ?_ _
                go_wp2_with fail
                go_meet
                exact ⟨B5, B6, A5, n5, c5, A6, n6, c6, rfl, rfl, ln5, ln6, HX.out⟩
  case rest =>
    obtain ⟨B5, B6, A5, n5, c5, A6, n6, c6, rfl, rfl, ln5, ln6, HXe⟩ := hcut
    clear s0 s1 sl r0 r1 rl HX CP1 CP2 Kd HLO
    have HX := Lib.hid (EnvV.start ((HXe.num (HL.out.1.keep0 HXe.k)).num (HL.out.2.keep0 HXe.k)))
    clear HXe
    try dsimp only
    try go_wp2_with fail
    have CV1 := Lib.hid (fun (w' : World) (K' : Keep (fun _ => False) wc w') => val_z HZ.out.1 HV.out.1 ((HX.out.keep K').e.m _ (.tail _ (.tail _ (.tail _ (.head _))))) ln5)
    have CV2 := Lib.hid (fun (w' : World) (K' : Keep (fun _ => False) wc w') => val_z HZ.out.2.1 HV.out.2 ((HX.out.keep K').e.m _ (.tail _ (.tail _ (.head _)))) ln6)
    have Kd : Keep (fun _ => False) wc wc.drew := (Keep.refl _ _).drew
    obtain ⟨g0, g1, gl⟩ := HX.out.cells (.head _)
    obtain ⟨f0, f1, fl⟩ := HX.out.cells (.tail _ (.head _))
    obtain ⟨s0, s1, sl⟩ := HX.out.cells (.tail _ (.tail _ (.head _)))
    obtain ⟨r0, r1, rl⟩ := HX.out.cells (.tail _ (.tail _ (.tail _ (.head _))))
    go_cut [7, 8] (fun v7 v8 wy => ∃ (B7 B8 : Nat) (A7 : Option Addr) (n7 c7 : Nat) (A8 : Option Addr) (n8 c8 : Nat), v7 = .pointer (some ⟨B7, 0, none⟩) ∧ v8 = .pointer (some ⟨B8, 0, none⟩) ∧ n7 ≤ 1920 ∧ n8 ≤ 1920 ∧ EnvV w [(B6, .bool p2, .slice A6 n6 c6), (B5, .bool p1, .slice A5 n5 c5), (B0 + 1, .bool p2, .slice A2 n2 c2), (B0, .bool p1, .slice A1 n1 c1)] [(A2, n2, c2, l2), (A1, n1, c1, l1), (A6, n6, c6, l2), (A5, n5, c5, l1)] [(B8, .bool z2, .slice A8 n8 c8), (B7, .bool z1, .slice A7 n7 c7)] [(A8, n8, c8, bits2 xb.natAbs), (A7, n7, c7, bits2 xa.natAbs)] wy)
    case first =>
      have HCC := Lib.hid (fun (w' : World) (K' : Keep (fun _ => False) wc w') => (show w'.cell? ⟨B5, 0, none⟩ = some (.bool p1) ∧ w'.cell? ⟨B5, 1, none⟩ = some (.slice A5 n5 c5) ∧ w'.cell? ⟨B6, 0, none⟩ = some (.bool p2) ∧ w'.cell? ⟨B6, 1, none⟩ = some (.slice A6 n6 c6) from by
        obtain ⟨ra, rb, _⟩ := (HX.out.keep K').cells (.tail _ (.head _))
        obtain ⟨sa, sb, _⟩ := (HX.out.keep K').cells (.head _)
        exact ⟨ra, rb, sa, sb⟩))
      refine wp_region_held_drew (S := fun w' => w'.cell? ⟨B5, 0, none⟩ = some (.bool p1) ∧ w'.cell? ⟨B5, 1, none⟩ = some (.slice A5 n5 c5) ∧ w'.cell? ⟨B6, 0, none⟩ = some (.bool p2) ∧ w'.cell? ⟨B6, 1, none⟩ = some (.slice A6 n6 c6)) (by kernel_rfl) (HCC.out _ Kd) (fun hHeld => ?_)
      refine wpAnyH_take (i := 0) (oi := _) (v := ?_) rfl (by kernel_rfl) (by kernel_rfl) (by kernel_rfl) (fun _ _ _ h => h) (Or.inl ⟨by rfl, ?_⟩) (by assumption) ?_
      rotate_left
      · (intro w hSw; (try dsimp only at hSw); go_simp)
        all_goals with_reducible rfl
      refine wpAnyH_take (i := 2) (oi := _) (v := ?_) rfl (by kernel_rfl) (by kernel_rfl) (by kernel_rfl) (fun _ _ _ h => h) (Or.inl ⟨by rfl, ?_⟩) (by assumption) ?_
      rotate_left
      · (intro w hSw; (try dsimp only at hSw); go_simp)
        all_goals with_reducible rfl
      clear g0 g1 gl f0 f1 fl s0 s1 sl r0 r1 rl
      have HX1 := Lib.hid (HX.out.keep Kd)
      clear HX
      have HX := Lib.hid HX1.out
      clear HX1
      generalize wc.drew = wd at HX Kd hHeld ⊢
      try dsimp only [List.getElem_toArray, List.getElem_cons_succ, List.getElem_cons_zero]
      try simp only [Act.put, List.setIfInBounds_toArray, List.set_cons_zero, List.set_cons_succ]
      refine wpAnyH_ready (rs := [1, 4, 5]) (by kernel_rfl) (by simp) ?_
      refine AllReadyH.cons (o := _) rfl (fun K hK => ?_) (AllReadyH.cons (o := _) rfl (fun K hK => ?_) (AllReadyH.cons (o := _) rfl (fun K hK => ?_) (AllReadyH.nil)))
      · go_simp
        refine (CV1.out _ Kd).mono ?_
        rintro e w_10 ⟨A7, n7, c7, rfl, oo, hn7, kk⟩
        have K10 : Keep (fun _ => False) wc w_10 := Keep.trans Kd kk
        have HX1 := Lib.hid ((HX.out.keep kk).bits oo)
        clear HX oo kk
        have HX := Lib.hid HX1.out
        clear HX1
        try dsimp only
        go_wp2_with fail
        refine hK.out _ _ (HCC.out _ K10) (fun hHeld => ?_)
        clear hK K
        try dsimp only [List.getElem_toArray, List.getElem_cons_succ, List.getElem_cons_zero]
        try simp only [Act.put, List.setIfInBounds_toArray, List.set_cons_zero, List.set_cons_succ]
        refine wpAnyH_ready (rs := [3, 4, 5]) (by kernel_rfl) (by simp) ?_
        refine AllReadyH.cons (o := _) rfl (fun K hK => ?_) (AllReadyH.cons (o := _) rfl (fun K hK => ?_) (AllReadyH.cons (o := _) rfl (fun K hK => ?_) (AllReadyH.nil)))
        · go_simp
          refine (CV2.out _ K10).mono ?_
          rintro e w_11 ⟨A8, n8, c8, rfl, oo, hn8, kk⟩
          have K11 : Keep (fun _ => False) wc w_11 := Keep.trans K10 kk
          have HX1 := Lib.hid ((HX.out.keep kk).bits oo)
          clear HX oo kk
          have HX := Lib.hid HX1.out
          clear HX1
          try dsimp only
          go_wp2_with fail
          refine hK.out _ _ (HCC.out _ K11) (fun hHeld => ?_)
          clear hK K
          try dsimp only [List.getElem_toArray, List.getElem_cons_succ, List.getElem_cons_zero]
          try simp only [Act.put, List.setIfInBounds_toArray, List.set_cons_zero, List.set_cons_succ]
          refine wpAnyH_ready (rs := [4, 5]) (by kernel_rfl) (by simp) ?_
          refine AllReadyH.cons (o := _) rfl (fun K hK => ?_) (AllReadyH.cons (o := _) rfl (fun K hK => ?_) (AllReadyH.nil))
          · go_simp
            have HLTB7 := Lib.hid (show w.heap.size ≤ w_11.heap.size ∧ wc.heap.size ≤ w_11.heap.size from ⟨HX.out.k.size, K11.size⟩)
            have K12 : Keep (fun _ => False) wc (w_11.alloc (.cells #[.bool false, .slice none 0 0] 34)) := K11.alloc _
            have HX1 := Lib.hid (HX.out.boxV (.bool false) (.slice none 0 0))
            clear HX
            have HX := Lib.hid HX1.out
            clear HX1
            refine hK.out _ _ (HCC.out _ K12) (fun hHeld => ?_)
            clear hK K
            generalize w_11.heap.size = B7 at HX HLTB7 hHeld ⊢
            generalize w_11.alloc (.cells #[.bool false, .slice none 0 0] 34) = w_12 at HX K12 hHeld ⊢
            try dsimp only [List.getElem_toArray, List.getElem_cons_succ, List.getElem_cons_zero]
            try simp only [Act.put, List.setIfInBounds_toArray, List.set_cons_zero, List.set_cons_succ]
            refine wpAnyH_ready (rs := [5]) (by kernel_rfl) (by simp) ?_
            refine AllReadyH.cons (o := _) rfl (fun K hK => ?_) (AllReadyH.nil)
            · go_simp
              have HLTB8 := Lib.hid (show w.heap.size ≤ w_12.heap.size ∧ wc.heap.size ≤ w_12.heap.size ∧ B7 < w_12.heap.size from ⟨HX.out.k.size, K12.size, (HX.out.cellsV (.head _)).2.2⟩)
              have K13 : Keep (fun _ => False) wc (w_12.alloc (.cells #[.bool false, .slice none 0 0] 34)) := K12.alloc _
              have HX1 := Lib.hid (HX.out.boxV (.bool false) (.slice none 0 0))
              clear HX
              have HX := Lib.hid HX1.out
              clear HX1
              refine hK.out _ _ (HCC.out _ K13) (fun hHeld => ?_)
              clear hK K
              generalize w_12.heap.size = B8 at HX HLTB8 hHeld ⊢
              generalize w_12.alloc (.cells #[.bool false, .slice none 0 0] 34) = w_13 at HX K13 hHeld ⊢
              try dsimp only [List.getElem_toArray, List.getElem_cons_succ, List.getElem_cons_zero]
              try simp only [Act.put, List.setIfInBounds_toArray, List.set_cons_zero, List.set_cons_succ]
              refine wpAnyH_ready (rs := [6]) (by kernel_rfl) (by simp) ?_
              refine AllReadyH.cons (o := _) rfl (fun K hK => ?_) (AllReadyH.nil)
              · skip
                obtain ⟨d0, d1, dl⟩ := HX.out.cellsV (.tail _ (.head _))
                obtain ⟨f0, f1⟩ := HX.out.frozenV (.tail _ (.head _))
                go_simp
                clear d0 d1 dl f0 f1
                have K14 : Keep (fun _ => False) wc ((w_13.setCell ⟨B7, 0, none⟩ (.bool z1)).setCell ⟨B7, 1, none⟩ (.slice A7 n7 c7)) := two_keep K13 (by have := HLTB7.out; omega) _ _
                have HX1 := Lib.hid (HX.out.setV (vs' := [(B8, .bool false, .slice none 0 0)]) (.tail _ (.head _)) (by have := HLTB7.out; omega) (List.forall_mem_cons.2 ⟨⟨(.head _), by dsimp only; have := HLTB7.out; have := HLTB8.out; omega⟩, (fun _ h => by cases h)⟩) (.bool z1) (.slice A7 n7 c7))
                clear HX
                have HX := Lib.hid HX1.out
                clear HX1
                refine hK.out _ _ (HCC.out _ K14) (fun hHeld => ?_)
                clear hK K
                generalize (w_13.setCell ⟨B7, 0, none⟩ (.bool z1)).setCell ⟨B7, 1, none⟩ (.slice A7 n7 c7) = w_14 at HX K14 hHeld ⊢
                try dsimp only [List.getElem_toArray, List.getElem_cons_succ, List.getElem_cons_zero]
                try simp only [Act.put, List.setIfInBounds_toArray, List.set_cons_zero, List.set_cons_succ]
                refine wpAnyH_ready (rs := [7]) (by kernel_rfl) (by simp) ?_
                refine AllReadyH.cons (o := _) rfl (fun K hK => ?_) (AllReadyH.nil)
                · skip
                  obtain ⟨d0, d1, dl⟩ := HX.out.cellsV (.tail _ (.head _))
                  obtain ⟨f0, f1⟩ := HX.out.frozenV (.tail _ (.head _))
                  go_simp
                  clear d0 d1 dl f0 f1
                  have K15 : Keep (fun _ => False) wc ((w_14.setCell ⟨B8, 0, none⟩ (.bool z2)).setCell ⟨B8, 1, none⟩ (.slice A8 n8 c8)) := two_keep K14 (by have := HLTB8.out; omega) _ _
                  have HX1 := Lib.hid (HX.out.setV (vs' := [(B7, .bool z1, .slice A7 n7 c7)]) (.tail _ (.head _)) (by have := HLTB8.out; omega) (List.forall_mem_cons.2 ⟨⟨(.head _), by dsimp only; have := HLTB7.out; have := HLTB8.out; omega⟩, (fun _ h => by cases h)⟩) (.bool z2) (.slice A8 n8 c8))
                  clear HX
                  have HX := Lib.hid HX1.out
                  clear HX1
                  refine hK.out _ _ (HCC.out _ K15) (fun hHeld => ?_)
                  clear hK K
                  generalize (w_14.setCell ⟨B8, 0, none⟩ (.bool z2)).setCell ⟨B8, 1, none⟩ (.slice A8 n8 c8) = w_15 at HX K15 hHeld ⊢
                  try dsimp only [List.getElem_toArray, List.getElem_cons_succ, List.getElem_cons_zero]
                  try simp only [Act.put, List.setIfInBounds_toArray, List.set_cons_zero, List.set_cons_succ]
                  refine wpAnyH_done (by kernel_rfl) ?_ _
                  go_wp2_with fail
                  go_meet
                  exact ⟨B7, B8, A7, n7, c7, A8, n8, c8, rfl, rfl, hn7, hn8, HX.out⟩
          · go_simp
            have HLTB8 := Lib.hid (show w.heap.size ≤ w_11.heap.size ∧ wc.heap.size ≤ w_11.heap.size from ⟨HX.out.k.size, K11.size⟩)
            have K12 : Keep (fun _ => False) wc (w_11.alloc (.cells #[.bool false, .slice none 0 0] 34)) := K11.alloc _
            have HX1 := Lib.hid (HX.out.boxV (.bool false) (.slice none 0 0))
            clear HX
            have HX := Lib.hid HX1.out
            clear HX1
            refine hK.out _ _ (HCC.out _ K12) (fun hHeld => ?_)
            clear hK K
            generalize w_11.heap.size = B8 at HX HLTB8 hHeld ⊢
            generalize w_11.alloc (.cells #[.bool false, .slice none 0 0] 34) = w_12 at HX K12 hHeld ⊢
            try dsimp only [List.getElem_toArray, List.getElem_cons_succ, List.getElem_cons_zero]
            try simp only [Act.put, List.setIfInBounds_toArray, List.set_cons_zero, List.set_cons_succ]
            refine wpAnyH_ready (rs := [4]) (by kernel_rfl) (by simp) ?_
            refine AllReadyH.cons (o := _) rfl (fun K hK => ?_) (AllReadyH.nil)
            · go_simp
              have HLTB7 := Lib.hid (show w.heap.size ≤ w_12.heap.size ∧ wc.heap.size ≤ w_12.heap.size ∧ B8 < w_12.heap.size from ⟨HX.out.k.size, K12.size, (HX.out.cellsV (.head _)).2.2⟩)
              have K13 : Keep (fun _ => False) wc (w_12.alloc (.cells #[.bool false, .slice none 0 0] 34)) := K12.alloc _
              have HX1 := Lib.hid (HX.out.boxV (.bool false) (.slice none 0 0))
              clear HX
              have HX := Lib.hid HX1.out
              clear HX1
              refine hK.out _ _ (HCC.out _ K13) (fun hHeld => ?_)
              clear hK K
              generalize w_12.heap.size = B7 at HX HLTB7 hHeld ⊢
              generalize w_12.alloc (.cells #[.bool false, .slice none 0 0] 34) = w_13 at HX K13 hHeld ⊢
              try dsimp only [List.getElem_toArray, List.getElem_cons_succ, List.getElem_cons_zero]
              try simp only [Act.put, List.setIfInBounds_toArray, List.set_cons_zero, List.set_cons_succ]
              refine wpAnyH_ready (rs := [6]) (by kernel_rfl) (by simp) ?_
              refine AllReadyH.cons (o := _) rfl (fun K hK => ?_) (AllReadyH.nil)
              · skip
                obtain ⟨d0, d1, dl⟩ := HX.out.cellsV (.head _)
                obtain ⟨f0, f1⟩ := HX.out.frozenV (.head _)
                go_simp
                clear d0 d1 dl f0 f1
                have K14 : Keep (fun _ => False) wc ((w_13.setCell ⟨B7, 0, none⟩ (.bool z1)).setCell ⟨B7, 1, none⟩ (.slice A7 n7 c7)) := two_keep K13 (by have := HLTB7.out; omega) _ _
                have HX1 := Lib.hid (HX.out.setV (vs' := [(B8, .bool false, .slice none 0 0)]) (.head _) (by have := HLTB7.out; omega) (List.forall_mem_cons.2 ⟨⟨(.tail _ (.head _)), by dsimp only; have := HLTB7.out; have := HLTB8.out; omega⟩, (fun _ h => by cases h)⟩) (.bool z1) (.slice A7 n7 c7))
                clear HX
                have HX := Lib.hid HX1.out
                clear HX1
                refine hK.out _ _ (HCC.out _ K14) (fun hHeld => ?_)
                clear hK K
                generalize (w_13.setCell ⟨B7, 0, none⟩ (.bool z1)).setCell ⟨B7, 1, none⟩ (.slice A7 n7 c7) = w_14 at HX K14 hHeld ⊢
                try dsimp only [List.getElem_toArray, List.getElem_cons_succ, List.getElem_cons_zero]
                try simp only [Act.put, List.setIfInBounds_toArray, List.set_cons_zero, List.set_cons_succ]
                refine wpAnyH_ready (rs := [7]) (by kernel_rfl) (by simp) ?_
                refine AllReadyH.cons (o := _) rfl (fun K hK => ?_) (AllReadyH.nil)
                · skip
                  obtain ⟨d0, d1, dl⟩ := HX.out.cellsV (.tail _ (.head _))
                  obtain ⟨f0, f1⟩ := HX.out.frozenV (.tail _ (.head _))
                  go_simp
                  clear d0 d1 dl f0 f1
                  have K15 : Keep (fun _ => False) wc ((w_14.setCell ⟨B8, 0, none⟩ (.bool z2)).setCell ⟨B8, 1, none⟩ (.slice A8 n8 c8)) := two_keep K14 (by have := HLTB8.out; omega) _ _
                  have HX1 := Lib.hid (HX.out.setV (vs' := [(B7, .bool z1, .slice A7 n7 c7)]) (.tail _ (.head _)) (by have := HLTB8.out; omega) (List.forall_mem_cons.2 ⟨⟨(.head _), by dsimp only; have := HLTB7.out; have := HLTB8.out; omega⟩, (fun _ h => by cases h)⟩) (.bool z2) (.slice A8 n8 c8))
                  clear HX
                  have HX := Lib.hid HX1.out
                  clear HX1
                  refine hK.out _ _ (HCC.out _ K15) (fun hHeld => ?_)
                  clear hK K
                  generalize (w_14.setCell ⟨B8, 0, none⟩ (.bool z2)).setCell ⟨B8, 1, none⟩ (.slice A8 n8 c8) = w_15 at HX K15 hHeld ⊢
                  try dsimp only [List.getElem_toArray, List.getElem_cons_succ, List.getElem_cons_zero]
                  try simp only [Act.put, List.setIfInBounds_toArray, List.set_cons_zero, List.set_cons_succ]
                  refine wpAnyH_done (by kernel_rfl) ?_ _
                  go_wp2_with fail
                  go_meet
                  exact ⟨B7, B8, A7, n7, c7, A8, n8, c8, rfl, rfl, hn7, hn8, HX.out⟩
        · go_simp
          have HLTB7 := Lib.hid (show w.heap.size ≤ w_10.heap.size ∧ wc.heap.size ≤ w_10.heap.size from ⟨HX.out.k.size, K10.size⟩)
          have K11 : Keep (fun _ => False) wc (w_10.alloc (.cells #[.bool false, .slice none 0 0] 34)) := K10.alloc _
          have HX1 := Lib.hid (HX.out.boxV (.bool false) (.slice none 0 0))
          clear HX
          have HX := Lib.hid HX1.out
          clear HX1
          refine hK.out _ _ (HCC.out _ K11) (fun hHeld => ?_)
          clear hK K
          generalize w_10.heap.size = B7 at HX HLTB7 hHeld ⊢
          generalize w_10.alloc (.cells #[.bool false, .slice none 0 0] 34) = w_11 at HX K11 hHeld ⊢
          try dsimp only [List.getElem_toArray, List.getElem_cons_succ, List.getElem_cons_zero]
          try simp only [Act.put, List.setIfInBounds_toArray, List.set_cons_zero, List.set_cons_succ]
          refine wpAnyH_ready (rs := [3, 5]) (by kernel_rfl) (by simp) ?_
          refine AllReadyH.cons (o := _) rfl (fun K hK => ?_) (AllReadyH.cons (o := _) rfl (fun K hK => ?_) (AllReadyH.nil))
          · go_simp
            refine (CV2.out _ K11).mono ?_
            rintro e w_12 ⟨A8, n8, c8, rfl, oo, hn8, kk⟩
            have K12 : Keep (fun _ => False) wc w_12 := Keep.trans K11 kk
            have HX1 := Lib.hid ((HX.out.keep kk).bits oo)
            clear HX oo kk
            have HX := Lib.hid HX1.out
            clear HX1
            try dsimp only
            go_wp2_with fail
            refine hK.out _ _ (HCC.out _ K12) (fun hHeld => ?_)
            clear hK K
            try dsimp only [List.getElem_toArray, List.getElem_cons_succ, List.getElem_cons_zero]
            try simp only [Act.put, List.setIfInBounds_toArray, List.set_cons_zero, List.set_cons_succ]
            refine wpAnyH_ready (rs := [5]) (by kernel_rfl) (by simp) ?_
            refine AllReadyH.cons (o := _) rfl (fun K hK => ?_) (AllReadyH.nil)
            · go_simp
              have HLTB8 := Lib.hid (show w.heap.size ≤ w_12.heap.size ∧ wc.heap.size ≤ w_12.heap.size ∧ B7 < w_12.heap.size from ⟨HX.out.k.size, K12.size, (HX.out.cellsV (.head _)).2.2⟩)
              have K13 : Keep (fun _ => False) wc (w_12.alloc (.cells #[.bool false, .slice none 0 0] 34)) := K12.alloc _
              have HX1 := Lib.hid (HX.out.boxV (.bool false) (.slice none 0 0))
              clear HX
              have HX := Lib.hid HX1.out
              clear HX1
              refine hK.out _ _ (HCC.out _ K13) (fun hHeld => ?_)
              clear hK K
              generalize w_12.heap.size = B8 at HX HLTB8 hHeld ⊢
              generalize w_12.alloc (.cells #[.bool false, .slice none 0 0] 34) = w_13 at HX K13 hHeld ⊢
              try dsimp only [List.getElem_toArray, List.getElem_cons_succ, List.getElem_cons_zero]
              try simp only [Act.put, List.setIfInBounds_toArray, List.set_cons_zero, List.set_cons_succ]
              refine wpAnyH_ready (rs := [6]) (by kernel_rfl) (by simp) ?_
              refine AllReadyH.cons (o := _) rfl (fun K hK => ?_) (AllReadyH.nil)
              · skip
                obtain ⟨d0, d1, dl⟩ := HX.out.cellsV (.tail _ (.head _))
                obtain ⟨f0, f1⟩ := HX.out.frozenV (.tail _ (.head _))
                go_simp
                clear d0 d1 dl f0 f1
                have K14 : Keep (fun _ => False) wc ((w_13.setCell ⟨B7, 0, none⟩ (.bool z1)).setCell ⟨B7, 1, none⟩ (.slice A7 n7 c7)) := two_keep K13 (by have := HLTB7.out; omega) _ _
                have HX1 := Lib.hid (HX.out.setV (vs' := [(B8, .bool false, .slice none 0 0)]) (.tail _ (.head _)) (by have := HLTB7.out; omega) (List.forall_mem_cons.2 ⟨⟨(.head _), by dsimp only; have := HLTB7.out; have := HLTB8.out; omega⟩, (fun _ h => by cases h)⟩) (.bool z1) (.slice A7 n7 c7))
                clear HX
                have HX := Lib.hid HX1.out
                clear HX1
                refine hK.out _ _ (HCC.out _ K14) (fun hHeld => ?_)
                clear hK K
                generalize (w_13.setCell ⟨B7, 0, none⟩ (.bool z1)).setCell ⟨B7, 1, none⟩ (.slice A7 n7 c7) = w_14 at HX K14 hHeld ⊢
                try dsimp only [List.getElem_toArray, List.getElem_cons_succ, List.getElem_cons_zero]
                try simp only [Act.put, List.setIfInBounds_toArray, List.set_cons_zero, List.set_cons_succ]
                refine wpAnyH_ready (rs := [7]) (by kernel_rfl) (by simp) ?_
                refine AllReadyH.cons (o := _) rfl (fun K hK => ?_) (AllReadyH.nil)
                · skip
                  obtain ⟨d0, d1, dl⟩ := HX.out.cellsV (.tail _ (.head _))
                  obtain ⟨f0, f1⟩ := HX.out.frozenV (.tail _ (.head _))
                  go_simp
                  clear d0 d1 dl f0 f1
                  have K15 : Keep (fun _ => False) wc ((w_14.setCell ⟨B8, 0, none⟩ (.bool z2)).setCell ⟨B8, 1, none⟩ (.slice A8 n8 c8)) := two_keep K14 (by have := HLTB8.out; omega) _ _
                  have HX1 := Lib.hid (HX.out.setV (vs' := [(B7, .bool z1, .slice A7 n7 c7)]) (.tail _ (.head _)) (by have := HLTB8.out; omega) (List.forall_mem_cons.2 ⟨⟨(.head _), by dsimp only; have := HLTB7.out; have := HLTB8.out; omega⟩, (fun _ h => by cases h)⟩) (.bool z2) (.slice A8 n8 c8))
                  clear HX
                  have HX := Lib.hid HX1.out
                  clear HX1
                  refine hK.out _ _ (HCC.out _ K15) (fun hHeld => ?_)
                  clear hK K
                  generalize (w_14.setCell ⟨B8, 0, none⟩ (.bool z2)).setCell ⟨B8, 1, none⟩ (.slice A8 n8 c8) = w_15 at HX K15 hHeld ⊢
                  try dsimp only [List.getElem_toArray, List.getElem_cons_succ, List.getElem_cons_zero]
                  try simp only [Act.put, List.setIfInBounds_toArray, List.set_cons_zero, List.set_cons_succ]
                  refine wpAnyH_done (by kernel_rfl) ?_ _
                  go_wp2_with fail
                  go_meet
                  exact ⟨B7, B8, A7, n7, c7, A8, n8, c8, rfl, rfl, hn7, hn8, HX.out⟩
          · go_simp
            have HLTB8 := Lib.hid (show w.heap.size ≤ w_11.heap.size ∧ wc.heap.size ≤ w_11.heap.size ∧ B7 < w_11.heap.size from ⟨HX.out.k.size, K11.size, (HX.out.cellsV (.head _)).2.2⟩)
            have K12 : Keep (fun _ => False) wc (w_11.alloc (.cells #[.bool false, .slice none 0 0] 34)) := K11.alloc _
            have HX1 := Lib.hid (HX.out.boxV (.bool false) (.slice none 0 0))
            clear HX
            have HX := Lib.hid HX1.out
            clear HX1
            refine hK.out _ _ (HCC.out _ K12) (fun hHeld => ?_)
            clear hK K
            generalize w_11.heap.size = B8 at HX HLTB8 hHeld ⊢
            generalize w_11.alloc (.cells #[.bool false, .slice none 0 0] 34) = w_12 at HX K12 hHeld ⊢
            try dsimp only [List.getElem_toArray, List.getElem_cons_succ, List.getElem_cons_zero]
            try simp only [Act.put, List.setIfInBounds_toArray, List.set_cons_zero, List.set_cons_succ]
            refine wpAnyH_ready (rs := [3]) (by kernel_rfl) (by simp) ?_
            refine AllReadyH.cons (o := _) rfl (fun K hK => ?_) (AllReadyH.nil)
            · go_simp
              refine (CV2.out _ K12).mono ?_
              rintro e w_13 ⟨A8, n8, c8, rfl, oo, hn8, kk⟩
              have K13 : Keep (fun _ => False) wc w_13 := Keep.trans K12 kk
              have HX1 := Lib.hid ((HX.out.keep kk).bits oo)
              clear HX oo kk
              have HX := Lib.hid HX1.out
              clear HX1
              try dsimp only
              go_wp2_with fail
              refine hK.out _ _ (HCC.out _ K13) (fun hHeld => ?_)
              clear hK K
              try dsimp only [List.getElem_toArray, List.getElem_cons_succ, List.getElem_cons_zero]
              try simp only [Act.put, List.setIfInBounds_toArray, List.set_cons_zero, List.set_cons_succ]
              refine wpAnyH_ready (rs := [6]) (by kernel_rfl) (by simp) ?_
              refine AllReadyH.cons (o := _) rfl (fun K hK => ?_) (AllReadyH.nil)
              · skip
                obtain ⟨d0, d1, dl⟩ := HX.out.cellsV (.tail _ (.head _))
                obtain ⟨f0, f1⟩ := HX.out.frozenV (.tail _ (.head _))
                go_simp
                clear d0 d1 dl f0 f1
                have K14 : Keep (fun _ => False) wc ((w_13.setCell ⟨B7, 0, none⟩ (.bool z1)).setCell ⟨B7, 1, none⟩ (.slice A7 n7 c7)) := two_keep K13 (by have := HLTB7.out; omega) _ _
                have HX1 := Lib.hid (HX.out.setV (vs' := [(B8, .bool false, .slice none 0 0)]) (.tail _ (.head _)) (by have := HLTB7.out; omega) (List.forall_mem_cons.2 ⟨⟨(.head _), by dsimp only; have := HLTB7.out; have := HLTB8.out; omega⟩, (fun _ h => by cases h)⟩) (.bool z1) (.slice A7 n7 c7))
                clear HX
                have HX := Lib.hid HX1.out
                clear HX1
                refine hK.out _ _ (HCC.out _ K14) (fun hHeld => ?_)
                clear hK K
                generalize (w_13.setCell ⟨B7, 0, none⟩ (.bool z1)).setCell ⟨B7, 1, none⟩ (.slice A7 n7 c7) = w_14 at HX K14 hHeld ⊢
                try dsimp only [List.getElem_toArray, List.getElem_cons_succ, List.getElem_cons_zero]
                try simp only [Act.put, List.setIfInBounds_toArray, List.set_cons_zero, List.set_cons_succ]
                refine wpAnyH_ready (rs := [7]) (by kernel_rfl) (by simp) ?_
                refine AllReadyH.cons (o := _) rfl (fun K hK => ?_) (AllReadyH.nil)
                · skip
                  obtain ⟨d0, d1, dl⟩ := HX.out.cellsV (.tail _ (.head _))
                  obtain ⟨f0, f1⟩ := HX.out.frozenV (.tail _ (.head _))
                  go_simp
                  clear d0 d1 dl f0 f1
                  have K15 : Keep (fun _ => False) wc ((w_14.setCell ⟨B8, 0, none⟩ (.bool z2)).setCell ⟨B8, 1, none⟩ (.slice A8 n8 c8)) := two_keep K14 (by have := HLTB8.out; omega) _ _
                  have HX1 := Lib.hid (HX.out.setV (vs' := [(B7, .bool z1, .slice A7 n7 c7)]) (.tail _ (.head _)) (by have := HLTB8.out; omega) (List.forall_mem_cons.2 ⟨⟨(.head _), by dsimp only; have := HLTB7.out; have := HLTB8.out; omega⟩, (fun _ h => by cases h)⟩) (.bool z2) (.slice A8 n8 c8))
                  clear HX
                  have HX := Lib.hid HX1.out
                  clear HX1
                  refine hK.out _ _ (HCC.out _ K15) (fun hHeld => ?_)
                  clear hK K
                  generalize (w_14.setCell ⟨B8, 0, none⟩ (.bool z2)).setCell ⟨B8, 1, none⟩ (.slice A8 n8 c8) = w_15 at HX K15 hHeld ⊢
                  try dsimp only [List.getElem_toArray, List.getElem_cons_succ, List.getElem_cons_zero]
                  try simp only [Act.put, List.setIfInBounds_toArray, List.set_cons_zero, List.set_cons_succ]
                  refine wpAnyH_done (by kernel_rfl) ?_ _
                  go_wp2_with fail
                  go_meet
                  exact ⟨B7, B8, A7, n7, c7, A8, n8, c8, rfl, rfl, hn7, hn8, HX.out⟩
        · go_simp
          have HLTB8 := Lib.hid (show w.heap.size ≤ w_10.heap.size ∧ wc.heap.size ≤ w_10.heap.size from ⟨HX.out.k.size, K10.size⟩)
          have K11 : Keep (fun _ => False) wc (w_10.alloc (.cells #[.bool false, .slice none 0 0] 34)) := K10.alloc _
          have HX1 := Lib.hid (HX.out.boxV (.bool false) (.slice none 0 0))
          clear HX
          have HX := Lib.hid HX1.out
          clear HX1
          refine hK.out _ _ (HCC.out _ K11) (fun hHeld => ?_)
          clear hK K
          generalize w_10.heap.size = B8 at HX HLTB8 hHeld ⊢
          generalize w_10.alloc (.cells #[.bool false, .slice none 0 0] 34) = w_11 at HX K11 hHeld ⊢
          try dsimp only [List.getElem_toArray, List.getElem_cons_succ, List.getElem_cons_zero]
          try simp only [Act.put, List.setIfInBounds_toArray, List.set_cons_zero, List.set_cons_succ]
          refine wpAnyH_ready (rs := [3, 4]) (by kernel_rfl) (by simp) ?_
          refine AllReadyH.cons (o := _) rfl (fun K hK => ?_) (AllReadyH.cons (o := _) rfl (fun K hK => ?_) (AllReadyH.nil))
          · go_simp
            refine (CV2.out _ K11).mono ?_
            rintro e w_12 ⟨A8, n8, c8, rfl, oo, hn8, kk⟩
            have K12 : Keep (fun _ => False) wc w_12 := Keep.trans K11 kk
            have HX1 := Lib.hid ((HX.out.keep kk).bits oo)
            clear HX oo kk
            have HX := Lib.hid HX1.out
            clear HX1
            try dsimp only
            go_wp2_with fail
            refine hK.out _ _ (HCC.out _ K12) (fun hHeld => ?_)
            clear hK K
            try dsimp only [List.getElem_toArray, List.getElem_cons_succ, List.getElem_cons_zero]
            try simp only [Act.put, List.setIfInBounds_toArray, List.set_cons_zero, List.set_cons_succ]
            refine wpAnyH_ready (rs := [4]) (by kernel_rfl) (by simp) ?_
            refine AllReadyH.cons (o := _) rfl (fun K hK => ?_) (AllReadyH.nil)
            · go_simp
              have HLTB7 := Lib.hid (show w.heap.size ≤ w_12.heap.size ∧ wc.heap.size ≤ w_12.heap.size ∧ B8 < w_12.heap.size from ⟨HX.out.k.size, K12.size, (HX.out.cellsV (.head _)).2.2⟩)
              have K13 : Keep (fun _ => False) wc (w_12.alloc (.cells #[.bool false, .slice none 0 0] 34)) := K12.alloc _
              have HX1 := Lib.hid (HX.out.boxV (.bool false) (.slice none 0 0))
              clear HX
              have HX := Lib.hid HX1.out
              clear HX1
              refine hK.out _ _ (HCC.out _ K13) (fun hHeld => ?_)
              clear hK K
              generalize w_12.heap.size = B7 at HX HLTB7 hHeld ⊢
              generalize w_12.alloc (.cells #[.bool false, .slice none 0 0] 34) = w_13 at HX K13 hHeld ⊢
              try dsimp only [List.getElem_toArray, List.getElem_cons_succ, List.getElem_cons_zero]
              try simp only [Act.put, List.setIfInBounds_toArray, List.set_cons_zero, List.set_cons_succ]
              refine wpAnyH_ready (rs := [6]) (by kernel_rfl) (by simp) ?_
              refine AllReadyH.cons (o := _) rfl (fun K hK => ?_) (AllReadyH.nil)
              · skip
                obtain ⟨d0, d1, dl⟩ := HX.out.cellsV (.head _)
                obtain ⟨f0, f1⟩ := HX.out.frozenV (.head _)
                go_simp
                clear d0 d1 dl f0 f1
                have K14 : Keep (fun _ => False) wc ((w_13.setCell ⟨B7, 0, none⟩ (.bool z1)).setCell ⟨B7, 1, none⟩ (.slice A7 n7 c7)) := two_keep K13 (by have := HLTB7.out; omega) _ _
                have HX1 := Lib.hid (HX.out.setV (vs' := [(B8, .bool false, .slice none 0 0)]) (.head _) (by have := HLTB7.out; omega) (List.forall_mem_cons.2 ⟨⟨(.tail _ (.head _)), by dsimp only; have := HLTB7.out; have := HLTB8.out; omega⟩, (fun _ h => by cases h)⟩) (.bool z1) (.slice A7 n7 c7))
                clear HX
                have HX := Lib.hid HX1.out
                clear HX1
                refine hK.out _ _ (HCC.out _ K14) (fun hHeld => ?_)
                clear hK K
                generalize (w_13.setCell ⟨B7, 0, none⟩ (.bool z1)).setCell ⟨B7, 1, none⟩ (.slice A7 n7 c7) = w_14 at HX K14 hHeld ⊢
                try dsimp only [List.getElem_toArray, List.getElem_cons_succ, List.getElem_cons_zero]
                try simp only [Act.put, List.setIfInBounds_toArray, List.set_cons_zero, List.set_cons_succ]
                refine wpAnyH_ready (rs := [7]) (by kernel_rfl) (by simp) ?_
                refine AllReadyH.cons (o := _) rfl (fun K hK => ?_) (AllReadyH.nil)
                · skip
                  obtain ⟨d0, d1, dl⟩ := HX.out.cellsV (.tail _ (.head _))
                  obtain ⟨f0, f1⟩ := HX.out.frozenV (.tail _ (.head _))
                  go_simp
                  clear d0 d1 dl f0 f1
                  have K15 : Keep (fun _ => False) wc ((w_14.setCell ⟨B8, 0, none⟩ (.bool z2)).setCell ⟨B8, 1, none⟩ (.slice A8 n8 c8)) := two_keep K14 (by have := HLTB8.out; omega) _ _
                  have HX1 := Lib.hid (HX.out.setV (vs' := [(B7, .bool z1, .slice A7 n7 c7)]) (.tail _ (.head _)) (by have := HLTB8.out; omega) (List.forall_mem_cons.2 ⟨⟨(.head _), by dsimp only; have := HLTB7.out; have := HLTB8.out; omega⟩, (fun _ h => by cases h)⟩) (.bool z2) (.slice A8 n8 c8))
                  clear HX
                  have HX := Lib.hid HX1.out
                  clear HX1
                  refine hK.out _ _ (HCC.out _ K15) (fun hHeld => ?_)
                  clear hK K
                  generalize (w_14.setCell ⟨B8, 0, none⟩ (.bool z2)).setCell ⟨B8, 1, none⟩ (.slice A8 n8 c8) = w_15 at HX K15 hHeld ⊢
                  try dsimp only [List.getElem_toArray, List.getElem_cons_succ, List.getElem_cons_zero]
                  try simp only [Act.put, List.setIfInBounds_toArray, List.set_cons_zero, List.set_cons_succ]
                  refine wpAnyH_done (by kernel_rfl) ?_ _
                  go_wp2_with fail
                  go_meet
                  exact ⟨B7, B8, A7, n7, c7, A8, n8, c8, rfl, rfl, hn7, hn8, HX.out⟩
          · go_simp
            have HLTB7 := Lib.hid (show w.heap.size ≤ w_11.heap.size ∧ wc.heap.size ≤ w_11.heap.size ∧ B8 < w_11.heap.size from ⟨HX.out.k.size, K11.size, (HX.out.cellsV (.head _)).2.2⟩)
            have K12 : Keep (fun _ => False) wc (w_11.alloc (.cells #[.bool false, .slice none 0 0] 34)) := K11.alloc _
            have HX1 := Lib.hid (HX.out.boxV (.bool false) (.slice none 0 0))
            clear HX
            have HX := Lib.hid HX1.out
            clear HX1
            refine hK.out _ _ (HCC.out _ K12) (fun hHeld => ?_)
            clear hK K
            generalize w_11.heap.size = B7 at HX HLTB7 hHeld ⊢
            generalize w_11.alloc (.cells #[.bool false, .slice none 0 0] 34) = w_12 at HX K12 hHeld ⊢
            try dsimp only [List.getElem_toArray, List.getElem_cons_succ, List.getElem_cons_zero]
            try simp only [Act.put, List.setIfInBounds_toArray, List.set_cons_zero, List.set_cons_succ]
            refine wpAnyH_ready (rs := [3]) (by kernel_rfl) (by simp) ?_
            refine AllReadyH.cons (o := _) rfl (fun K hK => ?_) (AllReadyH.nil)
            · go_simp
              refine (CV2.out _ K12).mono ?_
              rintro e w_13 ⟨A8, n8, c8, rfl, oo, hn8, kk⟩
              have K13 : Keep (fun _ => False) wc w_13 := Keep.trans K12 kk
              have HX1 := Lib.hid ((HX.out.keep kk).bits oo)
              clear HX oo kk
              have HX := Lib.hid HX1.out
              clear HX1
              try dsimp only
              go_wp2_with fail
              refine hK.out _ _ (HCC.out _ K13) (fun hHeld => ?_)
              clear hK K
              try dsimp only [List.getElem_toArray, List.getElem_cons_succ, List.getElem_cons_zero]
              try simp only [Act.put, List.setIfInBounds_toArray, List.set_cons_zero, List.set_cons_succ]
              refine wpAnyH_ready (rs := [6]) (by kernel_rfl) (by simp) ?_
              refine AllReadyH.cons (o := _) rfl (fun K hK => ?_) (AllReadyH.nil)
              · skip
                obtain ⟨d0, d1, dl⟩ := HX.out.cellsV (.head _)
                obtain ⟨f0, f1⟩ := HX.out.frozenV (.head _)
                go_simp
                clear d0 d1 dl f0 f1
                have K14 : Keep (fun _ => False) wc ((w_13.setCell ⟨B7, 0, none⟩ (.bool z1)).setCell ⟨B7, 1, none⟩ (.slice A7 n7 c7)) := two_keep K13 (by have := HLTB7.out; omega) _ _
                have HX1 := Lib.hid (HX.out.setV (vs' := [(B8, .bool false, .slice none 0 0)]) (.head _) (by have := HLTB7.out; omega) (List.forall_mem_cons.2 ⟨⟨(.tail _ (.head _)), by dsimp only; have := HLTB7.out; have := HLTB8.out; omega⟩, (fun _ h => by cases h)⟩) (.bool z1) (.slice A7 n7 c7))
                clear HX
                have HX := Lib.hid HX1.out
                clear HX1
                refine hK.out _ _ (HCC.out _ K14) (fun hHeld => ?_)
                clear hK K
                generalize (w_13.setCell ⟨B7, 0, none⟩ (.bool z1)).setCell ⟨B7, 1, none⟩ (.slice A7 n7 c7) = w_14 at HX K14 hHeld ⊢
                try dsimp only [List.getElem_toArray, List.getElem_cons_succ, List.getElem_cons_zero]
                try simp only [Act.put, List.setIfInBounds_toArray, List.set_cons_zero, List.set_cons_succ]
                refine wpAnyH_ready (rs := [7]) (by kernel_rfl) (by simp) ?_
                refine AllReadyH.cons (o := _) rfl (fun K hK => ?_) (AllReadyH.nil)
                · skip
                  obtain ⟨d0, d1, dl⟩ := HX.out.cellsV (.tail _ (.head _))
                  obtain ⟨f0, f1⟩ := HX.out.frozenV (.tail _ (.head _))
                  go_simp
                  clear d0 d1 dl f0 f1
                  have K15 : Keep (fun _ => False) wc ((w_14.setCell ⟨B8, 0, none⟩ (.bool z2)).setCell ⟨B8, 1, none⟩ (.slice A8 n8 c8)) := two_keep K14 (by have := HLTB8.out; omega) _ _
                  have HX1 := Lib.hid (HX.out.setV (vs' := [(B7, .bool z1, .slice A7 n7 c7)]) (.tail _ (.head _)) (by have := HLTB8.out; omega) (List.forall_mem_cons.2 ⟨⟨(.head _), by dsimp only; have := HLTB7.out; have := HLTB8.out; omega⟩, (fun _ h => by cases h)⟩) (.bool z2) (.slice A8 n8 c8))
                  clear HX
                  have HX := Lib.hid HX1.out
                  clear HX1
                  refine hK.out _ _ (HCC.out _ K15) (fun hHeld => ?_)
                  clear hK K
                  generalize (w_14.setCell ⟨B8, 0, none⟩ (.bool z2)).setCell ⟨B8, 1, none⟩ (.slice A8 n8 c8) = w_15 at HX K15 hHeld ⊢
                  try dsimp only [List.getElem_toArray, List.getElem_cons_succ, List.getElem_cons_zero]
                  try simp only [Act.put, List.setIfInBounds_toArray, List.set_cons_zero, List.set_cons_succ]
                  refine wpAnyH_done (by kernel_rfl) ?_ _
                  go_wp2_with fail
                  go_meet
                  exact ⟨B7, B8, A7, n7, c7, A8, n8, c8, rfl, rfl, hn7, hn8, HX.out⟩
      · go_simp
        have HLTB7 := Lib.hid (show w.heap.size ≤ wd.heap.size ∧ wc.heap.size ≤ wd.heap.size from ⟨HX.out.k.size, Kd.size⟩)
        have K10 : Keep (fun _ => False) wc (wd.alloc (.cells #[.bool false, .slice none 0 0] 34)) := Kd.alloc _
        have HX1 := Lib.hid (HX.out.boxV (.bool false) (.slice none 0 0))
        clear HX
        have HX := Lib.hid HX1.out
        clear HX1
        refine hK.out _ _ (HCC.out _ K10) (fun hHeld => ?_)
        clear hK K
        generalize wd.heap.size = B7 at HX HLTB7 hHeld ⊢
        generalize wd.alloc (.cells #[.bool false, .slice none 0 0] 34) = w_10 at HX K10 hHeld ⊢
        try dsimp only [List.getElem_toArray, List.getElem_cons_succ, List.getElem_cons_zero]
        try simp only [Act.put, List.setIfInBounds_toArray, List.set_cons_zero, List.set_cons_succ]
        refine wpAnyH_ready (rs := [1, 5]) (by kernel_rfl) (by simp) ?_
        refine AllReadyH.cons (o := _) rfl (fun K hK => ?_) (AllReadyH.cons (o := _) rfl (fun K hK => ?_) (AllReadyH.nil))
        · go_simp
          refine (CV1.out _ K10).mono ?_
          rintro e w_11 ⟨A7, n7, c7, rfl, oo, hn7, kk⟩
          have K11 : Keep (fun _ => False) wc w_11 := Keep.trans K10 kk
          have HX1 := Lib.hid ((HX.out.keep kk).bits oo)
          clear HX oo kk
          have HX := Lib.hid HX1.out
          clear HX1
          try dsimp only
          go_wp2_with fail
          refine hK.out _ _ (HCC.out _ K11) (fun hHeld => ?_)
          clear hK K
          try dsimp only [List.getElem_toArray, List.getElem_cons_succ, List.getElem_cons_zero]
          try simp only [Act.put, List.setIfInBounds_toArray, List.set_cons_zero, List.set_cons_succ]
          refine wpAnyH_ready (rs := [3, 5]) (by kernel_rfl) (by simp) ?_
          refine AllReadyH.cons (o := _) rfl (fun K hK => ?_) (AllReadyH.cons (o := _) rfl (fun K hK => ?_) (AllReadyH.nil))
          · go_simp
            refine (CV2.out _ K11).mono ?_
            rintro e w_12 ⟨A8, n8, c8, rfl, oo, hn8, kk⟩
            have K12 : Keep (fun _ => False) wc w_12 := Keep.trans K11 kk
            have HX1 := Lib.hid ((HX.out.keep kk).bits oo)
            clear HX oo kk
            have HX := Lib.hid HX1.out
            clear HX1
            try dsimp only
            go_wp2_with fail
            refine hK.out _ _ (HCC.out _ K12) (fun hHeld => ?_)
            clear hK K
            try dsimp only [List.getElem_toArray, List.getElem_cons_succ, List.getElem_cons_zero]
            try simp only [Act.put, List.setIfInBounds_toArray, List.set_cons_zero, List.set_cons_succ]
            refine wpAnyH_ready (rs := [5]) (by kernel_rfl) (by simp) ?_
            refine AllReadyH.cons (o := _) rfl (fun K hK => ?_) (AllReadyH.nil)
            · go_simp
              have HLTB8 := Lib.hid (show w.heap.size ≤ w_12.heap.size ∧ wc.heap.size ≤ w_12.heap.size ∧ B7 < w_12.heap.size from ⟨HX.out.k.size, K12.size, (HX.out.cellsV (.head _)).2.2⟩)
              have K13 : Keep (fun _ => False) wc (w_12.alloc (.cells #[.bool false, .slice none 0 0] 34)) := K12.alloc _
              have HX1 := Lib.hid (HX.out.boxV (.bool false) (.slice none 0 0))
              clear HX
              have HX := Lib.hid HX1.out
              clear HX1
              refine hK.out _ _ (HCC.out _ K13) (fun hHeld => ?_)
              clear hK K
              generalize w_12.heap.size = B8 at HX HLTB8 hHeld ⊢
              generalize w_12.alloc (.cells #[.bool false, .slice none 0 0] 34) = w_13 at HX K13 hHeld ⊢
              try dsimp only [List.getElem_toArray, List.getElem_cons_succ, List.getElem_cons_zero]
              try simp only [Act.put, List.setIfInBounds_toArray, List.set_cons_zero, List.set_cons_succ]
              refine wpAnyH_ready (rs := [6]) (by kernel_rfl) (by simp) ?_
              refine AllReadyH.cons (o := _) rfl (fun K hK => ?_) (AllReadyH.nil)
              · skip
                obtain ⟨d0, d1, dl⟩ := HX.out.cellsV (.tail _ (.head _))
                obtain ⟨f0, f1⟩ := HX.out.frozenV (.tail _ (.head _))
                go_simp
                clear d0 d1 dl f0 f1
                have K14 : Keep (fun _ => False) wc ((w_13.setCell ⟨B7, 0, none⟩ (.bool z1)).setCell ⟨B7, 1, none⟩ (.slice A7 n7 c7)) := two_keep K13 (by have := HLTB7.out; omega) _ _
                have HX1 := Lib.hid (HX.out.setV (vs' := [(B8, .bool false, .slice none 0 0)]) (.tail _ (.head _)) (by have := HLTB7.out; omega) (List.forall_mem_cons.2 ⟨⟨(.head _), by dsimp only; have := HLTB7.out; have := HLTB8.out; omega⟩, (fun _ h => by cases h)⟩) (.bool z1) (.slice A7 n7 c7))
                clear HX
                have HX := Lib.hid HX1.out
                clear HX1
                refine hK.out _ _ (HCC.out _ K14) (fun hHeld => ?_)
                clear hK K
                generalize (w_13.setCell ⟨B7, 0, none⟩ (.bool z1)).setCell ⟨B7, 1, none⟩ (.slice A7 n7 c7) = w_14 at HX K14 hHeld ⊢
                try dsimp only [List.getElem_toArray, List.getElem_cons_succ, List.getElem_cons_zero]
                try simp only [Act.put, List.setIfInBounds_toArray, List.set_cons_zero, List.set_cons_succ]
                refine wpAnyH_ready (rs := [7]) (by kernel_rfl) (by simp) ?_
                refine AllReadyH.cons (o := _) rfl (fun K hK => ?_) (AllReadyH.nil)
                · skip
                  obtain ⟨d0, d1, dl⟩ := HX.out.cellsV (.tail _ (.head _))
                  obtain ⟨f0, f1⟩ := HX.out.frozenV (.tail _ (.head _))
                  go_simp
                  clear d0 d1 dl f0 f1
                  have K15 : Keep (fun _ => False) wc ((w_14.setCell ⟨B8, 0, none⟩ (.bool z2)).setCell ⟨B8, 1, none⟩ (.slice A8 n8 c8)) := two_keep K14 (by have := HLTB8.out; omega) _ _
                  have HX1 := Lib.hid (HX.out.setV (vs' := [(B7, .bool z1, .slice A7 n7 c7)]) (.tail _ (.head _)) (by have := HLTB8.out; omega) (List.forall_mem_cons.2 ⟨⟨(.head _), by dsimp only; have := HLTB7.out; have := HLTB8.out; omega⟩, (fun _ h => by cases h)⟩) (.bool z2) (.slice A8 n8 c8))
                  clear HX
                  have HX := Lib.hid HX1.out
                  clear HX1
                  refine hK.out _ _ (HCC.out _ K15) (fun hHeld => ?_)
                  clear hK K
                  generalize (w_14.setCell ⟨B8, 0, none⟩ (.bool z2)).setCell ⟨B8, 1, none⟩ (.slice A8 n8 c8) = w_15 at HX K15 hHeld ⊢
                  try dsimp only [List.getElem_toArray, List.getElem_cons_succ, List.getElem_cons_zero]
                  try simp only [Act.put, List.setIfInBounds_toArray, List.set_cons_zero, List.set_cons_succ]
                  refine wpAnyH_done (by kernel_rfl) ?_ _
                  go_wp2_with fail
                  go_meet
                  exact ⟨B7, B8, A7, n7, c7, A8, n8, c8, rfl, rfl, hn7, hn8, HX.out⟩
          · go_simp
            have HLTB8 := Lib.hid (show w.heap.size ≤ w_11.heap.size ∧ wc.heap.size ≤ w_11.heap.size ∧ B7 < w_11.heap.size from ⟨HX.out.k.size, K11.size, (HX.out.cellsV (.head _)).2.2⟩)
            have K12 : Keep (fun _ => False) wc (w_11.alloc (.cells #[.bool false, .slice none 0 0] 34)) := K11.alloc _
            have HX1 := Lib.hid (HX.out.boxV (.bool false) (.slice none 0 0))
            clear HX
            have HX := Lib.hid HX1.out
            clear HX1
            refine hK.out _ _ (HCC.out _ K12) (fun hHeld => ?_)
            clear hK K
            generalize w_11.heap.size = B8 at HX HLTB8 hHeld ⊢
            generalize w_11.alloc (.cells #[.bool false, .slice none 0 0] 34) = w_12 at HX K12 hHeld ⊢
            try dsimp only [List.getElem_toArray, List.getElem_cons_succ, List.getElem_cons_zero]
            try simp only [Act.put, List.setIfInBounds_toArray, List.set_cons_zero, List.set_cons_succ]
            refine wpAnyH_ready (rs := [3]) (by kernel_rfl) (by simp) ?_
            refine AllReadyH.cons (o := _) rfl (fun K hK => ?_) (AllReadyH.nil)
            · go_simp
              refine (CV2.out _ K12).mono ?_
              rintro e w_13 ⟨A8, n8, c8, rfl, oo, hn8, kk⟩
              have K13 : Keep (fun _ => False) wc w_13 := Keep.trans K12 kk
              have HX1 := Lib.hid ((HX.out.keep kk).bits oo)
              clear HX oo kk
              have HX := Lib.hid HX1.out
              clear HX1
              try dsimp only
              go_wp2_with fail
              refine hK.out _ _ (HCC.out _ K13) (fun hHeld => ?_)
              clear hK K
              try dsimp only [List.getElem_toArray, List.getElem_cons_succ, List.getElem_cons_zero]
              try simp only [Act.put, List.setIfInBounds_toArray, List.set_cons_zero, List.set_cons_succ]
              refine wpAnyH_ready (rs := [6]) (by kernel_rfl) (by simp) ?_
              refine AllReadyH.cons (o := _) rfl (fun K hK => ?_) (AllReadyH.nil)
              · skip
                obtain ⟨d0, d1, dl⟩ := HX.out.cellsV (.tail _ (.head _))
                obtain ⟨f0, f1⟩ := HX.out.frozenV (.tail _ (.head _))
                go_simp
                clear d0 d1 dl f0 f1
                have K14 : Keep (fun _ => False) wc ((w_13.setCell ⟨B7, 0, none⟩ (.bool z1)).setCell ⟨B7, 1, none⟩ (.slice A7 n7 c7)) := two_keep K13 (by have := HLTB7.out; omega) _ _
                have HX1 := Lib.hid (HX.out.setV (vs' := [(B8, .bool false, .slice none 0 0)]) (.tail _ (.head _)) (by have := HLTB7.out; omega) (List.forall_mem_cons.2 ⟨⟨(.head _), by dsimp only; have := HLTB7.out; have := HLTB8.out; omega⟩, (fun _ h => by cases h)⟩) (.bool z1) (.slice A7 n7 c7))
                clear HX
                have HX := Lib.hid HX1.out
                clear HX1
                refine hK.out _ _ (HCC.out _ K14) (fun hHeld => ?_)
                clear hK K
                generalize (w_13.setCell ⟨B7, 0, none⟩ (.bool z1)).setCell ⟨B7, 1, none⟩ (.slice A7 n7 c7) = w_14 at HX K14 hHeld ⊢
                try dsimp only [List.getElem_toArray, List.getElem_cons_succ, List.getElem_cons_zero]
                try simp only [Act.put, List.setIfInBounds_toArray, List.set_cons_zero, List.set_cons_succ]
                refine wpAnyH_ready (rs := [7]) (by kernel_rfl) (by simp) ?_
                refine AllReadyH.cons (o := _) rfl (fun K hK => ?_) (AllReadyH.nil)
                · skip
                  obtain ⟨d0, d1, dl⟩ := HX.out.cellsV (.tail _ (.head _))
                  obtain ⟨f0, f1⟩ := HX.out.frozenV (.tail _ (.head _))
                  go_simp
                  clear d0 d1 dl f0 f1
                  have K15 : Keep (fun _ => False) wc ((w_14.setCell ⟨B8, 0, none⟩ (.bool z2)).setCell ⟨B8, 1, none⟩ (.slice A8 n8 c8)) := two_keep K14 (by have := HLTB8.out; omega) _ _
                  have HX1 := Lib.hid (HX.out.setV (vs' := [(B7, .bool z1, .slice A7 n7 c7)]) (.tail _ (.head _)) (by have := HLTB8.out; omega) (List.forall_mem_cons.2 ⟨⟨(.head _), by dsimp only; have := HLTB7.out; have := HLTB8.out; omega⟩, (fun _ h => by cases h)⟩) (.bool z2) (.slice A8 n8 c8))
                  clear HX
                  have HX := Lib.hid HX1.out
                  clear HX1
                  refine hK.out _ _ (HCC.out _ K15) (fun hHeld => ?_)
                  clear hK K
                  generalize (w_14.setCell ⟨B8, 0, none⟩ (.bool z2)).setCell ⟨B8, 1, none⟩ (.slice A8 n8 c8) = w_15 at HX K15 hHeld ⊢
                  try dsimp only [List.getElem_toArray, List.getElem_cons_succ, List.getElem_cons_zero]
                  try simp only [Act.put, List.setIfInBounds_toArray, List.set_cons_zero, List.set_cons_succ]
                  refine wpAnyH_done (by kernel_rfl) ?_ _
                  go_wp2_with fail
                  go_meet
                  exact ⟨B7, B8, A7, n7, c7, A8, n8, c8, rfl, rfl, hn7, hn8, HX.out⟩
        · go_simp
          have HLTB8 := Lib.hid (show w.heap.size ≤ w_10.heap.size ∧ wc.heap.size ≤ w_10.heap.size ∧ B7 < w_10.heap.size from ⟨HX.out.k.size, K10.size, (HX.out.cellsV (.head _)).2.2⟩)
          have K11 : Keep (fun _ => False) wc (w_10.alloc (.cells #[.bool false, .slice none 0 0] 34)) := K10.alloc _
          have HX1 := Lib.hid (HX.out.boxV (.bool false) (.slice none 0 0))
          clear HX
          have HX := Lib.hid HX1.out
          clear HX1
          refine hK.out _ _ (HCC.out _ K11) (fun hHeld => ?_)
          clear hK K
          generalize w_10.heap.size = B8 at HX HLTB8 hHeld ⊢
          generalize w_10.alloc (.cells #[.bool false, .slice none 0 0] 34) = w_11 at HX K11 hHeld ⊢
          try dsimp only [List.getElem_toArray, List.getElem_cons_succ, List.getElem_cons_zero]
          try simp only [Act.put, List.setIfInBounds_toArray, List.set_cons_zero, List.set_cons_succ]
          refine wpAnyH_ready (rs := [1]) (by kernel_rfl) (by simp) ?_
          refine AllReadyH.cons (o := _) rfl (fun K hK => ?_) (AllReadyH.nil)
          · go_simp
            refine (CV1.out _ K11).mono ?_
            rintro e w_12 ⟨A7, n7, c7, rfl, oo, hn7, kk⟩
            have K12 : Keep (fun _ => False) wc w_12 := Keep.trans K11 kk
            have HX1 := Lib.hid ((HX.out.keep kk).bits oo)
            clear HX oo kk
            have HX := Lib.hid HX1.out
            clear HX1
            try dsimp only
            go_wp2_with fail
            refine hK.out _ _ (HCC.out _ K12) (fun hHeld => ?_)
            clear hK K
            try dsimp only [List.getElem_toArray, List.getElem_cons_succ, List.getElem_cons_zero]
            try simp only [Act.put, List.setIfInBounds_toArray, List.set_cons_zero, List.set_cons_succ]
            refine wpAnyH_ready (rs := [3]) (by kernel_rfl) (by simp) ?_
            refine AllReadyH.cons (o := _) rfl (fun K hK => ?_) (AllReadyH.nil)
            · go_simp
              refine (CV2.out _ K12).mono ?_
              rintro e w_13 ⟨A8, n8, c8, rfl, oo, hn8, kk⟩
              have K13 : Keep (fun _ => False) wc w_13 := Keep.trans K12 kk
              have HX1 := Lib.hid ((HX.out.keep kk).bits oo)
              clear HX oo kk
              have HX := Lib.hid HX1.out
              clear HX1
              try dsimp only
              go_wp2_with fail
              refine hK.out _ _ (HCC.out _ K13) (fun hHeld => ?_)
              clear hK K
              try dsimp only [List.getElem_toArray, List.getElem_cons_succ, List.getElem_cons_zero]
              try simp only [Act.put, List.setIfInBounds_toArray, List.set_cons_zero, List.set_cons_succ]
              refine wpAnyH_ready (rs := [6]) (by kernel_rfl) (by simp) ?_
              refine AllReadyH.cons (o := _) rfl (fun K hK => ?_) (AllReadyH.nil)
              · skip
                obtain ⟨d0, d1, dl⟩ := HX.out.cellsV (.tail _ (.head _))
                obtain ⟨f0, f1⟩ := HX.out.frozenV (.tail _ (.head _))
                go_simp
                clear d0 d1 dl f0 f1
                have K14 : Keep (fun _ => False) wc ((w_13.setCell ⟨B7, 0, none⟩ (.bool z1)).setCell ⟨B7, 1, none⟩ (.slice A7 n7 c7)) := two_keep K13 (by have := HLTB7.out; omega) _ _
                have HX1 := Lib.hid (HX.out.setV (vs' := [(B8, .bool false, .slice none 0 0)]) (.tail _ (.head _)) (by have := HLTB7.out; omega) (List.forall_mem_cons.2 ⟨⟨(.head _), by dsimp only; have := HLTB7.out; have := HLTB8.out; omega⟩, (fun _ h => by cases h)⟩) (.bool z1) (.slice A7 n7 c7))
                clear HX
                have HX := Lib.hid HX1.out
                clear HX1
                refine hK.out _ _ (HCC.out _ K14) (fun hHeld => ?_)
                clear hK K
                generalize (w_13.setCell ⟨B7, 0, none⟩ (.bool z1)).setCell ⟨B7, 1, none⟩ (.slice A7 n7 c7) = w_14 at HX K14 hHeld ⊢
                try dsimp only [List.getElem_toArray, List.getElem_cons_succ, List.getElem_cons_zero]
                try simp only [Act.put, List.setIfInBounds_toArray, List.set_cons_zero, List.set_cons_succ]
                refine wpAnyH_ready (rs := [7]) (by kernel_rfl) (by simp) ?_
                refine AllReadyH.cons (o := _) rfl (fun K hK => ?_) (AllReadyH.nil)
                · skip
                  obtain ⟨d0, d1, dl⟩ := HX.out.cellsV (.tail _ (.head _))
                  obtain ⟨f0, f1⟩ := HX.out.frozenV (.tail _ (.head _))
                  go_simp
                  clear d0 d1 dl f0 f1
                  have K15 : Keep (fun _ => False) wc ((w_14.setCell ⟨B8, 0, none⟩ (.bool z2)).setCell ⟨B8, 1, none⟩ (.slice A8 n8 c8)) := two_keep K14 (by have := HLTB8.out; omega) _ _
                  have HX1 := Lib.hid (HX.out.setV (vs' := [(B7, .bool z1, .slice A7 n7 c7)]) (.tail _ (.head _)) (by have := HLTB8.out; omega) (List.forall_mem_cons.2 ⟨⟨(.head _), by dsimp only; have := HLTB7.out; have := HLTB8.out; omega⟩, (fun _ h => by cases h)⟩) (.bool z2) (.slice A8 n8 c8))
                  clear HX
                  have HX := Lib.hid HX1.out
                  clear HX1
                  refine hK.out _ _ (HCC.out _ K15) (fun hHeld => ?_)
                  clear hK K
                  generalize (w_14.setCell ⟨B8, 0, none⟩ (.bool z2)).setCell ⟨B8, 1, none⟩ (.slice A8 n8 c8) = w_15 at HX K15 hHeld ⊢
                  try dsimp only [List.getElem_toArray, List.getElem_cons_succ, List.getElem_cons_zero]
                  try simp only [Act.put, List.setIfInBounds_toArray, List.set_cons_zero, List.set_cons_succ]
                  refine wpAnyH_done (by kernel_rfl) ?_ _
                  go_wp2_with fail
                  go_meet
                  exact ⟨B7, B8, A7, n7, c7, A8, n8, c8, rfl, rfl, hn7, hn8, HX.out⟩
      · go_simp
        have HLTB8 := Lib.hid (show w.heap.size ≤ wd.heap.size ∧ wc.heap.size ≤ wd.heap.size from ⟨HX.out.k.size, Kd.size⟩)
        have K10 : Keep (fun _ => False) wc (wd.alloc (.cells #[.bool false, .slice none 0 0] 34)) := Kd.alloc _
        have HX1 := Lib.hid (HX.out.boxV (.bool false) (.slice none 0 0))
        clear HX
        have HX := Lib.hid HX1.out
        clear HX1
        refine hK.out _ _ (HCC.out _ K10) (fun hHeld => ?_)
        clear hK K
        generalize wd.heap.size = B8 at HX HLTB8 hHeld ⊢
        generalize wd.alloc (.cells #[.bool false, .slice none 0 0] 34) = w_10 at HX K10 hHeld ⊢
        try dsimp only [List.getElem_toArray, List.getElem_cons_succ, List.getElem_cons_zero]
        try simp only [Act.put, List.setIfInBounds_toArray, List.set_cons_zero, List.set_cons_succ]
        refine wpAnyH_ready (rs := [1, 4]) (by kernel_rfl) (by simp) ?_
        refine AllReadyH.cons (o := _) rfl (fun K hK => ?_) (AllReadyH.cons (o := _) rfl (fun K hK => ?_) (AllReadyH.nil))
        · go_simp
          refine (CV1.out _ K10).mono ?_
          rintro e w_11 ⟨A7, n7, c7, rfl, oo, hn7, kk⟩
          have K11 : Keep (fun _ => False) wc w_11 := Keep.trans K10 kk
          have HX1 := Lib.hid ((HX.out.keep kk).bits oo)
          clear HX oo kk
          have HX := Lib.hid HX1.out
          clear HX1
          try dsimp only
          go_wp2_with fail
          refine hK.out _ _ (HCC.out _ K11) (fun hHeld => ?_)
          clear hK K
          try dsimp only [List.getElem_toArray, List.getElem_cons_succ, List.getElem_cons_zero]
          try simp only [Act.put, List.setIfInBounds_toArray, List.set_cons_zero, List.set_cons_succ]
          refine wpAnyH_ready (rs := [3, 4]) (by kernel_rfl) (by simp) ?_
          refine AllReadyH.cons (o := _) rfl (fun K hK => ?_) (AllReadyH.cons (o := _) rfl (fun K hK => ?_) (AllReadyH.nil))
          · go_simp
            refine (CV2.out _ K11).mono ?_
            rintro e w_12 ⟨A8, n8, c8, rfl, oo, hn8, kk⟩
            have K12 : Keep (fun _ => False) wc w_12 := Keep.trans K11 kk
            have HX1 := Lib.hid ((HX.out.keep kk).bits oo)
            clear HX oo kk
            have HX := Lib.hid HX1.out
            clear HX1
            try dsimp only
            go_wp2_with fail
            refine hK.out _ _ (HCC.out _ K12) (fun hHeld => ?_)
            clear hK K
            try dsimp only [List.getElem_toArray, List.getElem_cons_succ, List.getElem_cons_zero]
            try simp only [Act.put, List.setIfInBounds_toArray, List.set_cons_zero, List.set_cons_succ]
            refine wpAnyH_ready (rs := [4]) (by kernel_rfl) (by simp) ?_
            refine AllReadyH.cons (o := _) rfl (fun K hK => ?_) (AllReadyH.nil)
            · go_simp
              have HLTB7 := Lib.hid (show w.heap.size ≤ w_12.heap.size ∧ wc.heap.size ≤ w_12.heap.size ∧ B8 < w_12.heap.size from ⟨HX.out.k.size, K12.size, (HX.out.cellsV (.head _)).2.2⟩)
              have K13 : Keep (fun _ => False) wc (w_12.alloc (.cells #[.bool false, .slice none 0 0] 34)) := K12.alloc _
              have HX1 := Lib.hid (HX.out.boxV (.bool false) (.slice none 0 0))
              clear HX
              have HX := Lib.hid HX1.out
              clear HX1
              refine hK.out _ _ (HCC.out _ K13) (fun hHeld => ?_)
              clear hK K
              generalize w_12.heap.size = B7 at HX HLTB7 hHeld ⊢
              generalize w_12.alloc (.cells #[.bool false, .slice none 0 0] 34) = w_13 at HX K13 hHeld ⊢
              try dsimp only [List.getElem_toArray, List.getElem_cons_succ, List.getElem_cons_zero]
              try simp only [Act.put, List.setIfInBounds_toArray, List.set_cons_zero, List.set_cons_succ]
              refine wpAnyH_ready (rs := [6]) (by kernel_rfl) (by simp) ?_
              refine AllReadyH.cons (o := _) rfl (fun K hK => ?_) (AllReadyH.nil)
              · skip
                obtain ⟨d0, d1, dl⟩ := HX.out.cellsV (.head _)
                obtain ⟨f0, f1⟩ := HX.out.frozenV (.head _)
                go_simp
                clear d0 d1 dl f0 f1
                have K14 : Keep (fun _ => False) wc ((w_13.setCell ⟨B7, 0, none⟩ (.bool z1)).setCell ⟨B7, 1, none⟩ (.slice A7 n7 c7)) := two_keep K13 (by have := HLTB7.out; omega) _ _
                have HX1 := Lib.hid (HX.out.setV (vs' := [(B8, .bool false, .slice none 0 0)]) (.head _) (by have := HLTB7.out; omega) (List.forall_mem_cons.2 ⟨⟨(.tail _ (.head _)), by dsimp only; have := HLTB7.out; have := HLTB8.out; omega⟩, (fun _ h => by cases h)⟩) (.bool z1) (.slice A7 n7 c7))
                clear HX
                have HX := Lib.hid HX1.out
                clear HX1
                refine hK.out _ _ (HCC.out _ K14) (fun hHeld => ?_)
                clear hK K
                generalize (w_13.setCell ⟨B7, 0, none⟩ (.bool z1)).setCell ⟨B7, 1, none⟩ (.slice A7 n7 c7) = w_14 at HX K14 hHeld ⊢
                try dsimp only [List.getElem_toArray, List.getElem_cons_succ, List.getElem_cons_zero]
                try simp only [Act.put, List.setIfInBounds_toArray, List.set_cons_zero, List.set_cons_succ]
                refine wpAnyH_ready (rs := [7]) (by kernel_rfl) (by simp) ?_
                refine AllReadyH.cons (o := _) rfl (fun K hK => ?_) (AllReadyH.nil)
                · skip
                  obtain ⟨d0, d1, dl⟩ := HX.out.cellsV (.tail _ (.head _))
                  obtain ⟨f0, f1⟩ := HX.out.frozenV (.tail _ (.head _))
                  go_simp
                  clear d0 d1 dl f0 f1
                  have K15 : Keep (fun _ => False) wc ((w_14.setCell ⟨B8, 0, none⟩ (.bool z2)).setCell ⟨B8, 1, none⟩ (.slice A8 n8 c8)) := two_keep K14 (by have := HLTB8.out; omega) _ _
                  have HX1 := Lib.hid (HX.out.setV (vs' := [(B7, .bool z1, .slice A7 n7 c7)]) (.tail _ (.head _)) (by have := HLTB8.out; omega) (List.forall_mem_cons.2 ⟨⟨(.head _), by dsimp only; have := HLTB7.out; have := HLTB8.out; omega⟩, (fun _ h => by cases h)⟩) (.bool z2) (.slice A8 n8 c8))
                  clear HX
                  have HX := Lib.hid HX1.out
                  clear HX1
                  refine hK.out _ _ (HCC.out _ K15) (fun hHeld => ?_)
                  clear hK K
                  generalize (w_14.setCell ⟨B8, 0, none⟩ (.bool z2)).setCell ⟨B8, 1, none⟩ (.slice A8 n8 c8) = w_15 at HX K15 hHeld ⊢
                  try dsimp only [List.getElem_toArray, List.getElem_cons_succ, List.getElem_cons_zero]
                  try simp only [Act.put, List.setIfInBounds_toArray, List.set_cons_zero, List.set_cons_succ]
                  refine wpAnyH_done (by kernel_rfl) ?_ _
                  go_wp2_with fail
                  go_meet
                  exact ⟨B7, B8, A7, n7, c7, A8, n8, c8, rfl, rfl, hn7, hn8, HX.out⟩
          · go_simp
            have HLTB7 := Lib.hid (show w.heap.size ≤ w_11.heap.size ∧ wc.heap.size ≤ w_11.heap.size ∧ B8 < w_11.heap.size from ⟨HX.out.k.size, K11.size, (HX.out.cellsV (.head _)).2.2⟩)
            have K12 : Keep (fun _ => False) wc (w_11.alloc (.cells #[.bool false, .slice none 0 0] 34)) := K11.alloc _
            have HX1 := Lib.hid (HX.out.boxV (.bool false) (.slice none 0 0))
            clear HX
            have HX := Lib.hid HX1.out
            clear HX1
            refine hK.out _ _ (HCC.out _ K12) (fun hHeld => ?_)
            clear hK K
            generalize w_11.heap.size = B7 at HX HLTB7 hHeld ⊢
            generalize w_11.alloc (.cells #[.bool false, .slice none 0 0] 34) = w_12 at HX K12 hHeld ⊢
            try dsimp only [List.getElem_toArray, List.getElem_cons_succ, List.getElem_cons_zero]
            try simp only [Act.put, List.setIfInBounds_toArray, List.set_cons_zero, List.set_cons_succ]
            refine wpAnyH_ready (rs := [3]) (by kernel_rfl) (by simp) ?_
            refine AllReadyH.cons (o := _) rfl (fun K hK => ?_) (AllReadyH.nil)
            · go_simp
              refine (CV2.out _ K12).mono ?_
              rintro e w_13 ⟨A8, n8, c8, rfl, oo, hn8, kk⟩
              have K13 : Keep (fun _ => False) wc w_13 := Keep.trans K12 kk
              have HX1 := Lib.hid ((HX.out.keep kk).bits oo)
              clear HX oo kk
              have HX := Lib.hid HX1.out
              clear HX1
              try dsimp only
              go_wp2_with fail
              refine hK.out _ _ (HCC.out _ K13) (fun hHeld => ?_)
              clear hK K
              try dsimp only [List.getElem_toArray, List.getElem_cons_succ, List.getElem_cons_zero]
              try simp only [Act.put, List.setIfInBounds_toArray, List.set_cons_zero, List.set_cons_succ]
              refine wpAnyH_ready (rs := [6]) (by kernel_rfl) (by simp) ?_
              refine AllReadyH.cons (o := _) rfl (fun K hK => ?_) (AllReadyH.nil)
              · skip
                obtain ⟨d0, d1, dl⟩ := HX.out.cellsV (.head _)
                obtain ⟨f0, f1⟩ := HX.out.frozenV (.head _)
                go_simp
                clear d0 d1 dl f0 f1
                have K14 : Keep (fun _ => False) wc ((w_13.setCell ⟨B7, 0, none⟩ (.bool z1)).setCell ⟨B7, 1, none⟩ (.slice A7 n7 c7)) := two_keep K13 (by have := HLTB7.out; omega) _ _
                have HX1 := Lib.hid (HX.out.setV (vs' := [(B8, .bool false, .slice none 0 0)]) (.head _) (by have := HLTB7.out; omega) (List.forall_mem_cons.2 ⟨⟨(.tail _ (.head _)), by dsimp only; have := HLTB7.out; have := HLTB8.out; omega⟩, (fun _ h => by cases h)⟩) (.bool z1) (.slice A7 n7 c7))
                clear HX
                have HX := Lib.hid HX1.out
                clear HX1
                refine hK.out _ _ (HCC.out _ K14) (fun hHeld => ?_)
                clear hK K
                generalize (w_13.setCell ⟨B7, 0, none⟩ (.bool z1)).setCell ⟨B7, 1, none⟩ (.slice A7 n7 c7) = w_14 at HX K14 hHeld ⊢
                try dsimp only [List.getElem_toArray, List.getElem_cons_succ, List.getElem_cons_zero]
                try simp only [Act.put, List.setIfInBounds_toArray, List.set_cons_zero, List.set_cons_succ]
                refine wpAnyH_ready (rs := [7]) (by kernel_rfl) (by simp) ?_
                refine AllReadyH.cons (o := _) rfl (fun K hK => ?_) (AllReadyH.nil)
                · skip
                  obtain ⟨d0, d1, dl⟩ := HX.out.cellsV (.tail _ (.head _))
                  obtain ⟨f0, f1⟩ := HX.out.frozenV (.tail _ (.head _))
                  go_simp
                  clear d0 d1 dl f0 f1
                  have K15 : Keep (fun _ => False) wc ((w_14.setCell ⟨B8, 0, none⟩ (.bool z2)).setCell ⟨B8, 1, none⟩ (.slice A8 n8 c8)) := two_keep K14 (by have := HLTB8.out; omega) _ _
                  have HX1 := Lib.hid (HX.out.setV (vs' := [(B7, .bool z1, .slice A7 n7 c7)]) (.tail _ (.head _)) (by have := HLTB8.out; omega) (List.forall_mem_cons.2 ⟨⟨(.head _), by dsimp only; have := HLTB7.out; have := HLTB8.out; omega⟩, (fun _ h => by cases h)⟩) (.bool z2) (.slice A8 n8 c8))
                  clear HX
                  have HX := Lib.hid HX1.out
                  clear HX1
                  refine hK.out _ _ (HCC.out _ K15) (fun hHeld => ?_)
                  clear hK K
                  generalize (w_14.setCell ⟨B8, 0, none⟩ (.bool z2)).setCell ⟨B8, 1, none⟩ (.slice A8 n8 c8) = w_15 at HX K15 hHeld ⊢
                  try dsimp only [List.getElem_toArray, List.getElem_cons_succ, List.getElem_cons_zero]
                  try simp only [Act.put, List.setIfInBounds_toArray, List.set_cons_zero, List.set_cons_succ]
                  refine wpAnyH_done (by kernel_rfl) ?_ _
                  go_wp2_with fail
                  go_meet
                  exact ⟨B7, B8, A7, n7, c7, A8, n8, c8, rfl, rfl, hn7, hn8, HX.out⟩
        · go_simp
          have HLTB7 := Lib.hid (show w.heap.size ≤ w_10.heap.size ∧ wc.heap.size ≤ w_10.heap.size ∧ B8 < w_10.heap.size from ⟨HX.out.k.size, K10.size, (HX.out.cellsV (.head _)).2.2⟩)
          have K11 : Keep (fun _ => False) wc (w_10.alloc (.cells #[.bool false, .slice none 0 0] 34)) := K10.alloc _
          have HX1 := Lib.hid (HX.out.boxV (.bool false) (.slice none 0 0))
          clear HX
          have HX := Lib.hid HX1.out
          clear HX1
          refine hK.out _ _ (HCC.out _ K11) (fun hHeld => ?_)
          clear hK K
          generalize w_10.heap.size = B7 at HX HLTB7 hHeld ⊢
          generalize w_10.alloc (.cells #[.bool false, .slice none 0 0] 34) = w_11 at HX K11 hHeld ⊢
          try dsimp only [List.getElem_toArray, List.getElem_cons_succ, List.getElem_cons_zero]
          try simp only [Act.put, List.setIfInBounds_toArray, List.set_cons_zero, List.set_cons_succ]
          refine wpAnyH_ready (rs := [1]) (by kernel_rfl) (by simp) ?_
          refine AllReadyH.cons (o := _) rfl (fun K hK => ?_) (AllReadyH.nil)
          · go_simp
            refine (CV1.out _ K11).mono ?_
            rintro e w_12 ⟨A7, n7, c7, rfl, oo, hn7, kk⟩
            have K12 : Keep (fun _ => False) wc w_12 := Keep.trans K11 kk
            have HX1 := Lib.hid ((HX.out.keep kk).bits oo)
            clear HX oo kk
            have HX := Lib.hid HX1.out
            clear HX1
            try dsimp only
            go_wp2_with fail
            refine hK.out _ _ (HCC.out _ K12) (fun hHeld => ?_)
            clear hK K
            try dsimp only [List.getElem_toArray, List.getElem_cons_succ, List.getElem_cons_zero]
            try simp only [Act.put, List.setIfInBounds_toArray, List.set_cons_zero, List.set_cons_succ]
            refine wpAnyH_ready (rs := [3]) (by kernel_rfl) (by simp) ?_
            refine AllReadyH.cons (o := _) rfl (fun K hK => ?_) (AllReadyH.nil)
            · go_simp
              refine (CV2.out _ K12).mono ?_
              rintro e w_13 ⟨A8, n8, c8, rfl, oo, hn8, kk⟩
              have K13 : Keep (fun _ => False) wc w_13 := Keep.trans K12 kk
              have HX1 := Lib.hid ((HX.out.keep kk).bits oo)
              clear HX oo kk
              have HX := Lib.hid HX1.out
              clear HX1
              try dsimp only
              go_wp2_with fail
              refine hK.out _ _ (HCC.out _ K13) (fun hHeld => ?_)
              clear hK K
              try dsimp only [List.getElem_toArray, List.getElem_cons_succ, List.getElem_cons_zero]
              try simp only [Act.put, List.setIfInBounds_toArray, List.set_cons_zero, List.set_cons_succ]
              refine wpAnyH_ready (rs := [6]) (by kernel_rfl) (by simp) ?_
              refine AllReadyH.cons (o := _) rfl (fun K hK => ?_) (AllReadyH.nil)
              · skip
                obtain ⟨d0, d1, dl⟩ := HX.out.cellsV (.head _)
                obtain ⟨f0, f1⟩ := HX.out.frozenV (.head _)
                go_simp
                clear d0 d1 dl f0 f1
                have K14 : Keep (fun _ => False) wc ((w_13.setCell ⟨B7, 0, none⟩ (.bool z1)).setCell ⟨B7, 1, none⟩ (.slice A7 n7 c7)) := two_keep K13 (by have := HLTB7.out; omega) _ _
                have HX1 := Lib.hid (HX.out.setV (vs' := [(B8, .bool false, .slice none 0 0)]) (.head _) (by have := HLTB7.out; omega) (List.forall_mem_cons.2 ⟨⟨(.tail _ (.head _)), by dsimp only; have := HLTB7.out; have := HLTB8.out; omega⟩, (fun _ h => by cases h)⟩) (.bool z1) (.slice A7 n7 c7))
                clear HX
                have HX := Lib.hid HX1.out
                clear HX1
                refine hK.out _ _ (HCC.out _ K14) (fun hHeld => ?_)
                clear hK K
                generalize (w_13.setCell ⟨B7, 0, none⟩ (.bool z1)).setCell ⟨B7, 1, none⟩ (.slice A7 n7 c7) = w_14 at HX K14 hHeld ⊢
                try dsimp only [List.getElem_toArray, List.getElem_cons_succ, List.getElem_cons_zero]
                try simp only [Act.put, List.setIfInBounds_toArray, List.set_cons_zero, List.set_cons_succ]
                refine wpAnyH_ready (rs := [7]) (by kernel_rfl) (by simp) ?_
                refine AllReadyH.cons (o := _) rfl (fun K hK => ?_) (AllReadyH.nil)
                · skip
                  obtain ⟨d0, d1, dl⟩ := HX.out.cellsV (.tail _ (.head _))
                  obtain ⟨f0, f1⟩ := HX.out.frozenV (.tail _ (.head _))
                  go_simp
                  clear d0 d1 dl f0 f1
                  have K15 : Keep (fun _ => False) wc ((w_14.setCell ⟨B8, 0, none⟩ (.bool z2)).setCell ⟨B8, 1, none⟩ (.slice A8 n8 c8)) := two_keep K14 (by have := HLTB8.out; omega) _ _
                  have HX1 := Lib.hid (HX.out.setV (vs' := [(B7, .bool z1, .slice A7 n7 c7)]) (.tail _ (.head _)) (by have := HLTB8.out; omega) (List.forall_mem_cons.2 ⟨⟨(.head _), by dsimp only; have := HLTB7.out; have := HLTB8.out; omega⟩, (fun _ h => by cases h)⟩) (.bool z2) (.slice A8 n8 c8))
                  clear HX
                  have HX := Lib.hid HX1.out
                  clear HX1
                  refine hK.out _ _ (HCC.out _ K15) (fun hHeld => ?_)
                  clear hK K
                  generalize (w_14.setCell ⟨B8, 0, none⟩ (.bool z2)).setCell ⟨B8, 1, none⟩ (.slice A8 n8 c8) = w_15 at HX K15 hHeld ⊢
                  try dsimp only [List.getElem_toArray, List.getElem_cons_succ, List.getElem_cons_zero]
                  try simp only [Act.put, List.setIfInBounds_toArray, List.set_cons_zero, List.set_cons_succ]
                  refine wpAnyH_done (by kernel_rfl) ?_ _
                  go_wp2_with fail
                  go_meet
                  exact ⟨B7, B8, A7, n7, c7, A8, n8, c8, rfl, rfl, hn7, hn8, HX.out⟩
    case rest =>
      obtain ⟨B7, B8, A7, n7, c7, A8, n8, c8, rfl, rfl, ln7, ln8, HXe⟩ := hcut
      clear g0 g1 gl f0 f1 fl s0 s1 sl r0 r1 rl
      clear HX CV1 CV2 Kd
      have HX := Lib.hid HXe
      clear HXe
      by_cases hb0 : xb = 0
      · have HL0 := Lib.hid (show lval l2 = 0 from (sval_zero p2 l2).1 (by rw [← HV.out.2]; exact hb0))
        obtain rfl : n8 = 0 := by
          have h9 := (HX.out.b _ (.head _)).len
          rw [hb0] at h9
          simp only [bits2] at h9
          rw [show (0 : Int).natAbs = 0 from rfl, digs_zero] at h9
          exact h9.symm
        clear hb0
        obtain ⟨g0, g1, gl⟩ := HX.out.cells (.head _)
        obtain ⟨f0, f1, fl⟩ := HX.out.cells (.tail _ (.head _))
        obtain ⟨s0, s1, sl⟩ := HX.out.cells (.tail _ (.tail _ (.head _)))
        obtain ⟨r0, r1, rl⟩ := HX.out.cells (.tail _ (.tail _ (.tail _ (.head _))))
        obtain ⟨j0, j1, jl⟩ := HX.out.cellsV (.head _)
        obtain ⟨i0, i1, il⟩ := HX.out.cellsV (.tail _ (.head _))
        try dsimp only
        go_wp2_with fail
        clear g0 g1 gl f0 f1 fl s0 s1 sl r0 r1 rl j0 j1 jl i0 i1 il
        refine (quo_zero p1 A1 n1 c1 p2 A2 n2 c2 l2 _ (HX.out.e.m _ (.head _)) HL0.out).mono ?_
        rintro e w_x ⟨rfl, k1⟩
        have HX1 := Lib.hid (HX.out.keep k1)
        clear HX k1
        have HX := Lib.hid HX1.out
        clear HX1
        obtain ⟨g0, g1, gl⟩ := HX.out.cells (.head _)
        obtain ⟨f0, f1, fl⟩ := HX.out.cells (.tail _ (.head _))
        obtain ⟨s0, s1, sl⟩ := HX.out.cells (.tail _ (.tail _ (.head _)))
        obtain ⟨r0, r1, rl⟩ := HX.out.cells (.tail _ (.tail _ (.tail _ (.head _))))
        obtain ⟨j0, j1, jl⟩ := HX.out.cellsV (.head _)
        obtain ⟨i0, i1, il⟩ := HX.out.cellsV (.tail _ (.head _))
        try dsimp only
        go_wp2_with fail
        clear g0 g1 gl f0 f1 fl s0 s1 sl r0 r1 rl j0 j1 jl i0 i1 il
        have HX1 := Lib.hid (HX.out.box (.bool false) (.slice none 0 0))
        clear HX
        have HX := Lib.hid HX1.out
        clear HX1
        generalize hw5 : w_x.alloc (.cells #[.bool false, .slice none 0 0] 25) = w5x at HX ⊢
        clear hw5
        generalize w_x.heap.size = Bx at HX ⊢
        refine (rem_zero p1 A1 n1 c1 p2 A2 n2 c2 l2 _ (HX.out.e.m _ (.head _)) HL0.out).mono ?_
        rintro e w_y ⟨rfl, k1⟩
        have HX1 := Lib.hid (HX.out.keep k1)
        clear HX k1
        have HX := Lib.hid HX1.out
        clear HX1
        obtain ⟨x0, x1, xl⟩ := HX.out.cells (.head _)
        obtain ⟨g0, g1, gl⟩ := HX.out.cells (.tail _ (.head _))
        obtain ⟨f0, f1, fl⟩ := HX.out.cells (.tail _ (.tail _ (.head _)))
        obtain ⟨s0, s1, sl⟩ := HX.out.cells (.tail _ (.tail _ (.tail _ (.head _))))
        obtain ⟨r0, r1, rl⟩ := HX.out.cells (.tail _ (.tail _ (.tail _ (.tail _ (.head _)))))
        obtain ⟨j0, j1, jl⟩ := HX.out.cellsV (.head _)
        obtain ⟨i0, i1, il⟩ := HX.out.cellsV (.tail _ (.head _))
        try dsimp only
        go_wp2_with fail
        clear x0 x1 xl g0 g1 gl f0 f1 fl s0 s1 sl r0 r1 rl j0 j1 jl i0 i1 il
        have HX1 := Lib.hid (HX.out.box (.bool false) (.slice none 0 0))
        clear HX
        have HX := Lib.hid HX1.out
        clear HX1
        generalize hw5 : w_y.alloc (.cells #[.bool false, .slice none 0 0] 25) = w5y at HX ⊢
        clear hw5
        generalize w_y.heap.size = By at HX ⊢
        refine (mod_zero p1 A1 n1 c1 p2 A2 n2 c2 l2 _ (HX.out.e.m _ (.head _)) HL0.out).mono ?_
        rintro e w_u ⟨rfl, k1⟩
        have HX1 := Lib.hid (HX.out.keep k1)
        clear HX k1
        have HX := Lib.hid HX1.out
        clear HX1
        obtain ⟨y0, y1, yl⟩ := HX.out.cells (.head _)
        obtain ⟨x0, x1, xl⟩ := HX.out.cells (.tail _ (.head _))
        obtain ⟨g0, g1, gl⟩ := HX.out.cells (.tail _ (.tail _ (.head _)))
        obtain ⟨f0, f1, fl⟩ := HX.out.cells (.tail _ (.tail _ (.tail _ (.head _))))
        obtain ⟨s0, s1, sl⟩ := HX.out.cells (.tail _ (.tail _ (.tail _ (.tail _ (.head _)))))
        obtain ⟨r0, r1, rl⟩ := HX.out.cells (.tail _ (.tail _ (.tail _ (.tail _ (.tail _ (.head _))))))
        obtain ⟨j0, j1, jl⟩ := HX.out.cellsV (.head _)
        obtain ⟨i0, i1, il⟩ := HX.out.cellsV (.tail _ (.head _))
        try dsimp only
        go_wp2_with fail
        clear y0 y1 yl x0 x1 xl g0 g1 gl f0 f1 fl s0 s1 sl r0 r1 rl j0 j1 jl i0 i1 il
        have HX1 := Lib.hid (HX.out.box (.bool false) (.slice none 0 0))
        clear HX
        have HX := Lib.hid HX1.out
        clear HX1
        refine (awake_any _ (HT.out.keep HX.out.k)).mono ?_
        rintro e wz ⟨rfl, kz⟩
        have HZ := Lib.hid (HX.out.k.trans kz)
        clear kz
        try dsimp only
        go_wp2_with fail
        go_ret
        exact ⟨rfl, HZ.out⟩
      · have HB := Lib.hid (show 0 < lval l2 from by have := (sval_zero p2 l2).2; rw [← HV.out.2] at this; omega)
        have HB0 := Lib.hid hb0
        clear hb0
        obtain ⟨g0, g1, gl⟩ := HX.out.cells (.head _)
        obtain ⟨f0, f1, fl⟩ := HX.out.cells (.tail _ (.head _))
        obtain ⟨s0, s1, sl⟩ := HX.out.cells (.tail _ (.tail _ (.head _)))
        obtain ⟨r0, r1, rl⟩ := HX.out.cells (.tail _ (.tail _ (.tail _ (.head _))))
        obtain ⟨j0, j1, jl⟩ := HX.out.cellsV (.head _)
        obtain ⟨i0, i1, il⟩ := HX.out.cellsV (.tail _ (.head _))
        try dsimp only
        go_wp2_with fail
        clear g0 g1 gl f0 f1 fl s0 s1 sl r0 r1 rl j0 j1 jl i0 i1 il
        have H0 := Lib.hid HX.out.e
        have hn8 : ((n8 : Int) == 0) = false := by
          rw [beq_eq_false_iff_ne]
          intro h9
          have h8 := (HX.out.b _ (.head _)).len
          obtain rfl : n8 = 0 := by omega
          have h7 := digs_nil two2 (List.eq_nil_of_length_eq_zero h8 : bits2 xb.natAbs = [])
          have := HB0.out
          omega
        refine (quo_any p1 A1 n1 c1 l1 p2 A2 n2 c2 l2 _ (HX.out.e.m _ (.tail _ (.head _))) (HX.out.e.m _ (.head _)) (by omega) (by omega) HB.out).mono ?_
        intro e w_x hres
        rw [← HV.out.1, ← HV.out.2] at hres
        obtain ⟨k_x, q_x, A_x, n_x, c_x, l_x, f_x, rfl, OW, LM, ln_x, ho⟩ := hres.own
        have HO_x := Lib.hid ho
        have OW_x := Lib.hid OW
        have KK_x := Lib.hid k_x
        clear ho hres OW
        have HX1 := Lib.hid (HX.out.keep k_x)
        clear HX k_x
        have HX := Lib.hid HX1.out
        clear HX1
        have HX1 := Lib.hid (HX.out.num LM)
        clear HX LM
        have HX := Lib.hid HX1.out
        clear HX1
        have K0 := KK_x
        obtain ⟨g0, g1, gl⟩ := HX.out.cells (.head _)
        obtain ⟨f0, f1, fl⟩ := HX.out.cells (.tail _ (.head _))
        obtain ⟨s0, s1, sl⟩ := HX.out.cells (.tail _ (.tail _ (.head _)))
        obtain ⟨r0, r1, rl⟩ := HX.out.cells (.tail _ (.tail _ (.tail _ (.head _))))
        obtain ⟨j0, j1, jl⟩ := HX.out.cellsV (.head _)
        obtain ⟨i0, i1, il⟩ := HX.out.cellsV (.tail _ (.head _))
        try dsimp only
        go_wp2_with fail
        clear g0 g1 gl f0 f1 fl s0 s1 sl r0 r1 rl j0 j1 jl i0 i1 il
        have HX1 := Lib.hid (HX.out.box (.bool q_x) (.slice A_x n_x c_x))
        clear HX
        have HX := Lib.hid HX1.out
        clear HX1
        have OW1 := Lib.hid (OW_x.out.keep0 ((Keep.refl (fun _ => False) w_x).alloc (.cells #[.bool q_x, .slice A_x n_x c_x] 25)))
        clear OW_x
        have OW_x := OW1
        clear OW1
        have KW1 := Lib.hid (K0.out.alloc (.cells #[.bool q_x, .slice A_x n_x c_x] 25))
        clear K0
        have K0 := KW1
        clear KW1
        have SZ_x := Lib.hid (KK_x.out.alloc (.cells #[.bool q_x, .slice A_x n_x c_x] 25)).size
        clear KK_x
        generalize hw5 : w_x.alloc (.cells #[.bool q_x, .slice A_x n_x c_x] 25) = w5 at HX K0 SZ_x OW_x ⊢
        clear hw5
        generalize w_x.heap.size = Bx at HX ⊢
        have ON_x := OW_x
        have KN_x := Lib.hid K0.out.size
        refine (rem_any p1 A1 n1 c1 l1 p2 A2 n2 c2 l2 _ (HX.out.e.m _ (.tail _ (.tail _ (.head _)))) (HX.out.e.m _ (.tail _ (.head _))) (by omega) (by omega) HB.out).mono ?_
        intro e w_y hres
        rw [← HV.out.1, ← HV.out.2] at hres
        obtain ⟨k_y, q_y, A_y, n_y, c_y, l_y, f_y, rfl, OW, LM, ln_y, ho⟩ := hres.own
        have HO_y := Lib.hid ho
        have OW_y := Lib.hid OW
        have KK_y := Lib.hid k_y
        clear ho hres OW
        have HX1 := Lib.hid (HX.out.keep k_y)
        clear HX k_y
        have HX := Lib.hid HX1.out
        clear HX1
        have HX1 := Lib.hid (HX.out.num LM)
        clear HX LM
        have HX := Lib.hid HX1.out
        clear HX1
        have OW1 := Lib.hid (OW_x.out.keep0 KK_y.out)
        clear OW_x
        have OW_x := OW1
        clear OW1
        have KW1 := Lib.hid (K0.out.trans KK_y.out)
        clear K0
        have K0 := KW1
        clear KW1
        obtain ⟨x0, x1, xl⟩ := HX.out.cells (.head _)
        obtain ⟨g0, g1, gl⟩ := HX.out.cells (.tail _ (.head _))
        obtain ⟨f0, f1, fl⟩ := HX.out.cells (.tail _ (.tail _ (.head _)))
        obtain ⟨s0, s1, sl⟩ := HX.out.cells (.tail _ (.tail _ (.tail _ (.head _))))
        obtain ⟨r0, r1, rl⟩ := HX.out.cells (.tail _ (.tail _ (.tail _ (.tail _ (.head _)))))
        obtain ⟨j0, j1, jl⟩ := HX.out.cellsV (.head _)
        obtain ⟨i0, i1, il⟩ := HX.out.cellsV (.tail _ (.head _))
        try dsimp only
        go_wp2_with fail
        clear x0 x1 xl g0 g1 gl f0 f1 fl s0 s1 sl r0 r1 rl j0 j1 jl i0 i1 il
        have HX1 := Lib.hid (HX.out.box (.bool q_y) (.slice A_y n_y c_y))
        clear HX
        have HX := Lib.hid HX1.out
        clear HX1
        have OW1 := Lib.hid (OW_x.out.keep0 ((Keep.refl (fun _ => False) w_y).alloc (.cells #[.bool q_y, .slice A_y n_y c_y] 25)))
        clear OW_x
        have OW_x := OW1
        clear OW1
        have OW1 := Lib.hid (OW_y.out.keep0 ((Keep.refl (fun _ => False) w_y).alloc (.cells #[.bool q_y, .slice A_y n_y c_y] 25)))
        clear OW_y
        have OW_y := OW1
        clear OW1
        have KW1 := Lib.hid (K0.out.alloc (.cells #[.bool q_y, .slice A_y n_y c_y] 25))
        clear K0
        have K0 := KW1
        clear KW1
        have SZ_y := Lib.hid (KK_y.out.alloc (.cells #[.bool q_y, .slice A_y n_y c_y] 25)).size
        clear KK_y
        generalize hw5 : w_y.alloc (.cells #[.bool q_y, .slice A_y n_y c_y] 25) = w6 at HX K0 SZ_y OW_x OW_y ⊢
        clear hw5
        generalize w_y.heap.size = By at HX ⊢
        have ON_y := OW_y
        have KN_y := Lib.hid K0.out.size
        refine (mod_any p1 A1 n1 c1 l1 p2 A2 n2 c2 l2 _ (HX.out.e.m _ (.tail _ (.tail _ (.tail _ (.head _))))) (HX.out.e.m _ (.tail _ (.tail _ (.head _)))) (by omega) (by omega) HB.out).mono ?_
        intro e w_u hres
        rw [← HV.out.1, ← HV.out.2] at hres
        obtain ⟨k_u, q_u, A_u, n_u, c_u, l_u, f_u, rfl, OW, LM, ln_u, ho⟩ := hres.own
        have HO_u := Lib.hid ho
        have OW_u := Lib.hid OW
        have KK_u := Lib.hid k_u
        clear ho hres OW
        have HX1 := Lib.hid (HX.out.keep k_u)
        clear HX k_u
        have HX := Lib.hid HX1.out
        clear HX1
        have HX1 := Lib.hid (HX.out.num LM)
        clear HX LM
        have HX := Lib.hid HX1.out
        clear HX1
        have OW1 := Lib.hid (OW_x.out.keep0 KK_u.out)
        clear OW_x
        have OW_x := OW1
        clear OW1
        have OW1 := Lib.hid (OW_y.out.keep0 KK_u.out)
        clear OW_y
        have OW_y := OW1
        clear OW1
        have KW1 := Lib.hid (K0.out.trans KK_u.out)
        clear K0
        have K0 := KW1
        clear KW1
        obtain ⟨y0, y1, yl⟩ := HX.out.cells (.head _)
        obtain ⟨x0, x1, xl⟩ := HX.out.cells (.tail _ (.head _))
        obtain ⟨g0, g1, gl⟩ := HX.out.cells (.tail _ (.tail _ (.head _)))
        obtain ⟨f0, f1, fl⟩ := HX.out.cells (.tail _ (.tail _ (.tail _ (.head _))))
        obtain ⟨s0, s1, sl⟩ := HX.out.cells (.tail _ (.tail _ (.tail _ (.tail _ (.head _)))))
        obtain ⟨r0, r1, rl⟩ := HX.out.cells (.tail _ (.tail _ (.tail _ (.tail _ (.tail _ (.head _))))))
        obtain ⟨j0, j1, jl⟩ := HX.out.cellsV (.head _)
        obtain ⟨i0, i1, il⟩ := HX.out.cellsV (.tail _ (.head _))
        try dsimp only
        go_wp2_with fail
        clear y0 y1 yl x0 x1 xl g0 g1 gl f0 f1 fl s0 s1 sl r0 r1 rl j0 j1 jl i0 i1 il
        have HX1 := Lib.hid (HX.out.box (.bool q_u) (.slice A_u n_u c_u))
        clear HX
        have HX := Lib.hid HX1.out
        clear HX1
        have OW1 := Lib.hid (OW_x.out.keep0 ((Keep.refl (fun _ => False) w_u).alloc (.cells #[.bool q_u, .slice A_u n_u c_u] 25)))
        clear OW_x
        have OW_x := OW1
        clear OW1
        have OW1 := Lib.hid (OW_y.out.keep0 ((Keep.refl (fun _ => False) w_u).alloc (.cells #[.bool q_u, .slice A_u n_u c_u] 25)))
        clear OW_y
        have OW_y := OW1
        clear OW1
        have OW1 := Lib.hid (OW_u.out.keep0 ((Keep.refl (fun _ => False) w_u).alloc (.cells #[.bool q_u, .slice A_u n_u c_u] 25)))
        clear OW_u
        have OW_u := OW1
        clear OW1
        have KW1 := Lib.hid (K0.out.alloc (.cells #[.bool q_u, .slice A_u n_u c_u] 25))
        clear K0
        have K0 := KW1
        clear KW1
        have SZ_u := Lib.hid (KK_u.out.alloc (.cells #[.bool q_u, .slice A_u n_u c_u] 25)).size
        clear KK_u
        generalize hw5 : w_u.alloc (.cells #[.bool q_u, .slice A_u n_u c_u] 25) = w7 at HX K0 SZ_u OW_x OW_y OW_u ⊢
        clear hw5
        generalize w_u.heap.size = Bu at HX ⊢
        have ON_u := OW_u
        have KN_u := Lib.hid K0.out.size
        refine (divide_any xa xb z1 z2 z3 z4 z5 A7 n7 c7 A8 n8 c8 _ HZ.out.1 HZ.out.2.1 HZ2.out.1 HZ2.out.2.1 HZ2.out.2.2 (HX.out.b _ (.tail _ (.head _))) (HX.out.b _ (.head _)) HB0.out (by omega) (by omega)).mono ?_
        rintro e w9 ⟨Q, nq, cq, R, nr, cr, M, nm, cm, rfl, bq, br, bm, k9⟩
        have OW1 := Lib.hid (OW_x.out.keep0 k9)
        clear OW_x
        have OW_x := OW1
        clear OW1
        have OW1 := Lib.hid (OW_y.out.keep0 k9)
        clear OW_y
        have OW_y := OW1
        clear OW1
        have OW1 := Lib.hid (OW_u.out.keep0 k9)
        clear OW_u
        have OW_u := OW1
        clear OW1
        have KW1 := Lib.hid (K0.out.trans k9)
        clear K0
        have K0 := KW1
        clear KW1
        have HX1 := Lib.hid ((((HX.out.keep k9).bits bq).bits br).bits bm)
        clear HX k9 bq br bm
        have HX := Lib.hid HX1.out
        clear HX1
        have HX1 := Lib.hid (((HX.out.boxV (.bool z3) (.slice Q nq cq)).boxV (.bool z4) (.slice R nr cr)).boxV (.bool z5) (.slice M nm cm))
        clear HX
        have HX := Lib.hid HX1.out
        clear HX1
        rw [World.size_alloc, World.size_alloc] at HX
        obtain ⟨x0, x1, xl⟩ := HX.out.cells (.tail _ (.tail _ (.head _)))
        obtain ⟨y0, y1, yl⟩ := HX.out.cells (.tail _ (.head _))
        obtain ⟨u0, u1, ul⟩ := HX.out.cells (.head _)
        obtain ⟨va0, va1, val⟩ := HX.out.cellsV (.tail _ (.tail _ (.head _)))
        obtain ⟨vb0, vb1, vbl⟩ := HX.out.cellsV (.tail _ (.head _))
        obtain ⟨vc0, vc1, vcl⟩ := HX.out.cellsV (.head _)
        try dsimp only
        go_wp2_with fail
        clear x0 x1 xl y0 y1 yl u0 u1 ul va0 va1 val vb0 vb1 vbl vc0 vc1 vcl
        have KA : Keep (fun _ => False) w9 (((w9.alloc (.cells #[.bool z3, .slice Q nq cq] 34)).alloc (.cells #[.bool z4, .slice R nr cr] 34)).alloc (.cells #[.bool z5, .slice M nm cm] 34)) := (((Keep.refl _ _).alloc _).alloc _).alloc _
        have OW1 := Lib.hid (OW_x.out.keep0 KA)
        clear OW_x
        have OW_x := OW1
        clear OW1
        have OW1 := Lib.hid (OW_y.out.keep0 KA)
        clear OW_y
        have OW_y := OW1
        clear OW1
        have OW1 := Lib.hid (OW_u.out.keep0 KA)
        clear OW_u
        have OW_u := OW1
        clear OW1
        have KW1 := Lib.hid (K0.out.trans KA)
        clear K0
        have K0 := KW1
        clear KW1
        clear KA
        generalize w9.heap.size = B9 at HX ⊢
        generalize ((w9.alloc (.cells #[.bool z3, .slice Q nq cq] 34)).alloc (.cells #[.bool z4, .slice R nr cr] 34)).alloc (.cells #[.bool z5, .slice M nm cm] 34) = w10 at HX K0 OW_x OW_y OW_u ⊢
        refine (is_z HZ2.out.1 HO_x.out (HX.out.e.m _ (.tail _ (.tail _ (.head _)))) (HX.out.b _ (.tail _ (.tail _ (.head _))))).mono ?_
        rintro e wi ⟨rfl, ki⟩
        have OW1 := Lib.hid (OW_x.out.keep0 ki)
        clear OW_x
        have OW_x := OW1
        clear OW1
        have OW1 := Lib.hid (OW_y.out.keep0 ki)
        clear OW_y
        have OW_y := OW1
        clear OW1
        have OW1 := Lib.hid (OW_u.out.keep0 ki)
        clear OW_u
        have OW_u := OW1
        clear OW1
        have KW1 := Lib.hid (K0.out.trans ki)
        clear K0
        have K0 := KW1
        clear KW1
        have HX1 := Lib.hid (HX.out.keep ki)
        clear HX ki
        have HX := Lib.hid HX1.out
        clear HX1
        obtain ⟨u0, u1, ul⟩ := HX.out.cells (.head _)
        obtain ⟨y0, y1, yl⟩ := HX.out.cells (.tail _ (.head _))
        obtain ⟨x0, x1, xl⟩ := HX.out.cells (.tail _ (.tail _ (.head _)))
        obtain ⟨g0, g1, gl⟩ := HX.out.cells (.tail _ (.tail _ (.tail _ (.head _))))
        obtain ⟨f0, f1, fl⟩ := HX.out.cells (.tail _ (.tail _ (.tail _ (.tail _ (.head _)))))
        obtain ⟨s0, s1, sl⟩ := HX.out.cells (.tail _ (.tail _ (.tail _ (.tail _ (.tail _ (.head _))))))
        obtain ⟨r0, r1, rl⟩ := HX.out.cells (.tail _ (.tail _ (.tail _ (.tail _ (.tail _ (.tail _ (.head _)))))))
        obtain ⟨vc0, vc1, vcl⟩ := HX.out.cellsV (.head _)
        obtain ⟨vb0, vb1, vbl⟩ := HX.out.cellsV (.tail _ (.head _))
        obtain ⟨va0, va1, val⟩ := HX.out.cellsV (.tail _ (.tail _ (.head _)))
        obtain ⟨j0, j1, jl⟩ := HX.out.cellsV (.tail _ (.tail _ (.tail _ (.head _))))
        obtain ⟨i0, i1, il⟩ := HX.out.cellsV (.tail _ (.tail _ (.tail _ (.tail _ (.head _)))))
        try dsimp only
        go_wp2_with fail
        clear u0 u1 ul y0 y1 yl x0 x1 xl g0 g1 gl f0 f1 fl s0 s1 sl r0 r1 rl vc0 vc1 vcl vb0 vb1 vbl va0 va1 val j0 j1 jl i0 i1 il
        refine (is_z HZ2.out.2.1 HO_y.out (HX.out.e.m _ (.tail _ (.head _))) (HX.out.b _ (.tail _ (.head _)))).mono ?_
        rintro e wi ⟨rfl, ki⟩
        have OW1 := Lib.hid (OW_x.out.keep0 ki)
        clear OW_x
        have OW_x := OW1
        clear OW1
        have OW1 := Lib.hid (OW_y.out.keep0 ki)
        clear OW_y
        have OW_y := OW1
        clear OW1
        have OW1 := Lib.hid (OW_u.out.keep0 ki)
        clear OW_u
        have OW_u := OW1
        clear OW1
        have KW1 := Lib.hid (K0.out.trans ki)
        clear K0
        have K0 := KW1
        clear KW1
        have HX1 := Lib.hid (HX.out.keep ki)
        clear HX ki
        have HX := Lib.hid HX1.out
        clear HX1
        obtain ⟨u0, u1, ul⟩ := HX.out.cells (.head _)
        obtain ⟨y0, y1, yl⟩ := HX.out.cells (.tail _ (.head _))
        obtain ⟨x0, x1, xl⟩ := HX.out.cells (.tail _ (.tail _ (.head _)))
        obtain ⟨g0, g1, gl⟩ := HX.out.cells (.tail _ (.tail _ (.tail _ (.head _))))
        obtain ⟨f0, f1, fl⟩ := HX.out.cells (.tail _ (.tail _ (.tail _ (.tail _ (.head _)))))
        obtain ⟨s0, s1, sl⟩ := HX.out.cells (.tail _ (.tail _ (.tail _ (.tail _ (.tail _ (.head _))))))
        obtain ⟨r0, r1, rl⟩ := HX.out.cells (.tail _ (.tail _ (.tail _ (.tail _ (.tail _ (.tail _ (.head _)))))))
        obtain ⟨vc0, vc1, vcl⟩ := HX.out.cellsV (.head _)
        obtain ⟨vb0, vb1, vbl⟩ := HX.out.cellsV (.tail _ (.head _))
        obtain ⟨va0, va1, val⟩ := HX.out.cellsV (.tail _ (.tail _ (.head _)))
        obtain ⟨j0, j1, jl⟩ := HX.out.cellsV (.tail _ (.tail _ (.tail _ (.head _))))
        obtain ⟨i0, i1, il⟩ := HX.out.cellsV (.tail _ (.tail _ (.tail _ (.tail _ (.head _)))))
        try dsimp only
        go_wp2_with fail
        clear u0 u1 ul y0 y1 yl x0 x1 xl g0 g1 gl f0 f1 fl s0 s1 sl r0 r1 rl vc0 vc1 vcl vb0 vb1 vbl va0 va1 val j0 j1 jl i0 i1 il
        refine (is_z HZ2.out.2.2 HO_u.out (HX.out.e.m _ (.head _)) (HX.out.b _ (.head _))).mono ?_
        rintro e wi ⟨rfl, ki⟩
        have OW1 := Lib.hid (OW_x.out.keep0 ki)
        clear OW_x
        have OW_x := OW1
        clear OW1
        have OW1 := Lib.hid (OW_y.out.keep0 ki)
        clear OW_y
        have OW_y := OW1
        clear OW1
        have OW1 := Lib.hid (OW_u.out.keep0 ki)
        clear OW_u
        have OW_u := OW1
        clear OW1
        have KW1 := Lib.hid (K0.out.trans ki)
        clear K0
        have K0 := KW1
        clear KW1
        have HX1 := Lib.hid (HX.out.keep ki)
        clear HX ki
        have HX := Lib.hid HX1.out
        clear HX1
        obtain ⟨u0, u1, ul⟩ := HX.out.cells (.head _)
        obtain ⟨y0, y1, yl⟩ := HX.out.cells (.tail _ (.head _))
        obtain ⟨x0, x1, xl⟩ := HX.out.cells (.tail _ (.tail _ (.head _)))
        obtain ⟨g0, g1, gl⟩ := HX.out.cells (.tail _ (.tail _ (.tail _ (.head _))))
        obtain ⟨f0, f1, fl⟩ := HX.out.cells (.tail _ (.tail _ (.tail _ (.tail _ (.head _)))))
        obtain ⟨s0, s1, sl⟩ := HX.out.cells (.tail _ (.tail _ (.tail _ (.tail _ (.tail _ (.head _))))))
        obtain ⟨r0, r1, rl⟩ := HX.out.cells (.tail _ (.tail _ (.tail _ (.tail _ (.tail _ (.tail _ (.head _)))))))
        obtain ⟨vc0, vc1, vcl⟩ := HX.out.cellsV (.head _)
        obtain ⟨vb0, vb1, vbl⟩ := HX.out.cellsV (.tail _ (.head _))
        obtain ⟨va0, va1, val⟩ := HX.out.cellsV (.tail _ (.tail _ (.head _)))
        obtain ⟨j0, j1, jl⟩ := HX.out.cellsV (.tail _ (.tail _ (.tail _ (.head _))))
        obtain ⟨i0, i1, il⟩ := HX.out.cellsV (.tail _ (.tail _ (.tail _ (.tail _ (.head _)))))
        try dsimp only
        go_wp2_with fail
        clear u0 u1 ul y0 y1 yl x0 x1 xl g0 g1 gl f0 f1 fl s0 s1 sl r0 r1 rl vc0 vc1 vcl vb0 vb1 vbl va0 va1 val j0 j1 jl i0 i1 il
        refine (spoil_any _ q_x A_x n_x c_x l_x _ OW_x.out (by omega)).mono ?_
        rintro e ws ⟨rfl, ks⟩
        obtain ⟨hx1, hk1⟩ := Env.spoil H0.out HX.out.e K0.out ks OW_x.out (Nat.le_refl _) (List.forall_mem_cons.2 ⟨⟨_, rfl⟩, (List.forall_mem_cons.2 ⟨⟨_, rfl⟩, (List.forall_mem_cons.2 ⟨⟨_, rfl⟩, (List.forall_mem_cons.2 ⟨⟨_, rfl⟩, (List.forall_mem_cons.2 ⟨⟨_, rfl⟩, (List.forall_mem_cons.2 ⟨⟨_, rfl⟩, (List.forall_mem_cons.2 ⟨⟨_, rfl⟩, (fun _ h => by cases h)⟩)⟩)⟩)⟩)⟩)⟩)⟩)
        clear HX
        have HX := Lib.hid hx1
        clear hx1
        have OW1 := Lib.hid (OW_x.out.off OW_y.out ks w5 (Nat.le_refl _) ON_x.out)
        clear OW_y
        have OW_y := OW1
        clear OW1
        have OW1 := Lib.hid (OW_x.out.off OW_u.out ks w5 (Nat.le_trans (Nat.le_refl _) SZ_y.out) ON_x.out)
        clear OW_u
        have OW_u := OW1
        clear OW1
        clear K0
        have K0 := Lib.hid hk1
        clear hk1 ks
        obtain ⟨u0, u1, ul⟩ := HX.out.cells (.head _)
        obtain ⟨y0, y1, yl⟩ := HX.out.cells (.tail _ (.head _))
        obtain ⟨x0, x1, xl⟩ := HX.out.cells (.tail _ (.tail _ (.head _)))
        obtain ⟨g0, g1, gl⟩ := HX.out.cells (.tail _ (.tail _ (.tail _ (.head _))))
        obtain ⟨f0, f1, fl⟩ := HX.out.cells (.tail _ (.tail _ (.tail _ (.tail _ (.head _)))))
        obtain ⟨s0, s1, sl⟩ := HX.out.cells (.tail _ (.tail _ (.tail _ (.tail _ (.tail _ (.head _))))))
        obtain ⟨r0, r1, rl⟩ := HX.out.cells (.tail _ (.tail _ (.tail _ (.tail _ (.tail _ (.tail _ (.head _)))))))
        try dsimp only
        go_wp2_with fail
        clear u0 u1 ul y0 y1 yl x0 x1 xl g0 g1 gl f0 f1 fl s0 s1 sl r0 r1 rl
        refine (spoil_any _ q_y A_y n_y c_y l_y _ OW_y.out (by omega)).mono ?_
        rintro e ws ⟨rfl, ks⟩
        obtain ⟨hx1, hk1⟩ := Env.spoil H0.out HX.out K0.out ks OW_y.out KN_x.out (List.forall_mem_cons.2 ⟨⟨_, rfl⟩, (List.forall_mem_cons.2 ⟨⟨_, rfl⟩, (List.forall_mem_cons.2 ⟨⟨_, rfl⟩, (List.forall_mem_cons.2 ⟨⟨_, rfl⟩, (List.forall_mem_cons.2 ⟨⟨_, rfl⟩, (List.forall_mem_cons.2 ⟨⟨_, rfl⟩, (List.forall_mem_cons.2 ⟨⟨_, rfl⟩, (fun _ h => by cases h)⟩)⟩)⟩)⟩)⟩)⟩)⟩)
        clear HX
        have HX := Lib.hid hx1
        clear hx1
        have OW1 := Lib.hid (OW_y.out.off OW_u.out ks w6 (Nat.le_refl _) ON_y.out)
        clear OW_u
        have OW_u := OW1
        clear OW1
        clear K0
        have K0 := Lib.hid hk1
        clear hk1 ks
        obtain ⟨u0, u1, ul⟩ := HX.out.cells (.head _)
        obtain ⟨y0, y1, yl⟩ := HX.out.cells (.tail _ (.head _))
        obtain ⟨x0, x1, xl⟩ := HX.out.cells (.tail _ (.tail _ (.head _)))
        obtain ⟨g0, g1, gl⟩ := HX.out.cells (.tail _ (.tail _ (.tail _ (.head _))))
        obtain ⟨f0, f1, fl⟩ := HX.out.cells (.tail _ (.tail _ (.tail _ (.tail _ (.head _)))))
        obtain ⟨s0, s1, sl⟩ := HX.out.cells (.tail _ (.tail _ (.tail _ (.tail _ (.tail _ (.head _))))))
        obtain ⟨r0, r1, rl⟩ := HX.out.cells (.tail _ (.tail _ (.tail _ (.tail _ (.tail _ (.tail _ (.head _)))))))
        try dsimp only
        go_wp2_with fail
        clear u0 u1 ul y0 y1 yl x0 x1 xl g0 g1 gl f0 f1 fl s0 s1 sl r0 r1 rl
        refine (spoil_any _ q_u A_u n_u c_u l_u _ OW_u.out (by omega)).mono ?_
        rintro e ws ⟨rfl, ks⟩
        obtain ⟨hx1, hk1⟩ := Env.spoil H0.out HX.out K0.out ks OW_u.out KN_y.out (List.forall_mem_cons.2 ⟨⟨_, rfl⟩, (List.forall_mem_cons.2 ⟨⟨_, rfl⟩, (List.forall_mem_cons.2 ⟨⟨_, rfl⟩, (List.forall_mem_cons.2 ⟨⟨_, rfl⟩, (List.forall_mem_cons.2 ⟨⟨_, rfl⟩, (List.forall_mem_cons.2 ⟨⟨_, rfl⟩, (List.forall_mem_cons.2 ⟨⟨_, rfl⟩, (fun _ h => by cases h)⟩)⟩)⟩)⟩)⟩)⟩)⟩)
        clear HX
        have HX := Lib.hid hx1
        clear hx1
        clear K0
        have K0 := Lib.hid hk1
        clear hk1 ks
        obtain ⟨u0, u1, ul⟩ := HX.out.cells (.head _)
        obtain ⟨y0, y1, yl⟩ := HX.out.cells (.tail _ (.head _))
        obtain ⟨x0, x1, xl⟩ := HX.out.cells (.tail _ (.tail _ (.head _)))
        obtain ⟨g0, g1, gl⟩ := HX.out.cells (.tail _ (.tail _ (.tail _ (.head _))))
        obtain ⟨f0, f1, fl⟩ := HX.out.cells (.tail _ (.tail _ (.tail _ (.tail _ (.head _)))))
        obtain ⟨s0, s1, sl⟩ := HX.out.cells (.tail _ (.tail _ (.tail _ (.tail _ (.tail _ (.head _))))))
        obtain ⟨r0, r1, rl⟩ := HX.out.cells (.tail _ (.tail _ (.tail _ (.tail _ (.tail _ (.tail _ (.head _)))))))
        try dsimp only
        go_wp2_with fail
        clear u0 u1 ul y0 y1 yl x0 x1 xl g0 g1 gl f0 f1 fl s0 s1 sl r0 r1 rl
        refine (same_any p1 A1 n1 c1 l1 p1 A5 n5 c5 l1 _ (HX.out.m _ (.tail _ (.head _))) (HX.out.m _ (.tail _ (.tail _ (.tail _ (.head _)))))).mono ?_
        rintro e wi ⟨rfl, ki⟩
        rw [same_self]
        have HX1 := Lib.hid (HX.out.keep ki)
        clear HX ki
        have HX := Lib.hid HX1.out
        clear HX1
        obtain ⟨u0, u1, ul⟩ := HX.out.cells (.head _)
        obtain ⟨y0, y1, yl⟩ := HX.out.cells (.tail _ (.head _))
        obtain ⟨x0, x1, xl⟩ := HX.out.cells (.tail _ (.tail _ (.head _)))
        obtain ⟨g0, g1, gl⟩ := HX.out.cells (.tail _ (.tail _ (.tail _ (.head _))))
        obtain ⟨f0, f1, fl⟩ := HX.out.cells (.tail _ (.tail _ (.tail _ (.tail _ (.head _)))))
        obtain ⟨s0, s1, sl⟩ := HX.out.cells (.tail _ (.tail _ (.tail _ (.tail _ (.tail _ (.head _))))))
        obtain ⟨r0, r1, rl⟩ := HX.out.cells (.tail _ (.tail _ (.tail _ (.tail _ (.tail _ (.tail _ (.head _)))))))
        try dsimp only
        go_wp2_with fail
        clear u0 u1 ul y0 y1 yl x0 x1 xl g0 g1 gl f0 f1 fl s0 s1 sl r0 r1 rl
        refine (same_any p2 A2 n2 c2 l2 p2 A6 n6 c6 l2 _ (HX.out.m _ (.head _)) (HX.out.m _ (.tail _ (.tail _ (.head _))))).mono ?_
        rintro e wi ⟨rfl, ki⟩
        rw [same_self]
        have HX1 := Lib.hid (HX.out.keep ki)
        clear HX ki
        have HX := Lib.hid HX1.out
        clear HX1
        obtain ⟨u0, u1, ul⟩ := HX.out.cells (.head _)
        obtain ⟨y0, y1, yl⟩ := HX.out.cells (.tail _ (.head _))
        obtain ⟨x0, x1, xl⟩ := HX.out.cells (.tail _ (.tail _ (.head _)))
        obtain ⟨g0, g1, gl⟩ := HX.out.cells (.tail _ (.tail _ (.tail _ (.head _))))
        obtain ⟨f0, f1, fl⟩ := HX.out.cells (.tail _ (.tail _ (.tail _ (.tail _ (.head _)))))
        obtain ⟨s0, s1, sl⟩ := HX.out.cells (.tail _ (.tail _ (.tail _ (.tail _ (.tail _ (.head _))))))
        obtain ⟨r0, r1, rl⟩ := HX.out.cells (.tail _ (.tail _ (.tail _ (.tail _ (.tail _ (.tail _ (.head _)))))))
        try dsimp only
        go_wp2_with fail
        clear u0 u1 ul y0 y1 yl x0 x1 xl g0 g1 gl f0 f1 fl s0 s1 sl r0 r1 rl
        refine (awake_any _ (HT.out.keep HX.out.k)).mono ?_
        rintro e wz ⟨rfl, kz⟩
        have HZ := Lib.hid (HX.out.k.trans kz)
        clear kz
        try dsimp only
        go_wp2_with fail
        go_ret
        exact ⟨rfl, HZ.out⟩
end Go.Proofs.YtdfekphahdmffaaDoor
