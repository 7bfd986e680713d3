/-
  The law NumMuls: its walk.
-/
import Derived.Test.YtdfekphahdmffaaDoorLawEnd
import Derived.Test.YtdfekphahdmffaaDoorNuMul
import Derived.Test.YtdfekphahdmffaaDoorRfCopy
import Derived.BigQuiet
namespace Go.Proofs.YtdfekphahdmffaaDoor
open Go.RowKit

set_option maxRecDepth 100000 in
set_option maxHeartbeats 4000000 in
theorem muls_long1 (p1 : Bool) (A1 : Option Addr) (n1 c1 : Nat) (p2 : Bool) (A2 : Option Addr) (n2 c2 : Nat) (w : World) (ht : PowTab w) (h1 : 60 < n1) :
    Calls Tryd.prog 8 #[numArg p1 A1 n1 c1, numArg p2 A2 n2 c2] w (BoolPost true w) := by
  have X0 := env2 w (.bool p1) (.slice A1 n1 c1) (.bool p2) (.slice A2 n2 c2)
  have HT := Lib.hid ht
  clear ht
  go_enter Tryd.func8, Tryd.ntmps8
  go_wp2_with fail
  have hw1 : ((w.alloc (.cells #[.bool p1, .slice A1 n1 c1] 25)).alloc (.cells #[.bool p2, .slice A2 n2 c2] 25)).heap.size = w.heap.size + 1 + 1 := by simp only [World.size_alloc]
  generalize hB0 : w.heap.size = B0 at X0 hw1 ⊢
  have HSZ := Lib.hid (Nat.le_of_eq hB0)
  clear hB0
  generalize (w.alloc (.cells #[.bool p1, .slice A1 n1 c1] 25)).alloc (.cells #[.bool p2, .slice A2 n2 c2] 25) = w1 at X0 hw1 ⊢
  have HX := Lib.hid X0
  have HW1 := Lib.hid hw1
  clear X0 hw1
  refine (long_any p1 A1 n1 c1 _).mono ?_
  rintro e w2 ⟨rfl, k2⟩
  rw [show decide (60 < n1) = true from decide_eq_true (by omega)]
  have HX1 := Lib.hid (HX.out.keep k2)
  clear HX k2
  have HX := Lib.hid HX1.out
  clear HX1
  obtain ⟨s0, s1, sl⟩ := HX.out.cells (.head _)
  obtain ⟨r0, r1, rl⟩ := HX.out.cells (.tail _ (.head _))
  try dsimp only
  go_wp2_with fail
  clear s0 s1 sl r0 r1 rl
  refine (awake_any _ (HT.out.keep HX.out.k)).mono ?_
  rintro e wz ⟨rfl, kz⟩
  have HZ := Lib.hid (HX.out.k.trans kz)
  clear kz
  try dsimp only
  go_wp2_with fail
  go_ret
  exact ⟨rfl, HZ.out⟩
set_option maxRecDepth 100000 in
set_option maxHeartbeats 4000000 in
theorem muls_long2 (p1 : Bool) (A1 : Option Addr) (n1 c1 : Nat) (p2 : Bool) (A2 : Option Addr) (n2 c2 : Nat) (w : World) (ht : PowTab w) (h1 : n1 ≤ 60) (h2 : 60 < n2) :
    Calls Tryd.prog 8 #[numArg p1 A1 n1 c1, numArg p2 A2 n2 c2] w (BoolPost true w) := by
  have X0 := env2 w (.bool p1) (.slice A1 n1 c1) (.bool p2) (.slice A2 n2 c2)
  have HT := Lib.hid ht
  clear ht
  go_enter Tryd.func8, Tryd.ntmps8
  go_wp2_with fail
  have hw1 : ((w.alloc (.cells #[.bool p1, .slice A1 n1 c1] 25)).alloc (.cells #[.bool p2, .slice A2 n2 c2] 25)).heap.size = w.heap.size + 1 + 1 := by simp only [World.size_alloc]
  generalize hB0 : w.heap.size = B0 at X0 hw1 ⊢
  have HSZ := Lib.hid (Nat.le_of_eq hB0)
  clear hB0
  generalize (w.alloc (.cells #[.bool p1, .slice A1 n1 c1] 25)).alloc (.cells #[.bool p2, .slice A2 n2 c2] 25) = w1 at X0 hw1 ⊢
  have HX := Lib.hid X0
  have HW1 := Lib.hid hw1
  clear X0 hw1
  refine (long_any p1 A1 n1 c1 _).mono ?_
  rintro e w2 ⟨rfl, k2⟩
  rw [show decide (60 < n1) = false from decide_eq_false (by omega)]
  have HX1 := Lib.hid (HX.out.keep k2)
  clear HX k2
  have HX := Lib.hid HX1.out
  clear HX1
  obtain ⟨s0, s1, sl⟩ := HX.out.cells (.head _)
  obtain ⟨r0, r1, rl⟩ := HX.out.cells (.tail _ (.head _))
  try dsimp only
  go_wp2_with fail
  clear s0 s1 sl r0 r1 rl
  refine (long_any p2 A2 n2 c2 _).mono ?_
  rintro e w2 ⟨rfl, k2⟩
  rw [show decide (60 < n2) = true from decide_eq_true (by omega)]
  have HX1 := Lib.hid (HX.out.keep k2)
  clear HX k2
  have HX := Lib.hid HX1.out
  clear HX1
  obtain ⟨s0, s1, sl⟩ := HX.out.cells (.head _)
  obtain ⟨r0, r1, rl⟩ := HX.out.cells (.tail _ (.head _))
  try dsimp only
  go_wp2_with fail
  clear s0 s1 sl r0 r1 rl
  refine (awake_any _ (HT.out.keep HX.out.k)).mono ?_
  rintro e wz ⟨rfl, kz⟩
  have HZ := Lib.hid (HX.out.k.trans kz)
  clear kz
  try dsimp only
  go_wp2_with fail
  go_ret
  exact ⟨rfl, HZ.out⟩
set_option maxRecDepth 100000 in
set_option maxHeartbeats 4000000 in
theorem muls_short (p1 : Bool) (A1 : Option Addr) (n1 c1 : Nat) (p2 : Bool) (A2 : Option Addr) (n2 c2 : Nat) (l1 l2 : List Nat) (w : World) (ht : PowTab w) (h1 : n1 ≤ 60) (h2 : n2 ≤ 60) (L1 : LimbsAt w A1 n1 c1 l1) (L2 : LimbsAt w A2 n2 c2 l2) :
    Calls Tryd.prog 8 #[numArg p1 A1 n1 c1, numArg p2 A2 n2 c2] w (BoolPost true w) := by
  have HL := Lib.hid (And.intro L1 L2)
  clear L1 L2
  have X0 := env2 w (.bool p1) (.slice A1 n1 c1) (.bool p2) (.slice A2 n2 c2)
  have HT := Lib.hid ht
  clear ht
  go_enter Tryd.func8, Tryd.ntmps8
  go_wp2_with fail
  have hw1 : ((w.alloc (.cells #[.bool p1, .slice A1 n1 c1] 25)).alloc (.cells #[.bool p2, .slice A2 n2 c2] 25)).heap.size = w.heap.size + 1 + 1 := by simp only [World.size_alloc]
  generalize hB0 : w.heap.size = B0 at X0 hw1 ⊢
  have HSZ := Lib.hid (Nat.le_of_eq hB0)
  clear hB0
  generalize (w.alloc (.cells #[.bool p1, .slice A1 n1 c1] 25)).alloc (.cells #[.bool p2, .slice A2 n2 c2] 25) = w1 at X0 hw1 ⊢
  have HX := Lib.hid X0
  have HW1 := Lib.hid hw1
  clear X0 hw1
  refine (long_any p1 A1 n1 c1 _).mono ?_
  rintro e w2 ⟨rfl, k2⟩
  rw [show decide (60 < n1) = false from decide_eq_false (by omega)]
  have HX1 := Lib.hid (HX.out.keep k2)
  clear HX k2
  have HX := Lib.hid HX1.out
  clear HX1
  obtain ⟨s0, s1, sl⟩ := HX.out.cells (.head _)
  obtain ⟨r0, r1, rl⟩ := HX.out.cells (.tail _ (.head _))
  try dsimp only
  go_wp2_with fail
  clear s0 s1 sl r0 r1 rl
  refine (long_any p2 A2 n2 c2 _).mono ?_
  rintro e w2 ⟨rfl, k2⟩
  rw [show decide (60 < n2) = false from decide_eq_false (by omega)]
  have HX1 := Lib.hid (HX.out.keep k2)
  clear HX k2
  have HX := Lib.hid HX1.out
  clear HX1
  obtain ⟨s0, s1, sl⟩ := HX.out.cells (.head _)
  obtain ⟨r0, r1, rl⟩ := HX.out.cells (.tail _ (.head _))
  try dsimp only
  go_wp2_with fail
  clear s0 s1 sl r0 r1 rl
  have CP1 := Lib.hid (fun (w' : World) (K' : Keep (fun _ => False) w2 w') => copy_any p1 A1 n1 c1 l1 w' (HL.out.1.keep0 (HX.out.k.trans K')))
  have CP2 := Lib.hid (fun (w' : World) (K' : Keep (fun _ => False) w2 w') => copy_any p2 A2 n2 c2 l2 w' (HL.out.2.keep0 (HX.out.k.trans K')))
  have Kd : Keep (fun _ => False) w2 w2.drew := (Keep.refl _ _).drew
  obtain ⟨s0, s1, sl⟩ := HX.out.cells (.head _)
  obtain ⟨r0, r1, rl⟩ := HX.out.cells (.tail _ (.head _))
  have HLO := Lib.hid (And.intro HL.out.1.low (And.intro HL.out.2.low (And.intro HL.out.1.len HL.out.2.len)))
  go_cut [5, 6] (fun v5 v6 wx => ∃ (B5 B6 : Nat) (A5 : Option Addr) (n5 c5 : Nat) (A6 : Option Addr) (n6 c6 : Nat), v5 = .pointer (some ⟨B5, 0, none⟩) ∧ v6 = .pointer (some ⟨B6, 0, none⟩) ∧ n5 ≤ 60 ∧ n6 ≤ 60 ∧ Env w [(B6, .bool p2, .slice A6 n6 c6), (B5, .bool p1, .slice A5 n5 c5), (B0 + 1, .bool p2, .slice A2 n2 c2), (B0, .bool p1, .slice A1 n1 c1)] [(A6, n6, c6, l2), (A5, n5, c5, l1)] wx)
  case first =>
    have HCC := Lib.hid (fun (w' : World) (K' : Keep (fun _ => False) w2 w') => (show w'.cell? ⟨B0, 0, none⟩ = some (.bool p1) ∧ w'.cell? ⟨B0, 1, none⟩ = some (.slice A1 n1 c1) ∧ w'.cell? ⟨B0 + 1, 0, none⟩ = some (.bool p2) ∧ w'.cell? ⟨B0 + 1, 1, none⟩ = some (.slice A2 n2 c2) from by
      obtain ⟨ra, rb, _⟩ := (HX.out.keep K').cells (.tail _ (.head _))
      obtain ⟨sa, sb, _⟩ := (HX.out.keep K').cells (.head _)
      exact ⟨ra, rb, sa, sb⟩))
    refine wp_region_held_drew (S := fun w' => w'.cell? ⟨B0, 0, none⟩ = some (.bool p1) ∧ w'.cell? ⟨B0, 1, none⟩ = some (.slice A1 n1 c1) ∧ w'.cell? ⟨B0 + 1, 0, none⟩ = some (.bool p2) ∧ w'.cell? ⟨B0 + 1, 1, none⟩ = some (.slice A2 n2 c2)) (by kernel_rfl) (HCC.out _ Kd) (fun hHeld => ?_)
    refine wpAnyH_take (i := 0) (oi := _) (v := ?_) rfl (by kernel_rfl) (by kernel_rfl) (by kernel_rfl) (fun _ _ _ h => h) (Or.inl ⟨by rfl, ?_⟩) (by assumption) ?_
    rotate_left
    · (intro w hSw; (try dsimp only at hSw); go_simp)
      all_goals with_reducible rfl
    refine wpAnyH_take (i := 2) (oi := _) (v := ?_) rfl (by kernel_rfl) (by kernel_rfl) (by kernel_rfl) (fun _ _ _ h => h) (Or.inl ⟨by rfl, ?_⟩) (by assumption) ?_
    rotate_left
    · (intro w hSw; (try dsimp only at hSw); go_simp)
      all_goals with_reducible rfl
    have HX1 := Lib.hid (HX.out.keep Kd)
    clear HX s0 s1 sl r0 r1 rl
    have HX := Lib.hid HX1.out
    clear HX1
    generalize w2.drew = wd at HX Kd hHeld ⊢
    try dsimp only [List.getElem_toArray, List.getElem_cons_succ, List.getElem_cons_zero]
    try simp only [Act.put, List.setIfInBounds_toArray, List.set_cons_zero, List.set_cons_succ]
    refine wpAnyH_ready (rs := [1, 4, 5]) (by kernel_rfl) (by simp) ?_
    refine AllReadyH.cons (o := _) rfl (fun K hK => ?_) (AllReadyH.cons (o := _) rfl (fun K hK => ?_) (AllReadyH.cons (o := _) rfl (fun K hK => ?_) (AllReadyH.nil)))
    · go_simp
      refine (CP1.out _ Kd).mono ?_
      rintro e w_10 ⟨A5, n5, c5, rfl, oo, kk⟩
      have K10 : Keep (fun _ => False) w2 w_10 := Keep.trans Kd kk
      have ln5 : n5 ≤ 60 := by have := oo.len; have := HLO.out.2.2.1; omega
      have HX1 := Lib.hid ((HX.out.keep kk).num (oo.toLimbs HLO.out.1 (by omega)))
      clear HX oo kk
      have HX := Lib.hid HX1.out
      clear HX1
      try dsimp only
      go_wp2_with fail
      refine hK.out _ _ (HCC.out _ K10) (fun hHeld => ?_)
      clear hK K
      try dsimp only [List.getElem_toArray, List.getElem_cons_succ, List.getElem_cons_zero]
      try simp only [Act.put, List.setIfInBounds_toArray, List.set_cons_zero, List.set_cons_succ]
      refine wpAnyH_ready (rs := [3, 4, 5]) (by kernel_rfl) (by simp) ?_
      refine AllReadyH.cons (o := _) rfl (fun K hK => ?_) (AllReadyH.cons (o := _) rfl (fun K hK => ?_) (AllReadyH.cons (o := _) rfl (fun K hK => ?_) (AllReadyH.nil)))
      · go_simp
        refine (CP2.out _ K10).mono ?_
        rintro e w_11 ⟨A6, n6, c6, rfl, oo, kk⟩
        have K11 : Keep (fun _ => False) w2 w_11 := Keep.trans K10 kk
        have ln6 : n6 ≤ 60 := by have := oo.len; have := HLO.out.2.2.2; omega
        have HX1 := Lib.hid ((HX.out.keep kk).num (oo.toLimbs HLO.out.2.1 (by omega)))
        clear HX oo kk
        have HX := Lib.hid HX1.out
        clear HX1
        try dsimp only
        go_wp2_with fail
        refine hK.out _ _ (HCC.out _ K11) (fun hHeld => ?_)
        clear hK K
        try dsimp only [List.getElem_toArray, List.getElem_cons_succ, List.getElem_cons_zero]
        try simp only [Act.put, List.setIfInBounds_toArray, List.set_cons_zero, List.set_cons_succ]
        refine wpAnyH_ready (rs := [4, 5]) (by kernel_rfl) (by simp) ?_
        refine AllReadyH.cons (o := _) rfl (fun K hK => ?_) (AllReadyH.cons (o := _) rfl (fun K hK => ?_) (AllReadyH.nil))
        · go_simp
          have HLTB5 := Lib.hid (show B0 < w_11.heap.size ∧ B0 + 1 < w_11.heap.size ∧ w2.heap.size ≤ w_11.heap.size from ⟨(HX.out.cells (.tail _ (.head _))).2.2, (HX.out.cells (.head _)).2.2, K11.size⟩)
          have K12 : Keep (fun _ => False) w2 (w_11.alloc (.cells #[.bool false, .slice none 0 0] 25)) := K11.alloc _
          have HX1 := Lib.hid (HX.out.box (.bool false) (.slice none 0 0))
          clear HX
          have HX := Lib.hid HX1.out
          clear HX1
          refine hK.out _ _ (HCC.out _ K12) (fun hHeld => ?_)
          clear hK K
          generalize w_11.heap.size = B5 at HX HLTB5 hHeld ⊢
          generalize w_11.alloc (.cells #[.bool false, .slice none 0 0] 25) = w_12 at HX K12 hHeld ⊢
          try dsimp only [List.getElem_toArray, List.getElem_cons_succ, List.getElem_cons_zero]
          try simp only [Act.put, List.setIfInBounds_toArray, List.set_cons_zero, List.set_cons_succ]
          refine wpAnyH_ready (rs := [5]) (by kernel_rfl) (by simp) ?_
          refine AllReadyH.cons (o := _) rfl (fun K hK => ?_) (AllReadyH.nil)
          · go_simp
            have HLTB6 := Lib.hid (show B0 < w_12.heap.size ∧ B0 + 1 < w_12.heap.size ∧ w2.heap.size ≤ w_12.heap.size ∧ B5 < w_12.heap.size from ⟨(HX.out.cells (.tail _ (.tail _ (.head _)))).2.2, (HX.out.cells (.tail _ (.head _))).2.2, K12.size, (HX.out.cells (.head _)).2.2⟩)
            have K13 : Keep (fun _ => False) w2 (w_12.alloc (.cells #[.bool false, .slice none 0 0] 25)) := K12.alloc _
            have HX1 := Lib.hid (HX.out.box (.bool false) (.slice none 0 0))
            clear HX
            have HX := Lib.hid HX1.out
            clear HX1
            refine hK.out _ _ (HCC.out _ K13) (fun hHeld => ?_)
            clear hK K
            generalize w_12.heap.size = B6 at HX HLTB6 hHeld ⊢
            generalize w_12.alloc (.cells #[.bool false, .slice none 0 0] 25) = w_13 at HX K13 hHeld ⊢
            try dsimp only [List.getElem_toArray, List.getElem_cons_succ, List.getElem_cons_zero]
            try simp only [Act.put, List.setIfInBounds_toArray, List.set_cons_zero, List.set_cons_succ]
            refine wpAnyH_ready (rs := [6]) (by kernel_rfl) (by simp) ?_
            refine AllReadyH.cons (o := _) rfl (fun K hK => ?_) (AllReadyH.nil)
            · skip
              obtain ⟨d0, d1, dl⟩ := HX.out.cells (.tail _ (.head _))
              obtain ⟨f0, f1⟩ := HX.out.frozen (.tail _ (.head _))
              go_simp
              clear d0 d1 dl f0 f1
              have K14 : Keep (fun _ => False) w2 ((w_13.setCell ⟨B5, 0, none⟩ (.bool p1)).setCell ⟨B5, 1, none⟩ (.slice A5 n5 c5)) := two_keep K13 (by have := HLTB5.out; omega) _ _
              have HX1 := Lib.hid (HX.out.set (bs' := [(B6, .bool false, .slice none 0 0), (B0 + 1, .bool p2, .slice A2 n2 c2), (B0, .bool p1, .slice A1 n1 c1)]) (.tail _ (.head _)) (by have := HLTB5.out; have := HX.out.k.size; have := HSZ.out; omega) (List.forall_mem_cons.2 ⟨⟨(.head _), by dsimp only; have := HLTB5.out; have := HLTB6.out; omega⟩, (List.forall_mem_cons.2 ⟨⟨(.tail _ (.tail _ (.head _))), by dsimp only; have := HLTB5.out; have := HLTB6.out; omega⟩, (List.forall_mem_cons.2 ⟨⟨(.tail _ (.tail _ (.tail _ (.head _)))), by dsimp only; have := HLTB5.out; have := HLTB6.out; omega⟩, (fun _ h => by cases h)⟩)⟩)⟩) (.bool p1) (.slice A5 n5 c5))
              clear HX
              have HX := Lib.hid HX1.out
              clear HX1
              refine hK.out _ _ (HCC.out _ K14) (fun hHeld => ?_)
              clear hK K
              generalize (w_13.setCell ⟨B5, 0, none⟩ (.bool p1)).setCell ⟨B5, 1, none⟩ (.slice A5 n5 c5) = w_14 at HX K14 hHeld ⊢
              try dsimp only [List.getElem_toArray, List.getElem_cons_succ, List.getElem_cons_zero]
              try simp only [Act.put, List.setIfInBounds_toArray, List.set_cons_zero, List.set_cons_succ]
              refine wpAnyH_ready (rs := [7]) (by kernel_rfl) (by simp) ?_
              refine AllReadyH.cons (o := _) rfl (fun K hK => ?_) (AllReadyH.nil)
              · skip
                obtain ⟨d0, d1, dl⟩ := HX.out.cells (.tail _ (.head _))
                obtain ⟨f0, f1⟩ := HX.out.frozen (.tail _ (.head _))
                go_simp
                clear d0 d1 dl f0 f1
                have K15 : Keep (fun _ => False) w2 ((w_14.setCell ⟨B6, 0, none⟩ (.bool p2)).setCell ⟨B6, 1, none⟩ (.slice A6 n6 c6)) := two_keep K14 (by have := HLTB6.out; omega) _ _
                have HX1 := Lib.hid (HX.out.set (bs' := [(B5, .bool p1, .slice A5 n5 c5), (B0 + 1, .bool p2, .slice A2 n2 c2), (B0, .bool p1, .slice A1 n1 c1)]) (.tail _ (.head _)) (by have := HLTB6.out; have := HX.out.k.size; have := HSZ.out; omega) (List.forall_mem_cons.2 ⟨⟨(.head _), by dsimp only; have := HLTB5.out; have := HLTB6.out; omega⟩, (List.forall_mem_cons.2 ⟨⟨(.tail _ (.tail _ (.head _))), by dsimp only; have := HLTB5.out; have := HLTB6.out; omega⟩, (List.forall_mem_cons.2 ⟨⟨(.tail _ (.tail _ (.tail _ (.head _)))), by dsimp only; have := HLTB5.out; have := HLTB6.out; omega⟩, (fun _ h => by cases h)⟩)⟩)⟩) (.bool p2) (.slice A6 n6 c6))
                clear HX
                have HX := Lib.hid HX1.out
                clear HX1
                refine hK.out _ _ (HCC.out _ K15) (fun hHeld => ?_)
                clear hK K
                generalize (w_14.setCell ⟨B6, 0, none⟩ (.bool p2)).setCell ⟨B6, 1, none⟩ (.slice A6 n6 c6) = w_15 at HX K15 hHeld ⊢
                try dsimp only [List.getElem_toArray, List.getElem_cons_succ, List.getElem_cons_zero]
                try simp only [Act.put, List.setIfInBounds_toArray, List.set_cons_zero, List.set_cons_succ]
                refine wpAnyH_done (by kernel_rfl) ?_ _
                go_wp2_with fail
                go_meet
                exact ⟨B5, B6, A5, n5, c5, A6, n6, c6, rfl, rfl, ln5, ln6, HX.out⟩
        · go_simp
          have HLTB6 := Lib.hid (show B0 < w_11.heap.size ∧ B0 + 1 < w_11.heap.size ∧ w2.heap.size ≤ w_11.heap.size from ⟨(HX.out.cells (.tail _ (.head _))).2.2, (HX.out.cells (.head _)).2.2, K11.size⟩)
          have K12 : Keep (fun _ => False) w2 (w_11.alloc (.cells #[.bool false, .slice none 0 0] 25)) := K11.alloc _
          have HX1 := Lib.hid (HX.out.box (.bool false) (.slice none 0 0))
          clear HX
          have HX := Lib.hid HX1.out
          clear HX1
          refine hK.out _ _ (HCC.out _ K12) (fun hHeld => ?_)
          clear hK K
          generalize w_11.heap.size = B6 at HX HLTB6 hHeld ⊢
          generalize w_11.alloc (.cells #[.bool false, .slice none 0 0] 25) = w_12 at HX K12 hHeld ⊢
          try dsimp only [List.getElem_toArray, List.getElem_cons_succ, List.getElem_cons_zero]
          try simp only [Act.put, List.setIfInBounds_toArray, List.set_cons_zero, List.set_cons_succ]
          refine wpAnyH_ready (rs := [4]) (by kernel_rfl) (by simp) ?_
          refine AllReadyH.cons (o := _) rfl (fun K hK => ?_) (AllReadyH.nil)
          · go_simp
            have HLTB5 := Lib.hid (show B0 < w_12.heap.size ∧ B0 + 1 < w_12.heap.size ∧ w2.heap.size ≤ w_12.heap.size ∧ B6 < w_12.heap.size from ⟨(HX.out.cells (.tail _ (.tail _ (.head _)))).2.2, (HX.out.cells (.tail _ (.head _))).2.2, K12.size, (HX.out.cells (.head _)).2.2⟩)
            have K13 : Keep (fun _ => False) w2 (w_12.alloc (.cells #[.bool false, .slice none 0 0] 25)) := K12.alloc _
            have HX1 := Lib.hid (HX.out.box (.bool false) (.slice none 0 0))
            clear HX
            have HX := Lib.hid HX1.out
            clear HX1
            refine hK.out _ _ (HCC.out _ K13) (fun hHeld => ?_)
            clear hK K
            generalize w_12.heap.size = B5 at HX HLTB5 hHeld ⊢
            generalize w_12.alloc (.cells #[.bool false, .slice none 0 0] 25) = w_13 at HX K13 hHeld ⊢
            try dsimp only [List.getElem_toArray, List.getElem_cons_succ, List.getElem_cons_zero]
            try simp only [Act.put, List.setIfInBounds_toArray, List.set_cons_zero, List.set_cons_succ]
            refine wpAnyH_ready (rs := [6]) (by kernel_rfl) (by simp) ?_
            refine AllReadyH.cons (o := _) rfl (fun K hK => ?_) (AllReadyH.nil)
            · skip
              obtain ⟨d0, d1, dl⟩ := HX.out.cells (.head _)
              obtain ⟨f0, f1⟩ := HX.out.frozen (.head _)
              go_simp
              clear d0 d1 dl f0 f1
              have K14 : Keep (fun _ => False) w2 ((w_13.setCell ⟨B5, 0, none⟩ (.bool p1)).setCell ⟨B5, 1, none⟩ (.slice A5 n5 c5)) := two_keep K13 (by have := HLTB5.out; omega) _ _
              have HX1 := Lib.hid (HX.out.set (bs' := [(B6, .bool false, .slice none 0 0), (B0 + 1, .bool p2, .slice A2 n2 c2), (B0, .bool p1, .slice A1 n1 c1)]) (.head _) (by have := HLTB5.out; have := HX.out.k.size; have := HSZ.out; omega) (List.forall_mem_cons.2 ⟨⟨(.tail _ (.head _)), by dsimp only; have := HLTB5.out; have := HLTB6.out; omega⟩, (List.forall_mem_cons.2 ⟨⟨(.tail _ (.tail _ (.head _))), by dsimp only; have := HLTB5.out; have := HLTB6.out; omega⟩, (List.forall_mem_cons.2 ⟨⟨(.tail _ (.tail _ (.tail _ (.head _)))), by dsimp only; have := HLTB5.out; have := HLTB6.out; omega⟩, (fun _ h => by cases h)⟩)⟩)⟩) (.bool p1) (.slice A5 n5 c5))
              clear HX
              have HX := Lib.hid HX1.out
              clear HX1
              refine hK.out _ _ (HCC.out _ K14) (fun hHeld => ?_)
              clear hK K
              generalize (w_13.setCell ⟨B5, 0, none⟩ (.bool p1)).setCell ⟨B5, 1, none⟩ (.slice A5 n5 c5) = w_14 at HX K14 hHeld ⊢
              try dsimp only [List.getElem_toArray, List.getElem_cons_succ, List.getElem_cons_zero]
              try simp only [Act.put, List.setIfInBounds_toArray, List.set_cons_zero, List.set_cons_succ]
              refine wpAnyH_ready (rs := [7]) (by kernel_rfl) (by simp) ?_
              refine AllReadyH.cons (o := _) rfl (fun K hK => ?_) (AllReadyH.nil)
              · skip
                obtain ⟨d0, d1, dl⟩ := HX.out.cells (.tail _ (.head _))
                obtain ⟨f0, f1⟩ := HX.out.frozen (.tail _ (.head _))
                go_simp
                clear d0 d1 dl f0 f1
                have K15 : Keep (fun _ => False) w2 ((w_14.setCell ⟨B6, 0, none⟩ (.bool p2)).setCell ⟨B6, 1, none⟩ (.slice A6 n6 c6)) := two_keep K14 (by have := HLTB6.out; omega) _ _
                have HX1 := Lib.hid (HX.out.set (bs' := [(B5, .bool p1, .slice A5 n5 c5), (B0 + 1, .bool p2, .slice A2 n2 c2), (B0, .bool p1, .slice A1 n1 c1)]) (.tail _ (.head _)) (by have := HLTB6.out; have := HX.out.k.size; have := HSZ.out; omega) (List.forall_mem_cons.2 ⟨⟨(.head _), by dsimp only; have := HLTB5.out; have := HLTB6.out; omega⟩, (List.forall_mem_cons.2 ⟨⟨(.tail _ (.tail _ (.head _))), by dsimp only; have := HLTB5.out; have := HLTB6.out; omega⟩, (List.forall_mem_cons.2 ⟨⟨(.tail _ (.tail _ (.tail _ (.head _)))), by dsimp only; have := HLTB5.out; have := HLTB6.out; omega⟩, (fun _ h => by cases h)⟩)⟩)⟩) (.bool p2) (.slice A6 n6 c6))
                clear HX
                have HX := Lib.hid HX1.out
                clear HX1
                refine hK.out _ _ (HCC.out _ K15) (fun hHeld => ?_)
                clear hK K
                generalize (w_14.setCell ⟨B6, 0, none⟩ (.bool p2)).setCell ⟨B6, 1, none⟩ (.slice A6 n6 c6) = w_15 at HX K15 hHeld ⊢
                try dsimp only [List.getElem_toArray, List.getElem_cons_succ, List.getElem_cons_zero]
                try simp only [Act.put, List.setIfInBounds_toArray, List.set_cons_zero, List.set_cons_succ]
                refine wpAnyH_done (by kernel_rfl) ?_ _
                go_wp2_with fail
                go_meet
                exact ⟨B5, B6, A5, n5, c5, A6, n6, c6, rfl, rfl, ln5, ln6, HX.out⟩
      · go_simp
        have HLTB5 := Lib.hid (show B0 < w_10.heap.size ∧ B0 + 1 < w_10.heap.size ∧ w2.heap.size ≤ w_10.heap.size from ⟨(HX.out.cells (.tail _ (.head _))).2.2, (HX.out.cells (.head _)).2.2, K10.size⟩)
        have K11 : Keep (fun _ => False) w2 (w_10.alloc (.cells #[.bool false, .slice none 0 0] 25)) := K10.alloc _
        have HX1 := Lib.hid (HX.out.box (.bool false) (.slice none 0 0))
        clear HX
        have HX := Lib.hid HX1.out
        clear HX1
        refine hK.out _ _ (HCC.out _ K11) (fun hHeld => ?_)
        clear hK K
        generalize w_10.heap.size = B5 at HX HLTB5 hHeld ⊢
        generalize w_10.alloc (.cells #[.bool false, .slice none 0 0] 25) = w_11 at HX K11 hHeld ⊢
        try dsimp only [List.getElem_toArray, List.getElem_cons_succ, List.getElem_cons_zero]
        try simp only [Act.put, List.setIfInBounds_toArray, List.set_cons_zero, List.set_cons_succ]
        refine wpAnyH_ready (rs := [3, 5]) (by kernel_rfl) (by simp) ?_
        refine AllReadyH.cons (o := _) rfl (fun K hK => ?_) (AllReadyH.cons (o := _) rfl (fun K hK => ?_) (AllReadyH.nil))
        · go_simp
          refine (CP2.out _ K11).mono ?_
          rintro e w_12 ⟨A6, n6, c6, rfl, oo, kk⟩
          have K12 : Keep (fun _ => False) w2 w_12 := Keep.trans K11 kk
          have ln6 : n6 ≤ 60 := by have := oo.len; have := HLO.out.2.2.2; omega
          have HX1 := Lib.hid ((HX.out.keep kk).num (oo.toLimbs HLO.out.2.1 (by omega)))
          clear HX oo kk
          have HX := Lib.hid HX1.out
          clear HX1
          try dsimp only
          go_wp2_with fail
          refine hK.out _ _ (HCC.out _ K12) (fun hHeld => ?_)
          clear hK K
          try dsimp only [List.getElem_toArray, List.getElem_cons_succ, List.getElem_cons_zero]
          try simp only [Act.put, List.setIfInBounds_toArray, List.set_cons_zero, List.set_cons_succ]
          refine wpAnyH_ready (rs := [5]) (by kernel_rfl) (by simp) ?_
          refine AllReadyH.cons (o := _) rfl (fun K hK => ?_) (AllReadyH.nil)
          · go_simp
            have HLTB6 := Lib.hid (show B0 < w_12.heap.size ∧ B0 + 1 < w_12.heap.size ∧ w2.heap.size ≤ w_12.heap.size ∧ B5 < w_12.heap.size from ⟨(HX.out.cells (.tail _ (.tail _ (.head _)))).2.2, (HX.out.cells (.tail _ (.head _))).2.2, K12.size, (HX.out.cells (.head _)).2.2⟩)
            have K13 : Keep (fun _ => False) w2 (w_12.alloc (.cells #[.bool false, .slice none 0 0] 25)) := K12.alloc _
            have HX1 := Lib.hid (HX.out.box (.bool false) (.slice none 0 0))
            clear HX
            have HX := Lib.hid HX1.out
            clear HX1
            refine hK.out _ _ (HCC.out _ K13) (fun hHeld => ?_)
            clear hK K
            generalize w_12.heap.size = B6 at HX HLTB6 hHeld ⊢
            generalize w_12.alloc (.cells #[.bool false, .slice none 0 0] 25) = w_13 at HX K13 hHeld ⊢
            try dsimp only [List.getElem_toArray, List.getElem_cons_succ, List.getElem_cons_zero]
            try simp only [Act.put, List.setIfInBounds_toArray, List.set_cons_zero, List.set_cons_succ]
            refine wpAnyH_ready (rs := [6]) (by kernel_rfl) (by simp) ?_
            refine AllReadyH.cons (o := _) rfl (fun K hK => ?_) (AllReadyH.nil)
            · skip
              obtain ⟨d0, d1, dl⟩ := HX.out.cells (.tail _ (.head _))
              obtain ⟨f0, f1⟩ := HX.out.frozen (.tail _ (.head _))
              go_simp
              clear d0 d1 dl f0 f1
              have K14 : Keep (fun _ => False) w2 ((w_13.setCell ⟨B5, 0, none⟩ (.bool p1)).setCell ⟨B5, 1, none⟩ (.slice A5 n5 c5)) := two_keep K13 (by have := HLTB5.out; omega) _ _
              have HX1 := Lib.hid (HX.out.set (bs' := [(B6, .bool false, .slice none 0 0), (B0 + 1, .bool p2, .slice A2 n2 c2), (B0, .bool p1, .slice A1 n1 c1)]) (.tail _ (.head _)) (by have := HLTB5.out; have := HX.out.k.size; have := HSZ.out; omega) (List.forall_mem_cons.2 ⟨⟨(.head _), by dsimp only; have := HLTB5.out; have := HLTB6.out; omega⟩, (List.forall_mem_cons.2 ⟨⟨(.tail _ (.tail _ (.head _))), by dsimp only; have := HLTB5.out; have := HLTB6.out; omega⟩, (List.forall_mem_cons.2 ⟨⟨(.tail _ (.tail _ (.tail _ (.head _)))), by dsimp only; have := HLTB5.out; have := HLTB6.out; omega⟩, (fun _ h => by cases h)⟩)⟩)⟩) (.bool p1) (.slice A5 n5 c5))
              clear HX
              have HX := Lib.hid HX1.out
              clear HX1
              refine hK.out _ _ (HCC.out _ K14) (fun hHeld => ?_)
              clear hK K
              generalize (w_13.setCell ⟨B5, 0, none⟩ (.bool p1)).setCell ⟨B5, 1, none⟩ (.slice A5 n5 c5) = w_14 at HX K14 hHeld ⊢
              try dsimp only [List.getElem_toArray, List.getElem_cons_succ, List.getElem_cons_zero]
              try simp only [Act.put, List.setIfInBounds_toArray, List.set_cons_zero, List.set_cons_succ]
              refine wpAnyH_ready (rs := [7]) (by kernel_rfl) (by simp) ?_
              refine AllReadyH.cons (o := _) rfl (fun K hK => ?_) (AllReadyH.nil)
              · skip
                obtain ⟨d0, d1, dl⟩ := HX.out.cells (.tail _ (.head _))
                obtain ⟨f0, f1⟩ := HX.out.frozen (.tail _ (.head _))
                go_simp
                clear d0 d1 dl f0 f1
                have K15 : Keep (fun _ => False) w2 ((w_14.setCell ⟨B6, 0, none⟩ (.bool p2)).setCell ⟨B6, 1, none⟩ (.slice A6 n6 c6)) := two_keep K14 (by have := HLTB6.out; omega) _ _
                have HX1 := Lib.hid (HX.out.set (bs' := [(B5, .bool p1, .slice A5 n5 c5), (B0 + 1, .bool p2, .slice A2 n2 c2), (B0, .bool p1, .slice A1 n1 c1)]) (.tail _ (.head _)) (by have := HLTB6.out; have := HX.out.k.size; have := HSZ.out; omega) (List.forall_mem_cons.2 ⟨⟨(.head _), by dsimp only; have := HLTB5.out; have := HLTB6.out; omega⟩, (List.forall_mem_cons.2 ⟨⟨(.tail _ (.tail _ (.head _))), by dsimp only; have := HLTB5.out; have := HLTB6.out; omega⟩, (List.forall_mem_cons.2 ⟨⟨(.tail _ (.tail _ (.tail _ (.head _)))), by dsimp only; have := HLTB5.out; have := HLTB6.out; omega⟩, (fun _ h => by cases h)⟩)⟩)⟩) (.bool p2) (.slice A6 n6 c6))
                clear HX
                have HX := Lib.hid HX1.out
                clear HX1
                refine hK.out _ _ (HCC.out _ K15) (fun hHeld => ?_)
                clear hK K
                generalize (w_14.setCell ⟨B6, 0, none⟩ (.bool p2)).setCell ⟨B6, 1, none⟩ (.slice A6 n6 c6) = w_15 at HX K15 hHeld ⊢
                try dsimp only [List.getElem_toArray, List.getElem_cons_succ, List.getElem_cons_zero]
                try simp only [Act.put, List.setIfInBounds_toArray, List.set_cons_zero, List.set_cons_succ]
                refine wpAnyH_done (by kernel_rfl) ?_ _
                go_wp2_with fail
                go_meet
                exact ⟨B5, B6, A5, n5, c5, A6, n6, c6, rfl, rfl, ln5, ln6, HX.out⟩
        · go_simp
          have HLTB6 := Lib.hid (show B0 < w_11.heap.size ∧ B0 + 1 < w_11.heap.size ∧ w2.heap.size ≤ w_11.heap.size ∧ B5 < w_11.heap.size from ⟨(HX.out.cells (.tail _ (.tail _ (.head _)))).2.2, (HX.out.cells (.tail _ (.head _))).2.2, K11.size, (HX.out.cells (.head _)).2.2⟩)
          have K12 : Keep (fun _ => False) w2 (w_11.alloc (.cells #[.bool false, .slice none 0 0] 25)) := K11.alloc _
          have HX1 := Lib.hid (HX.out.box (.bool false) (.slice none 0 0))
          clear HX
          have HX := Lib.hid HX1.out
          clear HX1
          refine hK.out _ _ (HCC.out _ K12) (fun hHeld => ?_)
          clear hK K
          generalize w_11.heap.size = B6 at HX HLTB6 hHeld ⊢
          generalize w_11.alloc (.cells #[.bool false, .slice none 0 0] 25) = w_12 at HX K12 hHeld ⊢
          try dsimp only [List.getElem_toArray, List.getElem_cons_succ, List.getElem_cons_zero]
          try simp only [Act.put, List.setIfInBounds_toArray, List.set_cons_zero, List.set_cons_succ]
          refine wpAnyH_ready (rs := [3]) (by kernel_rfl) (by simp) ?_
          refine AllReadyH.cons (o := _) rfl (fun K hK => ?_) (AllReadyH.nil)
          · go_simp
            refine (CP2.out _ K12).mono ?_
            rintro e w_13 ⟨A6, n6, c6, rfl, oo, kk⟩
            have K13 : Keep (fun _ => False) w2 w_13 := Keep.trans K12 kk
            have ln6 : n6 ≤ 60 := by have := oo.len; have := HLO.out.2.2.2; omega
            have HX1 := Lib.hid ((HX.out.keep kk).num (oo.toLimbs HLO.out.2.1 (by omega)))
            clear HX oo kk
            have HX := Lib.hid HX1.out
            clear HX1
            try dsimp only
            go_wp2_with fail
            refine hK.out _ _ (HCC.out _ K13) (fun hHeld => ?_)
            clear hK K
            try dsimp only [List.getElem_toArray, List.getElem_cons_succ, List.getElem_cons_zero]
            try simp only [Act.put, List.setIfInBounds_toArray, List.set_cons_zero, List.set_cons_succ]
            refine wpAnyH_ready (rs := [6]) (by kernel_rfl) (by simp) ?_
            refine AllReadyH.cons (o := _) rfl (fun K hK => ?_) (AllReadyH.nil)
            · skip
              obtain ⟨d0, d1, dl⟩ := HX.out.cells (.tail _ (.head _))
              obtain ⟨f0, f1⟩ := HX.out.frozen (.tail _ (.head _))
              go_simp
              clear d0 d1 dl f0 f1
              have K14 : Keep (fun _ => False) w2 ((w_13.setCell ⟨B5, 0, none⟩ (.bool p1)).setCell ⟨B5, 1, none⟩ (.slice A5 n5 c5)) := two_keep K13 (by have := HLTB5.out; omega) _ _
              have HX1 := Lib.hid (HX.out.set (bs' := [(B6, .bool false, .slice none 0 0), (B0 + 1, .bool p2, .slice A2 n2 c2), (B0, .bool p1, .slice A1 n1 c1)]) (.tail _ (.head _)) (by have := HLTB5.out; have := HX.out.k.size; have := HSZ.out; omega) (List.forall_mem_cons.2 ⟨⟨(.head _), by dsimp only; have := HLTB5.out; have := HLTB6.out; omega⟩, (List.forall_mem_cons.2 ⟨⟨(.tail _ (.tail _ (.head _))), by dsimp only; have := HLTB5.out; have := HLTB6.out; omega⟩, (List.forall_mem_cons.2 ⟨⟨(.tail _ (.tail _ (.tail _ (.head _)))), by dsimp only; have := HLTB5.out; have := HLTB6.out; omega⟩, (fun _ h => by cases h)⟩)⟩)⟩) (.bool p1) (.slice A5 n5 c5))
              clear HX
              have HX := Lib.hid HX1.out
              clear HX1
              refine hK.out _ _ (HCC.out _ K14) (fun hHeld => ?_)
              clear hK K
              generalize (w_13.setCell ⟨B5, 0, none⟩ (.bool p1)).setCell ⟨B5, 1, none⟩ (.slice A5 n5 c5) = w_14 at HX K14 hHeld ⊢
              try dsimp only [List.getElem_toArray, List.getElem_cons_succ, List.getElem_cons_zero]
              try simp only [Act.put, List.setIfInBounds_toArray, List.set_cons_zero, List.set_cons_succ]
              refine wpAnyH_ready (rs := [7]) (by kernel_rfl) (by simp) ?_
              refine AllReadyH.cons (o := _) rfl (fun K hK => ?_) (AllReadyH.nil)
              · skip
                obtain ⟨d0, d1, dl⟩ := HX.out.cells (.tail _ (.head _))
                obtain ⟨f0, f1⟩ := HX.out.frozen (.tail _ (.head _))
                go_simp
                clear d0 d1 dl f0 f1
                have K15 : Keep (fun _ => False) w2 ((w_14.setCell ⟨B6, 0, none⟩ (.bool p2)).setCell ⟨B6, 1, none⟩ (.slice A6 n6 c6)) := two_keep K14 (by have := HLTB6.out; omega) _ _
                have HX1 := Lib.hid (HX.out.set (bs' := [(B5, .bool p1, .slice A5 n5 c5), (B0 + 1, .bool p2, .slice A2 n2 c2), (B0, .bool p1, .slice A1 n1 c1)]) (.tail _ (.head _)) (by have := HLTB6.out; have := HX.out.k.size; have := HSZ.out; omega) (List.forall_mem_cons.2 ⟨⟨(.head _), by dsimp only; have := HLTB5.out; have := HLTB6.out; omega⟩, (List.forall_mem_cons.2 ⟨⟨(.tail _ (.tail _ (.head _))), by dsimp only; have := HLTB5.out; have := HLTB6.out; omega⟩, (List.forall_mem_cons.2 ⟨⟨(.tail _ (.tail _ (.tail _ (.head _)))), by dsimp only; have := HLTB5.out; have := HLTB6.out; omega⟩, (fun _ h => by cases h)⟩)⟩)⟩) (.bool p2) (.slice A6 n6 c6))
                clear HX
                have HX := Lib.hid HX1.out
                clear HX1
                refine hK.out _ _ (HCC.out _ K15) (fun hHeld => ?_)
                clear hK K
                generalize (w_14.setCell ⟨B6, 0, none⟩ (.bool p2)).setCell ⟨B6, 1, none⟩ (.slice A6 n6 c6) = w_15 at HX K15 hHeld ⊢
                try dsimp only [List.getElem_toArray, List.getElem_cons_succ, List.getElem_cons_zero]
                try simp only [Act.put, List.setIfInBounds_toArray, List.set_cons_zero, List.set_cons_succ]
                refine wpAnyH_done (by kernel_rfl) ?_ _
                go_wp2_with fail
                go_meet
                exact ⟨B5, B6, A5, n5, c5, A6, n6, c6, rfl, rfl, ln5, ln6, HX.out⟩
      · go_simp
        have HLTB6 := Lib.hid (show B0 < w_10.heap.size ∧ B0 + 1 < w_10.heap.size ∧ w2.heap.size ≤ w_10.heap.size from ⟨(HX.out.cells (.tail _ (.head _))).2.2, (HX.out.cells (.head _)).2.2, K10.size⟩)
        have K11 : Keep (fun _ => False) w2 (w_10.alloc (.cells #[.bool false, .slice none 0 0] 25)) := K10.alloc _
        have HX1 := Lib.hid (HX.out.box (.bool false) (.slice none 0 0))
        clear HX
        have HX := Lib.hid HX1.out
        clear HX1
        refine hK.out _ _ (HCC.out _ K11) (fun hHeld => ?_)
        clear hK K
        generalize w_10.heap.size = B6 at HX HLTB6 hHeld ⊢
        generalize w_10.alloc (.cells #[.bool false, .slice none 0 0] 25) = w_11 at HX K11 hHeld ⊢
        try dsimp only [List.getElem_toArray, List.getElem_cons_succ, List.getElem_cons_zero]
        try simp only [Act.put, List.setIfInBounds_toArray, List.set_cons_zero, List.set_cons_succ]
        refine wpAnyH_ready (rs := [3, 4]) (by kernel_rfl) (by simp) ?_
        refine AllReadyH.cons (o := _) rfl (fun K hK => ?_) (AllReadyH.cons (o := _) rfl (fun K hK => ?_) (AllReadyH.nil))
        · go_simp
          refine (CP2.out _ K11).mono ?_
          rintro e w_12 ⟨A6, n6, c6, rfl, oo, kk⟩
          have K12 : Keep (fun _ => False) w2 w_12 := Keep.trans K11 kk
          have ln6 : n6 ≤ 60 := by have := oo.len; have := HLO.out.2.2.2; omega
          have HX1 := Lib.hid ((HX.out.keep kk).num (oo.toLimbs HLO.out.2.1 (by omega)))
          clear HX oo kk
          have HX := Lib.hid HX1.out
          clear HX1
          try dsimp only
          go_wp2_with fail
          refine hK.out _ _ (HCC.out _ K12) (fun hHeld => ?_)
          clear hK K
          try dsimp only [List.getElem_toArray, List.getElem_cons_succ, List.getElem_cons_zero]
          try simp only [Act.put, List.setIfInBounds_toArray, List.set_cons_zero, List.set_cons_succ]
          refine wpAnyH_ready (rs := [4]) (by kernel_rfl) (by simp) ?_
          refine AllReadyH.cons (o := _) rfl (fun K hK => ?_) (AllReadyH.nil)
          · go_simp
            have HLTB5 := Lib.hid (show B0 < w_12.heap.size ∧ B0 + 1 < w_12.heap.size ∧ w2.heap.size ≤ w_12.heap.size ∧ B6 < w_12.heap.size from ⟨(HX.out.cells (.tail _ (.tail _ (.head _)))).2.2, (HX.out.cells (.tail _ (.head _))).2.2, K12.size, (HX.out.cells (.head _)).2.2⟩)
            have K13 : Keep (fun _ => False) w2 (w_12.alloc (.cells #[.bool false, .slice none 0 0] 25)) := K12.alloc _
            have HX1 := Lib.hid (HX.out.box (.bool false) (.slice none 0 0))
            clear HX
            have HX := Lib.hid HX1.out
            clear HX1
            refine hK.out _ _ (HCC.out _ K13) (fun hHeld => ?_)
            clear hK K
            generalize w_12.heap.size = B5 at HX HLTB5 hHeld ⊢
            generalize w_12.alloc (.cells #[.bool false, .slice none 0 0] 25) = w_13 at HX K13 hHeld ⊢
            try dsimp only [List.getElem_toArray, List.getElem_cons_succ, List.getElem_cons_zero]
            try simp only [Act.put, List.setIfInBounds_toArray, List.set_cons_zero, List.set_cons_succ]
            refine wpAnyH_ready (rs := [6]) (by kernel_rfl) (by simp) ?_
            refine AllReadyH.cons (o := _) rfl (fun K hK => ?_) (AllReadyH.nil)
            · skip
              obtain ⟨d0, d1, dl⟩ := HX.out.cells (.head _)
              obtain ⟨f0, f1⟩ := HX.out.frozen (.head _)
              go_simp
              clear d0 d1 dl f0 f1
              have K14 : Keep (fun _ => False) w2 ((w_13.setCell ⟨B5, 0, none⟩ (.bool p1)).setCell ⟨B5, 1, none⟩ (.slice A5 n5 c5)) := two_keep K13 (by have := HLTB5.out; omega) _ _
              have HX1 := Lib.hid (HX.out.set (bs' := [(B6, .bool false, .slice none 0 0), (B0 + 1, .bool p2, .slice A2 n2 c2), (B0, .bool p1, .slice A1 n1 c1)]) (.head _) (by have := HLTB5.out; have := HX.out.k.size; have := HSZ.out; omega) (List.forall_mem_cons.2 ⟨⟨(.tail _ (.head _)), by dsimp only; have := HLTB5.out; have := HLTB6.out; omega⟩, (List.forall_mem_cons.2 ⟨⟨(.tail _ (.tail _ (.head _))), by dsimp only; have := HLTB5.out; have := HLTB6.out; omega⟩, (List.forall_mem_cons.2 ⟨⟨(.tail _ (.tail _ (.tail _ (.head _)))), by dsimp only; have := HLTB5.out; have := HLTB6.out; omega⟩, (fun _ h => by cases h)⟩)⟩)⟩) (.bool p1) (.slice A5 n5 c5))
              clear HX
              have HX := Lib.hid HX1.out
              clear HX1
              refine hK.out _ _ (HCC.out _ K14) (fun hHeld => ?_)
              clear hK K
              generalize (w_13.setCell ⟨B5, 0, none⟩ (.bool p1)).setCell ⟨B5, 1, none⟩ (.slice A5 n5 c5) = w_14 at HX K14 hHeld ⊢
              try dsimp only [List.getElem_toArray, List.getElem_cons_succ, List.getElem_cons_zero]
              try simp only [Act.put, List.setIfInBounds_toArray, List.set_cons_zero, List.set_cons_succ]
              refine wpAnyH_ready (rs := [7]) (by kernel_rfl) (by simp) ?_
              refine AllReadyH.cons (o := _) rfl (fun K hK => ?_) (AllReadyH.nil)
              · skip
                obtain ⟨d0, d1, dl⟩ := HX.out.cells (.tail _ (.head _))
                obtain ⟨f0, f1⟩ := HX.out.frozen (.tail _ (.head _))
                go_simp
                clear d0 d1 dl f0 f1
                have K15 : Keep (fun _ => False) w2 ((w_14.setCell ⟨B6, 0, none⟩ (.bool p2)).setCell ⟨B6, 1, none⟩ (.slice A6 n6 c6)) := two_keep K14 (by have := HLTB6.out; omega) _ _
                have HX1 := Lib.hid (HX.out.set (bs' := [(B5, .bool p1, .slice A5 n5 c5), (B0 + 1, .bool p2, .slice A2 n2 c2), (B0, .bool p1, .slice A1 n1 c1)]) (.tail _ (.head _)) (by have := HLTB6.out; have := HX.out.k.size; have := HSZ.out; omega) (List.forall_mem_cons.2 ⟨⟨(.head _), by dsimp only; have := HLTB5.out; have := HLTB6.out; omega⟩, (List.forall_mem_cons.2 ⟨⟨(.tail _ (.tail _ (.head _))), by dsimp only; have := HLTB5.out; have := HLTB6.out; omega⟩, (List.forall_mem_cons.2 ⟨⟨(.tail _ (.tail _ (.tail _ (.head _)))), by dsimp only; have := HLTB5.out; have := HLTB6.out; omega⟩, (fun _ h => by cases h)⟩)⟩)⟩) (.bool p2) (.slice A6 n6 c6))
                clear HX
                have HX := Lib.hid HX1.out
                clear HX1
                refine hK.out _ _ (HCC.out _ K15) (fun hHeld => ?_)
                clear hK K
                generalize (w_14.setCell ⟨B6, 0, none⟩ (.bool p2)).setCell ⟨B6, 1, none⟩ (.slice A6 n6 c6) = w_15 at HX K15 hHeld ⊢
                try dsimp only [List.getElem_toArray, List.getElem_cons_succ, List.getElem_cons_zero]
                try simp only [Act.put, List.setIfInBounds_toArray, List.set_cons_zero, List.set_cons_succ]
                refine wpAnyH_done (by kernel_rfl) ?_ _
                go_wp2_with fail
                go_meet
                exact ⟨B5, B6, A5, n5, c5, A6, n6, c6, rfl, rfl, ln5, ln6, HX.out⟩
        · go_simp
          have HLTB5 := Lib.hid (show B0 < w_11.heap.size ∧ B0 + 1 < w_11.heap.size ∧ w2.heap.size ≤ w_11.heap.size ∧ B6 < w_11.heap.size from ⟨(HX.out.cells (.tail _ (.tail _ (.head _)))).2.2, (HX.out.cells (.tail _ (.head _))).2.2, K11.size, (HX.out.cells (.head _)).2.2⟩)
          have K12 : Keep (fun _ => False) w2 (w_11.alloc (.cells #[.bool false, .slice none 0 0] 25)) := K11.alloc _
          have HX1 := Lib.hid (HX.out.box (.bool false) (.slice none 0 0))
          clear HX
          have HX := Lib.hid HX1.out
          clear HX1
          refine hK.out _ _ (HCC.out _ K12) (fun hHeld => ?_)
          clear hK K
          generalize w_11.heap.size = B5 at HX HLTB5 hHeld ⊢
          generalize w_11.alloc (.cells #[.bool false, .slice none 0 0] 25) = w_12 at HX K12 hHeld ⊢
          try dsimp only [List.getElem_toArray, List.getElem_cons_succ, List.getElem_cons_zero]
          try simp only [Act.put, List.setIfInBounds_toArray, List.set_cons_zero, List.set_cons_succ]
          refine wpAnyH_ready (rs := [3]) (by kernel_rfl) (by simp) ?_
          refine AllReadyH.cons (o := _) rfl (fun K hK => ?_) (AllReadyH.nil)
          · go_simp
            refine (CP2.out _ K12).mono ?_
            rintro e w_13 ⟨A6, n6, c6, rfl, oo, kk⟩
            have K13 : Keep (fun _ => False) w2 w_13 := Keep.trans K12 kk
            have ln6 : n6 ≤ 60 := by have := oo.len; have := HLO.out.2.2.2; omega
            have HX1 := Lib.hid ((HX.out.keep kk).num (oo.toLimbs HLO.out.2.1 (by omega)))
            clear HX oo kk
            have HX := Lib.hid HX1.out
            clear HX1
            try dsimp only
            go_wp2_with fail
            refine hK.out _ _ (HCC.out _ K13) (fun hHeld => ?_)
            clear hK K
            try dsimp only [List.getElem_toArray, List.getElem_cons_succ, List.getElem_cons_zero]
            try simp only [Act.put, List.setIfInBounds_toArray, List.set_cons_zero, List.set_cons_succ]
            refine wpAnyH_ready (rs := [6]) (by kernel_rfl) (by simp) ?_
            refine AllReadyH.cons (o := _) rfl (fun K hK => ?_) (AllReadyH.nil)
            · skip
              obtain ⟨d0, d1, dl⟩ := HX.out.cells (.head _)
              obtain ⟨f0, f1⟩ := HX.out.frozen (.head _)
              go_simp
              clear d0 d1 dl f0 f1
              have K14 : Keep (fun _ => False) w2 ((w_13.setCell ⟨B5, 0, none⟩ (.bool p1)).setCell ⟨B5, 1, none⟩ (.slice A5 n5 c5)) := two_keep K13 (by have := HLTB5.out; omega) _ _
              have HX1 := Lib.hid (HX.out.set (bs' := [(B6, .bool false, .slice none 0 0), (B0 + 1, .bool p2, .slice A2 n2 c2), (B0, .bool p1, .slice A1 n1 c1)]) (.head _) (by have := HLTB5.out; have := HX.out.k.size; have := HSZ.out; omega) (List.forall_mem_cons.2 ⟨⟨(.tail _ (.head _)), by dsimp only; have := HLTB5.out; have := HLTB6.out; omega⟩, (List.forall_mem_cons.2 ⟨⟨(.tail _ (.tail _ (.head _))), by dsimp only; have := HLTB5.out; have := HLTB6.out; omega⟩, (List.forall_mem_cons.2 ⟨⟨(.tail _ (.tail _ (.tail _ (.head _)))), by dsimp only; have := HLTB5.out; have := HLTB6.out; omega⟩, (fun _ h => by cases h)⟩)⟩)⟩) (.bool p1) (.slice A5 n5 c5))
              clear HX
              have HX := Lib.hid HX1.out
              clear HX1
              refine hK.out _ _ (HCC.out _ K14) (fun hHeld => ?_)
              clear hK K
              generalize (w_13.setCell ⟨B5, 0, none⟩ (.bool p1)).setCell ⟨B5, 1, none⟩ (.slice A5 n5 c5) = w_14 at HX K14 hHeld ⊢
              try dsimp only [List.getElem_toArray, List.getElem_cons_succ, List.getElem_cons_zero]
              try simp only [Act.put, List.setIfInBounds_toArray, List.set_cons_zero, List.set_cons_succ]
              refine wpAnyH_ready (rs := [7]) (by kernel_rfl) (by simp) ?_
              refine AllReadyH.cons (o := _) rfl (fun K hK => ?_) (AllReadyH.nil)
              · skip
                obtain ⟨d0, d1, dl⟩ := HX.out.cells (.tail _ (.head _))
                obtain ⟨f0, f1⟩ := HX.out.frozen (.tail _ (.head _))
                go_simp
                clear d0 d1 dl f0 f1
                have K15 : Keep (fun _ => False) w2 ((w_14.setCell ⟨B6, 0, none⟩ (.bool p2)).setCell ⟨B6, 1, none⟩ (.slice A6 n6 c6)) := two_keep K14 (by have := HLTB6.out; omega) _ _
                have HX1 := Lib.hid (HX.out.set (bs' := [(B5, .bool p1, .slice A5 n5 c5), (B0 + 1, .bool p2, .slice A2 n2 c2), (B0, .bool p1, .slice A1 n1 c1)]) (.tail _ (.head _)) (by have := HLTB6.out; have := HX.out.k.size; have := HSZ.out; omega) (List.forall_mem_cons.2 ⟨⟨(.head _), by dsimp only; have := HLTB5.out; have := HLTB6.out; omega⟩, (List.forall_mem_cons.2 ⟨⟨(.tail _ (.tail _ (.head _))), by dsimp only; have := HLTB5.out; have := HLTB6.out; omega⟩, (List.forall_mem_cons.2 ⟨⟨(.tail _ (.tail _ (.tail _ (.head _)))), by dsimp only; have := HLTB5.out; have := HLTB6.out; omega⟩, (fun _ h => by cases h)⟩)⟩)⟩) (.bool p2) (.slice A6 n6 c6))
                clear HX
                have HX := Lib.hid HX1.out
                clear HX1
                refine hK.out _ _ (HCC.out _ K15) (fun hHeld => ?_)
                clear hK K
                generalize (w_14.setCell ⟨B6, 0, none⟩ (.bool p2)).setCell ⟨B6, 1, none⟩ (.slice A6 n6 c6) = w_15 at HX K15 hHeld ⊢
                try dsimp only [List.getElem_toArray, List.getElem_cons_succ, List.getElem_cons_zero]
                try simp only [Act.put, List.setIfInBounds_toArray, List.set_cons_zero, List.set_cons_succ]
                refine wpAnyH_done (by kernel_rfl) ?_ _
                go_wp2_with fail
                go_meet
                exact ⟨B5, B6, A5, n5, c5, A6, n6, c6, rfl, rfl, ln5, ln6, HX.out⟩
    · go_simp
      have HLTB5 := Lib.hid (show B0 < wd.heap.size ∧ B0 + 1 < wd.heap.size ∧ w2.heap.size ≤ wd.heap.size from ⟨(HX.out.cells (.tail _ (.head _))).2.2, (HX.out.cells (.head _)).2.2, Kd.size⟩)
      have K10 : Keep (fun _ => False) w2 (wd.alloc (.cells #[.bool false, .slice none 0 0] 25)) := Kd.alloc _
      have HX1 := Lib.hid (HX.out.box (.bool false) (.slice none 0 0))
      clear HX
      have HX := Lib.hid HX1.out
      clear HX1
      refine hK.out _ _ (HCC.out _ K10) (fun hHeld => ?_)
      clear hK K
      generalize wd.heap.size = B5 at HX HLTB5 hHeld ⊢
      generalize wd.alloc (.cells #[.bool false, .slice none 0 0] 25) = w_10 at HX K10 hHeld ⊢
      try dsimp only [List.getElem_toArray, List.getElem_cons_succ, List.getElem_cons_zero]
      try simp only [Act.put, List.setIfInBounds_toArray, List.set_cons_zero, List.set_cons_succ]
      refine wpAnyH_ready (rs := [1, 5]) (by kernel_rfl) (by simp) ?_
      refine AllReadyH.cons (o := _) rfl (fun K hK => ?_) (AllReadyH.cons (o := _) rfl (fun K hK => ?_) (AllReadyH.nil))
      · go_simp
        refine (CP1.out _ K10).mono ?_
        rintro e w_11 ⟨A5, n5, c5, rfl, oo, kk⟩
        have K11 : Keep (fun _ => False) w2 w_11 := Keep.trans K10 kk
        have ln5 : n5 ≤ 60 := by have := oo.len; have := HLO.out.2.2.1; omega
        have HX1 := Lib.hid ((HX.out.keep kk).num (oo.toLimbs HLO.out.1 (by omega)))
        clear HX oo kk
        have HX := Lib.hid HX1.out
        clear HX1
        try dsimp only
        go_wp2_with fail
        refine hK.out _ _ (HCC.out _ K11) (fun hHeld => ?_)
        clear hK K
        try dsimp only [List.getElem_toArray, List.getElem_cons_succ, List.getElem_cons_zero]
        try simp only [Act.put, List.setIfInBounds_toArray, List.set_cons_zero, List.set_cons_succ]
        refine wpAnyH_ready (rs := [3, 5]) (by kernel_rfl) (by simp) ?_
        refine AllReadyH.cons (o := _) rfl (fun K hK => ?_) (AllReadyH.cons (o := _) rfl (fun K hK => ?_) (AllReadyH.nil))
        · go_simp
          refine (CP2.out _ K11).mono ?_
          rintro e w_12 ⟨A6, n6, c6, rfl, oo, kk⟩
          have K12 : Keep (fun _ => False) w2 w_12 := Keep.trans K11 kk
          have ln6 : n6 ≤ 60 := by have := oo.len; have := HLO.out.2.2.2; omega
          have HX1 := Lib.hid ((HX.out.keep kk).num (oo.toLimbs HLO.out.2.1 (by omega)))
          clear HX oo kk
          have HX := Lib.hid HX1.out
          clear HX1
          try dsimp only
          go_wp2_with fail
          refine hK.out _ _ (HCC.out _ K12) (fun hHeld => ?_)
          clear hK K
          try dsimp only [List.getElem_toArray, List.getElem_cons_succ, List.getElem_cons_zero]
          try simp only [Act.put, List.setIfInBounds_toArray, List.set_cons_zero, List.set_cons_succ]
          refine wpAnyH_ready (rs := [5]) (by kernel_rfl) (by simp) ?_
          refine AllReadyH.cons (o := _) rfl (fun K hK => ?_) (AllReadyH.nil)
          · go_simp
            have HLTB6 := Lib.hid (show B0 < w_12.heap.size ∧ B0 + 1 < w_12.heap.size ∧ w2.heap.size ≤ w_12.heap.size ∧ B5 < w_12.heap.size from ⟨(HX.out.cells (.tail _ (.tail _ (.head _)))).2.2, (HX.out.cells (.tail _ (.head _))).2.2, K12.size, (HX.out.cells (.head _)).2.2⟩)
            have K13 : Keep (fun _ => False) w2 (w_12.alloc (.cells #[.bool false, .slice none 0 0] 25)) := K12.alloc _
            have HX1 := Lib.hid (HX.out.box (.bool false) (.slice none 0 0))
            clear HX
            have HX := Lib.hid HX1.out
            clear HX1
            refine hK.out _ _ (HCC.out _ K13) (fun hHeld => ?_)
            clear hK K
            generalize w_12.heap.size = B6 at HX HLTB6 hHeld ⊢
            generalize w_12.alloc (.cells #[.bool false, .slice none 0 0] 25) = w_13 at HX K13 hHeld ⊢
            try dsimp only [List.getElem_toArray, List.getElem_cons_succ, List.getElem_cons_zero]
            try simp only [Act.put, List.setIfInBounds_toArray, List.set_cons_zero, List.set_cons_succ]
            refine wpAnyH_ready (rs := [6]) (by kernel_rfl) (by simp) ?_
            refine AllReadyH.cons (o := _) rfl (fun K hK => ?_) (AllReadyH.nil)
            · skip
              obtain ⟨d0, d1, dl⟩ := HX.out.cells (.tail _ (.head _))
              obtain ⟨f0, f1⟩ := HX.out.frozen (.tail _ (.head _))
              go_simp
              clear d0 d1 dl f0 f1
              have K14 : Keep (fun _ => False) w2 ((w_13.setCell ⟨B5, 0, none⟩ (.bool p1)).setCell ⟨B5, 1, none⟩ (.slice A5 n5 c5)) := two_keep K13 (by have := HLTB5.out; omega) _ _
              have HX1 := Lib.hid (HX.out.set (bs' := [(B6, .bool false, .slice none 0 0), (B0 + 1, .bool p2, .slice A2 n2 c2), (B0, .bool p1, .slice A1 n1 c1)]) (.tail _ (.head _)) (by have := HLTB5.out; have := HX.out.k.size; have := HSZ.out; omega) (List.forall_mem_cons.2 ⟨⟨(.head _), by dsimp only; have := HLTB5.out; have := HLTB6.out; omega⟩, (List.forall_mem_cons.2 ⟨⟨(.tail _ (.tail _ (.head _))), by dsimp only; have := HLTB5.out; have := HLTB6.out; omega⟩, (List.forall_mem_cons.2 ⟨⟨(.tail _ (.tail _ (.tail _ (.head _)))), by dsimp only; have := HLTB5.out; have := HLTB6.out; omega⟩, (fun _ h => by cases h)⟩)⟩)⟩) (.bool p1) (.slice A5 n5 c5))
              clear HX
              have HX := Lib.hid HX1.out
              clear HX1
              refine hK.out _ _ (HCC.out _ K14) (fun hHeld => ?_)
              clear hK K
              generalize (w_13.setCell ⟨B5, 0, none⟩ (.bool p1)).setCell ⟨B5, 1, none⟩ (.slice A5 n5 c5) = w_14 at HX K14 hHeld ⊢
              try dsimp only [List.getElem_toArray, List.getElem_cons_succ, List.getElem_cons_zero]
              try simp only [Act.put, List.setIfInBounds_toArray, List.set_cons_zero, List.set_cons_succ]
              refine wpAnyH_ready (rs := [7]) (by kernel_rfl) (by simp) ?_
              refine AllReadyH.cons (o := _) rfl (fun K hK => ?_) (AllReadyH.nil)
              · skip
                obtain ⟨d0, d1, dl⟩ := HX.out.cells (.tail _ (.head _))
                obtain ⟨f0, f1⟩ := HX.out.frozen (.tail _ (.head _))
                go_simp
                clear d0 d1 dl f0 f1
                have K15 : Keep (fun _ => False) w2 ((w_14.setCell ⟨B6, 0, none⟩ (.bool p2)).setCell ⟨B6, 1, none⟩ (.slice A6 n6 c6)) := two_keep K14 (by have := HLTB6.out; omega) _ _
                have HX1 := Lib.hid (HX.out.set (bs' := [(B5, .bool p1, .slice A5 n5 c5), (B0 + 1, .bool p2, .slice A2 n2 c2), (B0, .bool p1, .slice A1 n1 c1)]) (.tail _ (.head _)) (by have := HLTB6.out; have := HX.out.k.size; have := HSZ.out; omega) (List.forall_mem_cons.2 ⟨⟨(.head _), by dsimp only; have := HLTB5.out; have := HLTB6.out; omega⟩, (List.forall_mem_cons.2 ⟨⟨(.tail _ (.tail _ (.head _))), by dsimp only; have := HLTB5.out; have := HLTB6.out; omega⟩, (List.forall_mem_cons.2 ⟨⟨(.tail _ (.tail _ (.tail _ (.head _)))), by dsimp only; have := HLTB5.out; have := HLTB6.out; omega⟩, (fun _ h => by cases h)⟩)⟩)⟩) (.bool p2) (.slice A6 n6 c6))
                clear HX
                have HX := Lib.hid HX1.out
                clear HX1
                refine hK.out _ _ (HCC.out _ K15) (fun hHeld => ?_)
                clear hK K
                generalize (w_14.setCell ⟨B6, 0, none⟩ (.bool p2)).setCell ⟨B6, 1, none⟩ (.slice A6 n6 c6) = w_15 at HX K15 hHeld ⊢
                try dsimp only [List.getElem_toArray, List.getElem_cons_succ, List.getElem_cons_zero]
                try simp only [Act.put, List.setIfInBounds_toArray, List.set_cons_zero, List.set_cons_succ]
                refine wpAnyH_done (by kernel_rfl) ?_ _
                go_wp2_with fail
                go_meet
                exact ⟨B5, B6, A5, n5, c5, A6, n6, c6, rfl, rfl, ln5, ln6, HX.out⟩
        · go_simp
          have HLTB6 := Lib.hid (show B0 < w_11.heap.size ∧ B0 + 1 < w_11.heap.size ∧ w2.heap.size ≤ w_11.heap.size ∧ B5 < w_11.heap.size from ⟨(HX.out.cells (.tail _ (.tail _ (.head _)))).2.2, (HX.out.cells (.tail _ (.head _))).2.2, K11.size, (HX.out.cells (.head _)).2.2⟩)
          have K12 : Keep (fun _ => False) w2 (w_11.alloc (.cells #[.bool false, .slice none 0 0] 25)) := K11.alloc _
          have HX1 := Lib.hid (HX.out.box (.bool false) (.slice none 0 0))
          clear HX
          have HX := Lib.hid HX1.out
          clear HX1
          refine hK.out _ _ (HCC.out _ K12) (fun hHeld => ?_)
          clear hK K
          generalize w_11.heap.size = B6 at HX HLTB6 hHeld ⊢
          generalize w_11.alloc (.cells #[.bool false, .slice none 0 0] 25) = w_12 at HX K12 hHeld ⊢
          try dsimp only [List.getElem_toArray, List.getElem_cons_succ, List.getElem_cons_zero]
          try simp only [Act.put, List.setIfInBounds_toArray, List.set_cons_zero, List.set_cons_succ]
          refine wpAnyH_ready (rs := [3]) (by kernel_rfl) (by simp) ?_
          refine AllReadyH.cons (o := _) rfl (fun K hK => ?_) (AllReadyH.nil)
          · go_simp
            refine (CP2.out _ K12).mono ?_
            rintro e w_13 ⟨A6, n6, c6, rfl, oo, kk⟩
            have K13 : Keep (fun _ => False) w2 w_13 := Keep.trans K12 kk
            have ln6 : n6 ≤ 60 := by have := oo.len; have := HLO.out.2.2.2; omega
            have HX1 := Lib.hid ((HX.out.keep kk).num (oo.toLimbs HLO.out.2.1 (by omega)))
            clear HX oo kk
            have HX := Lib.hid HX1.out
            clear HX1
            try dsimp only
            go_wp2_with fail
            refine hK.out _ _ (HCC.out _ K13) (fun hHeld => ?_)
            clear hK K
            try dsimp only [List.getElem_toArray, List.getElem_cons_succ, List.getElem_cons_zero]
            try simp only [Act.put, List.setIfInBounds_toArray, List.set_cons_zero, List.set_cons_succ]
            refine wpAnyH_ready (rs := [6]) (by kernel_rfl) (by simp) ?_
            refine AllReadyH.cons (o := _) rfl (fun K hK => ?_) (AllReadyH.nil)
            · skip
              obtain ⟨d0, d1, dl⟩ := HX.out.cells (.tail _ (.head _))
              obtain ⟨f0, f1⟩ := HX.out.frozen (.tail _ (.head _))
              go_simp
              clear d0 d1 dl f0 f1
              have K14 : Keep (fun _ => False) w2 ((w_13.setCell ⟨B5, 0, none⟩ (.bool p1)).setCell ⟨B5, 1, none⟩ (.slice A5 n5 c5)) := two_keep K13 (by have := HLTB5.out; omega) _ _
              have HX1 := Lib.hid (HX.out.set (bs' := [(B6, .bool false, .slice none 0 0), (B0 + 1, .bool p2, .slice A2 n2 c2), (B0, .bool p1, .slice A1 n1 c1)]) (.tail _ (.head _)) (by have := HLTB5.out; have := HX.out.k.size; have := HSZ.out; omega) (List.forall_mem_cons.2 ⟨⟨(.head _), by dsimp only; have := HLTB5.out; have := HLTB6.out; omega⟩, (List.forall_mem_cons.2 ⟨⟨(.tail _ (.tail _ (.head _))), by dsimp only; have := HLTB5.out; have := HLTB6.out; omega⟩, (List.forall_mem_cons.2 ⟨⟨(.tail _ (.tail _ (.tail _ (.head _)))), by dsimp only; have := HLTB5.out; have := HLTB6.out; omega⟩, (fun _ h => by cases h)⟩)⟩)⟩) (.bool p1) (.slice A5 n5 c5))
              clear HX
              have HX := Lib.hid HX1.out
              clear HX1
              refine hK.out _ _ (HCC.out _ K14) (fun hHeld => ?_)
              clear hK K
              generalize (w_13.setCell ⟨B5, 0, none⟩ (.bool p1)).setCell ⟨B5, 1, none⟩ (.slice A5 n5 c5) = w_14 at HX K14 hHeld ⊢
              try dsimp only [List.getElem_toArray, List.getElem_cons_succ, List.getElem_cons_zero]
              try simp only [Act.put, List.setIfInBounds_toArray, List.set_cons_zero, List.set_cons_succ]
              refine wpAnyH_ready (rs := [7]) (by kernel_rfl) (by simp) ?_
              refine AllReadyH.cons (o := _) rfl (fun K hK => ?_) (AllReadyH.nil)
              · skip
                obtain ⟨d0, d1, dl⟩ := HX.out.cells (.tail _ (.head _))
                obtain ⟨f0, f1⟩ := HX.out.frozen (.tail _ (.head _))
                go_simp
                clear d0 d1 dl f0 f1
                have K15 : Keep (fun _ => False) w2 ((w_14.setCell ⟨B6, 0, none⟩ (.bool p2)).setCell ⟨B6, 1, none⟩ (.slice A6 n6 c6)) := two_keep K14 (by have := HLTB6.out; omega) _ _
                have HX1 := Lib.hid (HX.out.set (bs' := [(B5, .bool p1, .slice A5 n5 c5), (B0 + 1, .bool p2, .slice A2 n2 c2), (B0, .bool p1, .slice A1 n1 c1)]) (.tail _ (.head _)) (by have := HLTB6.out; have := HX.out.k.size; have := HSZ.out; omega) (List.forall_mem_cons.2 ⟨⟨(.head _), by dsimp only; have := HLTB5.out; have := HLTB6.out; omega⟩, (List.forall_mem_cons.2 ⟨⟨(.tail _ (.tail _ (.head _))), by dsimp only; have := HLTB5.out; have := HLTB6.out; omega⟩, (List.forall_mem_cons.2 ⟨⟨(.tail _ (.tail _ (.tail _ (.head _)))), by dsimp only; have := HLTB5.out; have := HLTB6.out; omega⟩, (fun _ h => by cases h)⟩)⟩)⟩) (.bool p2) (.slice A6 n6 c6))
                clear HX
                have HX := Lib.hid HX1.out
                clear HX1
                refine hK.out _ _ (HCC.out _ K15) (fun hHeld => ?_)
                clear hK K
                generalize (w_14.setCell ⟨B6, 0, none⟩ (.bool p2)).setCell ⟨B6, 1, none⟩ (.slice A6 n6 c6) = w_15 at HX K15 hHeld ⊢
                try dsimp only [List.getElem_toArray, List.getElem_cons_succ, List.getElem_cons_zero]
                try simp only [Act.put, List.setIfInBounds_toArray, List.set_cons_zero, List.set_cons_succ]
                refine wpAnyH_done (by kernel_rfl) ?_ _
                go_wp2_with fail
                go_meet
                exact ⟨B5, B6, A5, n5, c5, A6, n6, c6, rfl, rfl, ln5, ln6, HX.out⟩
      · go_simp
        have HLTB6 := Lib.hid (show B0 < w_10.heap.size ∧ B0 + 1 < w_10.heap.size ∧ w2.heap.size ≤ w_10.heap.size ∧ B5 < w_10.heap.size from ⟨(HX.out.cells (.tail _ (.tail _ (.head _)))).2.2, (HX.out.cells (.tail _ (.head _))).2.2, K10.size, (HX.out.cells (.head _)).2.2⟩)
        have K11 : Keep (fun _ => False) w2 (w_10.alloc (.cells #[.bool false, .slice none 0 0] 25)) := K10.alloc _
        have HX1 := Lib.hid (HX.out.box (.bool false) (.slice none 0 0))
        clear HX
        have HX := Lib.hid HX1.out
        clear HX1
        refine hK.out _ _ (HCC.out _ K11) (fun hHeld => ?_)
        clear hK K
        generalize w_10.heap.size = B6 at HX HLTB6 hHeld ⊢
        generalize w_10.alloc (.cells #[.bool false, .slice none 0 0] 25) = w_11 at HX K11 hHeld ⊢
        try dsimp only [List.getElem_toArray, List.getElem_cons_succ, List.getElem_cons_zero]
        try simp only [Act.put, List.setIfInBounds_toArray, List.set_cons_zero, List.set_cons_succ]
        refine wpAnyH_ready (rs := [1]) (by kernel_rfl) (by simp) ?_
        refine AllReadyH.cons (o := _) rfl (fun K hK => ?_) (AllReadyH.nil)
        · go_simp
          refine (CP1.out _ K11).mono ?_
          rintro e w_12 ⟨A5, n5, c5, rfl, oo, kk⟩
          have K12 : Keep (fun _ => False) w2 w_12 := Keep.trans K11 kk
          have ln5 : n5 ≤ 60 := by have := oo.len; have := HLO.out.2.2.1; omega
          have HX1 := Lib.hid ((HX.out.keep kk).num (oo.toLimbs HLO.out.1 (by omega)))
          clear HX oo kk
          have HX := Lib.hid HX1.out
          clear HX1
          try dsimp only
          go_wp2_with fail
          refine hK.out _ _ (HCC.out _ K12) (fun hHeld => ?_)
          clear hK K
          try dsimp only [List.getElem_toArray, List.getElem_cons_succ, List.getElem_cons_zero]
          try simp only [Act.put, List.setIfInBounds_toArray, List.set_cons_zero, List.set_cons_succ]
          refine wpAnyH_ready (rs := [3]) (by kernel_rfl) (by simp) ?_
          refine AllReadyH.cons (o := _) rfl (fun K hK => ?_) (AllReadyH.nil)
          · go_simp
            refine (CP2.out _ K12).mono ?_
            rintro e w_13 ⟨A6, n6, c6, rfl, oo, kk⟩
            have K13 : Keep (fun _ => False) w2 w_13 := Keep.trans K12 kk
            have ln6 : n6 ≤ 60 := by have := oo.len; have := HLO.out.2.2.2; omega
            have HX1 := Lib.hid ((HX.out.keep kk).num (oo.toLimbs HLO.out.2.1 (by omega)))
            clear HX oo kk
            have HX := Lib.hid HX1.out
            clear HX1
            try dsimp only
            go_wp2_with fail
            refine hK.out _ _ (HCC.out _ K13) (fun hHeld => ?_)
            clear hK K
            try dsimp only [List.getElem_toArray, List.getElem_cons_succ, List.getElem_cons_zero]
            try simp only [Act.put, List.setIfInBounds_toArray, List.set_cons_zero, List.set_cons_succ]
            refine wpAnyH_ready (rs := [6]) (by kernel_rfl) (by simp) ?_
            refine AllReadyH.cons (o := _) rfl (fun K hK => ?_) (AllReadyH.nil)
            · skip
              obtain ⟨d0, d1, dl⟩ := HX.out.cells (.tail _ (.head _))
              obtain ⟨f0, f1⟩ := HX.out.frozen (.tail _ (.head _))
              go_simp
              clear d0 d1 dl f0 f1
              have K14 : Keep (fun _ => False) w2 ((w_13.setCell ⟨B5, 0, none⟩ (.bool p1)).setCell ⟨B5, 1, none⟩ (.slice A5 n5 c5)) := two_keep K13 (by have := HLTB5.out; omega) _ _
              have HX1 := Lib.hid (HX.out.set (bs' := [(B6, .bool false, .slice none 0 0), (B0 + 1, .bool p2, .slice A2 n2 c2), (B0, .bool p1, .slice A1 n1 c1)]) (.tail _ (.head _)) (by have := HLTB5.out; have := HX.out.k.size; have := HSZ.out; omega) (List.forall_mem_cons.2 ⟨⟨(.head _), by dsimp only; have := HLTB5.out; have := HLTB6.out; omega⟩, (List.forall_mem_cons.2 ⟨⟨(.tail _ (.tail _ (.head _))), by dsimp only; have := HLTB5.out; have := HLTB6.out; omega⟩, (List.forall_mem_cons.2 ⟨⟨(.tail _ (.tail _ (.tail _ (.head _)))), by dsimp only; have := HLTB5.out; have := HLTB6.out; omega⟩, (fun _ h => by cases h)⟩)⟩)⟩) (.bool p1) (.slice A5 n5 c5))
              clear HX
              have HX := Lib.hid HX1.out
              clear HX1
              refine hK.out _ _ (HCC.out _ K14) (fun hHeld => ?_)
              clear hK K
              generalize (w_13.setCell ⟨B5, 0, none⟩ (.bool p1)).setCell ⟨B5, 1, none⟩ (.slice A5 n5 c5) = w_14 at HX K14 hHeld ⊢
              try dsimp only [List.getElem_toArray, List.getElem_cons_succ, List.getElem_cons_zero]
              try simp only [Act.put, List.setIfInBounds_toArray, List.set_cons_zero, List.set_cons_succ]
              refine wpAnyH_ready (rs := [7]) (by kernel_rfl) (by simp) ?_
              refine AllReadyH.cons (o := _) rfl (fun K hK => ?_) (AllReadyH.nil)
              · skip
                obtain ⟨d0, d1, dl⟩ := HX.out.cells (.tail _ (.head _))
                obtain ⟨f0, f1⟩ := HX.out.frozen (.tail _ (.head _))
                go_simp
                clear d0 d1 dl f0 f1
                have K15 : Keep (fun _ => False) w2 ((w_14.setCell ⟨B6, 0, none⟩ (.bool p2)).setCell ⟨B6, 1, none⟩ (.slice A6 n6 c6)) := two_keep K14 (by have := HLTB6.out; omega) _ _
                have HX1 := Lib.hid (HX.out.set (bs' := [(B5, .bool p1, .slice A5 n5 c5), (B0 + 1, .bool p2, .slice A2 n2 c2), (B0, .bool p1, .slice A1 n1 c1)]) (.tail _ (.head _)) (by have := HLTB6.out; have := HX.out.k.size; have := HSZ.out; omega) (List.forall_mem_cons.2 ⟨⟨(.head _), by dsimp only; have := HLTB5.out; have := HLTB6.out; omega⟩, (List.forall_mem_cons.2 ⟨⟨(.tail _ (.tail _ (.head _))), by dsimp only; have := HLTB5.out; have := HLTB6.out; omega⟩, (List.forall_mem_cons.2 ⟨⟨(.tail _ (.tail _ (.tail _ (.head _)))), by dsimp only; have := HLTB5.out; have := HLTB6.out; omega⟩, (fun _ h => by cases h)⟩)⟩)⟩) (.bool p2) (.slice A6 n6 c6))
                clear HX
                have HX := Lib.hid HX1.out
                clear HX1
                refine hK.out _ _ (HCC.out _ K15) (fun hHeld => ?_)
                clear hK K
                generalize (w_14.setCell ⟨B6, 0, none⟩ (.bool p2)).setCell ⟨B6, 1, none⟩ (.slice A6 n6 c6) = w_15 at HX K15 hHeld ⊢
                try dsimp only [List.getElem_toArray, List.getElem_cons_succ, List.getElem_cons_zero]
                try simp only [Act.put, List.setIfInBounds_toArray, List.set_cons_zero, List.set_cons_succ]
                refine wpAnyH_done (by kernel_rfl) ?_ _
                go_wp2_with fail
                go_meet
                exact ⟨B5, B6, A5, n5, c5, A6, n6, c6, rfl, rfl, ln5, ln6, HX.out⟩
    · go_simp
      have HLTB6 := Lib.hid (show B0 < wd.heap.size ∧ B0 + 1 < wd.heap.size ∧ w2.heap.size ≤ wd.heap.size from ⟨(HX.out.cells (.tail _ (.head _))).2.2, (HX.out.cells (.head _)).2.2, Kd.size⟩)
      have K10 : Keep (fun _ => False) w2 (wd.alloc (.cells #[.bool false, .slice none 0 0] 25)) := Kd.alloc _
      have HX1 := Lib.hid (HX.out.box (.bool false) (.slice none 0 0))
      clear HX
      have HX := Lib.hid HX1.out
      clear HX1
      refine hK.out _ _ (HCC.out _ K10) (fun hHeld => ?_)
      clear hK K
      generalize wd.heap.size = B6 at HX HLTB6 hHeld ⊢
      generalize wd.alloc (.cells #[.bool false, .slice none 0 0] 25) = w_10 at HX K10 hHeld ⊢
      try dsimp only [List.getElem_toArray, List.getElem_cons_succ, List.getElem_cons_zero]
      try simp only [Act.put, List.setIfInBounds_toArray, List.set_cons_zero, List.set_cons_succ]
      refine wpAnyH_ready (rs := [1, 4]) (by kernel_rfl) (by simp) ?_
      refine AllReadyH.cons (o := _) rfl (fun K hK => ?_) (AllReadyH.cons (o := _) rfl (fun K hK => ?_) (AllReadyH.nil))
      · go_simp
        refine (CP1.out _ K10).mono ?_
        rintro e w_11 ⟨A5, n5, c5, rfl, oo, kk⟩
        have K11 : Keep (fun _ => False) w2 w_11 := Keep.trans K10 kk
        have ln5 : n5 ≤ 60 := by have := oo.len; have := HLO.out.2.2.1; omega
        have HX1 := Lib.hid ((HX.out.keep kk).num (oo.toLimbs HLO.out.1 (by omega)))
        clear HX oo kk
        have HX := Lib.hid HX1.out
        clear HX1
        try dsimp only
        go_wp2_with fail
        refine hK.out _ _ (HCC.out _ K11) (fun hHeld => ?_)
        clear hK K
        try dsimp only [List.getElem_toArray, List.getElem_cons_succ, List.getElem_cons_zero]
        try simp only [Act.put, List.setIfInBounds_toArray, List.set_cons_zero, List.set_cons_succ]
        refine wpAnyH_ready (rs := [3, 4]) (by kernel_rfl) (by simp) ?_
        refine AllReadyH.cons (o := _) rfl (fun K hK => ?_) (AllReadyH.cons (o := _) rfl (fun K hK => ?_) (AllReadyH.nil))
        · go_simp
          refine (CP2.out _ K11).mono ?_
          rintro e w_12 ⟨A6, n6, c6, rfl, oo, kk⟩
          have K12 : Keep (fun _ => False) w2 w_12 := Keep.trans K11 kk
          have ln6 : n6 ≤ 60 := by have := oo.len; have := HLO.out.2.2.2; omega
          have HX1 := Lib.hid ((HX.out.keep kk).num (oo.toLimbs HLO.out.2.1 (by omega)))
          clear HX oo kk
          have HX := Lib.hid HX1.out
          clear HX1
          try dsimp only
          go_wp2_with fail
          refine hK.out _ _ (HCC.out _ K12) (fun hHeld => ?_)
          clear hK K
          try dsimp only [List.getElem_toArray, List.getElem_cons_succ, List.getElem_cons_zero]
          try simp only [Act.put, List.setIfInBounds_toArray, List.set_cons_zero, List.set_cons_succ]
          refine wpAnyH_ready (rs := [4]) (by kernel_rfl) (by simp) ?_
          refine AllReadyH.cons (o := _) rfl (fun K hK => ?_) (AllReadyH.nil)
          · go_simp
            have HLTB5 := Lib.hid (show B0 < w_12.heap.size ∧ B0 + 1 < w_12.heap.size ∧ w2.heap.size ≤ w_12.heap.size ∧ B6 < w_12.heap.size from ⟨(HX.out.cells (.tail _ (.tail _ (.head _)))).2.2, (HX.out.cells (.tail _ (.head _))).2.2, K12.size, (HX.out.cells (.head _)).2.2⟩)
            have K13 : Keep (fun _ => False) w2 (w_12.alloc (.cells #[.bool false, .slice none 0 0] 25)) := K12.alloc _
            have HX1 := Lib.hid (HX.out.box (.bool false) (.slice none 0 0))
            clear HX
            have HX := Lib.hid HX1.out
            clear HX1
            refine hK.out _ _ (HCC.out _ K13) (fun hHeld => ?_)
            clear hK K
            generalize w_12.heap.size = B5 at HX HLTB5 hHeld ⊢
            generalize w_12.alloc (.cells #[.bool false, .slice none 0 0] 25) = w_13 at HX K13 hHeld ⊢
            try dsimp only [List.getElem_toArray, List.getElem_cons_succ, List.getElem_cons_zero]
            try simp only [Act.put, List.setIfInBounds_toArray, List.set_cons_zero, List.set_cons_succ]
            refine wpAnyH_ready (rs := [6]) (by kernel_rfl) (by simp) ?_
            refine AllReadyH.cons (o := _) rfl (fun K hK => ?_) (AllReadyH.nil)
            · skip
              obtain ⟨d0, d1, dl⟩ := HX.out.cells (.head _)
              obtain ⟨f0, f1⟩ := HX.out.frozen (.head _)
              go_simp
              clear d0 d1 dl f0 f1
              have K14 : Keep (fun _ => False) w2 ((w_13.setCell ⟨B5, 0, none⟩ (.bool p1)).setCell ⟨B5, 1, none⟩ (.slice A5 n5 c5)) := two_keep K13 (by have := HLTB5.out; omega) _ _
              have HX1 := Lib.hid (HX.out.set (bs' := [(B6, .bool false, .slice none 0 0), (B0 + 1, .bool p2, .slice A2 n2 c2), (B0, .bool p1, .slice A1 n1 c1)]) (.head _) (by have := HLTB5.out; have := HX.out.k.size; have := HSZ.out; omega) (List.forall_mem_cons.2 ⟨⟨(.tail _ (.head _)), by dsimp only; have := HLTB5.out; have := HLTB6.out; omega⟩, (List.forall_mem_cons.2 ⟨⟨(.tail _ (.tail _ (.head _))), by dsimp only; have := HLTB5.out; have := HLTB6.out; omega⟩, (List.forall_mem_cons.2 ⟨⟨(.tail _ (.tail _ (.tail _ (.head _)))), by dsimp only; have := HLTB5.out; have := HLTB6.out; omega⟩, (fun _ h => by cases h)⟩)⟩)⟩) (.bool p1) (.slice A5 n5 c5))
              clear HX
              have HX := Lib.hid HX1.out
              clear HX1
              refine hK.out _ _ (HCC.out _ K14) (fun hHeld => ?_)
              clear hK K
              generalize (w_13.setCell ⟨B5, 0, none⟩ (.bool p1)).setCell ⟨B5, 1, none⟩ (.slice A5 n5 c5) = w_14 at HX K14 hHeld ⊢
              try dsimp only [List.getElem_toArray, List.getElem_cons_succ, List.getElem_cons_zero]
              try simp only [Act.put, List.setIfInBounds_toArray, List.set_cons_zero, List.set_cons_succ]
              refine wpAnyH_ready (rs := [7]) (by kernel_rfl) (by simp) ?_
              refine AllReadyH.cons (o := _) rfl (fun K hK => ?_) (AllReadyH.nil)
              · skip
                obtain ⟨d0, d1, dl⟩ := HX.out.cells (.tail _ (.head _))
                obtain ⟨f0, f1⟩ := HX.out.frozen (.tail _ (.head _))
                go_simp
                clear d0 d1 dl f0 f1
                have K15 : Keep (fun _ => False) w2 ((w_14.setCell ⟨B6, 0, none⟩ (.bool p2)).setCell ⟨B6, 1, none⟩ (.slice A6 n6 c6)) := two_keep K14 (by have := HLTB6.out; omega) _ _
                have HX1 := Lib.hid (HX.out.set (bs' := [(B5, .bool p1, .slice A5 n5 c5), (B0 + 1, .bool p2, .slice A2 n2 c2), (B0, .bool p1, .slice A1 n1 c1)]) (.tail _ (.head _)) (by have := HLTB6.out; have := HX.out.k.size; have := HSZ.out; omega) (List.forall_mem_cons.2 ⟨⟨(.head _), by dsimp only; have := HLTB5.out; have := HLTB6.out; omega⟩, (List.forall_mem_cons.2 ⟨⟨(.tail _ (.tail _ (.head _))), by dsimp only; have := HLTB5.out; have := HLTB6.out; omega⟩, (List.forall_mem_cons.2 ⟨⟨(.tail _ (.tail _ (.tail _ (.head _)))), by dsimp only; have := HLTB5.out; have := HLTB6.out; omega⟩, (fun _ h => by cases h)⟩)⟩)⟩) (.bool p2) (.slice A6 n6 c6))
                clear HX
                have HX := Lib.hid HX1.out
                clear HX1
                refine hK.out _ _ (HCC.out _ K15) (fun hHeld => ?_)
                clear hK K
                generalize (w_14.setCell ⟨B6, 0, none⟩ (.bool p2)).setCell ⟨B6, 1, none⟩ (.slice A6 n6 c6) = w_15 at HX K15 hHeld ⊢
                try dsimp only [List.getElem_toArray, List.getElem_cons_succ, List.getElem_cons_zero]
                try simp only [Act.put, List.setIfInBounds_toArray, List.set_cons_zero, List.set_cons_succ]
                refine wpAnyH_done (by kernel_rfl) ?_ _
                go_wp2_with fail
                go_meet
                exact ⟨B5, B6, A5, n5, c5, A6, n6, c6, rfl, rfl, ln5, ln6, HX.out⟩
        · go_simp
          have HLTB5 := Lib.hid (show B0 < w_11.heap.size ∧ B0 + 1 < w_11.heap.size ∧ w2.heap.size ≤ w_11.heap.size ∧ B6 < w_11.heap.size from ⟨(HX.out.cells (.tail _ (.tail _ (.head _)))).2.2, (HX.out.cells (.tail _ (.head _))).2.2, K11.size, (HX.out.cells (.head _)).2.2⟩)
          have K12 : Keep (fun _ => False) w2 (w_11.alloc (.cells #[.bool false, .slice none 0 0] 25)) := K11.alloc _
          have HX1 := Lib.hid (HX.out.box (.bool false) (.slice none 0 0))
          clear HX
          have HX := Lib.hid HX1.out
          clear HX1
          refine hK.out _ _ (HCC.out _ K12) (fun hHeld => ?_)
          clear hK K
          generalize w_11.heap.size = B5 at HX HLTB5 hHeld ⊢
          generalize w_11.alloc (.cells #[.bool false, .slice none 0 0] 25) = w_12 at HX K12 hHeld ⊢
          try dsimp only [List.getElem_toArray, List.getElem_cons_succ, List.getElem_cons_zero]
          try simp only [Act.put, List.setIfInBounds_toArray, List.set_cons_zero, List.set_cons_succ]
          refine wpAnyH_ready (rs := [3]) (by kernel_rfl) (by simp) ?_
          refine AllReadyH.cons (o := _) rfl (fun K hK => ?_) (AllReadyH.nil)
          · go_simp
            refine (CP2.out _ K12).mono ?_
            rintro e w_13 ⟨A6, n6, c6, rfl, oo, kk⟩
            have K13 : Keep (fun _ => False) w2 w_13 := Keep.trans K12 kk
            have ln6 : n6 ≤ 60 := by have := oo.len; have := HLO.out.2.2.2; omega
            have HX1 := Lib.hid ((HX.out.keep kk).num (oo.toLimbs HLO.out.2.1 (by omega)))
            clear HX oo kk
            have HX := Lib.hid HX1.out
            clear HX1
            try dsimp only
            go_wp2_with fail
            refine hK.out _ _ (HCC.out _ K13) (fun hHeld => ?_)
            clear hK K
            try dsimp only [List.getElem_toArray, List.getElem_cons_succ, List.getElem_cons_zero]
            try simp only [Act.put, List.setIfInBounds_toArray, List.set_cons_zero, List.set_cons_succ]
            refine wpAnyH_ready (rs := [6]) (by kernel_rfl) (by simp) ?_
            refine AllReadyH.cons (o := _) rfl (fun K hK => ?_) (AllReadyH.nil)
            · skip
              obtain ⟨d0, d1, dl⟩ := HX.out.cells (.head _)
              obtain ⟨f0, f1⟩ := HX.out.frozen (.head _)
              go_simp
              clear d0 d1 dl f0 f1
              have K14 : Keep (fun _ => False) w2 ((w_13.setCell ⟨B5, 0, none⟩ (.bool p1)).setCell ⟨B5, 1, none⟩ (.slice A5 n5 c5)) := two_keep K13 (by have := HLTB5.out; omega) _ _
              have HX1 := Lib.hid (HX.out.set (bs' := [(B6, .bool false, .slice none 0 0), (B0 + 1, .bool p2, .slice A2 n2 c2), (B0, .bool p1, .slice A1 n1 c1)]) (.head _) (by have := HLTB5.out; have := HX.out.k.size; have := HSZ.out; omega) (List.forall_mem_cons.2 ⟨⟨(.tail _ (.head _)), by dsimp only; have := HLTB5.out; have := HLTB6.out; omega⟩, (List.forall_mem_cons.2 ⟨⟨(.tail _ (.tail _ (.head _))), by dsimp only; have := HLTB5.out; have := HLTB6.out; omega⟩, (List.forall_mem_cons.2 ⟨⟨(.tail _ (.tail _ (.tail _ (.head _)))), by dsimp only; have := HLTB5.out; have := HLTB6.out; omega⟩, (fun _ h => by cases h)⟩)⟩)⟩) (.bool p1) (.slice A5 n5 c5))
              clear HX
              have HX := Lib.hid HX1.out
              clear HX1
              refine hK.out _ _ (HCC.out _ K14) (fun hHeld => ?_)
              clear hK K
              generalize (w_13.setCell ⟨B5, 0, none⟩ (.bool p1)).setCell ⟨B5, 1, none⟩ (.slice A5 n5 c5) = w_14 at HX K14 hHeld ⊢
              try dsimp only [List.getElem_toArray, List.getElem_cons_succ, List.getElem_cons_zero]
              try simp only [Act.put, List.setIfInBounds_toArray, List.set_cons_zero, List.set_cons_succ]
              refine wpAnyH_ready (rs := [7]) (by kernel_rfl) (by simp) ?_
              refine AllReadyH.cons (o := _) rfl (fun K hK => ?_) (AllReadyH.nil)
              · skip
                obtain ⟨d0, d1, dl⟩ := HX.out.cells (.tail _ (.head _))
                obtain ⟨f0, f1⟩ := HX.out.frozen (.tail _ (.head _))
                go_simp
                clear d0 d1 dl f0 f1
                have K15 : Keep (fun _ => False) w2 ((w_14.setCell ⟨B6, 0, none⟩ (.bool p2)).setCell ⟨B6, 1, none⟩ (.slice A6 n6 c6)) := two_keep K14 (by have := HLTB6.out; omega) _ _
                have HX1 := Lib.hid (HX.out.set (bs' := [(B5, .bool p1, .slice A5 n5 c5), (B0 + 1, .bool p2, .slice A2 n2 c2), (B0, .bool p1, .slice A1 n1 c1)]) (.tail _ (.head _)) (by have := HLTB6.out; have := HX.out.k.size; have := HSZ.out; omega) (List.forall_mem_cons.2 ⟨⟨(.head _), by dsimp only; have := HLTB5.out; have := HLTB6.out; omega⟩, (List.forall_mem_cons.2 ⟨⟨(.tail _ (.tail _ (.head _))), by dsimp only; have := HLTB5.out; have := HLTB6.out; omega⟩, (List.forall_mem_cons.2 ⟨⟨(.tail _ (.tail _ (.tail _ (.head _)))), by dsimp only; have := HLTB5.out; have := HLTB6.out; omega⟩, (fun _ h => by cases h)⟩)⟩)⟩) (.bool p2) (.slice A6 n6 c6))
                clear HX
                have HX := Lib.hid HX1.out
                clear HX1
                refine hK.out _ _ (HCC.out _ K15) (fun hHeld => ?_)
                clear hK K
                generalize (w_14.setCell ⟨B6, 0, none⟩ (.bool p2)).setCell ⟨B6, 1, none⟩ (.slice A6 n6 c6) = w_15 at HX K15 hHeld ⊢
                try dsimp only [List.getElem_toArray, List.getElem_cons_succ, List.getElem_cons_zero]
                try simp only [Act.put, List.setIfInBounds_toArray, List.set_cons_zero, List.set_cons_succ]
                refine wpAnyH_done (by kernel_rfl) ?_ _
                go_wp2_with fail
                go_meet
                exact ⟨B5, B6, A5, n5, c5, A6, n6, c6, rfl, rfl, ln5, ln6, HX.out⟩
      · go_simp
        have HLTB5 := Lib.hid (show B0 < w_10.heap.size ∧ B0 + 1 < w_10.heap.size ∧ w2.heap.size ≤ w_10.heap.size ∧ B6 < w_10.heap.size from ⟨(HX.out.cells (.tail _ (.tail _ (.head _)))).2.2, (HX.out.cells (.tail _ (.head _))).2.2, K10.size, (HX.out.cells (.head _)).2.2⟩)
        have K11 : Keep (fun _ => False) w2 (w_10.alloc (.cells #[.bool false, .slice none 0 0] 25)) := K10.alloc _
        have HX1 := Lib.hid (HX.out.box (.bool false) (.slice none 0 0))
        clear HX
        have HX := Lib.hid HX1.out
        clear HX1
        refine hK.out _ _ (HCC.out _ K11) (fun hHeld => ?_)
        clear hK K
        generalize w_10.heap.size = B5 at HX HLTB5 hHeld ⊢
        generalize w_10.alloc (.cells #[.bool false, .slice none 0 0] 25) = w_11 at HX K11 hHeld ⊢
        try dsimp only [List.getElem_toArray, List.getElem_cons_succ, List.getElem_cons_zero]
        try simp only [Act.put, List.setIfInBounds_toArray, List.set_cons_zero, List.set_cons_succ]
        refine wpAnyH_ready (rs := [1]) (by kernel_rfl) (by simp) ?_
        refine AllReadyH.cons (o := _) rfl (fun K hK => ?_) (AllReadyH.nil)
        · go_simp
          refine (CP1.out _ K11).mono ?_
          rintro e w_12 ⟨A5, n5, c5, rfl, oo, kk⟩
          have K12 : Keep (fun _ => False) w2 w_12 := Keep.trans K11 kk
          have ln5 : n5 ≤ 60 := by have := oo.len; have := HLO.out.2.2.1; omega
          have HX1 := Lib.hid ((HX.out.keep kk).num (oo.toLimbs HLO.out.1 (by omega)))
          clear HX oo kk
          have HX := Lib.hid HX1.out
          clear HX1
          try dsimp only
          go_wp2_with fail
          refine hK.out _ _ (HCC.out _ K12) (fun hHeld => ?_)
          clear hK K
          try dsimp only [List.getElem_toArray, List.getElem_cons_succ, List.getElem_cons_zero]
          try simp only [Act.put, List.setIfInBounds_toArray, List.set_cons_zero, List.set_cons_succ]
          refine wpAnyH_ready (rs := [3]) (by kernel_rfl) (by simp) ?_
          refine AllReadyH.cons (o := _) rfl (fun K hK => ?_) (AllReadyH.nil)
          · go_simp
            refine (CP2.out _ K12).mono ?_
            rintro e w_13 ⟨A6, n6, c6, rfl, oo, kk⟩
            have K13 : Keep (fun _ => False) w2 w_13 := Keep.trans K12 kk
            have ln6 : n6 ≤ 60 := by have := oo.len; have := HLO.out.2.2.2; omega
            have HX1 := Lib.hid ((HX.out.keep kk).num (oo.toLimbs HLO.out.2.1 (by omega)))
            clear HX oo kk
            have HX := Lib.hid HX1.out
            clear HX1
            try dsimp only
            go_wp2_with fail
            refine hK.out _ _ (HCC.out _ K13) (fun hHeld => ?_)
            clear hK K
            try dsimp only [List.getElem_toArray, List.getElem_cons_succ, List.getElem_cons_zero]
            try simp only [Act.put, List.setIfInBounds_toArray, List.set_cons_zero, List.set_cons_succ]
            refine wpAnyH_ready (rs := [6]) (by kernel_rfl) (by simp) ?_
            refine AllReadyH.cons (o := _) rfl (fun K hK => ?_) (AllReadyH.nil)
            · skip
              obtain ⟨d0, d1, dl⟩ := HX.out.cells (.head _)
              obtain ⟨f0, f1⟩ := HX.out.frozen (.head _)
              go_simp
              clear d0 d1 dl f0 f1
              have K14 : Keep (fun _ => False) w2 ((w_13.setCell ⟨B5, 0, none⟩ (.bool p1)).setCell ⟨B5, 1, none⟩ (.slice A5 n5 c5)) := two_keep K13 (by have := HLTB5.out; omega) _ _
              have HX1 := Lib.hid (HX.out.set (bs' := [(B6, .bool false, .slice none 0 0), (B0 + 1, .bool p2, .slice A2 n2 c2), (B0, .bool p1, .slice A1 n1 c1)]) (.head _) (by have := HLTB5.out; have := HX.out.k.size; have := HSZ.out; omega) (List.forall_mem_cons.2 ⟨⟨(.tail _ (.head _)), by dsimp only; have := HLTB5.out; have := HLTB6.out; omega⟩, (List.forall_mem_cons.2 ⟨⟨(.tail _ (.tail _ (.head _))), by dsimp only; have := HLTB5.out; have := HLTB6.out; omega⟩, (List.forall_mem_cons.2 ⟨⟨(.tail _ (.tail _ (.tail _ (.head _)))), by dsimp only; have := HLTB5.out; have := HLTB6.out; omega⟩, (fun _ h => by cases h)⟩)⟩)⟩) (.bool p1) (.slice A5 n5 c5))
              clear HX
              have HX := Lib.hid HX1.out
              clear HX1
              refine hK.out _ _ (HCC.out _ K14) (fun hHeld => ?_)
              clear hK K
              generalize (w_13.setCell ⟨B5, 0, none⟩ (.bool p1)).setCell ⟨B5, 1, none⟩ (.slice A5 n5 c5) = w_14 at HX K14 hHeld ⊢
              try dsimp only [List.getElem_toArray, List.getElem_cons_succ, List.getElem_cons_zero]
              try simp only [Act.put, List.setIfInBounds_toArray, List.set_cons_zero, List.set_cons_succ]
              refine wpAnyH_ready (rs := [7]) (by kernel_rfl) (by simp) ?_
              refine AllReadyH.cons (o := _) rfl (fun K hK => ?_) (AllReadyH.nil)
              · skip
                obtain ⟨d0, d1, dl⟩ := HX.out.cells (.tail _ (.head _))
                obtain ⟨f0, f1⟩ := HX.out.frozen (.tail _ (.head _))
                go_simp
                clear d0 d1 dl f0 f1
                have K15 : Keep (fun _ => False) w2 ((w_14.setCell ⟨B6, 0, none⟩ (.bool p2)).setCell ⟨B6, 1, none⟩ (.slice A6 n6 c6)) := two_keep K14 (by have := HLTB6.out; omega) _ _
                have HX1 := Lib.hid (HX.out.set (bs' := [(B5, .bool p1, .slice A5 n5 c5), (B0 + 1, .bool p2, .slice A2 n2 c2), (B0, .bool p1, .slice A1 n1 c1)]) (.tail _ (.head _)) (by have := HLTB6.out; have := HX.out.k.size; have := HSZ.out; omega) (List.forall_mem_cons.2 ⟨⟨(.head _), by dsimp only; have := HLTB5.out; have := HLTB6.out; omega⟩, (List.forall_mem_cons.2 ⟨⟨(.tail _ (.tail _ (.head _))), by dsimp only; have := HLTB5.out; have := HLTB6.out; omega⟩, (List.forall_mem_cons.2 ⟨⟨(.tail _ (.tail _ (.tail _ (.head _)))), by dsimp only; have := HLTB5.out; have := HLTB6.out; omega⟩, (fun _ h => by cases h)⟩)⟩)⟩) (.bool p2) (.slice A6 n6 c6))
                clear HX
                have HX := Lib.hid HX1.out
                clear HX1
                refine hK.out _ _ (HCC.out _ K15) (fun hHeld => ?_)
                clear hK K
                generalize (w_14.setCell ⟨B6, 0, none⟩ (.bool p2)).setCell ⟨B6, 1, none⟩ (.slice A6 n6 c6) = w_15 at HX K15 hHeld ⊢
                try dsimp only [List.getElem_toArray, List.getElem_cons_succ, List.getElem_cons_zero]
                try simp only [Act.put, List.setIfInBounds_toArray, List.set_cons_zero, List.set_cons_succ]
                refine wpAnyH_done (by kernel_rfl) ?_ _
                go_wp2_with fail
                go_meet
                exact ⟨B5, B6, A5, n5, c5, A6, n6, c6, rfl, rfl, ln5, ln6, HX.out⟩
  case rest =>
    obtain ⟨B5, B6, A5, n5, c5, A6, n6, c6, rfl, rfl, ln5, ln6, HXe⟩ := hcut
    clear s0 s1 sl r0 r1 rl HX CP1 CP2 Kd HLO
    have HX := Lib.hid ((HXe.num (HL.out.1.keep0 HXe.k)).num (HL.out.2.keep0 HXe.k))
    clear HXe
    obtain ⟨xa, hxa⟩ : ∃ x, x = sval p1 l1 := ⟨_, rfl⟩
    obtain ⟨xb, hxb⟩ : ∃ x, x = sval p2 l2 := ⟨_, rfl⟩
    obtain ⟨z1, hz1⟩ : ∃ z, z = decide (xa < 0) := ⟨_, rfl⟩
    obtain ⟨z2, hz2⟩ : ∃ z, z = decide (xb < 0) := ⟨_, rfl⟩
    obtain ⟨z3, hz3⟩ : ∃ z, z = decide (xa * xb < 0) := ⟨_, rfl⟩
    have HV := Lib.hid (And.intro hxa hxb)
    have HZ := Lib.hid (And.intro hz1 (And.intro hz2 hz3))
    clear hxa hxb hz1 hz2 hz3
    obtain ⟨g0, g1, gl⟩ := HX.out.cells (.head _)
    obtain ⟨f0, f1, fl⟩ := HX.out.cells (.tail _ (.head _))
    obtain ⟨s0, s1, sl⟩ := HX.out.cells (.tail _ (.tail _ (.head _)))
    obtain ⟨r0, r1, rl⟩ := HX.out.cells (.tail _ (.tail _ (.tail _ (.head _))))
    try dsimp only
    go_wp2_with fail
    clear g0 g1 gl f0 f1 fl s0 s1 sl r0 r1 rl
    have H0 := HX
    refine (mul_any p1 A1 n1 c1 l1 p2 A2 n2 c2 l2 _ (HX.out.m _ (.tail _ (.head _))) (HX.out.m _ (.head _)) (by omega) (by omega)).mono ?_
    intro e w_x hres
    rw [← HV.out.1, ← HV.out.2] at hres
    obtain ⟨k_x, q_x, A_x, n_x, c_x, l_x, f_x, rfl, OW, LM, ln_x, ho⟩ := hres.own
    have HO_x := Lib.hid ho
    have OW_x := Lib.hid OW
    have KK_x := Lib.hid k_x
    clear ho hres OW
    have HX1 := Lib.hid (HX.out.keep k_x)
    clear HX k_x
    have HX := Lib.hid HX1.out
    clear HX1
    have HX1 := Lib.hid (HX.out.num LM)
    clear HX LM
    have HX := Lib.hid HX1.out
    clear HX1
    obtain ⟨g0, g1, gl⟩ := HX.out.cells (.head _)
    obtain ⟨f0, f1, fl⟩ := HX.out.cells (.tail _ (.head _))
    obtain ⟨s0, s1, sl⟩ := HX.out.cells (.tail _ (.tail _ (.head _)))
    obtain ⟨r0, r1, rl⟩ := HX.out.cells (.tail _ (.tail _ (.tail _ (.head _))))
    try dsimp only
    go_wp2_with fail
    clear g0 g1 gl f0 f1 fl s0 s1 sl r0 r1 rl
    have HX1 := Lib.hid (HX.out.box (.bool q_x) (.slice A_x n_x c_x))
    clear HX
    have HX := Lib.hid HX1.out
    clear HX1
    have OW1 := Lib.hid (OW_x.out.keep0 ((Keep.refl (fun _ => False) w_x).alloc (.cells #[.bool q_x, .slice A_x n_x c_x] 25)))
    have KK1 := Lib.hid (KK_x.out.alloc (.cells #[.bool q_x, .slice A_x n_x c_x] 25))
    clear OW_x KK_x
    have OW_x := OW1
    have KK_x := KK1
    clear OW1 KK1
    generalize hw5 : w_x.alloc (.cells #[.bool q_x, .slice A_x n_x c_x] 25) = w5 at HX OW_x KK_x ⊢
    clear hw5
    generalize w_x.heap.size = Bx at HX ⊢
    have CV1 := Lib.hid (fun (w' : World) (K' : Keep (fun _ => False) w5 w') => val_z HZ.out.1 HV.out.1 ((HX.out.keep K').m _ (.tail _ (.tail _ (.tail _ (.tail _ (.head _)))))) ln5)
    have CV2 := Lib.hid (fun (w' : World) (K' : Keep (fun _ => False) w5 w') => val_z HZ.out.2.1 HV.out.2 ((HX.out.keep K').m _ (.tail _ (.tail _ (.tail _ (.head _))))) ln6)
    have CI := Lib.hid (fun (w' : World) (K' : Keep (fun _ => False) w5 w') (A2 : Option Addr) (n2 c2 : Nat) (h2 : BitsAt w' A2 n2 c2 (bits2 (xa * xb).natAbs)) => is_z HZ.out.2.2 HO_x.out ((HX.out.keep K').m _ (.head _)) h2)
    obtain ⟨x0, x1, xl⟩ := HX.out.cells (.head _)
    obtain ⟨g0, g1, gl⟩ := HX.out.cells (.tail _ (.head _))
    obtain ⟨f0, f1, fl⟩ := HX.out.cells (.tail _ (.tail _ (.head _)))
    obtain ⟨s0, s1, sl⟩ := HX.out.cells (.tail _ (.tail _ (.tail _ (.head _))))
    obtain ⟨r0, r1, rl⟩ := HX.out.cells (.tail _ (.tail _ (.tail _ (.tail _ (.head _)))))
    have Kd : Keep (fun _ => False) w5 w5.drew := (Keep.refl _ _).drew
    have HS := Lib.hid (fun (w' : World) (K' : Keep (fun _ => False) w5 w') => (show w'.cell? ⟨Bx, 0, none⟩ = some (.bool q_x) ∧ w'.cell? ⟨Bx, 1, none⟩ = some (.slice A_x n_x c_x) ∧ w'.cell? ⟨B5, 0, none⟩ = some (.bool p1) ∧ w'.cell? ⟨B5, 1, none⟩ = some (.slice A5 n5 c5) ∧ w'.cell? ⟨B6, 0, none⟩ = some (.bool p2) ∧ w'.cell? ⟨B6, 1, none⟩ = some (.slice A6 n6 c6) ∧ Keep (fun _ => False) w5 w' from by
      obtain ⟨xa, xb, _⟩ := (HX.out.keep K').cells (.head _)
      obtain ⟨fa, fb, _⟩ := (HX.out.keep K').cells (.tail _ (.tail _ (.head _)))
      obtain ⟨ga, gb, _⟩ := (HX.out.keep K').cells (.tail _ (.head _))
      exact ⟨xa, xb, fa, fb, ga, gb, K'⟩))
    go_region_held3 (fun w' => w'.cell? ⟨Bx, 0, none⟩ = some (.bool q_x) ∧ w'.cell? ⟨Bx, 1, none⟩ = some (.slice A_x n_x c_x) ∧ w'.cell? ⟨B5, 0, none⟩ = some (.bool p1) ∧ w'.cell? ⟨B5, 1, none⟩ = some (.slice A5 n5 c5) ∧ w'.cell? ⟨B6, 0, none⟩ = some (.bool p2) ∧ w'.cell? ⟨B6, 1, none⟩ = some (.slice A6 n6 c6) ∧ Keep (fun _ => False) w5 w')
      (first | exact HS.out _ Kd | exact HS.out _ (by assumption))
      (first
        | (go_at_call 24; go_split_ands; (first
          | ((with_reducible refine (CV1.out _ (by assumption)).mono ?_); rintro e w6 ⟨A7, n7, c7, rfl, b7, hn7, k7⟩; have K7 := Keep.trans (by assumption) k7)
          | ((with_reducible refine (CV2.out _ (by assumption)).mono ?_); rintro e w7 ⟨A8, n8, c8, rfl, b8, hn8, k8⟩; have K8 := Keep.trans (by assumption) k8)))
        | (go_at_call 37; go_split_ands; refine (rmul_z HZ.out.1 HZ.out.2.1 HZ.out.2.2 (b7.keep0 k8) b8 hn7 hn8).mono ?_; rintro e w8 ⟨A9, n9, c9, rfl, b9, hn9, k9⟩; have K9 := Keep.trans K8 k9)
        | (go_at_call 27; go_split_ands; (with_reducible refine (CI.out _ K9 A9 n9 c9 b9).mono ?_); rintro e w9 ⟨rfl, k10⟩; have K10 := Keep.trans K9 k10))
    clear k7 k8 k9 k10 K7 K8 K9 b7 b8 b9 CV1 CV2 CI HS Kd
    clear x0 x1 xl g0 g1 gl f0 f1 fl s0 s1 sl r0 r1 rl
    have HX1 := Lib.hid (HX.out.keep K10)
    clear HX
    have HX := Lib.hid HX1.out
    clear HX1
    have OW9 := Lib.hid (OW_x.out.keep0 K10)
    have K09 := Lib.hid (KK_x.out.trans K10)
    clear K10
    obtain ⟨x0, x1, xl⟩ := HX.out.cells (.head _)
    obtain ⟨g0, g1, gl⟩ := HX.out.cells (.tail _ (.head _))
    obtain ⟨f0, f1, fl⟩ := HX.out.cells (.tail _ (.tail _ (.head _)))
    obtain ⟨s0, s1, sl⟩ := HX.out.cells (.tail _ (.tail _ (.tail _ (.head _))))
    obtain ⟨r0, r1, rl⟩ := HX.out.cells (.tail _ (.tail _ (.tail _ (.tail _ (.head _)))))
    try dsimp only
    go_wp2_with fail
    clear x0 x1 xl g0 g1 gl f0 f1 fl s0 s1 sl r0 r1 rl
    refine (spoil_any _ q_x A_x n_x c_x l_x _ OW9.out (by omega)).mono ?_
    rintro e ws ⟨rfl, ks⟩
    obtain ⟨hx1, hk1⟩ := Env.spoil H0.out HX.out K09.out ks OW9.out (Nat.le_refl _) (List.forall_mem_cons.2 ⟨⟨_, rfl⟩, (List.forall_mem_cons.2 ⟨⟨_, rfl⟩, (List.forall_mem_cons.2 ⟨⟨_, rfl⟩, (List.forall_mem_cons.2 ⟨⟨_, rfl⟩, (List.forall_mem_cons.2 ⟨⟨_, rfl⟩, (fun _ h => by cases h)⟩)⟩)⟩)⟩)⟩)
    clear HX
    have HX := Lib.hid hx1
    clear hx1
    obtain ⟨x0, x1, xl⟩ := HX.out.cells (.head _)
    obtain ⟨g0, g1, gl⟩ := HX.out.cells (.tail _ (.head _))
    obtain ⟨f0, f1, fl⟩ := HX.out.cells (.tail _ (.tail _ (.head _)))
    obtain ⟨s0, s1, sl⟩ := HX.out.cells (.tail _ (.tail _ (.tail _ (.head _))))
    obtain ⟨r0, r1, rl⟩ := HX.out.cells (.tail _ (.tail _ (.tail _ (.tail _ (.head _)))))
    try dsimp only
    go_wp2_with fail
    clear x0 x1 xl g0 g1 gl f0 f1 fl s0 s1 sl r0 r1 rl
    refine (same_any p1 A1 n1 c1 l1 p1 A5 n5 c5 l1 _ (HX.out.m _ (.tail _ (.head _))) (HX.out.m _ (.tail _ (.tail _ (.tail _ (.head _)))))).mono ?_
    rintro e wi ⟨rfl, ki⟩
    rw [same_self]
    have HX1 := Lib.hid (HX.out.keep ki)
    clear HX ki
    have HX := Lib.hid HX1.out
    clear HX1
    obtain ⟨x0, x1, xl⟩ := HX.out.cells (.head _)
    obtain ⟨g0, g1, gl⟩ := HX.out.cells (.tail _ (.head _))
    obtain ⟨f0, f1, fl⟩ := HX.out.cells (.tail _ (.tail _ (.head _)))
    obtain ⟨s0, s1, sl⟩ := HX.out.cells (.tail _ (.tail _ (.tail _ (.head _))))
    obtain ⟨r0, r1, rl⟩ := HX.out.cells (.tail _ (.tail _ (.tail _ (.tail _ (.head _)))))
    try dsimp only
    go_wp2_with fail
    clear x0 x1 xl g0 g1 gl f0 f1 fl s0 s1 sl r0 r1 rl
    refine (same_any p2 A2 n2 c2 l2 p2 A6 n6 c6 l2 _ (HX.out.m _ (.head _)) (HX.out.m _ (.tail _ (.tail _ (.head _))))).mono ?_
    rintro e wi ⟨rfl, ki⟩
    rw [same_self]
    have HX1 := Lib.hid (HX.out.keep ki)
    clear HX ki
    have HX := Lib.hid HX1.out
    clear HX1
    obtain ⟨x0, x1, xl⟩ := HX.out.cells (.head _)
    obtain ⟨g0, g1, gl⟩ := HX.out.cells (.tail _ (.head _))
    obtain ⟨f0, f1, fl⟩ := HX.out.cells (.tail _ (.tail _ (.head _)))
    obtain ⟨s0, s1, sl⟩ := HX.out.cells (.tail _ (.tail _ (.tail _ (.head _))))
    obtain ⟨r0, r1, rl⟩ := HX.out.cells (.tail _ (.tail _ (.tail _ (.tail _ (.head _)))))
    try dsimp only
    go_wp2_with fail
    clear x0 x1 xl g0 g1 gl f0 f1 fl s0 s1 sl r0 r1 rl
    refine (awake_any _ (HT.out.keep HX.out.k)).mono ?_
    rintro e wz ⟨rfl, kz⟩
    have HZ := Lib.hid (HX.out.k.trans kz)
    clear kz
    try dsimp only
    go_wp2_with fail
    go_ret
    exact ⟨rfl, HZ.out⟩
end Go.Proofs.YtdfekphahdmffaaDoor
