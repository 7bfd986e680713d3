/-
  The law ParseParts: the walk.  (Printed by gen_pparts.py.)
-/
import Derived.Test.YtonnikipeokkaaaGreatDoorPrwE
import Derived.Laws.AppendOwnNone
namespace Go.Proofs.YtonnikipeokkaaaGreatDoor
open Go.RowKit Go.Lib

theorem DataR.place {l : List UInt8} {i : Nat} {ds : List Raw} {p c : Nat} (h : DataR l i ds p c) : p ≤ l.length := by
  induction h with
  | bad h hc => exact h.place
  | fin h => exact Nat.zero_le _
  | cons h m ih => exact ih
theorem sz10 : (⟨#[10]⟩ : ByteArray).size = 1 := rfl
theorem cat_list (a b : ByteArray) : (a ++ ⟨#[10]⟩ ++ b).data.toList = a.data.toList ++ 10 :: b.data.toList := by
  simp [ByteArray.data_append]
theorem own_rowD {N Q : Nat → Prop} {w : World} {base n cap : Nat} {A : Option Addr} {zs : List (Raw × PV)} (hown : w.ownsRow base 27 6 (.slice A n cap) n (zs.flatMap datC)) (hz : zs.length = n) (hit : ∀ y ∈ zs, RawAt N Q w y.1 y.2) :
    RowAtD N Q w A n (zs.map Prod.fst) (fun i => (zs.getD i (.nil, PV.none)).2) := by
  refine ⟨by rw [List.length_map, hz], fun hm => ?_, fun i hi => ?_⟩
  · obtain ⟨g, rfl, hg⟩ := drow_some hown hm
    refine ⟨g, 0, rfl, fun i hi => ?_⟩
    have hi2 : i < zs.length := by rwa [List.length_map] at hi
    rw [List.getElem_map, List.getD_eq_getElem?_getD, List.getElem?_eq_getElem hi2]
    exact drow_item hown hi2
  · have hi2 : i < zs.length := by rwa [List.length_map] at hi
    rw [List.getElem_map, List.getD_eq_getElem?_getD, List.getElem?_eq_getElem hi2]
    exact hit _ (List.getElem_mem hi2)
theorem drow_form {w : World} {base n : Nat} {v : Value} {xs : List Value} (h : w.ownsRow base 27 6 v n xs) : ∃ A c, v = .slice A n c := by
  rcases h.2 with ⟨hv, h0⟩ | ⟨g, cap, cur, hv, _⟩
  · exact ⟨_, _, by rw [hv, h0]⟩
  · exact ⟨_, _, hv⟩
theorem drow_src {w : World} {base n c : Nat} {A : Option Addr} {xs : List Value} (h : w.ownsRow base 27 6 (.slice A n c) n xs) : (A = none ∧ n = 0 ∧ c = 0) ∨ ∃ g, A = some ⟨g, 0, none⟩ := by
  rcases h.2 with ⟨hv, h0⟩ | ⟨g, cap, cur, hv, _⟩
  · injection hv with e1 _ e3
    exact .inl ⟨e1, h0, e3⟩
  · injection hv with e1 _ _
    exact .inr ⟨g, e1⟩
theorem wpList_append_own_if {P : Program} (w : World) {ops : Array Oper} {rest : List Oper} {o : Oper} {a : Act} {Q : Exit → Act → World → Prop} (hw : Region.wanted o (yielded ops a.tmps) = true) (s x : Operand) (t : TypeId)
    (ho : o.op = .call { callee := .builtin .append, args := #[s, x], argTypes := #[t, t] })
    (base : Nat) (e : TypeId) (i : TypeInfo) (z : Value) (size bytes : Nat) (ht : P.underlying t = some (.slice e)) (hi : P.info? e = some i) (hz : i.zero = some z)
    (hsize : i.size = size) (hby : i.bytes = bytes) (hzs : z.cells.size = size) (hsz : 0 < size)
    (v : Value) (n : Nat) (xs : List Value) (hs : a.eval s = v) (hown : w.ownsRow base e size v n xs)
    (ad : Addr) (m c : Nat) (news : List Value) (hx : a.eval x = .slice (some ad) m c) (hl : news.length = m * size) (hnews : ∀ j u, news[j]? = some u → w.cell? (ad.add j) = some u) (h1 : ∀ u ∈ news, u.oneCell' = true)
    (h63 : n + m ≤ maxLen) (hbytes : (n + m) * bytes ≤ 140737488355328) (hbase : base ≤ w.heap.size)
    (h : ∀ v' w', w'.ownsRow base e size v' (n + m) (xs ++ news) → w.grownBy w' v.ownBlock → (v' = .slice none 0 0 ↔ v = .slice none 0 0 ∧ m = 0) → wpList P ops Q rest (a.put o.dst v') w') : wpList P ops Q (o :: rest) a w :=
  wpList_step fun _ hK => by
    rw [if_pos hw]
    exact wp_append_own w s x t ho base e i z size bytes ht hi hz hsize hby hzs hsz v n xs hs hown ad m c news hx hl hnews h1 h63 hbytes hbase fun v' w' h2 h3 h4 => hK _ _ (h v' w' h2 h3 h4)
theorem wpList_append_own_none_if {P : Program} {w : World} {ops : Array Oper} {rest : List Oper} {o : Oper} {a : Act} {Q : Exit → Act → World → Prop} (hw : Region.wanted o (yielded ops a.tmps) = true) (s x : Operand) (t : TypeId)
    (ho : o.op = .call { callee := .builtin .append, args := #[s, x], argTypes := #[t, t] })
    (base : Nat) (e : TypeId) (i : TypeInfo) (size : Nat) (ht : P.underlying t = some (.slice e)) (hi : P.info? e = some i)
    (v : Value) (n : Nat) (xs : List Value) (hs : a.eval s = v) (hown : w.ownsRow base e size v n xs) (hx : a.eval x = .slice none 0 0)
    (h : wpList P ops Q rest (a.put o.dst v) w) : wpList P ops Q (o :: rest) a w := by
  refine wpList_step fun K hK => ?_
  rw [if_pos hw]
  have hrun := run_append_owned_none (P := P) (w := w) base t o.type e i size ht hi v n xs hown
  unfold Oper.wp
  simp [execOp, ho, resolve, invoke, builtin, hs, hx, hrun, Result.andThen]
  exact hK _ _ h
theorem dat_one (xs : List (Raw × PV)) : ∀ u ∈ xs.flatMap datC, u.oneCell' = true := by
  intro u hu
  obtain ⟨x, _, hx⟩ := List.mem_flatMap.1 hu
  unfold datC at hx
  simp only [List.mem_cons, List.not_mem_nil, or_false] at hx
  rcases hx with rfl | rfl | rfl | rfl | rfl | rfl <;> rfl
theorem empty27 (w : World) : (w.alloc (.cells #[] 27)).ownsRow w.heap.size 27 6 (.slice (some ⟨w.heap.size, 0, none⟩) 0 0) 0 [] :=
  ⟨rfl, .inr ⟨w.heap.size, 0, #[], rfl, Nat.le_refl _, heap_alloc_new _ _, Nat.le_refl _, by unfold maxLen; omega, rfl, rfl⟩⟩
set_option maxRecDepth 100000 in
set_option maxHeartbeats 8000000 in
theorem parts_1 (a b : ByteArray) (w : World) (HAW : Hid (∀ W : World, Keep (fun _ => False) w W → Calls Tryz.prog 21 #[] W (BoolPost true W))) (h1 : (2000 : Int) < (a.size : Int)) : Calls Tryz.prog 8 #[.string a, .string b] w (BoolPost true w) := by
  go_enter Tryz.func8, Tryz.ntmps8
  go_wp2_with fail
  refine (HAW.out _ (Keep.refl _ _)).mono ?_
  rintro e w9 ⟨rfl, k9⟩
  have HK9 := Lib.hid ((Keep.refl _ _).trans k9)
  clear k9
  try dsimp only
  go_wp2_with fail
  go_ret
  exact ⟨rfl, HK9.out⟩
set_option maxRecDepth 100000 in
set_option maxHeartbeats 8000000 in
theorem parts_2 (a b : ByteArray) (w : World) (HAW : Hid (∀ W : World, Keep (fun _ => False) w W → Calls Tryz.prog 21 #[] W (BoolPost true W))) (h1 : decide ((2000 : Int) < (a.size : Int)) = false) (h2 : (2000 : Int) < (b.size : Int)) : Calls Tryz.prog 8 #[.string a, .string b] w (BoolPost true w) := by
  go_enter Tryz.func8, Tryz.ntmps8
  go_wp2_with fail
  refine (HAW.out _ (Keep.refl _ _)).mono ?_
  rintro e w9 ⟨rfl, k9⟩
  have HK9 := Lib.hid ((Keep.refl _ _).trans k9)
  clear k9
  try dsimp only
  go_wp2_with fail
  go_ret
  exact ⟨rfl, HK9.out⟩
set_option maxRecDepth 100000 in
set_option maxHeartbeats 8000000 in
theorem parts_11 (a b : ByteArray) (w : World) (ds es fs : List Raw) (q d r g : Int) (p : Int) (HAW : Hid (∀ W : World, Keep (fun _ => False) w W → Calls Tryz.prog 21 #[] W (BoolPost true W))) (HSZ : Hid (a.size ≤ 2000 ∧ b.size ≤ 2000)) (h1 : decide ((2000 : Int) < (a.size : Int)) = false) (h2 : decide ((2000 : Int) < (b.size : Int)) = false) (H1 : Hid (∀ W : World, Keep (fun _ => False) w W → Calls Tryz.prog 23 #[.string a] W (fun e w' => ∃ (A : Option Addr) (cap : Nat) (vs : Nat → PV), e = .returned (.tuple #[.slice A ds.length cap, .int .i64 p, .int .i64 11]) ∧ RowAtD (T126 w') (fun b => W.heap.size ≤ b) w' A ds.length ds vs ∧ Keep (fun _ => False) W w' ∧ ds.length ≤ 4096 ∧ ds.length ≤ cap))) (H2 : Hid (∀ W : World, Keep (fun _ => False) w W → Calls Tryz.prog 23 #[.string b] W (fun e w' => ∃ (A : Option Addr) (cap : Nat) (vs : Nat → PV), e = .returned (.tuple #[.slice A es.length cap, .int .i64 q, .int .i64 d]) ∧ RowAtD (T126 w') (fun b => W.heap.size ≤ b) w' A es.length es vs ∧ Keep (fun _ => False) W w' ∧ es.length ≤ 4096 ∧ es.length ≤ cap))) (H3 : Hid (∀ W : World, Keep (fun _ => False) w W → Calls Tryz.prog 23 #[.string (a ++ ⟨#[10]⟩ ++ b)] W (fun e w' => ∃ (A : Option Addr) (cap : Nat) (vs : Nat → PV), e = .returned (.tuple #[.slice A fs.length cap, .int .i64 r, .int .i64 g]) ∧ RowAtD (T126 w') (fun b => W.heap.size ≤ b) w' A fs.length fs vs ∧ Keep (fun _ => False) W w' ∧ fs.length ≤ 4096 ∧ fs.length ≤ cap))) : Calls Tryz.prog 8 #[.string a, .string b] w (BoolPost true w) := by
  go_enter Tryz.func8, Tryz.ntmps8
  go_wp2_with fail
  refine (H1.out _ (Keep.refl _ _)).mono ?_
  rintro e w1 ⟨A1, cap1, vs1, rfl, hd1, k1, hn1, hcap1⟩
  have HD1 := Lib.hid hd1
  have HK1 := Lib.hid (k1)
  have HX1 := Lib.hid k1
  clear hd1 k1
  try dsimp only
  go_wp2_with fail
  refine (H2.out _ HK1.out).mono ?_
  rintro e w2 ⟨A2, cap2, vs2, rfl, hd2, k2, hn2, hcap2⟩
  have HD2 := Lib.hid hd2
  have HK2 := Lib.hid (HK1.out.trans k2)
  have HX2 := Lib.hid k2
  clear hd2 k2
  have hadd1 := run_string_add_sum (P := Tryz.prog) w2 a ⟨#[10]⟩ (by have := HSZ.out; rw [sz10]; omega)
  have hadd2 := run_string_add_sum (P := Tryz.prog) w2 (a ++ ⟨#[10]⟩) b (by have := HSZ.out; rw [ByteArray.size_append, sz10]; omega)
  try dsimp only
  go_wp2_with fail
  clear hadd1 hadd2
  refine (H3.out _ HK2.out).mono ?_
  rintro e w3 ⟨A3, cap3, vs3, rfl, hd3, k3, hn3, hcap3⟩
  have HD3 := Lib.hid hd3
  have HK3 := Lib.hid (HK2.out.trans k3)
  have HX3 := Lib.hid k3
  clear hd3 k3
  try dsimp only
  go_wp2_with fail
  refine (HAW.out _ (HK3.out)).mono ?_
  rintro e w9 ⟨rfl, k9⟩
  have HK9 := Lib.hid ((HK3.out).trans k9)
  clear k9
  try dsimp only
  go_wp2_with fail
  go_ret
  exact ⟨rfl, HK9.out⟩
set_option maxRecDepth 100000 in
set_option maxHeartbeats 8000000 in
theorem parts_e (a b : ByteArray) (w : World) (ds es : List Raw) (p c q d : Int) (c0 : (c != 0) = true) (c11 : (c == 11) = false) (HAW : Hid (∀ W : World, Keep (fun _ => False) w W → Calls Tryz.prog 21 #[] W (BoolPost true W))) (HSZ : Hid (a.size ≤ 2000 ∧ b.size ≤ 2000)) (h1 : decide ((2000 : Int) < (a.size : Int)) = false) (h2 : decide ((2000 : Int) < (b.size : Int)) = false) (H1 : Hid (∀ W : World, Keep (fun _ => False) w W → Calls Tryz.prog 23 #[.string a] W (fun e w' => ∃ (A : Option Addr) (cap : Nat) (vs : Nat → PV), e = .returned (.tuple #[.slice A ds.length cap, .int .i64 p, .int .i64 c]) ∧ RowAtD (T126 w') (fun b => W.heap.size ≤ b) w' A ds.length ds vs ∧ Keep (fun _ => False) W w' ∧ ds.length ≤ 4096 ∧ ds.length ≤ cap))) (H2 : Hid (∀ W : World, Keep (fun _ => False) w W → Calls Tryz.prog 23 #[.string b] W (fun e w' => ∃ (A : Option Addr) (cap : Nat) (vs : Nat → PV), e = .returned (.tuple #[.slice A es.length cap, .int .i64 q, .int .i64 d]) ∧ RowAtD (T126 w') (fun b => W.heap.size ≤ b) w' A es.length es vs ∧ Keep (fun _ => False) W w' ∧ es.length ≤ 4096 ∧ es.length ≤ cap))) (H3 : Hid (∀ W : World, Keep (fun _ => False) w W → Calls Tryz.prog 23 #[.string (a ++ ⟨#[10]⟩ ++ b)] W (fun e w' => ∃ (A : Option Addr) (cap : Nat) (vs : Nat → PV), e = .returned (.tuple #[.slice A ds.length cap, .int .i64 p, .int .i64 c]) ∧ RowAtD (T126 w') (fun b => W.heap.size ≤ b) w' A ds.length ds vs ∧ Keep (fun _ => False) W w' ∧ ds.length ≤ 4096 ∧ ds.length ≤ cap))) : Calls Tryz.prog 8 #[.string a, .string b] w (BoolPost true w) := by
  have e1 : (c == c) = true := by simp
  have e2 : (p == p) = true := by simp
  obtain ⟨n, hn⟩ : ∃ n, n = ds.length := ⟨_, rfl⟩
  rw [← hn] at H1 H3
  clear hn
  go_enter Tryz.func8, Tryz.ntmps8
  go_wp2_with fail
  refine (H1.out _ (Keep.refl _ _)).mono ?_
  rintro e w1 ⟨A1, cap1, vs1, rfl, hd1, k1, hn1, hcap1⟩
  have HD1 := Lib.hid hd1
  have HK1 := Lib.hid (k1)
  have HX1 := Lib.hid k1
  clear hd1 k1
  try dsimp only
  go_wp2_with fail
  refine (H2.out _ HK1.out).mono ?_
  rintro e w2 ⟨A2, cap2, vs2, rfl, hd2, k2, hn2, hcap2⟩
  have HD2 := Lib.hid hd2
  have HK2 := Lib.hid (HK1.out.trans k2)
  have HX2 := Lib.hid k2
  clear hd2 k2
  have hadd1 := run_string_add_sum (P := Tryz.prog) w2 a ⟨#[10]⟩ (by have := HSZ.out; rw [sz10]; omega)
  have hadd2 := run_string_add_sum (P := Tryz.prog) w2 (a ++ ⟨#[10]⟩) b (by have := HSZ.out; rw [ByteArray.size_append, sz10]; omega)
  try dsimp only
  go_wp2_with fail
  clear hadd1 hadd2
  refine (H3.out _ HK2.out).mono ?_
  rintro e w3 ⟨A3, cap3, vs3, rfl, hd3, k3, hn3, hcap3⟩
  have HD3 := Lib.hid hd3
  have HK3 := Lib.hid (HK2.out.trans k3)
  have HX3 := Lib.hid k3
  clear hd3 k3
  try dsimp only
  go_wp2_with fail
  have HC := Lib.hid (samelist_any (cap := cap3) (cap' := cap1) HD3.out ((HD1.out.keep0 HX2.out).keep0 HX3.out) (by omega))
  rw [eqL_true rfl] at HC
  refine HC.out.mono ?_
  rintro e w5 ⟨rfl, k5⟩
  have HK5 := Lib.hid (HK3.out.trans k5)
  clear k5
  try dsimp only
  go_wp2_with fail
  refine (HAW.out _ (HK5.out)).mono ?_
  rintro e w9 ⟨rfl, k9⟩
  have HK9 := Lib.hid ((HK5.out).trans k9)
  clear k9
  try dsimp only
  go_wp2_with fail
  go_ret
  exact ⟨rfl, HK9.out⟩
set_option maxRecDepth 100000 in
set_option maxHeartbeats 8000000 in
theorem parts_0z (a b : ByteArray) (w : World) (ds es : List Raw) (p q r : Int) (hr : (r == q) = true) (HAW : Hid (∀ W : World, Keep (fun _ => False) w W → Calls Tryz.prog 21 #[] W (BoolPost true W))) (HSZ : Hid (a.size ≤ 2000 ∧ b.size ≤ 2000)) (h1 : decide ((2000 : Int) < (a.size : Int)) = false) (h2 : decide ((2000 : Int) < (b.size : Int)) = false) (H1 : Hid (∀ W : World, Keep (fun _ => False) w W → Calls Tryz.prog 23 #[.string a] W (fun e w' => ∃ (xs : List (Raw × PV)) (A : Option Addr) (cap : Nat), e = .returned (.tuple #[.slice A ds.length cap, .int .i64 p, .int .i64 0]) ∧ xs.map Prod.fst = ds ∧ w'.ownsRow W.heap.size 27 6 (.slice A ds.length cap) ds.length (xs.flatMap datC) ∧ (∀ y ∈ xs, DatAt (Oth W.heap.size (.slice A ds.length cap)) w' y.1 y.2) ∧ Keep (fun _ => False) W w' ∧ ds.length ≤ 4096))) (H2 : Hid (∀ W : World, Keep (fun _ => False) w W → Calls Tryz.prog 23 #[.string b] W (fun e w' => ∃ (xs : List (Raw × PV)) (A : Option Addr) (cap : Nat), e = .returned (.tuple #[.slice A es.length cap, .int .i64 q, .int .i64 0]) ∧ xs.map Prod.fst = es ∧ w'.ownsRow W.heap.size 27 6 (.slice A es.length cap) es.length (xs.flatMap datC) ∧ (∀ y ∈ xs, DatAt (Oth W.heap.size (.slice A es.length cap)) w' y.1 y.2) ∧ Keep (fun _ => False) W w' ∧ es.length ≤ 4096))) (H3 : Hid (∀ W : World, Keep (fun _ => False) w W → Calls Tryz.prog 23 #[.string (a ++ ⟨#[10]⟩ ++ b)] W (fun e w' => ∃ (A : Option Addr) (cap : Nat) (vs : Nat → PV), e = .returned (.tuple #[.slice A (ds ++ es).length cap, .int .i64 r, .int .i64 0]) ∧ RowAtD (T126 w') (fun b => W.heap.size ≤ b) w' A (ds ++ es).length (ds ++ es) vs ∧ Keep (fun _ => False) W w' ∧ (ds ++ es).length ≤ 4096 ∧ (ds ++ es).length ≤ cap))) : Calls Tryz.prog 8 #[.string a, .string b] w (BoolPost true w) := by
  obtain ⟨n3, hn3⟩ : ∃ n, n = (ds ++ es).length := ⟨_, rfl⟩
  obtain ⟨n1, hn1⟩ : ∃ n, n = ds.length := ⟨_, rfl⟩
  obtain ⟨n2, hn2⟩ : ∃ n, n = es.length := ⟨_, rfl⟩
  rw [← hn1] at H1
  rw [← hn2] at H2
  rw [← hn3] at H3
  have HN := Lib.hid (And.intro hn1 (And.intro hn2 hn3))
  clear hn1 hn2 hn3
  obtain ⟨i27, h27, hz0, hz1, hz2⟩ := info_parts info27
  go_enter Tryz.func8, Tryz.ntmps8
  go_wp2_with fail
  refine (H1.out _ (Keep.refl _ _)).mono ?_
  rintro e w1 ⟨xs, A1, cap1, rfl, hx1, ho1, hi1, k1, hl1⟩
  have HO1 := Lib.hid ho1
  have HI1 := Lib.hid hi1
  have HK1 := Lib.hid k1
  have HE1 := Lib.hid hx1
  clear hx1 ho1 hi1 k1
  try dsimp only
  go_wp2_with fail
  refine (H2.out _ HK1.out).mono ?_
  rintro e w2 ⟨ys, A2, cap2, rfl, hx2, ho2, hi2, k2, hl2⟩
  have HO2 := Lib.hid ho2
  have HI2 := Lib.hid hi2
  have HX2 := Lib.hid k2
  have HK2 := Lib.hid (HK1.out.trans k2)
  have HE2 := Lib.hid hx2
  clear hx2 ho2 hi2 k2
  have hadd1 := run_string_add_sum (P := Tryz.prog) w2 a ⟨#[10]⟩ (by have := HSZ.out; rw [sz10]; omega)
  have hadd2 := run_string_add_sum (P := Tryz.prog) w2 (a ++ ⟨#[10]⟩) b (by have := HSZ.out; rw [ByteArray.size_append, sz10]; omega)
  try dsimp only
  go_wp2_with fail
  clear hadd1 hadd2
  refine (H3.out _ HK2.out).mono ?_
  rintro e w3 ⟨A3, cap3, vs3, rfl, hd3, k3, hn3, hcap3⟩
  have HD3 := Lib.hid hd3
  have HX3 := Lib.hid k3
  have HK3 := Lib.hid (HK2.out.trans k3)
  clear hd3 k3
  have KA : Keep (fun _ => False) w3 (w3.alloc (.cells #[] 27)) := (Keep.refl _ _).alloc _
  have HP1 := Lib.hid (drow_keep HO1.out ((HX2.out.trans HX3.out).trans KA) (fun _ _ => id))
  have HP2 := Lib.hid (drow_keep HO2.out (HX3.out.trans KA) (fun _ _ => id))
  have HKA := Lib.hid KA
  clear KA
  rcases drow_src HP1.out with ⟨rfl, rfl, rfl⟩ | ⟨g1, rfl⟩
  · have HK4 := Lib.hid (show Keep (fun _ => False) w3 (w3.alloc (.cells #[] 27)) from HKA.out)
    have HG1 := Lib.hid (show (w3.alloc (.cells #[] 27)).ownsRow w3.heap.size 27 6 (.slice (some ⟨w3.heap.size, 0, none⟩) 0 0) 0 (xs.flatMap datC) from by rw [List.eq_nil_of_length_eq_zero (HP1.out.1.trans (Nat.zero_mul 6))]; exact empty27 w3)
    have HS2 := Lib.hid (drow_keep HO2.out (HX3.out.trans HK4.out) (fun _ _ => id))
    rcases drow_src HP2.out with ⟨rfl, rfl, rfl⟩ | ⟨g2, rfl⟩
    · skip
      have HG2 := Lib.hid (show (w3.alloc (.cells #[] 27)).ownsRow w3.heap.size 27 6 (.slice (some ⟨w3.heap.size, 0, none⟩) 0 0) (0 + 0) (xs.flatMap datC ++ ys.flatMap datC) from by rw [List.eq_nil_of_length_eq_zero (HP2.out.1.trans (Nat.zero_mul 6)), List.append_nil]; exact HG1.out)
      have HK5 := Lib.hid (show Keep (fun _ => False) w3 (w3.alloc (.cells #[] 27)) from HK4.out)
      have HR := Lib.hid (own_rowD (N := T126 (w3.alloc (.cells #[] 27))) (Q := fun _ => True) (zs := xs ++ ys) (by rw [List.flatMap_append]; exact HG2.out) (by have h1 := congrArg List.length HE1.out; have h2 := congrArg List.length HE2.out; have h3 := HN.out; rw [List.length_map] at h1 h2; rw [List.length_append]; omega) (fun y hy => by
        rcases List.mem_append.1 hy with hy | hy
        · exact DatAt.mono (DatAt.keep0 (HI1.out y hy) ((HX2.out.trans HX3.out).trans HK5.out)) (fun _ _ _ => trivial)
        · exact DatAt.mono (DatAt.keep0 (HI2.out y hy) (HX3.out.trans HK5.out)) (fun _ _ _ => trivial)))
      have HC := Lib.hid (samelist_any (cap := cap3) (cap' := 0) (HD3.out.keep0 HK5.out) HR.out (by omega))
      rw [eqL_true (by rw [List.map_append, HE1.out, HE2.out])] at HC
      have HK6 := Lib.hid (HK3.out.trans HK5.out)
      try dsimp only
      go_wp2_with fail
      refine HC.out.mono ?_
      rintro e w6 ⟨rfl, k6⟩
      have HK7 := Lib.hid (HK6.out.trans k6)
      clear k6
      try dsimp only
      go_wp2_with fail
      refine (HAW.out _ (HK7.out)).mono ?_
      rintro e w9 ⟨rfl, k9⟩
      have HK9 := Lib.hid ((HK7.out).trans k9)
      clear k9
      try dsimp only
      go_wp2_with fail
      go_ret
      exact ⟨rfl, HK9.out⟩
    · go_wp2_with (at_builtin; refine wpList_append_own_if _ rfl (.tmp 84) (.tmp 85) 25 rfl w3.heap.size 27 i27 (.agg #[.int .i64 0, .int .i32 0, .bool false, .slice none 0 0, .string ⟨#[]⟩, .slice none 0 0]) 6 88 Tryz.underlying25 h27 hz0 hz1 hz2 rfl (by decide) _ _ _ rfl HG1.out ⟨g2, 0, none⟩ n2 cap2 (ys.flatMap datC) rfl HP2.out.1 (HS2.out.cells rfl) (dat_one ys) ?b1 ?b2 HK4.out.size ?_)
      case b1 => unfold maxLen; omega
      case b2 => omega
      intro v5 w5 hown hgrow _
      obtain ⟨A5, c5, rfl⟩ := drow_form hown
      have HK5 := Lib.hid (show Keep (fun _ => False) w3 w5 from HK4.out.grown hgrow (fun b hb => .inr (HG1.out.lt b hb).1))
      have HG2 := Lib.hid hown
      clear hown hgrow
      have HR := Lib.hid (own_rowD (N := T126 w5) (Q := fun _ => True) (zs := xs ++ ys) (by rw [List.flatMap_append]; exact HG2.out) (by have h1 := congrArg List.length HE1.out; have h2 := congrArg List.length HE2.out; have h3 := HN.out; rw [List.length_map] at h1 h2; rw [List.length_append]; omega) (fun y hy => by
        rcases List.mem_append.1 hy with hy | hy
        · exact DatAt.mono (DatAt.keep0 (HI1.out y hy) ((HX2.out.trans HX3.out).trans HK5.out)) (fun _ _ _ => trivial)
        · exact DatAt.mono (DatAt.keep0 (HI2.out y hy) (HX3.out.trans HK5.out)) (fun _ _ _ => trivial)))
      have HC := Lib.hid (samelist_any (cap := cap3) (cap' := c5) (HD3.out.keep0 HK5.out) HR.out (by omega))
      rw [eqL_true (by rw [List.map_append, HE1.out, HE2.out])] at HC
      have HK6 := Lib.hid (HK3.out.trans HK5.out)
      try dsimp only
      go_wp2_with fail
      refine HC.out.mono ?_
      rintro e w6 ⟨rfl, k6⟩
      have HK7 := Lib.hid (HK6.out.trans k6)
      clear k6
      try dsimp only
      go_wp2_with fail
      refine (HAW.out _ (HK7.out)).mono ?_
      rintro e w9 ⟨rfl, k9⟩
      have HK9 := Lib.hid ((HK7.out).trans k9)
      clear k9
      try dsimp only
      go_wp2_with fail
      go_ret
      exact ⟨rfl, HK9.out⟩
  · go_wp2_with (at_builtin; refine wpList_append_own_if _ rfl (.tmp 82) (.tmp 83) 25 rfl w3.heap.size 27 i27 (.agg #[.int .i64 0, .int .i32 0, .bool false, .slice none 0 0, .string ⟨#[]⟩, .slice none 0 0]) 6 88 Tryz.underlying25 h27 hz0 hz1 hz2 rfl (by decide) _ _ _ rfl (empty27 w3) ⟨g1, 0, none⟩ n1 cap1 (xs.flatMap datC) rfl HP1.out.1 (HP1.out.cells rfl) (dat_one xs) ?a1 ?a2 HKA.out.size ?_)
    case a1 => unfold maxLen; omega
    case a2 => omega
    intro v4 w4 hown hgrow _
    obtain ⟨A4, c4, rfl⟩ := drow_form hown
    have HK4 := Lib.hid (show Keep (fun _ => False) w3 w4 from HKA.out.grown hgrow (fun k hk => .inr (by simp [Value.ownBlock] at hk; omega)))
    have HG1 := Lib.hid hown
    clear hown hgrow
    try dsimp only
    have HS2 := Lib.hid (drow_keep HO2.out (HX3.out.trans HK4.out) (fun _ _ => id))
    rcases drow_src HP2.out with ⟨rfl, rfl, rfl⟩ | ⟨g2, rfl⟩
    · go_wp2_with (at_builtin; refine wpList_append_own_none_if rfl (.tmp 84) (.tmp 85) 25 rfl w3.heap.size 27 i27 6 Tryz.underlying25 h27 _ _ _ rfl HG1.out rfl ?_)
      have HG2 := Lib.hid (show w4.ownsRow w3.heap.size 27 6 (.slice A4 n1 c4) (n1 + 0) (xs.flatMap datC ++ ys.flatMap datC) from by rw [List.eq_nil_of_length_eq_zero (HP2.out.1.trans (Nat.zero_mul 6)), List.append_nil]; exact HG1.out)
      have HK5 := Lib.hid (show Keep (fun _ => False) w3 w4 from HK4.out)
      obtain ⟨A5, c5, hv5⟩ := drow_form HG2.out
      rw [hv5] at HG2 ⊢
      clear hv5
      have HR := Lib.hid (own_rowD (N := T126 w4) (Q := fun _ => True) (zs := xs ++ ys) (by rw [List.flatMap_append]; exact HG2.out) (by have h1 := congrArg List.length HE1.out; have h2 := congrArg List.length HE2.out; have h3 := HN.out; rw [List.length_map] at h1 h2; rw [List.length_append]; omega) (fun y hy => by
        rcases List.mem_append.1 hy with hy | hy
        · exact DatAt.mono (DatAt.keep0 (HI1.out y hy) ((HX2.out.trans HX3.out).trans HK5.out)) (fun _ _ _ => trivial)
        · exact DatAt.mono (DatAt.keep0 (HI2.out y hy) (HX3.out.trans HK5.out)) (fun _ _ _ => trivial)))
      have HC := Lib.hid (samelist_any (cap := cap3) (cap' := c5) (HD3.out.keep0 HK5.out) HR.out (by omega))
      rw [eqL_true (by rw [List.map_append, HE1.out, HE2.out])] at HC
      have HK6 := Lib.hid (HK3.out.trans HK5.out)
      try dsimp only
      go_wp2_with fail
      refine HC.out.mono ?_
      rintro e w6 ⟨rfl, k6⟩
      have HK7 := Lib.hid (HK6.out.trans k6)
      clear k6
      try dsimp only
      go_wp2_with fail
      refine (HAW.out _ (HK7.out)).mono ?_
      rintro e w9 ⟨rfl, k9⟩
      have HK9 := Lib.hid ((HK7.out).trans k9)
      clear k9
      try dsimp only
      go_wp2_with fail
      go_ret
      exact ⟨rfl, HK9.out⟩
    · go_wp2_with (at_builtin; refine wpList_append_own_if _ rfl (.tmp 84) (.tmp 85) 25 rfl w3.heap.size 27 i27 (.agg #[.int .i64 0, .int .i32 0, .bool false, .slice none 0 0, .string ⟨#[]⟩, .slice none 0 0]) 6 88 Tryz.underlying25 h27 hz0 hz1 hz2 rfl (by decide) _ _ _ rfl HG1.out ⟨g2, 0, none⟩ n2 cap2 (ys.flatMap datC) rfl HP2.out.1 (HS2.out.cells rfl) (dat_one ys) ?b1 ?b2 HK4.out.size ?_)
      case b1 => unfold maxLen; omega
      case b2 => omega
      intro v5 w5 hown hgrow _
      obtain ⟨A5, c5, rfl⟩ := drow_form hown
      have HK5 := Lib.hid (show Keep (fun _ => False) w3 w5 from HK4.out.grown hgrow (fun b hb => .inr (HG1.out.lt b hb).1))
      have HG2 := Lib.hid hown
      clear hown hgrow
      have HR := Lib.hid (own_rowD (N := T126 w5) (Q := fun _ => True) (zs := xs ++ ys) (by rw [List.flatMap_append]; exact HG2.out) (by have h1 := congrArg List.length HE1.out; have h2 := congrArg List.length HE2.out; have h3 := HN.out; rw [List.length_map] at h1 h2; rw [List.length_append]; omega) (fun y hy => by
        rcases List.mem_append.1 hy with hy | hy
        · exact DatAt.mono (DatAt.keep0 (HI1.out y hy) ((HX2.out.trans HX3.out).trans HK5.out)) (fun _ _ _ => trivial)
        · exact DatAt.mono (DatAt.keep0 (HI2.out y hy) (HX3.out.trans HK5.out)) (fun _ _ _ => trivial)))
      have HC := Lib.hid (samelist_any (cap := cap3) (cap' := c5) (HD3.out.keep0 HK5.out) HR.out (by omega))
      rw [eqL_true (by rw [List.map_append, HE1.out, HE2.out])] at HC
      have HK6 := Lib.hid (HK3.out.trans HK5.out)
      try dsimp only
      go_wp2_with fail
      refine HC.out.mono ?_
      rintro e w6 ⟨rfl, k6⟩
      have HK7 := Lib.hid (HK6.out.trans k6)
      clear k6
      try dsimp only
      go_wp2_with fail
      refine (HAW.out _ (HK7.out)).mono ?_
      rintro e w9 ⟨rfl, k9⟩
      have HK9 := Lib.hid ((HK7.out).trans k9)
      clear k9
      try dsimp only
      go_wp2_with fail
      go_ret
      exact ⟨rfl, HK9.out⟩
set_option maxRecDepth 100000 in
set_option maxHeartbeats 8000000 in
theorem parts_0d (a b : ByteArray) (w : World) (ds es : List Raw) (p q r d : Int) (d0 : (d != 0) = true) (hr : (r == q + (a.size : Int) + 1) = true) (q0 : 0 ≤ q) (q1 : q ≤ 2000) (a1 : (a.size : Int) ≤ 2000) (HAW : Hid (∀ W : World, Keep (fun _ => False) w W → Calls Tryz.prog 21 #[] W (BoolPost true W))) (HSZ : Hid (a.size ≤ 2000 ∧ b.size ≤ 2000)) (h1 : decide ((2000 : Int) < (a.size : Int)) = false) (h2 : decide ((2000 : Int) < (b.size : Int)) = false) (H1 : Hid (∀ W : World, Keep (fun _ => False) w W → Calls Tryz.prog 23 #[.string a] W (fun e w' => ∃ (xs : List (Raw × PV)) (A : Option Addr) (cap : Nat), e = .returned (.tuple #[.slice A ds.length cap, .int .i64 p, .int .i64 0]) ∧ xs.map Prod.fst = ds ∧ w'.ownsRow W.heap.size 27 6 (.slice A ds.length cap) ds.length (xs.flatMap datC) ∧ (∀ y ∈ xs, DatAt (Oth W.heap.size (.slice A ds.length cap)) w' y.1 y.2) ∧ Keep (fun _ => False) W w' ∧ ds.length ≤ 4096))) (H2 : Hid (∀ W : World, Keep (fun _ => False) w W → Calls Tryz.prog 23 #[.string b] W (fun e w' => ∃ (xs : List (Raw × PV)) (A : Option Addr) (cap : Nat), e = .returned (.tuple #[.slice A es.length cap, .int .i64 q, .int .i64 d]) ∧ xs.map Prod.fst = es ∧ w'.ownsRow W.heap.size 27 6 (.slice A es.length cap) es.length (xs.flatMap datC) ∧ (∀ y ∈ xs, DatAt (Oth W.heap.size (.slice A es.length cap)) w' y.1 y.2) ∧ Keep (fun _ => False) W w' ∧ es.length ≤ 4096))) (H3 : Hid (∀ W : World, Keep (fun _ => False) w W → Calls Tryz.prog 23 #[.string (a ++ ⟨#[10]⟩ ++ b)] W (fun e w' => ∃ (A : Option Addr) (cap : Nat) (vs : Nat → PV), e = .returned (.tuple #[.slice A (ds ++ es).length cap, .int .i64 r, .int .i64 d]) ∧ RowAtD (T126 w') (fun b => W.heap.size ≤ b) w' A (ds ++ es).length (ds ++ es) vs ∧ Keep (fun _ => False) W w' ∧ (ds ++ es).length ≤ 4096 ∧ (ds ++ es).length ≤ cap))) : Calls Tryz.prog 8 #[.string a, .string b] w (BoolPost true w) := by
  have e1 : (d == d) = true := by simp
  obtain ⟨n3, hn3⟩ : ∃ n, n = (ds ++ es).length := ⟨_, rfl⟩
  obtain ⟨n1, hn1⟩ : ∃ n, n = ds.length := ⟨_, rfl⟩
  obtain ⟨n2, hn2⟩ : ∃ n, n = es.length := ⟨_, rfl⟩
  rw [← hn1] at H1
  rw [← hn2] at H2
  rw [← hn3] at H3
  have HN := Lib.hid (And.intro hn1 (And.intro hn2 hn3))
  clear hn1 hn2 hn3
  obtain ⟨i27, h27, hz0, hz1, hz2⟩ := info_parts info27
  go_enter Tryz.func8, Tryz.ntmps8
  go_wp2_with fail
  refine (H1.out _ (Keep.refl _ _)).mono ?_
  rintro e w1 ⟨xs, A1, cap1, rfl, hx1, ho1, hi1, k1, hl1⟩
  have HO1 := Lib.hid ho1
  have HI1 := Lib.hid hi1
  have HK1 := Lib.hid k1
  have HE1 := Lib.hid hx1
  clear hx1 ho1 hi1 k1
  try dsimp only
  go_wp2_with fail
  refine (H2.out _ HK1.out).mono ?_
  rintro e w2 ⟨ys, A2, cap2, rfl, hx2, ho2, hi2, k2, hl2⟩
  have HO2 := Lib.hid ho2
  have HI2 := Lib.hid hi2
  have HX2 := Lib.hid k2
  have HK2 := Lib.hid (HK1.out.trans k2)
  have HE2 := Lib.hid hx2
  clear hx2 ho2 hi2 k2
  have hadd1 := run_string_add_sum (P := Tryz.prog) w2 a ⟨#[10]⟩ (by have := HSZ.out; rw [sz10]; omega)
  have hadd2 := run_string_add_sum (P := Tryz.prog) w2 (a ++ ⟨#[10]⟩) b (by have := HSZ.out; rw [ByteArray.size_append, sz10]; omega)
  try dsimp only
  go_wp2_with fail
  clear hadd1 hadd2
  refine (H3.out _ HK2.out).mono ?_
  rintro e w3 ⟨A3, cap3, vs3, rfl, hd3, k3, hn3, hcap3⟩
  have HD3 := Lib.hid hd3
  have HX3 := Lib.hid k3
  have HK3 := Lib.hid (HK2.out.trans k3)
  clear hd3 k3
  have KA : Keep (fun _ => False) w3 (w3.alloc (.cells #[] 27)) := (Keep.refl _ _).alloc _
  have HP1 := Lib.hid (drow_keep HO1.out ((HX2.out.trans HX3.out).trans KA) (fun _ _ => id))
  have HP2 := Lib.hid (drow_keep HO2.out (HX3.out.trans KA) (fun _ _ => id))
  have HKA := Lib.hid KA
  clear KA
  rcases drow_src HP1.out with ⟨rfl, rfl, rfl⟩ | ⟨g1, rfl⟩
  · have HK4 := Lib.hid (show Keep (fun _ => False) w3 (w3.alloc (.cells #[] 27)) from HKA.out)
    have HG1 := Lib.hid (show (w3.alloc (.cells #[] 27)).ownsRow w3.heap.size 27 6 (.slice (some ⟨w3.heap.size, 0, none⟩) 0 0) 0 (xs.flatMap datC) from by rw [List.eq_nil_of_length_eq_zero (HP1.out.1.trans (Nat.zero_mul 6))]; exact empty27 w3)
    have HS2 := Lib.hid (drow_keep HO2.out (HX3.out.trans HK4.out) (fun _ _ => id))
    rcases drow_src HP2.out with ⟨rfl, rfl, rfl⟩ | ⟨g2, rfl⟩
    · skip
      have HG2 := Lib.hid (show (w3.alloc (.cells #[] 27)).ownsRow w3.heap.size 27 6 (.slice (some ⟨w3.heap.size, 0, none⟩) 0 0) (0 + 0) (xs.flatMap datC ++ ys.flatMap datC) from by rw [List.eq_nil_of_length_eq_zero (HP2.out.1.trans (Nat.zero_mul 6)), List.append_nil]; exact HG1.out)
      have HK5 := Lib.hid (show Keep (fun _ => False) w3 (w3.alloc (.cells #[] 27)) from HK4.out)
      have HR := Lib.hid (own_rowD (N := T126 (w3.alloc (.cells #[] 27))) (Q := fun _ => True) (zs := xs ++ ys) (by rw [List.flatMap_append]; exact HG2.out) (by have h1 := congrArg List.length HE1.out; have h2 := congrArg List.length HE2.out; have h3 := HN.out; rw [List.length_map] at h1 h2; rw [List.length_append]; omega) (fun y hy => by
        rcases List.mem_append.1 hy with hy | hy
        · exact DatAt.mono (DatAt.keep0 (HI1.out y hy) ((HX2.out.trans HX3.out).trans HK5.out)) (fun _ _ _ => trivial)
        · exact DatAt.mono (DatAt.keep0 (HI2.out y hy) (HX3.out.trans HK5.out)) (fun _ _ _ => trivial)))
      have HC := Lib.hid (samelist_any (cap := cap3) (cap' := 0) (HD3.out.keep0 HK5.out) HR.out (by omega))
      rw [eqL_true (by rw [List.map_append, HE1.out, HE2.out])] at HC
      have HK6 := Lib.hid (HK3.out.trans HK5.out)
      try dsimp only
      go_wp2_with fail
      refine HC.out.mono ?_
      rintro e w6 ⟨rfl, k6⟩
      have HK7 := Lib.hid (HK6.out.trans k6)
      clear k6
      try dsimp only
      go_wp2_with fail
      refine (HAW.out _ (HK7.out)).mono ?_
      rintro e w9 ⟨rfl, k9⟩
      have HK9 := Lib.hid ((HK7.out).trans k9)
      clear k9
      try dsimp only
      go_wp2_with fail
      go_ret
      exact ⟨rfl, HK9.out⟩
    · go_wp2_with (at_builtin; refine wpList_append_own_if _ rfl (.tmp 84) (.tmp 85) 25 rfl w3.heap.size 27 i27 (.agg #[.int .i64 0, .int .i32 0, .bool false, .slice none 0 0, .string ⟨#[]⟩, .slice none 0 0]) 6 88 Tryz.underlying25 h27 hz0 hz1 hz2 rfl (by decide) _ _ _ rfl HG1.out ⟨g2, 0, none⟩ n2 cap2 (ys.flatMap datC) rfl HP2.out.1 (HS2.out.cells rfl) (dat_one ys) ?b1 ?b2 HK4.out.size ?_)
      case b1 => unfold maxLen; omega
      case b2 => omega
      intro v5 w5 hown hgrow _
      obtain ⟨A5, c5, rfl⟩ := drow_form hown
      have HK5 := Lib.hid (show Keep (fun _ => False) w3 w5 from HK4.out.grown hgrow (fun b hb => .inr (HG1.out.lt b hb).1))
      have HG2 := Lib.hid hown
      clear hown hgrow
      have HR := Lib.hid (own_rowD (N := T126 w5) (Q := fun _ => True) (zs := xs ++ ys) (by rw [List.flatMap_append]; exact HG2.out) (by have h1 := congrArg List.length HE1.out; have h2 := congrArg List.length HE2.out; have h3 := HN.out; rw [List.length_map] at h1 h2; rw [List.length_append]; omega) (fun y hy => by
        rcases List.mem_append.1 hy with hy | hy
        · exact DatAt.mono (DatAt.keep0 (HI1.out y hy) ((HX2.out.trans HX3.out).trans HK5.out)) (fun _ _ _ => trivial)
        · exact DatAt.mono (DatAt.keep0 (HI2.out y hy) (HX3.out.trans HK5.out)) (fun _ _ _ => trivial)))
      have HC := Lib.hid (samelist_any (cap := cap3) (cap' := c5) (HD3.out.keep0 HK5.out) HR.out (by omega))
      rw [eqL_true (by rw [List.map_append, HE1.out, HE2.out])] at HC
      have HK6 := Lib.hid (HK3.out.trans HK5.out)
      try dsimp only
      go_wp2_with fail
      refine HC.out.mono ?_
      rintro e w6 ⟨rfl, k6⟩
      have HK7 := Lib.hid (HK6.out.trans k6)
      clear k6
      try dsimp only
      go_wp2_with fail
      refine (HAW.out _ (HK7.out)).mono ?_
      rintro e w9 ⟨rfl, k9⟩
      have HK9 := Lib.hid ((HK7.out).trans k9)
      clear k9
      try dsimp only
      go_wp2_with fail
      go_ret
      exact ⟨rfl, HK9.out⟩
  · go_wp2_with (at_builtin; refine wpList_append_own_if _ rfl (.tmp 82) (.tmp 83) 25 rfl w3.heap.size 27 i27 (.agg #[.int .i64 0, .int .i32 0, .bool false, .slice none 0 0, .string ⟨#[]⟩, .slice none 0 0]) 6 88 Tryz.underlying25 h27 hz0 hz1 hz2 rfl (by decide) _ _ _ rfl (empty27 w3) ⟨g1, 0, none⟩ n1 cap1 (xs.flatMap datC) rfl HP1.out.1 (HP1.out.cells rfl) (dat_one xs) ?a1 ?a2 HKA.out.size ?_)
    case a1 => unfold maxLen; omega
    case a2 => omega
    intro v4 w4 hown hgrow _
    obtain ⟨A4, c4, rfl⟩ := drow_form hown
    have HK4 := Lib.hid (show Keep (fun _ => False) w3 w4 from HKA.out.grown hgrow (fun k hk => .inr (by simp [Value.ownBlock] at hk; omega)))
    have HG1 := Lib.hid hown
    clear hown hgrow
    try dsimp only
    have HS2 := Lib.hid (drow_keep HO2.out (HX3.out.trans HK4.out) (fun _ _ => id))
    rcases drow_src HP2.out with ⟨rfl, rfl, rfl⟩ | ⟨g2, rfl⟩
    · go_wp2_with (at_builtin; refine wpList_append_own_none_if rfl (.tmp 84) (.tmp 85) 25 rfl w3.heap.size 27 i27 6 Tryz.underlying25 h27 _ _ _ rfl HG1.out rfl ?_)
      have HG2 := Lib.hid (show w4.ownsRow w3.heap.size 27 6 (.slice A4 n1 c4) (n1 + 0) (xs.flatMap datC ++ ys.flatMap datC) from by rw [List.eq_nil_of_length_eq_zero (HP2.out.1.trans (Nat.zero_mul 6)), List.append_nil]; exact HG1.out)
      have HK5 := Lib.hid (show Keep (fun _ => False) w3 w4 from HK4.out)
      obtain ⟨A5, c5, hv5⟩ := drow_form HG2.out
      rw [hv5] at HG2 ⊢
      clear hv5
      have HR := Lib.hid (own_rowD (N := T126 w4) (Q := fun _ => True) (zs := xs ++ ys) (by rw [List.flatMap_append]; exact HG2.out) (by have h1 := congrArg List.length HE1.out; have h2 := congrArg List.length HE2.out; have h3 := HN.out; rw [List.length_map] at h1 h2; rw [List.length_append]; omega) (fun y hy => by
        rcases List.mem_append.1 hy with hy | hy
        · exact DatAt.mono (DatAt.keep0 (HI1.out y hy) ((HX2.out.trans HX3.out).trans HK5.out)) (fun _ _ _ => trivial)
        · exact DatAt.mono (DatAt.keep0 (HI2.out y hy) (HX3.out.trans HK5.out)) (fun _ _ _ => trivial)))
      have HC := Lib.hid (samelist_any (cap := cap3) (cap' := c5) (HD3.out.keep0 HK5.out) HR.out (by omega))
      rw [eqL_true (by rw [List.map_append, HE1.out, HE2.out])] at HC
      have HK6 := Lib.hid (HK3.out.trans HK5.out)
      try dsimp only
      go_wp2_with fail
      refine HC.out.mono ?_
      rintro e w6 ⟨rfl, k6⟩
      have HK7 := Lib.hid (HK6.out.trans k6)
      clear k6
      try dsimp only
      go_wp2_with fail
      refine (HAW.out _ (HK7.out)).mono ?_
      rintro e w9 ⟨rfl, k9⟩
      have HK9 := Lib.hid ((HK7.out).trans k9)
      clear k9
      try dsimp only
      go_wp2_with fail
      go_ret
      exact ⟨rfl, HK9.out⟩
    · go_wp2_with (at_builtin; refine wpList_append_own_if _ rfl (.tmp 84) (.tmp 85) 25 rfl w3.heap.size 27 i27 (.agg #[.int .i64 0, .int .i32 0, .bool false, .slice none 0 0, .string ⟨#[]⟩, .slice none 0 0]) 6 88 Tryz.underlying25 h27 hz0 hz1 hz2 rfl (by decide) _ _ _ rfl HG1.out ⟨g2, 0, none⟩ n2 cap2 (ys.flatMap datC) rfl HP2.out.1 (HS2.out.cells rfl) (dat_one ys) ?b1 ?b2 HK4.out.size ?_)
      case b1 => unfold maxLen; omega
      case b2 => omega
      intro v5 w5 hown hgrow _
      obtain ⟨A5, c5, rfl⟩ := drow_form hown
      have HK5 := Lib.hid (show Keep (fun _ => False) w3 w5 from HK4.out.grown hgrow (fun b hb => .inr (HG1.out.lt b hb).1))
      have HG2 := Lib.hid hown
      clear hown hgrow
      have HR := Lib.hid (own_rowD (N := T126 w5) (Q := fun _ => True) (zs := xs ++ ys) (by rw [List.flatMap_append]; exact HG2.out) (by have h1 := congrArg List.length HE1.out; have h2 := congrArg List.length HE2.out; have h3 := HN.out; rw [List.length_map] at h1 h2; rw [List.length_append]; omega) (fun y hy => by
        rcases List.mem_append.1 hy with hy | hy
        · exact DatAt.mono (DatAt.keep0 (HI1.out y hy) ((HX2.out.trans HX3.out).trans HK5.out)) (fun _ _ _ => trivial)
        · exact DatAt.mono (DatAt.keep0 (HI2.out y hy) (HX3.out.trans HK5.out)) (fun _ _ _ => trivial)))
      have HC := Lib.hid (samelist_any (cap := cap3) (cap' := c5) (HD3.out.keep0 HK5.out) HR.out (by omega))
      rw [eqL_true (by rw [List.map_append, HE1.out, HE2.out])] at HC
      have HK6 := Lib.hid (HK3.out.trans HK5.out)
      try dsimp only
      go_wp2_with fail
      refine HC.out.mono ?_
      rintro e w6 ⟨rfl, k6⟩
      have HK7 := Lib.hid (HK6.out.trans k6)
      clear k6
      try dsimp only
      go_wp2_with fail
      refine (HAW.out _ (HK7.out)).mono ?_
      rintro e w9 ⟨rfl, k9⟩
      have HK9 := Lib.hid ((HK7.out).trans k9)
      clear k9
      try dsimp only
      go_wp2_with fail
      go_ret
      exact ⟨rfl, HK9.out⟩
set_option maxRecDepth 100000 in
theorem lawPParts (a b : ByteArray) (w : World) (hT : Tabs w) : Calls Tryz.prog 8 #[.string a, .string b] w (BoolPost true w) := by
  have HAW := Lib.hid (fun (W : World) (K : Keep (fun _ => False) w W) => pawake_any W (hT.keep K))
  by_cases ha : 2000 < a.size
  · exact parts_1 a b w HAW (by omega)
  by_cases hb : 2000 < b.size
  · exact parts_2 a b w HAW (decide_eq_false (by omega)) (by omega)
  obtain ⟨ds, p, c, hA⟩ := DataR.ex a.data.toList
  obtain ⟨es, q, d, hB⟩ := DataR.ex b.data.toList
  have sa : a.data.toList.length = a.size := (Lib.size_eq a).symm
  have sb : b.data.toList.length = b.size := (Lib.size_eq b).symm
  have l1 : decide ((2000 : Int) < (a.size : Int)) = false := decide_eq_false (by omega)
  have l2 : decide ((2000 : Int) < (b.size : Int)) = false := decide_eq_false (by omega)
  have HSZ := Lib.hid (show a.size ≤ 2000 ∧ b.size ≤ 2000 from ⟨by omega, by omega⟩)
  have hO : ∀ (s : ByteArray) (xs : List Raw) (x y : Nat) (_ : DataR s.data.toList 0 xs x y) (W : World) (_ : Keep (fun _ => False) w W), Calls Tryz.prog 23 #[.string s] W (DatsPost xs x y W) := fun s xs x y h W K => pAll_any s xs x y W (hT.keep K) h
  have hR : ∀ (s : ByteArray) (xs : List Raw) (x y : Nat) (_ : DataR s.data.toList 0 xs x y) (W : World) (_ : Keep (fun _ => False) w W), Calls Tryz.prog 23 #[.string s] W (fun e w' => ∃ (A : Option Addr) (cap : Nat) (vs : Nat → PV), e = .returned (.tuple #[.slice A xs.length cap, .int .i64 (x : Int), .int .i64 (y : Int)]) ∧ RowAtD (T126 w') (fun b => W.heap.size ≤ b) w' A xs.length xs vs ∧ Keep (fun _ => False) W w' ∧ xs.length ≤ 4096 ∧ xs.length ≤ cap) := fun s xs x y h W K => (hO s xs x y h W K).mono (fun _ _ h => DatsPost.row h)
  by_cases h11 : c = 11
  · subst h11
    obtain ⟨fs, r, g, hC⟩ := DataR.ex (a ++ ⟨#[10]⟩ ++ b).data.toList
    exact parts_11 a b w ds es fs q d r g p HAW HSZ l1 l2 (Lib.hid (hR a ds p 11 hA)) (Lib.hid (hR b es q d hB)) (Lib.hid (hR _ fs r g hC))
  have h2 := DataR.two (a := a.data.toList) (b := b.data.toList) (by rw [List.length_append, List.length_cons]; omega) hA (Nat.zero_le _) h11 hB
  rw [← cat_list] at h2
  by_cases h0 : c = 0
  · rw [if_pos h0] at h2
    subst h0
    by_cases hd : d = 0
    · subst hd
      rw [if_pos rfl] at h2
      have hq : q = 0 := by
        rcases hB.code with h | h
        · exact h.2
        · omega
      subst hq
      exact parts_0z a b w ds es p 0 0 rfl HAW HSZ l1 l2 (Lib.hid (hO a ds p 0 hA)) (Lib.hid (hO b es 0 0 hB)) (Lib.hid (hR _ _ 0 0 h2))
    · rw [if_neg hd] at h2
      have hq := hB.place
      exact parts_0d a b w ds es p q (a.data.toList.length + 1 + q : Nat) d (by simp; omega) (by simp; omega) (by omega) (by omega) (by omega) HAW HSZ l1 l2 (Lib.hid (hO a ds p 0 hA)) (Lib.hid (hO b es q d hB)) (Lib.hid (hR _ _ _ d h2))
  · rw [if_neg h0] at h2
    exact parts_e a b w ds es p c q d (by simp; omega) (by simp; omega) HAW HSZ l1 l2 (Lib.hid (hR a ds p c hA)) (Lib.hid (hR b es q d hB)) (Lib.hid (hR _ _ p c h2))
end Go.Proofs.YtonnikipeokkaaaGreatDoor
