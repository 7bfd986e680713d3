/-
  The law NumParses: its walk.
-/
import Derived.Test.YtdfekphahdmffaaDoorRfParse
import Derived.Test.YtdfekphahdmffaaDoorNuParse
namespace Go.Proofs.YtdfekphahdmffaaDoor
open Go.RowKit

set_option maxRecDepth 100000 in
set_option maxHeartbeats 4000000 in
theorem parses_long (s : ByteArray) (w : World) (ht : PowTab w) (h : 1000 < s.size) : Calls Tryd.prog 5 #[.string s] w (BoolPost true w) := by
  have HT := Lib.hid ht
  have t1 : (1000 : Int) < (s.size : Int) := by omega
  clear ht h
  go_enter Tryd.func5, Tryd.ntmps5
  go_wp2_with fail
  refine (awake_any _ HT.out).mono ?_
  rintro e wz ⟨rfl, kz⟩
  have HZ := Lib.hid kz
  clear kz
  try dsimp only
  go_wp2_with fail
  go_ret
  exact ⟨rfl, HZ.out⟩
set_option maxRecDepth 100000 in
set_option maxHeartbeats 4000000 in
theorem parses_bad (c : Int) (hc : c = 9 ∨ c = 6) (s : ByteArray) (w : World) (ht : PowTab w) (h : ¬ 1000 < s.size)
    (H1 : ∀ w, Calls Tryd.prog 25 #[.string s] w fun e w' => e = .returned (.tuple #[numArg false none 0 0, .int .i64 c]) ∧ Keep (fun _ => False) w w')
    (H2 : ∀ w, Calls Tryd.prog 26 #[.string s] w fun e w' => e = .returned (.tuple #[numArg false none 0 0, .int .i64 c]) ∧ Keep (fun _ => False) w w') : Calls Tryd.prog 5 #[.string s] w (BoolPost true w) := by
  have HT := Lib.hid ht
  have HH1 := Lib.hid H1
  have HH2 := Lib.hid H2
  have t1 : decide ((1000 : Int) < (s.size : Int)) = false := decide_eq_false (by omega)
  have t2 : decide (1000 < s.size) = false := decide_eq_false h
  clear ht h H1 H2
  rcases hc with rfl | rfl <;>
  · go_enter Tryd.func5, Tryd.ntmps5
    go_wp2_with fail
    refine (HH1.out _).mono ?_
    rintro e w2 ⟨rfl, k2⟩
    have HX := Lib.hid (((Env.start w).keep k2).box (.bool false) (.slice none 0 0))
    clear k2
    try dsimp only
    go_wp2_with fail
    generalize w2.heap.size = B2 at HX ⊢
    generalize w2.alloc (.cells #[.bool false, .slice none 0 0] 25) = w3 at HX ⊢
    refine (HH2.out _).mono ?_
    rintro e w4 ⟨rfl, k4⟩
    have HX2 := Lib.hid (HX.out.keep k4)
    have HK := Lib.hid (HX2.out.k.alloc (.cells #[.bool false, .slice none 0 0] 34))
    obtain ⟨r0, r1, rl⟩ := HX2.out.cells (.head _)
    clear k4 HX
    try dsimp only
    go_wp2_with fail
    refine (awake_any _ (HT.out.keep HK.out)).mono ?_
    rintro e wz ⟨rfl, kz⟩
    have HZ := Lib.hid (HK.out.trans kz)
    clear kz
    try dsimp only
    go_wp2_with fail
    go_ret
    exact ⟨rfl, HZ.out⟩
set_option maxRecDepth 100000 in
set_option maxHeartbeats 4000000 in
theorem parses_good (x : Int) (hf : Fits x) (s : ByteArray) (w : World) (ht : PowTab w) (h : ¬ 1000 < s.size)
    (H1 : ∀ w, Calls Tryd.prog 25 #[.string s] w (ResPost x w))
    (H2 : ∀ w, Calls Tryd.prog 26 #[.string s] w fun e w' => ∃ (A : Option Addr) (n c : Nat), e = .returned (.tuple #[numArg (decide (x < 0)) A n c, .int .i64 0]) ∧ BitsAt w' A n c (bits2 x.natAbs) ∧ Keep (fun _ => False) w w') : Calls Tryd.prog 5 #[.string s] w (BoolPost true w) := by
  have HT := Lib.hid ht
  have HH1 := Lib.hid H1
  have HF := Lib.hid hf
  obtain ⟨z, hz⟩ : ∃ z, z = decide (x < 0) := ⟨_, rfl⟩
  rw [← hz] at H2
  have HZ := Lib.hid hz
  have HH2 := Lib.hid H2
  have t1 : decide ((1000 : Int) < (s.size : Int)) = false := decide_eq_false (by omega)
  have t2 : decide (1000 < s.size) = false := decide_eq_false h
  clear ht h H1 H2 hz hf
  go_enter Tryd.func5, Tryd.ntmps5
  go_wp2_with fail
  refine (HH1.out _).mono ?_
  intro e w2 hres
  obtain ⟨k2, q, A, n, c, l, f, rfl, LM, ln, ho⟩ := hres.gen
  obtain rfl := ho.ok HF.out
  have HO := Lib.hid ho
  have HX := Lib.hid ((((Env.start w).keep k2).num LM).box (.bool q) (.slice A n c))
  clear k2 hres LM ho
  try dsimp only
  go_wp2_with fail
  generalize w2.heap.size = B2 at HX ⊢
  generalize w2.alloc (.cells #[.bool q, .slice A n c] 25) = w3 at HX ⊢
  refine (HH2.out _).mono ?_
  rintro e w4 ⟨A2, n2, c2, rfl, b2, k4⟩
  have KA : Keep (fun _ => False) w4 (w4.alloc (.cells #[.bool z, .slice A2 n2 c2] 34)) := (Keep.refl _ _).alloc _
  have HX2 := Lib.hid (HX.out.keep (k4.trans KA))
  have HB2 := Lib.hid (b2.keep0 KA)
  obtain ⟨r0, r1, rl⟩ := (HX.out.keep k4).cells (.head _)
  clear k4 HX b2 KA
  try dsimp only
  go_wp2_with fail
  refine (is_z HZ.out HO.out (HX2.out.m _ (.head _)) HB2.out).mono ?_
  rintro e w5 ⟨rfl, k5⟩
  have HK := Lib.hid (HX2.out.k.trans k5)
  clear k5
  try dsimp only
  go_wp2_with fail
  refine (awake_any _ (HT.out.keep HK.out)).mono ?_
  rintro e wz ⟨rfl, kz⟩
  have HZ9 := Lib.hid (HK.out.trans kz)
  clear kz
  try dsimp only
  go_wp2_with fail
  go_ret
  exact ⟨rfl, HZ9.out⟩
theorem parses_any (s : ByteArray) (w : World) (ht : PowTab w) : Calls Tryd.prog 5 #[.string s] w (BoolPost true w) := by
  by_cases h : 1000 < s.size
  · exact parses_long s w ht h
  · have P1 := fun w => parse_any s w (by omega)
    have P2 := fun w => rparse_any s w (by omega)
    unfold ParsePost at P1
    unfold RPPost at P2
    cases hv : parseV s.data.toList with
    | none =>
      rw [hv] at P1 P2
      exact parses_bad 9 (.inl rfl) s w ht h P1 P2
    | some x =>
      rw [hv] at P1 P2
      by_cases hf : Fits x
      · refine parses_good x hf s w ht h P1 fun w => (P2 w).mono ?_
        rintro e w' (⟨_, h⟩ | ⟨hn, _⟩)
        · exact h
        · exact absurd hf hn
      · refine parses_bad 6 (.inr rfl) s w ht h (fun w => (P1 w).mono ?_) fun w => (P2 w).mono ?_
        · intro e w' hres
          obtain ⟨k, ⟨_, he⟩ | ⟨hx, _⟩⟩ := hres.two
          · exact ⟨he, k⟩
          · exact absurd hx hf
        · rintro e w' (⟨hx, _⟩ | ⟨_, he, k⟩)
          · exact absurd hx hf
          · exact ⟨he, k⟩
end Go.Proofs.YtdfekphahdmffaaDoor
