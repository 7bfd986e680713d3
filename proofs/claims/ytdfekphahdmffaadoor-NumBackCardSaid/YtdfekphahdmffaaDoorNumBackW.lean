/-
  The law NumBack: its walk.
-/
import Derived.Test.YtdfekphahdmffaaDoorNuLong
import Derived.Test.YtdfekphahdmffaaDoorBackL
import Derived.Test.YtdfekphahdmffaaDoorLawAid
import Derived.Test.YtdfekphahdmffaaDoorNuParse
import Derived.Test.YtdfekphahdmffaaDoorNuFix
namespace Go.Proofs.YtdfekphahdmffaaDoor
open Go.RowKit

theorem cat_b (b : UInt8) (o : List UInt8) : (⟨#[b]⟩ : ByteArray) ++ ⟨o.toArray⟩ = ⟨(b :: o).toArray⟩ := by
  apply ByteArray.ext
  simp [ByteArray.data_append]
theorem list_size (o : List UInt8) : (⟨o.toArray⟩ : ByteArray).size = o.length := by
  show o.toArray.size = _
  simp
theorem parse_of {o : List UInt8} {x : Int} (h : parseV o = some x) (hl : o.length ≤ 1000000) (w : World) : Calls Tryd.prog 25 #[.string ⟨o.toArray⟩] w (ResPost x w) := by
  have := parse_any ⟨o.toArray⟩ w (by rw [list_size]; exact hl)
  unfold ParsePost at this
  rw [show (⟨o.toArray⟩ : ByteArray).data.toList = o from by simp, h] at this
  exact this
theorem extract_tail (b : UInt8) (o : List UInt8) : (⟨(b :: o).toArray⟩ : ByteArray).extract 1 (⟨(b :: o).toArray⟩ : ByteArray).size = ⟨o.toArray⟩ := by
  apply ByteArray.ext
  apply Array.ext'
  have := Lib.extract_data (⟨(b :: o).toArray⟩ : ByteArray) 1 (⟨(b :: o).toArray⟩ : ByteArray).size
  rw [this, list_size]
  simp
set_option maxRecDepth 100000 in
set_option maxHeartbeats 16000000 in
theorem back_long (p1 : Bool) (A1 : Option Addr) (n1 c1 : Nat) (l1 : List Nat) (x0 : Int) (nz : Nat) (w : World) (ht : PowTab w) (L1 : LimbsX w A1 n1 c1 l1) (_hx0 : -9223372036854775808 ≤ x0) (_hx1 : x0 ≤ 9223372036854775807) (_hnz : nz ≤ 255) (h1 : 60 < n1) :
    Calls Tryd.prog 9 #[numArg p1 A1 n1 c1, .int .i64 x0, .int .u8 (nz : Int)] w (BoolPost true w) := by
  have HL := Lib.hid L1
  clear L1
  obtain ⟨xa, hxa⟩ : ∃ x, x = sval p1 l1 := ⟨_, rfl⟩
  have HV := Lib.hid hxa
  clear hxa
  have X0 := env1 w (.bool p1) (.slice A1 n1 c1)
  have HT := Lib.hid ht
  clear ht
  go_enter Tryd.func9, Tryd.ntmps9
  go_wp2_with fail
  generalize w.heap.size = B0 at X0 ⊢
  generalize w.alloc (.cells #[.bool p1, .slice A1 n1 c1] 25) = w1 at X0 ⊢
  have HX := Lib.hid X0
  clear X0
  obtain ⟨r0, r1, rl⟩ := HX.out.cells (.head _)
  try dsimp only
  go_wp2_with fail
  clear r0 r1 rl
  refine (normX_any p1 A1 n1 c1 l1 _ (HL.out.keep0 HX.out.k)).mono ?_
  intro e w_x hres
  rw [← HV.out] at hres
  obtain ⟨k_x, q_x, A_x, n_x, c_x, l_x, f_x, rfl, LM, ln_x, ho⟩ := hres.gen
  have HO_x := Lib.hid ho
  clear ho hres
  have HX1 := Lib.hid (HX.out.keep k_x)
  clear HX k_x
  have HX := Lib.hid HX1.out
  clear HX1
  have HX1 := Lib.hid (HX.out.num LM)
  clear HX LM
  have HX := Lib.hid HX1.out
  clear HX1
  obtain ⟨r0, r1, rl⟩ := HX.out.cells (.head _)
  try dsimp only
  go_wp2_with fail
  clear r0 r1 rl
  have HX1 := Lib.hid (HX.out.box (.bool q_x) (.slice A_x n_x c_x))
  clear HX
  have HX := Lib.hid HX1.out
  clear HX1
  generalize w_x.alloc (.cells #[.bool q_x, .slice A_x n_x c_x] 25) = w2 at HX ⊢
  generalize w_x.heap.size = Bx at HX ⊢
  refine (long_any p1 A1 n1 c1 _).mono ?_
  rintro e wi ⟨rfl, ki⟩
  rw [show decide (60 < n1) = true from decide_eq_true h1]
  have HX1 := Lib.hid (HX.out.keep ki)
  clear HX ki
  have HX := Lib.hid HX1.out
  clear HX1
  obtain ⟨x0, x1, xl⟩ := HX.out.cells (.head _)
  obtain ⟨r0, r1, rl⟩ := HX.out.cells (.tail _ (.head _))
  try dsimp only
  go_wp2_with fail
  clear x0 x1 xl r0 r1 rl
  refine (awake_any _ (HT.out.keep HX.out.k)).mono ?_
  rintro e wz ⟨rfl, kz⟩
  have HZ := Lib.hid (HX.out.k.trans kz)
  clear kz
  try dsimp only
  go_wp2_with fail
  go_ret
  exact ⟨rfl, HZ.out⟩
set_option maxRecDepth 100000 in
set_option maxHeartbeats 16000000 in
theorem back_big (p1 : Bool) (A1 : Option Addr) (n1 c1 : Nat) (l1 : List Nat) (x0 : Int) (nz : Nat) (w : World) (ht : PowTab w) (L1 : LimbsX w A1 n1 c1 l1) (_hx0 : -9223372036854775808 ≤ x0) (_hx1 : x0 ≤ 9223372036854775807) (_hnz : nz ≤ 255) (h1 : ¬ 60 < n1) (hf : ¬ Fits (sval p1 l1)) :
    Calls Tryd.prog 9 #[numArg p1 A1 n1 c1, .int .i64 x0, .int .u8 (nz : Int)] w (BoolPost true w) := by
  have HL := Lib.hid L1
  clear L1
  obtain ⟨xa, hxa⟩ : ∃ x, x = sval p1 l1 := ⟨_, rfl⟩
  rw [← hxa] at hf
  have HF := Lib.hid hf
  clear hf
  have HV := Lib.hid hxa
  clear hxa
  have X0 := env1 w (.bool p1) (.slice A1 n1 c1)
  have HT := Lib.hid ht
  clear ht
  go_enter Tryd.func9, Tryd.ntmps9
  go_wp2_with fail
  generalize w.heap.size = B0 at X0 ⊢
  generalize w.alloc (.cells #[.bool p1, .slice A1 n1 c1] 25) = w1 at X0 ⊢
  have HX := Lib.hid X0
  clear X0
  obtain ⟨r0, r1, rl⟩ := HX.out.cells (.head _)
  try dsimp only
  go_wp2_with fail
  clear r0 r1 rl
  refine (normX_any p1 A1 n1 c1 l1 _ (HL.out.keep0 HX.out.k)).mono ?_
  intro e w_x hres
  rw [← HV.out] at hres
  obtain ⟨k_x, q_x, A_x, n_x, c_x, l_x, f_x, rfl, LM, ln_x, ho⟩ := hres.gen
  have HO_x := Lib.hid ho
  clear ho hres
  have HX1 := Lib.hid (HX.out.keep k_x)
  clear HX k_x
  have HX := Lib.hid HX1.out
  clear HX1
  have HX1 := Lib.hid (HX.out.num LM)
  clear HX LM
  have HX := Lib.hid HX1.out
  clear HX1
  obtain rfl : f_x = 6 := by
    rcases HO_x.out.two with hf | hf
    · subst hf; exact absurd HO_x.out.fits HF.out
    · exact hf
  obtain ⟨r0, r1, rl⟩ := HX.out.cells (.head _)
  try dsimp only
  go_wp2_with fail
  clear r0 r1 rl
  have HX1 := Lib.hid (HX.out.box (.bool q_x) (.slice A_x n_x c_x))
  clear HX
  have HX := Lib.hid HX1.out
  clear HX1
  generalize w_x.alloc (.cells #[.bool q_x, .slice A_x n_x c_x] 25) = w2 at HX ⊢
  generalize w_x.heap.size = Bx at HX ⊢
  refine (long_any p1 A1 n1 c1 _).mono ?_
  rintro e wi ⟨rfl, ki⟩
  rw [show decide (60 < n1) = false from decide_eq_false h1]
  have HX1 := Lib.hid (HX.out.keep ki)
  clear HX ki
  have HX := Lib.hid HX1.out
  clear HX1
  obtain ⟨x0, x1, xl⟩ := HX.out.cells (.head _)
  obtain ⟨r0, r1, rl⟩ := HX.out.cells (.tail _ (.head _))
  try dsimp only
  go_wp2_with fail
  clear x0 x1 xl r0 r1 rl
  refine (awake_any _ (HT.out.keep HX.out.k)).mono ?_
  rintro e wz ⟨rfl, kz⟩
  have HZ := Lib.hid (HX.out.k.trans kz)
  clear kz
  try dsimp only
  go_wp2_with fail
  go_ret
  exact ⟨rfl, HZ.out⟩
set_option maxRecDepth 100000 in
set_option maxHeartbeats 16000000 in
theorem back_main (p1 : Bool) (A1 : Option Addr) (n1 c1 : Nat) (l1 : List Nat) (x0 : Int) (nz : Nat) (w : World) (ht : PowTab w) (L1 : LimbsX w A1 n1 c1 l1) (hx0 : -9223372036854775808 ≤ x0) (hx1 : x0 ≤ 9223372036854775807) (hnz : nz ≤ 255) (h1 : ¬ 60 < n1) (hf : Fits (sval p1 l1)) :
    Calls Tryd.prog 9 #[numArg p1 A1 n1 c1, .int .i64 x0, .int .u8 (nz : Int)] w (BoolPost true w) := by
  have HL := Lib.hid L1
  clear L1
  obtain ⟨xa, hxa⟩ : ∃ x, x = sval p1 l1 := ⟨_, rfl⟩
  rw [← hxa] at hf
  have HF := Lib.hid hf
  clear hf
  have HV := Lib.hid hxa
  clear hxa
  have X0 := env1 w (.bool p1) (.slice A1 n1 c1)
  have HT := Lib.hid ht
  clear ht
  go_enter Tryd.func9, Tryd.ntmps9
  go_wp2_with fail
  generalize w.heap.size = B0 at X0 ⊢
  generalize w.alloc (.cells #[.bool p1, .slice A1 n1 c1] 25) = w1 at X0 ⊢
  have HX := Lib.hid X0
  clear X0
  obtain ⟨r0, r1, rl⟩ := HX.out.cells (.head _)
  try dsimp only
  go_wp2_with fail
  clear r0 r1 rl
  refine (normX_any p1 A1 n1 c1 l1 _ (HL.out.keep0 HX.out.k)).mono ?_
  intro e w_x hres
  rw [← HV.out] at hres
  obtain ⟨k_x, q_x, A_x, n_x, c_x, l_x, f_x, rfl, LM, ln_x, ho⟩ := hres.gen
  have HO_x := Lib.hid ho
  clear ho hres
  have HX1 := Lib.hid (HX.out.keep k_x)
  clear HX k_x
  have HX := Lib.hid HX1.out
  clear HX1
  have HX1 := Lib.hid (HX.out.num LM)
  clear HX LM
  have HX := Lib.hid HX1.out
  clear HX1
  obtain rfl := HO_x.out.ok HF.out
  have VX := Lib.hid HO_x.out.val
  obtain ⟨r0, r1, rl⟩ := HX.out.cells (.head _)
  try dsimp only
  go_wp2_with fail
  clear r0 r1 rl
  have HX1 := Lib.hid (HX.out.box (.bool q_x) (.slice A_x n_x c_x))
  clear HX
  have HX := Lib.hid HX1.out
  clear HX1
  generalize w_x.alloc (.cells #[.bool q_x, .slice A_x n_x c_x] 25) = w2 at HX ⊢
  generalize w_x.heap.size = Bx at HX ⊢
  refine (long_any p1 A1 n1 c1 _).mono ?_
  rintro e wi ⟨rfl, ki⟩
  rw [show decide (60 < n1) = false from decide_eq_false h1]
  have HX1 := Lib.hid (HX.out.keep ki)
  clear HX ki
  have HX := Lib.hid HX1.out
  clear HX1
  obtain ⟨x0, x1, xl⟩ := HX.out.cells (.head _)
  obtain ⟨r0, r1, rl⟩ := HX.out.cells (.tail _ (.head _))
  try dsimp only
  go_wp2_with fail
  clear x0 x1 xl r0 r1 rl
  obtain ⟨tx, htx⟩ : ∃ t : ByteArray, t = ⟨(Lib.itoa xa).toArray⟩ := ⟨_, rfl⟩
  have HTX := Lib.hid htx
  clear htx
  have HDL := Lib.hid (show (Lib.decDigits xa.natAbs).length ≤ 288001 from dec_bound ((Fits_iff _).1 HF.out) (by omega))
  have HIL := Lib.hid (show (Lib.itoa xa).length ≤ 288002 from by
    by_cases h : xa < 0
    · rw [itoa_neg h, List.length_cons]; have := HDL.out; omega
    · rw [itoa_pos h]; have := HDL.out; omega)
  have HPR := Lib.hid (fun (w : World) => (show Calls Tryd.prog 25 #[.string tx] w (ResPost xa w) from by rw [HTX.out]; exact parse_of (parse_itoa xa) (by have := HIL.out; omega) w))
  refine (text_any q_x A_x n_x c_x l_x _ (HX.out.m _ (.head _)) (by omega) (HT.out.keep HX.out.k)).mono ?_
  rintro e wi ⟨rfl, ki⟩
  rw [VX.out, ← HTX.out]
  have HX1 := Lib.hid (HX.out.keep ki)
  clear HX ki
  have HX := Lib.hid HX1.out
  clear HX1
  obtain ⟨x0, x1, xl⟩ := HX.out.cells (.head _)
  obtain ⟨r0, r1, rl⟩ := HX.out.cells (.tail _ (.head _))
  try dsimp only
  go_wp2_with fail
  clear x0 x1 xl r0 r1 rl
  refine (HPR.out _).mono ?_
  intro e w_y hres
  obtain ⟨k_y, q_y, A_y, n_y, c_y, l_y, f_y, rfl, LM, ln_y, ho⟩ := hres.gen
  have HO_y := Lib.hid ho
  clear ho hres
  have HX1 := Lib.hid (HX.out.keep k_y)
  clear HX k_y
  have HX := Lib.hid HX1.out
  clear HX1
  have HX1 := Lib.hid (HX.out.num LM)
  clear HX LM
  have HX := Lib.hid HX1.out
  clear HX1
  obtain rfl := HO_y.out.ok HF.out
  obtain ⟨e1, e2, _⟩ := HO_x.out.det HO_y.out
  have HE_y := Lib.hid (And.intro e1 e2)
  clear e1 e2
  obtain ⟨x0, x1, xl⟩ := HX.out.cells (.head _)
  obtain ⟨r0, r1, rl⟩ := HX.out.cells (.tail _ (.head _))
  try dsimp only
  go_wp2_with fail
  clear x0 x1 xl r0 r1 rl
  have HX1 := Lib.hid (HX.out.box (.bool q_y) (.slice A_y n_y c_y))
  clear HX
  have HX := Lib.hid HX1.out
  clear HX1
  generalize w_y.alloc (.cells #[.bool q_y, .slice A_y n_y c_y] 25) = w3 at HX ⊢
  generalize w_y.heap.size = By at HX ⊢
  refine (same_any q_y A_y n_y c_y l_y q_x A_x n_x c_x l_x _ (HX.out.m _ (.head _)) (HX.out.m _ (.tail _ (.head _)))).mono ?_
  rintro e wi ⟨rfl, ki⟩
  rw [HE_y.out.1, HE_y.out.2, same_self]
  have HX1 := Lib.hid (HX.out.keep ki)
  clear HX ki
  have HX := Lib.hid HX1.out
  clear HX1
  obtain ⟨y0, y1, yl⟩ := HX.out.cells (.head _)
  obtain ⟨x0, x1, xl⟩ := HX.out.cells (.tail _ (.head _))
  obtain ⟨r0, r1, rl⟩ := HX.out.cells (.tail _ (.tail _ (.head _)))
  try dsimp only
  go_wp2_with fail
  clear y0 y1 yl x0 x1 xl r0 r1 rl
  refine (text_any p1 A1 n1 c1 l1 _ ((HL.out.toAt (by omega)).keep0 HX.out.k) (by omega) (HT.out.keep HX.out.k)).mono ?_
  rintro e wi ⟨rfl, ki⟩
  rw [← HV.out, ← HTX.out]
  have HX1 := Lib.hid (HX.out.keep ki)
  clear HX ki
  have HX := Lib.hid HX1.out
  clear HX1
  obtain ⟨y0, y1, yl⟩ := HX.out.cells (.head _)
  obtain ⟨x0, x1, xl⟩ := HX.out.cells (.tail _ (.head _))
  obtain ⟨r0, r1, rl⟩ := HX.out.cells (.tail _ (.tail _ (.head _)))
  try dsimp only
  go_wp2_with fail
  clear y0 y1 yl x0 x1 xl r0 r1 rl
  refine (sign_any q_x A_x n_x c_x l_x _ (HX.out.m _ (.tail _ (.head _)))).mono ?_
  rintro e wi ⟨rfl, ki⟩
  rw [VX.out]
  have HX1 := Lib.hid (HX.out.keep ki)
  clear HX ki
  have HX := Lib.hid HX1.out
  clear HX1
  obtain ⟨K, hK⟩ : ∃ K : Nat, K = nz % 9 := ⟨_, rfl⟩
  have hK1 : Int.tmod (nz : Int) 9 = (K : Int) := by rw [Int.tmod_eq_emod_of_nonneg (by omega)]; omega
  have hK2 : (nz : Int) % 9 = (K : Int) := by omega
  have hK9 : K ≤ 8 := by omega
  clear hK
  obtain ⟨D, hD⟩ : ∃ D, D = Lib.decDigits xa.natAbs := ⟨_, rfl⟩
  have HD := Lib.hid hD
  have hDl : D.length ≤ 288001 := by rw [hD]; exact HDL.out
  clear hD
  by_cases hx : xa < 0
  · skip
    have hs1 : signI xa = -1 := by unfold signI; rw [if_pos hx]
    rw [hs1]
    clear hs1
    have HTD := Lib.hid (show tx.extract 1 tx.size = ⟨D.toArray⟩ from by rw [HTX.out, itoa_neg hx, HD.out]; exact extract_tail _ _)
    have hsz : (1 : Int) ≤ (tx.size : Int) := by rw [HTX.out, list_size, itoa_neg hx, List.length_cons]; omega
    have HPN := Lib.hid (fun (k : Nat) => (parse_noughts xa k).1 hx)
    clear hx
    obtain ⟨y0, y1, yl⟩ := HX.out.cells (.head _)
    obtain ⟨x0, x1, xl⟩ := HX.out.cells (.tail _ (.head _))
    obtain ⟨r0, r1, rl⟩ := HX.out.cells (.tail _ (.tail _ (.head _)))
    try dsimp only
    go_wp2_with fail
    clear y0 y1 yl x0 x1 xl r0 r1 rl
    go_quiet (fail)
    rw [HTD.out]
    clear hsz
    try go_wp2_with fail
    have HX1 := Lib.hid (HX.out.keep ((Keep.refl (fun _ => False) _).drewN nq))
    clear HX
    have HX := Lib.hid HX1.out
    clear HX1
    go_loop [13, 14] (fun dv iv => ∃ (k : Nat) (o : List UInt8), k ≤ K ∧ iv = .int .i64 (k : Int) ∧ dv = .string ⟨o.toArray⟩ ∧ o = List.replicate k 48 ++ D) (fun _ iv => K - (intOf iv).toNat)
    case atStart => exact ⟨0, D, Nat.zero_le _, rfl, rfl, rfl⟩
    case round =>
      obtain ⟨k, o, hk, rfl, rfl, ho⟩ := hrel
      have hol : o.length ≤ 288020 := by rw [ho, List.length_append, List.length_replicate]; omega
      have hol3 : ¬ (9223372036854775807 < 1 + o.length) := by omega
      have HO := Lib.hid ho
      clear ho
      by_cases hkn : k < K
      · have k1 : (k : Int) < (K : Int) := by omega
        go_wp2_with fail
        rw [cat_b]
        go_round
        case rel => exact ⟨k + 1, 48 :: o, by omega, by go_num, rfl, by rw [HO.out, List.replicate_succ]; rfl⟩
        case measure => simp [intOf]; omega
      · have k1 : decide ((k : Int) < (K : Int)) = false := decide_eq_false (by omega)
        have HPR2 := Lib.hid (fun (w : World) => (show Calls Tryd.prog 25 #[.string ((⟨#[45]⟩ : ByteArray) ++ ⟨o.toArray⟩)] w (ResPost xa w) from by
          rw [cat_b]
          exact parse_of (by rw [HO.out, HD.out]; exact HPN.out k) (by rw [List.length_cons]; omega) w))
        obtain ⟨y0, y1, yl⟩ := HX.out.cells (.head _)
        obtain ⟨x0, x1, xl⟩ := HX.out.cells (.tail _ (.head _))
        obtain ⟨r0, r1, rl⟩ := HX.out.cells (.tail _ (.tail _ (.head _)))
        try dsimp only
        go_wp2_with fail
        clear y0 y1 yl x0 x1 xl r0 r1 rl
        clear k1 hol3
        refine (HPR2.out _).mono ?_
        intro e w_z hres
        obtain ⟨k_z, q_z, A_z, n_z, c_z, l_z, f_z, rfl, LM, ln_z, ho⟩ := hres.gen
        have HO_z := Lib.hid ho
        clear ho hres
        have HX1 := Lib.hid (HX.out.keep k_z)
        clear HX k_z
        have HX := Lib.hid HX1.out
        clear HX1
        have HX1 := Lib.hid (HX.out.num LM)
        clear HX LM
        have HX := Lib.hid HX1.out
        clear HX1
        obtain rfl := HO_z.out.ok HF.out
        obtain ⟨e1, e2, _⟩ := HO_x.out.det HO_z.out
        have HE_z := Lib.hid (And.intro e1 e2)
        clear e1 e2
        obtain ⟨y0, y1, yl⟩ := HX.out.cells (.head _)
        obtain ⟨x0, x1, xl⟩ := HX.out.cells (.tail _ (.head _))
        obtain ⟨r0, r1, rl⟩ := HX.out.cells (.tail _ (.tail _ (.head _)))
        try dsimp only
        go_wp2_with fail
        clear y0 y1 yl x0 x1 xl r0 r1 rl
        have HX1 := Lib.hid (HX.out.box (.bool q_z) (.slice A_z n_z c_z))
        clear HX
        have HX := Lib.hid HX1.out
        clear HX1
        generalize w_z.alloc (.cells #[.bool q_z, .slice A_z n_z c_z] 25) = w4 at HX ⊢
        generalize w_z.heap.size = Bz at HX ⊢
        refine (same_any q_z A_z n_z c_z l_z q_x A_x n_x c_x l_x _ (HX.out.m _ (.head _)) (HX.out.m _ (.tail _ (.tail _ (.head _))))).mono ?_
        rintro e wi ⟨rfl, ki⟩
        rw [HE_z.out.1, HE_z.out.2, same_self]
        have HX1 := Lib.hid (HX.out.keep ki)
        clear HX ki
        have HX := Lib.hid HX1.out
        clear HX1
        obtain ⟨z0, z1, zl⟩ := HX.out.cells (.head _)
        obtain ⟨y0, y1, yl⟩ := HX.out.cells (.tail _ (.head _))
        obtain ⟨x0, x1, xl⟩ := HX.out.cells (.tail _ (.tail _ (.head _)))
        obtain ⟨r0, r1, rl⟩ := HX.out.cells (.tail _ (.tail _ (.tail _ (.head _))))
        try dsimp only
        go_wp2_with fail
        clear z0 z1 zl y0 y1 yl x0 x1 xl r0 r1 rl
        obtain ⟨zz, hzz⟩ : ∃ z, z = decide (x0 < 0) := ⟨_, rfl⟩
        have HZZ := Lib.hid hzz
        clear hzz
        refine (of_any x0 _ hx0 hx1).mono ?_
        rintro e w5 ⟨k5, A5, n5, c5, rfl, oo⟩
        rw [← HZZ.out]
        have LO := oo.num (of_fits (by unfold BB; omega))
        clear oo
        have HX1 := Lib.hid (HX.out.keep k5)
        clear HX k5
        have HX := Lib.hid HX1.out
        clear HX1
        have HX1 := Lib.hid (HX.out.num LO)
        clear HX LO
        have HX := Lib.hid HX1.out
        clear HX1
        obtain ⟨z0, z1, zl⟩ := HX.out.cells (.head _)
        obtain ⟨y0, y1, yl⟩ := HX.out.cells (.tail _ (.head _))
        obtain ⟨x0, x1, xl⟩ := HX.out.cells (.tail _ (.tail _ (.head _)))
        obtain ⟨r0, r1, rl⟩ := HX.out.cells (.tail _ (.tail _ (.tail _ (.head _))))
        try dsimp only
        go_wp2_with fail
        clear z0 z1 zl y0 y1 yl x0 x1 xl r0 r1 rl
        have HSV := Lib.hid (show sval zz (limbs x0.natAbs) = x0 from by rw [HZZ.out]; exact sval_limbs x0)
        refine (fix_any zz A5 n5 c5 _ _ (HX.out.m _ (.head _))).mono ?_
        rintro e w6 ⟨rfl, k6⟩
        rw [HSV.out]
        have HX1 := Lib.hid (HX.out.keep k6)
        clear HX k6
        have HX := Lib.hid HX1.out
        clear HX1
        rcases (by omega : (-1152921504606846976 ≤ x0 ∧ x0 < 1152921504606846976) ∨ x0 < -1152921504606846976 ∨ 1152921504606846976 ≤ x0) with hp | hp | hp
        · skip
          have hsm : Small x0 := hp
          rw [if_pos hsm, decide_eq_true hsm]
          obtain ⟨t1, t2⟩ := hp
          clear hsm
          obtain ⟨z0, z1, zl⟩ := HX.out.cells (.head _)
          obtain ⟨y0, y1, yl⟩ := HX.out.cells (.tail _ (.head _))
          obtain ⟨x0, x1, xl⟩ := HX.out.cells (.tail _ (.tail _ (.head _)))
          obtain ⟨r0, r1, rl⟩ := HX.out.cells (.tail _ (.tail _ (.tail _ (.head _))))
          try dsimp only
          go_wp2_with fail
          clear z0 z1 zl y0 y1 yl x0 x1 xl r0 r1 rl
          refine (awake_any _ (HT.out.keep HX.out.k)).mono ?_
          rintro e wz ⟨rfl, kz⟩
          have HZ := Lib.hid (HX.out.k.trans kz)
          clear kz
          try dsimp only
          go_wp2_with fail
          go_ret
          exact ⟨rfl, HZ.out⟩
        · skip
          have hsm : ¬ Small x0 := by unfold Small; omega
          rw [if_neg hsm, decide_eq_false hsm]
          clear hsm
          have t1 : decide (-1152921504606846976 ≤ x0) = false := decide_eq_false (by omega)
          clear hp
          obtain ⟨z0, z1, zl⟩ := HX.out.cells (.head _)
          obtain ⟨y0, y1, yl⟩ := HX.out.cells (.tail _ (.head _))
          obtain ⟨x0, x1, xl⟩ := HX.out.cells (.tail _ (.tail _ (.head _)))
          obtain ⟨r0, r1, rl⟩ := HX.out.cells (.tail _ (.tail _ (.tail _ (.head _))))
          try dsimp only
          go_wp2_with fail
          clear z0 z1 zl y0 y1 yl x0 x1 xl r0 r1 rl
          refine (awake_any _ (HT.out.keep HX.out.k)).mono ?_
          rintro e wz ⟨rfl, kz⟩
          have HZ := Lib.hid (HX.out.k.trans kz)
          clear kz
          try dsimp only
          go_wp2_with fail
          go_ret
          exact ⟨rfl, HZ.out⟩
        · skip
          have hsm : ¬ Small x0 := by unfold Small; omega
          rw [if_neg hsm, decide_eq_false hsm]
          clear hsm
          have t1 : -1152921504606846976 ≤ x0 := by omega
          have t2 : decide (x0 < 1152921504606846976) = false := decide_eq_false (by omega)
          clear hp
          obtain ⟨z0, z1, zl⟩ := HX.out.cells (.head _)
          obtain ⟨y0, y1, yl⟩ := HX.out.cells (.tail _ (.head _))
          obtain ⟨x0, x1, xl⟩ := HX.out.cells (.tail _ (.tail _ (.head _)))
          obtain ⟨r0, r1, rl⟩ := HX.out.cells (.tail _ (.tail _ (.tail _ (.head _))))
          try dsimp only
          go_wp2_with fail
          clear z0 z1 zl y0 y1 yl x0 x1 xl r0 r1 rl
          refine (awake_any _ (HT.out.keep HX.out.k)).mono ?_
          rintro e wz ⟨rfl, kz⟩
          have HZ := Lib.hid (HX.out.k.trans kz)
          clear kz
          try dsimp only
          go_wp2_with fail
          go_ret
          exact ⟨rfl, HZ.out⟩
  · skip
    obtain ⟨sv, hsv⟩ : ∃ z, z = signI xa := ⟨_, rfl⟩
    have hs1 : decide (sv < 0) = false := by
      rw [hsv, decide_eq_false_iff_not]
      unfold signI
      rw [if_neg hx]
      split <;> omega
    rw [← hsv]
    clear hsv
    have HTD := Lib.hid (show tx = ⟨D.toArray⟩ from by rw [HTX.out, itoa_pos hx, HD.out])
    have HPN := Lib.hid (fun (k : Nat) => (parse_noughts xa k).2 hx)
    clear hx
    obtain ⟨y0, y1, yl⟩ := HX.out.cells (.head _)
    obtain ⟨x0, x1, xl⟩ := HX.out.cells (.tail _ (.head _))
    obtain ⟨r0, r1, rl⟩ := HX.out.cells (.tail _ (.tail _ (.head _)))
    try dsimp only
    go_wp2_with fail
    clear y0 y1 yl x0 x1 xl r0 r1 rl
    clear hs1
    rw [HTD.out]
    try go_wp2_with fail
    go_loop [13, 14] (fun dv iv => ∃ (k : Nat) (o : List UInt8), k ≤ K ∧ iv = .int .i64 (k : Int) ∧ dv = .string ⟨o.toArray⟩ ∧ o = List.replicate k 48 ++ D) (fun _ iv => K - (intOf iv).toNat)
    case atStart => exact ⟨0, D, Nat.zero_le _, rfl, rfl, rfl⟩
    case round =>
      obtain ⟨k, o, hk, rfl, rfl, ho⟩ := hrel
      have hol : o.length ≤ 288020 := by rw [ho, List.length_append, List.length_replicate]; omega
      have hol3 : ¬ (9223372036854775807 < 1 + o.length) := by omega
      have HO := Lib.hid ho
      clear ho
      by_cases hkn : k < K
      · have k1 : (k : Int) < (K : Int) := by omega
        go_wp2_with fail
        rw [cat_b]
        go_round
        case rel => exact ⟨k + 1, 48 :: o, by omega, by go_num, rfl, by rw [HO.out, List.replicate_succ]; rfl⟩
        case measure => simp [intOf]; omega
      · have k1 : decide ((k : Int) < (K : Int)) = false := decide_eq_false (by omega)
        have HPR2 := Lib.hid (fun (w : World) => (show Calls Tryd.prog 25 #[.string ((⟨#[43]⟩ : ByteArray) ++ ⟨o.toArray⟩)] w (ResPost xa w) from by
          rw [cat_b]
          exact parse_of (by rw [HO.out, HD.out]; exact HPN.out k) (by rw [List.length_cons]; omega) w))
        obtain ⟨y0, y1, yl⟩ := HX.out.cells (.head _)
        obtain ⟨x0, x1, xl⟩ := HX.out.cells (.tail _ (.head _))
        obtain ⟨r0, r1, rl⟩ := HX.out.cells (.tail _ (.tail _ (.head _)))
        try dsimp only
        go_wp2_with fail
        clear y0 y1 yl x0 x1 xl r0 r1 rl
        clear k1 hol3
        refine (HPR2.out _).mono ?_
        intro e w_z hres
        obtain ⟨k_z, q_z, A_z, n_z, c_z, l_z, f_z, rfl, LM, ln_z, ho⟩ := hres.gen
        have HO_z := Lib.hid ho
        clear ho hres
        have HX1 := Lib.hid (HX.out.keep k_z)
        clear HX k_z
        have HX := Lib.hid HX1.out
        clear HX1
        have HX1 := Lib.hid (HX.out.num LM)
        clear HX LM
        have HX := Lib.hid HX1.out
        clear HX1
        obtain rfl := HO_z.out.ok HF.out
        obtain ⟨e1, e2, _⟩ := HO_x.out.det HO_z.out
        have HE_z := Lib.hid (And.intro e1 e2)
        clear e1 e2
        obtain ⟨y0, y1, yl⟩ := HX.out.cells (.head _)
        obtain ⟨x0, x1, xl⟩ := HX.out.cells (.tail _ (.head _))
        obtain ⟨r0, r1, rl⟩ := HX.out.cells (.tail _ (.tail _ (.head _)))
        try dsimp only
        go_wp2_with fail
        clear y0 y1 yl x0 x1 xl r0 r1 rl
        have HX1 := Lib.hid (HX.out.box (.bool q_z) (.slice A_z n_z c_z))
        clear HX
        have HX := Lib.hid HX1.out
        clear HX1
        generalize w_z.alloc (.cells #[.bool q_z, .slice A_z n_z c_z] 25) = w4 at HX ⊢
        generalize w_z.heap.size = Bz at HX ⊢
        refine (same_any q_z A_z n_z c_z l_z q_x A_x n_x c_x l_x _ (HX.out.m _ (.head _)) (HX.out.m _ (.tail _ (.tail _ (.head _))))).mono ?_
        rintro e wi ⟨rfl, ki⟩
        rw [HE_z.out.1, HE_z.out.2, same_self]
        have HX1 := Lib.hid (HX.out.keep ki)
        clear HX ki
        have HX := Lib.hid HX1.out
        clear HX1
        obtain ⟨z0, z1, zl⟩ := HX.out.cells (.head _)
        obtain ⟨y0, y1, yl⟩ := HX.out.cells (.tail _ (.head _))
        obtain ⟨x0, x1, xl⟩ := HX.out.cells (.tail _ (.tail _ (.head _)))
        obtain ⟨r0, r1, rl⟩ := HX.out.cells (.tail _ (.tail _ (.tail _ (.head _))))
        try dsimp only
        go_wp2_with fail
        clear z0 z1 zl y0 y1 yl x0 x1 xl r0 r1 rl
        obtain ⟨zz, hzz⟩ : ∃ z, z = decide (x0 < 0) := ⟨_, rfl⟩
        have HZZ := Lib.hid hzz
        clear hzz
        refine (of_any x0 _ hx0 hx1).mono ?_
        rintro e w5 ⟨k5, A5, n5, c5, rfl, oo⟩
        rw [← HZZ.out]
        have LO := oo.num (of_fits (by unfold BB; omega))
        clear oo
        have HX1 := Lib.hid (HX.out.keep k5)
        clear HX k5
        have HX := Lib.hid HX1.out
        clear HX1
        have HX1 := Lib.hid (HX.out.num LO)
        clear HX LO
        have HX := Lib.hid HX1.out
        clear HX1
        obtain ⟨z0, z1, zl⟩ := HX.out.cells (.head _)
        obtain ⟨y0, y1, yl⟩ := HX.out.cells (.tail _ (.head _))
        obtain ⟨x0, x1, xl⟩ := HX.out.cells (.tail _ (.tail _ (.head _)))
        obtain ⟨r0, r1, rl⟩ := HX.out.cells (.tail _ (.tail _ (.tail _ (.head _))))
        try dsimp only
        go_wp2_with fail
        clear z0 z1 zl y0 y1 yl x0 x1 xl r0 r1 rl
        have HSV := Lib.hid (show sval zz (limbs x0.natAbs) = x0 from by rw [HZZ.out]; exact sval_limbs x0)
        refine (fix_any zz A5 n5 c5 _ _ (HX.out.m _ (.head _))).mono ?_
        rintro e w6 ⟨rfl, k6⟩
        rw [HSV.out]
        have HX1 := Lib.hid (HX.out.keep k6)
        clear HX k6
        have HX := Lib.hid HX1.out
        clear HX1
        rcases (by omega : (-1152921504606846976 ≤ x0 ∧ x0 < 1152921504606846976) ∨ x0 < -1152921504606846976 ∨ 1152921504606846976 ≤ x0) with hp | hp | hp
        · skip
          have hsm : Small x0 := hp
          rw [if_pos hsm, decide_eq_true hsm]
          obtain ⟨t1, t2⟩ := hp
          clear hsm
          obtain ⟨z0, z1, zl⟩ := HX.out.cells (.head _)
          obtain ⟨y0, y1, yl⟩ := HX.out.cells (.tail _ (.head _))
          obtain ⟨x0, x1, xl⟩ := HX.out.cells (.tail _ (.tail _ (.head _)))
          obtain ⟨r0, r1, rl⟩ := HX.out.cells (.tail _ (.tail _ (.tail _ (.head _))))
          try dsimp only
          go_wp2_with fail
          clear z0 z1 zl y0 y1 yl x0 x1 xl r0 r1 rl
          refine (awake_any _ (HT.out.keep HX.out.k)).mono ?_
          rintro e wz ⟨rfl, kz⟩
          have HZ := Lib.hid (HX.out.k.trans kz)
          clear kz
          try dsimp only
          go_wp2_with fail
          go_ret
          exact ⟨rfl, HZ.out⟩
        · skip
          have hsm : ¬ Small x0 := by unfold Small; omega
          rw [if_neg hsm, decide_eq_false hsm]
          clear hsm
          have t1 : decide (-1152921504606846976 ≤ x0) = false := decide_eq_false (by omega)
          clear hp
          obtain ⟨z0, z1, zl⟩ := HX.out.cells (.head _)
          obtain ⟨y0, y1, yl⟩ := HX.out.cells (.tail _ (.head _))
          obtain ⟨x0, x1, xl⟩ := HX.out.cells (.tail _ (.tail _ (.head _)))
          obtain ⟨r0, r1, rl⟩ := HX.out.cells (.tail _ (.tail _ (.tail _ (.head _))))
          try dsimp only
          go_wp2_with fail
          clear z0 z1 zl y0 y1 yl x0 x1 xl r0 r1 rl
          refine (awake_any _ (HT.out.keep HX.out.k)).mono ?_
          rintro e wz ⟨rfl, kz⟩
          have HZ := Lib.hid (HX.out.k.trans kz)
          clear kz
          try dsimp only
          go_wp2_with fail
          go_ret
          exact ⟨rfl, HZ.out⟩
        · skip
          have hsm : ¬ Small x0 := by unfold Small; omega
          rw [if_neg hsm, decide_eq_false hsm]
          clear hsm
          have t1 : -1152921504606846976 ≤ x0 := by omega
          have t2 : decide (x0 < 1152921504606846976) = false := decide_eq_false (by omega)
          clear hp
          obtain ⟨z0, z1, zl⟩ := HX.out.cells (.head _)
          obtain ⟨y0, y1, yl⟩ := HX.out.cells (.tail _ (.head _))
          obtain ⟨x0, x1, xl⟩ := HX.out.cells (.tail _ (.tail _ (.head _)))
          obtain ⟨r0, r1, rl⟩ := HX.out.cells (.tail _ (.tail _ (.tail _ (.head _))))
          try dsimp only
          go_wp2_with fail
          clear z0 z1 zl y0 y1 yl x0 x1 xl r0 r1 rl
          refine (awake_any _ (HT.out.keep HX.out.k)).mono ?_
          rintro e wz ⟨rfl, kz⟩
          have HZ := Lib.hid (HX.out.k.trans kz)
          clear kz
          try dsimp only
          go_wp2_with fail
          go_ret
          exact ⟨rfl, HZ.out⟩
end Go.Proofs.YtdfekphahdmffaaDoor
