/-
  run, of each primitive.
-/
import Derived.Test.YtkjocmenpccooaaGreatDoorHpAi
namespace Go.Proofs.YtkjocmenpccooaaGreatDoor
open Go.RowKit

theorem prim_num {w0 w1 w2 : World} {h c s p g : Nat} {S : SpV} {er v : Int} {e : Ending} (A : ApPost er h c s p g S (fun M u => DenH M u v) w1 e w2) (ls : w0.heap.size ≤ s) (lp : w0.heap.size ≤ p) (lg : w0.heap.size ≤ g) (K : Keep (fun _ => False) w0 w1) (hfv : er = 0 → Fits v) : PrimPost h 4 er v w0 e w2 := by
  unfold ApPost at A
  by_cases he : er = 0
  · rw [if_pos he] at A
    obtain ⟨S', u, rfl, hp, k, hd, _⟩ := A
    refine ⟨K.intoS k (by rintro b (e | e | e) <;> omega), u, by rw [he], fun _ => ?_⟩
    refine (bdat_num hp v u hd).mono ?_
    rintro e w3 ⟨A, n, c, rfl, own, k3⟩
    exact ⟨k3, _, A, n, c, rfl, fun _ => ⟨rfl, own.num (hfv he), hfv he⟩⟩
  · rw [if_neg he] at A
    exact ⟨K.trans A.2, 0, A.1, fun h => absurd h he⟩
theorem prim_tru {w0 w1 w2 : World} {h : Nat} {t : Bool} {e : Ending} (A : TruPost t w1 e w2) (K : Keep (fun _ => False) w0 w1) : PrimPost h (if t then 1 else 2) 0 0 w0 e w2 := by
  obtain ⟨rfl, k⟩ := A
  refine ⟨K.trans k, _, rfl, fun _ => ?_⟩
  refine (bdat_truth t w2 h).mono ?_
  rintro e w3 ⟨rfl, k3⟩
  exact ⟨k3, false, none, 0, 0, rfl, fun h4 => by cases t <;> exact absurd h4 (by decide)⟩
theorem ArgsR.fits {w : World} {A : Option Addr} {xs : List Int} (h : ArgsR w A xs) (i : Nat) (hi : i < xs.length) : Fits (xs.getD i 0) := by
  obtain ⟨_, _, _, _, _, _, _, _, _, _, _, _, _, _, hf⟩ := h i hi
  rwa [List.getD_eq_getElem?_getD, List.getElem?_eq_getElem hi]
theorem run_num (k : Int) (n : Nat) (hk : k = 0 ∧ n = 2 ∨ k = 0 ∧ n = 3 ∨ k = 1 ∧ n = 2 ∨ k = 1 ∧ n = 3 ∨ k = 3 ∧ n = 1 ∨ k = 3 ∧ n = 2 ∨ k = 4 ∧ n = 2 ∨ k = 5 ∧ n = 2 ∨ k = 6 ∧ n = 2 ∨ k = 12 ∧ n = 3 ∨ k = 13 ∧ n = 3 ∨ k = 14 ∧ n = 1)
    (w : World) (A : Option Addr) (cp : Nat) (xs : List Int) (hxs : xs.length = n) (hA : ArgsR w A xs) (er v : Int) (hfv : er = 0 → Fits v)
    (RC : ∀ (w1 : World) (A' : Option Addr) (c' : Nat), NumsR w1 A' xs → n ≤ c' → Calls Tryz.prog 40 #[.int .i64 k, .slice A' n c'] w1 (RcPost er v w1)) :
    Calls Tryz.prog 9 #[.int .i64 k, .slice A n cp] w (RunEnd 4 er v w) :=
  run_any w k A n cp xs hxs hA (by omega) 4 er v (fun w0 w1 h c s p g S R rc us lh lc ls lp lg H hr hd hf hc K =>
    (apply_num H k n hk R rc us hr xs hxs (fun i hi => ⟨hd i hi, hA.fits i (by omega)⟩) er v hf hc (fun w2 A' c' _ nr hle => RC w2 A' c' nr hle)).mono (fun e w2 A => prim_num A ls lp lg K hfv))
theorem foldV_fits (op : Int → Int → Int) (xs : List Int) : ∀ (a : Int), Fits a → okI (foldV op a xs) = 0 → Fits ((foldV op a xs).getD 0) := by
  induction xs with
  | nil => intro a ha _; exact ha
  | cons x xs ih =>
    intro a ha h
    unfold foldV at h ⊢
    by_cases hf : Fits (op a x)
    · rw [if_pos hf] at h ⊢
      exact ih _ hf h
    · rw [if_neg hf] at h
      exact absurd h (by decide)
theorem run_add (w : World) (A : Option Addr) (n cp : Nat) (hn : n = 2 ∨ n = 3) (xs : List Int) (hxs : xs.length = n) (hA : ArgsR w A xs) :
    Calls Tryz.prog 9 #[.int .i64 0, .slice A n cp] w (RunEnd 4 (okI (foldV (· + ·) 0 xs)) ((foldV (· + ·) 0 xs).getD 0) w) :=
  run_num 0 n (by omega) w A cp xs hxs hA _ _ (foldV_fits _ xs 0 fits_zero) (fun w1 A' c' nr _ => reckon_sum 0 0 71 _ (.inl ⟨rfl, rfl, rfl⟩) op_add w1 A' n c' xs hxs nr (by omega))
def divV (k x y : Int) : Int := if k = 4 then Int.tdiv x y else if k = 5 then Int.tmod x y else Int.fmod x y
theorem run_div (k : Int) (hk : k = 4 ∨ k = 5 ∨ k = 6) (w : World) (A : Option Addr) (cp : Nat) (x y : Int) (hy : y ≠ 0) (hA : ArgsR w A [x, y]) :
    Calls Tryz.prog 9 #[.int .i64 k, .slice A 2 cp] w (RunEnd 4 (if Fits (divV k x y) then 0 else 6) (divV k x y) w) := by
  have hv : lval (limbs y.natAbs) = y.natAbs := val_digs BB2 _
  have hfv : (if Fits (divV k x y) then (0 : Int) else 6) = 0 → Fits (divV k x y) := fun h => by
    by_cases hf : Fits (divV k x y)
    · exact hf
    · rw [if_neg hf] at h; exact absurd h (by decide)
  have key : ∀ f, (k = 4 ∧ f = 76 ∨ k = 5 ∧ f = 77 ∨ k = 6 ∧ f = 78) → (∀ (w1 : World) (A : Option Addr) (n c : Nat) (A' : Option Addr) (n' c' : Nat), LimbsAt w1 A n c (limbs x.natAbs) → LimbsAt w1 A' n' c' (limbs y.natAbs) → n ≤ 9000 → n' ≤ 9000 → Calls Tryz.prog f #[numArg (decide (x < 0)) A n c, numArg (decide (y < 0)) A' n' c'] w1 (ResPost (divV k x y) w1)) → Calls Tryz.prog 9 #[.int .i64 k, .slice A 2 cp] w (RunEnd 4 (if Fits (divV k x y) then 0 else 6) (divV k x y) w) := fun f hkf hc =>
    run_num k 2 (by omega) w A cp [x, y] rfl hA _ _ hfv (fun w1 A' c' nr _ => reckon_div k f hkf w1 A' c' x y nr _ _ (fun w2 A n c A2 n2 c2 _ L F L2 F2 => by
      have e1 := L.len
      have e2 := L2.len
      unfold Fits at F F2
      exact (hc w2 A n c A2 n2 c2 L L2 (by omega) (by omega)).mono (fun e w3 h => h.rc)))
  rcases hk with rfl | rfl | rfl
  · exact key 76 (by decide) (fun w1 A n c A' n' c' L L' h h' => by
      have := quo_any (decide (x < 0)) A n c _ (decide (y < 0)) A' n' c' _ w1 L L' h h' (by rw [hv]; omega)
      rwa [sval_limbs, sval_limbs] at this)
  · exact key 77 (by decide) (fun w1 A n c A' n' c' L L' h h' => by
      have := rem_any (decide (x < 0)) A n c _ (decide (y < 0)) A' n' c' _ w1 L L' h h' (by rw [hv]; omega)
      rwa [sval_limbs, sval_limbs] at this)
  · exact key 78 (by decide) (fun w1 A n c A' n' c' L L' h h' => by
      have := mod_any (decide (x < 0)) A n c _ (decide (y < 0)) A' n' c' _ w1 L L' h h' (by rw [hv]; omega)
      rwa [sval_limbs, sval_limbs] at this)
theorem run_ask (k : Int) (hk : k = 15 ∨ k = 16 ∨ k = 17 ∨ k = 18 ∨ k = 19) (w : World) (A : Option Addr) (cp : Nat) (x : Int) (hA : ArgsR w A [x]) :
    Calls Tryz.prog 9 #[.int .i64 k, .slice A 1 cp] w (RunEnd (if askB k x then 1 else 2) 0 0 w) :=
  run_any w k A 1 cp [x] rfl hA (by decide) _ 0 0 (fun w0 w1 h c s p g S R rc us lh lc ls lp lg H hr hd hf hc K => by
    have hl : us.length = 1 := hr.1
    obtain ⟨u, rfl⟩ := List.length_eq_one_iff.1 hl
    have f0 := hA.fits 0 (by simp)
    have d0 := hd 0 (by decide)
    rcases hk with hk | hk | hk | hk | hk
    · exact (apply_sign H k (.inl hk) R rc u hr x d0 f0).mono (fun e w2 A => prim_tru A K)
    · exact (apply_sign H k (.inr (.inl hk)) R rc u hr x d0 f0).mono (fun e w2 A => prim_tru A K)
    · exact (apply_sign H k (.inr (.inr hk)) R rc u hr x d0 f0).mono (fun e w2 A => prim_tru A K)
    · exact (apply_half H k (.inl hk) R rc u hr x d0 f0).mono (fun e w2 A => prim_tru A K)
    · exact (apply_half H k (.inr hk) R rc u hr x d0 f0).mono (fun e w2 A => prim_tru A K))
end Go.Proofs.YtkjocmenpccooaaGreatDoor
