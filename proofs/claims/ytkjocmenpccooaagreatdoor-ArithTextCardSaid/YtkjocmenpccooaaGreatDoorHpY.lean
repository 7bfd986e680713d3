/-
  arith.reckon, of sums, products, differences.
-/
import Derived.Test.YtkjocmenpccooaaGreatDoorHpK
namespace Go.Proofs.YtkjocmenpccooaaGreatDoor
open Go.RowKit

/-- A number, or the error er. -/
def RcPost (er v : Int) (w : World) (e : Ending) (w' : World) : Prop :=
  Keep (fun _ => False) w w' ∧ ∃ q A n c, e = .returned (.tuple #[numArg q A n c, .int .i64 er]) ∧ (er = 0 → q = decide (v < 0) ∧ LimbsAt w' A n c (limbs v.natAbs) ∧ Fits v)
def okI (r : Option Int) : Int := if r.isSome then 0 else 6
theorem NumOr.rc {r : Option Int} {w w' : World} {e : Ending} (h : NumOr r w e w') : RcPost (okI r) (r.getD 0) w e w' := by
  obtain ⟨k, h⟩ := h
  refine ⟨k, ?_⟩
  cases r with
  | some v =>
    obtain ⟨A, n, c, he, hl, hf⟩ := h
    exact ⟨_, A, n, c, he, fun _ => ⟨rfl, hl, hf⟩⟩
  | none =>
    obtain ⟨q, A, n, c, he⟩ := h
    exact ⟨q, A, n, c, he, fun h0 => absurd h0 (by decide)⟩
theorem ResPost.rc {x : Int} {w w' : World} {e : Ending} (h : ResPost x w e w') : RcPost (if Fits x then 0 else 6) x w e w' := by
  obtain ⟨k, h⟩ := h
  refine ⟨k, ?_⟩
  rcases h with ⟨hn, he⟩ | ⟨A, n, c, hf, he, own⟩
  · rw [if_neg hn]
    exact ⟨_, _, _, _, he, fun h0 => absurd h0 (by decide)⟩
  · rw [if_pos hf]
    exact ⟨_, A, n, c, he, fun _ => ⟨rfl, own.num hf, hf⟩⟩
theorem RcPost.two {er v : Int} {w w1 w2 : World} {B : Nat} (k : Keep (fun _ => False) w w1) (hB : w.heap.size ≤ B) {p : Bool} {A' : Option Addr} {n' c' : Nat} (hb : w1.heap[B]? = some (.cells #[.bool p, .slice A' n' c'] 24 (0, 0))) {e : Ending} (h : RcPost er v w1 e w2) :
    ∃ (q : Bool) (A : Option Addr) (n c : Nat), e = .returned (.tuple #[numArg q A n c, .int .i64 er]) ∧
      w2.cell? ⟨B, 0, none⟩ = some (.bool p) ∧ w2.cell? ⟨B, 1, none⟩ = some (.slice A' n' c') ∧ w2.frozen? ⟨B, 0, none⟩ = false ∧ w2.frozen? ⟨B, 1, none⟩ = false ∧
      ((w2.setCell ⟨B, 0, none⟩ (.bool q)).setCell ⟨B, 1, none⟩ (.slice A n c)).cell? ⟨B, 0, none⟩ = some (.bool q) ∧
      ((w2.setCell ⟨B, 0, none⟩ (.bool q)).setCell ⟨B, 1, none⟩ (.slice A n c)).cell? ⟨B, 1, none⟩ = some (.slice A n c) ∧
      RcPost er v w (.returned (.tuple #[numArg q A n c, .int .i64 er])) ((w2.setCell ⟨B, 0, none⟩ (.bool q)).setCell ⟨B, 1, none⟩ (.slice A n c)) := by
  obtain ⟨k2, q, A, n, c, rfl, h⟩ := h
  have hb2 := k2.heap hb (by simp)
  obtain ⟨c0, c1, f0, f1⟩ := two_at hb2
  obtain ⟨e0, e1⟩ := two_cells hb2 (.bool q) (.slice A n c)
  exact ⟨q, A, n, c, rfl, c0, c1, f0, f1, e0, e1, two_keep (k.trans k2) hB _ _, q, A, n, c, rfl, fun h0 => ⟨(h h0).1, (h h0).2.1.off24 hb2 _ _, (h h0).2.2⟩⟩
theorem op_add : OpC 71 (· + ·) := fun w a b A n c A' n' c' L L' F F' => by
  have hn := L.len
  have hn' := L'.len
  unfold Fits at F F'
  have := add_any (decide (a < 0)) A n c _ (decide (b < 0)) A' n' c' _ w L L' (by omega) (by omega)
  rwa [sval_limbs, sval_limbs] at this
theorem fits_zero : Fits 0 := of_fits (by decide)
theorem fits_one : Fits 1 := of_fits (by decide)
set_option maxRecDepth 100000 in
set_option maxHeartbeats 4000000 in
theorem reckon_sum (k x0 : Int) (f : Nat) (op : Int → Int → Int) (hk : k = 0 ∧ x0 = 0 ∧ f = 71 ∨ k = 1 ∧ x0 = 1 ∧ f = 72) (hop : OpC f op) (w : World) (R : Option Addr) (m rc : Nat) (xs : List Int) (hxs : xs.length = m) (hR : NumsR w R xs) (hm : m ≤ 1000) :
    Calls Tryz.prog 40 #[.int .i64 k, .slice R m rc] w (RcPost (okI (foldV op x0 xs)) ((foldV op x0 xs).getD 0) w) := by
  have K1 : Keep (fun _ => False) w (w.alloc (.cells #[.bool false, .slice none 0 0] 24)) := (Keep.refl _ _).alloc _
  have hb := heap_alloc_new w (.cells #[.bool false, .slice none 0 0] 24)
  obtain ⟨hf, hlo, hhi, hff⟩ : Fits x0 ∧ -9223372036854775808 ≤ x0 ∧ x0 ≤ 9223372036854775807 ∧ (f = 71 ∨ f = 72 ∨ f = 74) := by
    rcases hk with ⟨_, rfl, rfl⟩ | ⟨_, rfl, rfl⟩
    · exact ⟨fits_zero, by decide, by decide, .inl rfl⟩
    · exact ⟨fits_one, by decide, by decide, .inr (.inl rfl)⟩
  have HO := Lib.hid (of_any x0 (w.alloc (.cells #[.bool false, .slice none 0 0] 24)) hlo hhi)
  have HF := Lib.hid (fun (w2 : World) (k2 : Keep (fun _ => False) w w2) (A : Option Addr) (n c : Nat) (L : LimbsAt w2 A n c (limbs x0.natAbs)) => fold_any f hff op hop w2 x0 A n c L hf R m rc xs hxs (hR.keep0 k2) hm)
  have HT := Lib.hid (fun (w1 w2 : World) (kk : Keep (fun _ => False) w w1) (hb1 : w1.heap[w.heap.size]? = some (.cells #[.bool false, .slice none 0 0] 24 (0, 0))) (e : Ending) (h : NumOr (foldV op x0 xs) w1 e w2) => RcPost.two kk (Nat.le_refl _) hb1 h.rc)
  have HK1 := Lib.hid K1
  have HB := Lib.hid hb
  have HFT := Lib.hid hf
  obtain ⟨er, her⟩ : ∃ er, er = okI (foldV op x0 xs) := ⟨_, rfl⟩
  obtain ⟨vv, hvv⟩ : ∃ vv, vv = (foldV op x0 xs).getD 0 := ⟨_, rfl⟩
  rw [← her, ← hvv] at HT ⊢
  clear K1 hb hR hxs hm hf hlo hhi hff hop her hvv
  rcases hk with ⟨rfl, rfl, rfl⟩ | ⟨rfl, rfl, rfl⟩
  all_goals
    go_enter Tryz.func40, Tryz.ntmps40
    go_wp2_with fail
    refine HO.out.mono ?_
    rintro e w2 ⟨k2, A, n, c, rfl, own⟩
    have HL := Lib.hid (own.num HFT.out)
    have HK2 := Lib.hid k2
    have HFF := Lib.hid (HF.out w2 (HK1.out.trans k2) A n c HL.out)
    clear k2 own
    go_wp2_with fail
    refine HFF.out.mono ?_
    intro e w3 hres
    obtain ⟨q, A3, n3, c3, rfl, c0, c1, f0, f1, e0, e1, P⟩ := HT.out w2 w3 (HK1.out.trans HK2.out) (HK2.out.heap HB.out id) e hres
    have HP := Lib.hid P
    have HE := Lib.hid (And.intro e0 e1)
    clear hres P e0 e1
    go_wp2_with fail
    refine bodyPost_ret (v := .tuple #[numArg q A3 n3 c3, .int .i64 er]) ?_ rfl HP.out
    obtain ⟨e0, e1⟩ := HE.out
    simp [results, Tryz.results40, go_sem, e0, e1]
end Go.Proofs.YtkjocmenpccooaaGreatDoor
