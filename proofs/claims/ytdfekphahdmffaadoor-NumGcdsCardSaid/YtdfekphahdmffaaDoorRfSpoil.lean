/-
  The laws' spoil.
-/
import Derived.Test.YtdfekphahdmffaaDoorNuMade
import Derived.Test.YtdfekphahdmffaaDoorLawEnv
namespace Go.Proofs.YtdfekphahdmffaaDoor
open Go.RowKit

set_option maxRecDepth 100000 in
set_option maxHeartbeats 4000000 in
theorem spoil_any (base : Nat) (neg : Bool) (A : Option Addr) (n c : Nat) (l : List Nat) (w : World) (h : OwnR 63 .u32 w base A n c l) (_hm : n ≤ 100000) :
    Calls Tryd.prog 33 #[numArg neg A n c] w fun e w' => e = .returned (.tuple #[]) ∧ Keep (fun b => 0 < n ∧ A = some ⟨b, 0, none⟩) w w' := by
  have K : Keep (fun _ => False) w (w.alloc (.cells #[.bool neg, .slice A n c] 25)) := (Keep.refl _ _).alloc _
  have HB := Lib.hid (BoxAt.new w (.bool neg) (.slice A n c))
  have HO := Lib.hid (h.keep0 K)
  have HF := Lib.hid h.fresh
  have HK := Lib.hid K
  clear h K
  go_enter Tryd.func33, Tryd.ntmps33
  go_wp2_with fail
  generalize hB0 : w.heap.size = B0 at HB ⊢
  have HBX := Lib.hid (Nat.le_of_eq hB0)
  generalize w.alloc (.cells #[.bool neg, .slice A n c] 25) = w1 at HB HO HK ⊢
  go_loopw [2] (fun iv wr => ∃ (i : Nat) (l2 : List Nat), i ≤ n ∧ iv = .int .i64 (i : Int) ∧ OwnR 63 .u32 wr base A n c l2 ∧ BoxAt wr B0 (.bool neg) (.slice A n c) ∧ Keep (fun b => 0 < n ∧ A = some ⟨b, 0, none⟩) w wr) (fun iv _ => n - (intOf iv).toNat)
  case atStart => exact ⟨0, l, Nat.zero_le _, rfl, HO.out, HB.out, HK.out.mono (fun _ _ h => h.elim)⟩
  case round =>
    obtain ⟨i, l2, hi, rfl, o, bx, kk⟩ := hrel
    have c1 : wr.cell? ⟨B0, 1, none⟩ = some (.slice A n c) := by rw [cell_of_row wr _ _ _ _ _ bx]; rfl
    by_cases hin : i < n
    · have i0 : (0 : Int) ≤ (i : Int) := by omega
      have i1 : (i : Int) < (n : Int) := by omega
      obtain ⟨g, cg, eg, _, _⟩ := World.ownsRow.form o (by omega : 0 < n)
      injection eg with eg _ ec
      subst eg ec
      have hcl := o.row.2 i hin
      obtain ⟨b', off', e', _, hcl⟩ := hcl
      injection e' with e'
      injection e' with e1 e2 _
      subst e1 e2
      rw [Nat.zero_add] at hcl
      have hfz := o.frozen _ 0 rfl i
      have hgb := HF.out g 0 rfl
      obtain ⟨y, hy⟩ : ∃ y, y = l2.getD i 0 := ⟨_, rfl⟩
      rw [← hy] at hcl
      have HS := Lib.hid (And.intro o (And.intro bx kk))
      have HG := Lib.hid hgb
      clear o bx kk hy hgb
      go_wp2_with fail
      have e : ((y : Int) + 1) % 4294967296 = (((y + 1) % 4294967296 : Nat) : Int) := by omega
      rw [e]
      obtain ⟨o, bx, kk⟩ := HS.out
      have KS : Keep (fun b => b = g) wr (wr.setCell ⟨g, i, none⟩ (.int .u32 (((y + 1) % 4294967296 : Nat) : Int))) := setCell_keep (S := fun b => b = g) rfl _ _
      have hgb := HG.out
      refine ⟨⟨i + 1, _, by omega, by go_num, o.set hin _, KS.heap bx (by have := HBX.out; show ¬ B0 = g; omega), kk.join KS (fun b _ hb => by subst hb; exact ⟨by omega, rfl⟩)⟩, by simp [intOf]; omega⟩
    · have hd : decide ((i : Int) < (n : Int)) = false := decide_eq_false (by omega)
      have HKK := Lib.hid kk
      clear kk o bx
      go_wp2_with fail
      simp [bodyPost, results, Tryd.results33, go_sem]
      exact HKK.out
end Go.Proofs.YtdfekphahdmffaaDoor
