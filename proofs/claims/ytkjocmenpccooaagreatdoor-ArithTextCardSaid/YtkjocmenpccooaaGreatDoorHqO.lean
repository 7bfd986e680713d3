/-
  The rows' opening: a number that came in; the tables; the witness.
-/
import Derived.Test.YtkjocmenpccooaaGreatDoorRows
import Derived.Test.YtkjocmenpccooaaGreatDoorTie
import Derived.Test.YtkjocmenpccooaaGreatDoorHqW
import Derived.ProofKit
import Derived.OpenShut
import Derived.LaidMore
import Derived.Lay
import Derived.SevenTiedAt
import Derived.Stop.Joined
import Derived.Stop.LaidErr
import Derived.Lib.SmallJoins
namespace Go.Proofs.YtkjocmenpccooaaGreatDoor
open Go.ChangeShapes Go.WideShapes Go.ChangeAt Go.RowKit Go.Joins

theorem seatOwn : ownKnob Tryz.prog.godebug = none := by kernel_rfl
theorem laidOut : laidOutB Tryz.prog = true := by kernel_rfl
theorem cells24 : Tryz.prog.cellsOf 24 = 2 := by kernel_rfl
theorem cells39 : Tryz.prog.cellsOf 39 = 1 := by kernel_rfl
/-- The tables that every row lists. -/
noncomputable def tabs : List (String × DataW Unit) := Rows.arithRingRow.laid
theorem tabs_met (os : Os) (args : Array Value) : laidMetH Tryz.prog tabs ((World.laidAll Tryz.prog os tabs).forCall (fun _ _ => 0) ⟨#[], args, []⟩).memory := by
  rw [MakeChecks.laidMetH_plain _ _ _ (by kernel_rfl)]
  exact laidMet_laidAll _ (by kernel_rfl) (by kernel_rfl)
theorem tabs_shaped (os : Os) : (World.laidAll Tryz.prog os tabs).Shaped Tryz.prog := World.shaped_of_ZipB (by kernel_rfl) (by kernel_rfl)
theorem pow_of_laid {W : World} (h : laidMetH Tryz.prog tabs W) : PowTab W := by
  rw [MakeChecks.laidMetH_plain _ _ _ (by kernel_rfl)] at h
  have h2 : laidMet Tryz.prog (("internal/strconv.uint64pow10", Lib.tabData .u64 Lib.pow10Tab) :: [("unicode/utf8.acceptRanges", Rows.laid_unicode_utf8_acceptRanges), ("unicode/utf8.first", Rows.laid_unicode_utf8_first)]) W := h.tail.tail
  exact Lib.tabIs_of_head (g := (Tryz.prog.globalNamed "internal/strconv.uint64pow10").getD 0) (by kernel_rfl) (t := ((Tryz.prog.globals[(Tryz.prog.globalNamed "internal/strconv.uint64pow10").getD 0]?).map (·.type)).getD 0) (by kernel_rfl) (n := 20) (e := 47) (by kernel_rfl) Tryz.underlying47 (by kernel_rfl) (by kernel_rfl) h2

section
variable {H : Type} {enc : TypeId × Value → H} {w : World} {spare : Nat → Bool} {held : Bool}
/-- A number that came in. -/
structure NumCame (w : World) (v : Value) (neg : Bool) (A : Option Addr) (n c : Nat) : Prop where
  e : v = numArg neg A n c
  mx : n ≤ maxLen
  lim : n ≤ 100000 → ∃ l, LimbsAt w A n c l
theorem limbs_of_ints {a : Addr} {len cap : Nat} {zs : List Int} (hl : len ≤ cap) (hlen : len ≤ zs.length) (hc : ∀ i, i < zs.length → w.cell? (a.add i) = some (.int .u32 (zs.getD i 0))) (hw : ∀ n ∈ zs, (Lit.int .u32 n).wf = true) (hm : len ≤ 100000) :
    ∃ l, LimbsAt w (some a) len cap l := by
  have wf : ∀ z ∈ zs, 0 ≤ z ∧ z ≤ 4294967295 := by
    intro z hz
    have := hw z hz
    simp [Lit.wf, IntKind.min, IntKind.max, IntKind.signed, IntKind.bits] at this
    omega
  refine ⟨(zs.take len).map Int.toNat, ⟨by simp; omega, fun j hj => ?_⟩, ?_, hl, hm⟩
  · obtain ⟨b, off, rfl, hcell⟩ := ints_at hc (by omega)
    have h1 := hcell j (by omega)
    refine ⟨b, off, rfl, World.block_lt_of_cell? w _ h1, ?_⟩
    rw [h1]
    have hj2 : j < zs.length := by omega
    have := wf (zs[j]) (List.getElem_mem hj2)
    have e1 : zs.getD j 0 = zs[j] := by simp [List.getD_eq_getElem?_getD, List.getElem?_eq_getElem hj2]
    have e2 : ((zs.take len).map Int.toNat).getD j 0 = (zs[j]).toNat := by
      rw [List.getD_eq_getElem?_getD, List.getElem?_map, List.getElem?_take, if_pos hj, List.getElem?_eq_getElem hj2]
      rfl
    rw [e1, e2]
    congr 2
    omega
  · intro x hx
    obtain ⟨z, hz, rfl⟩ := List.mem_map.1 hx
    have := wf z (List.mem_of_mem_take hz)
    unfold BB
    omega
set_option maxRecDepth 100000 in
theorem open_num {r : Reach} {b0 : Nat} {v : Value} {d : DataW H} {p : List MemPlace} (hv : Value.okWide Tryz.prog w r b0 24 v) (h : DataW.Trod enc Tryz.prog w 0 spare held 24 v d p) :
    ∃ (neg : Bool) (A : Option Addr) (n c : Nat), NumCame w v neg A n c := by
  obtain ⟨c0, c1, y0, y1, m, rfl, rfl, rfl, hy0, hy1⟩ := open_agg2 Tryz.underlying24 (by kernel_rfl) cells24 hv h
  obtain ⟨b, e0, _⟩ := DataW.trod_bool Tryz.underlying4 hy0
  simp only [List.cons.injEq, and_true] at e0
  subst e0
  rcases open_ints Tryz.underlying22 Tryz.underlying39 cells39 hy1 with ⟨e1, _⟩ | ⟨a, len, cap, zs, e1, _, hl, hm, hz, _, hc, hw⟩
  · simp only [List.cons.injEq, and_true] at e1
    subst e1
    exact ⟨b, none, 0, 0, rfl, by unfold maxLen; omega, fun _ => ⟨[], none_limbs w⟩⟩
  · simp only [List.cons.injEq, and_true] at e1
    subst e1
    refine ⟨b, some a, len, cap, rfl, by omega, fun h5 => limbs_of_ints hl (by rw [hz]; split <;> omega) hc hw h5⟩
end
end Go.Proofs.YtkjocmenpccooaaGreatDoor
