/-
  A text as a thing of the heap: String.
-/
import Derived.Test.YtkjocmenpccooaaGreatDoorHpI
import Derived.Laws.RangeString
import Derived.Lib.OthersKept
namespace Go.Proofs.YtkjocmenpccooaaGreatDoor
open Go.RowKit

theorem Keep.iterAt {S : Nat → Prop} {w wr : World} (h : Keep S w wr) {k : Nat} (hk : w.heap.size ≤ k) (s : ByteArray) (pos : Nat) : Keep S w (wr.iterAt k s pos) :=
  ⟨h.os, h.tape, h.output, by rw [Lib.iterAt_size]; exact h.size, fun i hi hn => by rw [Lib.iterAt_other _ _ _ _ _ (by omega)]; exact h.block i hi hn⟩
theorem iterAt_self (w : World) (k : Nat) (s : ByteArray) (pos : Nat) : Keep (fun b => b = k) w (w.iterAt k s pos) :=
  ⟨rfl, rfl, rfl, by rw [Lib.iterAt_size]; exact Nat.le_refl _, fun i _ hn => Lib.iterAt_other _ _ _ _ _ hn⟩
theorem OwnR.notIter {e : TypeId} {q : IntKind} {w : World} {base n c : Nat} {A : Option Addr} {l : List Nat} (h : OwnR e q w base A n c l) {k : Nat} {s : ByteArray} {pos : Nat} (hk : w.heap[k]? = some (.stringIter s pos)) : ∀ b off, A = some ⟨b, off, none⟩ → b ≠ k := by
  rintro b off rfl rfl
  rcases h.2 with ⟨hv, _⟩ | ⟨g, cap, cur2, hv, _, hh, _⟩
  · cases hv
  · injection hv with e1 _ _
    injection e1 with e1
    injection e1 with e1
    subst e1
    rw [hk] at hh
    cases hh
/-- A text's bytes, as numbers. -/
def bytesN (t : ByteArray) : List Nat := t.data.toList.map UInt8.toNat
theorem bytesN_len (t : ByteArray) : (bytesN t).length = t.size := by
  unfold bytesN
  rw [List.length_map]
  rfl
theorem bytesN_get (t : ByteArray) (i : Nat) (h : i < t.size) : (bytesN t)[i]'(by rw [bytesN_len]; exact h) = (t[i]'h).toNat := by
  unfold bytesN
  rw [List.getElem_map]
  rfl
/-- ASCII. -/
def Asc (t : ByteArray) : Prop := ∀ x ∈ bytesN t, x < 128
/-- A word stands for a text. -/
def StrH (t : ByteArray) (M : MemV) (u : Nat) : Prop := ∃ a, a < 65536 ∧ u = a * 8 + 3 ∧ At M 3 a (headW 2 t.size 0 :: bytesN t)
theorem StrH.ext {t : ByteArray} {M M' : MemV} {u : Nat} (h : StrH t M u) (k : Ext M M') : StrH t M' u := by
  obtain ⟨a, h1, h2, h3⟩ := h
  exact ⟨a, h1, h2, k.2 _ _ _ h3⟩
def StrLaid (h c s p g : Nat) (S : SpV) (t : ByteArray) (w : World) (e : Ending) (w' : World) : Prop :=
  if t.size ≤ 62 then LaidPost h c s p g S (StrH t) w e w' else e = .returned (.tuple #[.int .u64 0, .int .i64 6]) ∧ Keep (fun _ => False) w w'
/-- While the text is read. -/
structure SrSt (w : World) (t : ByteArray) (B pos : Nat) (A : Option Addr) (c : Nat) (wr : World) : Prop where
  it : wr.heap[B]? = some (.stringIter t pos)
  own : OwnR 48 .u64 wr w.heap.size A pos c ((bytesN t).take pos)
  K : Keep (fun _ => False) w wr
set_option maxRecDepth 100000 in
set_option maxHeartbeats 8000000 in
theorem string_any {w : World} {h c s p g : Nat} {S : SpV} (H : HpAt w h c s p g S) (t : ByteArray) (ha : Asc t) (h1 : 1 ≤ t.size) (hm : t.size ≤ 1000) (hf : 0 < S.M.free) (hc : S.M.count < 1000) :
    Calls Tryz.prog 28 #[.pointer (some ⟨h, 0, none⟩), .string t] w (StrLaid h c s p g S t w) := by
  obtain ⟨i48, h48, u0, u1, u2⟩ := info_parts info48
  have HH := Lib.hid H
  have HA := Lib.hid ha
  have HF := Lib.hid hf
  have HC := Lib.hid hc
  have HST := Lib.hid (show SrSt w t w.heap.size 0 none 0 (w.iter t 0) from ⟨World.iter_heap w t 0, OwnR.nil _ _ _ _, (Keep.refl _ _).alloc _⟩)
  clear H ha hf hc
  go_enter Tryz.func28, Tryz.ntmps28
  go_wp2_with fail
  obtain ⟨B, hB⟩ : ∃ B, B = w.heap.size := ⟨_, rfl⟩
  rw [← hB] at HST ⊢
  have HBB := Lib.hid hB
  clear hB
  generalize w.iter t 0 = w1 at HST ⊢
  go_loopw [6] (fun lv wr => ∃ (pos c' : Nat) (A' : Option Addr), pos ≤ t.size ∧ pos ≤ 62 ∧ lv = .slice A' pos c' ∧ SrSt w t B pos A' c' wr) (fun _ wr => t.size - wr.iterPos B)
  case atStart => exact ⟨0, 0, none, Nat.zero_le _, Nat.zero_le _, rfl, HST.out⟩
  case round =>
    obtain ⟨pos, c', A', hp1, hp2, rfl, hst⟩ := hrel
    have HS := Lib.hid hst
    have HIT := Lib.hid hst.it
    by_cases hp : pos < t.size
    · obtain ⟨u, hu⟩ : ∃ u, u = (t[pos]'hp).toNat := ⟨_, rfl⟩
      have hub : u < 128 := by
        rw [hu, ← bytesN_get t pos hp]
        exact HA.out _ (List.getElem_mem _)
      have hnx : ∀ ty, (Instr.next (.pointer (some ⟨B, 0, none⟩)) true ty).run Tryz.prog wr = .ok (.tuple #[.bool true, .int .i64 pos, .int .i32 (u : Int)]) (wr.iterAt B t (pos + 1)) := fun ty => by
        have := Lib.run_next_ascii_at (P := Tryz.prog) wr B t pos ty hst.it hp (by rw [← hu]; exact hub)
        rw [← hu] at this
        exact this
      have HO := Lib.hid (HS.out.own.keep (iterAt_self wr B t (pos + 1)) (fun b off e => HS.out.own.notIter HS.out.it b off e))
      have HI2 := Lib.hid (Lib.iterAt_heap wr B t pos (pos + 1) hst.it)
      have HK2 := Lib.hid (hst.K.iterAt (k := B) (by rw [HBB.out]; exact Nat.le_refl _) t (pos + 1))
      have HMS := Lib.hid (show t.size - (pos + 1) < t.size - pos from by omega)
      have HU := Lib.hid (show (bytesN t).take (pos + 1) = (bytesN t).take pos ++ [u] from by
        have hl : pos < (bytesN t).length := by rw [bytesN_len]; exact hp
        rw [List.take_succ_eq_append_getElem hl, bytesN_get t pos hp, hu])
      have s1 : IntKind.u64.wrap (u : Int) = (u : Int) := IntWalk.u64_in _ (by omega)
      generalize wr.iterAt B t (pos + 1) = wi at *
      have HOK := Lib.hid (ho1 HO.out (u := u))
      clear hst hu
      go_wp2_with (at_builtin; refine wpList_append_own _ rfl (.tmp 14) (.tmp 17) 46 rfl w.heap.size 48 i48 (.int .u64 0) 1 8 Tryz.underlying46 h48 u0 u1 u2 rfl (by decide) _ _ _ rfl HOK.out ⟨wi.heap.size, 0, none⟩ 1 1 [.int .u64 u] rfl rfl (one_new wi 48 _) ?a1 ?a2 ?a3 ?a4 ?_)
      case a1 =>
        intro y hy
        simp only [List.mem_cons, List.not_mem_nil, or_false] at hy
        subst hy
        rfl
      case a2 => unfold maxLen; omega
      case a3 => omega
      case a4 => have := HK2.out.size; simp; omega
      intro v' w5 hown hgrow _
      have K5 : Keep (fun _ => False) w w5 := (HK2.out.alloc (.cells #[.int .u64 (u : Int)] 48)).grown hgrow (fun k hk => .inr (World.ownsRow.lt HO.out k hk).1)
      have hown2 : w5.ownsRow w.heap.size 48 1 v' (pos + 1) (((bytesN t).take (pos + 1)).map fun x : Nat => Value.int .u64 (x : Int)) := by
        rw [HU.out, List.map_append, List.map_take]
        exact hown
      have hit5 : w5.heap[B]? = some (.stringIter t (pos + 1)) := by
        have kg : Keep (fun k => Value.ownBlock (.slice A' pos c') = some k) wi w5 := ((Keep.refl _ _).alloc (.cells #[.int .u64 (u : Int)] 48)).grown hgrow (fun k hk => .inl hk)
        refine kg.heap HI2.out (fun hk => ?_)
        cases A' with
        | none => cases hk
        | some ad =>
          obtain ⟨bb, off, hAe⟩ : ∃ bb off, (some ad : Option Addr) = some ⟨bb, off, none⟩ := by
            rcases HO.out.2 with ⟨hv, _⟩ | ⟨g, cap, cur2, hv, _⟩
            · cases hv
            · injection hv with e1
              exact ⟨_, _, e1⟩
          rw [hAe] at hk
          injection hk with hk
          exact HO.out.notIter HI2.out bb off hAe hk
      obtain ⟨A5, c5, rfl, own⟩ := own_slice hown2
      have HST5 := Lib.hid (show SrSt w t B (pos + 1) A5 c5 w5 from ⟨hit5, own, K5⟩)
      clear hown hgrow hown2 own K5 hit5 s1 hnx
      by_cases h62 : pos + 1 ≤ 62
      · have l1 : decide ((62 : Int) < (pos : Int) + 1) = false := decide_eq_false (by omega)
        have l2 : decide (62 < pos + 1) = false := decide_eq_false (by omega)
        have l3 : decide (62 ≤ pos) = false := decide_eq_false (by omega)
        have HH62 := Lib.hid h62
        have HPP := Lib.hid hp
        go_wp2_with fail
        go_roundw
        case rel => exact ⟨pos + 1, c5, A5, hp, HH62.out, by go_num, HST5.out⟩
        case measure =>
          have h1 := HMS.out
          have h2 := HIT.out
          have h3 := HST5.out.it
          simp only [World.iterPos, h3, h2]
          exact h1
      · have l1 : decide ((62 : Int) < (pos : Int) + 1) = true := decide_eq_true (by omega)
        have l2 : decide (62 < pos + 1) = true := decide_eq_true (by omega)
        have l3 : decide (62 ≤ pos) = true := decide_eq_true (by omega)
        have HN := Lib.hid (show ¬ t.size ≤ 62 from by omega)
        go_wp2_with fail
        go_ret2
        unfold StrLaid
        rw [if_neg HN.out]
        exact ⟨rfl, HST5.out.K⟩
    · have hie : pos = t.size := by omega
      subst hie
      have hnx : ∀ ty, (Instr.next (.pointer (some ⟨B, 0, none⟩)) true ty).run Tryz.prog wr = .ok (.tuple #[.bool false]) wr := fun ty => Lib.run_next_end_at (P := Tryz.prog) wr B t _ ty hst.it hp
      have hown := HS.out.own
      rw [show (bytesN t).take t.size = bytesN t from by rw [← bytesN_len]; exact List.take_length] at hown
      obtain ⟨bb, off, hAe, _, _⟩ := hown.row.2 0 (by omega)
      subst hAe
      have HMK := Lib.hid (make_any (HH.out.keep0 HS.out.K) 2 0 (.inl rfl) (by decide) ⟨bb, off, none⟩ t.size c' (bytesN t) hown.row ⟨h1, hp2⟩ (fun j hj => by
        have := HA.out _ (List.getElem_mem hj)
        omega) HF.out HC.out)
      have HP2 := Lib.hid hp2
      clear hown hst hp2
      go_wp2_with fail
      refine HMK.out.mono ?_
      rintro e w6 ⟨S', a, rfl, h3, k3, at3, ext, fr, ct, al⟩
      go_wp2_with fail
      go_ret2
      unfold StrLaid
      rw [if_pos HP2.out]
      exact ⟨S', _, rfl, h3, (HS.out.K.mono (fun _ _ h => h.elim)).trans k3, ⟨a, al, rfl, at3⟩, ext, fr, ct⟩
end Go.Proofs.YtkjocmenpccooaaGreatDoor
