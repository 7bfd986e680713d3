/-
  The shower's pairs: the walk.  (Printed by gen_spair.py.)
  The shower's datum; Write and Display.  (Printed by gen_sdat.py.)
  The shower's Datum, of any datum that may be written.
-/
import Derived.Test.YtonnikipeokkaaaGreatDoorSwD
import Derived.Test.YtonnikipeokkaaaGreatDoorSwV
import Derived.Test.YtonnikipeokkaaaGreatDoorPaBack
namespace Go.Proofs.YtonnikipeokkaaaGreatDoor
open Go.RowKit Go.Lib

/-- A method that shows a datum, at a datum. -/
def ShowC (fn : Nat) (x : Raw) : Prop := ∀ (base : Nat) (W : World) (b : Nat) (pl : Bool) (l : List UInt8) (g : Option Nat) (p : PV), EnvS base W b pl l g → RawAt (Off b g) (Off b g) W x p → l.length + (showR pl x).length ≤ 1000000000000 →
  Calls Tryz.prog fn #[.pointer (some ⟨b, 0, none⟩), rawV x p] W (WrP W b pl (l ++ showR pl x) g)
theorem PSw.off2 {base : Nat} {w : World} {b : Nat} {pl : Bool} {T : List UInt8} {g : Option Nat} {B0 : Nat} {x : Raw} {p : PV} {acc pend : List UInt8} {g' : Option Nat} {wr : World} (_h : PSw base w b pl T g B0 x p acc pend g' wr) {y : Raw} {v : PV} (D : RawAt (fun y => y < B0 ∧ Off b g' y) (fun y => y < B0 ∧ Off b g' y) wr y v) : RawAt (Off b g') (Off b g') wr y v := D.mono (fun _ _ h => h.2) (fun _ _ h => h.2)
theorem list_next {items : List Raw} {tail : Raw} {i : Nat} (h : i < items.length) : listR (items.drop i) tail = pairR items[i] (listR (items.drop (i + 1)) tail) := by
  rw [List.drop_eq_getElem_cons h]; rfl
/-- What is to come, by what stands ahead of an item. -/
def Sep (pl : Bool) (items : List Raw) (tail : Raw) (i : Nat) (s : ByteArray) (pend : List UInt8) : Prop :=
  (i = 0 ∧ s = ⟨#[]⟩ ∧ 32 :: pend = restR pl (listR items tail)) ∨ (0 < i ∧ s = ⟨#[32]⟩ ∧ pend = restR pl (listR (items.drop i) tail))
theorem Sep.item {pl : Bool} {items : List Raw} {tail : Raw} {i : Nat} {s : ByteArray} {pend : List UInt8} (h : Sep pl items tail i s pend) (hi : i < items.length) : pend = s.data.toList ++ (showR pl items[i] ++ restR pl (listR (items.drop (i + 1)) tail)) := by
  rcases h with ⟨rfl, rfl, e⟩ | ⟨_, rfl, e⟩
  · have h2 := list_next (items := items) (tail := tail) hi
    rw [List.drop_zero] at h2
    rw [h2, rest_pair (r := pairR items[0] (listR (items.drop (0 + 1)) tail)) pl (a := items[0]) (d := listR (items.drop (0 + 1)) tail) rfl rfl] at e
    injection e with _ e
  · rw [e, list_next hi, rest_pair (r := pairR items[i] (listR (items.drop (i + 1)) tail)) pl (a := items[i]) (d := listR (items.drop (i + 1)) tail) rfl rfl]
    rfl
theorem Sep.next {pl : Bool} {items : List Raw} {tail : Raw} {i : Nat} : Sep pl items tail (i + 1) ⟨#[32]⟩ (restR pl (listR (items.drop (i + 1)) tail)) := .inr ⟨by omega, rfl, rfl⟩
/-- The items of a pair. -/
theorem pair_items2 {N Q : Nat → Prop} {w : World} {x d : Raw} {p : PV} (h : RawAt N Q w (pairR x d) p) : ∃ bb off v0 v1, p.B = some ⟨bb, off, .none⟩ ∧ p.m = 2 ∧ Q bb ∧ ItemC w bb off 0 x v0 ∧ RawAt N Q w x v0 ∧ ItemC w bb off 1 d v1 ∧ RawAt N Q w d v1 := by
  have hm : p.m = 2 := h.len.symm
  cases h with
  | mk num nP len mcap big vs row ch =>
    obtain ⟨bb, off, e, hq, hi⟩ := row (by omega)
    exact ⟨bb, off, vs 0, vs 1, e, hm, hq, hi 0 (by show 0 < 2; omega), ch 0 (by show 0 < 2; omega), hi 1 (by show 1 < 2; omega), ch 1 (by show 1 < 2; omega)⟩
set_option maxRecDepth 100000 in
set_option maxHeartbeats 16000000 in
theorem pairs_any (items : List Raw) (tail : Raw) (ht : tail.k ≠ 7) (h0 : items ≠ []) (HI : ∀ i (h : i < items.length), ShowC 78 items[i]) (HT : tail.k ≠ 0 → ShowC 78 tail) : ShowC 114 (listR items tail) := by
  intro base W b pl l g p E D hlen
  obtain ⟨TT, hTT⟩ : ∃ TT, TT = l ++ showR pl (listR items tail) := ⟨_, rfl⟩
  rw [← hTT]
  have h00 : 0 < items.length := List.length_pos_iff.2 h0
  obtain ⟨pend0, hp0, hs0⟩ : ∃ pend, TT = l ++ ([40] ++ pend) ∧ Sep pl items tail 0 ⟨#[]⟩ pend := by
    have h2 := list_next (items := items) (tail := tail) h00
    rw [List.drop_zero] at h2
    refine ⟨showR pl items[0] ++ restR pl (listR (items.drop (0 + 1)) tail), ?_, .inl ⟨rfl, rfl, ?_⟩⟩
    · rw [hTT, h2, show_pair (r := pairR items[0] (listR (items.drop (0 + 1)) tail)) pl (a := items[0]) (d := listR (items.drop (0 + 1)) tail) rfl rfl]
      rfl
    · rw [h2, rest_pair (r := pairR items[0] (listR (items.drop (0 + 1)) tail)) pl (a := items[0]) (d := listR (items.drop (0 + 1)) tail) rfl rfl]
  have hTl : TT.length ≤ 1000000000000 := by rw [hTT, List.length_append]; exact hlen
  have HTL := Lib.hid hTl
  have HS := Lib.hid (fun (W : World) (m : List UInt8) (g' : Option Nat) (h : ShAt W b pl m g') (hm : m.length ≤ 100000000000000) (s : ByteArray) (hs : s.size ≤ 1000) => sh_lit h s (by omega) hm)
  have HY40 := Lib.hid (fun (W : World) (m : List UInt8) (g' : Option Nat) (h : ShAt W b pl m g') (hm : m.length ≤ 100000000000000) => (show Calls Tryz.prog 113 #[.pointer (some ⟨b, 0, none⟩), .int .u8 40] W (fun e w' => e = .returned .nilIface ∧ Wrote W b pl (m ++ [40]) g' w') from sh_byte W b pl m g' 40 h (by omega)))
  have HY41 := Lib.hid (fun (W : World) (m : List UInt8) (g' : Option Nat) (h : ShAt W b pl m g') (hm : m.length ≤ 100000000000000) => (show Calls Tryz.prog 113 #[.pointer (some ⟨b, 0, none⟩), .int .u8 41] W (fun e w' => e = .returned .nilIface ∧ Wrote W b pl (m ++ [41]) g' w') from sh_byte W b pl m g' 41 h (by omega)))
  obtain ⟨r, hr⟩ : ∃ r, r = listR items tail := ⟨_, rfl⟩
  rw [← hr] at D ⊢
  have HP := Lib.hid (PSw.start E D hp0.symm)
  have HR := Lib.hid hr
  have HII := Lib.hid HI
  have HTT := Lib.hid HT
  have HT7 := Lib.hid ht
  have H0 := Lib.hid h00
  have HS0 := Lib.hid hs0
  clear HI HT ht h0 h00 hs0 hp0 hTT hTl hlen E D hr
  go_enter Tryz.func114, Tryz.ntmps114
  go_wp2_with fail
  generalize W.alloc (.cells (rawC r p) 27) = w1 at *
  generalize W.heap.size = B0 at *
  refine (HY40.out _ _ _ HP.out.env.sh (by have := HP.out.len; have := HTL.out; omega)).mono ?_
  rintro e w2 ⟨rfl, hw⟩
  obtain ⟨g2, hp2⟩ := HP.out.wrote hw
  have HP2 := Lib.hid hp2
  clear hw hp2 HP
  try dsimp only
  go_wp2_with fail
  go_loopg [4] items.length (fun k sv wr => ∃ (i : Nat) (p' : PV) (s : ByteArray) (acc pend : List UInt8) (g' : Option Nat), i + k = items.length ∧ sv = .string s ∧ PSw base W b pl TT g B0 (listR (items.drop i) tail) p' acc pend g' wr ∧ Sep pl items tail i s pend)
  case atStart => exact ⟨0, p, ⟨#[]⟩, l ++ [40], pend0, g2, by omega, rfl, by rw [List.drop_zero, ← HR.out]; exact HP2.out, HS0.out⟩
  case round =>
    obtain ⟨i, p', s, acc, pend, g', hk, rfl, hp, hsep⟩ := hrel
    have HK := Lib.hid hk
    have HSEP := Lib.hid hsep
    have HP := Lib.hid hp
    have hss : s.size ≤ 1000 := by
      rcases hsep with ⟨_, rfl, _⟩ | ⟨_, rfl, _⟩ <;> decide
    have HSS := Lib.hid hss
    by_cases hi : i < items.length
    · have HIT := Lib.hid (hsep.item hi)
      rw [list_next hi] at HP
      have HLT := Lib.hid hi
      obtain ⟨x, hx⟩ : ∃ x, x = items[i]'hi := ⟨_, rfl⟩
      obtain ⟨d, hd⟩ : ∃ d, d = listR (items.drop (i + 1)) tail := ⟨_, rfl⟩
      have HX : Hid (ShowC 78 x) := Lib.hid (by rw [hx]; exact HII.out i hi)
      rw [← hx, ← hd] at HIT HP
      rw [HIT.out] at HP
      have HDD := Lib.hid hd
      obtain ⟨bb, off, _, _, hB, hm, _⟩ := pair_items2 HP.out.dat
      have hbox : wr.heap[B0]? = some (.cells #[.int .i64 7, .int .i32 0, .bool false, .slice p'.A p'.n p'.cp, .string ⟨#[]⟩, .slice (some ⟨bb, off, none⟩) 2 p'.cap] 27 (0, 0)) := by rw [← hB, ← hm]; exact HP.out.box
      obtain ⟨⟨a0, a1, a2, a3, a4, a5⟩, _⟩ := six_cells hbox
      clear hk hsep hp hss hi hx hd HSEP hB hm hbox HIT
      go_wp2_with fail
      refine (HS.out _ _ _ HP.out.env.sh (by have := HP.out.len; have := HTL.out; omega) s HSS.out).mono ?_
      rintro e w3 ⟨⟨k3, rfl⟩, hw⟩
      obtain ⟨g3, hp3⟩ := HP.out.wrote hw
      have HP3 := Lib.hid hp3
      clear hw hp3 a0 a1 a2 a3 a4 a5
      obtain ⟨bb3, off3, v0, _, hB, hm, _, hi0, hd0, _⟩ := pair_items2 HP3.out.dat
      have hbox : w3.heap[B0]? = some (.cells #[.int .i64 7, .int .i32 0, .bool false, .slice p'.A p'.n p'.cp, .string ⟨#[]⟩, .slice (some ⟨bb3, off3, none⟩) 2 p'.cap] 27 (0, 0)) := by rw [← hB, ← hm]; exact HP3.out.box
      obtain ⟨⟨a0, a1, a2, a3, a4, a5⟩, _⟩ := six_cells hbox
      obtain ⟨c0, c1, c2, c3, c4, c5⟩ := hi0.cells
      simp only [Nat.zero_mul, Nat.add_zero] at c0 c1 c2 c3 c4 c5
      have HD0 := Lib.hid (HP3.out.off2 hd0)
      clear hB hm hi0 hd0 hbox
      try dsimp only
      go_wp2_with fail
      refine (HX.out base w3 b pl _ g3 v0 HP3.out.env HD0.out (by have h1 := HP3.out.len; have := HTL.out; rw [@List.length_append _ (showR pl _)] at h1; omega)).mono ?_
      rintro e w4 ⟨rfl, hw⟩
      obtain ⟨g4, hp4⟩ := HP3.out.wrote hw
      have HP4 := Lib.hid hp4
      clear hw hp4 a0 a1 a2 a3 a4 a5 c0 c1 c2 c3 c4 c5
      obtain ⟨bb4, off4, _, v1, hB, hm, _, _, _, hi1, hd1⟩ := pair_items2 HP4.out.dat
      have hbox : w4.heap[B0]? = some (.cells #[.int .i64 7, .int .i32 0, .bool false, .slice p'.A p'.n p'.cp, .string ⟨#[]⟩, .slice (some ⟨bb4, off4, none⟩) 2 p'.cap] 27 (0, 0)) := by rw [← hB, ← hm]; exact HP4.out.box
      obtain ⟨⟨a0, a1, a2, a3, a4, a5⟩, f0, f1, f2, f3, f4, f5⟩ := six_cells hbox
      obtain ⟨c0, c1, c2, c3, c4, c5⟩ := hi1.cells
      simp only [Nat.one_mul] at c0 c1 c2 c3 c4 c5
      have HP5 := Lib.hid (HP4.out.put hd1)
      clear hB hm hi1 hd1 hbox
      try dsimp only
      go_wp2_with fail
      go_roundg (gk - 1)
      case rel => exact ⟨i + 1, v1, ⟨#[32]⟩, _, _, g4, by have := HK.out; have := HLT.out; omega, rfl, by rw [← HDD.out]; exact HP5.out, by rw [HDD.out]; exact Sep.next⟩
      case measure => have := HK.out; have := HLT.out; omega
    · have hie : i = items.length := by omega
      have hl : listR (items.drop i) tail = tail := by rw [hie, List.drop_length]; rfl
      rw [hl] at HP
      have hpe : pend = restR pl tail := by
        rcases hsep with ⟨e, _⟩ | ⟨_, _, e⟩
        · have := H0.out; omega
        · rw [e, hl]
      have hbox : wr.heap[B0]? = some (.cells #[.int .i64 tail.k, .int .i32 tail.c, .bool tail.neg, .slice p'.A p'.n p'.cp, .string tail.t, .slice p'.B p'.m p'.cap] 27 (0, 0)) := HP.out.box
      obtain ⟨⟨a0, a1, a2, a3, a4, a5⟩, _⟩ := six_cells hbox
      have t7 : (tail.k == 7) = false := beq_eq_false_iff_ne.2 HT7.out
      clear hk hsep hp hss hie hl hbox hi HSEP
      by_cases h0 : tail.k = 0
      · have t0 : (tail.k == 0) = true := beq_iff_eq.2 h0
        have HPE := Lib.hid (hpe.trans (rest_nil pl h0))
        clear hpe h0
        rw [HPE.out] at HP
        try dsimp only
        go_wp2_with fail
        refine (HY41.out _ _ _ HP.out.env.sh (by have := HP.out.len; have := HTL.out; omega)).mono ?_
        rintro e w3 ⟨rfl, hw⟩
        obtain ⟨g3, hp3⟩ := PSw.wrote (s := [41]) (pend := []) HP.out hw
        have HP3 := Lib.hid hp3
        clear hw hp3
        try dsimp only
        go_wp2_with fail
        go_end0
        exact ⟨rfl, HP3.out.done⟩
      · have t0 : (tail.k == 0) = false := beq_eq_false_iff_ne.2 h0
        have HPE := Lib.hid (hpe.trans (rest_dot pl HT7.out h0))
        have HX := Lib.hid (HTT.out h0)
        clear hpe h0
        rw [HPE.out, show (32 :: 46 :: 32 :: (showR pl tail ++ [41])) = [32, 46, 32] ++ (showR pl tail ++ [41]) from rfl] at HP
        try dsimp only
        go_wp2_with fail
        refine (HS.out _ _ _ HP.out.env.sh (by have := HP.out.len; have := HTL.out; omega) _ (by decide)).mono ?_
        rintro e w3 ⟨⟨k3, rfl⟩, hw⟩
        obtain ⟨g3, hp3⟩ := PSw.wrote (s := [32, 46, 32]) HP.out hw
        have HP3 := Lib.hid hp3
        clear hw hp3 a0 a1 a2 a3 a4 a5
        have hbox : w3.heap[B0]? = some (.cells #[.int .i64 tail.k, .int .i32 tail.c, .bool tail.neg, .slice p'.A p'.n p'.cp, .string tail.t, .slice p'.B p'.m p'.cap] 27 (0, 0)) := HP3.out.box
        obtain ⟨⟨a0, a1, a2, a3, a4, a5⟩, _⟩ := six_cells hbox
        clear hbox
        try dsimp only
        go_wp2_with fail
        refine (HX.out base w3 b pl _ g3 p' HP3.out.env (HP3.out.off2 HP3.out.dat) (by have h1 := HP3.out.len; have := HTL.out; rw [@List.length_append _ (showR pl _)] at h1; omega)).mono ?_
        rintro e w4 ⟨rfl, hw⟩
        obtain ⟨g4, hp4⟩ := HP3.out.wrote hw
        have HP4 := Lib.hid hp4
        clear hw hp4
        try dsimp only
        go_wp2_with fail
        refine (HY41.out _ _ _ HP4.out.env.sh (by have := HP4.out.len; have := HTL.out; omega)).mono ?_
        rintro e w5 ⟨rfl, hw⟩
        obtain ⟨g5, hp5⟩ := PSw.wrote (s := [41]) (pend := []) HP4.out hw
        have HP5 := Lib.hid hp5
        clear hw hp5
        try dsimp only
        go_wp2_with fail
        go_end0
        exact ⟨rfl, HP5.out.done⟩
end Go.Proofs.YtonnikipeokkaaaGreatDoor

namespace Go.Proofs.YtonnikipeokkaaaGreatDoor
open Go.RowKit Go.Lib

theorem dat_list {N Q : Nat → Prop} {W : World} {x : Raw} {p : PV} (D : RawAt N Q W x p) (hm : 0 < p.m) (h : x.l.length = p.m ∧ p.m ≤ 62) : Calls Tryz.prog 103 #[.slice p.B p.m p.cap] W (CopyPost (listR x.l .nil) W) := by
  cases D with
  | mk num nP len mcap big vs row ch =>
    rw [← h.1]
    refine list_any x.l vs p.B p.cap W (by omega) (fun _ => ?_) ch
    obtain ⟨bb, off, e, _, hi⟩ := row hm
    exact ⟨bb, off, e, hi⟩
set_option maxRecDepth 100000 in
set_option maxHeartbeats 8000000 in
theorem sdat_A0 (pl : Bool) (base : Nat) (W : World) (b : Nat) (l : List UInt8) (g : Option Nat) (x : Raw) (p : PV) (E : EnvS base W b pl l g) (D : RawAt (Off b g) (Off b g) W x p) (tx : List UInt8) (hlen : l.length + tx.length ≤ 1000000000000) (s0 : (x.k == 0) = true) (ht : Hid (tx = [40, 41])) : Calls Tryz.prog 78 #[.pointer (some ⟨b, 0, none⟩), rawV x p] W (WrP W b pl (l ++ tx) g) := by
  have HS := Lib.hid (fun (W : World) (m : List UInt8) (g' : Option Nat) (h : ShAt W b pl m g') (hm : m.length ≤ 100000000000000) (s : ByteArray) (hs : s.size ≤ 1000000000000) => sh_lit h s hs hm)
  have HP := Lib.hid (PSw.start (pend := tx) E D rfl)
  have HL := Lib.hid hlen
  have HTL : Hid ((l ++ tx).length ≤ 1000000000000) := Lib.hid (by rw [List.length_append]; exact hlen)
  clear E hlen D
  obtain ⟨⟨a0, a1, a2, a3, a4, a5⟩, _⟩ := six_cells HP.out.box
  go_enter Tryz.func78, Tryz.ntmps78
  go_wp2_with fail
  generalize W.alloc (.cells (rawC x p) 27) = w1 at *
  generalize W.heap.size = B0 at *
  refine (HS.out _ _ _ HP.out.env.sh (by have h1 := HP.out.len; have := HTL.out; omega) _ (by decide)).mono ?_
  rintro e w3 ⟨⟨k3, rfl⟩, hw⟩
  obtain ⟨gq, hq⟩ := PSw.wrote (s := tx) (pend := []) (by rw [List.append_nil]; exact HP.out) (by rw [ht.out]; exact hw)
  have HQ := Lib.hid hq
  clear hw hq
  try dsimp only
  go_wp2_with fail
  go_end0
  exact ⟨rfl, HQ.out.done⟩
set_option maxRecDepth 100000 in
set_option maxHeartbeats 8000000 in
theorem sdat_A1 (pl : Bool) (base : Nat) (W : World) (b : Nat) (l : List UInt8) (g : Option Nat) (x : Raw) (p : PV) (E : EnvS base W b pl l g) (D : RawAt (Off b g) (Off b g) W x p) (tx : List UInt8) (hlen : l.length + tx.length ≤ 1000000000000) (s0 : (x.k == 0) = false) (s1 : (x.k == 1) = true) (ht : Hid (tx = [35, 116])) : Calls Tryz.prog 78 #[.pointer (some ⟨b, 0, none⟩), rawV x p] W (WrP W b pl (l ++ tx) g) := by
  have HS := Lib.hid (fun (W : World) (m : List UInt8) (g' : Option Nat) (h : ShAt W b pl m g') (hm : m.length ≤ 100000000000000) (s : ByteArray) (hs : s.size ≤ 1000000000000) => sh_lit h s hs hm)
  have HP := Lib.hid (PSw.start (pend := tx) E D rfl)
  have HL := Lib.hid hlen
  have HTL : Hid ((l ++ tx).length ≤ 1000000000000) := Lib.hid (by rw [List.length_append]; exact hlen)
  clear E hlen D
  obtain ⟨⟨a0, a1, a2, a3, a4, a5⟩, _⟩ := six_cells HP.out.box
  go_enter Tryz.func78, Tryz.ntmps78
  go_wp2_with fail
  generalize W.alloc (.cells (rawC x p) 27) = w1 at *
  generalize W.heap.size = B0 at *
  refine (HS.out _ _ _ HP.out.env.sh (by have h1 := HP.out.len; have := HTL.out; omega) _ (by decide)).mono ?_
  rintro e w3 ⟨⟨k3, rfl⟩, hw⟩
  obtain ⟨gq, hq⟩ := PSw.wrote (s := tx) (pend := []) (by rw [List.append_nil]; exact HP.out) (by rw [ht.out]; exact hw)
  have HQ := Lib.hid hq
  clear hw hq
  try dsimp only
  go_wp2_with fail
  go_end0
  exact ⟨rfl, HQ.out.done⟩
set_option maxRecDepth 100000 in
set_option maxHeartbeats 8000000 in
theorem sdat_A2 (pl : Bool) (base : Nat) (W : World) (b : Nat) (l : List UInt8) (g : Option Nat) (x : Raw) (p : PV) (E : EnvS base W b pl l g) (D : RawAt (Off b g) (Off b g) W x p) (tx : List UInt8) (hlen : l.length + tx.length ≤ 1000000000000) (s0 : (x.k == 0) = false) (s1 : (x.k == 1) = false) (s2 : (x.k == 2) = true) (ht : Hid (tx = [35, 102])) : Calls Tryz.prog 78 #[.pointer (some ⟨b, 0, none⟩), rawV x p] W (WrP W b pl (l ++ tx) g) := by
  have HS := Lib.hid (fun (W : World) (m : List UInt8) (g' : Option Nat) (h : ShAt W b pl m g') (hm : m.length ≤ 100000000000000) (s : ByteArray) (hs : s.size ≤ 1000000000000) => sh_lit h s hs hm)
  have HP := Lib.hid (PSw.start (pend := tx) E D rfl)
  have HL := Lib.hid hlen
  have HTL : Hid ((l ++ tx).length ≤ 1000000000000) := Lib.hid (by rw [List.length_append]; exact hlen)
  clear E hlen D
  obtain ⟨⟨a0, a1, a2, a3, a4, a5⟩, _⟩ := six_cells HP.out.box
  go_enter Tryz.func78, Tryz.ntmps78
  go_wp2_with fail
  generalize W.alloc (.cells (rawC x p) 27) = w1 at *
  generalize W.heap.size = B0 at *
  refine (HS.out _ _ _ HP.out.env.sh (by have h1 := HP.out.len; have := HTL.out; omega) _ (by decide)).mono ?_
  rintro e w3 ⟨⟨k3, rfl⟩, hw⟩
  obtain ⟨gq, hq⟩ := PSw.wrote (s := tx) (pend := []) (by rw [List.append_nil]; exact HP.out) (by rw [ht.out]; exact hw)
  have HQ := Lib.hid hq
  clear hw hq
  try dsimp only
  go_wp2_with fail
  go_end0
  exact ⟨rfl, HQ.out.done⟩
set_option maxRecDepth 100000 in
set_option maxHeartbeats 8000000 in
theorem sdat_A9 (pl : Bool) (base : Nat) (W : World) (b : Nat) (l : List UInt8) (g : Option Nat) (x : Raw) (p : PV) (E : EnvS base W b pl l g) (D : RawAt (Off b g) (Off b g) W x p) (tx : List UInt8) (hlen : l.length + tx.length ≤ 1000000000000) (s0 : (x.k == 0) = false) (s1 : (x.k == 1) = false) (s2 : (x.k == 2) = false) (s9 : (x.k == 9) = true) (ht : Hid (tx = [35, 60, 118, 111, 105, 100, 62])) : Calls Tryz.prog 78 #[.pointer (some ⟨b, 0, none⟩), rawV x p] W (WrP W b pl (l ++ tx) g) := by
  have HS := Lib.hid (fun (W : World) (m : List UInt8) (g' : Option Nat) (h : ShAt W b pl m g') (hm : m.length ≤ 100000000000000) (s : ByteArray) (hs : s.size ≤ 1000000000000) => sh_lit h s hs hm)
  have HP := Lib.hid (PSw.start (pend := tx) E D rfl)
  have HL := Lib.hid hlen
  have HTL : Hid ((l ++ tx).length ≤ 1000000000000) := Lib.hid (by rw [List.length_append]; exact hlen)
  clear E hlen D
  obtain ⟨⟨a0, a1, a2, a3, a4, a5⟩, _⟩ := six_cells HP.out.box
  go_enter Tryz.func78, Tryz.ntmps78
  go_wp2_with fail
  generalize W.alloc (.cells (rawC x p) 27) = w1 at *
  generalize W.heap.size = B0 at *
  refine (HS.out _ _ _ HP.out.env.sh (by have h1 := HP.out.len; have := HTL.out; omega) _ (by decide)).mono ?_
  rintro e w3 ⟨⟨k3, rfl⟩, hw⟩
  obtain ⟨gq, hq⟩ := PSw.wrote (s := tx) (pend := []) (by rw [List.append_nil]; exact HP.out) (by rw [ht.out]; exact hw)
  have HQ := Lib.hid hq
  clear hw hq
  try dsimp only
  go_wp2_with fail
  go_end0
  exact ⟨rfl, HQ.out.done⟩
set_option maxRecDepth 100000 in
set_option maxHeartbeats 8000000 in
theorem sdat_A10 (pl : Bool) (base : Nat) (W : World) (b : Nat) (l : List UInt8) (g : Option Nat) (x : Raw) (p : PV) (E : EnvS base W b pl l g) (D : RawAt (Off b g) (Off b g) W x p) (tx : List UInt8) (hlen : l.length + tx.length ≤ 1000000000000) (s0 : (x.k == 0) = false) (s1 : (x.k == 1) = false) (s2 : (x.k == 2) = false) (s9 : (x.k == 9) = false) (s10 : (x.k == 10) = true) (ht : Hid (tx = [35, 60, 101, 111, 102, 62])) : Calls Tryz.prog 78 #[.pointer (some ⟨b, 0, none⟩), rawV x p] W (WrP W b pl (l ++ tx) g) := by
  have HS := Lib.hid (fun (W : World) (m : List UInt8) (g' : Option Nat) (h : ShAt W b pl m g') (hm : m.length ≤ 100000000000000) (s : ByteArray) (hs : s.size ≤ 1000000000000) => sh_lit h s hs hm)
  have HP := Lib.hid (PSw.start (pend := tx) E D rfl)
  have HL := Lib.hid hlen
  have HTL : Hid ((l ++ tx).length ≤ 1000000000000) := Lib.hid (by rw [List.length_append]; exact hlen)
  clear E hlen D
  obtain ⟨⟨a0, a1, a2, a3, a4, a5⟩, _⟩ := six_cells HP.out.box
  go_enter Tryz.func78, Tryz.ntmps78
  go_wp2_with fail
  generalize W.alloc (.cells (rawC x p) 27) = w1 at *
  generalize W.heap.size = B0 at *
  refine (HS.out _ _ _ HP.out.env.sh (by have h1 := HP.out.len; have := HTL.out; omega) _ (by decide)).mono ?_
  rintro e w3 ⟨⟨k3, rfl⟩, hw⟩
  obtain ⟨gq, hq⟩ := PSw.wrote (s := tx) (pend := []) (by rw [List.append_nil]; exact HP.out) (by rw [ht.out]; exact hw)
  have HQ := Lib.hid hq
  clear hw hq
  try dsimp only
  go_wp2_with fail
  go_end0
  exact ⟨rfl, HQ.out.done⟩
set_option maxRecDepth 100000 in
set_option maxHeartbeats 8000000 in
theorem sdat_B3t (base : Nat) (W : World) (b : Nat) (l : List UInt8) (g : Option Nat) (x : Raw) (p : PV) (E : EnvS base W b true l g) (D : RawAt (Off b g) (Off b g) W x p) (tx : List UInt8) (hlen : l.length + tx.length ≤ 1000000000000) (s0 : (x.k == 0) = false) (s1 : (x.k == 1) = false) (s2 : (x.k == 2) = false) (s9 : (x.k == 9) = false) (s10 : (x.k == 10) = false) (s4 : (x.k == 4) = false) (s3 : (x.k == 3) = true) (n : Nat) (hc : Hid (x.c = (n : Int))) (hch : charB n = true) (ht : Hid (tx = utfB n)) : Calls Tryz.prog 78 #[.pointer (some ⟨b, 0, none⟩), rawV x p] W (WrP W b true (l ++ tx) g) := by
  have HS := Lib.hid (fun (W : World) (m : List UInt8) (g' : Option Nat) (h : ShAt W b true m g') (hm : m.length ≤ 100000000000000) (s : ByteArray) (hs : s.size ≤ 1000000000000) => sh_lit h s hs hm)
  have HP := Lib.hid (PSw.start (pend := tx) E D rfl)
  have HL := Lib.hid hlen
  have HTL : Hid ((l ++ tx).length ≤ 1000000000000) := Lib.hid (by rw [List.length_append]; exact hlen)
  clear E hlen D
  obtain ⟨⟨a0, a1, a2, a3, a4, a5⟩, _⟩ := six_cells HP.out.box
  have hpl := HP.out.env.pl
  go_enter Tryz.func78, Tryz.ntmps78
  go_wp2_with fail
  generalize W.alloc (.cells (rawC x p) 27) = w1 at *
  generalize W.heap.size = B0 at *
  have HU := Lib.hid (sh_rune w1.drew b true l g n hch HP.out.env.sh (by have h1 := HP.out.len; have := HTL.out; omega))
  rw [← hc.out] at HU
  go_region_with (go_at_call 109; refine HU.out.mono ?_; rintro e w3 ⟨⟨k3, rfl⟩, hw⟩; obtain ⟨gq, hq⟩ := PSw.wrote (s := tx) (pend := []) (by rw [List.append_nil]; exact HP.out) (by rw [ht.out]; exact hw.undrew); have HQ := Lib.hid hq)
  all_goals (go_wp2_with fail)
  all_goals go_end0
  all_goals exact ⟨rfl, HQ.out.done⟩
set_option maxRecDepth 100000 in
set_option maxHeartbeats 8000000 in
theorem sdat_B3f (base : Nat) (W : World) (b : Nat) (l : List UInt8) (g : Option Nat) (x : Raw) (p : PV) (E : EnvS base W b false l g) (D : RawAt (Off b g) (Off b g) W x p) (tx : List UInt8) (hlen : l.length + tx.length ≤ 1000000000000) (s0 : (x.k == 0) = false) (s1 : (x.k == 1) = false) (s2 : (x.k == 2) = false) (s9 : (x.k == 9) = false) (s10 : (x.k == 10) = false) (s4 : (x.k == 4) = false) (s3 : (x.k == 3) = true) (n : Nat) (hc : Hid (x.c = (n : Int))) (hch : charB n = true) (ht : Hid (tx = 35 :: 92 :: cnameL n)) : Calls Tryz.prog 78 #[.pointer (some ⟨b, 0, none⟩), rawV x p] W (WrP W b false (l ++ tx) g) := by
  have HS := Lib.hid (fun (W : World) (m : List UInt8) (g' : Option Nat) (h : ShAt W b false m g') (hm : m.length ≤ 100000000000000) (s : ByteArray) (hs : s.size ≤ 1000000000000) => sh_lit h s hs hm)
  have HP := Lib.hid (PSw.start (pend := tx) E D rfl)
  have HL := Lib.hid hlen
  have HTL : Hid ((l ++ tx).length ≤ 1000000000000) := Lib.hid (by rw [List.length_append]; exact hlen)
  clear E hlen D
  obtain ⟨⟨a0, a1, a2, a3, a4, a5⟩, _⟩ := six_cells HP.out.box
  have hpl := HP.out.env.pl
  go_enter Tryz.func78, Tryz.ntmps78
  go_wp2_with fail
  generalize W.alloc (.cells (rawC x p) 27) = w1 at *
  generalize W.heap.size = B0 at *
  have HU := Lib.hid (shchar_any n hch w1 b false l g HP.out.env.sh (by have h1 := HP.out.len; have := HTL.out; omega) HP.out.env.ts.now.2.2 (fun h => by
    have := HP.out.env.sb 6 h
    exact HP.out.env.low h))
  rw [← hc.out] at HU
  refine HU.out.mono ?_
  rintro e w3 ⟨rfl, hw⟩
  obtain ⟨gq, hq⟩ := PSw.wrote (s := tx) (pend := []) (by rw [List.append_nil]; exact HP.out) (by rw [ht.out]; exact hw)
  have HQ := Lib.hid hq
  clear hw hq
  try dsimp only
  go_wp2_with fail
  go_end0
  exact ⟨rfl, HQ.out.done⟩
set_option maxRecDepth 100000 in
set_option maxHeartbeats 8000000 in
theorem sdat_C4 (pl : Bool) (base : Nat) (W : World) (b : Nat) (l : List UInt8) (g : Option Nat) (x : Raw) (p : PV) (E : EnvS base W b pl l g) (D : RawAt (Off b g) (Off b g) W x p) (tx : List UInt8) (hlen : l.length + tx.length ≤ 1000000000000) (s0 : (x.k == 0) = false) (s1 : (x.k == 1) = false) (s2 : (x.k == 2) = false) (s9 : (x.k == 9) = false) (s10 : (x.k == 10) = false) (s4 : (x.k == 4) = true) (ht : Hid (tx = itoa (sval x.neg x.mag))) (hm : p.n ≤ 9000) : Calls Tryz.prog 78 #[.pointer (some ⟨b, 0, none⟩), rawV x p] W (WrP W b pl (l ++ tx) g) := by
  have HS := Lib.hid (fun (W : World) (m : List UInt8) (g' : Option Nat) (h : ShAt W b pl m g') (hm : m.length ≤ 100000000000000) (s : ByteArray) (hs : s.size ≤ 1000000000000) => sh_lit h s hs hm)
  have HP := Lib.hid (PSw.start (pend := tx) E D rfl)
  have HL := Lib.hid hlen
  have HTL : Hid ((l ++ tx).length ≤ 1000000000000) := Lib.hid (by rw [List.length_append]; exact hlen)
  clear E hlen D
  obtain ⟨⟨a0, a1, a2, a3, a4, a5⟩, _⟩ := six_cells HP.out.box
  go_enter Tryz.func78, Tryz.ntmps78
  go_wp2_with fail
  generalize W.alloc (.cells (rawC x p) 27) = w1 at *
  generalize W.heap.size = B0 at *
  have HT := Lib.hid (text_any x.neg p.A p.n p.cp x.mag w1.drew (HP.out.dat.num.keep0 (Keep.refl _ _).drew) hm (HP.out.env.ts.now.2.1.keep (Keep.refl _ _).drew))
  rw [← ht.out] at HT
  clear hm
  go_region_with (first
    | (go_at_call 108; refine HT.out.mono ?_; rintro e w3 ⟨rfl, k3⟩; have HP3 := Lib.hid (HP.out.keep0 ((Keep.refl _ _).drew.trans k3)); clear k3)
    | (go_at_call 107; refine (HS.out _ _ _ HP3.out.env.sh (by have h1 := HP3.out.len; have := HTL.out; omega) _ (by rw [size_mk]; have := HL.out; omega)).mono ?_; rintro e w4 ⟨⟨k4, rfl⟩, hw⟩; obtain ⟨gq, hq⟩ := PSw.wrote (s := tx) (pend := []) (by rw [List.append_nil]; exact HP3.out) hw; have HQ := Lib.hid hq))
  all_goals (go_wp2_with fail)
  all_goals go_end0
  all_goals exact ⟨rfl, HQ.out.done⟩
set_option maxRecDepth 100000 in
set_option maxHeartbeats 8000000 in
theorem sdat_D6t (base : Nat) (W : World) (b : Nat) (l : List UInt8) (g : Option Nat) (x : Raw) (p : PV) (E : EnvS base W b true l g) (D : RawAt (Off b g) (Off b g) W x p) (tx : List UInt8) (hlen : l.length + tx.length ≤ 1000000000000) (s0 : (x.k == 0) = false) (s1 : (x.k == 1) = false) (s2 : (x.k == 2) = false) (s9 : (x.k == 9) = false) (s10 : (x.k == 10) = false) (s4 : (x.k == 4) = false) (s3 : (x.k == 3) = false) (s6 : (x.k == 6) = true)  (ht : Hid (tx = x.t.data.toList)) : Calls Tryz.prog 78 #[.pointer (some ⟨b, 0, none⟩), rawV x p] W (WrP W b true (l ++ tx) g) := by
  have HS := Lib.hid (fun (W : World) (m : List UInt8) (g' : Option Nat) (h : ShAt W b true m g') (hm : m.length ≤ 100000000000000) (s : ByteArray) (hs : s.size ≤ 1000000000000) => sh_lit h s hs hm)
  have HP := Lib.hid (PSw.start (pend := tx) E D rfl)
  have HL := Lib.hid hlen
  have HTL : Hid ((l ++ tx).length ≤ 1000000000000) := Lib.hid (by rw [List.length_append]; exact hlen)
  clear E hlen D
  obtain ⟨⟨a0, a1, a2, a3, a4, a5⟩, _⟩ := six_cells HP.out.box
  have hpl := HP.out.env.pl
  go_enter Tryz.func78, Tryz.ntmps78
  go_wp2_with fail
  generalize W.alloc (.cells (rawC x p) 27) = w1 at *
  generalize W.heap.size = B0 at *
  have HTS := Lib.hid (show x.t.size ≤ 1000000000000 from by rw [Lib.size_eq, ← ht.out]; have := HL.out; omega)
  clear HL
  go_region_with (go_at_call 107; refine (HS.out _ _ _ (ShAt.keep0 HP.out.env.sh (Keep.refl _ _).drew) (by have h1 := HP.out.len; have := HTL.out; omega) _ HTS.out).mono ?_; rintro e w3 ⟨⟨k3, rfl⟩, hw⟩; obtain ⟨gq, hq⟩ := PSw.wrote (s := tx) (pend := []) (by rw [List.append_nil]; exact HP.out) (by rw [ht.out]; exact hw.undrew); have HQ := Lib.hid hq)
  all_goals (go_wp2_with fail)
  all_goals go_end0
  all_goals exact ⟨rfl, HQ.out.done⟩
set_option maxRecDepth 100000 in
set_option maxHeartbeats 8000000 in
theorem sdat_D5t (base : Nat) (W : World) (b : Nat) (l : List UInt8) (g : Option Nat) (x : Raw) (p : PV) (E : EnvS base W b true l g) (D : RawAt (Off b g) (Off b g) W x p) (tx : List UInt8) (hlen : l.length + tx.length ≤ 1000000000000) (s0 : (x.k == 0) = false) (s1 : (x.k == 1) = false) (s2 : (x.k == 2) = false) (s9 : (x.k == 9) = false) (s10 : (x.k == 10) = false) (s4 : (x.k == 4) = false) (s3 : (x.k == 3) = false) (s6 : (x.k == 6) = false) (s5 : (x.k == 5) = true)  (ht : Hid (tx = x.t.data.toList)) : Calls Tryz.prog 78 #[.pointer (some ⟨b, 0, none⟩), rawV x p] W (WrP W b true (l ++ tx) g) := by
  have HS := Lib.hid (fun (W : World) (m : List UInt8) (g' : Option Nat) (h : ShAt W b true m g') (hm : m.length ≤ 100000000000000) (s : ByteArray) (hs : s.size ≤ 1000000000000) => sh_lit h s hs hm)
  have HP := Lib.hid (PSw.start (pend := tx) E D rfl)
  have HL := Lib.hid hlen
  have HTL : Hid ((l ++ tx).length ≤ 1000000000000) := Lib.hid (by rw [List.length_append]; exact hlen)
  clear E hlen D
  obtain ⟨⟨a0, a1, a2, a3, a4, a5⟩, _⟩ := six_cells HP.out.box
  have hpl := HP.out.env.pl
  go_enter Tryz.func78, Tryz.ntmps78
  go_wp2_with fail
  generalize W.alloc (.cells (rawC x p) 27) = w1 at *
  generalize W.heap.size = B0 at *
  have HTS := Lib.hid (show x.t.size ≤ 1000000000000 from by rw [Lib.size_eq, ← ht.out]; have := HL.out; omega)
  clear HL
  go_region_with (go_at_call 107; refine (HS.out _ _ _ (ShAt.keep0 HP.out.env.sh (Keep.refl _ _).drew) (by have h1 := HP.out.len; have := HTL.out; omega) _ HTS.out).mono ?_; rintro e w3 ⟨⟨k3, rfl⟩, hw⟩; obtain ⟨gq, hq⟩ := PSw.wrote (s := tx) (pend := []) (by rw [List.append_nil]; exact HP.out) (by rw [ht.out]; exact hw.undrew); have HQ := Lib.hid hq)
  all_goals (go_wp2_with fail)
  all_goals go_end0
  all_goals exact ⟨rfl, HQ.out.done⟩
set_option maxRecDepth 100000 in
set_option maxHeartbeats 8000000 in
theorem sdat_D6b (base : Nat) (W : World) (b : Nat) (l : List UInt8) (g : Option Nat) (x : Raw) (p : PV) (E : EnvS base W b false l g) (D : RawAt (Off b g) (Off b g) W x p) (tx : List UInt8) (hlen : l.length + tx.length ≤ 1000000000000) (s0 : (x.k == 0) = false) (s1 : (x.k == 1) = false) (s2 : (x.k == 2) = false) (s9 : (x.k == 9) = false) (s10 : (x.k == 10) = false) (s4 : (x.k == 4) = false) (s3 : (x.k == 3) = false) (s6 : (x.k == 6) = true) (r : List Nat) (hr : runesL x.t.data.toList = some r) (hb : Hid (bareV x.t.data.toList = true)) (ht : Hid (tx = x.t.data.toList)) : Calls Tryz.prog 78 #[.pointer (some ⟨b, 0, none⟩), rawV x p] W (WrP W b false (l ++ tx) g) := by
  have HS := Lib.hid (fun (W : World) (m : List UInt8) (g' : Option Nat) (h : ShAt W b false m g') (hm : m.length ≤ 100000000000000) (s : ByteArray) (hs : s.size ≤ 1000000000000) => sh_lit h s hs hm)
  have HP := Lib.hid (PSw.start (pend := tx) E D rfl)
  have HL := Lib.hid hlen
  have HTL : Hid ((l ++ tx).length ≤ 1000000000000) := Lib.hid (by rw [List.length_append]; exact hlen)
  clear E hlen D
  obtain ⟨⟨a0, a1, a2, a3, a4, a5⟩, _⟩ := six_cells HP.out.box
  have hpl := HP.out.env.pl
  go_enter Tryz.func78, Tryz.ntmps78
  go_wp2_with fail
  generalize W.alloc (.cells (rawC x p) 27) = w1 at *
  generalize W.heap.size = B0 at *
  have HB := Lib.hid (bare_any x.t w1 r hr HP.out.env.ts.now.1)
  rw [hb.out] at HB
  have HTS := Lib.hid (show x.t.size ≤ 1000000000000 from by rw [Lib.size_eq, ← ht.out]; have := HL.out; omega)
  clear HL
  refine HB.out.mono ?_
  rintro e w2 ⟨rfl, k2⟩
  have HPb := Lib.hid (HP.out.keep0 k2)
  clear HP k2 a0 a1 a2 a3 a4 a5 hpl
  have HP := HPb
  clear HPb
  obtain ⟨⟨a0, a1, a2, a3, a4, a5⟩, _⟩ := six_cells HP.out.box
  try dsimp only
  go_wp2_with fail
  go_region_with (go_at_call 107; refine (HS.out _ _ _ (ShAt.keep0 HP.out.env.sh (Keep.refl _ _).drew) (by have h1 := HP.out.len; have := HTL.out; omega) _ HTS.out).mono ?_; rintro e w3 ⟨⟨k3, rfl⟩, hw⟩; obtain ⟨gq, hq⟩ := PSw.wrote (s := tx) (pend := []) (by rw [List.append_nil]; exact HP.out) (by rw [ht.out]; exact hw.undrew); have HQ := Lib.hid hq)
  all_goals (go_wp2_with fail)
  all_goals go_end0
  all_goals exact ⟨rfl, HQ.out.done⟩
set_option maxRecDepth 100000 in
set_option maxHeartbeats 8000000 in
theorem sdat_D6q (base : Nat) (W : World) (b : Nat) (l : List UInt8) (g : Option Nat) (x : Raw) (p : PV) (E : EnvS base W b false l g) (D : RawAt (Off b g) (Off b g) W x p) (tx : List UInt8) (hlen : l.length + tx.length ≤ 1000000000000) (s0 : (x.k == 0) = false) (s1 : (x.k == 1) = false) (s2 : (x.k == 2) = false) (s9 : (x.k == 9) = false) (s10 : (x.k == 10) = false) (s4 : (x.k == 4) = false) (s3 : (x.k == 3) = false) (s6 : (x.k == 6) = true) (r : List Nat) (hr : runesL x.t.data.toList = some r) (hrl : r.length ≤ 62) (hsz : x.t.size ≤ 1000000) (hb : Hid (bareV x.t.data.toList = false)) (ht : Hid (tx = quoteL 124 x.t.data.toList)) : Calls Tryz.prog 78 #[.pointer (some ⟨b, 0, none⟩), rawV x p] W (WrP W b false (l ++ tx) g) := by
  have HS := Lib.hid (fun (W : World) (m : List UInt8) (g' : Option Nat) (h : ShAt W b false m g') (hm : m.length ≤ 100000000000000) (s : ByteArray) (hs : s.size ≤ 1000000000000) => sh_lit h s hs hm)
  have HP := Lib.hid (PSw.start (pend := tx) E D rfl)
  have HL := Lib.hid hlen
  have HTL : Hid ((l ++ tx).length ≤ 1000000000000) := Lib.hid (by rw [List.length_append]; exact hlen)
  clear E hlen D
  obtain ⟨⟨a0, a1, a2, a3, a4, a5⟩, _⟩ := six_cells HP.out.box
  have hpl := HP.out.env.pl
  go_enter Tryz.func78, Tryz.ntmps78
  go_wp2_with fail
  generalize W.alloc (.cells (rawC x p) 27) = w1 at *
  generalize W.heap.size = B0 at *
  have HB := Lib.hid (bare_any x.t w1 r hr HP.out.env.ts.now.1)
  rw [hb.out] at HB
  have HQQ := Lib.hid (fun (W2 : World) (hp : PSw base W b false (l ++ tx) g B0 x p l tx g W2) => shquo_any 124 (.inr rfl) x.t r hr (by omega) hsz W2 b false l g hp.env.sh (by have h1 := hp.len; have := HTL.out; omega) hp.env.ts.now.2.2 (fun h => hp.env.low h))
  clear hr hrl hsz
  refine HB.out.mono ?_
  rintro e w2 ⟨rfl, k2⟩
  have HPb := Lib.hid (HP.out.keep0 k2)
  clear HP k2 a0 a1 a2 a3 a4 a5 hpl
  have HP := HPb
  clear HPb
  obtain ⟨⟨a0, a1, a2, a3, a4, a5⟩, _⟩ := six_cells HP.out.box
  try dsimp only
  go_wp2_with fail
  refine (HQQ.out _ HP.out).mono ?_
  rintro e w3 ⟨rfl, hw⟩
  obtain ⟨gq, hq⟩ := PSw.wrote (s := tx) (pend := []) (by rw [List.append_nil]; exact HP.out) (by rw [ht.out]; exact hw)
  have HQ := Lib.hid hq
  clear hw hq
  try dsimp only
  go_wp2_with fail
  go_end0
  exact ⟨rfl, HQ.out.done⟩
set_option maxRecDepth 100000 in
set_option maxHeartbeats 8000000 in
theorem sdat_D5f (base : Nat) (W : World) (b : Nat) (l : List UInt8) (g : Option Nat) (x : Raw) (p : PV) (E : EnvS base W b false l g) (D : RawAt (Off b g) (Off b g) W x p) (tx : List UInt8) (hlen : l.length + tx.length ≤ 1000000000000) (s0 : (x.k == 0) = false) (s1 : (x.k == 1) = false) (s2 : (x.k == 2) = false) (s9 : (x.k == 9) = false) (s10 : (x.k == 10) = false) (s4 : (x.k == 4) = false) (s3 : (x.k == 3) = false) (s6 : (x.k == 6) = false) (s5 : (x.k == 5) = true) (r : List Nat) (hr : runesL x.t.data.toList = some r) (hrl : r.length ≤ 62) (hsz : x.t.size ≤ 1000000) (ht : Hid (tx = quoteL 34 x.t.data.toList)) : Calls Tryz.prog 78 #[.pointer (some ⟨b, 0, none⟩), rawV x p] W (WrP W b false (l ++ tx) g) := by
  have HS := Lib.hid (fun (W : World) (m : List UInt8) (g' : Option Nat) (h : ShAt W b false m g') (hm : m.length ≤ 100000000000000) (s : ByteArray) (hs : s.size ≤ 1000000000000) => sh_lit h s hs hm)
  have HP := Lib.hid (PSw.start (pend := tx) E D rfl)
  have HL := Lib.hid hlen
  have HTL : Hid ((l ++ tx).length ≤ 1000000000000) := Lib.hid (by rw [List.length_append]; exact hlen)
  clear E hlen D
  obtain ⟨⟨a0, a1, a2, a3, a4, a5⟩, _⟩ := six_cells HP.out.box
  have hpl := HP.out.env.pl
  go_enter Tryz.func78, Tryz.ntmps78
  go_wp2_with fail
  generalize W.alloc (.cells (rawC x p) 27) = w1 at *
  generalize W.heap.size = B0 at *
  have HQQ := Lib.hid (fun (W2 : World) (hp : PSw base W b false (l ++ tx) g B0 x p l tx g W2) => shquo_any 34 (.inl rfl) x.t r hr (by omega) hsz W2 b false l g hp.env.sh (by have h1 := hp.len; have := HTL.out; omega) hp.env.ts.now.2.2 (fun h => hp.env.low h))
  clear hr hrl hsz
  refine (HQQ.out _ HP.out).mono ?_
  rintro e w3 ⟨rfl, hw⟩
  obtain ⟨gq, hq⟩ := PSw.wrote (s := tx) (pend := []) (by rw [List.append_nil]; exact HP.out) (by rw [ht.out]; exact hw)
  have HQ := Lib.hid hq
  clear hw hq
  try dsimp only
  go_wp2_with fail
  go_end0
  exact ⟨rfl, HQ.out.done⟩
set_option maxRecDepth 100000 in
set_option maxHeartbeats 8000000 in
theorem sdat_P7 (pl : Bool) (base : Nat) (W : World) (b : Nat) (l : List UInt8) (g : Option Nat) (x : Raw) (p : PV) (E : EnvS base W b pl l g) (D : RawAt (Off b g) (Off b g) W x p) (tx : List UInt8) (hlen : l.length + tx.length ≤ 1000000000000) (s0 : (x.k == 0) = false) (s1 : (x.k == 1) = false) (s2 : (x.k == 2) = false) (s9 : (x.k == 9) = false) (s10 : (x.k == 10) = false) (s4 : (x.k == 4) = false) (s3 : (x.k == 3) = false) (s6 : (x.k == 6) = false) (s5 : (x.k == 5) = false) (s8 : (x.k == 8) = false) (s7 : (x.k == 7) = true) (HPC : Hid (ShowC 114 x)) (ht : Hid (tx = showR pl x)) : Calls Tryz.prog 78 #[.pointer (some ⟨b, 0, none⟩), rawV x p] W (WrP W b pl (l ++ tx) g) := by
  have HS := Lib.hid (fun (W : World) (m : List UInt8) (g' : Option Nat) (h : ShAt W b pl m g') (hm : m.length ≤ 100000000000000) (s : ByteArray) (hs : s.size ≤ 1000000000000) => sh_lit h s hs hm)
  have HP := Lib.hid (PSw.start (pend := tx) E D rfl)
  have HL := Lib.hid hlen
  have HTL : Hid ((l ++ tx).length ≤ 1000000000000) := Lib.hid (by rw [List.length_append]; exact hlen)
  clear E hlen D
  obtain ⟨⟨a0, a1, a2, a3, a4, a5⟩, _⟩ := six_cells HP.out.box
  go_enter Tryz.func78, Tryz.ntmps78
  go_wp2_with fail
  generalize W.alloc (.cells (rawC x p) 27) = w1 at *
  generalize W.heap.size = B0 at *
  have HU := Lib.hid (HPC.out base w1 b pl l g p HP.out.env (HP.out.off2 HP.out.dat) (by rw [← ht.out]; exact HL.out))
  rw [← ht.out] at HU
  refine HU.out.mono ?_
  rintro e w3 ⟨rfl, hw⟩
  obtain ⟨gq, hq⟩ := PSw.wrote (s := tx) (pend := []) (by rw [List.append_nil]; exact HP.out) hw
  have HQ := Lib.hid hq
  clear hw hq
  try dsimp only
  go_wp2_with fail
  go_end0
  exact ⟨rfl, HQ.out.done⟩
set_option maxRecDepth 100000 in
set_option maxHeartbeats 8000000 in
theorem sdat_V8n (pl : Bool) (base : Nat) (W : World) (b : Nat) (l : List UInt8) (g : Option Nat) (x : Raw) (p : PV) (E : EnvS base W b pl l g) (D : RawAt (Off b g) (Off b g) W x p) (tx : List UInt8) (hlen : l.length + tx.length ≤ 1000000000000) (s0 : (x.k == 0) = false) (s1 : (x.k == 1) = false) (s2 : (x.k == 2) = false) (s9 : (x.k == 9) = false) (s10 : (x.k == 10) = false) (s4 : (x.k == 4) = false) (s3 : (x.k == 3) = false) (s6 : (x.k == 6) = false) (s5 : (x.k == 5) = false) (s8 : (x.k == 8) = true) (hm : p.m = 0) (ht : Hid (tx = [35] ++ [40, 41])) : Calls Tryz.prog 78 #[.pointer (some ⟨b, 0, none⟩), rawV x p] W (WrP W b pl (l ++ tx) g) := by
  have HS := Lib.hid (fun (W : World) (m : List UInt8) (g' : Option Nat) (h : ShAt W b pl m g') (hm : m.length ≤ 100000000000000) (s : ByteArray) (hs : s.size ≤ 1000000000000) => sh_lit h s hs hm)
  have HP := Lib.hid (PSw.start (pend := tx) E D rfl)
  have HL := Lib.hid hlen
  have HTL : Hid ((l ++ tx).length ≤ 1000000000000) := Lib.hid (by rw [List.length_append]; exact hlen)
  clear E hlen D
  obtain ⟨⟨a0, a1, a2, a3, a4, a5⟩, _⟩ := six_cells HP.out.box
  have m0 : ((p.m : Int) == 0) = true := by rw [hm]; rfl
  clear hm
  go_enter Tryz.func78, Tryz.ntmps78
  go_wp2_with fail
  generalize W.alloc (.cells (rawC x p) 27) = w1 at *
  generalize W.heap.size = B0 at *
  have HY := Lib.hid (fun (W : World) (m : List UInt8) (g' : Option Nat) (h : ShAt W b pl m g') (hm : m.length ≤ 100000000000000) => (show Calls Tryz.prog 113 #[.pointer (some ⟨b, 0, none⟩), .int .u8 35] W (fun e w' => e = .returned .nilIface ∧ Wrote W b pl (m ++ [35]) g' w') from sh_byte W b pl m g' 35 h (by omega)))
  rw [ht.out] at HP HTL
  refine (HY.out _ _ _ HP.out.env.sh (by have h1 := HP.out.len; have := HTL.out; omega)).mono ?_
  rintro e w2 ⟨rfl, hw⟩
  obtain ⟨g2, hp2⟩ := PSw.wrote (s := [35]) (pend := [40, 41]) HP.out hw
  have HP2 := Lib.hid hp2
  clear hw hp2 a0 a1 a2 a3 a4 a5
  obtain ⟨⟨a0, a1, a2, a3, a4, a5⟩, _⟩ := six_cells HP2.out.box
  try dsimp only
  go_wp2_with fail
  refine (HS.out _ _ _ HP2.out.env.sh (by have h1 := HP2.out.len; have := HTL.out; omega) _ (by decide)).mono ?_
  rintro e w3 ⟨⟨k3, rfl⟩, hw⟩
  obtain ⟨gq, hq⟩ := PSw.wrote (s := [40, 41]) (pend := []) HP2.out hw
  have HQ := Lib.hid hq
  clear hw hq
  try dsimp only
  go_wp2_with fail
  go_end0
  exact ⟨rfl, by rw [ht.out]; exact HQ.out.done⟩
set_option maxRecDepth 100000 in
set_option maxHeartbeats 8000000 in
theorem sdat_V8 (pl : Bool) (base : Nat) (W : World) (b : Nat) (l : List UInt8) (g : Option Nat) (x : Raw) (p : PV) (E : EnvS base W b pl l g) (D : RawAt (Off b g) (Off b g) W x p) (tx : List UInt8) (hlen : l.length + tx.length ≤ 1000000000000) (s0 : (x.k == 0) = false) (s1 : (x.k == 1) = false) (s2 : (x.k == 2) = false) (s9 : (x.k == 9) = false) (s10 : (x.k == 10) = false) (s4 : (x.k == 4) = false) (s3 : (x.k == 3) = false) (s6 : (x.k == 6) = false) (s5 : (x.k == 5) = false) (s8 : (x.k == 8) = true) (hm : 0 < p.m) (hm2 : Hid (x.l.length = p.m ∧ p.m ≤ 62)) (HPC : Hid (ShowC 114 (listR x.l .nil))) (ht : Hid (tx = [35] ++ showR pl (listR x.l .nil))) : Calls Tryz.prog 78 #[.pointer (some ⟨b, 0, none⟩), rawV x p] W (WrP W b pl (l ++ tx) g) := by
  have HS := Lib.hid (fun (W : World) (m : List UInt8) (g' : Option Nat) (h : ShAt W b pl m g') (hm : m.length ≤ 100000000000000) (s : ByteArray) (hs : s.size ≤ 1000000000000) => sh_lit h s hs hm)
  have HP := Lib.hid (PSw.start (pend := tx) E D rfl)
  have HL := Lib.hid hlen
  have HTL : Hid ((l ++ tx).length ≤ 1000000000000) := Lib.hid (by rw [List.length_append]; exact hlen)
  clear E hlen D
  obtain ⟨⟨a0, a1, a2, a3, a4, a5⟩, _⟩ := six_cells HP.out.box
  have m0 : ((p.m : Int) == 0) = false := beq_eq_false_iff_ne.2 (by omega)
  have HM := Lib.hid hm
  clear hm
  go_enter Tryz.func78, Tryz.ntmps78
  go_wp2_with fail
  generalize W.alloc (.cells (rawC x p) 27) = w1 at *
  generalize W.heap.size = B0 at *
  have HY := Lib.hid (fun (W : World) (m : List UInt8) (g' : Option Nat) (h : ShAt W b pl m g') (hm : m.length ≤ 100000000000000) => (show Calls Tryz.prog 113 #[.pointer (some ⟨b, 0, none⟩), .int .u8 35] W (fun e w' => e = .returned .nilIface ∧ Wrote W b pl (m ++ [35]) g' w') from sh_byte W b pl m g' 35 h (by omega)))
  rw [ht.out] at HP HTL
  refine (HY.out _ _ _ HP.out.env.sh (by have h1 := HP.out.len; have := HTL.out; omega)).mono ?_
  rintro e w2 ⟨rfl, hw⟩
  obtain ⟨g2, hp2⟩ := PSw.wrote (s := [35]) HP.out hw
  have HP2 := Lib.hid hp2
  clear hw hp2 a0 a1 a2 a3 a4 a5
  obtain ⟨⟨a0, a1, a2, a3, a4, a5⟩, f0, f1, f2, f3, f4, f5⟩ := six_cells HP2.out.box
  have HLI := Lib.hid (dat_list HP2.out.dat HM.out hm2.out)
  try dsimp only
  go_wp2_with fail
  refine HLI.out.mono ?_
  rintro e w3 ⟨p3, rfl, hd3, k3⟩
  have HP3 := Lib.hid (HP2.out.keep0 k3)
  have HD3 := Lib.hid (HP3.out.fresh HP2.out.env.sh (lt_of_heap HP2.out.box) hd3)
  clear k3 hd3 a0 a1 a2 a3 a4 a5 f0 f1 f2 f3 f4 f5
  obtain ⟨⟨a0, a1, a2, a3, a4, a5⟩, f0, f1, f2, f3, f4, f5⟩ := six_cells HP3.out.box
  have HE4 := Lib.hid (HP3.out.put_env (listR x.l .nil) p3)
  have HD4 := Lib.hid ((HD3.out.keep (six_self w3 B0 (.int .i64 (listR x.l .nil).k) (.int .i32 (listR x.l .nil).c) (.bool (listR x.l .nil).neg) (.slice p3.A p3.n p3.cp) (.string (listR x.l .nil).t) (.slice p3.B p3.m p3.cap)) (fun y hy => ⟨fun o => o.1 hy, fun o => o.1 hy⟩)).mono (M := Off b g2) (Q := Off b g2) (fun _ _ o => o.2) (fun _ _ o => o.2))
  have hb4 := six_row HP3.out.box (.int .i64 (listR x.l .nil).k) (.int .i32 (listR x.l .nil).c) (.bool (listR x.l .nil).neg) (.slice p3.A p3.n p3.cp) (.string (listR x.l .nil).t) (.slice p3.B p3.m p3.cap)
  have hl4 := HP3.out.len
  obtain ⟨q, hq⟩ : ∃ q, q = listR x.l .nil := ⟨_, rfl⟩
  rw [← hq] at HE4 HD4 hb4 hl4 HPC ht HTL ⊢
  have HU := Lib.hid (HPC.out base _ b pl _ g2 p3 HE4.out.1 HD4.out (by have := HTL.out; omega))
  have HW := Lib.hid (fun (w5 : World) hw => Wrote.trans HE4.out.2.1 HE4.out.2.2 hw (w'' := w5) (b := b) (pl := pl) (l := l ++ [35] ++ showR pl q))
  have HB4 := Lib.hid hb4
  clear hb4 hl4 HE4 HD4 HD3 hq
  try dsimp only
  go_wp2_with fail
  refine HU.out.mono ?_
  rintro e w5 ⟨rfl, hw⟩
  have HQ := Lib.hid (HW.out w5 hw)
  clear hw
  try dsimp only
  go_wp2_with fail
  go_end0
  exact ⟨rfl, by rw [ht.out, ← List.append_assoc]; exact HQ.out⟩
end Go.Proofs.YtonnikipeokkaaaGreatDoor

namespace Go.Proofs.YtonnikipeokkaaaGreatDoor
open Go.RowKit Go.Lib

theorem utf_len (c : Nat) : (utfB c).length ≤ 4 := by
  unfold utfB
  split
  · simp
  split
  · simp
  split <;> simp
theorem flat_len : ∀ r : List Nat, (r.flatMap utfB).length ≤ 4 * r.length
  | [] => Nat.zero_le _
  | c :: r => by
    have h1 := flat_len r
    have h2 := utf_len c
    rw [List.flatMap_cons, List.length_append, List.length_cons]
    omega
theorem runes_small {t : ByteArray} {r : List Nat} (h : runesL t.data.toList = some r) (hr : r.length ≤ 62) : t.size ≤ 1000000 := by
  have h1 := (runes_bytes _ _ _ (Nat.le_refl _) h).1
  have h2 := flat_len r
  rw [h1] at h2
  have h3 : t.size = t.data.toList.length := by rw [Array.length_toList]; rfl
  omega
/-- A datum as a list with its tail. -/
def Dec (x : Raw) : Prop := ∃ (items : List Raw) (tail : Raw), x = listR items tail ∧ tail.k ≠ 7 ∧ (∀ i (h : i < items.length), ShowC 78 items[i]) ∧ ShowC 78 tail
theorem Dec.self {x : Raw} (h : x.k ≠ 7) (hs : ShowC 78 x) : Dec x := ⟨[], x, rfl, h, fun _ h => absurd h (Nat.not_lt_zero _), hs⟩
theorem Dec.cons {a d : Raw} (ha : ShowC 78 a) (hd : Dec d) : ∃ (items : List Raw) (tail : Raw), pairR a d = listR items tail ∧ items ≠ [] ∧ tail.k ≠ 7 ∧ (∀ i (h : i < items.length), ShowC 78 items[i]) ∧ ShowC 78 tail := by
  obtain ⟨items, tail, rfl, ht, hi, hs⟩ := hd
  refine ⟨a :: items, tail, rfl, List.cons_ne_nil _ _, ht, fun i h => ?_, hs⟩
  cases i with
  | zero => exact ha
  | succ i => exact hi i (by simpa using h)
theorem show_pair_any {a d : Raw} (ha : ShowC 78 a) (hd : Dec d) : ShowC 78 (pairR a d) := by
  intro base W b pl l g p E D hlen
  obtain ⟨items, tail, e, h0, ht, hi, hs⟩ := Dec.cons ha hd
  refine sdat_P7 pl base W b l g _ p E D _ hlen rfl rfl rfl rfl rfl rfl rfl rfl rfl rfl rfl (Lib.hid ?_) (Lib.hid rfl)
  rw [e]
  exact pairs_any items tail ht h0 hi (fun _ => hs)
theorem Dec.pair {a d : Raw} (ha : ShowC 78 a) (hd : Dec d) : Dec (pairR a d) := by
  obtain ⟨items, tail, e, _, ht, hi, hs⟩ := Dec.cons ha hd
  exact ⟨items, tail, e, ht, hi, hs⟩
theorem nil_show : ShowC 78 .nil := fun base W b pl l g p E D hlen => sdat_A0 pl base W b l g _ p E D _ hlen rfl (Lib.hid rfl)
theorem show_vec_any {l : List Raw} (hl : l.length ≤ 62) (h : ∀ i (hi : i < l.length), ShowC 78 l[i]) : ShowC 78 (.mk 8 0 false [] ⟨#[]⟩ l) := by
  intro base W b pl m g p E D hlen
  have hn : l.length = p.m := D.len
  have hsv := show_vec pl (r := .mk 8 0 false [] ⟨#[]⟩ l) rfl
  by_cases hm : p.m = 0
  · obtain rfl : l = [] := List.eq_nil_of_length_eq_zero (by omega)
    exact sdat_V8n pl base W b m g _ p E D _ hlen rfl rfl rfl rfl rfl rfl rfl rfl rfl rfl hm (Lib.hid (by rw [hsv]; rfl))
  · cases l with
    | nil => exact absurd hn (by simpa using fun e => hm e.symm)
    | cons x l =>
      refine sdat_V8 pl base W b m g _ p E D _ hlen rfl rfl rfl rfl rfl rfl rfl rfl rfl rfl (by omega) (Lib.hid ⟨hn, by omega⟩) (Lib.hid ?_) (Lib.hid ?_)
      · exact pairs_any (x :: l) .nil (by decide) (List.cons_ne_nil _ _) h (fun _ => nil_show)
      · rw [hsv]
        show _ = [35] ++ showR pl (listR (x :: l) .nil)
        rw [show_list]
        rfl
theorem show_any {x : Raw} (h : Alike.WellR x) : ShowC 78 x ∧ Dec x := by
  induction h with
  | @atom k h =>
    have hs : ShowC 78 (.mk k 0 false [] ⟨#[]⟩ []) := by
      intro base W b pl l g p E D hlen
      rcases h with rfl | rfl | rfl | rfl | rfl
      · exact sdat_A0 pl base W b l g _ p E D _ hlen rfl (Lib.hid rfl)
      · exact sdat_A1 pl base W b l g _ p E D _ hlen rfl rfl (Lib.hid rfl)
      · exact sdat_A2 pl base W b l g _ p E D _ hlen rfl rfl rfl (Lib.hid rfl)
      · exact sdat_A9 pl base W b l g _ p E D _ hlen rfl rfl rfl rfl (Lib.hid rfl)
      · exact sdat_A10 pl base W b l g _ p E D _ hlen rfl rfl rfl rfl rfl (Lib.hid rfl)
    refine ⟨hs, Dec.self ?_ hs⟩
    show k ≠ 7
    omega
  | @chr c h =>
    have hs : ShowC 78 (.mk 3 (c : Int) false [] ⟨#[]⟩ []) := by
      intro base W b pl l g p E D hlen
      cases pl with
      | true => exact sdat_B3t base W b l g _ p E D _ hlen rfl rfl rfl rfl rfl rfl rfl c (Lib.hid rfl) h (Lib.hid rfl)
      | false => exact sdat_B3f base W b l g _ p E D _ hlen rfl rfl rfl rfl rfl rfl rfl c (Lib.hid rfl) h (Lib.hid rfl)
    exact ⟨hs, Dec.self (show (3 : Int) ≠ 7 by decide) hs⟩
  | @int x h =>
    have hs : ShowC 78 (.mk 4 0 (decide (x < 0)) (limbs x.natAbs) ⟨#[]⟩ []) := by
      intro base W b pl l g p E D hlen
      have hn : p.n = (limbs x.natAbs).length := D.num.row.1.symm
      exact sdat_C4 pl base W b l g _ p E D _ hlen rfl rfl rfl rfl rfl rfl (Lib.hid rfl) (by omega)
    exact ⟨hs, Dec.self (show (4 : Int) ≠ 7 by decide) hs⟩
  | @str t r h hr =>
    have hs : ShowC 78 (.mk 5 0 false [] t []) := by
      intro base W b pl l g p E D hlen
      cases pl with
      | true => exact sdat_D5t base W b l g _ p E D _ hlen rfl rfl rfl rfl rfl rfl rfl rfl rfl (Lib.hid rfl)
      | false => exact sdat_D5f base W b l g _ p E D _ hlen rfl rfl rfl rfl rfl rfl rfl rfl rfl r h hr (runes_small h hr) (Lib.hid rfl)
    exact ⟨hs, Dec.self (show (5 : Int) ≠ 7 by decide) hs⟩
  | @sym t r h hr h0 =>
    have hs : ShowC 78 (.mk 6 0 false [] t []) := by
      intro base W b pl l g p E D hlen
      cases pl with
      | true => exact sdat_D6t base W b l g _ p E D _ hlen rfl rfl rfl rfl rfl rfl rfl rfl (Lib.hid rfl)
      | false =>
        have e := showR_eq false (.mk 6 0 false [] t [])
        cases hb : bareV t.data.toList with
        | true => exact sdat_D6b base W b l g _ p E D _ hlen rfl rfl rfl rfl rfl rfl rfl rfl r h (Lib.hid hb) (Lib.hid (by rw [e]; show (if (false || bareV t.data.toList) = true then _ else _) = _; rw [hb]; rfl))
        | false => exact sdat_D6q base W b l g _ p E D _ hlen rfl rfl rfl rfl rfl rfl rfl rfl r h hr (runes_small h hr) (Lib.hid hb) (Lib.hid (by rw [e]; show (if (false || bareV t.data.toList) = true then _ else _) = _; rw [hb]; rfl))
    exact ⟨hs, Dec.self (show (6 : Int) ≠ 7 by decide) hs⟩
  | @pair a d _ _ ha hd => exact ⟨show_pair_any ha.1 hd.2, Dec.pair ha.1 hd.2⟩
  | @vec l hl _ ih =>
    have hs := show_vec_any hl (fun i hi => (ih i hi).1)
    exact ⟨hs, Dec.self (show (8 : Int) ≠ 7 by decide) hs⟩
end Go.Proofs.YtonnikipeokkaaaGreatDoor
