/- Numbers, by program: texts of another seat, turned to this o -/
import Derived.Test.YtonnikipeokkaaaGreatDoorN1
import Derived.Lib.ItoaMem
import Derived.Lib.SmallJoins
import Derived.Lib.ItoaNum
import Derived.Shelf.Strings.SlTrimAscii
import Derived.Laws.IdiomStrings
import Derived.Test.YtonnikipeokkaaaGreatDoorShelf
namespace Go.Proofs.YtonnikipeokkaaaGreatDoor
set_option maxRecDepth 100000
set_option maxHeartbeats 4000000
open Go.Lib (hid)
open Go.RowKit Go.Sort Go.Lib
open Go.Lib
def co (r : List Nat) (dig k c : Nat) : Nat := 10 * r.getD k 0 + if k = 0 then dig else c
theorem ke {B : Nat} (hB : 10 <= B) {r : List Nat} (hr : Low B r) {dig : Nat} (hb : dig <= 9) : ∀ k, val B (cK B (co r dig) (k + 1)) + B ^ (k + 1) * bY B (co r dig) (k + 1) = 10 * val B (r.take (k + 1)) + dig /\ bY B (co r dig) (k + 1) <= 9
 | 0 => by
  have x := hr.getD (by omega) 0
  refine ⟨?_, ?_⟩
  · rw [eI, cf]
    simp [cK, val, co]
  · show co r dig 0 0 / B <= 9
    unfold co
    rw [if_pos rfl]
    have := (Nat.div_lt_iff_lt_mul (by omega : 0 < B)).2 (show 10 * r.getD 0 0 + dig < 10 * B by omega)
    omega
 | k + 1 => by
  obtain ⟨h1, h2⟩ := ke hB hr hb k
  have x := hr.getD (by omega) (k + 1)
  have e : co r dig (k + 1) (bY B (co r dig) (k + 1)) = 10 * r.getD (k + 1) 0 + bY B (co r dig) (k + 1) := by
   unfold co
   rw [if_neg (by omega)]
  refine ⟨?_, ?_⟩
  · rw [eI, cf, e, Nat.mul_add, Nat.mul_add, Nat.mul_left_comm]
    omega
  · show co r dig (k + 1) (bY B (co r dig) (k + 1)) / B <= 9
    rw [e]
    have := (Nat.div_lt_iff_lt_mul (by omega : 0 < B)).2 (show 10 * r.getD (k + 1) 0 + bY B (co r dig) (k + 1) < 10 * B by omega)
    omega
theorem qR {B : Nat} (hB : 10 <= B) {r : List Nat} (hr : Low B r) {dig : Nat} (hb : dig <= 9) : val B (cK B (co r dig) (r.length + 1)) = 10 * val B r + dig := by
 obtain ⟨h1, _⟩ := ke hB hr hb r.length
 rw [List.take_of_length_le (Nat.le_succ _)] at h1
 rcases Nat.eq_zero_or_pos (bY B (co r dig) (r.length + 1)) with h0 | h0
 · rw [h0] at h1; omega
 · have h3 := gj hr
   have : B ^ (r.length + 1) * 1 <= B ^ (r.length + 1) * bY B (co r dig) (r.length + 1) := Nat.mul_le_mul_left _ h0
   have h4 : B ^ r.length * 10 <= B ^ r.length * B := Nat.mul_le_mul_left _ hB
   rw [Nat.pow_succ] at this
   rw [Nat.pow_succ] at h1
   omega
theorem jb {B : Nat} (hB : 10 <= B) {r : List Nat} (hr : Low B r) {dig : Nat} (hb : dig <= 9) (k : Nat) : co r dig k (bY B (co r dig) k) < 10 * B /\ bY B (co r dig) k <= 9 := by
 have x := hr.getD (by omega) k
 have hc : bY B (co r dig) k <= 9 := by
  cases k with
  | zero => show 0 <= 9; omega
  | succ k => exact (ke hB hr hb k).2
 refine ⟨?_, hc⟩
 unfold co
 unfold co at hc
 split <;> omega
open Go.RowKit
theorem sk (A : Option Addr) (n c : Nat) (r : List Nat) (dig b1 b2 i cr : Nat) (w : World) (h : aR w A n c r) (hi : i <= 1000000) (hd : dig <= 9) (hc : cr <= 9)
 (c1 : w.cell? ⟨b1, 0, none⟩ = some (.int .u8 ((48 + dig : Nat) : Int))) (c2 : w.cell? ⟨b2, 0, none⟩ = some (.slice A n c)) :
 Calls Tryz.prog 156 #[.int .i64 (i : Int), .int .u64 (cr : Int), .pointer (some ⟨b1, 0, none⟩), .pointer (some ⟨b2, 0, none⟩)] w (rj (co r dig i cr) w) := by
 have hx := lg h.low i
 obtain ⟨x, hxx⟩ : ∃ x, x = r.getD i 0 := ⟨_, rfl⟩
 have E : co r dig i cr = 10 * x + if i = 0 then dig else cr := by rw [hxx]; rfl
 have HL := hid (pA A n c r i w h hi)
 rw [<- hxx] at hx HL
 rw [E]
 clear hxx E h
 have e8 : ((48 + dig : Nat) : Int) - 48 = (dig : Int) := by omega
 by_cases h0 : i = 0
 · subst h0
   rw [if_pos rfl]
   go_enter Tryz.func156, Tryz.ntmps156
   go_wp2_with fail
   refine HL.out.mono ?_
   rintro e w' ⟨rfl, rfl⟩
   try dsimp only
   go_wp2_with fail
   go_ret
   exact ⟨by simp; try omega, kR⟩
 · rw [if_neg h0]
   have hb0 : ((i : Int) == 0) = false := by simp; omega
   go_enter Tryz.func156, Tryz.ntmps156
   go_wp2_with fail
   refine HL.out.mono ?_
   rintro e w' ⟨rfl, rfl⟩
   try dsimp only
   go_wp2_with fail
   go_ret
   exact ⟨by simp; try omega, kR⟩
theorem j9 (Bc b1 : Nat) (A : Option Addr) (n c : Nat) (r : List Nat) (dig : Nat) (w : World) (h : aR w A n c r) (hn : n <= 9000) (hb : w.heap[Bc]? = some (.cells #[.slice A n c] 22 (0, 0))) (hb1 : w.heap[b1]? = some (.cells #[.int .u8 ((48 + dig : Nat) : Int)] 5 (0, 0))) (hd : dig <= 9) :
 Calls Tryz.prog 155 #[.int .i64 ((n + 1 : Nat) : Int), .func (.func 156) #[] #[.pointer (some ⟨b1, 0, none⟩), .pointer (some ⟨Bc, 0, none⟩)]] w (gd (cK BB (co r dig) (n + 1)) w) := by
 have hBB : 10 <= BB := by unfold BB; omega
 refine si (n + 1) b1 Bc (co r dig) w (by omega) (fun i _ => ?_) (fun i w' hi K' => ?_)
 · have := (jb hBB h.low hd i).1
   unfold BB at this
   unfold BB
   omega
 · exact sk A n c r dig b1 Bc i _ w' (h.keep0 K') (by omega) hd (jb hBB h.low hd i).2 (by rw [cell_of_row w' _ _ _ _ _ (K'.heap hb1 (by simp))]; rfl) (by rw [cell_of_row w' _ _ _ _ _ (K'.heap hb (by simp))]; rfl)
theorem bE (s : ByteArray) (w : World) (hs : s.size <= 9223372036854775807) :
 Calls Tryz.prog 154 #[.string s, .string ⟨#[48, 49, 50, 51, 52, 53, 54, 55, 56, 57]⟩] w fun e w' => e = .returned (.string ⟨(Lib.trimS s.data.toList [48, 49, 50, 51, 52, 53, 54, 55, 56, 57]).toArray⟩) /\ K0 w w' := by
 refine (Any.strings_Trim_laid Tryz.lays160 (by kernel_rfl) s ⟨#[48, 49, 50, 51, 52, 53, 54, 55, 56, 57]⟩ w hs (by decide) (ascii_of_all (by decide))).mono ?_
 rintro e w' ⟨rfl, hb⟩
 exact ⟨rfl, ah.of_below hb⟩
theorem i6 {p : UInt8 -> Bool} : ∀ l : List UInt8, l.dropWhile p = [] ↔ ∀ x ∈ l, p x = true
 | [] => by simp
 | x :: l => by
  by_cases h : p x = true
  · simp [h, i6 l]
  · simp [h]
theorem jI {p : UInt8 -> Bool} : ∀ (l : List UInt8) (x : UInt8) (xs : List UInt8), l.dropWhile p = x :: xs -> p x = false
 | [], _, _, h => by simp at h
 | y :: l, x, xs, h => by
  by_cases hy : p y = true
  · rw [List.dropWhile_cons, if_pos hy] at h
    exact jI l x xs h
  · rw [List.dropWhile_cons, if_neg hy] at h
    injection h with h1 _
    rw [<- h1]
    simpa using hy
theorem ov (l cs : List UInt8) : Lib.trimS l cs = [] ↔ ∀ x ∈ l, cs.contains x = true := by
 unfold Lib.trimS Lib.trimLeftS Lib.trimRightS
 rw [i6]
 constructor
 · intro h
   cases hd : l.reverse.dropWhile (cs.contains ·) with
   | nil =>
    have := (i6 _).1 hd
    intro x hx
    exact this x (by simpa using hx)
   | cons x xs =>
    have h1 := jI _ _ _ hd
    rw [hd] at h
    have := h x (by simp)
    rw [this] at h1
    cases h1
 · intro h x hx
   have hx2 : x ∈ l.reverse.dropWhile (cs.contains ·) := by simpa using hx
   exact h x (by simpa using (List.dropWhile_sublist (cs.contains ·)).mem hx2)
def am (l : List UInt8) : Nat := l.foldl (fun n b => 10 * n + (b.toNat - 48)) 0
theorem lu (l : List UInt8) (b : UInt8) : am (l ++ [b]) = 10 * am l + (b.toNat - 48) := by
 unfold am; simp
def dK (b : UInt8) : Bool := [48, 49, 50, 51, 52, 53, 54, 55, 56, 57].contains b
theorem cd (b : UInt8) : dK b = true ↔ 48 <= b.toNat /\ b.toNat <= 57 := by
 revert b
 have H : ∀ i : Fin 256, dK (UInt8.ofNat i.val) = true ↔ 48 <= i.val /\ i.val <= 57 := by decide +kernel
 intro b
 have := H ⟨b.toNat, b.toNat_lt⟩
 simpa using this
theorem cR (l : List UInt8) : Lib.trimS l [48, 49, 50, 51, 52, 53, 54, 55, 56, 57] = [] ↔ l.all dK = true := by
 rw [ov, List.all_eq_true]
 rfl
theorem cl (l : List UInt8) (k : Nat) (h : k < l.length) : am (l.take (k + 1)) = 10 * am (l.take k) + (l[k].toNat - 48) := by
 rw [List.take_succ_eq_append_getElem h, lu]
theorem fF (l : List UInt8) : ∀ k j, am (l.take k) <= am (l.take (k + j))
 | _, 0 => Nat.le_refl _
 | k, j + 1 => by
  have h := fF l k j
  by_cases hl : k + j < l.length
  · have := cl l (k + j) hl
    show _ <= am (l.take (k + j + 1))
    omega
  · rw [List.take_of_length_le (by omega : l.length <= k + j)] at h
    show _ <= am (l.take (k + j + 1))
    rw [List.take_of_length_le (by omega : l.length <= k + j + 1)]
    exact h
theorem jc (l : List UInt8) (k : Nat) : am (l.take k) <= am l := by
 have h := fF l k l.length
 rwa [List.take_of_length_le (by omega : l.length <= k + l.length)] at h
def gg (l : List UInt8) : Bool := Lib.hasPrefix l [45] || Lib.hasPrefix l [43]
def aX (l : List UInt8) : List UInt8 := if gg l then l.drop 1 else l
def aG (l : List UInt8) : Option Int :=
 if aX l = [] \/ (aX l).all dK = false then none
 else some (if Lib.hasPrefix l [45] then -(am (aX l) : Int) else (am (aX l) : Int))
theorem iF (neg : Bool) (n : Nat) : fv neg (aT n) = if neg then -(n : Int) else (n : Int) := by
 unfold fv
 rw [show dn (aT n) = n from cN BB2 n]
theorem gS {l : List UInt8} {k : Nat} {neg : Bool} (h : 48 < (aT (am (l.take k))).length) : ¬ dX (if neg then -(am l : Int) else (am l : Int)) := by
 intro f
 rw [lF] at f
 have e : (if neg = true then -(am l : Int) else (am l : Int)).natAbs = am l := by cases neg <;> simp
 rw [e] at f
 have := jc l k
 exact absurd ((bc BB2 (am (l.take k)) 48).2 (Nat.lt_of_le_of_lt this f)) (Nat.not_le.2 h)
def bh (l : List UInt8) (w : World) (e : Ending) (w' : World) : Prop :=
 match aG l with
 | none => e = .returned (.tuple #[aw false none 0 0, .int .i64 9]) /\ K0 w w'
 | some x => dx x w e w'
theorem ik {s : ByteArray} {b : UInt8} (h : Lib.hasPrefix s.data.toList [b] = true) : (1 : Int) <= (s.size : Int) /\ (s.extract 1 s.size).data.toList = s.data.toList.drop 1 := by
 have h1 : 1 <= s.data.toList.length := by
  cases hl : s.data.toList with
  | nil => rw [hl] at h; cases h
  | cons _ _ => simp
 have h2 : s.data.toList.length = s.size := (Lib.size_eq s).symm
 refine ⟨by omega, ?_⟩
 rw [Lib.extract_data, <- h2, <- List.length_drop, List.take_length]
structure fj (w : World) (Bx Bm bb : Nat) (bv : Obj) (l : List UInt8) (k : Nat) (A : Option Addr) (n c : Nat) (wr : World) : Prop where
 x : wr.heap[Bx]? = some (.cells #[.bool false, .slice none 0 0] 24 (0, 0))
 m : wr.heap[Bm]? = some (.cells #[.slice A n c] 22 (0, 0))
 b : wr.heap[bb]? = some bv
 own : br 126 .u32 wr (Bm + 1) A n c (aT (am (l.take k)))
 n : n <= 48
 K : K0 w wr
 xm : Bx ≠ Bm
 bm : bb ≠ Bm
 wm : w.heap.size <= Bm
theorem fj.next {w wr w4 : World} {Bx Bm bb : Nat} {bv : Obj} {l : List UInt8} {k n c : Nat} {A : Option Addr} (H : fj w Bx Bm bb bv l k A n c wr) {u : Value} (hk : k < l.length) (hd : dK l[k] = true)
 {A' : Option Addr} {c' : Nat} (own : br 126 .u32 w4 (wr.alloc (.cells #[u] 5)).heap.size A' (n + 1) c' (cK BB (co (aT (am (l.take k))) (l[k].toNat - 48)) (n + 1))) (k4 : K0 (wr.alloc (.cells #[u] 5)) w4)
 (t : Nat) (ht : t = eE (cK BB (co (aT (am (l.take k))) (l[k].toNat - 48)) (n + 1))) :
 t = (aT (am (l.take (k + 1)))).length /\ (t <= 48 -> fj w Bx Bm bb bv l (k + 1) A' t c' (w4.setCell ⟨Bm, 0, none⟩ (.slice A' t c'))) := by
 have hn : n = (aT (am (l.take k))).length := H.own.len.symm
 have hdg := (cd _).1 hd
 have hBB : 10 <= BB := by unfold BB; omega
 have low : Low BB (aT (am (l.take k))) := aZ BB2 _
 have E : dn (cK BB (co (aT (am (l.take k))) (l[k].toNat - 48)) (n + 1)) = am (l.take (k + 1)) := by
  rw [hn, cl l k hk]
  have := qR hBB low (dig := l[k].toNat - 48) (by omega)
  rw [show val BB (aT (am (l.take k))) = am (l.take k) from cN BB2 _] at this
  exact this
 have low2 : Low BB (cK BB (co (aT (am (l.take k))) (l[k].toNat - 48)) (n + 1)) := fB (by omega) _ _
 have e1 : t = (aT (am (l.take (k + 1)))).length := by rw [ht, <- E]; rfl
 refine ⟨e1, fun ht48 => ?_⟩
 have tl := mG low2
 rw [own.len] at tl
 have KA : K0 wr w4 := (kR.alloc _).trans k4
 have hx4 := KA.heap H.x (by simp)
 have hm4 := KA.heap H.m (by simp)
 have hb4 := KA.heap H.b (by simp)
 have KS : ah (fun x => x = Bm) w4 (w4.setCell ⟨Bm, 0, none⟩ (.slice A' t c')) := cX (S := fun x => x = Bm) rfl 0 _
 have hsz := ao H.m
 have htl : t <= n + 1 := by rw [ht]; exact tl
 have o2 := own.take htl
 rw [show List.take t (cK BB (co (aT (am (l.take k))) (l[k].toNat - 48)) (n + 1)) = aT (am (l.take (k + 1))) from by rw [ht, jr low2, E]] at o2
 refine ⟨KS.heap hx4 H.xm, ?_, KS.heap hb4 H.bm, ?_, ht48, (H.K.trans KA).into KS (by rintro i rfl; exact H.wm), H.xm, H.bm, H.wm⟩
 · simp [World.setCell, Array.getElem?_modify, hm4]
 · refine (br.mono o2 (base' := Bm + 1) (by simp; omega)).keep KS (fun b off e hb => ?_)
   have := (o2.fresh b off e).1
   simp at this
   omega
theorem fj.start {w W w3 : World} {Bx Bm bb : Nat} {C : Array Value} {fr : Nat × Nat} {l : List UInt8} (hx : W.heap[Bx]? = some (.cells #[.bool false, .slice none 0 0] 24 (0, 0))) (hm : W.heap[Bm]? = some (.cells #[.slice none 0 0] 22 (0, 0))) (K : K0 w W) (hxm : Bx ≠ Bm) (hwm : w.heap.size <= Bm) (hbb : bb = W.heap.size)
 (e : w3 = W.drew.alloc (.cells C 5 fr)) : fj w Bx Bm bb (.cells C 5 fr) l 0 none 0 0 w3 := by
 have k : K0 W w3 := by rw [e]; exact kR.drew.alloc _
 have hb3 : w3.heap[bb]? = some (.cells C 5 fr) := by
  rw [e, hbb]
  show (W.heap.push (.cells C 5 fr))[W.heap.size]? = _
  simp
 refine ⟨k.heap hx (by simp), k.heap hm (by simp), hb3, ?_, by omega, K.trans k, hxm, ?_, hwm⟩
 · rw [List.take_zero]
   show br 126 .u32 w3 _ none 0 0 (aT 0)
   unfold aT
   rw [bI]
   exact br.nil _ _ _ _
 · have := ao hm; omega
theorem fj.byte {w wr : World} {Bx Bm bb : Nat} {d : ByteArray} {cap : Nat} {fr : Nat × Nat} {l : List UInt8} {k n c : Nat} {A : Option Addr} (H : fj w Bx Bm bb (.cells (bytesRow d cap) 5 fr) l k A n c wr) (hd : d.data.toList = l) (hk : k < l.length) : wr.cell? ⟨bb, k, none⟩ = some (.int .u8 (l[k].toNat : Int)) := by
 subst hd
 have hk2 : k < d.data.size := by simpa using hk
 unfold World.cell?
 rw [H.b]
 have := bytesRow_at d cap k hk2
 simp only [this]
 simp
theorem nI (s : ByteArray) (w : World) (hs : s.size <= 1000000) (hneg : Lib.hasPrefix s.data.toList [45] = true) : Calls Tryz.prog 129 #[.string s] w (bh s.data.toList w) := by
 have K : K0 w (w.alloc (.cells #[.bool false, .slice none 0 0] 24)) := kR.alloc _
 have hb : (w.alloc (.cells #[.bool false, .slice none 0 0] 24)).heap[w.heap.size]? = some (.cells #[.bool false, .slice none 0 0] 24 (0, 0)) := hN w _
 have HK := hid K
 have HB := hid hb
 obtain ⟨h1, h2⟩ := ik hneg
 have hbody : aX s.data.toList = s.data.toList.drop 1 := by unfold aX gg; rw [hneg]; rfl
 rw [<- hbody] at h2
 have HN := hid hneg
 have H2 := hid h2
 have hsz : (aX s.data.toList).length <= 1000000 := by
  unfold aX
  have := Lib.size_eq s
  split
  · rw [List.length_drop]; omega
  · omega
 have HSZ := hid (show ((s.extract 1 s.size)).size <= 9223372036854775807 from by rw [Lib.size_eq, h2]; omega)
 clear K hb hbody h2 hneg
 by_cases hE : aX s.data.toList = []
 · have hP : aG s.data.toList = none := by unfold aG; rw [if_pos (.inl hE)]
   have he : (s.extract 1 s.size).toList.isEmpty = true := by rw [Lib.toList_data, H2.out, hE]; rfl
   have HPV := hid hP
   clear hE hP hsz
   go_enter Tryz.func129, Tryz.ntmps129
   go_wp2_with fail
   refine (Tryz.strings_HasPrefix s ⟨#[45]⟩ _).mono ?_
   rintro e w1 ⟨rfl, rfl⟩
   rw [show Lib.hasPrefix s.data.toList (⟨#[45]⟩ : ByteArray).data.toList = true from HN.out]
   try dsimp only
   go_wp2_with fail
   have KE : K0 w (w.alloc (.cells #[.bool false, .slice none 0 0] 24)) := HK.out
   refine bodyPost_ret (v := .tuple #[aw false none 0 0, .int .i64 9]) ?_ rfl ?_
   · simp [results, Tryz.results129, go_sem]
   · unfold bh
     rw [HPV.out]
     exact ⟨rfl, KE⟩
 have he : (s.extract 1 s.size).toList.isEmpty = false := by
  rw [Lib.toList_data, H2.out]
  cases h : aX s.data.toList with
  | nil => exact absurd h hE
  | cons _ _ => rfl
 by_cases hA : (aX s.data.toList).all dK = true
 · have hP : aG s.data.toList = some (if true = true then -(am (aX s.data.toList) : Int) else (am (aX s.data.toList) : Int)) := by
    unfold aG
    rw [if_neg (by simp [hE, hA]), HN.out]
   have HPV := hid hP
   have HA := hid hA
   clear hE hP hA
   go_enter Tryz.func129, Tryz.ntmps129
   go_wp2_with fail
   refine (Tryz.strings_HasPrefix s ⟨#[45]⟩ _).mono ?_
   rintro e w1 ⟨rfl, rfl⟩
   rw [show Lib.hasPrefix s.data.toList (⟨#[45]⟩ : ByteArray).data.toList = true from HN.out]
   try dsimp only
   go_wp2_with fail
   refine (bE (s.extract 1 s.size) _ HSZ.out).mono ?_
   rintro e w2 ⟨rfl, k2⟩
   obtain ⟨t, ht⟩ : ∃ t : ByteArray, t = ⟨(Lib.trimS (s.extract 1 s.size).data.toList [48, 49, 50, 51, 52, 53, 54, 55, 56, 57]).toArray⟩ := ⟨_, rfl⟩
   rw [<- ht]
   have hte : t.toList.isEmpty = true := by
    rw [Lib.toList_data, ht]
    show (Lib.trimS (s.extract 1 s.size).data.toList [48, 49, 50, 51, 52, 53, 54, 55, 56, 57]).isEmpty = true
    rw [H2.out]
    rw [(cR _).2 HA.out]; rfl
   have K2 := HK.out.trans k2
   have hb2 := k2.heap HB.out (by simp)
   clear ht
   try dsimp only
   generalize hBx : w.heap.size = Bx at hb2 ⊢
   have HBX := hid (Nat.le_of_eq hBx)
   have HB2 := hid hb2
   clear hBx hb2 k2
   have HLT := hid (ao HB2.out)
   go_wp2_with fail
   have KW : K0 w (w2.alloc (.cells #[.slice none 0 0] 22)) := K2.alloc _
   have hm : (w2.alloc (.cells #[.slice none 0 0] 22)).heap[w2.heap.size]? = some (.cells #[.slice none 0 0] 22 (0, 0)) := hN w2 _
   have hx : (w2.alloc (.cells #[.slice none 0 0] 22)).heap[Bx]? = some (.cells #[.bool false, .slice none 0 0] 24 (0, 0)) := by
    rw [Below.heap_alloc _ _ _ HLT.out]; exact HB2.out
   have hxm : Bx ≠ w2.heap.size := by have := HLT.out; omega
   have hwm : w.heap.size <= w2.heap.size := K2.size
   generalize w2.heap.size = Bm at hm hxm hwm ⊢
   generalize w2.alloc (.cells #[.slice none 0 0] 22) = W at KW hm hx ⊢
   have hconv := run_bytes_of_string (P := Tryz.prog) W 9 70 5 (s.extract 1 s.size) rfl rfl rfl
   have hds : ((s.extract 1 s.size)).size = (aX s.data.toList).length := (Lib.size_eq _).trans (congrArg List.length H2.out)
   have HST := hid (fun (w3 : World) (bb : Nat) (C : Array Value) (fr : Nat × Nat) (hbb : bb = W.heap.size) (e : w3 = W.drew.alloc (.cells C 5 fr)) => fj.start (l := aX s.data.toList) hx hm KW hxm hwm hbb e)
   clear HB HK HB2 K2 KW hm hx hxm hwm HLT
   generalize hcap : grownCap W ((s.extract 1 s.size)).size 0 5 = cap at hconv
   clear hcap
   generalize hC : bytesRow (s.extract 1 s.size) cap = C at hconv
   generalize hfr : (C.size, C.size + 1) = fr at hconv
   clear hfr
   generalize hw3 : W.drew.alloc (.cells C 5 fr) = w3 at hconv
   generalize hbb : W.heap.size = bb at hconv
   have hst := HST.out w3 bb C fr hbb.symm hw3.symm
   have hbyte := fun (k n c : Nat) (A : Option Addr) (wr : World) (H : fj w Bx Bm bb (.cells C 5 fr) (aX s.data.toList) k A n c wr) (hk : k < (aX s.data.toList).length) => fj.byte (d := (s.extract 1 s.size)) (cap := cap) (by rw [hC]; exact H) H2.out hk
   rw [hds] at hconv
   clear HST hw3 hbb hC hds
   have HBY := hid hbyte
   have HST := hid hst
   clear hbyte hst
   generalize hl : aX s.data.toList = l at *
   clear hl
   rw [hconv]
   try dsimp only
   go_wp2_with fail
   clear hconv he hte h1
   go_loopw [30] (fun iv wr => ∃ (k : Nat) (A : Option Addr) (n c : Nat), k <= l.length /\ iv = .int .i64 (k : Int) /\ fj w Bx Bm bb (.cells C 5 fr) l k A n c wr) (fun iv _ => l.length - (RowKit.intOf iv).toNat)
   case atStart => exact ⟨0, _, _, _, Nat.zero_le _, rfl, HST.out⟩
   case round =>
    clear HST
    obtain ⟨k, A, n, c, hk, rfl, st⟩ := hrel
    have HS := hid st
    have cm : wr.cell? ⟨Bm, 0, none⟩ = some (.slice A n c) := by rw [cell_of_row wr _ _ _ _ _ st.m]; rfl
    have hBm := ao st.m
    have hn := st.n
    clear st
    by_cases hkl : k < l.length
    · have i0 : (0 : Int) <= (k : Int) := by omega
      have i1 : (k : Int) < (l.length : Int) := by omega
      have hby := HBY.out k n c A wr HS.out hkl
      have hdg := List.all_eq_true.1 HA.out _ (List.getElem_mem hkl)
      have HD := hid hdg
      have hdg2 := (cd _).1 hdg
      have e48 : (l[k].toNat : Int) = ((48 + (l[k].toNat - 48) : Nat) : Int) := by omega
      have HDG := hid (And.intro hdg2 e48)
      rw [e48] at hby
      obtain ⟨dg, hdge⟩ : ∃ x, x = l[k].toNat - 48 := ⟨_, rfl⟩
      have HDGE := hid hdge
      rw [<- hdge] at hby
      clear hdg hdg2 e48 hdge
      have HR := hid (show Calls Tryz.prog 155 #[.int .i64 ((n : Int) + 1), .func (.func 156) #[] #[.pointer (some ⟨wr.heap.size, 0, none⟩), .pointer (some ⟨Bm, 0, none⟩)]] (wr.alloc (.cells #[.int .u8 (48 + (dg : Int))] 5)) (gd (cK BB (co (aT (am (l.take k))) dg) (n + 1)) (wr.alloc (.cells #[.int .u8 (48 + (dg : Int))] 5))) from
       j9 Bm wr.heap.size A n c (aT (am (l.take k))) dg _ ((HS.out.own.toLimbs (aZ BB2 _) (by omega)).keep0 (kR.alloc _)) (by omega) (by rw [Below.heap_alloc _ _ _ hBm]; exact HS.out.m) (hN wr _) (by have := HDG.out.1; have := HDGE.out; omega))
      go_wp2_with fail
      refine HR.out.mono ?_
      rintro e w4 ⟨A2, n2, c2, rfl, own, k4⟩
      obtain rfl : n2 = n + 1 := by have := own.len; rw [fC] at this; exact this.symm
      have low2 : Low BB (cK BB (co (aT (am (l.take k))) dg) (n + 1)) := fB (by unfold BB; omega) _ _
      have hL := own.toLimbs low2 (by omega)
      obtain ⟨t5, ht⟩ : ∃ x, x = eE (cK BB (co (aT (am (l.take k))) dg) (n + 1)) := ⟨_, rfl⟩
      have hNX := HS.out.next (u := .int .u8 (48 + (dg : Int))) hkl HD.out (A' := A2) (c' := c2) (w4 := w4) (by rw [<- HDGE.out]; exact own) k4 t5 (by rw [<- HDGE.out]; exact ht)
      have KA : K0 wr w4 := (kR.alloc _).trans k4
      have hm4 := KA.heap HS.out.m (by simp)
      have hx4 := KA.heap HS.out.x (by simp)
      have q0 : w4.cell? ⟨Bm, 0, none⟩ = some (.slice A n c) := by rw [cell_of_row w4 _ _ _ _ _ hm4]; rfl
      have q1 : w4.frozen? ⟨Bm, 0, none⟩ = false := by simp [World.frozen?, hm4]
      have HT := hid ht
      have HNX := hid hNX
      have HX4 := hid hx4
      have HKA := hid (HS.out.K.trans KA)
      clear HR own k4 low2 hNX KA hm4 hx4 cm hBm
      try dsimp only
      go_wp2_with fail
      refine (d7 A2 (n + 1) c2 _ w4 hL).mono ?_
      rintro e wx ⟨rfl, rfl⟩
      rw [<- HT.out]
      clear hL ht
      have hxm := HS.out.xm
      have hmx : Bm ≠ Bx := fun e => hxm e.symm
      by_cases hbig : 48 < t5
      · have hbi : (48 : Int) < (t5 : Int) := by omega
        have hnf := gS (neg := true) (l := l) (k := k + 1) (by rw [<- HNX.out.1]; exact hbig)
        have HNF := hid hnf
        have s0 : w4.cell? ⟨Bx, 0, none⟩ = some (.bool false) := by rw [cell_of_row w4 _ _ _ _ _ HX4.out]; rfl
        have s1 : w4.cell? ⟨Bx, 1, none⟩ = some (.slice none 0 0) := by rw [cell_of_row w4 _ _ _ _ _ HX4.out]; rfl
        have s2 : w4.frozen? ⟨Bx, 0, none⟩ = false := by simp [World.frozen?, HX4.out]
        have s3 : w4.frozen? ⟨Bx, 1, none⟩ = false := by simp [World.frozen?, HX4.out]
        have KS : ah (fun x => x = Bm) w4 (w4.setCell ⟨Bm, 0, none⟩ (.slice A2 t5 c2)) := cX (S := fun x => x = Bm) rfl 0 _
        have HE2 := hid (bw (KS.heap HX4.out hxm) (.bool false) (.slice none 0 0))
        have HKE := hid (bX (HKA.out.into KS (by rintro i rfl; exact HS.out.wm)) HBX.out (.bool false) (.slice none 0 0))
        clear hbig hnf KS
        try dsimp only
        go_wp2_with fail
        obtain ⟨e0, e1⟩ := HE2.out
        refine bodyPost_ret (v := .tuple #[aw false none 0 0, .int .i64 6]) ?_ rfl ?_
        · simp [results, Tryz.results129, go_sem, e0, e1]
        · unfold bh
          rw [HPV.out]
          exact ⟨HKE.out, .inl ⟨HNF.out, rfl⟩⟩
      · have hbi : decide ((48 : Int) < (t5 : Int)) = false := dF (by omega)
        have HN5 := hid (HNX.out.2 (by omega))
        try dsimp only
        go_wp2_with fail
        go_roundw
        case rel => exact ⟨k + 1, _, _, _, by omega, by go_num, HN5.out⟩
        case measure => simp [RowKit.intOf]; omega
    · have hd : decide ((k : Int) < (l.length : Int)) = false := dF (by omega)
      have ek : k = l.length := by omega
      have hE : fv true (aT (am (l.take k))) = (if true = true then -(am l : Int) else (am l : Int)) := by rw [iF, ek, List.take_length]
      have HEQ := hid hE
      have hLm := HS.out.own.toLimbs (aZ BB2 _) (by omega)
      have HR := hid (fun (e : Ending) (w2 : World) => j3 (x := fv true (aT (am (l.take k)))) (e := e) (w2 := w2) HS.out.K HBX.out (ao HS.out.x) HS.out.x)
      clear hE ek
      go_wp2_with fail
      refine (iX true A n c _ _ hLm).mono ?_
      intro e w9 hres
      obtain ⟨ng, A9, n9, c9, f9, rfl, c0, c1, f0, f1, e0, e1, P⟩ := HR.out _ _ hres
      rw [HEQ.out] at P
      have HP9 := hid P
      have HEE := hid (And.intro e0 e1)
      clear hres P hLm e0 e1
      try dsimp only
      go_wp2_with fail
      refine bodyPost_ret (v := .tuple #[aw ng A9 n9 c9, .int .i64 f9]) ?_ rfl (by unfold bh; rw [HPV.out]; exact HP9.out)
      obtain ⟨e0, e1⟩ := HEE.out
      simp [results, Tryz.results129, go_sem, e0, e1]
 · have hP : aG s.data.toList = none := by
    unfold aG
    rw [if_pos (.inr (by simpa using hA))]
   have HPV := hid hP
   have HA := hid hA
   clear hE hP hA hsz
   go_enter Tryz.func129, Tryz.ntmps129
   go_wp2_with fail
   refine (Tryz.strings_HasPrefix s ⟨#[45]⟩ _).mono ?_
   rintro e w1 ⟨rfl, rfl⟩
   rw [show Lib.hasPrefix s.data.toList (⟨#[45]⟩ : ByteArray).data.toList = true from HN.out]
   try dsimp only
   go_wp2_with fail
   refine (bE (s.extract 1 s.size) _ HSZ.out).mono ?_
   rintro e w2 ⟨rfl, k2⟩
   obtain ⟨t, ht⟩ : ∃ t : ByteArray, t = ⟨(Lib.trimS (s.extract 1 s.size).data.toList [48, 49, 50, 51, 52, 53, 54, 55, 56, 57]).toArray⟩ := ⟨_, rfl⟩
   rw [<- ht]
   have hte : t.toList.isEmpty = false := by
    rw [Lib.toList_data, ht]
    show (Lib.trimS (s.extract 1 s.size).data.toList [48, 49, 50, 51, 52, 53, 54, 55, 56, 57]).isEmpty = false
    rw [H2.out]
    cases h : Lib.trimS (aX s.data.toList) [48, 49, 50, 51, 52, 53, 54, 55, 56, 57] with
    | nil => exact absurd ((cR _).1 h) HA.out
    | cons _ _ => rfl
   have K2 := HK.out.trans k2
   have hb2 := k2.heap HB.out (by simp)
   clear ht
   try dsimp only
   have r0 : w2.cell? ⟨w.heap.size, 0, none⟩ = some (.bool false) := by rw [cell_of_row w2 _ _ _ _ _ hb2]; rfl
   have r1 : w2.cell? ⟨w.heap.size, 1, none⟩ = some (.slice none 0 0) := by rw [cell_of_row w2 _ _ _ _ _ hb2]; rfl
   have f0 : w2.frozen? ⟨w.heap.size, 0, none⟩ = false := by simp [World.frozen?, hb2]
   have f1 : w2.frozen? ⟨w.heap.size, 1, none⟩ = false := by simp [World.frozen?, hb2]
   have HE2 := hid (bw hb2 (.bool false) (.slice none 0 0))
   have HKE := hid (bX K2 (Nat.le_refl w.heap.size) (.bool false) (.slice none 0 0))
   clear K2 k2 hb2
   go_wp2_with fail
   obtain ⟨e0, e1⟩ := HE2.out
   refine bodyPost_ret (v := .tuple #[aw false none 0 0, .int .i64 9]) ?_ rfl ?_
   · simp [results, Tryz.results129, go_sem, e0, e1]
   · unfold bh
     rw [HPV.out]
     exact ⟨rfl, HKE.out⟩
theorem md (s : ByteArray) (w : World) (hs : s.size <= 1000000) (hneg : Lib.hasPrefix s.data.toList [45] = false) (hplus : Lib.hasPrefix s.data.toList [43] = true) : Calls Tryz.prog 129 #[.string s] w (bh s.data.toList w) := by
 have K : K0 w (w.alloc (.cells #[.bool false, .slice none 0 0] 24)) := kR.alloc _
 have hb : (w.alloc (.cells #[.bool false, .slice none 0 0] 24)).heap[w.heap.size]? = some (.cells #[.bool false, .slice none 0 0] 24 (0, 0)) := hN w _
 have HK := hid K
 have HB := hid hb
 obtain ⟨h1, h2⟩ := ik hplus
 have hbody : aX s.data.toList = s.data.toList.drop 1 := by unfold aX gg; rw [hneg, hplus]; rfl
 rw [<- hbody] at h2
 have HN := hid hneg
 have HP := hid hplus
 have H2 := hid h2
 have hsz : (aX s.data.toList).length <= 1000000 := by
  unfold aX
  have := Lib.size_eq s
  split
  · rw [List.length_drop]; omega
  · omega
 have HSZ := hid (show ((s.extract 1 s.size)).size <= 9223372036854775807 from by rw [Lib.size_eq, h2]; omega)
 clear K hb hbody h2 hneg hplus
 by_cases hE : aX s.data.toList = []
 · have hP : aG s.data.toList = none := by unfold aG; rw [if_pos (.inl hE)]
   have he : (s.extract 1 s.size).toList.isEmpty = true := by rw [Lib.toList_data, H2.out, hE]; rfl
   have HPV := hid hP
   clear hE hP hsz
   go_enter Tryz.func129, Tryz.ntmps129
   go_wp2_with fail
   refine (Tryz.strings_HasPrefix s ⟨#[45]⟩ _).mono ?_
   rintro e w1 ⟨rfl, rfl⟩
   rw [show Lib.hasPrefix s.data.toList (⟨#[45]⟩ : ByteArray).data.toList = false from HN.out]
   try dsimp only
   go_wp2_with fail
   refine (Tryz.strings_HasPrefix s ⟨#[43]⟩ _).mono ?_
   rintro e w1 ⟨rfl, rfl⟩
   rw [show Lib.hasPrefix s.data.toList (⟨#[43]⟩ : ByteArray).data.toList = true from HP.out]
   try dsimp only
   go_wp2_with fail
   have KE : K0 w (w.alloc (.cells #[.bool false, .slice none 0 0] 24)) := HK.out
   refine bodyPost_ret (v := .tuple #[aw false none 0 0, .int .i64 9]) ?_ rfl ?_
   · simp [results, Tryz.results129, go_sem]
   · unfold bh
     rw [HPV.out]
     exact ⟨rfl, KE⟩
 have he : (s.extract 1 s.size).toList.isEmpty = false := by
  rw [Lib.toList_data, H2.out]
  cases h : aX s.data.toList with
  | nil => exact absurd h hE
  | cons _ _ => rfl
 by_cases hA : (aX s.data.toList).all dK = true
 · have hP : aG s.data.toList = some (if false = true then -(am (aX s.data.toList) : Int) else (am (aX s.data.toList) : Int)) := by
    unfold aG
    rw [if_neg (by simp [hE, hA]), HN.out]
   have HPV := hid hP
   have HA := hid hA
   clear hE hP hA
   go_enter Tryz.func129, Tryz.ntmps129
   go_wp2_with fail
   refine (Tryz.strings_HasPrefix s ⟨#[45]⟩ _).mono ?_
   rintro e w1 ⟨rfl, rfl⟩
   rw [show Lib.hasPrefix s.data.toList (⟨#[45]⟩ : ByteArray).data.toList = false from HN.out]
   try dsimp only
   go_wp2_with fail
   refine (Tryz.strings_HasPrefix s ⟨#[43]⟩ _).mono ?_
   rintro e w1 ⟨rfl, rfl⟩
   rw [show Lib.hasPrefix s.data.toList (⟨#[43]⟩ : ByteArray).data.toList = true from HP.out]
   try dsimp only
   go_wp2_with fail
   refine (bE (s.extract 1 s.size) _ HSZ.out).mono ?_
   rintro e w2 ⟨rfl, k2⟩
   obtain ⟨t, ht⟩ : ∃ t : ByteArray, t = ⟨(Lib.trimS (s.extract 1 s.size).data.toList [48, 49, 50, 51, 52, 53, 54, 55, 56, 57]).toArray⟩ := ⟨_, rfl⟩
   rw [<- ht]
   have hte : t.toList.isEmpty = true := by
    rw [Lib.toList_data, ht]
    show (Lib.trimS (s.extract 1 s.size).data.toList [48, 49, 50, 51, 52, 53, 54, 55, 56, 57]).isEmpty = true
    rw [H2.out]
    rw [(cR _).2 HA.out]; rfl
   have K2 := HK.out.trans k2
   have hb2 := k2.heap HB.out (by simp)
   clear ht
   try dsimp only
   generalize hBx : w.heap.size = Bx at hb2 ⊢
   have HBX := hid (Nat.le_of_eq hBx)
   have HB2 := hid hb2
   clear hBx hb2 k2
   have HLT := hid (ao HB2.out)
   go_wp2_with fail
   have KW : K0 w (w2.alloc (.cells #[.slice none 0 0] 22)) := K2.alloc _
   have hm : (w2.alloc (.cells #[.slice none 0 0] 22)).heap[w2.heap.size]? = some (.cells #[.slice none 0 0] 22 (0, 0)) := hN w2 _
   have hx : (w2.alloc (.cells #[.slice none 0 0] 22)).heap[Bx]? = some (.cells #[.bool false, .slice none 0 0] 24 (0, 0)) := by
    rw [Below.heap_alloc _ _ _ HLT.out]; exact HB2.out
   have hxm : Bx ≠ w2.heap.size := by have := HLT.out; omega
   have hwm : w.heap.size <= w2.heap.size := K2.size
   generalize w2.heap.size = Bm at hm hxm hwm ⊢
   generalize w2.alloc (.cells #[.slice none 0 0] 22) = W at KW hm hx ⊢
   have hconv := run_bytes_of_string (P := Tryz.prog) W 9 70 5 (s.extract 1 s.size) rfl rfl rfl
   have hds : ((s.extract 1 s.size)).size = (aX s.data.toList).length := (Lib.size_eq _).trans (congrArg List.length H2.out)
   have HST := hid (fun (w3 : World) (bb : Nat) (C : Array Value) (fr : Nat × Nat) (hbb : bb = W.heap.size) (e : w3 = W.drew.alloc (.cells C 5 fr)) => fj.start (l := aX s.data.toList) hx hm KW hxm hwm hbb e)
   clear HB HK HB2 K2 KW hm hx hxm hwm HLT
   generalize hcap : grownCap W ((s.extract 1 s.size)).size 0 5 = cap at hconv
   clear hcap
   generalize hC : bytesRow (s.extract 1 s.size) cap = C at hconv
   generalize hfr : (C.size, C.size + 1) = fr at hconv
   clear hfr
   generalize hw3 : W.drew.alloc (.cells C 5 fr) = w3 at hconv
   generalize hbb : W.heap.size = bb at hconv
   have hst := HST.out w3 bb C fr hbb.symm hw3.symm
   have hbyte := fun (k n c : Nat) (A : Option Addr) (wr : World) (H : fj w Bx Bm bb (.cells C 5 fr) (aX s.data.toList) k A n c wr) (hk : k < (aX s.data.toList).length) => fj.byte (d := (s.extract 1 s.size)) (cap := cap) (by rw [hC]; exact H) H2.out hk
   rw [hds] at hconv
   clear HST hw3 hbb hC hds
   have HBY := hid hbyte
   have HST := hid hst
   clear hbyte hst
   generalize hl : aX s.data.toList = l at *
   clear hl
   rw [hconv]
   try dsimp only
   go_wp2_with fail
   clear hconv he hte h1
   go_loopw [30] (fun iv wr => ∃ (k : Nat) (A : Option Addr) (n c : Nat), k <= l.length /\ iv = .int .i64 (k : Int) /\ fj w Bx Bm bb (.cells C 5 fr) l k A n c wr) (fun iv _ => l.length - (RowKit.intOf iv).toNat)
   case atStart => exact ⟨0, _, _, _, Nat.zero_le _, rfl, HST.out⟩
   case round =>
    clear HST
    obtain ⟨k, A, n, c, hk, rfl, st⟩ := hrel
    have HS := hid st
    have cm : wr.cell? ⟨Bm, 0, none⟩ = some (.slice A n c) := by rw [cell_of_row wr _ _ _ _ _ st.m]; rfl
    have hBm := ao st.m
    have hn := st.n
    clear st
    by_cases hkl : k < l.length
    · have i0 : (0 : Int) <= (k : Int) := by omega
      have i1 : (k : Int) < (l.length : Int) := by omega
      have hby := HBY.out k n c A wr HS.out hkl
      have hdg := List.all_eq_true.1 HA.out _ (List.getElem_mem hkl)
      have HD := hid hdg
      have hdg2 := (cd _).1 hdg
      have e48 : (l[k].toNat : Int) = ((48 + (l[k].toNat - 48) : Nat) : Int) := by omega
      have HDG := hid (And.intro hdg2 e48)
      rw [e48] at hby
      obtain ⟨dg, hdge⟩ : ∃ x, x = l[k].toNat - 48 := ⟨_, rfl⟩
      have HDGE := hid hdge
      rw [<- hdge] at hby
      clear hdg hdg2 e48 hdge
      have HR := hid (show Calls Tryz.prog 155 #[.int .i64 ((n : Int) + 1), .func (.func 156) #[] #[.pointer (some ⟨wr.heap.size, 0, none⟩), .pointer (some ⟨Bm, 0, none⟩)]] (wr.alloc (.cells #[.int .u8 (48 + (dg : Int))] 5)) (gd (cK BB (co (aT (am (l.take k))) dg) (n + 1)) (wr.alloc (.cells #[.int .u8 (48 + (dg : Int))] 5))) from
       j9 Bm wr.heap.size A n c (aT (am (l.take k))) dg _ ((HS.out.own.toLimbs (aZ BB2 _) (by omega)).keep0 (kR.alloc _)) (by omega) (by rw [Below.heap_alloc _ _ _ hBm]; exact HS.out.m) (hN wr _) (by have := HDG.out.1; have := HDGE.out; omega))
      go_wp2_with fail
      refine HR.out.mono ?_
      rintro e w4 ⟨A2, n2, c2, rfl, own, k4⟩
      obtain rfl : n2 = n + 1 := by have := own.len; rw [fC] at this; exact this.symm
      have low2 : Low BB (cK BB (co (aT (am (l.take k))) dg) (n + 1)) := fB (by unfold BB; omega) _ _
      have hL := own.toLimbs low2 (by omega)
      obtain ⟨t5, ht⟩ : ∃ x, x = eE (cK BB (co (aT (am (l.take k))) dg) (n + 1)) := ⟨_, rfl⟩
      have hNX := HS.out.next (u := .int .u8 (48 + (dg : Int))) hkl HD.out (A' := A2) (c' := c2) (w4 := w4) (by rw [<- HDGE.out]; exact own) k4 t5 (by rw [<- HDGE.out]; exact ht)
      have KA : K0 wr w4 := (kR.alloc _).trans k4
      have hm4 := KA.heap HS.out.m (by simp)
      have hx4 := KA.heap HS.out.x (by simp)
      have q0 : w4.cell? ⟨Bm, 0, none⟩ = some (.slice A n c) := by rw [cell_of_row w4 _ _ _ _ _ hm4]; rfl
      have q1 : w4.frozen? ⟨Bm, 0, none⟩ = false := by simp [World.frozen?, hm4]
      have HT := hid ht
      have HNX := hid hNX
      have HX4 := hid hx4
      have HKA := hid (HS.out.K.trans KA)
      clear HR own k4 low2 hNX KA hm4 hx4 cm hBm
      try dsimp only
      go_wp2_with fail
      refine (d7 A2 (n + 1) c2 _ w4 hL).mono ?_
      rintro e wx ⟨rfl, rfl⟩
      rw [<- HT.out]
      clear hL ht
      have hxm := HS.out.xm
      have hmx : Bm ≠ Bx := fun e => hxm e.symm
      by_cases hbig : 48 < t5
      · have hbi : (48 : Int) < (t5 : Int) := by omega
        have hnf := gS (neg := false) (l := l) (k := k + 1) (by rw [<- HNX.out.1]; exact hbig)
        have HNF := hid hnf
        have s0 : w4.cell? ⟨Bx, 0, none⟩ = some (.bool false) := by rw [cell_of_row w4 _ _ _ _ _ HX4.out]; rfl
        have s1 : w4.cell? ⟨Bx, 1, none⟩ = some (.slice none 0 0) := by rw [cell_of_row w4 _ _ _ _ _ HX4.out]; rfl
        have s2 : w4.frozen? ⟨Bx, 0, none⟩ = false := by simp [World.frozen?, HX4.out]
        have s3 : w4.frozen? ⟨Bx, 1, none⟩ = false := by simp [World.frozen?, HX4.out]
        have KS : ah (fun x => x = Bm) w4 (w4.setCell ⟨Bm, 0, none⟩ (.slice A2 t5 c2)) := cX (S := fun x => x = Bm) rfl 0 _
        have HE2 := hid (bw (KS.heap HX4.out hxm) (.bool false) (.slice none 0 0))
        have HKE := hid (bX (HKA.out.into KS (by rintro i rfl; exact HS.out.wm)) HBX.out (.bool false) (.slice none 0 0))
        clear hbig hnf KS
        try dsimp only
        go_wp2_with fail
        obtain ⟨e0, e1⟩ := HE2.out
        refine bodyPost_ret (v := .tuple #[aw false none 0 0, .int .i64 6]) ?_ rfl ?_
        · simp [results, Tryz.results129, go_sem, e0, e1]
        · unfold bh
          rw [HPV.out]
          exact ⟨HKE.out, .inl ⟨HNF.out, rfl⟩⟩
      · have hbi : decide ((48 : Int) < (t5 : Int)) = false := dF (by omega)
        have HN5 := hid (HNX.out.2 (by omega))
        try dsimp only
        go_wp2_with fail
        go_roundw
        case rel => exact ⟨k + 1, _, _, _, by omega, by go_num, HN5.out⟩
        case measure => simp [RowKit.intOf]; omega
    · have hd : decide ((k : Int) < (l.length : Int)) = false := dF (by omega)
      have ek : k = l.length := by omega
      have hE : fv false (aT (am (l.take k))) = (if false = true then -(am l : Int) else (am l : Int)) := by rw [iF, ek, List.take_length]
      have HEQ := hid hE
      have hLm := HS.out.own.toLimbs (aZ BB2 _) (by omega)
      have HR := hid (fun (e : Ending) (w2 : World) => j3 (x := fv false (aT (am (l.take k)))) (e := e) (w2 := w2) HS.out.K HBX.out (ao HS.out.x) HS.out.x)
      clear hE ek
      go_wp2_with fail
      refine (iX false A n c _ _ hLm).mono ?_
      intro e w9 hres
      obtain ⟨ng, A9, n9, c9, f9, rfl, c0, c1, f0, f1, e0, e1, P⟩ := HR.out _ _ hres
      rw [HEQ.out] at P
      have HP9 := hid P
      have HEE := hid (And.intro e0 e1)
      clear hres P hLm e0 e1
      try dsimp only
      go_wp2_with fail
      refine bodyPost_ret (v := .tuple #[aw ng A9 n9 c9, .int .i64 f9]) ?_ rfl (by unfold bh; rw [HPV.out]; exact HP9.out)
      obtain ⟨e0, e1⟩ := HEE.out
      simp [results, Tryz.results129, go_sem, e0, e1]
 · have hP : aG s.data.toList = none := by
    unfold aG
    rw [if_pos (.inr (by simpa using hA))]
   have HPV := hid hP
   have HA := hid hA
   clear hE hP hA hsz
   go_enter Tryz.func129, Tryz.ntmps129
   go_wp2_with fail
   refine (Tryz.strings_HasPrefix s ⟨#[45]⟩ _).mono ?_
   rintro e w1 ⟨rfl, rfl⟩
   rw [show Lib.hasPrefix s.data.toList (⟨#[45]⟩ : ByteArray).data.toList = false from HN.out]
   try dsimp only
   go_wp2_with fail
   refine (Tryz.strings_HasPrefix s ⟨#[43]⟩ _).mono ?_
   rintro e w1 ⟨rfl, rfl⟩
   rw [show Lib.hasPrefix s.data.toList (⟨#[43]⟩ : ByteArray).data.toList = true from HP.out]
   try dsimp only
   go_wp2_with fail
   refine (bE (s.extract 1 s.size) _ HSZ.out).mono ?_
   rintro e w2 ⟨rfl, k2⟩
   obtain ⟨t, ht⟩ : ∃ t : ByteArray, t = ⟨(Lib.trimS (s.extract 1 s.size).data.toList [48, 49, 50, 51, 52, 53, 54, 55, 56, 57]).toArray⟩ := ⟨_, rfl⟩
   rw [<- ht]
   have hte : t.toList.isEmpty = false := by
    rw [Lib.toList_data, ht]
    show (Lib.trimS (s.extract 1 s.size).data.toList [48, 49, 50, 51, 52, 53, 54, 55, 56, 57]).isEmpty = false
    rw [H2.out]
    cases h : Lib.trimS (aX s.data.toList) [48, 49, 50, 51, 52, 53, 54, 55, 56, 57] with
    | nil => exact absurd ((cR _).1 h) HA.out
    | cons _ _ => rfl
   have K2 := HK.out.trans k2
   have hb2 := k2.heap HB.out (by simp)
   clear ht
   try dsimp only
   have r0 : w2.cell? ⟨w.heap.size, 0, none⟩ = some (.bool false) := by rw [cell_of_row w2 _ _ _ _ _ hb2]; rfl
   have r1 : w2.cell? ⟨w.heap.size, 1, none⟩ = some (.slice none 0 0) := by rw [cell_of_row w2 _ _ _ _ _ hb2]; rfl
   have f0 : w2.frozen? ⟨w.heap.size, 0, none⟩ = false := by simp [World.frozen?, hb2]
   have f1 : w2.frozen? ⟨w.heap.size, 1, none⟩ = false := by simp [World.frozen?, hb2]
   have HE2 := hid (bw hb2 (.bool false) (.slice none 0 0))
   have HKE := hid (bX K2 (Nat.le_refl w.heap.size) (.bool false) (.slice none 0 0))
   clear K2 k2 hb2
   go_wp2_with fail
   obtain ⟨e0, e1⟩ := HE2.out
   refine bodyPost_ret (v := .tuple #[aw false none 0 0, .int .i64 9]) ?_ rfl ?_
   · simp [results, Tryz.results129, go_sem, e0, e1]
   · unfold bh
     rw [HPV.out]
     exact ⟨rfl, HKE.out⟩
theorem me (s : ByteArray) (w : World) (hs : s.size <= 1000000) (hneg : Lib.hasPrefix s.data.toList [45] = false) (hplus : Lib.hasPrefix s.data.toList [43] = false) : Calls Tryz.prog 129 #[.string s] w (bh s.data.toList w) := by
 have K : K0 w (w.alloc (.cells #[.bool false, .slice none 0 0] 24)) := kR.alloc _
 have hb : (w.alloc (.cells #[.bool false, .slice none 0 0] 24)).heap[w.heap.size]? = some (.cells #[.bool false, .slice none 0 0] 24 (0, 0)) := hN w _
 have HK := hid K
 have HB := hid hb
 have hbody : aX s.data.toList = s.data.toList := by unfold aX gg; rw [hneg, hplus]; rfl
 have h2 : s.data.toList = aX s.data.toList := hbody.symm
 have HN := hid hneg
 have HP := hid hplus
 have H2 := hid h2
 have hsz : (aX s.data.toList).length <= 1000000 := by
  unfold aX
  have := Lib.size_eq s
  split
  · rw [List.length_drop]; omega
  · omega
 have HSZ := hid (show (s).size <= 9223372036854775807 from by rw [Lib.size_eq, h2]; omega)
 clear K hb hbody h2 hneg hplus
 by_cases hE : aX s.data.toList = []
 · have hP : aG s.data.toList = none := by unfold aG; rw [if_pos (.inl hE)]
   have he : s.toList.isEmpty = true := by rw [Lib.toList_data, H2.out, hE]; rfl
   have HPV := hid hP
   clear hE hP hsz
   go_enter Tryz.func129, Tryz.ntmps129
   go_wp2_with fail
   refine (Tryz.strings_HasPrefix s ⟨#[45]⟩ _).mono ?_
   rintro e w1 ⟨rfl, rfl⟩
   rw [show Lib.hasPrefix s.data.toList (⟨#[45]⟩ : ByteArray).data.toList = false from HN.out]
   try dsimp only
   go_wp2_with fail
   refine (Tryz.strings_HasPrefix s ⟨#[43]⟩ _).mono ?_
   rintro e w1 ⟨rfl, rfl⟩
   rw [show Lib.hasPrefix s.data.toList (⟨#[43]⟩ : ByteArray).data.toList = false from HP.out]
   try dsimp only
   go_wp2_with fail
   have KE : K0 w (w.alloc (.cells #[.bool false, .slice none 0 0] 24)) := HK.out
   refine bodyPost_ret (v := .tuple #[aw false none 0 0, .int .i64 9]) ?_ rfl ?_
   · simp [results, Tryz.results129, go_sem]
   · unfold bh
     rw [HPV.out]
     exact ⟨rfl, KE⟩
 have he : s.toList.isEmpty = false := by
  rw [Lib.toList_data, H2.out]
  cases h : aX s.data.toList with
  | nil => exact absurd h hE
  | cons _ _ => rfl
 by_cases hA : (aX s.data.toList).all dK = true
 · have hP : aG s.data.toList = some (if false = true then -(am (aX s.data.toList) : Int) else (am (aX s.data.toList) : Int)) := by
    unfold aG
    rw [if_neg (by simp [hE, hA]), HN.out]
   have HPV := hid hP
   have HA := hid hA
   clear hE hP hA
   go_enter Tryz.func129, Tryz.ntmps129
   go_wp2_with fail
   refine (Tryz.strings_HasPrefix s ⟨#[45]⟩ _).mono ?_
   rintro e w1 ⟨rfl, rfl⟩
   rw [show Lib.hasPrefix s.data.toList (⟨#[45]⟩ : ByteArray).data.toList = false from HN.out]
   try dsimp only
   go_wp2_with fail
   refine (Tryz.strings_HasPrefix s ⟨#[43]⟩ _).mono ?_
   rintro e w1 ⟨rfl, rfl⟩
   rw [show Lib.hasPrefix s.data.toList (⟨#[43]⟩ : ByteArray).data.toList = false from HP.out]
   try dsimp only
   go_wp2_with fail
   refine (bE s _ HSZ.out).mono ?_
   rintro e w2 ⟨rfl, k2⟩
   obtain ⟨t, ht⟩ : ∃ t : ByteArray, t = ⟨(Lib.trimS s.data.toList [48, 49, 50, 51, 52, 53, 54, 55, 56, 57]).toArray⟩ := ⟨_, rfl⟩
   rw [<- ht]
   have hte : t.toList.isEmpty = true := by
    rw [Lib.toList_data, ht]
    show (Lib.trimS s.data.toList [48, 49, 50, 51, 52, 53, 54, 55, 56, 57]).isEmpty = true
    rw [H2.out]
    rw [(cR _).2 HA.out]; rfl
   have K2 := HK.out.trans k2
   have hb2 := k2.heap HB.out (by simp)
   clear ht
   try dsimp only
   generalize hBx : w.heap.size = Bx at hb2 ⊢
   have HBX := hid (Nat.le_of_eq hBx)
   have HB2 := hid hb2
   clear hBx hb2 k2
   have HLT := hid (ao HB2.out)
   go_wp2_with fail
   have KW : K0 w (w2.alloc (.cells #[.slice none 0 0] 22)) := K2.alloc _
   have hm : (w2.alloc (.cells #[.slice none 0 0] 22)).heap[w2.heap.size]? = some (.cells #[.slice none 0 0] 22 (0, 0)) := hN w2 _
   have hx : (w2.alloc (.cells #[.slice none 0 0] 22)).heap[Bx]? = some (.cells #[.bool false, .slice none 0 0] 24 (0, 0)) := by
    rw [Below.heap_alloc _ _ _ HLT.out]; exact HB2.out
   have hxm : Bx ≠ w2.heap.size := by have := HLT.out; omega
   have hwm : w.heap.size <= w2.heap.size := K2.size
   generalize w2.heap.size = Bm at hm hxm hwm ⊢
   generalize w2.alloc (.cells #[.slice none 0 0] 22) = W at KW hm hx ⊢
   have hconv := run_bytes_of_string (P := Tryz.prog) W 9 70 5 s rfl rfl rfl
   have hds : (s).size = (aX s.data.toList).length := (Lib.size_eq _).trans (congrArg List.length H2.out)
   have HST := hid (fun (w3 : World) (bb : Nat) (C : Array Value) (fr : Nat × Nat) (hbb : bb = W.heap.size) (e : w3 = W.drew.alloc (.cells C 5 fr)) => fj.start (l := aX s.data.toList) hx hm KW hxm hwm hbb e)
   clear HB HK HB2 K2 KW hm hx hxm hwm HLT
   generalize hcap : grownCap W (s).size 0 5 = cap at hconv
   clear hcap
   generalize hC : bytesRow s cap = C at hconv
   generalize hfr : (C.size, C.size + 1) = fr at hconv
   clear hfr
   generalize hw3 : W.drew.alloc (.cells C 5 fr) = w3 at hconv
   generalize hbb : W.heap.size = bb at hconv
   have hst := HST.out w3 bb C fr hbb.symm hw3.symm
   have hbyte := fun (k n c : Nat) (A : Option Addr) (wr : World) (H : fj w Bx Bm bb (.cells C 5 fr) (aX s.data.toList) k A n c wr) (hk : k < (aX s.data.toList).length) => fj.byte (d := s) (cap := cap) (by rw [hC]; exact H) H2.out hk
   rw [hds] at hconv
   clear HST hw3 hbb hC hds
   have HBY := hid hbyte
   have HST := hid hst
   clear hbyte hst
   generalize hl : aX s.data.toList = l at *
   clear hl
   rw [hconv]
   try dsimp only
   go_wp2_with fail
   clear hconv he hte
   go_loopw [30] (fun iv wr => ∃ (k : Nat) (A : Option Addr) (n c : Nat), k <= l.length /\ iv = .int .i64 (k : Int) /\ fj w Bx Bm bb (.cells C 5 fr) l k A n c wr) (fun iv _ => l.length - (RowKit.intOf iv).toNat)
   case atStart => exact ⟨0, _, _, _, Nat.zero_le _, rfl, HST.out⟩
   case round =>
    clear HST
    obtain ⟨k, A, n, c, hk, rfl, st⟩ := hrel
    have HS := hid st
    have cm : wr.cell? ⟨Bm, 0, none⟩ = some (.slice A n c) := by rw [cell_of_row wr _ _ _ _ _ st.m]; rfl
    have hBm := ao st.m
    have hn := st.n
    clear st
    by_cases hkl : k < l.length
    · have i0 : (0 : Int) <= (k : Int) := by omega
      have i1 : (k : Int) < (l.length : Int) := by omega
      have hby := HBY.out k n c A wr HS.out hkl
      have hdg := List.all_eq_true.1 HA.out _ (List.getElem_mem hkl)
      have HD := hid hdg
      have hdg2 := (cd _).1 hdg
      have e48 : (l[k].toNat : Int) = ((48 + (l[k].toNat - 48) : Nat) : Int) := by omega
      have HDG := hid (And.intro hdg2 e48)
      rw [e48] at hby
      obtain ⟨dg, hdge⟩ : ∃ x, x = l[k].toNat - 48 := ⟨_, rfl⟩
      have HDGE := hid hdge
      rw [<- hdge] at hby
      clear hdg hdg2 e48 hdge
      have HR := hid (show Calls Tryz.prog 155 #[.int .i64 ((n : Int) + 1), .func (.func 156) #[] #[.pointer (some ⟨wr.heap.size, 0, none⟩), .pointer (some ⟨Bm, 0, none⟩)]] (wr.alloc (.cells #[.int .u8 (48 + (dg : Int))] 5)) (gd (cK BB (co (aT (am (l.take k))) dg) (n + 1)) (wr.alloc (.cells #[.int .u8 (48 + (dg : Int))] 5))) from
       j9 Bm wr.heap.size A n c (aT (am (l.take k))) dg _ ((HS.out.own.toLimbs (aZ BB2 _) (by omega)).keep0 (kR.alloc _)) (by omega) (by rw [Below.heap_alloc _ _ _ hBm]; exact HS.out.m) (hN wr _) (by have := HDG.out.1; have := HDGE.out; omega))
      go_wp2_with fail
      refine HR.out.mono ?_
      rintro e w4 ⟨A2, n2, c2, rfl, own, k4⟩
      obtain rfl : n2 = n + 1 := by have := own.len; rw [fC] at this; exact this.symm
      have low2 : Low BB (cK BB (co (aT (am (l.take k))) dg) (n + 1)) := fB (by unfold BB; omega) _ _
      have hL := own.toLimbs low2 (by omega)
      obtain ⟨t5, ht⟩ : ∃ x, x = eE (cK BB (co (aT (am (l.take k))) dg) (n + 1)) := ⟨_, rfl⟩
      have hNX := HS.out.next (u := .int .u8 (48 + (dg : Int))) hkl HD.out (A' := A2) (c' := c2) (w4 := w4) (by rw [<- HDGE.out]; exact own) k4 t5 (by rw [<- HDGE.out]; exact ht)
      have KA : K0 wr w4 := (kR.alloc _).trans k4
      have hm4 := KA.heap HS.out.m (by simp)
      have hx4 := KA.heap HS.out.x (by simp)
      have q0 : w4.cell? ⟨Bm, 0, none⟩ = some (.slice A n c) := by rw [cell_of_row w4 _ _ _ _ _ hm4]; rfl
      have q1 : w4.frozen? ⟨Bm, 0, none⟩ = false := by simp [World.frozen?, hm4]
      have HT := hid ht
      have HNX := hid hNX
      have HX4 := hid hx4
      have HKA := hid (HS.out.K.trans KA)
      clear HR own k4 low2 hNX KA hm4 hx4 cm hBm
      try dsimp only
      go_wp2_with fail
      refine (d7 A2 (n + 1) c2 _ w4 hL).mono ?_
      rintro e wx ⟨rfl, rfl⟩
      rw [<- HT.out]
      clear hL ht
      have hxm := HS.out.xm
      have hmx : Bm ≠ Bx := fun e => hxm e.symm
      by_cases hbig : 48 < t5
      · have hbi : (48 : Int) < (t5 : Int) := by omega
        have hnf := gS (neg := false) (l := l) (k := k + 1) (by rw [<- HNX.out.1]; exact hbig)
        have HNF := hid hnf
        have s0 : w4.cell? ⟨Bx, 0, none⟩ = some (.bool false) := by rw [cell_of_row w4 _ _ _ _ _ HX4.out]; rfl
        have s1 : w4.cell? ⟨Bx, 1, none⟩ = some (.slice none 0 0) := by rw [cell_of_row w4 _ _ _ _ _ HX4.out]; rfl
        have s2 : w4.frozen? ⟨Bx, 0, none⟩ = false := by simp [World.frozen?, HX4.out]
        have s3 : w4.frozen? ⟨Bx, 1, none⟩ = false := by simp [World.frozen?, HX4.out]
        have KS : ah (fun x => x = Bm) w4 (w4.setCell ⟨Bm, 0, none⟩ (.slice A2 t5 c2)) := cX (S := fun x => x = Bm) rfl 0 _
        have HE2 := hid (bw (KS.heap HX4.out hxm) (.bool false) (.slice none 0 0))
        have HKE := hid (bX (HKA.out.into KS (by rintro i rfl; exact HS.out.wm)) HBX.out (.bool false) (.slice none 0 0))
        clear hbig hnf KS
        try dsimp only
        go_wp2_with fail
        obtain ⟨e0, e1⟩ := HE2.out
        refine bodyPost_ret (v := .tuple #[aw false none 0 0, .int .i64 6]) ?_ rfl ?_
        · simp [results, Tryz.results129, go_sem, e0, e1]
        · unfold bh
          rw [HPV.out]
          exact ⟨HKE.out, .inl ⟨HNF.out, rfl⟩⟩
      · have hbi : decide ((48 : Int) < (t5 : Int)) = false := dF (by omega)
        have HN5 := hid (HNX.out.2 (by omega))
        try dsimp only
        go_wp2_with fail
        go_roundw
        case rel => exact ⟨k + 1, _, _, _, by omega, by go_num, HN5.out⟩
        case measure => simp [RowKit.intOf]; omega
    · have hd : decide ((k : Int) < (l.length : Int)) = false := dF (by omega)
      have ek : k = l.length := by omega
      have hE : fv false (aT (am (l.take k))) = (if false = true then -(am l : Int) else (am l : Int)) := by rw [iF, ek, List.take_length]
      have HEQ := hid hE
      have hLm := HS.out.own.toLimbs (aZ BB2 _) (by omega)
      have HR := hid (fun (e : Ending) (w2 : World) => j3 (x := fv false (aT (am (l.take k)))) (e := e) (w2 := w2) HS.out.K HBX.out (ao HS.out.x) HS.out.x)
      clear hE ek
      go_wp2_with fail
      refine (iX false A n c _ _ hLm).mono ?_
      intro e w9 hres
      obtain ⟨ng, A9, n9, c9, f9, rfl, c0, c1, f0, f1, e0, e1, P⟩ := HR.out _ _ hres
      rw [HEQ.out] at P
      have HP9 := hid P
      have HEE := hid (And.intro e0 e1)
      clear hres P hLm e0 e1
      try dsimp only
      go_wp2_with fail
      refine bodyPost_ret (v := .tuple #[aw ng A9 n9 c9, .int .i64 f9]) ?_ rfl (by unfold bh; rw [HPV.out]; exact HP9.out)
      obtain ⟨e0, e1⟩ := HEE.out
      simp [results, Tryz.results129, go_sem, e0, e1]
 · have hP : aG s.data.toList = none := by
    unfold aG
    rw [if_pos (.inr (by simpa using hA))]
   have HPV := hid hP
   have HA := hid hA
   clear hE hP hA hsz
   go_enter Tryz.func129, Tryz.ntmps129
   go_wp2_with fail
   refine (Tryz.strings_HasPrefix s ⟨#[45]⟩ _).mono ?_
   rintro e w1 ⟨rfl, rfl⟩
   rw [show Lib.hasPrefix s.data.toList (⟨#[45]⟩ : ByteArray).data.toList = false from HN.out]
   try dsimp only
   go_wp2_with fail
   refine (Tryz.strings_HasPrefix s ⟨#[43]⟩ _).mono ?_
   rintro e w1 ⟨rfl, rfl⟩
   rw [show Lib.hasPrefix s.data.toList (⟨#[43]⟩ : ByteArray).data.toList = false from HP.out]
   try dsimp only
   go_wp2_with fail
   refine (bE s _ HSZ.out).mono ?_
   rintro e w2 ⟨rfl, k2⟩
   obtain ⟨t, ht⟩ : ∃ t : ByteArray, t = ⟨(Lib.trimS s.data.toList [48, 49, 50, 51, 52, 53, 54, 55, 56, 57]).toArray⟩ := ⟨_, rfl⟩
   rw [<- ht]
   have hte : t.toList.isEmpty = false := by
    rw [Lib.toList_data, ht]
    show (Lib.trimS s.data.toList [48, 49, 50, 51, 52, 53, 54, 55, 56, 57]).isEmpty = false
    rw [H2.out]
    cases h : Lib.trimS (aX s.data.toList) [48, 49, 50, 51, 52, 53, 54, 55, 56, 57] with
    | nil => exact absurd ((cR _).1 h) HA.out
    | cons _ _ => rfl
   have K2 := HK.out.trans k2
   have hb2 := k2.heap HB.out (by simp)
   clear ht
   try dsimp only
   have r0 : w2.cell? ⟨w.heap.size, 0, none⟩ = some (.bool false) := by rw [cell_of_row w2 _ _ _ _ _ hb2]; rfl
   have r1 : w2.cell? ⟨w.heap.size, 1, none⟩ = some (.slice none 0 0) := by rw [cell_of_row w2 _ _ _ _ _ hb2]; rfl
   have f0 : w2.frozen? ⟨w.heap.size, 0, none⟩ = false := by simp [World.frozen?, hb2]
   have f1 : w2.frozen? ⟨w.heap.size, 1, none⟩ = false := by simp [World.frozen?, hb2]
   have HE2 := hid (bw hb2 (.bool false) (.slice none 0 0))
   have HKE := hid (bX K2 (Nat.le_refl w.heap.size) (.bool false) (.slice none 0 0))
   clear K2 k2 hb2
   go_wp2_with fail
   obtain ⟨e0, e1⟩ := HE2.out
   refine bodyPost_ret (v := .tuple #[aw false none 0 0, .int .i64 9]) ?_ rfl ?_
   · simp [results, Tryz.results129, go_sem, e0, e1]
   · unfold bh
     rw [HPV.out]
     exact ⟨rfl, HKE.out⟩
theorem jz (s : ByteArray) (w : World) (hs : s.size <= 1000000) : Calls Tryz.prog 129 #[.string s] w (bh s.data.toList w) := by
 by_cases h1 : Lib.hasPrefix s.data.toList [45] = true
 · exact nI s w hs h1
 · by_cases h2 : Lib.hasPrefix s.data.toList [43] = true
   · exact md s w hs (by simpa using h1) h2
   · exact me s w hs (by simpa using h1) (by simpa using h2)
end Go.Proofs.YtonnikipeokkaaaGreatDoor
