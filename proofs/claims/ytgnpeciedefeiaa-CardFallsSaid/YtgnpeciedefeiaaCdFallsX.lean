/-
  morainelaw09.CardFalls: the plain law, marks, the walk.
-/
import Derived.Test.YtgnpeciedefeiaaCdVainW
namespace Go.Proofs.Ytgnpeciedefeiaa
open Go.RowKit

/-- Of two memories: no mark is raised, and at most one is changed. -/
structure FallM (M N : MemV) : Prop where
  lim : N.lim = M.lim
  gen : ∀ t, (N.sg t).gen = (M.sg t).gen
  taken : ∀ t, (N.sg t).taken = (M.sg t).taken
  down : ∀ t d, d < 4 → (N.sg t).card d ≤ (M.sg t).card d
  one : ∃ t0 d0, ∀ t d, d < 4 → ¬ (t = t0 ∧ d = d0) → (N.sg t).card d = (M.sg t).card d
theorem youngV_le (M : MemV) (s : Sg) (u : Nat) (m : Int) : youngV M s u m ≤ m := by
  unfold youngV
  split
  · split
    · omega
    · omega
  · omega
theorem StoreR.falls {M M' : MemV} {addr f : Int} {u : Nat} (h : StoreR M addr u f M') : FallM M M' := by
  rcases h with ⟨_, _, rfl⟩ | ⟨a, _, _, _, _, _, rfl⟩
  · exact ⟨rfl, fun _ => rfl, fun _ => rfl, fun _ _ _ => Int.le_refl _, 0, 0, fun _ _ _ _ => rfl⟩
  · have hc : a % 64 / 16 < 4 := by omega
    unfold storeV
    simp only [put_sg, put_put]
    obtain ⟨s', hs'⟩ : ∃ s', s' = ((M.sg (a / 64)).write (a % 64) u).mark (a % 64 / 16) (youngV (M.put (a / 64) ((M.sg (a / 64)).write (a % 64) u)) ((M.sg (a / 64)).write (a % 64) u) u ((M.sg (a / 64)).card (a % 64 / 16))) := ⟨_, rfl⟩
    rw [← hs']
    have hoth : ∀ t, t ≠ a / 64 → (M.put (a / 64) s').sg t = M.sg t := fun t e => by simp only [MemV.put, if_neg e]
    have hsame : ∀ d, d < 4 → d ≠ a % 64 / 16 → s'.card d = (M.sg (a / 64)).card d := fun d hd ed => by rw [hs', mark_other _ _ _ _ hc hd ed, write_card]
    have hlow : s'.card (a % 64 / 16) ≤ (M.sg (a / 64)).card (a % 64 / 16) := by rw [hs', mark_self _ _ _ hc]; exact youngV_le _ _ _ _
    have hg : s'.gen = (M.sg (a / 64)).gen := by rw [hs']; rfl
    have ht : s'.taken = (M.sg (a / 64)).taken := by rw [hs']; rfl
    refine ⟨rfl, fun t => ?_, fun t => ?_, fun t d hd => ?_, a / 64, a % 64 / 16, fun t d hd hne => ?_⟩
    · by_cases e : t = a / 64
      · rw [e, put_sg, hg]
      · rw [hoth t e]
    · by_cases e : t = a / 64
      · rw [e, put_sg, ht]
      · rw [hoth t e]
    · by_cases e : t = a / 64
      · rw [e, put_sg]
        by_cases ed : d = a % 64 / 16
        · rw [ed]; exact hlow
        · rw [hsame d hd ed]; exact Int.le_refl _
      · rw [hoth t e]; exact Int.le_refl _
    · by_cases e : t = a / 64
      · rw [e, put_sg]
        exact hsame d hd (fun ed => hne ⟨e, ed⟩)
      · rw [hoth t e]
theorem FallM.dirty {M N : MemV} (h : FallM M N) {g : Int} {t d : Nat} (hd : d < 4) (hh : dirtyB M g t d = true) : dirtyB N g t d = true := by
  unfold dirtyB at *
  rw [Bool.and_eq_true, decide_eq_true_eq, decide_eq_true_eq] at *
  rw [h.gen]
  exact ⟨hh.1, Int.le_trans (h.down t d hd) hh.2⟩
theorem FallM.mem {M N : MemV} (h : FallM M N) {g : Int} {L : List Nat} {x : Nat × Nat} (hx : x ∈ dirtyL M g L) : x ∈ dirtyL N g L := by
  obtain ⟨t, d⟩ := x
  rw [mem_dirtyL] at *
  exact ⟨hx.1, hx.2.1, h.dirty hx.2.1 hx.2.2⟩

/-- All marks, in order. -/
def marksL (M : MemV) (L : List Nat) : List Int := L.flatMap fun t => [(M.sg t).c0, (M.sg t).c1, (M.sg t).c2, (M.sg t).c3]
theorem marksL_len (M : MemV) : ∀ L : List Nat, (marksL M L).length = 4 * L.length
  | [] => rfl
  | t :: L => by
    have ih := marksL_len M L
    unfold marksL at *
    rw [List.flatMap_cons, List.length_append, ih, List.length_cons]
    simp
    omega
theorem marksL_get (M : MemV) : ∀ (L : List Nat) (i d : Nat), i < L.length → d < 4 → (marksL M L).getD (4 * i + d) 0 = (M.sg (L.getD i 0)).card d
  | [], i, _, h, _ => by simp at h
  | t :: L, 0, d, _, hd => by
    unfold marksL
    rw [List.flatMap_cons]
    match d, hd with
    | 0, _ | 1, _ | 2, _ | 3, _ => rfl
  | t :: L, i + 1, d, h, hd => by
    have ih := marksL_get M L i d (by simpa using h) hd
    have e : marksL M (t :: L) = (M.sg t).c0 :: (M.sg t).c1 :: (M.sg t).c2 :: (M.sg t).c3 :: marksL M L := by simp [marksL]
    rw [e, show 4 * (i + 1) + d = 4 * i + d + 1 + 1 + 1 + 1 from by omega]
    simpa using ih

/-- How many of the first k have fallen. -/
def fell (a b : Nat → Int) : Nat → Nat
  | 0 => 0
  | k + 1 => fell a b k + if b k < a k then 1 else 0
theorem fell_le {a b : Nat → Int} {j0 : Nat} : ∀ k, (∀ j, j < k → j ≠ j0 → b j = a j) → fell a b k ≤ (if j0 < k then 1 else 0)
  | 0, _ => by simp [fell]
  | k + 1, h => by
    have ih := fell_le k (fun j hj => h j (by omega))
    unfold fell
    by_cases e : k = j0
    · subst e
      rw [if_neg (by omega : ¬ k < k)] at ih
      rw [if_pos (by omega : k < k + 1)]
      split <;> omega
    · have := h k (by omega) e
      rw [if_neg (by omega : ¬ b k < a k)]
      split at ih <;> split <;> omega
/-- At most one mark has fallen. -/
theorem FallM.fell {M N : MemV} (h : FallM M N) {L : List Nat} (T : TakenL M [] L) : Go.Proofs.Ytgnpeciedefeiaa.fell (fun j => (marksL M L).getD j 0) (fun j => (marksL N L).getD j 0) (4 * L.length) ≤ 1 := by
  obtain ⟨t0, d0, ho⟩ := h.one
  have same : ∀ j, j < 4 * L.length → ¬ (L.getD (j / 4) 0 = t0 ∧ j % 4 = d0) → (marksL N L).getD j 0 = (marksL M L).getD j 0 := by
    intro j hj hne
    have e : j = 4 * (j / 4) + j % 4 := by omega
    rw [e, marksL_get N L _ _ (by omega) (by omega), marksL_get M L _ _ (by omega) (by omega)]
    exact ho _ _ (by omega) hne
  by_cases hex : ∃ i, i < L.length ∧ L.getD i 0 = t0
  · obtain ⟨i, hi, hit⟩ := hex
    have := fell_le (j0 := 4 * i + d0) (4 * L.length) (fun j hj hne => same j hj (fun ⟨h1, h2⟩ => by
      have := T.inj (i := j / 4) (j := i) (by omega) hi (h1.trans hit.symm)
      omega))
    split at this <;> omega
  · have := fell_le (j0 := 4 * L.length) (4 * L.length) (fun j hj _ => same j hj (fun ⟨h1, _⟩ => hex ⟨j / 4, by omega, h1⟩))
    split at this <;> omega
theorem FallM.nth {M N : MemV} (h : FallM M N) {L : List Nat} {j : Nat} (hj : j < 4 * L.length) : (marksL N L).getD j 0 ≤ (marksL M L).getD j 0 := by
  have e : j = 4 * (j / 4) + j % 4 := by omega
  rw [e, marksL_get N L _ _ (by omega) (by omega), marksL_get M L _ _ (by omega) (by omega)]
  exact h.down _ _ (by omega)
end Go.Proofs.Ytgnpeciedefeiaa

namespace Go.Proofs.Ytgnpeciedefeiaa
open Go.RowKit

def MarksPost (M : MemV) (w : World) (e : Ending) (w' : World) : Prop :=
  ∃ (L : List Nat) (A : Option Addr) (c : Nat), TakenL M [] L ∧ e = .returned (.slice A (marksL M L).length c) ∧ IntsAt w' A (marksL M L).length (marksL M L) ∧ (∀ b off, A = some ⟨b, off, none⟩ → w.heap.size ≤ b) ∧ Keep (fun _ => False) w w'

theorem four_at (w : World) (x y z u : Value) (t : TypeId) : ∀ j v, [x, y, z, u][j]? = some v → (w.alloc (.cells #[x, y, z, u] t)).cell? ((⟨w.heap.size, 0, none⟩ : Addr).add j) = some v := by
  intro j v h
  match j with
  | 0 => simp at h; subst h; simp [Addr.add]
  | 1 => simp at h; subst h; simp [Addr.add]
  | 2 => simp at h; subst h; simp [Addr.add]
  | 3 => simp at h; subst h; simp [Addr.add]
  | j + 4 => simp at h

theorem marksL_take (M : MemV) (L : List Nat) (i : Nat) (hi : i < L.length) : marksL M (L.take (i + 1)) = marksL M (L.take i) ++ [(M.sg (L.getD i 0)).c0, (M.sg (L.getD i 0)).c1, (M.sg (L.getD i 0)).c2, (M.sg (L.getD i 0)).c3] := by
  unfold marksL
  rw [List.take_succ_eq_append_getElem hi, List.flatMap_append, List.getD_eq_getElem?_getD, List.getElem?_eq_getElem hi]
  simp

set_option maxRecDepth 100000 in
set_option maxHeartbeats 4000000 in
theorem marks_any {w : World} {c s p g : Nat} {S : SpV} (h : CdAt w c s p g S) (ok : S.Ok) :
    Calls Try.prog 45 #[.pointer (some ⟨c, 0, none⟩)] w (MarksPost S.M w) := by
  obtain ⟨i0, hi0, hz0, hz1, hz2⟩ := info_parts info3
  have c0 := h.ptr
  have s0 := h.sp.ptr
  have l1024 := ok.mem.l1024
  go_enter Try.func45, Try.ntmps45
  go_wp2_with fail
  refine (taken_any p g S.M ok.mem none 0 0 [] _ h.sp.mem (IntsAt.nil _ _) (by omega)).mono ?_
  rintro e w1 ⟨A', c', L', rfl, I1, T', m1, K1⟩
  have hl : L'.length ≤ 1024 := by have := T'.len; have := sel_len S.M [] S.M.lim; omega
  have h1 := h.keep0 K1
  have HT := Lib.hid T'
  clear c0 s0 T' h m1
  go_wp2_with fail
  go_loopw [3, 5] (fun v i wr => ∃ k : Nat, k ≤ L'.length ∧ i = .int .i64 k ∧ wr.ownsRow w1.heap.size 3 1 v (marksL S.M (L'.take k)).length ((marksL S.M (L'.take k)).map (Value.int .i64)) ∧ Keep (fun _ => False) w1 wr) (fun _ i _ => L'.length - (intOf i).toNat)
  case atStart => exact ⟨0, Nat.zero_le _, rfl, World.ownsRow_nil _ _ _ _, Keep.refl _ _⟩
  case round =>
    obtain ⟨k, hk, rfl, own, K⟩ := hrel
    have Own := Lib.hid own
    clear own
    by_cases hlt : k < L'.length
    · obtain ⟨b, off, rfl, hb, hcell⟩ := ints_cell (I1.keep0 K) hlt
      obtain ⟨htl, htt⟩ := HT.out.mem (getD_mem hlt)
      have htk := marksL_take S.M L' k hlt
      have hlen := marksL_len S.M (L'.take k)
      have hlen2 : (L'.take k).length ≤ 1024 := by rw [List.length_take]; omega
      obtain ⟨t, ht⟩ : ∃ t, t = L'.getD k 0 := ⟨_, rfl⟩
      rw [← ht] at hcell htl htt htk
      have HTK := Lib.hid htk
      have HT1 := Lib.hid htl
      have HT2 := Lib.hid htt
      have Hlen := Lib.hid (show (marksL S.M (L'.take k)).length ≤ 4096 by omega)
      have hr := h1.keep0 K
      have HR := Lib.hid hr
      have c0 := hr.ptr
      have s0 := hr.sp.ptr
      clear htk ht hlen hlen2 htl htt hr
      go_upto_region 6 with (fail)
      go_cut [6, 7] (fun b o wx => ∃ xb : Nat, b = .pointer (some ⟨xb, 0, none⟩) ∧ o = .bool true ∧ SAt wx xb (S.M.sg t) ∧ Keep (fun _ => False) wr wx)
      case first =>
        have e1 := World.new_ne wr _ hcell
        have e2 := World.new_ne wr _ c0
        have e3 := World.new_ne wr _ s0
        have Kr : Keep (fun _ => False) wr wr.drew := (Keep.refl _ _).drew
        go_region_held3 (fun w' => w'.cell? ⟨c, 0, none⟩ = some (.pointer (some ⟨s, 0, none⟩)) ∧ w'.cell? ⟨s, 0, none⟩ = some (.pointer (some ⟨p, 0, none⟩)) ∧ w'.cell? ⟨b, off + k, none⟩ = some (.int .i64 (t : Int))) (go_keep)
          ((go_at_call 17; refine (seg_yes_v9 p g S.M t _ ?_ l1024 HT1.out HT2.out).mono ?_; (exact HR.out.sp.mem.keep (S := fun _ => False) (by repeat (first | exact Keep.refl _ _ | with_reducible apply Keep.drew | with_reducible apply Keep.alloc)) id id); rintro e w4 ⟨oo, rfl, rfl⟩))
        all_goals (go_wp2_with fail)
        all_goals go_meet
        all_goals refine ⟨_, rfl, rfl, ?_, (((Keep.refl _ _).alloc _).alloc _).drew⟩
        all_goals (first | exact sat1_9 _ _ _ | exact sat2_9 _ _ _)
      case rest =>
        obtain ⟨xb, rfl, rfl, hS, Kx⟩ := hcut
        have K4 := K.trans Kx
        have own4 := Lib.hid (own_keep Kx Own.out (fun _ _ => id))
        obtain ⟨x0, x1, x2, x3, x4, x5, x6⟩ := hS.cells
        clear c0 s0 hcell Kx K HR hS
        go_wp2_with (at_builtin; refine wpList_append_own _ rfl (.tmp 37) (.tmp 50) 47 rfl w1.heap.size 3 i0 (.int .i64 0) 1 8 Try.underlying47 hi0 hz0 hz1 hz2 rfl (by decide) _ _ _ rfl (own4.out.alloc _) ⟨_, 0, none⟩ 4 4 [.int .i64 (S.M.sg t).c0, .int .i64 (S.M.sg t).c1, .int .i64 (S.M.sg t).c2, .int .i64 (S.M.sg t).c3] rfl rfl (four_at _ _ _ _ _ _) ?a1 ?a2 ?a3 ?a4 ?_)
        case a1 => intro u hu; simp at hu; rcases hu with rfl | rfl | rfl | rfl <;> rfl
        case a2 => have := Hlen.out; unfold maxLen; omega
        case a3 => have := Hlen.out; omega
        case a4 => have := K4.size; simp; omega
        intro v' w5 own5 hgrow _
        have K5 : Keep (fun _ => False) w1 w5 := (K4.alloc (.cells #[.int .i64 (S.M.sg t).c0, .int .i64 (S.M.sg t).c1, .int .i64 (S.M.sg t).c2, .int .i64 (S.M.sg t).c3] 3)).grown hgrow (fun b hb => .inr (own_type own4.out hb).1)
        have own6 : w5.ownsRow w1.heap.size 3 1 v' (marksL S.M (L'.take (k + 1))).length ((marksL S.M (L'.take (k + 1))).map (Value.int .i64)) := by
          rw [HTK.out]
          simpa using own5
        have Own6 := Lib.hid own6
        clear own5 hgrow own6 x0 x1 x2 x3 x4 x5 x6
        go_wp2
        go_roundw
        case rel => exact ⟨k + 1, by omega, by go_num, Own6.out, K5⟩
        case measure => simp [intOf]; omega
    · obtain rfl : k = L'.length := by omega
      have own := Own.out
      rw [List.take_length] at own
      obtain ⟨A, cc, rfl, hI, hb⟩ := own_ints own
      clear own
      go_wp2_with fail
      go_ret
      exact ⟨L', A, cc, HT.out, rfl, hI, fun b off e => Nat.le_trans K1.size (hb b off e).1, K1.trans K⟩
end Go.Proofs.Ytgnpeciedefeiaa

namespace Go.Proofs.Ytgnpeciedefeiaa
open Go.RowKit

/-- The four slices of dirty cards: those below k are filled. -/
structure Four (w : World) (db : Nat) (M : MemV) (L : List Nat) (k : Nat) (v : Nat → Value) : Prop where
  head : w.heap[db]? = some (.cells #[v 0, v 1, v 2, v 3] 94 (0, 0))
  at_ : ∀ j, j < k → ∃ A c, v j = .slice A (dirtyL M j L).length c ∧ CardsAt w A (dirtyL M j L).length (dirtyL M j L) ∧ ∀ b off, A = some ⟨b, off, none⟩ → db < b

theorem Four.keep {w w' : World} {db : Nat} {M : MemV} {L : List Nat} {k : Nat} {v : Nat → Value} (h : Four w db M L k v) (K : Keep (fun _ => False) w w') : Four w' db M L k v :=
  ⟨K.heap h.head (by simp), fun j hj => by
    obtain ⟨A, c, e, hC, hb⟩ := h.at_ j hj
    exact ⟨A, c, e, hC.keep0 K, hb⟩⟩
theorem Four.put {w : World} {db : Nat} {M : MemV} {L : List Nat} {k : Nat} {v : Nat → Value} (h : Four w db M L k v) (hk : k < 4) {A : Option Addr} {c : Nat} (hC : CardsAt w A (dirtyL M k L).length (dirtyL M k L)) (hb : ∀ b off, A = some ⟨b, off, none⟩ → db < b) :
    Four (w.setCell ⟨db, k, none⟩ (.slice A (dirtyL M k L).length c)) db M L (k + 1) (fun j => if j = k then .slice A (dirtyL M k L).length c else v j) := by
  have K : Keep (fun b => b = db) w (w.setCell ⟨db, k, none⟩ (.slice A (dirtyL M k L).length c)) := (Keep.refl (fun b => b = db) w).setCell (p := ⟨db, k, none⟩) (.inl rfl) _
  refine ⟨?_, fun j hj => ?_⟩
  · have hh := h.head
    match k, hk with
    | 0, _ | 1, _ | 2, _ | 3, _ => simp [World.setCell, Array.getElem?_modify, hh]
  · by_cases e : j = k
    · subst e
      exact ⟨A, c, by simp, hC.keep K (fun b off e => by have := hb b off e; show ¬ b = db; omega), hb⟩
    · obtain ⟨A', c', e', hC', hb'⟩ := h.at_ j (by omega)
      exact ⟨A', c', by simp only [if_neg e]; exact e', hC'.keep K (fun b off e => by have := hb' b off e; show ¬ b = db; omega), hb'⟩

theorem Four.keepP {T : Nat → Prop} {w w' : World} {db : Nat} {M : MemV} {L : List Nat} {k : Nat} {v : Nat → Value} (h : Four w db M L k v) (K : Keep T w w') (hT : ∀ b, db ≤ b → ¬ T b) : Four w' db M L k v :=
  ⟨K.heap h.head (hT db (Nat.le_refl _)), fun j hj => by
    obtain ⟨A, c, e, hC, hb⟩ := h.at_ j hj
    exact ⟨A, c, e, hC.keep K (fun b off e => hT b (Nat.le_of_lt (hb b off e))), hb⟩⟩
theorem fell_bd (a b : Nat → Int) : ∀ k, fell a b k ≤ k
  | 0 => Nat.le_refl _
  | k + 1 => by
    have := fell_bd a b k
    unfold fell
    split <;> omega
theorem fell_yes {a b : Nat → Int} {k : Nat} (h : b k < a k) : fell a b (k + 1) = fell a b k + 1 := by
  show fell a b k + (if b k < a k then 1 else 0) = _
  rw [if_pos h]
theorem fell_no {a b : Nat → Int} {k : Nat} (h : ¬ b k < a k) : fell a b (k + 1) = fell a b k := by
  show fell a b k + (if b k < a k then 1 else 0) = _
  rw [if_neg h, Nat.add_zero]
theorem FallM.takenL {M N : MemV} (h : FallM M N) {L : List Nat} (T : TakenL M [] L) : TakenL N [] L := by
  refine takenL_of_iff (by simpa only [h.taken] using T.rise) (fun i => ?_)
  rw [T.iff, h.lim]
  unfold selB
  rw [h.taken, h.gen]

set_option maxRecDepth 100000 in
set_option maxHeartbeats 8000000 in
theorem cardFalls_any (limit : Int) (A : Option Addr) (len cap : Nat) (acts : Nat → ActV) (x : ActV) (xok : x.Ok) (w : World) (hA : ActsAt w A len acts) (hmax : len ≤ maxLen) :
    Calls Try.prog 10 #[.int .i64 limit, .slice A len cap, actArg x] w fun e w' => e = .returned (.bool true) ∧ Keep (fun _ => False) w w' := by
  have k0 : Keep (fun _ => False) w (w.alloc (.cells #[.int .i64 x.op, .int .i64 x.a, .int .i64 x.b, .int .i64 x.c, .int .u64 x.w] 92)) := (Keep.refl _ _).alloc _
  have hA2 : ActsAt (w.alloc (.cells #[.int .i64 x.op, .int .i64 x.a, .int .i64 x.b, .int .i64 x.c, .int .u64 x.w] 92)) A len acts := fun j hj => by
    obtain ⟨b, off, e, hb, r⟩ := hA.at_ k0 hj
    exact ⟨b, off, e, hb, r⟩
  have HP := Lib.hid (played_any limit A len cap acts _ hA2 hmax)
  have HX := Lib.hid (X9At.new w x)
  have XOK := Lib.hid xok
  clear hA hA2 hmax xok
  go_enter Try.func10, Try.ntmps10
  go_wp2_with fail
  refine HP.out.mono ?_
  clear HP
  generalize w.heap.size = xb at HX ⊢
  generalize w.alloc (.cells #[.int .i64 x.op, .int .i64 x.a, .int .i64 x.b, .int .i64 x.c, .int .u64 x.w] 92) = w0 at k0 HX ⊢
  rintro e w1 ⟨k1, rfl | ⟨c, s, p, g, S, rfl, hc, hs, hp, hg, h1, ok, hcn⟩⟩
  · go_wp2_with fail
    refine (awake9 _).mono ?_
    rintro e w2 ⟨rfl, k2⟩
    go_wp2_with fail
    go_ret
    exact ⟨rfl, (k0.trans k1).trans k2⟩
  · go_wp2_with fail
    refine (marks_any h1 ok).mono ?_
    rintro e w2 ⟨L, A1, c1, T, rfl, I1, hA1, k2⟩
    have HT := Lib.hid T
    clear T
    have h2 := h1.keep0 k2
    have K2 := (k0.trans k1).trans k2
    have HX2 := Lib.hid (HX.out.keep (k1.trans k2) (by simp))
    have HX0 := HX
    have h1s := h1.sp.lt
    have h1p := h1.sp.mem.lt
    have h1g := h1.sp.mem.segs.lt
    clear h1 k1 k2 HX hcn
    go_wp2_with fail
    have H4 : Four (w2.alloc (.cells #[.slice none 0 0, .slice none 0 0, .slice none 0 0, .slice none 0 0] 94)) w2.heap.size S.M L 0 (fun _ => .slice none 0 0) := ⟨heap_alloc_new _ _, fun j hj => absurd hj (by omega)⟩
    have hxb : xb < w2.heap.size := HX2.out.lt
    have hIb : 0 < (marksL S.M L).length → ∀ b off, A1 = some ⟨b, off, none⟩ → b < w2.heap.size := by
      intro h0 b off e
      obtain ⟨b', off', e', hb', _⟩ := I1.2 0 h0
      rw [e] at e'
      injection e' with e'
      injection e' with e1 _ _
      omega
    have hIc : 0 < (marksL S.M L).length → ∀ b off, A1 = some ⟨b, off, none⟩ → ¬ MineS s p g b := by
      intro _ b off e
      have := hA1 b off e
      have := h1s
      have := h1p
      have := h1g
      rintro (h | h | h) <;> omega
    have HIC := Lib.hid hIc
    have hxm : ¬ MineS s p g xb := by
      have := HX0.out.lt
      rintro (h | h | h) <;> omega
    have h2c := h2.lt
    have h2s := h2.sp.lt
    have h2p := h2.sp.mem.lt
    have h2g := h2.sp.mem.segs.lt
    have kd : Keep (fun _ => False) w2 (w2.alloc (.cells #[.slice none 0 0, .slice none 0 0, .slice none 0 0, .slice none 0 0] 94)) := (Keep.refl _ _).alloc _
    replace h2 := h2.keep0 kd
    replace I1 := I1.keep0 kd
    replace HX2 := Lib.hid (HX2.out.keep kd (by simp))
    have hdb : w.heap.size ≤ w2.heap.size := K2.size
    have hdl : w2.heap.size < (w2.alloc (.cells #[.slice none 0 0, .slice none 0 0, .slice none 0 0, .slice none 0 0] 94)).heap.size := by simp
    have ncd : ¬ w2.heap.size = c ∧ ¬ w2.heap.size = s ∧ ¬ w2.heap.size = p ∧ ¬ w2.heap.size = g := by
      have := h2c
      have := h2s
      have := h2p
      have := h2g
      omega
    have hmd : ∀ b, w2.heap.size ≤ b → ¬ MineS s p g b := by
      intro b hb
      have := h2s
      have := h2p
      have := h2g
      rintro (h | h | h) <;> omega
    have K3 := K2.trans kd
    clear kd K2 h2c h2s h2p h2g h1s h1p h1g hA1 hIc HX0
    generalize w2.heap.size = db at H4 hdb hdl ncd hxb hIb hmd ⊢
    generalize w2.alloc (.cells #[.slice none 0 0, .slice none 0 0, .slice none 0 0, .slice none 0 0] 94) = w3 at h2 I1 HX2 hdl H4 K3 ⊢
    go_loopw [10] (fun gv wr => ∃ (gg : Nat) (v : Nat → Value), gg ≤ 4 ∧ gv = .int .i64 gg ∧ Four wr db S.M L gg v ∧ Keep (fun b => b = db) w3 wr) (fun gv _ => 4 - (intOf gv).toNat)
    case atStart => exact ⟨0, _, by omega, rfl, H4, Keep.refl _ _⟩
    case round =>
      obtain ⟨gg, v, hgg, rfl, F, K⟩ := hrel
      by_cases hg4 : gg < 4
      · have hw := h2.keep K (fun e => ncd.1 e.symm) (fun e => ncd.2.1 e.symm) (fun e => ncd.2.2.1 e.symm) (fun e => ncd.2.2.2 e.symm)
        have HF := Lib.hid F
        have HK := Lib.hid K
        clear F K
        go_wp2_with fail
        refine (dirty_any hw ok HT.out (gg : Int)).mono ?_
        rintro e w6 ⟨A6, c6, rfl, C6, hb6, k6⟩
        have F6 := HF.out.keep k6
        have K6 := HK.out.trans (k6.mono (fun _ _ h => h.elim))
        have hcell : w6.cell? ⟨db, gg, none⟩ = some (v gg) := by
          rw [cell_of_row w6 _ _ _ _ _ F6.head]
          match gg, hg4 with
          | 0, _ | 1, _ | 2, _ | 3, _ => rfl
        have hfro : w6.frozen? ⟨db, gg, none⟩ = false := by simp [World.frozen?, F6.head]
        have hbd : ∀ b off, A6 = some ⟨b, off, none⟩ → db < b := by
          intro b off e
          have := hb6 b off e
          have := HK.out.size
          omega
        have F7 := Lib.hid (F6.put (c := c6) hg4 C6 hbd)
        have K7 := Lib.hid (K6.setCell (p := ⟨db, gg, none⟩) (.inl rfl) (.slice A6 (dirtyL S.M gg L).length c6))
        have gg0 : (0 : Int) ≤ (gg : Int) := by omega
        have gg4 : (gg : Int) < 4 := by omega
        clear F6 K6 C6 hb6 hbd k6 hw
        go_wp2_with fail
        go_roundw
        case rel => exact ⟨gg + 1, _, by omega, by go_num, F7.out, K7.out⟩
        case measure => simp [intOf]; omega
      · obtain rfl : gg = 4 := by omega
        have h3 := h2.keep K (fun e => ncd.1 e.symm) (fun e => ncd.2.1 e.symm) (fun e => ncd.2.2.1 e.symm) (fun e => ncd.2.2.2 e.symm)
        have K9 : Keep (fun _ => False) w wr := K3.into K (fun i e => by rw [e]; exact hdb)
        have HX3 : X9At wr xb x := HX2.out.keep K (by omega)
        have HF := Lib.hid F
        have I3 := Lib.hid (I1.keepP K (fun h0 b off e => by have := hIb h0 b off e; show ¬ b = db; omega))
        have x0 := HX3.cells
        obtain ⟨x0, x1, x2, x3, x4⟩ := x0
        have c0 := h3.ptr
        have s0 := h3.sp.ptr
        have H3 := Lib.hid h3
        have HX := Lib.hid HX3
        have Kr : Keep (fun _ => False) wr wr.drew := (Keep.refl _ _).drew
        have HFR := Lib.hid (fun (w' : World) (K' : Keep (fun _ => False) wr w') => (show w'.cell? ⟨xb, 0, none⟩ = some (.int .i64 x.op) ∧ w'.cell? ⟨xb, 1, none⟩ = some (.int .i64 x.a) ∧ w'.cell? ⟨xb, 2, none⟩ = some (.int .i64 x.b) ∧ w'.cell? ⟨xb, 3, none⟩ = some (.int .i64 x.c) ∧ w'.cell? ⟨xb, 4, none⟩ = some (.int .u64 x.w) ∧ w'.cell? ⟨c, 0, none⟩ = some (.pointer (some ⟨s, 0, none⟩)) ∧ w'.cell? ⟨s, 0, none⟩ = some (.pointer (some ⟨p, 0, none⟩)) from by
          obtain ⟨y0, y1, y2, y3, y4⟩ := (HX.out.keep K' (by simp)).cells
          exact ⟨y0, y1, y2, y3, y4, (H3.out.keep0 K').ptr, (H3.out.keep0 K').sp.ptr⟩))
        clear h3 HX3 F K h2 I1 HX2
        have hs' : w.heap.size ≤ s := Nat.le_trans k0.size hs
        have hp' : w.heap.size ≤ p := Nat.le_trans k0.size hp
        have hg' : w.heap.size ≤ g := Nat.le_trans k0.size hg
        have HMD := Lib.hid hmd
        have HIB := Lib.hid hIb
        clear H4 K3 hmd hIb hdl ncd hxb hdb
        have hFX : ∀ (wz : World) (S0 : SpV), X9At wz xb x → CdAt wz c s p g S0 → wz.cell? ⟨xb, 0, none⟩ = some (.int .i64 x.op) ∧ wz.cell? ⟨xb, 1, none⟩ = some (.int .i64 x.a) ∧ wz.cell? ⟨xb, 2, none⟩ = some (.int .i64 x.b) ∧ wz.cell? ⟨xb, 3, none⟩ = some (.int .i64 x.c) ∧ wz.cell? ⟨xb, 4, none⟩ = some (.int .u64 x.w) ∧ wz.cell? ⟨c, 0, none⟩ = some (.pointer (some ⟨s, 0, none⟩)) ∧ wz.cell? ⟨s, 0, none⟩ = some (.pointer (some ⟨p, 0, none⟩)) := by
          intro wz S0 hx hc
          obtain ⟨y0, y1, y2, y3, y4⟩ := hx.cells
          exact ⟨y0, y1, y2, y3, y4, hc.ptr, hc.sp.ptr⟩
        have HFX := Lib.hid hFX
        clear hFX
        have a1 := XOK.out.a1
        have hr := H3.out.keep0 Kr
        have hx := HX.out.keep Kr (by simp)
        go_wp2_with fail
        go_region_held3 (fun w' => w'.cell? ⟨xb, 0, none⟩ = some (.int .i64 x.op) ∧ w'.cell? ⟨xb, 1, none⟩ = some (.int .i64 x.a) ∧ w'.cell? ⟨xb, 2, none⟩ = some (.int .i64 x.b) ∧ w'.cell? ⟨xb, 3, none⟩ = some (.int .i64 x.c) ∧ w'.cell? ⟨xb, 4, none⟩ = some (.int .u64 x.w) ∧ w'.cell? ⟨c, 0, none⟩ = some (.pointer (some ⟨s, 0, none⟩)) ∧ w'.cell? ⟨s, 0, none⟩ = some (.pointer (some ⟨p, 0, none⟩)))
          (first | exact ⟨x0, x1, x2, x3, x4, c0, s0⟩ | exact HFX.out _ _ (by assumption) (by assumption))
          (first
            | (go_at_call 22; refine (taken_any p g S.M ok.mem none 0 0 [] _ hr.sp.mem (IntsAt.nil _ _) (by omega)).mono ?_; rintro e w4 ⟨A4, c4, L4, rfl, _, T4, _, k4⟩; have h4 := hr.keep0 k4; have X4 := hx.keep k4 (by simp); have hl4 : 64 * L4.length ≤ 65536 := (by have := T4.len; have := sel_len S.M [] S.M.lim; have := ok.mem.l1024; omega); have hw4 : IntKind.i64.wrap (64 * (L4.length : Int)) = ((64 * L4.length : Nat) : Int) := (by rw [IntWalk.i64_in _ (by omega)]; simp); have HW4 := Lib.hid hw4; clear hw4)
            | (go_at_call 47; rw [HW4.out]; refine (word9_any x XOK.out _ hl4 _).mono ?_; rintro e w5 ⟨u, hu, rfl, k5⟩; have h5 := h4.keep0 k5; have X5 := X4.keep k5 (by simp))
            | (go_at_call 46; refine (store_any h5 ok _ u a1 hu).mono ?_; rintro e w6 ⟨M6, f6, rfl, h6, k6, ok6, hc6, hl6, R6⟩; have X6 := X5.keep k6 hxm))
        all_goals
          have FM := R6.falls
          have K6 : Keep (fun _ => False) w w6 := (((K9.drew.trans k4).trans k5).into k6 (mineS_from hs' hp' hg'))
          have kM : Keep (MineS s p g) wr w6 := (((Keep.refl _ _).drew.trans (k4.mono (fun _ _ h => h.elim))).trans (k5.mono (fun _ _ h => h.elim))).trans k6
          have F6 := HF.out.keepP kM HMD.out
          have I6 := I3.out.keepP kM HIC.out
          have T6 := FM.takenL HT.out
          have h6' := h5.into k6 h6.sp
          have HFM := Lib.hid FM
          have HF6 := Lib.hid F6
          have HI6 := Lib.hid I6
          have HT6 := Lib.hid T6
          obtain ⟨S6, hS6⟩ : ∃ S6 : SpV, S6 = { S with M := M6 } := ⟨_, rfl⟩
          have hM6 : M6 = S6.M := by rw [hS6]
          rw [← hS6] at h6 ok6 h6'
          subst hM6
          clear hS6 hc6 hl6 R6 FM kM F6 I6 T6 X6 X5 X4 k4 k5 k6 h4 h5 hr hx h6 x0 x1 x2 x3 x4 c0 s0 T4 HW4 hl4 K9
          go_wp2_with fail
          refine (marks_any h6' ok6).mono ?_
          rintro e w7 ⟨L7, A7, c7, T7, rfl, I7, _, k7⟩
          obtain rfl : L = L7 := HT6.out.unique T7
          replace h6' := h6'.keep0 k7
          have K7 := K6.trans k7
          have HF7 := Lib.hid (HF6.out.keep k7)
          have HI7 := Lib.hid (HI6.out.keep0 k7)
          have l7 : (marksL S.M L).length = (marksL S6.M L).length := by rw [marksL_len, marksL_len]
          have l8 : (marksL S6.M L).length ≤ 4096 := by
            have := HT.out.len
            have := sel_len S.M [] S.M.lim
            have := ok.mem.l1024
            rw [marksL_len]
            omega
          have l9 : (marksL S6.M L).length = 4 * L.length := marksL_len _ _
          rw [l7] at HI7 ⊢
          have HL9 := Lib.hid l9
          have HIM := Lib.hid I7
          clear k7 T7 HF6 HI6 l7 l9 I7 K6
          obtain ⟨m, hm⟩ : ∃ m, m = (marksL S6.M L).length := ⟨_, rfl⟩
          rw [← hm] at HL9 HIM HI7 l8 ⊢
          clear hm
          go_wp2_with fail
          go_loopw [12, 13] (fun nv iv wx => ∃ k : Nat, k ≤ m ∧ iv = .int .i64 k ∧ nv = .int .i64 ((fell (fun j => (marksL S.M L).getD j 0) (fun j => (marksL S6.M L).getD j 0) k : Nat) : Int) ∧ Keep (fun _ => False) w7 wx) (fun _ iv _ => m - (intOf iv).toNat)
          case atStart => exact ⟨0, Nat.zero_le _, rfl, rfl, Keep.refl _ _⟩
          case round =>
            obtain ⟨k, hk, rfl, rfl, K⟩ := hrel
            obtain ⟨nn, hnn⟩ : ∃ nn, nn = fell (fun j => (marksL S.M L).getD j 0) (fun j => (marksL S6.M L).getD j 0) k := ⟨_, rfl⟩
            have hn := fell_bd (fun j => (marksL S.M L).getD j 0) (fun j => (marksL S6.M L).getD j 0) k
            rw [← hnn] at hn ⊢
            by_cases hlt : k < m
            · obtain ⟨b1, o1, rfl, hb1, q1⟩ := (HI7.out.keep0 K).2 k hlt
              obtain ⟨b2, o2, rfl, hb2, q2⟩ := (HIM.out.keep0 K).2 k hlt
              have hle : (marksL S6.M L).getD k 0 ≤ (marksL S.M L).getD k 0 := HFM.out.nth (by rw [← HL9.out]; exact hlt)
              have hy := @fell_yes (fun j => (marksL S.M L).getD j 0) (fun j => (marksL S6.M L).getD j 0) k
              have hz := @fell_no (fun j => (marksL S.M L).getD j 0) (fun j => (marksL S6.M L).getD j 0) k
              rw [← hnn] at hy hz
              have HY := Lib.hid hy
              have HZ := Lib.hid hz
              clear hnn hy hz
              obtain ⟨x1, hx1⟩ : ∃ x1, x1 = (marksL S.M L).getD k 0 := ⟨_, rfl⟩
              obtain ⟨y1, hy1⟩ : ∃ y1, y1 = (marksL S6.M L).getD k 0 := ⟨_, rfl⟩
              rw [← hx1] at q1 hle
              rw [← hy1] at q2 hle
              have HX1 := Lib.hid hx1
              have HY1 := Lib.hid hy1
              have d1 : decide (x1 < y1) = false := by simpa using hle
              clear hx1 hy1
              by_cases hd : y1 < x1
              · have d2 : decide (y1 < x1) = true := by simpa using hd
                have hb : (fun j => (marksL S6.M L).getD j 0) k < (fun j => (marksL S.M L).getD j 0) k := by show (marksL S6.M L).getD k 0 < (marksL S.M L).getD k 0; rw [← HX1.out, ← HY1.out]; exact hd
                have HE := Lib.hid (HY.out hb)
                clear hb hd hle
                go_wp2_with fail
                go_quiet (fail)
                go_wp2_with fail
                go_quiet (fail)
                go_wp2_with fail
                go_roundw
                case rel => exact ⟨k + 1, by omega, by go_num, by rw [HE.out]; go_num, K.drewN _⟩
                case measure => simp [intOf]; omega
              · have d2 : decide (y1 < x1) = false := by simpa using hd
                have hb : ¬ (fun j => (marksL S6.M L).getD j 0) k < (fun j => (marksL S.M L).getD j 0) k := by show ¬ (marksL S6.M L).getD k 0 < (marksL S.M L).getD k 0; rw [← HX1.out, ← HY1.out]; exact hd
                have HE := Lib.hid (HZ.out hb)
                clear hb hd hle
                go_wp2_with fail
                go_quiet (fail)
                go_wp2_with fail
                go_quiet (fail)
                go_wp2_with fail
                go_roundw
                case rel => exact ⟨k + 1, by omega, by go_num, by rw [HE.out], K.drewN _⟩
                case measure => simp [intOf]; omega
            · obtain rfl : k = m := by omega
              have hn1 : nn ≤ 1 := by rw [hnn, HL9.out]; exact HFM.out.fell HT.out
              clear hn hnn
              replace h6' := h6'.keep0 K
              replace K7 := K7.trans K
              have HF8 := Lib.hid (HF7.out.keep K)
              clear K HF7
              go_wp2_with fail
              clear HI7 HIM HL9 HX HFR HFX H3 Kr HF I3
              generalize wr = wy at HF8 h6' K7 ⊢
              go_loopw [14] (fun gv wx => ∃ gg : Nat, gg ≤ 4 ∧ gv = .int .i64 gg ∧ Keep (fun _ => False) wy wx) (fun gv _ => 4 - (intOf gv).toNat)
              case atStart => exact ⟨0, by omega, rfl, Keep.refl _ _⟩
              case round =>
                obtain ⟨gg, hgg, rfl, K⟩ := hrel
                by_cases hg4 : gg < 4
                · go_wp2_with fail
                  refine (dirty_any (h6'.keep0 K) ok6 HT6.out (gg : Int)).mono ?_
                  rintro e w9 ⟨A9, c9, rfl, C9, _, k9⟩
                  have K9 := K.trans k9
                  obtain ⟨Ag, cg, hvg, Cg, _⟩ := HF8.out.at_ gg hg4
                  have hcell : wy.cell? ⟨db, gg, none⟩ = some (.slice Ag (dirtyL S.M gg L).length cg) := by
                    rw [cell_of_row wy _ _ _ _ _ HF8.out.head, ← hvg]
                    match gg, hg4 with
                    | 0, _ | 1, _ | 2, _ | 3, _ => rfl
                  have hdb := heap_lt HF8.out.head
                  have HC9 := Lib.hid C9
                  have HCg := Lib.hid (Cg.keep0 K9)
                  have hcell9 := (K9.cell (p := ⟨db, gg, none⟩) hdb (by simp)).trans hcell
                  have hdb9 := Nat.lt_of_lt_of_le hdb K9.size
                  have hln1 : (dirtyL S.M gg L).length ≤ 1000000 := by
                    have := dirtyL_len S.M gg L
                    have := HT.out.len
                    have := sel_len S.M [] S.M.lim
                    have := ok.mem.l1024
                    omega
                  have hln2 : (dirtyL S6.M gg L).length ≤ 1000000 := by
                    have := dirtyL_len S6.M gg L
                    have := HT.out.len
                    have := sel_len S.M [] S.M.lim
                    have := ok.mem.l1024
                    omega
                  have HLN2 := Lib.hid hln2
                  have HMEM := Lib.hid (fun (y : Nat × Nat) => HFM.out.mem (g := (gg : Int)) (L := L) (x := y))
                  have gg0 : (0 : Int) ≤ (gg : Int) := by omega
                  have gg4 : (gg : Int) < 4 := by omega
                  have gg5 : gg < 4 := hg4
                  clear hvg Cg C9 k9 hdb hcell hln2
                  obtain ⟨q, hq⟩ : ∃ q, q = (dirtyL S.M gg L).length := ⟨_, rfl⟩
                  rw [← hq] at hcell9 HCg hln1
                  have HQ := Lib.hid hq
                  clear hq
                  go_wp2_with fail
                  go_loopw [16] (fun iv wx => ∃ i : Nat, i ≤ q ∧ iv = .int .i64 i ∧ Keep (fun _ => False) w9 wx) (fun iv _ => q - (intOf iv).toNat)
                  case atStart => exact ⟨0, by omega, rfl, Keep.refl _ _⟩
                  case round =>
                    obtain ⟨i, hi, rfl, kx⟩ := hrel
                    have hcx := (kx.cell (p := ⟨db, gg, none⟩) hdb9 (by simp)).trans hcell9
                    by_cases hlt : i < q
                    · obtain ⟨b, off, rfl, hb, y0, y1⟩ := (HCg.out.keep0 kx).2 i hlt
                      have hmem : (dirtyL S.M gg L).getD i (0, 0) ∈ dirtyL S.M gg L := by
                        rw [List.getD_eq_getElem?_getD, List.getElem?_eq_getElem (by rw [← HQ.out]; exact hlt)]
                        exact List.getElem_mem _
                      obtain ⟨y, hy⟩ : ∃ y, y = (dirtyL S.M gg L).getD i (0, 0) := ⟨_, rfl⟩
                      rw [← hy] at y0 y1 hmem
                      have hd := decide_eq_true (HMEM.out y hmem)
                      have HD := Lib.hid hd
                      have KX := Lib.hid kx
                      clear hy hmem hd hcell9
                      go_wp2_with fail
                      refine (has_any A9 _ c9 (dirtyL S6.M gg L) y _ (HC9.out.keep0 KX.out) HLN2.out).mono ?_
                      rintro e w10 ⟨rfl, k10⟩
                      rw [HD.out]
                      have K10 := KX.out.trans k10
                      clear k10 hcx y0 y1 kx
                      go_wp2_with fail
                      go_roundw
                      case rel => exact ⟨i + 1, by omega, by go_num, K10⟩
                      case measure => simp [intOf]; omega
                    · obtain rfl : i = q := by omega
                      go_wp2_with fail
                      go_roundw
                      case rel => exact ⟨gg + 1, by omega, by go_num, K9.trans kx⟩
                      case measure => simp [intOf]; omega
                · obtain rfl : gg = 4 := by omega
                  have b1 : decide ((nn : Int) ≤ 1) = true := by simp; omega
                  have K8 := K7.trans K
                  clear hgg hg4
                  go_wp2_with fail
                  refine (awake9 _).mono ?_
                  rintro e w11 ⟨rfl, k11⟩
                  go_wp2_with fail
                  go_ret
                  exact ⟨rfl, K8.trans k11⟩
end Go.Proofs.Ytgnpeciedefeiaa
