/-
  Cards: what Store does; New, Copy.
-/
import Derived.Test.YtgnpeciedefeiaaCdPlain
import Derived.Deep.RegionHeld3
import Derived.Test.YtgnpeciedefeiaaStandsReg
namespace Go.Proofs.Ytgnpeciedefeiaa
open Go.RowKit

/-- A card's mark. -/
def Sg.card (s : Sg) : Nat → Int
  | 0 => s.c0
  | 1 => s.c1
  | 2 => s.c2
  | _ => s.c3
theorem mark_self (s : Sg) (c : Nat) (m : Int) (hc : c < 4) : (s.mark c m).card c = m := by
  match c, hc with
  | 0, _ | 1, _ | 2, _ | 3, _ => simp [Sg.mark, Sg.card]
theorem mark_other (s : Sg) (c d : Nat) (m : Int) (hc : c < 4) (hd : d < 4) (h : d ≠ c) : (s.mark c m).card d = s.card d := by
  match c, hc, d, hd with
  | 0, _, 1, _ | 0, _, 2, _ | 0, _, 3, _ | 1, _, 0, _ | 1, _, 2, _ | 1, _, 3, _ | 2, _, 0, _ | 2, _, 1, _ | 2, _, 3, _ | 3, _, 0, _ | 3, _, 1, _ | 3, _, 2, _ => simp [Sg.mark, Sg.card]
  | 0, _, 0, _ | 1, _, 1, _ | 2, _, 2, _ | 3, _, 3, _ => exact absurd rfl h
theorem Sg.Ok.card {s : Sg} (h : s.Ok) (c : Nat) : 0 ≤ s.card c ∧ s.card c ≤ 5 := by
  match c with
  | 0 => exact h.a0
  | 1 => exact h.a1
  | 2 => exact h.a2
  | c + 3 => exact h.a3
theorem genOf_lo {M : MemV} (ok : M.Ok) {u : Nat} {g : Int} (h : genOf M u = some g) : 0 ≤ g ∧ g ≤ 4 := by
  unfold genOf at h
  split at h
  · rename_i hc
    injection h with h
    have hk : u / 8 / 64 < M.lim := by
      have := hc.2
      unfold MemV.hasN at this
      simp at this
      exact this.1
    have := ok.sg _ hk
    exact ⟨by rw [← h]; exact this.g0, by rw [← h]; exact this.g4⟩
  · cases h
theorem youngV_lo {M : MemV} (ok : M.Ok) (s : Sg) (u : Nat) {m : Int} (h0 : 0 ≤ m) (h5 : m ≤ 5) : 0 ≤ youngV M s u m ∧ youngV M s u m ≤ 5 := by
  unfold youngV
  split
  · rename_i g hg
    have := genOf_lo ok hg
    split
    · omega
    · omega
  · omega

/-- What a store leaves of the memory. -/
def storeV (M : MemV) (a u : Nat) : MemV :=
  let M1 := M.put (a / 64) ((M.sg (a / 64)).write (a % 64) u)
  M1.put (a / 64) ((M1.sg (a / 64)).mark (a % 64 / 16) (youngV M1 (M1.sg (a / 64)) u ((M.sg (a / 64)).card (a % 64 / 16))))
def StoreR (M : MemV) (addr : Int) (u : Nat) (f : Int) (M' : MemV) : Prop :=
  (¬ M.used addr ∧ f = 18 ∧ M' = M) ∨ ∃ a : Nat, addr = a ∧ a / 64 < M.lim ∧ 0 < (M.sg (a / 64)).taken ∧ ((a % 64 : Nat) : Int) < (M.sg (a / 64)).n ∧ f = 0 ∧ M' = storeV M a u
theorem StoreR.det {M : MemV} {addr : Int} {u : Nat} {f f2 : Int} {M1 M2 : MemV} (h : StoreR M addr u f M1) (h2 : StoreR M addr u f2 M2) : f = f2 ∧ M1 = M2 := by
  rcases h with ⟨hn, rfl, rfl⟩ | ⟨a, ha, h1, h2', h3, rfl, rfl⟩
  · rcases h2 with ⟨_, rfl, rfl⟩ | ⟨a, ha, h1, h2', h3, _⟩
    · exact ⟨rfl, rfl⟩
    · exact absurd (MemV.used_iff.2 ⟨a, ha, h1, h2', h3⟩) hn
  · rcases h2 with ⟨hn, _⟩ | ⟨b, hb, _, _, _, rfl, rfl⟩
    · exact absurd (MemV.used_iff.2 ⟨a, ha, h1, h2', h3⟩) hn
    · obtain rfl : a = b := by omega
      exact ⟨rfl, rfl⟩
theorem SAt.all {w : World} {b d : Nat} {s : Sg} (h : SAt w b s) (hd : d < 4) : w.cell? ⟨b, 0, none⟩ = some (.int .i64 s.gen) ∧ w.cell? ⟨b, 1, none⟩ = some (.int .i64 s.kind) ∧ w.cell? ⟨b, 2, none⟩ = some (.int .i64 s.n) ∧ w.cell? ⟨b, 3, none⟩ = some (.int .i64 s.c0) ∧ w.cell? ⟨b, 4, none⟩ = some (.int .i64 s.c1) ∧ w.cell? ⟨b, 5, none⟩ = some (.int .i64 s.c2) ∧ w.cell? ⟨b, 6, none⟩ = some (.int .i64 s.c3) ∧ w.cell? ⟨b, 3 + d, none⟩ = some (.int .i64 (s.card d)) := by
  obtain ⟨h0, h1, h2, h3, h4, h5, h6⟩ := h.cells
  refine ⟨h0, h1, h2, h3, h4, h5, h6, ?_⟩
  match d, hd with
  | 0, _ => exact h3
  | 1, _ => exact h4
  | 2, _ => exact h5
  | 3, _ => exact h6
def StorePost (c s p g : Nat) (S : SpV) (addr : Int) (u : Nat) (w : World) (e : Ending) (w' : World) : Prop :=
  ∃ (M' : MemV) (f : Int), e = .returned (.int .i64 f) ∧ CdAt w' c s p g { S with M := M' } ∧ Keep (MineS s p g) w w' ∧ ({ S with M := M' } : SpV).Ok ∧ M'.count = S.M.count ∧ M'.lim = S.M.lim ∧ StoreR S.M addr u f M'

theorem write_card (s : Sg) (j : Nat) (u : Int) (d : Nat) : (s.write j u).card d = s.card d := by
  match d with
  | 0 | 1 | 2 | _ + 3 => rfl
theorem put_sg (M : MemV) (k : Nat) (s : Sg) : (M.put k s).sg k = s := by simp [MemV.put]
theorem put_put (M : MemV) (k : Nat) (s t : Sg) : (M.put k s).put k t = M.put k t := by
  unfold MemV.put
  congr 1
  funext i
  by_cases h : i = k <;> simp [h]

set_option maxRecDepth 100000 in
set_option maxHeartbeats 4000000 in
theorem store_any {w : World} {c s p g : Nat} {S : SpV} (h : CdAt w c s p g S) (ok : S.Ok) (addr : Int) (u : Nat) (hA : addr ≤ 9223372036854775807) (hu : u ≤ 18446744073709551615) :
    Calls Try.prog 46 #[.pointer (some ⟨c, 0, none⟩), .int .i64 addr, .int .u64 (u : Int)] w (StorePost c s p g S addr u w) := by
  have c0 := h.ptr
  have s0 := h.sp.ptr
  have l1024 := ok.mem.l1024
  by_cases hus : S.M.used addr
  · obtain ⟨a, rfl, hk, ht, hn⟩ := MemV.used_iff.1 hus
    have so := ok.mem.sg _ hk
    have n64 := so.n64
    have hA2 : a ≤ 65536 := by omega
    obtain ⟨k, hkk⟩ : ∃ k, k = a / 64 := ⟨_, rfl⟩
    obtain ⟨j, hjj⟩ : ∃ j, j = a % 64 := ⟨_, rfl⟩
    have hjl : j < 64 := by omega
    have e1 : (a : Int) / 64 = (k : Int) := by omega
    have e2 : (a : Int) % 64 = (j : Int) := by omega
    have e3 : (j : Int) / 16 = ((j / 16 : Nat) : Int) := by omega
    obtain ⟨d, hdd⟩ : ∃ d, d = j / 16 := ⟨_, rfl⟩
    rw [← hdd] at e3
    have hd4 : d < 4 := by omega
    have HK := Lib.hid hkk
    have HJ := Lib.hid hjj
    have HD := Lib.hid hdd
    have E1 := Lib.hid e1
    have Hus := Lib.hid hus
    have Hk := Lib.hid hk
    have Ht := Lib.hid ht
    have Hn := Lib.hid hn
    clear hkk hjj hdd e1 hk ht hn so n64 hus
    go_enter Try.func46, Try.ntmps46
    go_wp2_with fail
    refine (cnone_no c0 s0).mono ?_
    rintro e w1 ⟨rfl, rfl⟩
    go_wp2_with fail
    refine (write_yes p g S.M a _ _ _ h.sp.mem l1024 rfl Hk.out Ht.out Hn.out (ok.mem.sg _ Hk.out).n64).mono ?_
    rintro e w2 ⟨rfl, m2, k2⟩
    rw [← HK.out, ← HJ.out] at m2
    have e1 := E1.out
    have hk2 : k < S.M.lim := by have := Hk.out; rw [← HK.out] at this; exact this
    have ht2 : 0 < ((S.M.put k ((S.M.sg k).write j u)).sg k).taken := by
      rw [put_sg]
      have := Ht.out
      rw [← HK.out] at this
      exact this
    have hok : (S.M.put k ((S.M.sg k).write j u)).Ok := ok.mem.put hk2 ((ok.mem.sg k hk2).write (by have := Hn.out; rw [← HK.out, ← HJ.out] at this; exact this) (by omega) (by omega)) rfl (by have := ht2; rwa [put_sg] at this)
    have okS : ({ S with M := S.M.put k ((S.M.sg k).write j u) } : SpV).Ok := ok.put hok rfl rfl rfl
    have h2 := h.into k2.mineS (h.sp.keepM k2 m2)
    obtain ⟨M1, hM1⟩ : ∃ M1, M1 = S.M.put k ((S.M.sg k).write j u) := ⟨_, rfl⟩
    rw [← hM1] at m2 ht2 hok okS h2
    have hlim1 : M1.lim = S.M.lim := by rw [hM1]; rfl
    have HM1 := Lib.hid hM1
    have hk3 : k < M1.lim := by rw [hlim1]; exact hk2
    have hl3 : M1.lim ≤ 1024 := by rw [hlim1]; exact l1024
    have HL := Lib.hid hlim1
    obtain ⟨s1, hs1⟩ : ∃ s1, s1 = M1.sg k := ⟨_, rfl⟩
    have HS1 := Lib.hid hs1
    have Ht2 := Lib.hid ht2
    have Hok := Lib.hid hok
    clear c0 s0 hM1 hlim1 hs1 m2 ht2 hok
    have c0 := h2.ptr
    have s0 := h2.sp.ptr
    go_wp2_with fail
    refine (seg_yes2 p g M1 k _ _ h2.sp.mem hl3 rfl hk3 Ht2.out).mono ?_
    rw [← HS1.out]
    rintro e w3 ⟨rfl, k3⟩
    have h3 := h2.keep0 k3
    clear c0 s0
    go_wp2_with fail
    have k4 : Keep (fun _ => False) w2 (w3.alloc (.cells #[.int .i64 s1.gen, .int .i64 s1.kind, .int .i64 s1.n, .int .i64 s1.c0, .int .i64 s1.c1, .int .i64 s1.c2, .int .i64 s1.c3] 37)) := k3.alloc _
    have hS : SAt (w3.alloc (.cells #[.int .i64 s1.gen, .int .i64 s1.kind, .int .i64 s1.n, .int .i64 s1.c0, .int .i64 s1.c1, .int .i64 s1.c2, .int .i64 s1.c3] 37)) w3.heap.size s1 := heap_alloc_new _ _
    have hxb : ¬ Mine p g w3.heap.size := by
      have := h3.sp.mem.lt
      have := h3.sp.mem.segs.lt
      rintro (e | e) <;> omega
    have h4 := h2.keep0 k4
    generalize w3.heap.size = xb at hS hxb ⊢
    generalize w3.alloc (.cells #[.int .i64 s1.gen, .int .i64 s1.kind, .int .i64 s1.n, .int .i64 s1.c0, .int .i64 s1.c1, .int .i64 s1.c2, .int .i64 s1.c3] 37) = w4 at k4 hS h4 ⊢
    have hcp : ¬ Mine p g c := fun e => h4.notMine (.inr e)
    have HALL := Lib.hid (fun (w' : World) (K : Keep (Mine p g) w4 w') => (show w'.cell? ⟨c, 0, none⟩ = some (.pointer (some ⟨s, 0, none⟩)) ∧ w'.cell? ⟨s, 0, none⟩ = some (.pointer (some ⟨p, 0, none⟩)) ∧ w'.cell? ⟨xb, 0, none⟩ = some (.int .i64 s1.gen) ∧ w'.cell? ⟨xb, 1, none⟩ = some (.int .i64 s1.kind) ∧ w'.cell? ⟨xb, 2, none⟩ = some (.int .i64 s1.n) ∧ w'.cell? ⟨xb, 3, none⟩ = some (.int .i64 s1.c0) ∧ w'.cell? ⟨xb, 4, none⟩ = some (.int .i64 s1.c1) ∧ w'.cell? ⟨xb, 5, none⟩ = some (.int .i64 s1.c2) ∧ w'.cell? ⟨xb, 6, none⟩ = some (.int .i64 s1.c3) ∧ w'.cell? ⟨xb, 3 + d, none⟩ = some (.int .i64 (s1.card d)) from ⟨(K.cell (p := ⟨c, 0, none⟩) h4.lt hcp).trans h4.ptr, (K.cell (p := ⟨s, 0, none⟩) h4.sp.lt h4.sp.notMine).trans h4.sp.ptr, SAt.all (K.heap hS hxb) hd4⟩))
    have Kd : Keep (Mine p g) w4 w4.drew := (Keep.refl _ _).drew
    have H4 := Lib.hid h4
    have HX := Lib.hid hS
    have yl := youngV_lo Hok.out s1 u (m := s1.card d) (by have := (Hok.out.sg k hk3).card d; rw [← HS1.out] at this; exact this.1) (by have := (Hok.out.sg k hk3).card d; rw [← HS1.out] at this; exact this.2)
    have dd0 : (0 : Int) ≤ (d : Int) := by omega
    have dd4 : (d : Int) < 4 := by omega
    clear h4 hS h3 k3
    go_region_held3 (fun w' => w'.cell? ⟨c, 0, none⟩ = some (.pointer (some ⟨s, 0, none⟩)) ∧ w'.cell? ⟨s, 0, none⟩ = some (.pointer (some ⟨p, 0, none⟩)) ∧ w'.cell? ⟨xb, 0, none⟩ = some (.int .i64 s1.gen) ∧ w'.cell? ⟨xb, 1, none⟩ = some (.int .i64 s1.kind) ∧ w'.cell? ⟨xb, 2, none⟩ = some (.int .i64 s1.n) ∧ w'.cell? ⟨xb, 3, none⟩ = some (.int .i64 s1.c0) ∧ w'.cell? ⟨xb, 4, none⟩ = some (.int .i64 s1.c1) ∧ w'.cell? ⟨xb, 5, none⟩ = some (.int .i64 s1.c2) ∧ w'.cell? ⟨xb, 6, none⟩ = some (.int .i64 s1.c3) ∧ w'.cell? ⟨xb, 3 + d, none⟩ = some (.int .i64 (s1.card d)))
      (first | exact HALL.out _ Kd | exact HALL.out _ (by assumption))
      (first
        | (go_at_call 79; refine (younger_any (H4.out.keep0 ((Keep.refl (fun _ => False) w4).drew)) okS s1 u _ hu).mono ?_; rintro e w5 ⟨rfl, k5⟩; have K5 : Keep (Mine p g) w4 w5 := Kd.trans (k5.mono (fun _ _ h => h.elim)))
        | (go_at_call 28; refine (mark_yes p g M1 k d _ _ _ _ ((H4.out.keep0 (((Keep.refl (fun _ => False) w4).drew).trans k5)).sp.mem) hl3 rfl hk3 Ht2.out rfl hd4 yl.1 yl.2).mono ?_; rintro e w6 ⟨rfl, m6, k6⟩; have K6 : Keep (Mine p g) w4 w6 := K5.trans k6))
    go_wp2_with fail
    go_ret
    have h6 := (H4.out.keep0 (((Keep.refl (fun _ => False) w4).drew).trans k5))
    have h7 := h6.into k6.mineS (h6.sp.keepM k6 m6)
    have okm : (M1.put k ((M1.sg k).mark d (youngV M1 s1 u (s1.card d)))).Ok := Hok.out.put hk3 ((Hok.out.sg k hk3).mark yl.1 yl.2) rfl Ht2.out
    refine ⟨M1.put k ((M1.sg k).mark d (youngV M1 s1 u (s1.card d))), 0, rfl, h7, ((k2.mineS (s := s)).trans (k4.mono (fun _ _ h => h.elim))).trans K6.mineS, ?_, by rw [HM1.out]; rfl, HL.out, .inr ⟨a, rfl, Hk.out, Ht.out, Hn.out, rfl, ?_⟩⟩
    · exact okS.put (k := k) okm rfl rfl rfl
    · have hs : (M1.sg k).card d = (S.M.sg k).card d := by rw [HM1.out, put_sg, write_card]
      unfold storeV
      rw [← HK.out, ← HJ.out, ← HD.out, ← HM1.out, HS1.out, hs]
  · have Hus := Lib.hid hus
    clear hus
    go_enter Try.func46, Try.ntmps46
    go_wp2_with fail
    refine (cnone_no c0 s0).mono ?_
    rintro e w1 ⟨rfl, rfl⟩
    go_wp2_with fail
    refine (write_no p g S.M _ _ _ h.sp.mem l1024 ok.mem.t0 hA Hus.out).mono ?_
    rintro e w2 ⟨rfl, rfl⟩
    go_wp2_with fail
    go_ret
    exact ⟨S.M, 18, rfl, h, Keep.refl _ _, ok, rfl, rfl, .inl ⟨Hus.out, rfl, rfl⟩⟩
end Go.Proofs.Ytgnpeciedefeiaa
