/-
  seg.Mem: each call in one contract, whatever comes of it.
-/
import Derived.Test.YtgnpeciedefeiaaTaken
namespace Go.Proofs.Ytgnpeciedefeiaa
open Go.RowKit

/-- No such generation or kind. -/
def Bad (gen kind : Int) : Prop := gen < 0 ∨ 4 < gen ∨ kind < 0 ∨ 3 < kind

def TakeR (M : MemV) (gen kind a f : Int) (M' : MemV) : Prop :=
  (Bad gen kind ∧ a = 0 ∧ f = 1 ∧ M' = M) ∨ (¬ Bad gen kind ∧ M.free = 0 ∧ a = 0 ∧ f = 2 ∧ M' = M) ∨
  ∃ q : Nat, ¬ Bad gen kind ∧ 0 < M.free ∧ q < M.lim ∧ (M.sg q).taken = 0 ∧ (∀ i, i < q → 0 < (M.sg i).taken) ∧ a = q ∧ f = 0 ∧ M' = M.took q gen kind
def TakePost (p g : Nat) (M : MemV) (gen kind : Int) (w : World) (e : Ending) (w' : World) : Prop :=
  ∃ (M' : MemV) (a f : Int), e = .returned (.tuple #[.int .i64 a, .int .i64 f]) ∧ MemAt w' p g M' ∧ Keep (Mine p g) w w' ∧ M'.Ok ∧ M'.count ≤ M.count + 1 ∧ M'.lim = M.lim ∧ TakeR M gen kind a f M'

theorem take_all (p g : Nat) (M : MemV) (gen kind : Int) (w : World) (h : MemAt w p g M) (ok : M.Ok) (hc : M.count ≤ 1000000) :
    Calls Try.prog 16 #[.pointer (some ⟨p, 0, none⟩), .int .i64 gen, .int .i64 kind] w (TakePost p g M gen kind w) := by
  by_cases bad : Bad gen kind
  · exact (take_arg p g M gen kind w bad).mono fun e w' ⟨he, hw⟩ => ⟨M, 0, 1, he, hw ▸ h, hw ▸ Keep.refl _ _, ok, by omega, rfl, .inl ⟨bad, rfl, rfl, rfl⟩⟩
  · have b := bad
    unfold Bad at b
    by_cases fz : M.free = 0
    · exact (take_full p g M gen kind w h ok.l8 ok.l1024 (by omega) (by omega) (by omega) (by omega) fz).mono fun e w' ⟨he, hw⟩ => ⟨M, 0, 2, he, hw ▸ h, hw ▸ Keep.refl _ _, ok, by omega, rfl, .inr (.inl ⟨bad, fz, rfl, rfl, rfl⟩)⟩
    · have f0 := ok.f0
      have f1 := ok.f1
      have l1 := ok.l1024
      obtain ⟨q, hq, hz, hlow⟩ := frees_least M.sg M.lim (by have := ok.fr; omega)
      have hlow' : ∀ i, i < q → 0 < (M.sg i).taken := fun i hi => by have := ok.t0 i (by omega); have := hlow i hi; omega
      exact (take_yes p g M q gen kind w h ok.l8 ok.l1024 (by omega) (by omega) (by omega) (by omega) (by omega) (by omega) ok.c0 hc hq hlow' hz).mono fun e w' ⟨he, hm, hk⟩ =>
        ⟨M.took q gen kind, q, 0, he, hm, hk, ok.took hq hz (by omega) (by omega) (by omega) (by omega), Int.le_refl _, rfl, .inr (.inr ⟨q, bad, by omega, hq, hz, hlow', rfl, rfl, rfl⟩)⟩

/-- What there is of a segment that is there. -/
theorem MemV.has_iff {M : MemV} {seg : Int} : M.has seg ↔ ∃ k : Nat, seg = k ∧ k < M.lim ∧ 0 < (M.sg k).taken := by
  constructor
  · rintro ⟨h0, h1, h2⟩
    obtain ⟨k, rfl⟩ := Int.eq_ofNat_of_zero_le h0
    exact ⟨k, rfl, by omega, by simpa using h2⟩
  · rintro ⟨k, rfl, h1, h2⟩
    exact ⟨by omega, by omega, by simpa using h2⟩
theorem MemV.used_iff {M : MemV} {addr : Int} : M.used addr ↔ ∃ a : Nat, addr = a ∧ a / 64 < M.lim ∧ 0 < (M.sg (a / 64)).taken ∧ ((a % 64 : Nat) : Int) < (M.sg (a / 64)).n := by
  constructor
  · rintro ⟨h0, ⟨_, h1, h2⟩, h3⟩
    obtain ⟨a, rfl⟩ := Int.eq_ofNat_of_zero_le h0
    rw [show ((a : Int) / 64).toNat = a / 64 from by omega] at h2 h3
    exact ⟨a, rfl, by omega, h2, by omega⟩
  · rintro ⟨a, rfl, h1, h2, h3⟩
    have e : ((a : Int) / 64).toNat = a / 64 := by omega
    exact ⟨by omega, ⟨by omega, by omega, by rw [e]; exact h2⟩, by rw [e]; omega⟩

def GiveR (M : MemV) (seg f : Int) (M' : MemV) : Prop :=
  (¬ M.has seg ∧ f = 19 ∧ M' = M) ∨ ∃ k : Nat, seg = k ∧ k < M.lim ∧ 0 < (M.sg k).taken ∧ f = 0 ∧ M' = M.gave k
def GivePost (p g : Nat) (M : MemV) (seg : Int) (w : World) (e : Ending) (w' : World) : Prop :=
  ∃ (M' : MemV) (f : Int), e = .returned (.int .i64 f) ∧ MemAt w' p g M' ∧ Keep (Mine p g) w w' ∧ M'.Ok ∧ M'.count = M.count ∧ M'.lim = M.lim ∧ GiveR M seg f M'

theorem give_all (p g : Nat) (M : MemV) (seg : Int) (w : World) (h : MemAt w p g M) (ok : M.Ok) :
    Calls Try.prog 18 #[.pointer (some ⟨p, 0, none⟩), .int .i64 seg] w (GivePost p g M seg w) := by
  by_cases hh : M.has seg
  · obtain ⟨k, hs, hk, ht⟩ := MemV.has_iff.1 hh
    have f1 := ok.f1
    have l1 := ok.l1024
    exact (give_yes p g M k seg w h l1 hs hk ht ok.f0 (by omega)).mono fun e w' ⟨he, hm, hK⟩ => ⟨M.gave k, 0, he, hm, hK, ok.gave hk ht, rfl, rfl, .inr ⟨k, hs, hk, ht, rfl, rfl⟩⟩
  · exact (give_no p g M seg w h ok.l1024 ok.t0 hh).mono fun e w' ⟨he, hw⟩ => ⟨M, 19, he, hw ▸ h, hw ▸ Keep.refl _ _, ok, rfl, rfl, .inl ⟨hh, rfl, rfl⟩⟩

def BumpR (M : MemV) (seg n a f : Int) (M' : MemV) : Prop :=
  (¬ M.has seg ∧ a = 0 ∧ f = 19 ∧ M' = M) ∨ (M.has seg ∧ n < 1 ∧ a = 0 ∧ f = 1 ∧ M' = M) ∨
  (∃ k : Nat, seg = k ∧ k < M.lim ∧ 0 < (M.sg k).taken ∧ 1 ≤ n ∧ 64 - (M.sg k).n < n ∧ a = 0 ∧ f = 2 ∧ M' = M) ∨
  ∃ k : Nat, seg = k ∧ k < M.lim ∧ 0 < (M.sg k).taken ∧ 1 ≤ n ∧ n ≤ 64 - (M.sg k).n ∧ a = k * 64 + (M.sg k).n ∧ f = 0 ∧ M' = M.bumped k n
def BumpPost (p g : Nat) (M : MemV) (seg n : Int) (w : World) (e : Ending) (w' : World) : Prop :=
  ∃ (M' : MemV) (a f : Int), e = .returned (.tuple #[.int .i64 a, .int .i64 f]) ∧ MemAt w' p g M' ∧ Keep (Mine p g) w w' ∧ M'.Ok ∧ M'.count = M.count ∧ M'.lim = M.lim ∧ BumpR M seg n a f M'

theorem bump_all (p g : Nat) (M : MemV) (seg n : Int) (w : World) (h : MemAt w p g M) (ok : M.Ok) :
    Calls Try.prog 19 #[.pointer (some ⟨p, 0, none⟩), .int .i64 seg, .int .i64 n] w (BumpPost p g M seg n w) := by
  by_cases hh : M.has seg
  · obtain ⟨k, hs, hk, ht⟩ := MemV.has_iff.1 hh
    have l1 := ok.l1024
    have g0 := (ok.sg k hk).n0
    have g1 := (ok.sg k hk).n64
    by_cases b1 : n < 1
    · exact (bump_arg p g M k seg n w h l1 hs hk ht b1).mono fun e w' ⟨he, hw⟩ => ⟨M, 0, 1, he, hw ▸ h, hw ▸ Keep.refl _ _, ok, rfl, rfl, .inr (.inl ⟨hh, b1, rfl, rfl, rfl⟩)⟩
    · by_cases b2 : n ≤ 64 - (M.sg k).n
      · exact (bump_yes p g M k seg n w h l1 hs hk ht g0 (by omega) b2).mono fun e w' ⟨he, hm, hK⟩ => ⟨M.bumped k n, _, 0, he, hm, hK, ok.bumped hk ht (by omega) b2, rfl, rfl, .inr (.inr (.inr ⟨k, hs, hk, ht, by omega, b2, rfl, rfl, rfl⟩))⟩
      · exact (bump_full p g M k seg n w h l1 hs hk ht g0 g1 (by omega) (by omega)).mono fun e w' ⟨he, hw⟩ => ⟨M, 0, 2, he, hw ▸ h, hw ▸ Keep.refl _ _, ok, rfl, rfl, .inr (.inr (.inl ⟨k, hs, hk, ht, by omega, by omega, rfl, rfl, rfl⟩))⟩
  · exact (bump_no p g M seg n w h ok.l1024 ok.t0 hh).mono fun e w' ⟨he, hw⟩ => ⟨M, 0, 19, he, hw ▸ h, hw ▸ Keep.refl _ _, ok, rfl, rfl, .inl ⟨hh, rfl, rfl, rfl⟩⟩

def WriteR (M : MemV) (addr u f : Int) (M' : MemV) : Prop :=
  (¬ M.used addr ∧ f = 18 ∧ M' = M) ∨ ∃ a : Nat, addr = a ∧ a / 64 < M.lim ∧ 0 < (M.sg (a / 64)).taken ∧ ((a % 64 : Nat) : Int) < (M.sg (a / 64)).n ∧ f = 0 ∧ M' = M.put (a / 64) ((M.sg (a / 64)).write (a % 64) u)
def WritePost (p g : Nat) (M : MemV) (addr u : Int) (w : World) (e : Ending) (w' : World) : Prop :=
  ∃ (M' : MemV) (f : Int), e = .returned (.int .i64 f) ∧ MemAt w' p g M' ∧ Keep (Mine p g) w w' ∧ M'.Ok ∧ M'.count = M.count ∧ M'.lim = M.lim ∧ WriteR M addr u f M'

theorem write_all (p g : Nat) (M : MemV) (addr u : Int) (w : World) (h : MemAt w p g M) (ok : M.Ok) (hA : addr ≤ 9223372036854775807) (h0 : 0 ≤ u) (h1 : u ≤ 18446744073709551615) :
    Calls Try.prog 20 #[.pointer (some ⟨p, 0, none⟩), .int .i64 addr, .int .u64 u] w (WritePost p g M addr u w) := by
  by_cases hh : M.used addr
  · obtain ⟨a, hs, hk, ht, hn⟩ := MemV.used_iff.1 hh
    exact (write_yes p g M a addr u w h ok.l1024 hs hk ht hn (ok.sg _ hk).n64).mono fun e w' ⟨he, hm, hK⟩ => ⟨_, 0, he, hm, hK, ok.put hk ((ok.sg _ hk).write hn h0 h1) rfl ht, rfl, rfl, .inr ⟨a, hs, hk, ht, hn, rfl, rfl⟩⟩
  · exact (write_no p g M addr u w h ok.l1024 ok.t0 hA hh).mono fun e w' ⟨he, hw⟩ => ⟨M, 18, he, hw ▸ h, hw ▸ Keep.refl _ _, ok, rfl, rfl, .inl ⟨hh, rfl, rfl⟩⟩

def ReadR (M : MemV) (addr u f : Int) : Prop :=
  (¬ M.used addr ∧ u = 0 ∧ f = 18) ∨ ∃ a : Nat, addr = a ∧ a / 64 < M.lim ∧ 0 < (M.sg (a / 64)).taken ∧ ((a % 64 : Nat) : Int) < (M.sg (a / 64)).n ∧ u = (M.sg (a / 64)).words (a % 64) ∧ f = 0
def ReadPost (M : MemV) (addr : Int) (w : World) (e : Ending) (w' : World) : Prop :=
  ∃ (u f : Int), e = .returned (.tuple #[.int .u64 u, .int .i64 f]) ∧ w = w' ∧ ReadR M addr u f

theorem read_all (p g : Nat) (M : MemV) (addr : Int) (w : World) (h : MemAt w p g M) (ok : M.Ok) (hA : addr ≤ 9223372036854775807) :
    Calls Try.prog 21 #[.pointer (some ⟨p, 0, none⟩), .int .i64 addr] w (ReadPost M addr w) := by
  by_cases hh : M.used addr
  · obtain ⟨a, hs, hk, ht, hn⟩ := MemV.used_iff.1 hh
    exact (read_yes p g M a addr w h ok.l1024 hs hk ht hn (ok.sg _ hk).n64).mono fun e w' ⟨he, hw⟩ => ⟨_, 0, he, hw, .inr ⟨a, hs, hk, ht, hn, rfl, rfl⟩⟩
  · exact (read_no p g M addr w h ok.l1024 ok.t0 hA hh).mono fun e w' ⟨he, hw⟩ => ⟨0, 18, he, hw, .inl ⟨hh, rfl, rfl⟩⟩
end Go.Proofs.Ytgnpeciedefeiaa
