/-
  The document's space: Alloc, Words.
-/
import Derived.Test.YtgnpeciedefeiaaSpRefG
import Derived.Test.YtgnpeciedefeiaaRefTaken
namespace Go.Proofs.Ytgnpeciedefeiaa
open Go.RowKit

/-- Where one of the list is. -/
theorem place_at {w : World} {base q : Nat} {M : MemV} {L : List Nat} {v : Value} {wv : Nat → Value} {cnt : Nat → Nat} (R : RefAtN w base q M L v wv cnt) (T : TakenL M [] L) (hl : L.length ≤ 1024) {i : Nat} (hi : i < L.length) {t : Nat} (ht : L.getD i 0 = t) :
    Calls Try.prog 91 #[.pointer (some ⟨q, 0, none⟩), .int .i64 (t : Int)] w fun e w' => e = .returned (.int .i64 (i : Int)) ∧ w' = w := by
  refine (place_any R T hl (t : Int)).mono fun e w' ⟨hw, h⟩ => ?_
  rcases h with ⟨hno, _⟩ | ⟨j, hj, e1, he⟩
  · have := T.mem (getD_mem hi)
    rw [ht] at this
    exact absurd ⟨by omega, by omega, by simpa using this.2⟩ hno
  · have : j = i := T.inj hj hi (by omega)
    subst this
    exact ⟨he, hw.symm⟩
theorem TakenL.find {M : MemV} {gs : List Int} {L : List Nat} (_h : TakenL M gs L) {t : Nat} (ht : t ∈ L) : ∃ i, i < L.length ∧ L.getD i 0 = t := by
  obtain ⟨i, hi, e⟩ := List.mem_iff_getElem.1 ht
  exact ⟨i, hi, by rw [List.getD_eq_getElem?_getD, List.getElem?_eq_getElem hi]; exact e⟩

/-- What the slice of the words of one of the list is, and where that is told. -/
def AtWords (w : World) (q : Nat) (L : List Nat) (i c : Nat) : Prop := ∃ gv cap A' cap2, w.cell? ⟨q, 1, none⟩ = some (.slice (some ⟨gv, 0, none⟩) L.length cap) ∧ w.cell? ⟨gv, i * 9 + 8, none⟩ = some (.slice A' c cap2) ∧ gv < w.heap.size ∧ q < w.heap.size
theorem RefAt.words_at {w : World} {base q : Nat} {M : MemV} {L : List Nat} (R : RefAt w base q M L) {i t : Nat} (hi : i < L.length) (ht : L.getD i 0 = t) : AtWords w q L i (cntOf M t) := by
  obtain ⟨T, v, wv, R⟩ := R
  obtain ⟨gv, cap, rfl, hg, _, hrow⟩ := R.row hi
  obtain ⟨_, c1⟩ := R.cells
  obtain ⟨A', cap2, hw⟩ := R.wshape (R.memL hi)
  have := hrow 8 (by omega)
  simp only [rc] at this
  rw [ht] at this hw
  exact ⟨gv, cap, A', cap2, c1, by rw [this, hw], hg, R.lt⟩
theorem RefAt.place_at {w : World} {base q : Nat} {M : MemV} {L : List Nat} (R : RefAt w base q M L) (ok : M.Ok) {i t : Nat} (hi : i < L.length) (ht : L.getD i 0 = t) :
    Calls Try.prog 91 #[.pointer (some ⟨q, 0, none⟩), .int .i64 (t : Int)] w fun e w' => e = .returned (.int .i64 (i : Int)) ∧ w' = w := by
  obtain ⟨T, v, wv, R⟩ := R
  exact Ytgnpeciedefeiaa.place_at R T (by have := T.len; have := sel_len M [] M.lim; have := ok.l1024; omega) hi ht
theorem RefAt.len {w : World} {base q : Nat} {M : MemV} {L : List Nat} (R : RefAt w base q M L) (ok : M.Ok) : L.length ≤ 1024 := by
  obtain ⟨T, _⟩ := R
  have := T.len; have := sel_len M [] M.lim; have := ok.l1024; omega
theorem RefAt.taken {w : World} {base q : Nat} {M : MemV} {L : List Nat} (R : RefAt w base q M L) : TakenL M [] L := R.1

def RAlloc8Post (base r q : Nat) (S : SpV) (gen kind n : Int) (w : World) (e : Ending) (w' : World) : Prop :=
  ∃ (S' : SpV) (L' : List Nat) (a f : Int), e = .returned (.tuple #[.int .i64 a, .int .i64 f]) ∧ R8At w' base r q S' L' ∧ Keep (RefS8 r w base) w w' ∧ AllocR S gen kind n a f S'

/-- Blocks of the document's stay such. -/
theorem Keep.refJoin {r base : Nat} {w a b : World} (h : Keep (RefS8 r w base) w a) (k : Keep (RefS a base) a b) : Keep (RefS8 r w base) w b := h.join k (fun i hi hs => by
  by_cases hb : RefS8 r w base i
  · exact hb
  · obtain ⟨h0, c, t, z, e, ht⟩ := hs
    rw [h.block i hi hb] at e
    exact .inr ⟨h0, c, t, z, e, ht⟩)

theorem ralloc_end {w w1 w2 : World} {base r q : Nat} {S : SpV} {gen kind n : Int} {t : Nat} {M2 : MemV} {L1 : List Nat} {a2 f2 : Int} (ok : S.Ok) (may : May8 gen kind n) (nf : NoFit S gen kind n) (hf : 0 < S.M.free) (hq : t < S.M.lim) (hz : (S.M.sg t).taken = 0) (hlow : ∀ i, i < t → 0 < (S.M.sg i).taken)
    (k0 : Keep (RefS8 r w base) w w1) (h1 : R8Raw w1 base r q (S.M.took t gen kind) L1 (fun i k => (S.set gen.toNat kind.toNat (t + 1)).cur i k - 1)) (R2 : RefAt w2 base q M2 L1) (k2 : Keep (RefS w1 base) w1 w2) (hB : BumpR (S.M.took t gen kind) t n a2 f2 M2) :
    RAlloc8Post base r q S gen kind n w (.returned (.tuple #[.int .i64 a2, .int .i64 f2])) w2 := by
  have lo := may.lo
  have c0 := ok.mem.c0
  have e0 : ((S.M.took t gen kind).sg t).n = 0 := by rw [took_sg]; rfl
  have e1 : 0 < ((S.M.took t gen kind).sg t).taken := by rw [took_sg]; show 0 < S.M.count + 1; omega
  have hh : (S.M.took t gen kind).has (t : Int) := MemV.has_iff.2 ⟨t, rfl, hq, e1⟩
  obtain ⟨rfl, rfl, rfl⟩ : a2 = t * 64 ∧ f2 = 0 ∧ M2 = (S.M.took t gen kind).bumped t n := by
    rcases hB with ⟨h, _⟩ | ⟨_, h, _⟩ | ⟨k, hk, _, _, _, h, _⟩ | ⟨k, hk, _, _, _, _, h1, h2, h3⟩
    · exact absurd hh h
    · omega
    · obtain rfl : k = t := by omega
      rw [e0] at h; omega
    · obtain rfl : k = t := by omega
      rw [e0] at h1
      exact ⟨by omega, h2, h3⟩
  exact ⟨{ ({ S with M := S.M.took t gen kind } : SpV).set gen.toNat kind.toNat (t + 1) with M := (S.M.took t gen kind).bumped t n }, L1, _, _, rfl, h1.keepM k2 R2, k0.refJoin k2, .inr (.inr (.inr ⟨may, nf, t, hf, hq, hz, hlow, rfl, rfl, rfl⟩))⟩

set_option maxRecDepth 100000 in
set_option maxHeartbeats 8000000 in
theorem ralloc8_any {w : World} {base r q : Nat} {S : SpV} {L : List Nat} (h : R8At w base r q S L) (ok : S.Ok) (gen kind n : Int) :
    Calls Try.prog 75 #[.pointer (some ⟨r, 0, none⟩), .int .i64 gen, .int .i64 kind, .int .i64 n] w (RAlloc8Post base r q S gen kind n w) := by
  have hp := h.ptr
  by_cases may : May8 gen kind n
  · have lo := may.lo
    obtain ⟨i, rfl⟩ := Int.eq_ofNat_of_zero_le lo.1
    obtain ⟨k, rfl⟩ := Int.eq_ofNat_of_zero_le lo.2.2.1
    obtain ⟨hi, hk, n1, n63⟩ : i < 5 ∧ k < 4 ∧ 1 ≤ n ∧ n ≤ 63 := by omega
    have l1024 := ok.mem.l1024
    have q0 := h.cur i k hi hk
    have f0 := h.frozen (1 + i * 4 + k)
    have May := Lib.hid may
    have notbad : ¬ Bad (i : Int) (k : Int) := by unfold Bad; omega
    have NB := Lib.hid notbad
    clear may lo notbad
    rcases ok.cur i k hi hk with c0 | ⟨t, c1, ht, htk, hg, hkd⟩
    · have nf : NoFit S i k n := by intro q hq; simp only [Int.toNat_natCast] at hq; omega
      have Nf := Lib.hid nf
      rw [c0] at q0
      have C0 := Lib.hid c0
      clear nf c0
      go_enter Try.func75, Try.ntmps75
      go_wp2_with fail
      refine (rmay_yes _ _ _ _ May.out).mono ?_
      rintro e w1 ⟨rfl, rfl⟩
      go_wp2_with fail
      go_quiet (fail)
      have kd : Keep (fun _ => False) w (w.drewN nq) := (Keep.refl _ _).drewN _
      have h1 := h.keep0 kd
      have p1 := h1.ptr
      generalize w.drewN nq = w1 at kd h1 p1 ⊢
      clear q0 f0 hp
      go_wp2_with fail
      refine (take_ref h1.ref ok.mem _ _).mono ?_
      rintro e w2 ⟨M2, L2, a2, e2, rfl, R2, k2, hR⟩
      have k02 : Keep (RefS8 r w base) w w2 := (kd.mono (S' := RefS8 r w base) (fun _ _ h => h.elim)).refJoin k2
      have h2 := h1.keepM k2 R2
      have q2 := h2.cur i k hi hk
      have f2 := h2.frozen (1 + i * 4 + k)
      have p2 := h2.ptr
      clear k2 R2 h1 p1 kd
      rcases hR with ⟨hb, _⟩ | ⟨_, fz, rfl, rfl, rfl⟩ | ⟨t, _, hf, ht, hz, hlow, rfl, rfl, rfl⟩
      · exact absurd hb NB.out
      · have Fz := Lib.hid fz
        clear fz
        go_wp2_with fail
        go_ret2
        exact ⟨S, L2, 0, 2, rfl, h2, k02, .inr (.inr (.inl ⟨May.out, Nf.out, Fz.out, rfl, rfl, rfl⟩))⟩
      · have Hz := Lib.hid hz
        have Hlow := Lib.hid hlow
        clear hz hlow
        have h3 := (h2.setCur hi hk t).congr (cv' := fun a b => (S.set (i : Int).toNat (k : Int).toNat (t + 1)).cur a b - 1) (fun a b _ _ => by
          simp only [SpV.set, Int.toNat_natCast]
          by_cases e : a = i ∧ b = k
          · rw [if_pos e, if_pos e]; omega
          · rw [if_neg e, if_neg e])
        have p3 := h3.ptr
        have K3 := Lib.hid (k02.setCell (p := ⟨r, 1 + i * 4 + k, none⟩) (.inl (.inl rfl)) (.int .i64 (t : Int)))
        have H3 := Lib.hid h3
        have OK := Lib.hid (ok.mem.took ht Hz.out (gen := i) (kind := k) (by omega) (by omega) (by omega) (by omega))
        clear h3
        go_wp2_with fail
        refine (bump_ref H3.out.ref OK.out _ _).mono ?_
        rintro e w4 ⟨M4, a4, e4, rfl, R4, k4, hB⟩
        have HB := Lib.hid hB
        clear hB
        go_wp2_with fail
        go_ret2
        exact ralloc_end ok May.out Nf.out hf ht Hz.out Hlow.out K3.out H3.out R4 k4 HB.out
    · rw [c1] at q0
      have e1 : (t : Int) + 1 - 1 = t := by omega
      simp only [e1] at q0
      have hT := h.ref.taken
      obtain ⟨j, hj, hjt⟩ := hT.find (hT.has ht htk)
      have hj1024 := h.ref.len ok.mem
      have hcn := cntOf_eq ok.mem ht
      have n64 := (ok.mem.sg t ht).n64
      obtain ⟨gv, cap, A', cap2, w1c, w8c, hgv, hqv⟩ := h.ref.words_at hj hjt
      have HP := Lib.hid (fun (w' : World) (K : Keep (fun _ => False) w w') => (h.keep0 K).ref.place_at ok.mem hj hjt)
      have C1 := Lib.hid c1
      have Hcn := Lib.hid hcn
      obtain ⟨c, hc⟩ : ∃ c, c = cntOf S.M t := ⟨_, rfl⟩
      rw [← hc] at w8c hcn
      have hc64 : c ≤ 64 := by omega
      have hwrap : IntKind.i64.wrap ((c : Int) + n) = (c : Int) + n := by simp [IntKind.wrap, IntKind.signed, IntKind.bits]; omega
      have Hct := Lib.hid (show (c : Int) = (S.M.sg t).n from hcn)
      have j0 : (0 : Int) ≤ (j : Int) := by omega
      have j1 : (j : Int) < L.length := by omega
      have Ht := Lib.hid ht
      have Htk := Lib.hid htk
      clear c1 hcn hT hjt hc e1
      by_cases fit : (c : Int) + n ≤ 64
      · have hfit : decide ((c : Int) + n ≤ 64) = true := by simpa using fit
        clear n64
        go_enter Try.func75, Try.ntmps75
        go_wp2_with fail
        refine (rmay_yes _ _ _ _ May.out).mono ?_
        rintro e w1 ⟨rfl, rfl⟩
        go_wp2_with fail
        go_quiet ((go_at_call 91; exact Calls.quiet_of_same (HP.out _ (by first | exact Keep.refl _ _ | exact (Keep.refl _ _).drewN _))))
        have kd : Keep (fun _ => False) w (w.drewN nq) := (Keep.refl _ _).drewN _
        have h1 := h.keep0 kd
        have p1 := h1.ptr
        generalize w.drewN nq = w1 at kd h1 p1 ⊢
        clear q0 f0 hp w1c w8c
        go_wp2_with fail
        refine (bump_ref h1.ref ok.mem _ _).mono ?_
        rintro e w2 ⟨M2, a2, e2, rfl, R2, k2, hB⟩
        have HB := Lib.hid hB
        clear hB
        go_wp2_with fail
        go_ret2
        have hh : S.M.has (t : Int) := MemV.has_iff.2 ⟨t, rfl, Ht.out, Htk.out⟩
        obtain ⟨rfl, rfl, rfl⟩ : a2 = t * 64 + (S.M.sg t).n ∧ e2 = 0 ∧ M2 = S.M.bumped t n := by
          have hb := HB.out
          have hct := Hct.out
          rcases hb with ⟨h, _⟩ | ⟨_, h, _⟩ | ⟨k, hk, _, _, _, h, _⟩ | ⟨k, hk, _, _, _, _, h1, h2, h3⟩
          · exact absurd hh h
          · omega
          · obtain rfl : k = t := by omega
            omega
          · obtain rfl : k = t := by omega
            exact ⟨h1, h2, h3⟩
        have hct := Hct.out
        exact ⟨{ S with M := S.M.bumped t n }, L, _, _, rfl, h1.keepM k2 R2, (kd.mono (S' := RefS8 r w base) (fun _ _ h => h.elim)).refJoin k2, .inr (.inl ⟨May.out, t, by simpa using C1.out, by omega, rfl, rfl, rfl⟩)⟩
      · have hfit : decide ((c : Int) + n ≤ 64) = false := by simpa using fit
        have nf : NoFit S i k n := by
          intro q' hq'
          have := C1.out
          have := Hct.out
          simp only [Int.toNat_natCast] at hq'
          obtain rfl : q' = t := by omega
          omega
        have Nf := Lib.hid nf
        clear nf fit n64
        go_enter Try.func75, Try.ntmps75
        go_wp2_with fail
        refine (rmay_yes _ _ _ _ May.out).mono ?_
        rintro e w1 ⟨rfl, rfl⟩
        go_wp2_with fail
        go_quiet ((go_at_call 91; exact Calls.quiet_of_same (HP.out _ (by first | exact Keep.refl _ _ | exact (Keep.refl _ _).drewN _))))
        have kd : Keep (fun _ => False) w (w.drewN nq) := (Keep.refl _ _).drewN _
        have h1 := h.keep0 kd
        have p1 := h1.ptr
        generalize w.drewN nq = w1 at kd h1 p1 ⊢
        clear q0 f0 hp w1c w8c
        clear hg hkd HP Hcn Hct C1 Ht Htk
        go_wp2_with fail
        refine (take_ref h1.ref ok.mem _ _).mono ?_
        rintro e w2 ⟨M2, L2, a2, e2, rfl, R2, k2, hR⟩
        have k02 : Keep (RefS8 r w base) w w2 := (kd.mono (S' := RefS8 r w base) (fun _ _ h => h.elim)).refJoin k2
        have h2 := h1.keepM k2 R2
        have q2 := h2.cur i k hi hk
        have f2 := h2.frozen (1 + i * 4 + k)
        have p2 := h2.ptr
        clear k2 R2 h1 p1 kd
        rcases hR with ⟨hb, _⟩ | ⟨_, fz, rfl, rfl, rfl⟩ | ⟨t2, _, hf, ht, hz, hlow, rfl, rfl, rfl⟩
        · exact absurd hb NB.out
        · have Fz := Lib.hid fz
          clear fz
          go_wp2_with fail
          go_ret2
          exact ⟨S, L2, 0, 2, rfl, h2, k02, .inr (.inr (.inl ⟨May.out, Nf.out, Fz.out, rfl, rfl, rfl⟩))⟩
        · have Hz := Lib.hid hz
          have Hlow := Lib.hid hlow
          clear hz hlow
          have h3 := (h2.setCur hi hk t2).congr (cv' := fun a b => (S.set (i : Int).toNat (k : Int).toNat (t2 + 1)).cur a b - 1) (fun a b _ _ => by
            simp only [SpV.set, Int.toNat_natCast]
            by_cases e : a = i ∧ b = k
            · rw [if_pos e, if_pos e]; omega
            · rw [if_neg e, if_neg e])
          have p3 := h3.ptr
          have K3 := Lib.hid (k02.setCell (p := ⟨r, 1 + i * 4 + k, none⟩) (.inl (.inl rfl)) (.int .i64 (t2 : Int)))
          have H3 := Lib.hid h3
          have OK := Lib.hid (ok.mem.took ht Hz.out (gen := i) (kind := k) (by omega) (by omega) (by omega) (by omega))
          clear h3
          go_wp2_with fail
          refine (bump_ref H3.out.ref OK.out _ _).mono ?_
          rintro e w4 ⟨M4, a4, e4, rfl, R4, k4, hB⟩
          have HB := Lib.hid hB
          clear hB
          go_wp2_with fail
          go_ret2
          exact ralloc_end ok May.out Nf.out hf ht Hz.out Hlow.out K3.out H3.out R4 k4 HB.out
  · have May := Lib.hid may
    clear may
    go_enter Try.func75, Try.ntmps75
    go_wp2_with fail
    refine (rmay_no _ _ _ _ May.out).mono ?_
    rintro e w1 ⟨rfl, rfl⟩
    go_wp2_with fail
    go_ret2
    exact ⟨S, L, 0, 1, rfl, h, Keep.refl _ _, .inl ⟨May.out, rfl, rfl, rfl⟩⟩
end Go.Proofs.Ytgnpeciedefeiaa
