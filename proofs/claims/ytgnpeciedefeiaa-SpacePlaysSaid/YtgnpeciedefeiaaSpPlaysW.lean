/-
  morainelaw08.SpacePlays: the walk.
-/
import Derived.Test.YtgnpeciedefeiaaSpStands
import Derived.Test.YtgnpeciedefeiaaSpAwake
namespace Go.Proofs.Ytgnpeciedefeiaa
open Go.RowKit

/-- The slice of calls lies there. -/
def Acts8At (w : World) (A : Option Addr) (len : Nat) (acts : Nat → Act8) : Prop :=
  ∀ j, j < len → ∃ b off, A = some ⟨b, off, none⟩ ∧ b < w.heap.size ∧ (acts j).a ≤ 9223372036854775807 ∧ -9223372036854775808 ≤ (acts j).c ∧ (acts j).c ≤ 9223372036854775807 ∧ IntsAt w (acts j).ga (acts j).gn (acts j).gs ∧ (acts j).gn ≤ maxLen ∧
    w.cell? ⟨b, off + j * 5, none⟩ = some (.int .i64 (acts j).op) ∧ w.cell? ⟨b, off + j * 5 + 1, none⟩ = some (.int .i64 (acts j).a) ∧ w.cell? ⟨b, off + j * 5 + 2, none⟩ = some (.int .i64 (acts j).b) ∧
    w.cell? ⟨b, off + j * 5 + 3, none⟩ = some (.int .i64 (acts j).c) ∧ w.cell? ⟨b, off + j * 5 + 4, none⟩ = some (.slice (acts j).ga (acts j).gn (acts j).gc)
/-- One of the calls, in a later world. -/
structure ActIn (w0 w : World) (b off j : Nat) (x : Act8) : Prop where
  ok : x.gn ≤ 300 → x.Ok w w0.heap.size
  lt : b < w.heap.size
  c0 : w.cell? ⟨b, off + j * 5, none⟩ = some (.int .i64 x.op)
  c1 : w.cell? ⟨b, off + j * 5 + 1, none⟩ = some (.int .i64 x.a)
  c2 : w.cell? ⟨b, off + j * 5 + 2, none⟩ = some (.int .i64 x.b)
  c3 : w.cell? ⟨b, off + j * 5 + 3, none⟩ = some (.int .i64 x.c)
  c4 : w.cell? ⟨b, off + j * 5 + 4, none⟩ = some (.slice x.ga x.gn x.gc)
theorem Acts8At.at_ {w : World} {A : Option Addr} {len : Nat} {acts : Nat → Act8} (h : Acts8At w A len acts) {j : Nat} (hj : j < len) : ∃ b off, A = some ⟨b, off, none⟩ ∧ ∀ wr, Keep (fun _ => False) w wr → ActIn w wr b off j (acts j) := by
  obtain ⟨b, off, e, hb, a1, c0, c1, hI, _, h0, h1, h2, h3, h4⟩ := h j hj
  refine ⟨b, off, e, fun wr k => ?_⟩
  have f := fun i => k.cell (p := ⟨b, i, none⟩) hb (by simp)
  refine ⟨fun hn => ⟨a1, c0, c1, hI.keep0 k, hn, fun h0 b' off' e' => ?_⟩, Nat.lt_of_lt_of_le hb k.size, (f _).trans h0, (f _).trans h1, (f _).trans h2, (f _).trans h3, (f _).trans h4⟩
  obtain ⟨b2, off2, e2, hb2, _⟩ := hI.2 0 h0
  rw [e'] at e2
  injection e2 with e2
  injection e2 with e2 _ _
  omega

set_option maxHeartbeats 800000 in
theorem many_no (w : World) (A : Option Addr) (len cap : Nat) (acts : Nat → Act8) (hA : Acts8At w A len acts) (hlen : len ≤ 300) (hg : ∀ j, j < len → (acts j).gn ≤ 300) :
    Calls Try.prog 29 #[.slice A len cap] w fun e w' => e = .returned (.bool false) ∧ w = w' := by
  have HA := Lib.hid hA
  have HG := Lib.hid hg
  clear hA hg
  go_enter Try.func29, Try.ntmps29
  go_wp2_with fail
  go_loop [3] (fun i => ∃ k : Nat, k ≤ len ∧ i = .int .i64 k) (fun i => len - (intOf i).toNat)
  case atStart => exact ⟨0, Nat.zero_le _, rfl⟩
  case round =>
    obtain ⟨k, hk, rfl⟩ := hrel
    by_cases hlt : k < len
    · obtain ⟨b, off, rfl, hx⟩ := HA.out.at_ hlt
      have c4 := (hx w (Keep.refl _ _)).c4
      have hn := HG.out k hlt
      clear hx
      generalize (acts k).ga = ga at c4
      generalize (acts k).gn = gn at c4 hn
      generalize (acts k).gc = gc at c4
      go_wp2_with fail
      go_round
      case rel => exact ⟨k + 1, by omega, by go_num⟩
      case measure => simp [intOf]; omega
    · obtain rfl : k = len := by omega
      go_wp2_with fail
      go_ret
      exact ⟨rfl, rfl⟩

set_option maxHeartbeats 800000 in
theorem many_yes (w : World) (A : Option Addr) (len cap : Nat) (acts : Nat → Act8) (hA : Acts8At w A len acts) (hmax : len ≤ maxLen) (hg : 300 < len ∨ ∃ j, j < len ∧ 300 < (acts j).gn) :
    Calls Try.prog 29 #[.slice A len cap] w fun e w' => e = .returned (.bool true) ∧ w = w' := by
  unfold maxLen at hmax
  by_cases h300 : 300 < len
  · clear hg
    go_enter Try.func29, Try.ntmps29
    go_wp2_with fail
    go_ret
    exact ⟨rfl, rfl⟩
  · have hg2 : ∃ j, j < len ∧ 300 < (acts j).gn := hg.resolve_left h300
    have HA := Lib.hid hA
    have HG := Lib.hid hg2
    clear hA hg hg2
    go_enter Try.func29, Try.ntmps29
    go_wp2_with fail
    go_loop [3] (fun i => ∃ k : Nat, k ≤ len ∧ i = .int .i64 k ∧ ∀ j, j < k → (acts j).gn ≤ 300) (fun i => len - (intOf i).toNat)
    case atStart => exact ⟨0, Nat.zero_le _, rfl, fun j hj => absurd hj (by omega)⟩
    case round =>
      obtain ⟨k, hk, rfl, hlow⟩ := hrel
      have HL := Lib.hid hlow
      clear hlow
      by_cases hlt : k < len
      · obtain ⟨b, off, rfl, hx⟩ := HA.out.at_ hlt
        have c4 := (hx w (Keep.refl _ _)).c4
        have hmx : (acts k).gn ≤ maxLen := by
          obtain ⟨_, _, _, _, _, _, _, _, h, _⟩ := HA.out k hlt
          exact h
        unfold maxLen at hmx
        clear hx
        by_cases hn : 300 < (acts k).gn
        · generalize (acts k).ga = ga at c4
          generalize (acts k).gn = gn at c4 hn hmx
          generalize (acts k).gc = gc at c4
          go_wp2_with fail
          go_ret
          exact ⟨rfl, rfl⟩
        · have hn2 : (acts k).gn ≤ 300 := by omega
          have Hn := Lib.hid hn2
          clear hn2
          generalize (acts k).ga = ga at c4
          generalize hgn : (acts k).gn = gn at c4 hn hmx
          clear hgn
          generalize (acts k).gc = gc at c4
          go_wp2_with fail
          go_round
          case rel => exact ⟨k + 1, by omega, by go_num, fun j hj => by
            by_cases e : j < k
            · exact HL.out j e
            · obtain rfl : j = k := by omega
              exact Hn.out⟩
          case measure => simp [intOf]; omega
      · obtain rfl : k = len := by omega
        obtain ⟨j, hj, h⟩ := HG.out
        have := HL.out j hj
        omega

set_option maxRecDepth 100000 in
set_option maxHeartbeats 8000000 in
theorem spacePlays_yes (lim : Nat) (A : Option Addr) (len cap : Nat) (acts : Nat → Act8) (w : World) (h8 : 8 ≤ lim) (h1024 : lim ≤ 1024) (hA : Acts8At w A len acts) (hlen : len ≤ 300) (hg : ∀ j, j < len → (acts j).gn ≤ 300) :
    Calls Try.prog 8 #[.int .i64 lim, .slice A len cap] w fun e w' => e = .returned (.bool true) ∧ Keep (fun _ => False) w w' := by
  have HA := Lib.hid hA
  have HG := Lib.hid hg
  clear hA hg
  go_enter Try.func8, Try.ntmps8
  go_wp2_with fail
  refine (many_no w A len cap acts HA.out hlen HG.out).mono ?_
  rintro e w1 ⟨rfl, rfl⟩
  go_wp2_with fail
  refine (new8_yes lim _ _ rfl h8 h1024).mono ?_
  rintro e w1 ⟨s, p, g, rfl, hs, hp, hgg, h1, k1⟩
  go_wp2_with fail
  refine (rnew8_some lim w.heap.size _ _ rfl h8 h1024 k1.size).mono ?_
  rintro e w2 ⟨r, q, rfl, hr, R2, k2⟩
  have h2 := h1.keep0 k2
  have K2 := k1.trans k2
  have hr' : w.heap.size ≤ r := Nat.le_trans k1.size hr
  clear h1 k1 k2 hr
  go_wp2_with fail
  refine (stands8_any w.heap.size s p g r q _ _ _ h2 R2 (SpV.Ok.new h8 h1024)).mono ?_
  rintro e w3 ⟨rfl, k3⟩
  have h3 := h2.keep0 k3
  have R3 := R2.keep0 k3
  have K3 := K2.trans k3
  clear h2 R2 K2 k3
  go_wp2_with fail
  go_loopw [5, 8] (fun mv i wr => ∃ (j s p g : Nat) (S : SpV) (L : List Nat), j ≤ len ∧ i = .int .i64 j ∧ mv = .pointer (some ⟨s, 0, none⟩) ∧ w.heap.size ≤ s ∧ w.heap.size ≤ p ∧ w.heap.size ≤ g ∧ S.Ok ∧ S.M.count ≤ j ∧ SpAt wr s p g S ∧ R8At wr w.heap.size r q S L ∧ Keep (fun _ => False) w wr) (fun _ i _ => len - (intOf i).toNat)
  case atStart => exact ⟨0, s, p, g, _, _, Nat.zero_le _, rfl, rfl, hs, hp, hgg, SpV.Ok.new h8 h1024, Int.le_refl 0, h3, R3, K3⟩
  case round =>
    clear h3 R3 K3 hs hp hgg
    obtain ⟨j, s, p, g, S, L, hj, rfl, rfl, hs, hp, hgg, ok, hc, h, R, k⟩ := hrel
    have HC := Lib.hid hc
    clear hc
    by_cases hlt : j < len
    · obtain ⟨b, off, rfl, hx⟩ := HA.out.at_ hlt
      have hn300 := HG.out j hlt
      obtain ⟨x, hxx⟩ : ∃ x, x = acts j := ⟨_, rfl⟩
      rw [← hxx] at hx hn300
      have HX := Lib.hid hx
      have X := hx _ k
      have q0 := X.c0
      have q1 := X.c1
      have q2 := X.c2
      have q3 := X.c3
      have q4 := X.c4
      clear hxx hx X
      have hcl : S.M.count ≤ 1000000 := by have := HC.out; omega
      have Hcl := Lib.hid hcl
      have hsl := h.lt
      have hpl := h.mem.lt
      have hgl := h.mem.segs.lt
      clear hcl
      by_cases o4 : x.op = 4
      · have e4 : (x.op == 4) = true := by simpa using o4
        clear o4
        go_wp2_with fail
        refine (copy8_any h ok).mono ?_
        rintro e w4 ⟨s', p', g', rfl, hs', hp', hg', h4, o4, k4⟩
        have n1 : ¬ MineS s p g s' := by rintro (h | h | h) <;> omega
        have n2 : ¬ MineS s p g p' := by rintro (h | h | h) <;> omega
        have n3 : ¬ MineS s p g g' := by rintro (h | h | h) <;> omega
        replace k := k.trans k4
        replace R := R.keep0 k4
        clear h k4
        go_wp2_with fail
        refine (alloc_any o4 ok Hcl.out _ _ _).mono ?_
        rintro e w5 ⟨S5, a5, f5, rfl, o5, k5, ok5, _, _, _⟩
        replace h4 := h4.keep k5 n1 n2 n3
        replace R := o4.keepS R k5
        replace k := k.into k5 (mineS_from hs hp hgg)
        clear k5 o4
        go_wp2_with fail
        refine (give8_any o5 ok5 _).mono ?_
        rintro e w6 ⟨S6, f6, rfl, o6, k6, ok6, _, _, _⟩
        replace h4 := h4.keep k6 n1 n2 n3
        replace R := o5.keepS R k6
        replace k := k.into k6 (mineS_from hs hp hgg)
        clear k6 o5 ok5
        go_wp2_with fail
        refine (fresh8_any o6 none 0 0 [] (IntsAt.nil _ _) (by omega) (fun h => absurd h (by omega))).mono ?_
        rintro e w7 ⟨S7, rfl, o7, k7, _, _⟩
        have k7' : Keep (MineS s p g) w6 w7 := k7.mono (fun _ _ h => .inl h)
        replace h4 := h4.keep k7' n1 n2 n3
        replace R := o6.keepS R k7'
        replace k := k.into k7' (mineS_from hs hp hgg)
        clear k7 k7' o6 ok6 o7 q0 q1 q2 q3 q4
        have X := HX.out _ k
        have q0 := X.c0
        have q1 := X.c1
        have q2 := X.c2
        have q3 := X.c3
        have q4 := X.c4
        have xok := X.ok hn300
        clear X
        go_wp2_with fail
        refine (does8_any w.heap.size s' p' g' r q S L x _ h4 R ok Hcl.out w.heap.size xok ⟨k.size, by omega, by omega, by omega, hr', Nat.le_refl _⟩).mono ?_
        rintro e w8 ⟨S8, L8, rfl, h8', R8, ok8, hc8, hl8, K8⟩
        have HC8 := Lib.hid hc8
        replace k := k.into K8 (both8_from (by omega) (by omega) (by omega) hr' (Nat.le_refl _))
        clear hc8 hl8 K8 h4 R q0 q1 q2 q3 q4 xok
        go_wp2_with fail
        go_roundw
        case rel => exact ⟨j + 1, s', p', g', S8, L8, by omega, by go_num, rfl, by omega, by omega, by omega, ok8, by have := HC8.out; have := HC.out; omega, h8', R8, k⟩
        case measure => simp [intOf]; omega
      · have e4 : (x.op == 4) = false := by simpa using o4
        clear o4
        have xok := (HX.out _ k).ok hn300
        go_wp2_with fail
        refine (does8_any w.heap.size s p g r q S L x _ h R ok Hcl.out w.heap.size xok ⟨k.size, by omega, by omega, by omega, hr', Nat.le_refl _⟩).mono ?_
        rintro e w8 ⟨S8, L8, rfl, h8', R8, ok8, hc8, hl8, K8⟩
        have HC8 := Lib.hid hc8
        replace k := k.into K8 (both8_from hs hp hgg hr' (Nat.le_refl _))
        clear hc8 hl8 K8 h R q0 q1 q2 q3 q4 xok
        go_wp2_with fail
        go_roundw
        case rel => exact ⟨j + 1, s, p, g, S8, L8, by omega, by go_num, rfl, hs, hp, hgg, ok8, by have := HC8.out; have := HC.out; omega, h8', R8, k⟩
        case measure => simp [intOf]; omega
    · obtain rfl : j = len := by omega
      go_wp2_with fail
      refine (stands8_any w.heap.size s p g r q _ _ _ h R ok).mono ?_
      rintro e w9 ⟨rfl, k9⟩
      go_wp2_with fail
      refine (awake8 _).mono ?_
      rintro e w10 ⟨rfl, k10⟩
      go_wp2_with fail
      go_ret
      exact ⟨rfl, (k.trans k9).trans k10⟩

set_option maxRecDepth 100000 in
set_option maxHeartbeats 800000 in
theorem spacePlays_other (limit : Int) (A : Option Addr) (len cap : Nat) (acts : Nat → Act8) (w : World) (hA : Acts8At w A len acts) (hmax : len ≤ maxLen) (h : (300 < len ∨ ∃ j, j < len ∧ 300 < (acts j).gn) ∨ limit < 8 ∨ 1024 < limit) :
    Calls Try.prog 8 #[.int .i64 limit, .slice A len cap] w fun e w' => e = .returned (.bool true) ∧ Keep (fun _ => False) w w' := by
  by_cases b : 300 < len ∨ ∃ j, j < len ∧ 300 < (acts j).gn
  · have HM := Lib.hid (many_yes w A len cap acts hA hmax b)
    clear h b hA
    go_enter Try.func8, Try.ntmps8
    go_wp2_with fail
    refine HM.out.mono ?_
    rintro e w1 ⟨rfl, rfl⟩
    go_wp2_with fail
    refine (awake8 _).mono ?_
    rintro e w2 ⟨rfl, k2⟩
    go_wp2_with fail
    go_ret
    exact ⟨rfl, k2⟩
  · have Ha := Lib.hid (h.resolve_left b)
    have HM := Lib.hid (many_no w A len cap acts hA (by omega) (fun j hj => by
      rcases Nat.lt_or_ge 300 (acts j).gn with h' | h'
      · exact absurd (.inr ⟨j, hj, h'⟩) b
      · exact h'))
    clear h b hA
    go_enter Try.func8, Try.ntmps8
    go_wp2_with fail
    refine HM.out.mono ?_
    rintro e w1 ⟨rfl, rfl⟩
    go_wp2_with fail
    refine (new8_no _ _ Ha.out).mono ?_
    rintro e w1 ⟨rfl, rfl⟩
    go_wp2_with fail
    refine (rnew8_none _ _ Ha.out).mono ?_
    rintro e w1 ⟨rfl, rfl⟩
    go_wp2_with fail
    refine (awake8 _).mono ?_
    rintro e w2 ⟨rfl, k2⟩
    go_wp2_with fail
    go_ret
    exact ⟨rfl, k2⟩
end Go.Proofs.Ytgnpeciedefeiaa
