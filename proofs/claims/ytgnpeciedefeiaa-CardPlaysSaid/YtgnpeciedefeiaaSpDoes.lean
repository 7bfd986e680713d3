/-
  morainelaw08.does: both spaces answer a call alike.
-/
import Derived.Test.YtgnpeciedefeiaaSpBoth
namespace Go.Proofs.Ytgnpeciedefeiaa
open Go.RowKit

def Does8Post (base s p g r q : Nat) (S : SpV) (w : World) (e : Ending) (w' : World) : Prop :=
  ∃ (S' : SpV) (L' : List Nat), e = .returned (.bool true) ∧ SpAt w' s p g S' ∧ R8At w' base r q S' L' ∧ S'.Ok ∧ S'.M.count ≤ S.M.count + 1 ∧ S'.M.lim = S.M.lim ∧ Keep (Both8 s p g r w base) w w'

theorem SpV.Ok.like {S S' : SpV} (h : S.Ok) (e : S'.Like S) : S'.Ok := ⟨by rw [e.mem]; exact h.mem, fun i k hi hk => by rw [e.cur i k hi hk, e.mem]; exact h.cur i k hi hk⟩
theorem fresh_ok {S S' : SpV} {gs : List Int} (h : S.Ok) (hM : S'.M = S.M) (hc : ∀ a b, a < 5 → b < 4 → S'.cur a b = if freshB gs a = true then 0 else S.cur a b) : S'.Ok := by
  refine ⟨by rw [hM]; exact h.mem, fun i k hi hk => ?_⟩
  rw [hc i k hi hk, hM]
  split
  · exact .inl rfl
  · exact h.cur i k hi hk

def SWritePost (s p g : Nat) (S : SpV) (addr u : Int) (w : World) (e : Ending) (w' : World) : Prop :=
  ∃ (M' : MemV) (f : Int), e = .returned (.int .i64 f) ∧ SpAt w' s p g { S with M := M' } ∧ Keep (MineS s p g) w w' ∧ ({ S with M := M' } : SpV).Ok ∧ M'.count = S.M.count ∧ M'.lim = S.M.lim ∧ WriteR S.M addr u f M'
theorem swrite_any {w : World} {s p g : Nat} {S : SpV} (h : SpAt w s p g S) (ok : S.Ok) (addr u : Int) (hA : addr ≤ 9223372036854775807) (h0 : 0 ≤ u) (h1 : u ≤ 18446744073709551615) :
    Calls Try.prog 20 #[.pointer (some ⟨p, 0, none⟩), .int .i64 addr, .int .u64 u] w (SWritePost s p g S addr u w) :=
  (write_all p g S.M addr u w h.mem ok.mem hA h0 h1).mono fun e w' ⟨M', f, he, m', k', ok', hc, hl, hR⟩ => by
    refine ⟨M', f, he, h.keepM k' m', k'.mineS, ?_, hc, hl, hR⟩
    rcases hR with ⟨_, _, rfl⟩ | ⟨a, _, _, _, _, _, rfl⟩
    · exact ok
    · exact ok.put ok' rfl rfl rfl
def RWritePost (base r q : Nat) (S : SpV) (L : List Nat) (addr u : Int) (w : World) (e : Ending) (w' : World) : Prop :=
  ∃ (M' : MemV) (f : Int), e = .returned (.int .i64 f) ∧ R8Raw w' base r q M' L (fun i k => S.cur i k - 1) ∧ Keep (RefS8 r w base) w w' ∧ WriteR S.M addr u f M'
theorem rwrite8_any {w : World} {base r q : Nat} {S : SpV} {L : List Nat} (h : R8At w base r q S L) (ok : S.Ok) (addr u : Int) (hA : addr ≤ 9223372036854775807) :
    Calls Try.prog 66 #[.pointer (some ⟨q, 0, none⟩), .int .i64 addr, .int .u64 u] w (RWritePost base r q S L addr u w) :=
  (write_ref h.ref ok.mem addr u hA).mono fun _ _ ⟨M', f, he, R', k', hR⟩ => ⟨M', f, he, h.keepM k' R', k'.refs8, hR⟩

/-- append of a slice of ints that came in, nil or not, to one that is owned. -/
theorem wpList_append_ints (w : World) {ops : Array Oper} {rest : List Oper} {o : Oper} {a : Act} {Q : Exit → Act → World → Prop} (hgd : o.guard = none) (s x : Operand)
    (ho : o.op = .call { callee := .builtin .append, args := #[s, x], argTypes := #[47, 47] })
    (base : Nat) (v : Value) (n : Nat) (xs : List Value) (hs : a.eval s = v) (hown : w.ownsRow base 3 1 v n xs)
    (A : Option Addr) (m c : Nat) (gs : List Int) (hx : a.eval x = .slice A m c) (hI : IntsAt w A m gs)
    (h63 : n + m ≤ 1000000) (hbase : base ≤ w.heap.size)
    (h : ∀ v' w', w'.ownsRow base 3 1 v' (n + m) (xs ++ gs.map (Value.int .i64)) → w.grownBy w' v.ownBlock → wpList Try.prog ops Q rest (a.put o.dst v') w') : wpList Try.prog ops Q (o :: rest) a w := by
  obtain ⟨i0, hi, hz0, hz1, hz2⟩ := info_parts info3
  rcases A with _ | ad
  · have hm : m = 0 := by
      rcases Nat.eq_zero_or_pos m with h0 | h0
      · exact h0
      · obtain ⟨b, off, e, _⟩ := hI.2 0 h0
        cases e
    subst hm
    have hg : gs = [] := List.eq_nil_of_length_eq_zero hI.1
    subst hg
    exact wpList_append_none w hgd s x 47 ho base 3 i0 1 Try.underlying47 hi v n xs hs hown c hx (h v w (by simpa using hown) (World.grownBy.refl w _))
  · exact wpList_append_own w hgd s x 47 ho base 3 i0 _ 1 8 Try.underlying47 hi hz0 hz1 hz2 rfl (by decide) v n xs hs hown ad m c (gs.map (Value.int .i64)) hx (by rw [List.length_map, hI.1, Nat.mul_one]) hI.news (fun u hu => by
      obtain ⟨y, _, rfl⟩ := List.mem_map.1 hu
      rfl) (by unfold maxLen; omega) (by omega) hbase fun v' w' h1 h2 _ => h v' w' h1 h2

set_option maxRecDepth 100000 in
set_option maxHeartbeats 8000000 in
theorem does8_fresh (base s p g r q : Nat) (S : SpV) (L : List Nat) (x : Act8) (w : World) (h : SpAt (w.alloc (.cells x.cells 70)) s p g S) (R : R8At (w.alloc (.cells x.cells 70)) base r q S L) (ok : S.Ok)
    (K : Keep (Both8 s p g r w base) w (w.alloc (.cells x.cells 70))) (X : X8At (w.alloc (.cells x.cells 70)) w.heap.size x) (I : IntsAt (w.alloc (.cells x.cells 70)) x.ga x.gn x.gs)
    (B : Nat) (xok : x.Ok w B) (hB : B ≤ w.heap.size ∧ B ≤ s ∧ B ≤ p ∧ B ≤ g ∧ B ≤ r ∧ B ≤ base) (hsl : s < w.heap.size) (e0 : (x.op == 0) = false) (e1 : (x.op == 1) = true) :
    Calls Try.prog 38 #[.pointer (some ⟨s, 0, none⟩), .pointer (some ⟨r, 0, none⟩), .agg x.cells] w (Does8Post base s p g r q S w) := by
  have n300 := xok.n300
  have hown : ((w.alloc (.cells x.cells 70)).alloc (.cells #[] 3)).ownsRow w.heap.size 3 1 (.slice (some ⟨w.heap.size + 1, 0, none⟩) 0 0) 0 [] := by
    refine ⟨rfl, .inr ⟨w.heap.size + 1, 0, #[], rfl, by omega, ?_, by omega, by unfold maxLen; omega, rfl, rfl⟩⟩
    have := heap_alloc_new (w.alloc (.cells x.cells 70)) (.cells #[] 3)
    simpa using this
  have K21 : Keep (fun _ => False) (w.alloc (.cells x.cells 70)) ((w.alloc (.cells x.cells 70)).alloc (.cells #[] 3)) := (Keep.refl _ _).alloc _
  have Hhown := Lib.hid hown
  have HI2 := Lib.hid (I.keep0 K21)
  have HK21 := Lib.hid K21
  have HX := Lib.hid X
  have HH := Lib.hid h
  have HR := Lib.hid R
  have HK := Lib.hid K
  have HI := Lib.hid I
  have HLOW := Lib.hid xok.low
  clear hown K21 X h R K I xok
  go_enter Try.func38, Try.ntmps38
  go_wp2_with (at_builtin; refine wpList_append_ints _ rfl (.tmp 48) (.tmp 50) rfl w.heap.size (.slice (some ⟨w.heap.size + 1, 0, none⟩) 0 0) 0 [] rfl Hhown.out _ _ _ _ rfl HI2.out (by omega) (by simp; omega) ?_; intro v1 w1 hown1 hgrow1; skip)
  rw [Nat.zero_add, List.nil_append] at hown1
  have K1 : Keep (fun _ => False) (w.alloc (.cells x.cells 70)) w1 := HK21.out.grown hgrow1 (fun b hb => .inr (by
    simp only [Value.ownBlock, Option.some.injEq] at hb
    subst hb
    simp))
  obtain ⟨A', c', rfl, I', hb'⟩ := own_ints hown1
  have h1 := HH.out.keep0 K1
  have R1 := HR.out.keep0 K1
  have X1 := HX.out.keep K1 (by simp)
  have KK1 := HK.out.trans (K1.mono (fun _ _ h => h.elim))
  have I1 := HI.out.keep0 K1
  clear hown1 hgrow1 Hhown HK21 HI2
  refine (fresh8_any h1 A' x.gn c' x.gs I' (by omega) (fun _ b off e => by have := (hb' b off e).1; omega)).mono ?_
  rintro e w2 ⟨S2, rfl, h2, k2, hM, hcur⟩
  have k2' : Keep (MineS s p g) w1 w2 := k2.mono (fun _ _ h => .inl h)
  have R2 := h1.keepS R1 k2'
  have X2 := X1.keep k2 (by omega)
  have I2 := I1.keepP k2 (fun h b off e => by have := HLOW.out h b off e; omega)
  have KK2 := KK1.both81 k2'
  have Hcur := Lib.hid hcur
  have HM := Lib.hid hM
  clear k2 k2' R1 X1 I1 KK1 h1 I' hb' hcur hM
  obtain ⟨x0, x1, x2, x3, x4⟩ := X2.cell
  go_wp2_with fail
  refine (rfresh_any R2 x.ga x.gn x.gc x.gs I2 (by omega) (fun h b off e => by have := HLOW.out h b off e; omega)).mono ?_
  rintro e w3 ⟨rfl, R3, k3⟩
  have k3' : Keep (RefS8 r w2 base) w2 w3 := k3.mono (fun _ _ h => .inl h)
  have h3 := h2.keepR R2 k3'
  have K3 := KK2.both82 k3'
  clear x0 x1 x2 x3 x4 k3 k3'
  go_wp2_with fail
  go_ret
  have R3' : R8Raw w3 base r q S2.M L (fun i k => S2.cur i k - 1) := by
    rw [HM.out]
    refine R3.congr fun a b ha hb => ?_
    rw [Hcur.out a b ha hb]
    by_cases hf : freshB x.gs a = true
    · rw [if_pos hf, if_pos hf]; rfl
    · rw [if_neg hf, if_neg hf]
  exact ⟨S2, L, rfl, h3, R3', fresh_ok ok HM.out Hcur.out, by rw [HM.out]; omega, by rw [HM.out], K3⟩
set_option maxRecDepth 100000 in
set_option maxHeartbeats 8000000 in
theorem does8_any (base s p g r q : Nat) (S : SpV) (L : List Nat) (x : Act8) (w : World) (h : SpAt w s p g S) (R : R8At w base r q S L) (ok : S.Ok) (hc : S.M.count ≤ 1000000) (B : Nat) (xok : x.Ok w B) (hB : B ≤ w.heap.size ∧ B ≤ s ∧ B ≤ p ∧ B ≤ g ∧ B ≤ r ∧ B ≤ base) :
    Calls Try.prog 38 #[.pointer (some ⟨s, 0, none⟩), .pointer (some ⟨r, 0, none⟩), .agg x.cells] w (Does8Post base s p g r q S w) := by
  have X := X8At.new w x
  have kx : Keep (fun _ => False) w (w.alloc (.cells x.cells 70)) := (Keep.refl _ _).alloc _
  have hsl := h.lt
  have hpl := h.mem.lt
  have hgl := h.mem.segs.lt
  have nX : ¬ MineS s p g w.heap.size := by rintro (h | h | h) <;> omega
  have I := xok.ints.keep0 kx
  replace h := h.keep0 kx
  replace R := R.keep0 kx
  have K : Keep (Both8 s p g r w base) w (w.alloc (.cells x.cells 70)) := kx.mono (fun _ _ h => h.elim)
  obtain ⟨x0, x1, x2, x3, x4⟩ := X.cell
  have xa1 := xok.a1
  have xc0 := xok.c0
  have xc1 := xok.c1
  clear kx
  by_cases o0 : x.op = 0
  · have e0 : (x.op == 0) = true := by simpa using o0
    clear o0
    go_enter Try.func38, Try.ntmps38
    go_wp2_with fail
    refine (alloc_any h ok hc _ _ _).mono ?_
    rintro e w4 ⟨S1, a1, f1, rfl, h4, k4, ok4, hc4, hl4, hR1⟩
    replace R := h.keepS R k4
    replace X := X.keep k4 nX
    replace K := K.both81 k4
    have HR1 := Lib.hid hR1
    have HC4 := Lib.hid hc4
    have HL4 := Lib.hid hl4
    clear x0 x1 x2 x3 x4 h hR1 k4 hc4 hl4
    obtain ⟨x0, x1, x2, x3, x4⟩ := X.cell
    go_wp2_with fail
    refine (ralloc8_any R ok _ _ _).mono ?_
    rintro e w5 ⟨S2, L2, a2, f2, rfl, R5, k5, hR2⟩
    obtain ⟨rfl, rfl, rfl⟩ := AllocR.det HR1.out hR2
    have h5 := h4.keepR R k5
    replace K := K.both82 k5
    clear x0 x1 x2 x3 x4 h4 hR2 k5 R X
    go_wp2_with fail
    go_ret
    exact ⟨S1, _, rfl, h5, R5, ok4, HC4.out, HL4.out, K⟩
  · have e0 : (x.op == 0) = false := by simpa using o0
    by_cases o1 : x.op = 1
    · have e1 : (x.op == 1) = true := by simpa using o1
      clear o0 o1
      exact does8_fresh base s p g r q S L x w h R ok K X I B xok hB hsl e0 e1
    · have e1 : (x.op == 1) = false := by simpa using o1
      by_cases o2 : x.op = 2
      · have e2 : (x.op == 2) = true := by simpa using o2
        clear o0 o1 o2 I
        go_enter Try.func38, Try.ntmps38
        go_wp2_with fail
        generalize w.alloc (.cells x.cells 70) = wA at h R X K x0 x1 x2 x3 x4 ⊢
        have kd : Keep (fun _ => False) wA wA.drew := (Keep.refl _ _).drew
        replace h := h.keep0 kd
        replace R := R.keep0 kd
        replace X := X.keep kd (by simp)
        replace K := K.drew
        clear kd x0 x1 x2 x3 x4
        obtain ⟨x0, x1, x2, x3, x4⟩ := X.cell
        go_region_held3 (fun w' => w'.cell? ⟨w.heap.size, 1, none⟩ = some (.int .i64 x.a))
          (first | exact (X8At.cell (x := x) (by assumption)).2.1)
          (first
            | (go_at_call 36; refine (give8_any (s := s) (p := p) (g := g) (S := S) (by assumption) ok _).mono ?_; rintro e wb ⟨S1, f1, rfl, h1, k1, ok1, hc1, hl1, hR1⟩; have X1 := X8At.keep (x := x) (by assumption) k1 nX; (first | have r1 := SpAt.keepS (S := S) (base := base) (r := r) (q := q) (M := S.M) (L := L) (cv := fun i k => S.cur i k - 1) (by assumption) (by assumption) k1 | have r1 := SpAt.keepS (S := S) (base := base) (r := r) (q := q) (M := S2.M) (L := L2) (cv := fun i k => S2.cur i k - 1) (by assumption) (by assumption) k1))
            | (go_at_call 76; refine (rgive8_any (base := base) (r := r) (q := q) (S := S) (L := L) (by assumption) ok _).mono ?_; rintro e wc ⟨S2, L2, f2, rfl, r2, k2, hR2⟩; have X2 := X8At.keep (x := x) (by assumption) k2 (X8At.notRef8 (x := x) (base := base) (r := r) (q := q) (M := S.M) (L := L) (cv := fun i k => S.cur i k - 1) (by assumption) (by assumption)); (first | have h2 := SpAt.keepR (S := S) (s := s) (p := p) (g := g) (q := q) (M := S.M) (L := L) (cv := fun i k => S.cur i k - 1) (by assumption) (by assumption) k2 | have h2 := SpAt.keepR (S := S1) (s := s) (p := p) (g := g) (q := q) (M := S.M) (L := L) (cv := fun i k => S.cur i k - 1) (by assumption) (by assumption) k2)))
        all_goals
          obtain ⟨rfl, lk⟩ := Give8R.det hR1 hR2
          have LK := Lib.hid lk
          clear lk hR1 hR2
          go_wp2_with fail
          go_ret
          refine ⟨S1, L2, by simp, by assumption, R8Raw.like (S := S2) (by assumption) LK.out, ok1, by omega, hl1, ?_⟩
          first
            | exact (K.both81 k1).both82 k2
            | exact (K.both82 k2).both81 k1
      · have e2 : (x.op == 2) = false := by simpa using o2
        by_cases o3 : x.op = 3
        · have e3 : (x.op == 3) = true := by simpa using o3
          clear o0 o1 o2 o3 I
          go_enter Try.func38, Try.ntmps38
          go_wp2_with fail
          generalize w.alloc (.cells x.cells 70) = wA at h R X K x0 x1 x2 x3 x4 ⊢
          have kd : Keep (fun _ => False) wA wA.drew := (Keep.refl _ _).drew
          replace h := h.keep0 kd
          replace R := R.keep0 kd
          replace X := X.keep kd (by simp)
          replace K := K.drew
          clear kd x0 x1 x2 x3 x4
          obtain ⟨x0, x1, x2, x3, x4⟩ := X.cell
          have hp := h.ptr
          have hq := R.ptr
          have hu0 : 0 ≤ IntKind.u64.wrap x.c := by rw [IntKind.wrap_u64]; omega
          have hu1 : IntKind.u64.wrap x.c ≤ 18446744073709551615 := by rw [IntKind.wrap_u64]; omega
          go_region_held3 (fun w' => w'.cell? ⟨w.heap.size, 1, none⟩ = some (.int .i64 x.a) ∧ w'.cell? ⟨w.heap.size, 3, none⟩ = some (.int .i64 x.c) ∧ w'.cell? ⟨s, 0, none⟩ = some (.pointer (some ⟨p, 0, none⟩)) ∧ w'.cell? ⟨r, 0, none⟩ = some (.pointer (some ⟨q, 0, none⟩)))
            (first | exact ⟨x1, x3, hp, hq⟩ | exact ⟨(X8At.cell (x := x) (by assumption)).2.1, (X8At.cell (x := x) (by assumption)).2.2.2.1, SpAt.ptr (g := g) (by assumption), R8Raw.ptr (base := base) (L := L) (by assumption)⟩)
            (first
              | (go_at_call 20; refine (swrite_any (s := s) (p := p) (g := g) (S := S) (by assumption) ok _ _ xa1 hu0 hu1).mono ?_; rintro e wb ⟨M1, f1, rfl, h1, k1, ok1, hc1, hl1, hR1⟩; have X1 := X8At.keep (x := x) (by assumption) k1 nX; (first | have r1 := SpAt.keepS (S := S) (base := base) (r := r) (q := q) (M := S.M) (L := L) (cv := fun i k => S.cur i k - 1) (by assumption) (by assumption) k1 | have r1 := SpAt.keepS (S := S) (base := base) (r := r) (q := q) (M := M2) (L := L) (cv := fun i k => S.cur i k - 1) (by assumption) (by assumption) k1))
              | (go_at_call 66; refine (rwrite8_any (base := base) (r := r) (q := q) (S := S) (L := L) (by assumption) ok _ _ xa1).mono ?_; rintro e wc ⟨M2, f2, rfl, r2, k2, hR2⟩; have X2 := X8At.keep (x := x) (by assumption) k2 (X8At.notRef8 (x := x) (base := base) (r := r) (q := q) (M := S.M) (L := L) (cv := fun i k => S.cur i k - 1) (by assumption) (by assumption)); (first | have h2 := SpAt.keepR (S := S) (s := s) (p := p) (g := g) (q := q) (M := S.M) (L := L) (cv := fun i k => S.cur i k - 1) (by assumption) (by assumption) k2 | have h2 := SpAt.keepR (S := { S with M := M1 }) (s := s) (p := p) (g := g) (q := q) (M := S.M) (L := L) (cv := fun i k => S.cur i k - 1) (by assumption) (by assumption) k2)))
          all_goals
            obtain ⟨rfl, rfl⟩ := WriteR.det hR1 hR2
            clear hR1 hR2
            go_wp2_with fail
            go_ret
            refine ⟨{ S with M := M1 }, L, by simp, by assumption, by assumption, ok1, by show M1.count ≤ _; omega, hl1, ?_⟩
            first
              | exact (K.both81 k1).both82 k2
              | exact (K.both82 k2).both81 k1
        · have e3 : (x.op == 3) = false := by simpa using o3
          clear o0 o1 o2 o3
          go_enter Try.func38, Try.ntmps38
          go_wp2_with fail
          go_ret
          exact ⟨S, L, rfl, h, R, ok, by omega, rfl, K⟩
end Go.Proofs.Ytgnpeciedefeiaa
