/-
  parse: one.
  parse: One.
  parse: All.
  The document's SameList; the law's sample: awake.
  The laws ParseOne and ParseAll: the walks.
-/
import Derived.Test.YtonnikipeokkaaaGreatDoorPrpQ
import Derived.Test.YtonnikipeokkaaaGreatDoorPrAs
namespace Go.Proofs.YtonnikipeokkaaaGreatDoor
open Go.RowKit Go.Lib

section
variable {X : Nat → Prop} {base pb rc : Nat} {fs : List FB} {R : Option Addr} {w : World}
theorem ptoken_any (h : PS X base pb fs R rc w) {a : Int} (hok : okF (fs.map FB.fr) a) (ha : a ≤ 100000) (t : Tk) (j : Nat) (en dk dc : Int) (dneg : Bool) (A : Option Addr) (n cp : Nat) (x : ByteArray) (hlf : LeafAt w t.d dk dc dneg A n cp x) :
    Calls Tryz.prog 70 #[.pointer (some ⟨pb, 0, none⟩), tokV (t.kind : Int) (j : Int) en t.sq dk dc dneg A n cp x] w (TokPost X base pb (tokF (fs.map FB.fr) j t) w) := by
  have hl : fs.length ≤ 64 := by have := hok.1; simpa using this
  by_cases h0 : t.kind = 0
  · rw [show tokF (fs.map FB.fr) j t = .err (endT (fs.map FB.fr) j).1 (endT (fs.map FB.fr) j).2 from by unfold tokF; rw [if_pos h0]]
    exact tok_end h hl _ _ _ _ _ _ _ _ _ _ _ (cast_eq (b := 0) h0)
  have q0 := cast_ne (b := 0) h0
  by_cases h8 : t.kind = 8
  · have q8 := cast_eq (b := 8) h8
    rw [show tokF (fs.map FB.fr) j t = dotT (fs.map FB.fr) j from by unfold tokF; rw [if_neg h0, if_pos h8]]
    cases hr : dotT (fs.map FB.fr) j with
    | err p c => exact tok_dot_err h hl _ _ _ _ _ _ _ _ _ _ _ q0 q8 _ _ hr
    | cont S => exact tok_dot_ok h hl _ _ _ _ _ _ _ _ _ _ _ q0 q8 _ hr
    | ended S d =>
      exfalso
      unfold dotT at hr
      split at hr
      · cases hr
      · split at hr <;> cases hr
  have q8 := cast_ne (b := 8) h8
  by_cases h2 : t.kind = 2
  · have q2 := cast_eq (b := 2) h2
    rw [show tokF (fs.map FB.fr) j t = closeT (fs.map FB.fr) j t.sq from by unfold tokF; rw [if_neg h0, if_neg h8, if_pos h2]]
    cases hr : closeT (fs.map FB.fr) j t.sq with
    | err p c => exact tok_close_err h hl _ _ _ _ _ _ _ _ _ _ _ hok ha q0 q8 q2 _ _ hr
    | ended S d => exact tok_close_ok h hl _ _ _ _ _ _ _ _ _ _ _ hok ha q0 q8 q2 _ _ hr
    | cont S =>
      exfalso
      unfold closeT at hr
      split at hr
      · cases hr
      · split at hr <;> cases hr
  have q2 := cast_ne (b := 2) h2
  by_cases hb : begF (fs.map FB.fr) t = 0
  · by_cases h9 : t.kind = 9
    · rw [show tokF (fs.map FB.fr) j t = .ended (fs.map FB.fr) (leafR t.d) from by unfold tokF; rw [if_neg h0, if_neg h8, if_neg h2, if_neg (fun e => e hb), if_pos h9]]
      exact tok_datum h hl _ _ _ _ _ _ _ _ _ _ _ t rfl q0 q8 q2 (cast_eq (b := 9) h9) hb hlf
    · rw [show tokF (fs.map FB.fr) j t = .cont (⟨t.kind, j, t.sq, 0, .nil, []⟩ :: fs.map FB.fr) from by unfold tokF; rw [if_neg h0, if_neg h8, if_neg h2, if_neg (fun e => e hb), if_neg h9]]
      exact tok_push h hl _ _ _ _ _ _ _ _ _ _ _ t rfl q0 q8 q2 (cast_ne (b := 9) h9) hb
  · rw [show tokF (fs.map FB.fr) j t = .err j (begF (fs.map FB.fr) t) from by unfold tokF; rw [if_neg h0, if_neg h8, if_neg h2, if_pos hb]]
    exact tok_beg_err h hl _ _ _ _ _ _ _ _ _ _ _ t rfl q0 q8 q2 _ hb rfl
end
theorem Run.inv {l : List UInt8} {S : List Fr} {i : Int} {r : Got} (h : Run l S i r) : (∃ p c, nextV l i = .error (p, c) ∧ r = .error (p, c)) ∨ ∃ j t, nextV l i = .ok (j, t) ∧ RunS l (j + t.len) r (stepF S j t) := by
  cases h with
  | lex n => exact .inl ⟨_, _, n, rfl⟩
  | err n s => exact .inr ⟨_, _, n, by rw [s]; rfl⟩
  | done n s => exact .inr ⟨_, _, n, by rw [s]; rfl⟩
  | cont n s m => exact .inr ⟨_, _, n, by rw [s]; exact m⟩
def OnePost (r : Got) (w : World) (e : Ending) (w' : World) : Prop :=
  match r with
  | .ok (d, n) => ∃ p : PV, e = .returned (.tuple #[rawV d p, .int .i64 (n : Int), .nilIface]) ∧ DatAt (fun b => w.heap.size ≤ b) w' d p ∧ Keep (fun _ => False) w w'
  | .error (p, c) => ∃ v, e = .returned (.tuple #[.agg #[.int .i64 0, .int .i32 0, .bool false, .slice none 0 0, .string ⟨#[]⟩, .slice none 0 0], .int .i64 0, v]) ∧ ErrP w' v p c ∧ Keep (fun _ => False) w w'
/-- At a round of one. -/
structure OnS (l : List UInt8) (w : World) (r : Got) (i : Int) (fs : List FB) (R : Option Addr) (rc : Nat) (wr : World) : Prop where
  run : Run l (fs.map FB.fr) i r
  ps : PS (fun _ => False) (w.heap.size + 1) (w.heap.size + 1) fs R rc wr
  ok : okF (fs.map FB.fr) i
  h0 : wr.heap[w.heap.size]? = some (.cells #[.int .i64 0, .int .i32 0, .bool false, .slice none 0 0, .string ⟨#[]⟩, .slice none 0 0] 27 (0, 0))
  K : Keep (fun _ => False) w wr
theorem OnS.start {l : List UInt8} {w : World} {r : Got} {i : Int} (h : OneR l i r) : OnS l w r i [] none 0 ((w.alloc (.cells #[.int .i64 0, .int .i32 0, .bool false, .slice none 0 0, .string ⟨#[]⟩, .slice none 0 0] 27)).alloc (.cells #[.slice none 0 0] 120)) := by
  have K : Keep (fun _ => False) w ((w.alloc (.cells #[.int .i64 0, .int .i32 0, .bool false, .slice none 0 0, .string ⟨#[]⟩, .slice none 0 0] 27)).alloc (.cells #[.slice none 0 0] 120)) := ((Keep.refl _ _).alloc _).alloc _
  refine ⟨h.run, ⟨by have := heap_alloc_new (w.alloc (.cells #[.int .i64 0, .int .i32 0, .bool false, .slice none 0 0, .string ⟨#[]⟩, .slice none 0 0] 27)) (.cells #[.slice none 0 0] 120); rwa [World.size_alloc] at this, Nat.le_refl _, World.ownsRow_nil _ _ _ _, by simp, .nil, fun _ e => e.elim, fun _ e => e.elim⟩, ⟨by simp, by simp⟩, bx_old (heap_alloc_new w _) _, K⟩
set_option maxRecDepth 100000 in
set_option maxHeartbeats 8000000 in
theorem one_any (s : ByteArray) (at_ : Int) (r : Got) (hr : OneR s.data.toList at_ r) (w : World) (hT : Tabs w) : Calls Tryz.prog 42 #[.string s, .int .i64 at_] w (OnePost r w) := by
  have HNX := Lib.hid (fun (i : Int) (W : World) (K : Keep (fun _ => False) w W) => lexNext_any s i W (hT.keep K))
  have HZ := Lib.hid (show s.data.toList.length = s.size from (Lib.size_eq s).symm)
  have HST := Lib.hid (OnS.start (w := w) hr)
  clear hr hT
  go_enter Tryz.func42, Tryz.ntmps42
  go_wp2_with fail
  generalize ((w.alloc (.cells #[.int .i64 0, .int .i32 0, .bool false, .slice none 0 0, .string ⟨#[]⟩, .slice none 0 0] 27)).alloc (.cells #[.slice none 0 0] 120)) = w1 at *
  go_loopw [1] (fun av wr => ∃ (i : Int) (fs : List FB) (R : Option Addr) (rc : Nat), av = .int .i64 i ∧ OnS s.data.toList w r i fs R rc wr) (fun av _ => ((s.size : Int) - intOf av).toNat)
  case atStart => exact ⟨at_, [], none, 0, rfl, HST.out⟩
  case round =>
    clear HST
    obtain ⟨i, fs, R, rc, rfl, hst⟩ := hrel
    have HS := Lib.hid hst
    clear hst
    go_wp2_with fail
    refine (HNX.out i _ HS.out.K).mono ?_
    intro e w2 hres
    rcases HS.out.run.inv with ⟨p, c, nn, hre⟩ | ⟨j, t, nn, hst⟩
    · skip
      rw [nn] at hres
      obtain ⟨rfl, k2⟩ := hres
      have g0 : ((c : Int) != 0) = true := by have := nextV_code nn; simp; omega
      have HA := Lib.hid (bx_old (k2.heap HS.out.h0 id) (.cells #[.int .i64 0, .int .i64 0, .int .i64 0, .bool false, .int .i64 0, .int .i32 0, .bool false, .slice none 0 0, .string ⟨#[]⟩, .slice none 0 0] 29))
      have HK2 := Lib.hid ((HS.out.K.trans k2).alloc (.cells #[.int .i64 0, .int .i64 0, .int .i64 0, .bool false, .int .i64 0, .int .i32 0, .bool false, .slice none 0 0, .string ⟨#[]⟩, .slice none 0 0] 29))
      clear k2
      try dsimp only
      go_wp2_with fail
      refine (pwrong_any _ (p : Int) (c : Int) _).mono ?_
      rintro e w4 ⟨v, rfl, he, k4⟩
      have HA4 := Lib.hid (k4.heap HA.out id)
      have HKx := Lib.hid (HK2.out.trans k4)
      have HER := Lib.hid (show ErrP (sixSet w4 w.heap.size (.int .i64 0) (.int .i32 0) (.bool false) (.slice none 0 0) (.string ⟨#[]⟩) (.slice none 0 0)) _ _ _ from he.keep (six_self _ _ (.int .i64 0) (.int .i32 0) (.bool false) (.slice none 0 0) (.string ⟨#[]⟩) (.slice none 0 0)) (by rintro b Y rfl; rw [HA4.out]; exact ⟨by simp, by simp⟩))
      clear he k4
      try dsimp only
      have HE := Lib.hid (six_keep HKx.out (Nat.le_refl _) (.int .i64 0) (.int .i32 0) (.bool false) (.slice none 0 0) (.string ⟨#[]⟩) (.slice none 0 0))
      have HR := Lib.hid (six_cells (six_row HA4.out (.int .i64 0) (.int .i32 0) (.bool false) (.slice none 0 0) (.string ⟨#[]⟩) (.slice none 0 0))).1
      obtain ⟨⟨b0, b1, b2, b3, b4, b5⟩, f0, f1, f2, f3, f4, f5⟩ := six_cells HA4.out
      go_wp2_with fail
      refine bodyPost_ret (v := .tuple #[.agg #[.int .i64 0, .int .i32 0, .bool false, .slice none 0 0, .string ⟨#[]⟩, .slice none 0 0], .int .i64 0, v]) ?_ rfl ?_
      · obtain ⟨e0, e1, e2, e3, e4, e5⟩ := HR.out
        simp [results, Tryz.results42, go_sem, e0, e1, e2, e3, e4, e5]
      · rw [hre]; exact ⟨v, rfl, HER.out, HE.out⟩
    · skip
      have HZ4 := Lib.hid (show s.data.toList.length ≤ 4096 from (nextV_lim nn).1)
      rw [nn] at hres
      obtain ⟨dk, dc, dneg, A, n, cp, x, he, hlf, k2⟩ := hres
      obtain ⟨tk1, tk2, tk3, tk4⟩ := nextV_tok nn
      obtain ⟨lim1, ai, hai, lim2, _⟩ := nextV_lim nn
      have hn48 : i ≤ 4096 := by omega
      have HSTEP := Lib.hid hst
      have HT4 := Lib.hid tk4
      have HT3 := Lib.hid tk3
      have HI0 := Lib.hid (show 0 ≤ i by omega)
      have hps2 := HS.out.ps.keep0 (k2.alloc (.cells #[.int .i64 (t.kind : Int), .int .i64 (j : Int), .int .i64 ((j + t.len : Nat) : Int), .bool t.sq, .int .i64 dk, .int .i32 dc, .bool dneg, .slice A n cp, .string x, .slice none 0 0] 29))
      have hcall := ptoken_any hps2 HS.out.ok (by omega) t j ((j + t.len : Nat) : Int) dk dc dneg A n cp x (hlf.keep ((Keep.refl _ _).alloc _))
      have htok := tok_ok (j := j) (t := t) HS.out.ok tk1
      have HOK := Lib.hid htok
      obtain ⟨tk, htk⟩ : ∃ z : Int, z = (t.kind : Int) := ⟨_, rfl⟩
      obtain ⟨te, hte⟩ : ∃ z : Int, z = ((j + t.len : Nat) : Int) := ⟨_, rfl⟩
      obtain ⟨ts, hts⟩ : ∃ z : Bool, z = t.sq := ⟨_, rfl⟩
      rw [← htk, ← hte, ← hts] at he hcall
      rw [← htk, ← hte, ← hts] at hps2
      subst he
      have HTE := Lib.hid hte
      have HCALL := Lib.hid hcall
      have HA := Lib.hid (bx_old (k2.heap HS.out.h0 id) (.cells #[.int .i64 tk, .int .i64 (j : Int), .int .i64 te, .bool ts, .int .i64 dk, .int .i32 dc, .bool dneg, .slice A n cp, .string x, .slice none 0 0] 29))
      have HK2 := Lib.hid ((HS.out.K.trans k2).alloc (.cells #[.int .i64 tk, .int .i64 (j : Int), .int .i64 te, .bool ts, .int .i64 dk, .int .i32 dc, .bool dneg, .slice A n cp, .string x, .slice none 0 0] 29))
      have HPSX := Lib.hid hps2
      obtain ⟨⟨a0, a1, a2, a3, a4, a5, a6, a7, a8, a9⟩, _⟩ := tok_cells (heap_alloc_new w2 (.cells #[.int .i64 tk, .int .i64 (j : Int), .int .i64 te, .bool ts, .int .i64 dk, .int .i32 dc, .bool dneg, .slice A n cp, .string x, .slice none 0 0] 29))
      clear hps2 hcall htok htk hte hts k2 hlf tk1 tk2 tk3 tk4 lim1 lim2 hai hst nn hn48
      try dsimp only
      go_wp2_with fail
      refine HCALL.out.mono ?_
      intro e w4 hres
      generalize w2.alloc (.cells #[.int .i64 tk, .int .i64 (j : Int), .int .i64 te, .bool ts, .int .i64 dk, .int .i32 dc, .bool dneg, .slice A n cp, .string x, .slice none 0 0] 29) = w3 at *
      clear a0 a1 a2 a3 a4 a5 a6 a7 a8 a9
      have HSF := Lib.hid (step_tok (fs.map FB.fr) j t)
      cases htf : tokF (fs.map FB.fr) j t with
      | err p c =>
        rw [htf] at hres
        obtain ⟨v, rfl, he, k4⟩ := hres
        have hre : r = .error (p, c) := by have h1 := HSTEP.out; rw [HSF.out, htf] at h1; exact h1
        have HRE := Lib.hid hre
        have HA4 := Lib.hid (bx_old (k4.heap HA.out (by omega)) (.cells #[.int .i64 0, .int .i32 0, .bool false, .slice none 0 0, .string ⟨#[]⟩, .slice none 0 0] 27))
        have HKx := Lib.hid ((HK2.out.into k4 (fun b e => by omega)).alloc (.cells #[.int .i64 0, .int .i32 0, .bool false, .slice none 0 0, .string ⟨#[]⟩, .slice none 0 0] 27))
        have HEN := Lib.hid (he.keep0 ((Keep.refl _ _).alloc (.cells #[.int .i64 0, .int .i32 0, .bool false, .slice none 0 0, .string ⟨#[]⟩, .slice none 0 0] 27)))
        obtain ⟨A', B', what, hv, _, _⟩ := he
        subst hv
        have HER := Lib.hid (show ErrP (sixSet (w4.alloc (.cells #[.int .i64 0, .int .i32 0, .bool false, .slice none 0 0, .string ⟨#[]⟩, .slice none 0 0] 27)) w.heap.size (.int .i64 0) (.int .i32 0) (.bool false) (.slice none 0 0) (.string ⟨#[]⟩) (.slice none 0 0)) _ _ _ from HEN.out.keep (six_self _ _ (.int .i64 0) (.int .i32 0) (.bool false) (.slice none 0 0) (.string ⟨#[]⟩) (.slice none 0 0)) (by rintro b Y rfl; rw [HA4.out]; exact ⟨by simp, by simp⟩))
        clear k4 htf hre
        try dsimp only
        have HE := Lib.hid (six_keep HKx.out (Nat.le_refl _) (.int .i64 0) (.int .i32 0) (.bool false) (.slice none 0 0) (.string ⟨#[]⟩) (.slice none 0 0))
        have HR := Lib.hid (six_cells (six_row HA4.out (.int .i64 0) (.int .i32 0) (.bool false) (.slice none 0 0) (.string ⟨#[]⟩) (.slice none 0 0))).1
        obtain ⟨⟨b0, b1, b2, b3, b4, b5⟩, f0, f1, f2, f3, f4, f5⟩ := six_cells HA4.out
        go_wp2_with fail
        refine bodyPost_ret (v := .tuple #[.agg #[.int .i64 0, .int .i32 0, .bool false, .slice none 0 0, .string ⟨#[]⟩, .slice none 0 0], .int .i64 0, .iface 164 (.pointer (some ⟨B', 0, none⟩))]) ?_ rfl ?_
        · obtain ⟨e0, e1, e2, e3, e4, e5⟩ := HR.out
          simp [results, Tryz.results42, go_sem, e0, e1, e2, e3, e4, e5]
        · rw [HRE.out]; exact ⟨_, rfl, HER.out, HE.out⟩
      | cont S =>
        rw [htf] at hres
        obtain ⟨fs2, R2, rc2, hfs, rfl, hp2, k4⟩ := hres
        have hrun : Run s.data.toList S ((j + t.len : Nat) : Int) r := by have h1 := HSTEP.out; rw [HSF.out, htf] at h1; exact h1
        have hk0 : t.kind ≠ 0 := by
          intro e
          unfold tokF at htf
          rw [if_pos e] at htf
          cases htf
        have HLT := Lib.hid (HT4.out hk0)
        have hA4 := bx_old (k4.heap HA.out (by omega)) (.cells #[.int .i64 0, .int .i32 0, .bool false, .slice none 0 0, .string ⟨#[]⟩, .slice none 0 0] 27)
        have hKx := (HK2.out.into k4 (fun b e => by omega)).alloc (.cells #[.int .i64 0, .int .i32 0, .bool false, .slice none 0 0, .string ⟨#[]⟩, .slice none 0 0] 27)
        have HN := Lib.hid (show OnS s.data.toList w r te fs2 R2 rc2 (w4.alloc (.cells #[.int .i64 0, .int .i32 0, .bool false, .slice none 0 0, .string ⟨#[]⟩, .slice none 0 0] 27)) from ⟨by rw [hfs, HTE.out]; exact hrun, hp2.keep0 ((Keep.refl _ _).alloc _), by rw [hfs]; exact (HOK.out.1 S htf).mono (by rw [HTE.out]; exact Int.le_of_lt HLT.out), hA4, hKx⟩)
        clear k4 htf hrun hk0 hA4 hKx hp2 hfs
        try dsimp only
        go_wp2_with fail
        go_roundw
        case rel => exact ⟨te, fs2, R2, rc2, rfl, HN.out⟩
        case measure =>
          have h1 := HLT.out
          have h2 := HT3.out
          have h3 := HI0.out
          have h4 := HTE.out
          have h5 := HZ.out
          simp only [intOf]
          omega
      | ended S d =>
        rw [htf] at hres
        obtain ⟨fs2, R2, rc2, pd, hfs, rfl, hp2, hd2, k4⟩ := hres
        have hput := HSTEP.out
        rw [HSF.out, htf] at hput
        have hput : RunS s.data.toList (j + t.len) r (putF S d) := hput
        have hk0 : t.kind ≠ 0 := by
          intro e
          unfold tokF at htf
          rw [if_pos e] at htf
          cases htf
        have HLT := Lib.hid (HT4.out hk0)
        have hoks := HOK.out.2 S d htf
        have hA4 := bx_old (k4.heap HA.out (by omega)) (.cells #[.int .i64 d.k, .int .i32 d.c, .bool d.neg, .slice pd.A pd.n pd.cp, .string d.t, .slice pd.B pd.m pd.cap] 27)
        have hKx := (HK2.out.into k4 (fun b e => by omega)).alloc (.cells #[.int .i64 d.k, .int .i32 d.c, .bool d.neg, .slice pd.A pd.n pd.cp, .string d.t, .slice pd.B pd.m pd.cap] 27)
        have HA4 := Lib.hid hA4
        have HK4 := Lib.hid hKx
        have hp4 := hp2.keep0 ((Keep.refl _ _).alloc (.cells #[.int .i64 d.k, .int .i32 d.c, .bool d.neg, .slice pd.A pd.n pd.cp, .string d.t, .slice pd.B pd.m pd.cap] 27))
        have hits : ∀ f ∈ fs2, f.fr.items.length ≤ 100000 := fun f hf => by
          have h1 := hoks.2 f.fr (by rw [← hfs]; exact List.mem_map_of_mem hf)
          by_cases e : f.fr.items = []
          · rw [e]; simp
          · have := h1.cnt e
            have h2 := HLT.out
            have h3 := HT3.out
            have h4 := HZ4.out
            omega
        have hpc := put_any hp4 (hd2.keep0 ((Keep.refl _ _).alloc (.cells #[.int .i64 d.k, .int .i32 d.c, .bool d.neg, .slice pd.A pd.n pd.cp, .string d.t, .slice pd.B pd.m pd.cap] 27))) (by have := hoks.1; rw [← hfs] at this; simpa using this) hits
        rw [hfs] at hpc
        have HPC := Lib.hid hpc
        have HPUT := Lib.hid hput
        have HOKS := Lib.hid hoks
        obtain ⟨⟨y0, y1, y2, y3, y4, y5⟩, _⟩ := six_cells (heap_alloc_new w4 (.cells #[.int .i64 d.k, .int .i32 d.c, .bool d.neg, .slice pd.A pd.n pd.cp, .string d.t, .slice pd.B pd.m pd.cap] 27))
        clear hput hk0 hoks hA4 hKx hp4 hits hpc hp2 hd2 k4 htf hfs
        try dsimp only
        go_wp2_with fail
        refine HPC.out.mono ?_
        intro e w6 hres
        generalize w4.alloc (.cells #[.int .i64 d.k, .int .i32 d.c, .bool d.neg, .slice pd.A pd.n pd.cp, .string d.t, .slice pd.B pd.m pd.cap] 27) = w5 at *
        clear y0 y1 y2 y3 y4 y5
        cases hpf : putF S d with
        | err p c => rw [hpf] at hres; exact hres.elim
        | done d2 =>
          rw [hpf] at hres
          obtain ⟨p2, rfl, hd2, k6⟩ := hres
          have HRE := Lib.hid (show r = .ok (d2, j + t.len) by have h1 := HPUT.out; rw [hpf] at h1; exact h1)
          have HA6 := Lib.hid (bx_old (k6.heap HA4.out (by omega)) (.cells #[.int .i64 d2.k, .int .i32 d2.c, .bool d2.neg, .slice p2.A p2.n p2.cp, .string d2.t, .slice p2.B p2.m p2.cap] 27))
          have HKx := Lib.hid ((HK4.out.into k6 (fun b e => by omega)).alloc (.cells #[.int .i64 d2.k, .int .i32 d2.c, .bool d2.neg, .slice p2.A p2.n p2.cp, .string d2.t, .slice p2.B p2.m p2.cap] 27))
          have HD6 := Lib.hid (hd2.keep0 ((Keep.refl _ _).alloc (.cells #[.int .i64 d2.k, .int .i32 d2.c, .bool d2.neg, .slice p2.A p2.n p2.cp, .string d2.t, .slice p2.B p2.m p2.cap] 27)))
          obtain ⟨⟨y0, y1, y2, y3, y4, y5⟩, _⟩ := six_cells (heap_alloc_new w6 (.cells #[.int .i64 d2.k, .int .i32 d2.c, .bool d2.neg, .slice p2.A p2.n p2.cp, .string d2.t, .slice p2.B p2.m p2.cap] 27))
          clear hd2 k6 hpf
          try dsimp only
          have HE := Lib.hid (six_keep HKx.out (Nat.le_refl _) (.int .i64 d2.k) (.int .i32 d2.c) (.bool d2.neg) (.slice p2.A p2.n p2.cp) (.string d2.t) (.slice p2.B p2.m p2.cap))
          have HR := Lib.hid (six_cells (six_row HA6.out (.int .i64 d2.k) (.int .i32 d2.c) (.bool d2.neg) (.slice p2.A p2.n p2.cp) (.string d2.t) (.slice p2.B p2.m p2.cap))).1
          obtain ⟨⟨b0, b1, b2, b3, b4, b5⟩, f0, f1, f2, f3, f4, f5⟩ := six_cells HA6.out
          go_wp2_with fail
          refine bodyPost_ret (v := .tuple #[.agg #[.int .i64 d2.k, .int .i32 d2.c, .bool d2.neg, .slice p2.A p2.n p2.cp, .string d2.t, .slice p2.B p2.m p2.cap], .int .i64 te, .nilIface]) ?_ rfl ?_
          · obtain ⟨e0, e1, e2, e3, e4, e5⟩ := HR.out
            simp [results, Tryz.results42, go_sem, e0, e1, e2, e3, e4, e5]
          · rw [HRE.out]
            refine ⟨p2, by rw [HTE.out], ?_, HE.out⟩
            refine (HD6.out.keep (six_self _ w.heap.size _ _ _ _ _ _) ?_).mono (fun b _ e => by omega)
            rintro b rfl
            exact ⟨fun e => by omega, not_T126 HA6.out (by decide)⟩
        | cont S2 =>
          rw [hpf] at hres
          obtain ⟨fs3, R3, rc3, d3, p3, hfs3, rfl, hp3, k6⟩ := hres
          have hrun : Run s.data.toList S2 ((j + t.len : Nat) : Int) r := by have h1 := HPUT.out; rw [hpf] at h1; exact h1
          have hA6 := bx_old (k6.heap HA4.out (by omega)) (.cells #[.int .i64 d3.k, .int .i32 d3.c, .bool d3.neg, .slice p3.A p3.n p3.cp, .string d3.t, .slice p3.B p3.m p3.cap] 27)
          have hKx := (HK4.out.into k6 (fun b e => by omega)).alloc (.cells #[.int .i64 d3.k, .int .i32 d3.c, .bool d3.neg, .slice p3.A p3.n p3.cp, .string d3.t, .slice p3.B p3.m p3.cap] 27)
          have HN := Lib.hid (show OnS s.data.toList w r te fs3 R3 rc3 (w6.alloc (.cells #[.int .i64 d3.k, .int .i32 d3.c, .bool d3.neg, .slice p3.A p3.n p3.cp, .string d3.t, .slice p3.B p3.m p3.cap] 27)) from ⟨by rw [hfs3, HTE.out]; exact hrun, hp3.keep0 ((Keep.refl _ _).alloc _), by rw [hfs3]; exact put_ok HOKS.out HI0.out (by rw [HTE.out]; exact HLT.out) S2 hpf, hA6, hKx⟩)
          clear k6 hpf hrun hA6 hKx hp3 hfs3
          try dsimp only
          go_wp2_with fail
          go_roundw
          case rel => exact ⟨te, fs3, R3, rc3, rfl, HN.out⟩
          case measure =>
            have h1 := HLT.out
            have h2 := HT3.out
            have h3 := HI0.out
            have h4 := HTE.out
            have h5 := HZ.out
            simp only [intOf]
            omega
end Go.Proofs.YtonnikipeokkaaaGreatDoor

namespace Go.Proofs.YtonnikipeokkaaaGreatDoor
open Go.RowKit Go.Lib

def ParsePOne (r : Got) (w : World) (e : Ending) (w' : World) : Prop :=
  match r with
  | .ok (d, n) => ∃ p : PV, e = .returned (.tuple #[rawV d p, .int .i64 (n : Int), .int .i64 0, .int .i64 0]) ∧ DatAt (fun b => w.heap.size ≤ b) w' d p ∧ Keep (fun _ => False) w w'
  | .error (q, c) => e = .returned (.tuple #[.agg #[.int .i64 0, .int .i32 0, .bool false, .slice none 0 0, .string ⟨#[]⟩, .slice none 0 0], .int .i64 0, .int .i64 (q : Int), .int .i64 (c : Int)]) ∧ Keep (fun _ => False) w w'
set_option maxRecDepth 100000 in
set_option maxHeartbeats 8000000 in
theorem pOne_ok (s : ByteArray) (at_ : Int) (d : Raw) (n : Nat) (hr : OneR s.data.toList at_ (.ok (d, n))) (w : World) (hT : Tabs w) : Calls Tryz.prog 18 #[.string s, .int .i64 at_] w (ParsePOne (.ok (d, n)) w) := by
  have HB := Lib.hid (heap_alloc_new w (.cells #[.int .i64 0, .int .i32 0, .bool false, .slice none 0 0, .string ⟨#[]⟩, .slice none 0 0] 27))
  have HK0 := Lib.hid (show Keep (fun _ => False) w (w.alloc (.cells #[.int .i64 0, .int .i32 0, .bool false, .slice none 0 0, .string ⟨#[]⟩, .slice none 0 0] 27)) from (Keep.refl _ _).alloc _)
  have HC := Lib.hid (one_any s at_ _ hr (w.alloc (.cells #[.int .i64 0, .int .i32 0, .bool false, .slice none 0 0, .string ⟨#[]⟩, .slice none 0 0] 27)) (hT.keep HK0.out))
  clear hr hT
  go_enter Tryz.func18, Tryz.ntmps18
  go_wp2_with fail
  refine HC.out.mono ?_
  rintro e w2 ⟨pd, rfl, hd, k2⟩
  have HB2 := Lib.hid (k2.heap HB.out id)
  have HK2 := Lib.hid (HK0.out.trans k2)
  have HB4 := Lib.hid (show ((sixSet w2 w.heap.size (.int .i64 d.k) (.int .i32 d.c) (.bool d.neg) (.slice pd.A pd.n pd.cp) (.string d.t) (.slice pd.B pd.m pd.cap)).alloc (.cells #[.pointer none] 77)).heap[w.heap.size]? = some (.cells #[.int .i64 d.k, .int .i32 d.c, .bool d.neg, .slice pd.A pd.n pd.cp, .string d.t, .slice pd.B pd.m pd.cap] 27 (0, 0)) from bx_old (six_row HB2.out _ _ _ _ _ _) _)
  have HK4 := Lib.hid (show Keep (fun _ => False) w ((sixSet w2 w.heap.size (.int .i64 d.k) (.int .i32 d.c) (.bool d.neg) (.slice pd.A pd.n pd.cp) (.string d.t) (.slice pd.B pd.m pd.cap)).alloc (.cells #[.pointer none] 77)) from (six_keep HK2.out (Nat.le_refl _) (.int .i64 d.k) (.int .i32 d.c) (.bool d.neg) (.slice pd.A pd.n pd.cp) (.string d.t) (.slice pd.B pd.m pd.cap)).alloc _)
  have HD4 := Lib.hid (show DatAt (fun b => w.heap.size ≤ b ∧ b ≠ w.heap.size) ((sixSet w2 w.heap.size (.int .i64 d.k) (.int .i32 d.c) (.bool d.neg) (.slice pd.A pd.n pd.cp) (.string d.t) (.slice pd.B pd.m pd.cap)).alloc (.cells #[.pointer none] 77)) d pd from (hd.keep ((six_self w2 w.heap.size (.int .i64 d.k) (.int .i32 d.c) (.bool d.neg) (.slice pd.A pd.n pd.cp) (.string d.t) (.slice pd.B pd.m pd.cap)).alloc _) (by
    rintro b rfl
    exact ⟨fun e => by have e : (w.alloc (.cells #[.int .i64 0, .int .i32 0, .bool false, .slice none 0 0, .string ⟨#[]⟩, .slice none 0 0] 27)).heap.size ≤ w.heap.size := e; rw [World.size_alloc] at e; omega, not_T126 HB2.out (by decide)⟩)).mono (fun b _ e => by have e : (w.alloc (.cells #[.int .i64 0, .int .i32 0, .bool false, .slice none 0 0, .string ⟨#[]⟩, .slice none 0 0] 27)).heap.size ≤ b := e; rw [World.size_alloc] at e; exact ⟨by omega, by omega⟩))
  have HE := Lib.hid (six_keep HK4.out (Nat.le_refl _) (.int .i64 d.k) (.int .i32 d.c) (.bool d.neg) (.slice pd.A pd.n pd.cp) (.string d.t) (.slice pd.B pd.m pd.cap))
  have HR := Lib.hid (six_cells (six_row HB4.out (.int .i64 d.k) (.int .i32 d.c) (.bool d.neg) (.slice pd.A pd.n pd.cp) (.string d.t) (.slice pd.B pd.m pd.cap))).1
  obtain ⟨⟨c0, c1, c2, c3, c4, c5⟩, f0, f1, f2, f3, f4, f5⟩ := six_cells HB2.out
  have HN := Lib.hid (show DatAt (fun b => w.heap.size ≤ b) (sixSet ((sixSet w2 w.heap.size (.int .i64 d.k) (.int .i32 d.c) (.bool d.neg) (.slice pd.A pd.n pd.cp) (.string d.t) (.slice pd.B pd.m pd.cap)).alloc (.cells #[.pointer none] 77)) w.heap.size (.int .i64 d.k) (.int .i32 d.c) (.bool d.neg) (.slice pd.A pd.n pd.cp) (.string d.t) (.slice pd.B pd.m pd.cap)) d pd from (HD4.out.keep (six_self _ _ (.int .i64 d.k) (.int .i32 d.c) (.bool d.neg) (.slice pd.A pd.n pd.cp) (.string d.t) (.slice pd.B pd.m pd.cap)) (by
    rintro b rfl
    exact ⟨fun e => e.2 rfl, not_T126 HB4.out (by decide)⟩)).mono (fun b _ e => e.1))
  clear hd k2
  try dsimp only
  go_wp2_with fail
  refine (Asparse.as_nil _ _).mono ?_
  rintro e w3 ⟨rfl, hw⟩
  rw [hw] at HB4 HK4 HE HR HN
  clear hw c0 c1 c2 c3 c4 c5 f0 f1 f2 f3 f4 f5
  obtain ⟨⟨c0, c1, c2, c3, c4, c5⟩, f0, f1, f2, f3, f4, f5⟩ := six_cells HB4.out
  try dsimp only
  go_wp2_with fail
  refine bodyPost_ret (v := .tuple #[.agg #[.int .i64 d.k, .int .i32 d.c, .bool d.neg, .slice pd.A pd.n pd.cp, .string d.t, .slice pd.B pd.m pd.cap], .int .i64 (n : Int), .int .i64 0, .int .i64 0]) ?_ rfl ?_
  · obtain ⟨e0, e1, e2, e3, e4, e5⟩ := HR.out
    simp [results, Tryz.results18, go_sem, e0, e1, e2, e3, e4, e5]
  · exact ⟨pd, rfl, HN.out, HE.out⟩
set_option maxRecDepth 100000 in
set_option maxHeartbeats 8000000 in
theorem pOne_err (s : ByteArray) (at_ : Int) (p c : Nat) (hr : OneR s.data.toList at_ (.error (p, c))) (w : World) (hT : Tabs w) : Calls Tryz.prog 18 #[.string s, .int .i64 at_] w (ParsePOne (.error (p, c)) w) := by
  have HB := Lib.hid (heap_alloc_new w (.cells #[.int .i64 0, .int .i32 0, .bool false, .slice none 0 0, .string ⟨#[]⟩, .slice none 0 0] 27))
  have HK0 := Lib.hid (show Keep (fun _ => False) w (w.alloc (.cells #[.int .i64 0, .int .i32 0, .bool false, .slice none 0 0, .string ⟨#[]⟩, .slice none 0 0] 27)) from (Keep.refl _ _).alloc _)
  have HC := Lib.hid (one_any s at_ _ hr (w.alloc (.cells #[.int .i64 0, .int .i32 0, .bool false, .slice none 0 0, .string ⟨#[]⟩, .slice none 0 0] 27)) (hT.keep HK0.out))
  have HT := Lib.hid hT
  clear hr hT
  go_enter Tryz.func18, Tryz.ntmps18
  go_wp2_with fail
  refine HC.out.mono ?_
  rintro e w2 ⟨v, rfl, he, k2⟩
  have HB2 := Lib.hid (k2.heap HB.out id)
  have HK2 := Lib.hid (HK0.out.trans k2)
  obtain ⟨A, B, what, rfl, hB, hA⟩ := he
  have nB : B ≠ w.heap.size := by
    rintro rfl
    exact absurd (typ_ne hB HB2.out) (by decide)
  have nA : A ≠ w.heap.size := by
    rintro rfl
    exact absurd (typ_ne hA HB2.out) (by decide)
  have HB4 := Lib.hid (show ((sixSet w2 w.heap.size (.int .i64 0) (.int .i32 0) (.bool false) (.slice none 0 0) (.string ⟨#[]⟩) (.slice none 0 0)).alloc (.cells #[.pointer none] 77)).heap[w.heap.size]? = some (.cells #[.int .i64 0, .int .i32 0, .bool false, .slice none 0 0, .string ⟨#[]⟩, .slice none 0 0] 27 (0, 0)) from bx_old (six_row HB2.out _ _ _ _ _ _) _)
  have HK4 := Lib.hid (show Keep (fun _ => False) w ((sixSet w2 w.heap.size (.int .i64 0) (.int .i32 0) (.bool false) (.slice none 0 0) (.string ⟨#[]⟩) (.slice none 0 0)).alloc (.cells #[.pointer none] 77)) from (six_keep HK2.out (Nat.le_refl _) (.int .i64 0) (.int .i32 0) (.bool false) (.slice none 0 0) (.string ⟨#[]⟩) (.slice none 0 0)).alloc _)
  have HA4 := Lib.hid (show ((sixSet w2 w.heap.size (.int .i64 0) (.int .i32 0) (.bool false) (.slice none 0 0) (.string ⟨#[]⟩) (.slice none 0 0)).alloc (.cells #[.pointer none] 77)).heap[A]? = some (.cells #[.int .i64 (p : Int), .int .i64 (c : Int)] 80 (0, 0)) from bx_old (six_oth hA nA _ _ _ _ _ _) _)
  have hB4 : ((sixSet w2 w.heap.size (.int .i64 0) (.int .i32 0) (.bool false) (.slice none 0 0) (.string ⟨#[]⟩) (.slice none 0 0)).alloc (.cells #[.pointer none] 77)).heap[B]? = some (.cells #[.string what, .iface 77 (.pointer (some ⟨A, 0, none⟩))] 166 (0, 0)) := bx_old (six_oth hB nB _ _ _ _ _ _) _
  have ht4 : ((sixSet w2 w.heap.size (.int .i64 0) (.int .i32 0) (.bool false) (.slice none 0 0) (.string ⟨#[]⟩) (.slice none 0 0)).alloc (.cells #[.pointer none] 77)).heap[w2.heap.size]? = some (.cells #[.pointer none] 77 (0, 0)) := by
    have := heap_alloc_new (sixSet w2 w.heap.size (.int .i64 0) (.int .i32 0) (.bool false) (.slice none 0 0) (.string ⟨#[]⟩) (.slice none 0 0)) (.cells #[.pointer none] 77)
    rwa [six_size] at this
  have HL := Lib.hid (show w.heap.size < w2.heap.size ∧ A < w2.heap.size from ⟨heap_lt HB2.out, heap_lt hA⟩)
  have HCA := Lib.hid (Asparse.as_hit A B w2.heap.size what (.pointer none) #[] ((sixSet w2 w.heap.size (.int .i64 0) (.int .i32 0) (.bool false) (.slice none 0 0) (.string ⟨#[]⟩) (.slice none 0 0)).alloc (.cells #[.pointer none] 77)) (HT.out.keep HK4.out).err hB4 ht4)
  obtain ⟨⟨c0, c1, c2, c3, c4, c5⟩, f0, f1, f2, f3, f4, f5⟩ := six_cells HB2.out
  have hsz : (sixSet w2 w.heap.size (.int .i64 0) (.int .i32 0) (.bool false) (.slice none 0 0) (.string ⟨#[]⟩) (.slice none 0 0)).heap.size = w2.heap.size := six_size _ _ _ _ _ _ _ _
  have HNA := Lib.hid nA
  clear hA hB hB4 ht4 k2 nA nB
  try dsimp only
  go_wp2_with fail
  refine HCA.out.mono ?_
  rintro e w5 ⟨rfl, htb, k5⟩
  have hA5 := k5.heap HA4.out (by have := HL.out.2; omega)
  have HB5 := Lib.hid (k5.heap HB4.out (by have := HL.out.1; omega))
  have HK5 := Lib.hid (HK4.out.into k5 (by rintro i rfl; have := HL.out.1; omega))
  have g0 : w5.cell? ⟨w2.heap.size, 0, none⟩ = some (.pointer (some ⟨A, 0, none⟩)) := by rw [cell_of_row w5 _ _ _ _ _ htb]; rfl
  have g1 : w5.cell? ⟨A, 0, none⟩ = some (.int .i64 (p : Int)) := by rw [cell_of_row w5 _ _ _ _ _ hA5]; rfl
  have g2 : w5.cell? ⟨A, 1, none⟩ = some (.int .i64 (c : Int)) := by rw [cell_of_row w5 _ _ _ _ _ hA5]; rfl
  clear c0 c1 c2 c3 c4 c5 f0 f1 f2 f3 f4 f5 hsz
  obtain ⟨⟨c0, c1, c2, c3, c4, c5⟩, f0, f1, f2, f3, f4, f5⟩ := six_cells HB5.out
  have HE := Lib.hid (six_keep HK5.out (Nat.le_refl _) (.int .i64 0) (.int .i32 0) (.bool false) (.slice none 0 0) (.string ⟨#[]⟩) (.slice none 0 0))
  have HR := Lib.hid (six_cells (six_row HB5.out (.int .i64 0) (.int .i32 0) (.bool false) (.slice none 0 0) (.string ⟨#[]⟩) (.slice none 0 0))).1
  have n2 : ¬ w2.heap.size = w.heap.size := by have := HL.out.1; omega
  have n1 : ¬ A = w.heap.size := HNA.out
  clear hA5 htb k5
  try dsimp only
  go_wp2_with fail
  have ks := six_self w5 w.heap.size (.int .i64 0) (.int .i32 0) (.bool false) (.slice none 0 0) (.string ⟨#[]⟩) (.slice none 0 0)
  have p0 := (ks.cell (p := ⟨w2.heap.size, 0, none⟩) (World.block_lt_of_cell? w5 _ g0) n2).trans g0
  have p1 := (ks.cell (p := ⟨A, 0, none⟩) (World.block_lt_of_cell? w5 _ g1) n1).trans g1
  have p2 := (ks.cell (p := ⟨A, 1, none⟩) (World.block_lt_of_cell? w5 _ g2) n1).trans g2
  dsimp only [sixSet] at p0 p1 p2
  clear ks
  generalize hB0 : w.heap.size = B0 at *
  generalize w2.heap.size = B2 at *
  go_big_region
  go_wp2_with fail
  refine bodyPost_ret (v := .tuple #[.agg #[.int .i64 0, .int .i32 0, .bool false, .slice none 0 0, .string ⟨#[]⟩, .slice none 0 0], .int .i64 0, .int .i64 (p : Int), .int .i64 (c : Int)]) ?_ rfl ?_
  · obtain ⟨e0, e1, e2, e3, e4, e5⟩ := HR.out
    simp [results, Tryz.results18, go_sem, e0, e1, e2, e3, e4, e5]
  · exact ⟨rfl, HE.out.drew⟩
theorem pOne_any (s : ByteArray) (at_ : Int) (r : Got) (hr : OneR s.data.toList at_ r) (w : World) (hT : Tabs w) : Calls Tryz.prog 18 #[.string s, .int .i64 at_] w (ParsePOne r w) := by
  cases r with
  | ok x => obtain ⟨d, n⟩ := x; exact pOne_ok s at_ d n hr w hT
  | error x => obtain ⟨p, c⟩ := x; exact pOne_err s at_ p c hr w hT
end Go.Proofs.YtonnikipeokkaaaGreatDoor

namespace Go.Proofs.YtonnikipeokkaaaGreatDoor
open Go.RowKit Go.Lib

set_option maxRecDepth 100000 in
set_option maxHeartbeats 8000000 in
theorem pAll_any (s : ByteArray) (ds : List Raw) (q c : Nat) (w : World) (hT : Tabs w) (h : DataR s.data.toList 0 ds q c) : Calls Tryz.prog 23 #[.string s] w (DatsPost ds q c w) := by
  have HZ := Lib.hid (show s.data.toList.length = s.size from (Lib.size_eq s).symm)
  have HON := Lib.hid (fun (i : Nat) (r : Got) (hr : OneR s.data.toList (i : Int) r) (W : World) (K : Keep (fun _ => False) w W) => pOne_any s (i : Int) r hr W (hT.keep K))
  have HST := Lib.hid (show DaSt w s.data.toList ds q c 0 0 [] ds none 0 w from ⟨rfl, h, rfl, ⟨rfl, .inl ⟨rfl, rfl⟩⟩, fun y hy => absurd hy (by simp), Keep.refl _ _, Nat.zero_le _, Nat.zero_le _⟩)
  obtain ⟨l, hl⟩ : ∃ l, l = s.data.toList := ⟨_, rfl⟩
  rw [← hl] at HZ HON HST
  clear hl h hT
  obtain ⟨i27, h27, hz0, hz1, hz2⟩ := info_parts info27
  go_enter Tryz.func23, Tryz.ntmps23
  go_wp2_with fail
  go_loopw [2, 5] (fun lv iv wr => ∃ (i n cap : Nat) (xs : List (Raw × PV)) (rest : List Raw) (A : Option Addr), lv = .slice A n cap ∧ iv = .int .i64 (i : Int) ∧ DaSt w l ds q c i n xs rest A cap wr) (fun _ iv _ => s.size + 1 - (intOf iv).toNat)
  case atStart => exact ⟨0, 0, 0, [], ds, none, rfl, rfl, HST.out⟩
  case round =>
    obtain ⟨i, n, cap, xs, rest, A, rfl, rfl, hst⟩ := hrel
    have HS := Lib.hid hst
    have hcap := drow_cap hst.own
    have hdt := hst.data
    clear hst HST
    go_wp2_with fail
    obtain ⟨hon, hc19, hr⟩ | ⟨p, hon, hr, hq, hc⟩ | ⟨d, en, us, hon, hr, hdt2⟩ := hdt.inv
    · refine (HON.out i _ hon _ HS.out.K).mono ?_
      rintro e w2 ⟨rfl, k2⟩
      obtain ⟨pp, hpp⟩ : ∃ z : Int, z = (q : Int) := ⟨_, rfl⟩
      obtain ⟨cc, hcc⟩ : ∃ z : Int, z = (c : Int) := ⟨_, rfl⟩
      have g1 : (cc == 19) = false := by rw [hcc]; simp; omega
      have g2 : (cc != 0) = true := by rw [hcc]; have := hon.code; simp; omega
      rw [← hpp, ← hcc]
      subst hr
      have hf := HS.out.fin (k2.alloc (.cells #[.int .i64 0, .int .i32 0, .bool false, .slice none 0 0, .string ⟨#[]⟩, .slice none 0 0] 27))
      rw [← hpp, ← hcc] at hf
      have HF := Lib.hid hf
      clear hon hc19 hdt k2 hpp hcc hf
      try dsimp only
      go_wp2_with fail
      refine bodyPost_ret (v := .tuple #[.slice A n cap, .int .i64 pp, .int .i64 cc]) (by simp [results, Tryz.results23, go_sem]) rfl HF.out
    · refine (HON.out i _ hon _ HS.out.K).mono ?_
      rintro e w2 ⟨rfl, k2⟩
      have g1 : ((19 : Int) == 19) = true := by decide
      subst hr hq hc
      have HF := Lib.hid (HS.out.fin (k2.alloc (.cells #[.int .i64 0, .int .i32 0, .bool false, .slice none 0 0, .string ⟨#[]⟩, .slice none 0 0] 27)))
      clear hon hdt k2
      try dsimp only
      go_wp2_with fail
      exact bodyPost_ret (v := .tuple #[.slice A n cap, .int .i64 0, .int .i64 0]) (by simp [results, Tryz.results23, go_sem]) rfl HF.out
    · refine (HON.out i _ hon _ HS.out.K).mono ?_
      intro e w2 hres
      obtain ⟨pd, he, hd2, k2⟩ := hres
      subst he
      have hends := hon.ends
      have hln := hon.lim
      have g1 : ((0 : Int) == 19) = false := by decide
      have g2 : ((0 : Int) != 0) = false := by decide
      have HE3 := Lib.hid (show i < en ∧ en ≤ s.size ∧ en ≤ 4096 by rw [← HZ.out]; omega)
      have hn4 : n ≤ 4096 := HS.out.l4
      have K6 := Lib.hid ((k2.alloc (.cells #[.int .i64 d.k, .int .i32 d.c, .bool d.neg, .slice pd.A pd.n pd.cp, .string d.t, .slice pd.B pd.m pd.cap] 27)).alloc (.cells #[.int .i64 d.k, .int .i32 d.c, .bool d.neg, .slice pd.A pd.n pd.cp, .string d.t, .slice pd.B pd.m pd.cap] 27))
      have HOWN := Lib.hid (drow_keep HS.out.own K6.out (fun _ _ => id))
      have HNEW := Lib.hid (new_six (show ((w2.alloc (.cells #[.int .i64 d.k, .int .i32 d.c, .bool d.neg, .slice pd.A pd.n pd.cp, .string d.t, .slice pd.B pd.m pd.cap] 27)).alloc (.cells #[.int .i64 d.k, .int .i32 d.c, .bool d.neg, .slice pd.A pd.n pd.cp, .string d.t, .slice pd.B pd.m pd.cap] 27)).heap[w2.heap.size + 1]? = _ from by have := heap_alloc_new (w2.alloc (.cells #[.int .i64 d.k, .int .i32 d.c, .bool d.neg, .slice pd.A pd.n pd.cp, .string d.t, .slice pd.B pd.m pd.cap] 27)) (.cells #[.int .i64 d.k, .int .i32 d.c, .bool d.neg, .slice pd.A pd.n pd.cp, .string d.t, .slice pd.B pd.m pd.cap] 27); rwa [World.size_alloc] at this))
      have HBASE := Lib.hid (show w.heap.size ≤ ((w2.alloc (.cells #[.int .i64 d.k, .int .i32 d.c, .bool d.neg, .slice pd.A pd.n pd.cp, .string d.t, .slice pd.B pd.m pd.cap] 27)).alloc (.cells #[.int .i64 d.k, .int .i32 d.c, .bool d.neg, .slice pd.A pd.n pd.cp, .string d.t, .slice pd.B pd.m pd.cap] 27)).heap.size from (HS.out.K.trans K6.out).size)
      have HD6 := Lib.hid (show DatAt (fun b => wr.heap.size ≤ b) ((w2.alloc (.cells #[.int .i64 d.k, .int .i32 d.c, .bool d.neg, .slice pd.A pd.n pd.cp, .string d.t, .slice pd.B pd.m pd.cap] 27)).alloc (.cells #[.int .i64 d.k, .int .i32 d.c, .bool d.neg, .slice pd.A pd.n pd.cp, .string d.t, .slice pd.B pd.m pd.cap] 27)) d pd from hd2.keep0 (((Keep.refl _ _).alloc _).alloc _))
      have HT2 := Lib.hid (And.intro hr hdt2)
      obtain ⟨⟨y0, y1, y2, y3, y4, y5⟩, _⟩ := six_cells (heap_alloc_new w2 (.cells #[.int .i64 d.k, .int .i32 d.c, .bool d.neg, .slice pd.A pd.n pd.cp, .string d.t, .slice pd.B pd.m pd.cap] 27))
      clear hon hr hdt hdt2 hd2 hends hln k2
      try dsimp only
      go_wp2_with (at_builtin; refine wpList_append_own_at _ rfl (.tmp 28) (.tmp 30) 25 rfl w.heap.size 27 i27 (.agg #[.int .i64 0, .int .i32 0, .bool false, .slice none 0 0, .string ⟨#[]⟩, .slice none 0 0]) 6 88 Tryz.underlying25 h27 hz0 hz1 hz2 rfl (by decide) _ _ _ rfl HOWN.out ⟨w2.heap.size + 1, 0, none⟩ 1 1 [.int .i64 d.k, .int .i32 d.c, .bool d.neg, .slice pd.A pd.n pd.cp, .string d.t, .slice pd.B pd.m pd.cap] rfl rfl HNEW.out ?a1 ?a2 ?a3 HBASE.out ?_)
      case a1 => intro u hu; simp only [List.mem_cons, List.not_mem_nil, or_false] at hu; rcases hu with rfl | rfl | rfl | rfl | rfl | rfl <;> rfl
      case a2 => unfold maxLen; omega
      case a3 => omega
      intro v' w6 hown hgrow _ hblk
      obtain ⟨A3, c3, rfl, HM⟩ := HS.out.item K6.out HT2.out.1 HT2.out.2 HE3.out.1 HE3.out.2.2 HD6.out hown hgrow (by rw [World.size_alloc, World.size_alloc]; exact hblk)
      have HMM := Lib.hid HM
      clear y0 y1 y2 y3 y4 y5 hown hgrow HM hblk
      go_wp2_with fail
      go_roundw
      case rel => exact ⟨en, n + 1, c3, _, us, A3, rfl, rfl, HMM.out⟩
      case measure => have := HE3.out; simp only [intOf]; omega
end Go.Proofs.YtonnikipeokkaaaGreatDoor

namespace Go.Proofs.YtonnikipeokkaaaGreatDoor
open Go.RowKit Go.Lib

def aw1 : List UInt8 := [40, 97, 32, 46, 32, 40, 98, 32, 91, 99, 93, 41, 41]
def aw2 : List UInt8 := [39, 40, 49, 32, 44, 120, 41]
theorem n10 : nextV aw1 0 = .ok (0, ⟨1, 1, false, .no⟩) := by kernel_rfl
theorem n11 : nextV aw1 1 = .ok (1, ⟨9, 1, false, .sym [97]⟩) := by kernel_rfl
theorem n12 : nextV aw1 2 = .ok (3, ⟨8, 1, false, .no⟩) := by kernel_rfl
theorem n14 : nextV aw1 4 = .ok (5, ⟨1, 1, false, .no⟩) := by kernel_rfl
theorem n16 : nextV aw1 6 = .ok (6, ⟨9, 1, false, .sym [98]⟩) := by kernel_rfl
theorem n17 : nextV aw1 7 = .ok (8, ⟨1, 1, true, .no⟩) := by kernel_rfl
theorem n19 : nextV aw1 9 = .ok (9, ⟨9, 1, false, .sym [99]⟩) := by kernel_rfl
theorem n1a : nextV aw1 10 = .ok (10, ⟨2, 1, true, .no⟩) := by kernel_rfl
theorem n1b : nextV aw1 11 = .ok (11, ⟨2, 1, false, .no⟩) := by kernel_rfl
theorem n1c : nextV aw1 12 = .ok (12, ⟨2, 1, false, .no⟩) := by kernel_rfl
theorem n20 : nextV aw2 0 = .ok (0, ⟨4, 1, false, .no⟩) := by kernel_rfl
theorem n21 : nextV aw2 1 = .ok (1, ⟨1, 1, false, .no⟩) := by kernel_rfl
theorem n22 : nextV aw2 2 = .ok (2, ⟨9, 1, false, .int 1⟩) := by kernel_rfl
theorem n23 : nextV aw2 3 = .ok (4, ⟨6, 1, false, .no⟩) := by kernel_rfl
theorem n25 : nextV aw2 5 = .ok (5, ⟨9, 1, false, .sym [120]⟩) := by kernel_rfl
theorem n26 : nextV aw2 6 = .ok (6, ⟨2, 1, false, .no⟩) := by kernel_rfl
abbrev symA : Raw := leafR (.sym [97])
abbrev tailA : Raw := listR [leafR (.sym [98]), listR [leafR (.sym [99])] .nil] .nil
theorem aw1_one : OneR aw1 0 (.ok (pairR symA tailA, 13)) := by
  have bg : ∀ (k n : Nat) (q : Bool) (d : Leaf), k = 1 ∨ k = 9 → (⟨k, n, q, d⟩ : Tk).beg := fun k n q d h => by rcases h with h | h <;> subst h <;> exact ⟨by simp, by simp, by simp⟩
  refine .frm n10 (bg _ _ _ _ (.inl rfl)) (.opn rfl (by decide) ?_)
  refine .itemOk n11 (bg _ _ _ _ (.inr rfl)) rfl (.datum rfl) ?_
  refine .dotOk n12 rfl rfl (by simp) ?_
  refine .tailOk n14 (bg _ _ _ _ (.inl rfl)) rfl (.opn rfl (by decide) ?_) (.lstOk n1c rfl rfl (by decide))
  refine .itemOk n16 (bg _ _ _ _ (.inr rfl)) rfl (.datum rfl) ?_
  refine .itemOk n17 (bg _ _ _ _ (.inl rfl)) rfl (.opn rfl (by decide) ?_) (.lstOk n1b rfl rfl (by decide))
  exact .itemOk n19 (bg _ _ _ _ (.inr rfl)) rfl (.datum rfl) (.lstOk n1a rfl rfl (by decide))
abbrev tailQ : Raw := pairR (listR [leafR (.int 1), markR 6 (leafR (.sym [120]))] .nil) .nil
theorem aw2_one : OneR aw2 0 (.ok (pairR (leafR (.sym (markW 4))) tailQ, 7)) := by
  have bg : ∀ (k n : Nat) (q : Bool) (d : Leaf), k = 1 ∨ k = 9 ∨ k = 4 ∨ k = 6 → (⟨k, n, q, d⟩ : Tk).beg := fun k n q d h => by rcases h with h | h | h | h <;> subst h <;> exact ⟨by simp, by simp, by simp⟩
  refine .frm n20 (bg _ _ _ _ (.inr (.inr (.inl rfl)))) (.markOk (d := listR [leafR (.int 1), markR 6 (leafR (.sym [120]))] .nil) (by decide) (by decide) n21 (bg _ _ _ _ (.inl rfl)) (.opn rfl (by decide) ?_))
  refine .itemOk n22 (bg _ _ _ _ (.inr (.inl rfl))) rfl (.datum rfl) ?_
  refine .itemOk n23 (bg _ _ _ _ (.inr (.inr (.inr rfl)))) rfl (.markOk (by decide) (by decide) n25 (bg _ _ _ _ (.inr (.inl rfl))) (.datum rfl)) ?_
  exact .lstOk n26 rfl rfl (by decide)
/-- The first of a pair. -/
theorem pair_first {N P : Nat → Prop} {w : World} {a d : Raw} {p : PV} (h : RawAt N P w (pairR a d) p) : p.m = 2 ∧ ∃ b off, p.B = some ⟨b, off, none⟩ ∧ b < w.heap.size ∧ w.cell? ⟨b, off + 4, none⟩ = some (.string a.t) := by
  obtain ⟨b, off, v, e, _, hi, _⟩ := h.items 0 (by show 0 < 2; omega)
  have h5 := hi.cells.2.2.2.2.1
  simp only [Nat.zero_mul, Nat.add_zero] at h5
  exact ⟨h.len.symm, b, off, e, World.block_lt_of_cell? w _ h5, h5⟩
set_option maxRecDepth 100000 in
set_option maxHeartbeats 4000000 in
theorem pawake_any (w : World) (hT : Tabs w) : Calls Tryz.prog 21 #[] w (BoolPost true w) := by
  have HC := Lib.hid (fun (W : World) (K : Keep (fun _ => False) w W) => pOne_any ⟨aw1.toArray⟩ 0 _ (show OneR (⟨aw1.toArray⟩ : ByteArray).data.toList 0 _ from aw1_one) W (hT.keep K))
  have HD := Lib.hid (fun (W : World) (K : Keep (fun _ => False) w W) => pOne_any ⟨aw2.toArray⟩ 0 _ (show OneR (⟨aw2.toArray⟩ : ByteArray).data.toList 0 _ from aw2_one) W (hT.keep K))
  clear hT
  go_enter Tryz.func21, Tryz.ntmps21
  go_wp2_with fail
  refine (HC.out _ (Keep.refl _ _)).mono ?_
  rintro e w2 ⟨p, rfl, hd, k2⟩
  obtain ⟨A, n, cp, B, m, cap⟩ := p
  obtain ⟨hm, b, off, hB, hb, hc⟩ := pair_first hd
  have hm : m = 2 := hm
  have hB : B = some ⟨b, off, none⟩ := hB
  subst hm hB
  have hce : symA.t = ⟨#[97]⟩ := rfl
  rw [hce] at hc
  have HK2 := Lib.hid k2
  have HC2 := Lib.hid hc
  have HB2 := Lib.hid (heap_alloc_new w2 (.cells (rawC (pairR symA tailA) ⟨A, n, cp, some ⟨b, off, none⟩, 2, cap⟩) 27))
  clear hd k2 hc hb hce
  try dsimp only
  go_wp2_with fail
  refine (HD.out _ (HK2.out.alloc _)).mono ?_
  rintro e w4 ⟨p, rfl, hd, k4⟩
  obtain ⟨A2, n2, cp2, B2, m2, cap2⟩ := p
  obtain ⟨hm, b2, off2, hB, hb, hc⟩ := pair_first hd
  have hm : m2 = 2 := hm
  have hB : B2 = some ⟨b2, off2, none⟩ := hB
  subst hm hB
  have hce : (leafR (.sym (markW 4))).t = ⟨#[113, 117, 111, 116, 101]⟩ := rfl
  rw [hce] at hc
  have K24 : Keep (fun _ => False) w2 w4 := ((Keep.refl _ _).alloc _).trans k4
  have K5 : Keep (fun _ => False) w4 (w4.alloc (.cells (rawC (pairR (leafR (.sym (markW 4))) tailQ) ⟨A2, n2, cp2, some ⟨b2, off2, none⟩, 2, cap2⟩) 27)) := (Keep.refl _ _).alloc _
  have x1 : (w4.alloc (.cells (rawC (pairR (leafR (.sym (markW 4))) tailQ) ⟨A2, n2, cp2, some ⟨b2, off2, none⟩, 2, cap2⟩) 27)).cell? ⟨b, off + 4, none⟩ = some (.string ⟨#[97]⟩) := ((K24.trans K5).cell (p := ⟨b, off + 4, none⟩) (World.block_lt_of_cell? w2 _ HC2.out) id).trans HC2.out
  have x2 : (w4.alloc (.cells (rawC (pairR (leafR (.sym (markW 4))) tailQ) ⟨A2, n2, cp2, some ⟨b2, off2, none⟩, 2, cap2⟩) 27)).cell? ⟨b2, off2 + 4, none⟩ = some (.string ⟨#[113, 117, 111, 116, 101]⟩) := (K5.cell (p := ⟨b2, off2 + 4, none⟩) hb id).trans hc
  obtain ⟨⟨y0, y1, y2, y3, y4, y5⟩, _⟩ := six_cells ((k4.trans K5).heap HB2.out id)
  have HK5 := Lib.hid ((HK2.out.trans K24).trans K5)
  clear hd k4 hc hb hce K24 K5
  try dsimp only
  go_wp2_with fail
  go_ret
  exact ⟨rfl, HK5.out⟩
/-- A row of data. -/
structure RowAtD (N P : Nat → Prop) (w : World) (A : Option Addr) (n : Nat) (ds : List Raw) (vs : Nat → PV) : Prop where
  len : ds.length = n
  row : 0 < n → ∃ b off, A = some ⟨b, off, none⟩ ∧ ∀ i (h : i < ds.length), ItemC w b off i ds[i] (vs i)
  ch : ∀ i (h : i < ds.length), RawAt N P w ds[i] (vs i)
end Go.Proofs.YtonnikipeokkaaaGreatDoor

namespace Go.Proofs.YtonnikipeokkaaaGreatDoor
open Go.RowKit Go.Lib

/-- The row that All answers. -/
theorem DatsPost.row {ds : List Raw} {q c : Nat} {w w' : World} {e : Ending} (h : DatsPost ds q c w e w') : ∃ (A : Option Addr) (cap : Nat) (vs : Nat → PV), e = .returned (.tuple #[.slice A ds.length cap, .int .i64 (q : Int), .int .i64 (c : Int)]) ∧ RowAtD (T126 w') (fun b => w.heap.size ≤ b) w' A ds.length ds vs ∧ Keep (fun _ => False) w w' ∧ ds.length ≤ 4096 ∧ ds.length ≤ cap := by
  obtain ⟨xs, A, cap, rfl, hx, hown, hit, K, h4⟩ := h
  refine ⟨A, cap, fun i => (xs.getD i (.nil, PV.none)).2, rfl, ⟨rfl, fun hm => ?_, fun i hi => ?_⟩, K, h4, drow_cap hown⟩
  · obtain ⟨g, rfl, hg⟩ := drow_some hown hm
    refine ⟨g, 0, rfl, fun i hi => ?_⟩
    have hi2 : i < xs.length := by rw [← hx, List.length_map] at hi; exact hi
    have e1 : ds[i] = (xs[i]'hi2).1 := by simp only [← hx, List.getElem_map]
    rw [e1, List.getD_eq_getElem?_getD, List.getElem?_eq_getElem hi2]
    exact drow_item hown hi2
  · have hi2 : i < xs.length := by rw [← hx, List.length_map] at hi; exact hi
    have e1 : ds[i] = (xs[i]'hi2).1 := by simp only [← hx, List.getElem_map]
    rw [e1, List.getD_eq_getElem?_getD, List.getElem?_eq_getElem hi2]
    exact (hit _ (List.getElem_mem hi2)).mono (fun b _ hb => hb.1)
end Go.Proofs.YtonnikipeokkaaaGreatDoor
