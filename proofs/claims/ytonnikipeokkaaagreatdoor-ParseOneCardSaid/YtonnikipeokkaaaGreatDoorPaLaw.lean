/- parse: one. parse: One. parse: All. The document's SameList; -/
import Derived.Test.YtonnikipeokkaaaGreatDoorPrpQ
import Derived.Test.YtonnikipeokkaaaGreatDoorPrAs
namespace Go.Proofs.YtonnikipeokkaaaGreatDoor
set_option maxRecDepth 100000
set_option maxHeartbeats 8000000
open Go.Lib (hid)
open Go.RowKit Go.Lib
section
variable {X : Nat -> Prop} {base pb rc : Nat} {fs : List FB} {R : Option Addr} {w : World}
theorem lV (h : PS X base pb fs R rc w) {a : Int} (hok : okF (fs.map FB.fr) a) (ha : a <= 100000) (t : Tk) (j : Nat) (en dk dc : Int) (dneg : Bool) (A : Option Addr) (n cp : Nat) (x : ByteArray) (hlf : cx w t.d dk dc dneg A n cp x) :
 Calls Tryz.prog 70 #[.pointer (some ⟨pb, 0, none⟩), ar (t.kind : Int) (j : Int) en t.sq dk dc dneg A n cp x] w (dS X base pb (eE (fs.map FB.fr) j t) w) := by
 have hl : fs.length <= 64 := by have := hok.1; simpa using this
 by_cases h0 : t.kind = 0
 · rw [show eE (fs.map FB.fr) j t = .err (lg (fs.map FB.fr) j).1 (lg (fs.map FB.fr) j).2 from by unfold eE; rw [if_pos h0]]
   exact p7 h hl _ _ _ _ _ _ _ _ _ _ _ (di (b := 0) h0)
 have q0 := cw (b := 0) h0
 by_cases h8 : t.kind = 8
 · have q8 := di (b := 8) h8
   rw [show eE (fs.map FB.fr) j t = jf (fs.map FB.fr) j from by unfold eE; rw [if_neg h0, if_pos h8]]
   cases hr : jf (fs.map FB.fr) j with
   | err p c => exact ko h hl _ _ _ _ _ _ _ _ _ _ _ q0 q8 _ _ hr
   | cont S => exact lD h hl _ _ _ _ _ _ _ _ _ _ _ q0 q8 _ hr
   | ended S d =>
    exfalso
    unfold jf at hr
    split at hr
    · cases hr
    · split at hr <;> cases hr
 have q8 := cw (b := 8) h8
 by_cases h2 : t.kind = 2
 · have q2 := di (b := 2) h2
   rw [show eE (fs.map FB.fr) j t = eH (fs.map FB.fr) j t.sq from by unfold eE; rw [if_neg h0, if_neg h8, if_pos h2]]
   cases hr : eH (fs.map FB.fr) j t.sq with
   | err p c => exact je h hl _ _ _ _ _ _ _ _ _ _ _ hok ha q0 q8 q2 _ _ hr
   | ended S d => exact jK h hl _ _ _ _ _ _ _ _ _ _ _ hok ha q0 q8 q2 _ _ hr
   | cont S =>
    exfalso
    unfold eH at hr
    split at hr
    · cases hr
    · split at hr <;> cases hr
 have q2 := cw (b := 2) h2
 by_cases hb : eo (fs.map FB.fr) t = 0
 · by_cases h9 : t.kind = 9
   · rw [show eE (fs.map FB.fr) j t = .ended (fs.map FB.fr) (bB t.d) from by unfold eE; rw [if_neg h0, if_neg h8, if_neg h2, if_neg (fun e => e hb), if_pos h9]]
     exact nc h hl _ _ _ _ _ _ _ _ _ _ _ t rfl q0 q8 q2 (di (b := 9) h9) hb hlf
   · rw [show eE (fs.map FB.fr) j t = .cont (⟨t.kind, j, t.sq, 0, .nil, []⟩ :: fs.map FB.fr) from by unfold eE; rw [if_neg h0, if_neg h8, if_neg h2, if_neg (fun e => e hb), if_neg h9]]
     exact om h hl _ _ _ _ _ _ _ _ _ _ _ t rfl q0 q8 q2 (cw (b := 9) h9) hb
 · rw [show eE (fs.map FB.fr) j t = .err j (eo (fs.map FB.fr) t) from by unfold eE; rw [if_neg h0, if_neg h8, if_neg h2, if_pos hb]]
   exact kq h hl _ _ _ _ _ _ _ _ _ _ _ t rfl q0 q8 q2 _ hb rfl
end
theorem Run.inv {l : List UInt8} {S : List Fr} {i : Int} {r : Got} (h : Run l S i r) : (∃ p c, aH l i = .error (p, c) /\ r = .error (p, c)) \/ ∃ j t, aH l i = .ok (j, t) /\ gS l (j + t.len) r (bS S j t) := by
 cases h with
 | lex n => exact .inl ⟨_, _, n, rfl⟩
 | err n s => exact .inr ⟨_, _, n, by rw [s]; rfl⟩
 | done n s => exact .inr ⟨_, _, n, by rw [s]; rfl⟩
 | cont n s m => exact .inr ⟨_, _, n, by rw [s]; exact m⟩
def rg (r : Got) (w : World) (e : Ending) (w' : World) : Prop :=
 match r with
 | .ok (d, n) => ∃ p : PV, e = .returned (.tuple #[ci d p, .int .i64 (n : Int), .nilIface]) /\ au (fun b => w.heap.size <= b) w' d p /\ K0 w w'
 | .error (p, c) => ∃ v, e = .returned (.tuple #[.agg (rwC 0 0 false none 0 0 ⟨#[]⟩ none 0 0), .int .i64 0, v]) /\ eI w' v p c /\ K0 w w'
structure OnS (l : List UInt8) (w : World) (r : Got) (i : Int) (fs : List FB) (R : Option Addr) (rc : Nat) (wr : World) : Prop where
 run : Run l (fs.map FB.fr) i r
 ps : PS (fun _ => False) (w.heap.size + 1) (w.heap.size + 1) fs R rc wr
 ok : okF (fs.map FB.fr) i
 h0 : wr.heap[w.heap.size]? = some (.cells (rwC 0 0 false none 0 0 ⟨#[]⟩ none 0 0) 27 (0, 0))
 K : K0 w wr
theorem OnS.start {l : List UInt8} {w : World} {r : Got} {i : Int} (h : fg l i r) : OnS l w r i [] none 0 ((w.alloc (.cells (rwC 0 0 false none 0 0 ⟨#[]⟩ none 0 0) 27)).alloc (.cells #[.slice none 0 0] 120)) := by
 have K : K0 w ((w.alloc (.cells (rwC 0 0 false none 0 0 ⟨#[]⟩ none 0 0) 27)).alloc (.cells #[.slice none 0 0] 120)) := (kR.alloc _).alloc _
 refine ⟨h.run, ⟨by have := hN (w.alloc (.cells (rwC 0 0 false none 0 0 ⟨#[]⟩ none 0 0) 27)) (.cells #[.slice none 0 0] 120); rwa [World.size_alloc] at this, Nat.le_refl _, World.ownsRow_nil _ _ _ _, by simp, .nil, fun _ e => e.elim, fun _ e => e.elim⟩, ⟨by simp, by simp⟩, ae (hN w _) _, K⟩
theorem mC (s : ByteArray) (at_ : Int) (r : Got) (hr : fg s.data.toList at_ r) (w : World) (hT : Tabs w) : Calls Tryz.prog 42 #[.string s, .int .i64 at_] w (rg r w) := by
 have HNX := hid (fun (i : Int) (W : World) (K : K0 w W) => kZ s i W (hT.keep K))
 have HZ := hid (show s.data.toList.length = s.size from (Lib.size_eq s).symm)
 have HST := hid (OnS.start (w := w) hr)
 clear hr hT
 go_enter Tryz.func42, Tryz.ntmps42
 go_wp2_with fail
 generalize ((w.alloc (.cells (rwC 0 0 false none 0 0 ⟨#[]⟩ none 0 0) 27)).alloc (.cells #[.slice none 0 0] 120)) = w1 at *
 go_loopw [1] (fun av wr => ∃ (i : Int) (fs : List FB) (R : Option Addr) (rc : Nat), av = .int .i64 i /\ OnS s.data.toList w r i fs R rc wr) (fun av _ => ((s.size : Int) - intOf av).toNat)
 case atStart => exact ⟨at_, [], none, 0, rfl, HST.out⟩
 case round =>
  clear HST
  obtain ⟨i, fs, R, rc, rfl, hst⟩ := hrel
  have HS := hid hst
  clear hst
  go_wp2_with fail
  refine (HNX.out i _ HS.out.K).mono ?_
  intro e w2 hres
  rcases HS.out.run.inv with ⟨p, c, nn, hre⟩ | ⟨j, t, nn, hst⟩
  · skip
    rw [nn] at hres
    obtain ⟨rfl, k2⟩ := hres
    have g0 : ((c : Int) != 0) = true := by have := ef nn; simp; omega
    have HA := hid (ae (k2.heap HS.out.h0 id) (.cells (tkC 0 0 0 false 0 0 false none 0 0 ⟨#[]⟩ none 0 0) 29))
    have HK2 := hid ((HS.out.K.trans k2).alloc (.cells (tkC 0 0 0 false 0 0 false none 0 0 ⟨#[]⟩ none 0 0) 29))
    clear k2
    try dsimp only
    go_wp2_with fail
    refine (bn _ (p : Int) (c : Int) _).mono ?_
    rintro e w4 ⟨v, rfl, he, k4⟩
    have HA4 := hid (k4.heap HA.out id)
    have HKx := hid (HK2.out.trans k4)
    have HER := hid (show eI (aE w4 w.heap.size (.int .i64 0) (.int .i32 0) (.bool false) (.slice none 0 0) (.string ⟨#[]⟩) (.slice none 0 0)) _ _ _ from he.keep (aq _ _ (.int .i64 0) (.int .i32 0) (.bool false) (.slice none 0 0) (.string ⟨#[]⟩) (.slice none 0 0)) (by rintro b Y rfl; rw [HA4.out]; exact ⟨by simp, by simp⟩))
    clear he k4
    try dsimp only
    have HE := hid (bM HKx.out (Nat.le_refl _) (.int .i64 0) (.int .i32 0) (.bool false) (.slice none 0 0) (.string ⟨#[]⟩) (.slice none 0 0))
    have HR := hid (ab (aP HA4.out (.int .i64 0) (.int .i32 0) (.bool false) (.slice none 0 0) (.string ⟨#[]⟩) (.slice none 0 0))).1
    obtain ⟨⟨b0, b1, b2, b3, b4, b5⟩, f0, f1, f2, f3, f4, f5⟩ := ab HA4.out
    go_wp2_with fail
    refine bodyPost_ret (v := .tuple #[.agg (rwC 0 0 false none 0 0 ⟨#[]⟩ none 0 0), .int .i64 0, v]) ?_ rfl ?_
    · obtain ⟨e0, e1, e2, e3, e4, e5⟩ := HR.out
      simp [results, Tryz.results42, go_sem, e0, e1, e2, e3, e4, e5]
    · rw [hre]; exact ⟨v, rfl, HER.out, HE.out⟩
  · skip
    have HZ4 := hid (show s.data.toList.length <= 4096 from (cY nn).1)
    rw [nn] at hres
    obtain ⟨dk, dc, dneg, A, n, cp, x, he, hlf, k2⟩ := hres
    obtain ⟨tk1, tk2, tk3, tk4⟩ := aS nn
    obtain ⟨lim1, ai, hai, lim2, _⟩ := cY nn
    have hn48 : i <= 4096 := by omega
    have HSTEP := hid hst
    have HT4 := hid tk4
    have HT3 := hid tk3
    have HI0 := hid (show 0 <= i by omega)
    have hps2 := HS.out.ps.keep0 (k2.alloc (.cells (tkC (t.kind : Int) (j : Int) ((j + t.len : Nat) : Int) t.sq dk dc dneg A n cp x none 0 0) 29))
    have hcall := lV hps2 HS.out.ok (by omega) t j ((j + t.len : Nat) : Int) dk dc dneg A n cp x (hlf.keep (kR.alloc _))
    have htok := ru (j := j) (t := t) HS.out.ok tk1
    have HOK := hid htok
    obtain ⟨tk, htk⟩ : ∃ z : Int, z = (t.kind : Int) := ⟨_, rfl⟩
    obtain ⟨te, hte⟩ : ∃ z : Int, z = ((j + t.len : Nat) : Int) := ⟨_, rfl⟩
    obtain ⟨ts, hts⟩ : ∃ z : Bool, z = t.sq := ⟨_, rfl⟩
    rw [<- htk, <- hte, <- hts] at he hcall
    rw [<- htk, <- hte, <- hts] at hps2
    subst he
    have HTE := hid hte
    have HCALL := hid hcall
    have HA := hid (ae (k2.heap HS.out.h0 id) (.cells (tkC tk (j : Int) te ts dk dc dneg A n cp x none 0 0) 29))
    have HK2 := hid ((HS.out.K.trans k2).alloc (.cells (tkC tk (j : Int) te ts dk dc dneg A n cp x none 0 0) 29))
    have HPSX := hid hps2
    obtain ⟨⟨a0, a1, a2, a3, a4, a5, a6, a7, a8, a9⟩, _⟩ := aa (hN w2 (.cells (tkC tk (j : Int) te ts dk dc dneg A n cp x none 0 0) 29))
    clear hps2 hcall htok htk hte hts k2 hlf tk1 tk2 tk3 tk4 lim1 lim2 hai hst nn hn48
    try dsimp only
    go_wp2_with fail
    refine HCALL.out.mono ?_
    intro e w4 hres
    generalize w2.alloc (.cells (tkC tk (j : Int) te ts dk dc dneg A n cp x none 0 0) 29) = w3 at *
    clear a0 a1 a2 a3 a4 a5 a6 a7 a8 a9
    have HSF := hid (ou (fs.map FB.fr) j t)
    cases htf : eE (fs.map FB.fr) j t with
    | err p c =>
     rw [htf] at hres
     obtain ⟨v, rfl, he, k4⟩ := hres
     have hre : r = .error (p, c) := by have h1 := HSTEP.out; rw [HSF.out, htf] at h1; exact h1
     have HRE := hid hre
     have HA4 := hid (ae (k4.heap HA.out (by omega)) (.cells (rwC 0 0 false none 0 0 ⟨#[]⟩ none 0 0) 27))
     have HKx := hid ((HK2.out.into k4 (fun b e => by omega)).alloc (.cells (rwC 0 0 false none 0 0 ⟨#[]⟩ none 0 0) 27))
     have HEN := hid (he.keep0 (kR.alloc (.cells (rwC 0 0 false none 0 0 ⟨#[]⟩ none 0 0) 27)))
     obtain ⟨A', B', what, hv, _, _⟩ := he
     subst hv
     have HER := hid (show eI (aE (w4.alloc (.cells (rwC 0 0 false none 0 0 ⟨#[]⟩ none 0 0) 27)) w.heap.size (.int .i64 0) (.int .i32 0) (.bool false) (.slice none 0 0) (.string ⟨#[]⟩) (.slice none 0 0)) _ _ _ from HEN.out.keep (aq _ _ (.int .i64 0) (.int .i32 0) (.bool false) (.slice none 0 0) (.string ⟨#[]⟩) (.slice none 0 0)) (by rintro b Y rfl; rw [HA4.out]; exact ⟨by simp, by simp⟩))
     clear k4 htf hre
     try dsimp only
     have HE := hid (bM HKx.out (Nat.le_refl _) (.int .i64 0) (.int .i32 0) (.bool false) (.slice none 0 0) (.string ⟨#[]⟩) (.slice none 0 0))
     have HR := hid (ab (aP HA4.out (.int .i64 0) (.int .i32 0) (.bool false) (.slice none 0 0) (.string ⟨#[]⟩) (.slice none 0 0))).1
     obtain ⟨⟨b0, b1, b2, b3, b4, b5⟩, f0, f1, f2, f3, f4, f5⟩ := ab HA4.out
     go_wp2_with fail
     refine bodyPost_ret (v := .tuple #[.agg (rwC 0 0 false none 0 0 ⟨#[]⟩ none 0 0), .int .i64 0, .iface 164 (.pointer (some ⟨B', 0, none⟩))]) ?_ rfl ?_
     · obtain ⟨e0, e1, e2, e3, e4, e5⟩ := HR.out
       simp [results, Tryz.results42, go_sem, e0, e1, e2, e3, e4, e5]
     · rw [HRE.out]; exact ⟨_, rfl, HER.out, HE.out⟩
    | cont S =>
     rw [htf] at hres
     obtain ⟨fs2, R2, rc2, hfs, rfl, hp2, k4⟩ := hres
     have hrun : Run s.data.toList S ((j + t.len : Nat) : Int) r := by have h1 := HSTEP.out; rw [HSF.out, htf] at h1; exact h1
     have hk0 : t.kind ≠ 0 := by
      intro e
      unfold eE at htf
      rw [if_pos e] at htf
      cases htf
     have HLT := hid (HT4.out hk0)
     have hA4 := ae (k4.heap HA.out (by omega)) (.cells (rwC 0 0 false none 0 0 ⟨#[]⟩ none 0 0) 27)
     have hKx := (HK2.out.into k4 (fun b e => by omega)).alloc (.cells (rwC 0 0 false none 0 0 ⟨#[]⟩ none 0 0) 27)
     have HN := hid (show OnS s.data.toList w r te fs2 R2 rc2 (w4.alloc (.cells (rwC 0 0 false none 0 0 ⟨#[]⟩ none 0 0) 27)) from ⟨by rw [hfs, HTE.out]; exact hrun, hp2.keep0 (kR.alloc _), by rw [hfs]; exact (HOK.out.1 S htf).mono (by rw [HTE.out]; exact Int.le_of_lt HLT.out), hA4, hKx⟩)
     clear k4 htf hrun hk0 hA4 hKx hp2 hfs
     try dsimp only
     go_wp2_with fail
     go_roundw
     case rel => exact ⟨te, fs2, R2, rc2, rfl, HN.out⟩
     case measure =>
      have h1 := HLT.out
      have h2 := HT3.out
      have h3 := HI0.out
      have h4 := HTE.out
      have h5 := HZ.out
      simp only [intOf]
      omega
    | ended S d =>
     rw [htf] at hres
     obtain ⟨fs2, R2, rc2, pd, hfs, rfl, hp2, hd2, k4⟩ := hres
     have hput := HSTEP.out
     rw [HSF.out, htf] at hput
     have hput : gS s.data.toList (j + t.len) r (dE S d) := hput
     have hk0 : t.kind ≠ 0 := by
      intro e
      unfold eE at htf
      rw [if_pos e] at htf
      cases htf
     have HLT := hid (HT4.out hk0)
     have hoks := HOK.out.2 S d htf
     have hA4 := ae (k4.heap HA.out (by omega)) (.cells (rwC d.k d.c d.neg pd.A pd.n pd.cp d.t pd.B pd.m pd.cap) 27)
     have hKx := (HK2.out.into k4 (fun b e => by omega)).alloc (.cells (rwC d.k d.c d.neg pd.A pd.n pd.cp d.t pd.B pd.m pd.cap) 27)
     have HA4 := hid hA4
     have HK4 := hid hKx
     have hp4 := hp2.keep0 (kR.alloc (.cells (rwC d.k d.c d.neg pd.A pd.n pd.cp d.t pd.B pd.m pd.cap) 27))
     have hits : ∀ f ∈ fs2, f.fr.items.length <= 100000 := fun f hf => by
      have h1 := hoks.2 f.fr (by rw [<- hfs]; exact List.mem_map_of_mem hf)
      by_cases e : f.fr.items = []
      · rw [e]; simp
      · have := h1.cnt e
        have h2 := HLT.out
        have h3 := HT3.out
        have h4 := HZ4.out
        omega
     have hpc := qt hp4 (hd2.keep0 (kR.alloc (.cells (rwC d.k d.c d.neg pd.A pd.n pd.cp d.t pd.B pd.m pd.cap) 27))) (by have := hoks.1; rw [<- hfs] at this; simpa using this) hits
     rw [hfs] at hpc
     have HPC := hid hpc
     have HPUT := hid hput
     have HOKS := hid hoks
     obtain ⟨⟨y0, y1, y2, y3, y4, y5⟩, _⟩ := ab (hN w4 (.cells (rwC d.k d.c d.neg pd.A pd.n pd.cp d.t pd.B pd.m pd.cap) 27))
     clear hput hk0 hoks hA4 hKx hp4 hits hpc hp2 hd2 k4 htf hfs
     try dsimp only
     go_wp2_with fail
     refine HPC.out.mono ?_
     intro e w6 hres
     generalize w4.alloc (.cells (rwC d.k d.c d.neg pd.A pd.n pd.cp d.t pd.B pd.m pd.cap) 27) = w5 at *
     clear y0 y1 y2 y3 y4 y5
     cases hpf : dE S d with
     | err p c => rw [hpf] at hres; exact hres.elim
     | done d2 =>
      rw [hpf] at hres
      obtain ⟨p2, rfl, hd2, k6⟩ := hres
      have HRE := hid (show r = .ok (d2, j + t.len) by have h1 := HPUT.out; rw [hpf] at h1; exact h1)
      have HA6 := hid (ae (k6.heap HA4.out (by omega)) (.cells (rwC d2.k d2.c d2.neg p2.A p2.n p2.cp d2.t p2.B p2.m p2.cap) 27))
      have HKx := hid ((HK4.out.into k6 (fun b e => by omega)).alloc (.cells (rwC d2.k d2.c d2.neg p2.A p2.n p2.cp d2.t p2.B p2.m p2.cap) 27))
      have HD6 := hid (hd2.keep0 (kR.alloc (.cells (rwC d2.k d2.c d2.neg p2.A p2.n p2.cp d2.t p2.B p2.m p2.cap) 27)))
      obtain ⟨⟨y0, y1, y2, y3, y4, y5⟩, _⟩ := ab (hN w6 (.cells (rwC d2.k d2.c d2.neg p2.A p2.n p2.cp d2.t p2.B p2.m p2.cap) 27))
      clear hd2 k6 hpf
      try dsimp only
      have HE := hid (bM HKx.out (Nat.le_refl _) (.int .i64 d2.k) (.int .i32 d2.c) (.bool d2.neg) (.slice p2.A p2.n p2.cp) (.string d2.t) (.slice p2.B p2.m p2.cap))
      have HR := hid (ab (aP HA6.out (.int .i64 d2.k) (.int .i32 d2.c) (.bool d2.neg) (.slice p2.A p2.n p2.cp) (.string d2.t) (.slice p2.B p2.m p2.cap))).1
      obtain ⟨⟨b0, b1, b2, b3, b4, b5⟩, f0, f1, f2, f3, f4, f5⟩ := ab HA6.out
      go_wp2_with fail
      refine bodyPost_ret (v := .tuple #[.agg (rwC d2.k d2.c d2.neg p2.A p2.n p2.cp d2.t p2.B p2.m p2.cap), .int .i64 te, .nilIface]) ?_ rfl ?_
      · obtain ⟨e0, e1, e2, e3, e4, e5⟩ := HR.out
        simp [results, Tryz.results42, go_sem, e0, e1, e2, e3, e4, e5]
      · rw [HRE.out]
        refine ⟨p2, by rw [HTE.out], ?_, HE.out⟩
        refine (HD6.out.keep (aq _ w.heap.size _ _ _ _ _ _) ?_).mono (fun b _ e => by omega)
        rintro b rfl
        exact ⟨fun e => by omega, ax HA6.out (by decide)⟩
     | cont S2 =>
      rw [hpf] at hres
      obtain ⟨fs3, R3, rc3, d3, p3, hfs3, rfl, hp3, k6⟩ := hres
      have hrun : Run s.data.toList S2 ((j + t.len : Nat) : Int) r := by have h1 := HPUT.out; rw [hpf] at h1; exact h1
      have hA6 := ae (k6.heap HA4.out (by omega)) (.cells (rwC d3.k d3.c d3.neg p3.A p3.n p3.cp d3.t p3.B p3.m p3.cap) 27)
      have hKx := (HK4.out.into k6 (fun b e => by omega)).alloc (.cells (rwC d3.k d3.c d3.neg p3.A p3.n p3.cp d3.t p3.B p3.m p3.cap) 27)
      have HN := hid (show OnS s.data.toList w r te fs3 R3 rc3 (w6.alloc (.cells (rwC d3.k d3.c d3.neg p3.A p3.n p3.cp d3.t p3.B p3.m p3.cap) 27)) from ⟨by rw [hfs3, HTE.out]; exact hrun, hp3.keep0 (kR.alloc _), by rw [hfs3]; exact oV HOKS.out HI0.out (by rw [HTE.out]; exact HLT.out) S2 hpf, hA6, hKx⟩)
      clear k6 hpf hrun hA6 hKx hp3 hfs3
      try dsimp only
      go_wp2_with fail
      go_roundw
      case rel => exact ⟨te, fs3, R3, rc3, rfl, HN.out⟩
      case measure =>
       have h1 := HLT.out
       have h2 := HT3.out
       have h3 := HI0.out
       have h4 := HTE.out
       have h5 := HZ.out
       simp only [intOf]
       omega
def dY (r : Got) (w : World) (e : Ending) (w' : World) : Prop :=
 match r with
 | .ok (d, n) => ∃ p : PV, e = .returned (.tuple #[ci d p, .int .i64 (n : Int), .int .i64 0, .int .i64 0]) /\ au (fun b => w.heap.size <= b) w' d p /\ K0 w w'
 | .error (q, c) => e = .returned (.tuple #[.agg (rwC 0 0 false none 0 0 ⟨#[]⟩ none 0 0), .int .i64 0, .int .i64 (q : Int), .int .i64 (c : Int)]) /\ K0 w w'
theorem qu (s : ByteArray) (at_ : Int) (d : Raw) (n : Nat) (hr : fg s.data.toList at_ (.ok (d, n))) (w : World) (hT : Tabs w) : Calls Tryz.prog 18 #[.string s, .int .i64 at_] w (dY (.ok (d, n)) w) := by
 have HB := hid (hN w (.cells (rwC 0 0 false none 0 0 ⟨#[]⟩ none 0 0) 27))
 have HK0 := hid (show K0 w (w.alloc (.cells (rwC 0 0 false none 0 0 ⟨#[]⟩ none 0 0) 27)) from kR.alloc _)
 have HC := hid (mC s at_ _ hr (w.alloc (.cells (rwC 0 0 false none 0 0 ⟨#[]⟩ none 0 0) 27)) (hT.keep HK0.out))
 clear hr hT
 go_enter Tryz.func18, Tryz.ntmps18
 go_wp2_with fail
 refine HC.out.mono ?_
 rintro e w2 ⟨pd, rfl, hd, k2⟩
 have HB2 := hid (k2.heap HB.out id)
 have HK2 := hid (HK0.out.trans k2)
 have HB4 := hid (show ((aE w2 w.heap.size (.int .i64 d.k) (.int .i32 d.c) (.bool d.neg) (.slice pd.A pd.n pd.cp) (.string d.t) (.slice pd.B pd.m pd.cap)).alloc (.cells #[.pointer none] 77)).heap[w.heap.size]? = some (.cells (rwC d.k d.c d.neg pd.A pd.n pd.cp d.t pd.B pd.m pd.cap) 27 (0, 0)) from ae (aP HB2.out _ _ _ _ _ _) _)
 have HK4 := hid (show K0 w ((aE w2 w.heap.size (.int .i64 d.k) (.int .i32 d.c) (.bool d.neg) (.slice pd.A pd.n pd.cp) (.string d.t) (.slice pd.B pd.m pd.cap)).alloc (.cells #[.pointer none] 77)) from (bM HK2.out (Nat.le_refl _) (.int .i64 d.k) (.int .i32 d.c) (.bool d.neg) (.slice pd.A pd.n pd.cp) (.string d.t) (.slice pd.B pd.m pd.cap)).alloc _)
 have HD4 := hid (show au (fun b => w.heap.size <= b /\ b ≠ w.heap.size) ((aE w2 w.heap.size (.int .i64 d.k) (.int .i32 d.c) (.bool d.neg) (.slice pd.A pd.n pd.cp) (.string d.t) (.slice pd.B pd.m pd.cap)).alloc (.cells #[.pointer none] 77)) d pd from (hd.keep ((aq w2 w.heap.size (.int .i64 d.k) (.int .i32 d.c) (.bool d.neg) (.slice pd.A pd.n pd.cp) (.string d.t) (.slice pd.B pd.m pd.cap)).alloc _) (by
  rintro b rfl
  exact ⟨fun e => by have e : (w.alloc (.cells (rwC 0 0 false none 0 0 ⟨#[]⟩ none 0 0) 27)).heap.size <= w.heap.size := e; rw [World.size_alloc] at e; omega, ax HB2.out (by decide)⟩)).mono (fun b _ e => by have e : (w.alloc (.cells (rwC 0 0 false none 0 0 ⟨#[]⟩ none 0 0) 27)).heap.size <= b := e; rw [World.size_alloc] at e; exact ⟨by omega, by omega⟩))
 have HE := hid (bM HK4.out (Nat.le_refl _) (.int .i64 d.k) (.int .i32 d.c) (.bool d.neg) (.slice pd.A pd.n pd.cp) (.string d.t) (.slice pd.B pd.m pd.cap))
 have HR := hid (ab (aP HB4.out (.int .i64 d.k) (.int .i32 d.c) (.bool d.neg) (.slice pd.A pd.n pd.cp) (.string d.t) (.slice pd.B pd.m pd.cap))).1
 obtain ⟨⟨c0, c1, c2, c3, c4, c5⟩, f0, f1, f2, f3, f4, f5⟩ := ab HB2.out
 have HN := hid (show au (fun b => w.heap.size <= b) (aE ((aE w2 w.heap.size (.int .i64 d.k) (.int .i32 d.c) (.bool d.neg) (.slice pd.A pd.n pd.cp) (.string d.t) (.slice pd.B pd.m pd.cap)).alloc (.cells #[.pointer none] 77)) w.heap.size (.int .i64 d.k) (.int .i32 d.c) (.bool d.neg) (.slice pd.A pd.n pd.cp) (.string d.t) (.slice pd.B pd.m pd.cap)) d pd from (HD4.out.keep (aq _ _ (.int .i64 d.k) (.int .i32 d.c) (.bool d.neg) (.slice pd.A pd.n pd.cp) (.string d.t) (.slice pd.B pd.m pd.cap)) (by
  rintro b rfl
  exact ⟨fun e => e.2 rfl, ax HB4.out (by decide)⟩)).mono (fun b _ e => e.1))
 clear hd k2
 try dsimp only
 go_wp2_with fail
 refine (Asparse.as_nil _ _).mono ?_
 rintro e w3 ⟨rfl, hw⟩
 rw [hw] at HB4 HK4 HE HR HN
 clear hw c0 c1 c2 c3 c4 c5 f0 f1 f2 f3 f4 f5
 obtain ⟨⟨c0, c1, c2, c3, c4, c5⟩, f0, f1, f2, f3, f4, f5⟩ := ab HB4.out
 try dsimp only
 go_wp2_with fail
 refine bodyPost_ret (v := .tuple #[.agg (rwC d.k d.c d.neg pd.A pd.n pd.cp d.t pd.B pd.m pd.cap), .int .i64 (n : Int), .int .i64 0, .int .i64 0]) ?_ rfl ?_
 · obtain ⟨e0, e1, e2, e3, e4, e5⟩ := HR.out
   simp [results, Tryz.results18, go_sem, e0, e1, e2, e3, e4, e5]
 · exact ⟨pd, rfl, HN.out, HE.out⟩
theorem oX (s : ByteArray) (at_ : Int) (p c : Nat) (hr : fg s.data.toList at_ (.error (p, c))) (w : World) (hT : Tabs w) : Calls Tryz.prog 18 #[.string s, .int .i64 at_] w (dY (.error (p, c)) w) := by
 have HB := hid (hN w (.cells (rwC 0 0 false none 0 0 ⟨#[]⟩ none 0 0) 27))
 have HK0 := hid (show K0 w (w.alloc (.cells (rwC 0 0 false none 0 0 ⟨#[]⟩ none 0 0) 27)) from kR.alloc _)
 have HC := hid (mC s at_ _ hr (w.alloc (.cells (rwC 0 0 false none 0 0 ⟨#[]⟩ none 0 0) 27)) (hT.keep HK0.out))
 have HT := hid hT
 clear hr hT
 go_enter Tryz.func18, Tryz.ntmps18
 go_wp2_with fail
 refine HC.out.mono ?_
 rintro e w2 ⟨v, rfl, he, k2⟩
 have HB2 := hid (k2.heap HB.out id)
 have HK2 := hid (HK0.out.trans k2)
 obtain ⟨A, B, what, rfl, hB, hA⟩ := he
 have nB : B ≠ w.heap.size := by
  rintro rfl
  exact absurd (cN hB HB2.out) (by decide)
 have nA : A ≠ w.heap.size := by
  rintro rfl
  exact absurd (cN hA HB2.out) (by decide)
 have HB4 := hid (show ((aE w2 w.heap.size (.int .i64 0) (.int .i32 0) (.bool false) (.slice none 0 0) (.string ⟨#[]⟩) (.slice none 0 0)).alloc (.cells #[.pointer none] 77)).heap[w.heap.size]? = some (.cells (rwC 0 0 false none 0 0 ⟨#[]⟩ none 0 0) 27 (0, 0)) from ae (aP HB2.out _ _ _ _ _ _) _)
 have HK4 := hid (show K0 w ((aE w2 w.heap.size (.int .i64 0) (.int .i32 0) (.bool false) (.slice none 0 0) (.string ⟨#[]⟩) (.slice none 0 0)).alloc (.cells #[.pointer none] 77)) from (bM HK2.out (Nat.le_refl _) (.int .i64 0) (.int .i32 0) (.bool false) (.slice none 0 0) (.string ⟨#[]⟩) (.slice none 0 0)).alloc _)
 have HA4 := hid (show ((aE w2 w.heap.size (.int .i64 0) (.int .i32 0) (.bool false) (.slice none 0 0) (.string ⟨#[]⟩) (.slice none 0 0)).alloc (.cells #[.pointer none] 77)).heap[A]? = some (.cells #[.int .i64 (p : Int), .int .i64 (c : Int)] 80 (0, 0)) from ae (dN hA nA _ _ _ _ _ _) _)
 have hB4 : ((aE w2 w.heap.size (.int .i64 0) (.int .i32 0) (.bool false) (.slice none 0 0) (.string ⟨#[]⟩) (.slice none 0 0)).alloc (.cells #[.pointer none] 77)).heap[B]? = some (.cells #[.string what, .iface 77 (.pointer (some ⟨A, 0, none⟩))] 166 (0, 0)) := ae (dN hB nB _ _ _ _ _ _) _
 have ht4 : ((aE w2 w.heap.size (.int .i64 0) (.int .i32 0) (.bool false) (.slice none 0 0) (.string ⟨#[]⟩) (.slice none 0 0)).alloc (.cells #[.pointer none] 77)).heap[w2.heap.size]? = some (.cells #[.pointer none] 77 (0, 0)) := by
  have := hN (aE w2 w.heap.size (.int .i64 0) (.int .i32 0) (.bool false) (.slice none 0 0) (.string ⟨#[]⟩) (.slice none 0 0)) (.cells #[.pointer none] 77)
  rwa [ft] at this
 have HL := hid (show w.heap.size < w2.heap.size /\ A < w2.heap.size from ⟨ao HB2.out, ao hA⟩)
 have HCA := hid (Asparse.as_hit A B w2.heap.size what (.pointer none) #[] ((aE w2 w.heap.size (.int .i64 0) (.int .i32 0) (.bool false) (.slice none 0 0) (.string ⟨#[]⟩) (.slice none 0 0)).alloc (.cells #[.pointer none] 77)) (HT.out.keep HK4.out).err hB4 ht4)
 obtain ⟨⟨c0, c1, c2, c3, c4, c5⟩, f0, f1, f2, f3, f4, f5⟩ := ab HB2.out
 have hsz : (aE w2 w.heap.size (.int .i64 0) (.int .i32 0) (.bool false) (.slice none 0 0) (.string ⟨#[]⟩) (.slice none 0 0)).heap.size = w2.heap.size := ft _ _ _ _ _ _ _ _
 have HNA := hid nA
 clear hA hB hB4 ht4 k2 nA nB
 try dsimp only
 go_wp2_with fail
 refine HCA.out.mono ?_
 rintro e w5 ⟨rfl, htb, k5⟩
 have hA5 := k5.heap HA4.out (by have := HL.out.2; omega)
 have HB5 := hid (k5.heap HB4.out (by have := HL.out.1; omega))
 have HK5 := hid (HK4.out.into k5 (by rintro i rfl; have := HL.out.1; omega))
 have g0 : w5.cell? ⟨w2.heap.size, 0, none⟩ = some (.pointer (some ⟨A, 0, none⟩)) := by rw [cell_of_row w5 _ _ _ _ _ htb]; rfl
 have g1 : w5.cell? ⟨A, 0, none⟩ = some (.int .i64 (p : Int)) := by rw [cell_of_row w5 _ _ _ _ _ hA5]; rfl
 have g2 : w5.cell? ⟨A, 1, none⟩ = some (.int .i64 (c : Int)) := by rw [cell_of_row w5 _ _ _ _ _ hA5]; rfl
 clear c0 c1 c2 c3 c4 c5 f0 f1 f2 f3 f4 f5 hsz
 obtain ⟨⟨c0, c1, c2, c3, c4, c5⟩, f0, f1, f2, f3, f4, f5⟩ := ab HB5.out
 have HE := hid (bM HK5.out (Nat.le_refl _) (.int .i64 0) (.int .i32 0) (.bool false) (.slice none 0 0) (.string ⟨#[]⟩) (.slice none 0 0))
 have HR := hid (ab (aP HB5.out (.int .i64 0) (.int .i32 0) (.bool false) (.slice none 0 0) (.string ⟨#[]⟩) (.slice none 0 0))).1
 have n2 : ¬ w2.heap.size = w.heap.size := by have := HL.out.1; omega
 have n1 : ¬ A = w.heap.size := HNA.out
 clear hA5 htb k5
 try dsimp only
 go_wp2_with fail
 have ks := aq w5 w.heap.size (.int .i64 0) (.int .i32 0) (.bool false) (.slice none 0 0) (.string ⟨#[]⟩) (.slice none 0 0)
 have p0 := (ks.cell (p := ⟨w2.heap.size, 0, none⟩) (bL w5 _ g0) n2).trans g0
 have p1 := (ks.cell (p := ⟨A, 0, none⟩) (bL w5 _ g1) n1).trans g1
 have p2 := (ks.cell (p := ⟨A, 1, none⟩) (bL w5 _ g2) n1).trans g2
 dsimp only [aE] at p0 p1 p2
 clear ks
 generalize hB0 : w.heap.size = B0 at *
 generalize w2.heap.size = B2 at *
 go_big_region
 go_wp2_with fail
 refine bodyPost_ret (v := .tuple #[.agg (rwC 0 0 false none 0 0 ⟨#[]⟩ none 0 0), .int .i64 0, .int .i64 (p : Int), .int .i64 (c : Int)]) ?_ rfl ?_
 · obtain ⟨e0, e1, e2, e3, e4, e5⟩ := HR.out
   simp [results, Tryz.results18, go_sem, e0, e1, e2, e3, e4, e5]
 · exact ⟨rfl, HE.out.drew⟩
theorem iQ (s : ByteArray) (at_ : Int) (r : Got) (hr : fg s.data.toList at_ r) (w : World) (hT : Tabs w) : Calls Tryz.prog 18 #[.string s, .int .i64 at_] w (dY r w) := by
 cases r with
 | ok x => obtain ⟨d, n⟩ := x; exact qu s at_ d n hr w hT
 | error x => obtain ⟨p, c⟩ := x; exact oX s at_ p c hr w hT
def aw1 : List UInt8 := [40, 97, 32, 46, 32, 40, 98, 32, 91, 99, 93, 41, 41]
def aw2 : List UInt8 := [39, 40, 49, 32, 44, 120, 41]
theorem n10 : aH aw1 0 = .ok (0, ⟨1, 1, false, .no⟩) := by kernel_rfl
theorem n11 : aH aw1 1 = .ok (1, ⟨9, 1, false, .sym [97]⟩) := by kernel_rfl
theorem n12 : aH aw1 2 = .ok (3, ⟨8, 1, false, .no⟩) := by kernel_rfl
theorem n14 : aH aw1 4 = .ok (5, ⟨1, 1, false, .no⟩) := by kernel_rfl
theorem n16 : aH aw1 6 = .ok (6, ⟨9, 1, false, .sym [98]⟩) := by kernel_rfl
theorem n17 : aH aw1 7 = .ok (8, ⟨1, 1, true, .no⟩) := by kernel_rfl
theorem n19 : aH aw1 9 = .ok (9, ⟨9, 1, false, .sym [99]⟩) := by kernel_rfl
theorem n1a : aH aw1 10 = .ok (10, ⟨2, 1, true, .no⟩) := by kernel_rfl
theorem n1b : aH aw1 11 = .ok (11, ⟨2, 1, false, .no⟩) := by kernel_rfl
theorem n1c : aH aw1 12 = .ok (12, ⟨2, 1, false, .no⟩) := by kernel_rfl
theorem n20 : aH aw2 0 = .ok (0, ⟨4, 1, false, .no⟩) := by kernel_rfl
theorem n21 : aH aw2 1 = .ok (1, ⟨1, 1, false, .no⟩) := by kernel_rfl
theorem n22 : aH aw2 2 = .ok (2, ⟨9, 1, false, .int 1⟩) := by kernel_rfl
theorem n23 : aH aw2 3 = .ok (4, ⟨6, 1, false, .no⟩) := by kernel_rfl
theorem n25 : aH aw2 5 = .ok (5, ⟨9, 1, false, .sym [120]⟩) := by kernel_rfl
theorem n26 : aH aw2 6 = .ok (6, ⟨2, 1, false, .no⟩) := by kernel_rfl
abbrev rE : Raw := bB (.sym [97])
abbrev rl : Raw := cB [bB (.sym [98]), cB [bB (.sym [99])] .nil] .nil
theorem qX : fg aw1 0 (.ok (dm rE rl, 13)) := by
 have bg : ∀ (k n : Nat) (q : Bool) (d : fh), k = 1 \/ k = 9 -> (⟨k, n, q, d⟩ : Tk).beg := fun k n q d h => by rcases h with h | h <;> subst h <;> exact ⟨by simp, by simp, by simp⟩
 refine .frm n10 (bg _ _ _ _ (.inl rfl)) (.opn rfl (by decide) ?_)
 refine .itemOk n11 (bg _ _ _ _ (.inr rfl)) rfl (.datum rfl) ?_
 refine .dotOk n12 rfl rfl (by simp) ?_
 refine .tailOk n14 (bg _ _ _ _ (.inl rfl)) rfl (.opn rfl (by decide) ?_) (.lstOk n1c rfl rfl (by decide))
 refine .itemOk n16 (bg _ _ _ _ (.inr rfl)) rfl (.datum rfl) ?_
 refine .itemOk n17 (bg _ _ _ _ (.inl rfl)) rfl (.opn rfl (by decide) ?_) (.lstOk n1b rfl rfl (by decide))
 exact .itemOk n19 (bg _ _ _ _ (.inr rfl)) rfl (.datum rfl) (.lstOk n1a rfl rfl (by decide))
abbrev my : Raw := dm (cB [bB (.int 1), gI 6 (bB (.sym [120]))] .nil) .nil
theorem qW : fg aw2 0 (.ok (dm (bB (.sym (bY 4))) my, 7)) := by
 have bg : ∀ (k n : Nat) (q : Bool) (d : fh), k = 1 \/ k = 9 \/ k = 4 \/ k = 6 -> (⟨k, n, q, d⟩ : Tk).beg := fun k n q d h => by rcases h with h | h | h | h <;> subst h <;> exact ⟨by simp, by simp, by simp⟩
 refine .frm n20 (bg _ _ _ _ (.inr (.inr (.inl rfl)))) (.markOk (d := cB [bB (.int 1), gI 6 (bB (.sym [120]))] .nil) (by decide) (by decide) n21 (bg _ _ _ _ (.inl rfl)) (.opn rfl (by decide) ?_))
 refine .itemOk n22 (bg _ _ _ _ (.inr (.inl rfl))) rfl (.datum rfl) ?_
 refine .itemOk n23 (bg _ _ _ _ (.inr (.inr (.inr rfl)))) rfl (.markOk (by decide) (by decide) n25 (bg _ _ _ _ (.inr (.inl rfl))) (.datum rfl)) ?_
 exact .lstOk n26 rfl rfl (by decide)
theorem iP {N P : Nat -> Prop} {w : World} {a d : Raw} {p : PV} (h : bj N P w (dm a d) p) : p.m = 2 /\ ∃ b off, p.B = some ⟨b, off, none⟩ /\ b < w.heap.size /\ w.cell? ⟨b, off + 4, none⟩ = some (.string a.t) := by
 obtain ⟨b, off, v, e, _, hi, _⟩ := h.items 0 (by show 0 < 2; omega)
 have h5 := hi.cells.2.2.2.2.1
 simp only [Nat.zero_mul, Nat.add_zero] at h5
 exact ⟨h.len.symm, b, off, e, bL w _ h5, h5⟩
theorem lX (w : World) (hT : Tabs w) : Calls Tryz.prog 21 #[] w (BoolPost true w) := by
 have HC := hid (fun (W : World) (K : K0 w W) => iQ ⟨aw1.toArray⟩ 0 _ (show fg (⟨aw1.toArray⟩ : ByteArray).data.toList 0 _ from qX) W (hT.keep K))
 have HD := hid (fun (W : World) (K : K0 w W) => iQ ⟨aw2.toArray⟩ 0 _ (show fg (⟨aw2.toArray⟩ : ByteArray).data.toList 0 _ from qW) W (hT.keep K))
 clear hT
 go_enter Tryz.func21, Tryz.ntmps21
 go_wp2_with fail
 refine (HC.out _ kR).mono ?_
 rintro e w2 ⟨p, rfl, hd, k2⟩
 obtain ⟨A, n, cp, B, m, cap⟩ := p
 obtain ⟨hm, b, off, hB, hb, hc⟩ := iP hd
 have hm : m = 2 := hm
 have hB : B = some ⟨b, off, none⟩ := hB
 subst hm hB
 have hce : rE.t = ⟨#[97]⟩ := rfl
 rw [hce] at hc
 have HK2 := hid k2
 have HC2 := hid hc
 have HB2 := hid (hN w2 (.cells (fZ (dm rE rl) ⟨A, n, cp, some ⟨b, off, none⟩, 2, cap⟩) 27))
 clear hd k2 hc hb hce
 try dsimp only
 go_wp2_with fail
 refine (HD.out _ (HK2.out.alloc _)).mono ?_
 rintro e w4 ⟨p, rfl, hd, k4⟩
 obtain ⟨A2, n2, cp2, B2, m2, cap2⟩ := p
 obtain ⟨hm, b2, off2, hB, hb, hc⟩ := iP hd
 have hm : m2 = 2 := hm
 have hB : B2 = some ⟨b2, off2, none⟩ := hB
 subst hm hB
 have hce : (bB (.sym (bY 4))).t = ⟨#[113, 117, 111, 116, 101]⟩ := rfl
 rw [hce] at hc
 have K24 : K0 w2 w4 := (kR.alloc _).trans k4
 have K5 : K0 w4 (w4.alloc (.cells (fZ (dm (bB (.sym (bY 4))) my) ⟨A2, n2, cp2, some ⟨b2, off2, none⟩, 2, cap2⟩) 27)) := kR.alloc _
 have x1 : (w4.alloc (.cells (fZ (dm (bB (.sym (bY 4))) my) ⟨A2, n2, cp2, some ⟨b2, off2, none⟩, 2, cap2⟩) 27)).cell? ⟨b, off + 4, none⟩ = some (.string ⟨#[97]⟩) := ((K24.trans K5).cell (p := ⟨b, off + 4, none⟩) (bL w2 _ HC2.out) id).trans HC2.out
 have x2 : (w4.alloc (.cells (fZ (dm (bB (.sym (bY 4))) my) ⟨A2, n2, cp2, some ⟨b2, off2, none⟩, 2, cap2⟩) 27)).cell? ⟨b2, off2 + 4, none⟩ = some (.string ⟨#[113, 117, 111, 116, 101]⟩) := (K5.cell (p := ⟨b2, off2 + 4, none⟩) hb id).trans hc
 obtain ⟨⟨y0, y1, y2, y3, y4, y5⟩, _⟩ := ab ((k4.trans K5).heap HB2.out id)
 have HK5 := hid ((HK2.out.trans K24).trans K5)
 clear hd k4 hc hb hce K24 K5
 try dsimp only
 go_wp2_with fail
 go_ret
 exact ⟨rfl, HK5.out⟩
def gdR : Got -> Raw
 | .ok (d, _) => d
 | .error _ => .nil
def gnR : Got -> Int
 | .ok (_, n) => (n : Int)
 | .error _ => 0
def gqR : Got -> Int
 | .ok _ => 0
 | .error (q, _) => (q : Int)
def gcR : Got -> Int
 | .ok _ => 0
 | .error (_, c) => (c : Int)
theorem dY.form {r : Got} {w w' : World} {e : Ending} (h : dY r w e w') : ∃ p : PV, e = .returned (.tuple #[ci (gdR r) p, .int .i64 (gnR r), .int .i64 (gqR r), .int .i64 (gcR r)]) /\ au (fun b => w.heap.size <= b) w' (gdR r) p /\ K0 w w' := by
 cases r with
 | ok x => obtain ⟨d, n⟩ := x; exact h
 | error x => obtain ⟨q, c⟩ := x; exact ⟨PV.none, h.1, bj.nil _ _ _, h.2⟩
theorem aX.form2 {r : Got} {w w' : World} {e : Ending} (h : aX r w e w') : ∃ p : PV, e = .returned (qD (gdR r) p (gnR r) (gqR r) (gcR r)) /\ au (fun b => w.heap.size <= b) w' (gdR r) p /\ K0 w w' := by
 cases r with
 | ok x => obtain ⟨d, n⟩ := x; exact h
 | error x => obtain ⟨q, c⟩ := x; exact ⟨PV.none, h.1, bj.nil _ _ _, h.2⟩
theorem lawPOne (s : ByteArray) (at_ : Int) (w : World) (hT : Tabs w) : Calls Tryz.prog 5 #[.string s, .int .i64 at_] w (BoolPost true w) := by
 obtain ⟨r, hr⟩ := fg.ex s.data.toList at_
 have h1 := fun (W : World) (K : K0 w W) => (iQ s at_ r hr W (hT.keep K)).mono (fun _ _ h => dY.form h)
 have h2 := fun (W : World) => (oE s at_ r hr W).mono (fun _ _ h => aX.form2 h)
 generalize gdR r = d at h1 h2
 generalize gnR r = n at h1 h2
 generalize gqR r = q at h1 h2
 generalize gcR r = c at h1 h2
 have H1 := hid h1
 have H2 := hid h2
 have HAW := hid (fun (W : World) (K : K0 w W) => lX W (hT.keep K))
 have en : (n == n) = true := by simp
 have eq : (q == q) = true := by simp
 have ec : (c == c) = true := by simp
 clear h1 h2 hT hr
 go_enter Tryz.func5, Tryz.ntmps5
 go_wp2_with fail
 refine (H1.out _ kR).mono ?_
 rintro e w2 ⟨p, rfl, hd, k2⟩
 have HB2 := hid (hN w2 (.cells (fZ d p) 27))
 have HD2 := hid (hd.keep0 (kR.alloc (.cells (fZ d p) 27)))
 have HK2 := hid (k2.alloc (.cells (fZ d p) 27))
 clear hd k2
 try dsimp only
 go_wp2_with fail
 generalize w2.alloc (.cells (fZ d p) 27) = w3 at *
 refine (H2.out _).mono ?_
 rintro e w4 ⟨p', rfl, hd', k4⟩
 have HB24 := hid (ae (k4.heap HB2.out id) (.cells (gtC d.k d.c d.neg p'.A p'.n p'.cp d.t p'.B p'.m p'.cap n q c) 43))
 have HB4 := hid (hN w4 (.cells (gtC d.k d.c d.neg p'.A p'.n p'.cp d.t p'.B p'.m p'.cap n q c) 43))
 have KA : K0 w4 (w4.alloc (.cells (gtC d.k d.c d.neg p'.A p'.n p'.cp d.t p'.B p'.m p'.cap n q c) 43)) := kR.alloc _
 have HC := hid (ne (HD2.out.keep0 (k4.trans KA)) d p' _ kR (hd'.keep0 KA))
 have HK4 := hid ((HK2.out.trans k4).trans KA)
 obtain ⟨⟨x0, x1, x2, x3, x4, x5⟩, _⟩ := ab HB24.out
 obtain ⟨⟨y0, y1, y2, y3, y4, y5, y6, y7, y8⟩, _⟩ := aj HB4.out
 rw [pu] at HC
 clear hd' k4 KA
 try dsimp only
 go_wp2_with fail
 generalize w4.alloc (.cells (gtC d.k d.c d.neg p'.A p'.n p'.cp d.t p'.B p'.m p'.cap n q c) 43) = w5 at *
 refine HC.out.mono ?_
 rintro e w6 ⟨rfl, k6⟩
 have HB46 := hid (k6.heap HB4.out id)
 have HK6 := hid (HK4.out.trans k6)
 clear x0 x1 x2 x3 x4 x5 y0 y1 y2 y3 y4 y5 y6 y7 y8 k6
 obtain ⟨⟨y0, y1, y2, y3, y4, y5, y6, y7, y8⟩, _⟩ := aj HB46.out
 try dsimp only
 go_wp2_with fail
 refine (HAW.out _ HK6.out).mono ?_
 rintro e w7 ⟨rfl, k7⟩
 have HK7 := hid (HK6.out.trans k7)
 clear k7
 try dsimp only
 go_wp2_with fail
 go_ret
 exact ⟨rfl, HK7.out⟩
end Go.Proofs.YtonnikipeokkaaaGreatDoor
