import Derived.Test.YtonnikipeokkaaaGreatDoorPrpQ
import Derived.Test.YtonnikipeokkaaaGreatDoorPrAs
namespace Go.Proofs.YtonnikipeokkaaaGreatDoor
set_option maxRecDepth 100000
set_option maxHeartbeats 8000000
open Go.Lib (hid)
open Go.RowKit Go.Lib
section
variable {X : Nat -> Prop} {base pb rc : Nat} {fs : List FB} {R : Option Addr} {w : World}
theorem ma (h : PS X base pb fs R rc w) {a : Int} (hok : okF (fs.map FB.fr) a) (ha : a <= 100000) (t : Tk) (j : Nat) (en dk dc : Int) (dneg : Bool) (A : Option Addr) (n cp : Nat) (x : ByteArray) (hlf : cz w t.d dk dc dneg A n cp x) :
 Calls Tryz.prog 70 #[.pointer (some ⟨pb, 0, none⟩), ar (t.kind : Int) (j : Int) en t.sq dk dc dneg A n cp x] w (dW X base pb (eJ (fs.map FB.fr) j t) w) := by
 have hl : fs.length <= 64 := by have := hok.1; simpa using this
 by_cases h0 : t.kind = 0
 · rw [show eJ (fs.map FB.fr) j t = .err (lo (fs.map FB.fr) j).1 (lo (fs.map FB.fr) j).2 from by unfold eJ; rw [if_pos h0]]
   exact qj h hl _ _ _ _ _ _ _ _ _ _ _ (dm (b := 0) h0)
 have q0 := cy (b := 0) h0
 by_cases h8 : t.kind = 8
 · have q8 := dm (b := 8) h8
   rw [show eJ (fs.map FB.fr) j t = jl (fs.map FB.fr) j from by unfold eJ; rw [if_neg h0, if_pos h8]]
   cases hr : jl (fs.map FB.fr) j with
   | err p c => exact kA h hl _ _ _ _ _ _ _ _ _ _ _ q0 q8 _ _ hr
   | cont S => exact lL h hl _ _ _ _ _ _ _ _ _ _ _ q0 q8 _ hr
   | ended S d =>
    exfalso
    unfold jl at hr
    split at hr
    · cases hr
    · split at hr <;> cases hr
 have q8 := cy (b := 8) h8
 by_cases h2 : t.kind = 2
 · have q2 := dm (b := 2) h2
   rw [show eJ (fs.map FB.fr) j t = eN (fs.map FB.fr) j t.sq from by unfold eJ; rw [if_neg h0, if_neg h8, if_pos h2]]
   cases hr : eN (fs.map FB.fr) j t.sq with
   | err p c => exact jk h hl _ _ _ _ _ _ _ _ _ _ _ hok ha q0 q8 q2 _ _ hr
   | ended S d => exact jQ h hl _ _ _ _ _ _ _ _ _ _ _ hok ha q0 q8 q2 _ _ hr
   | cont S =>
    exfalso
    unfold eN at hr
    split at hr
    · cases hr
    · split at hr <;> cases hr
 have q2 := cy (b := 2) h2
 by_cases hb : eu (fs.map FB.fr) t = 0
 · by_cases h9 : t.kind = 9
   · rw [show eJ (fs.map FB.fr) j t = .ended (fs.map FB.fr) (bB t.d) from by unfold eJ; rw [if_neg h0, if_neg h8, if_neg h2, if_neg (fun e => e hb), if_pos h9]]
     exact nm h hl _ _ _ _ _ _ _ _ _ _ _ t rfl q0 q8 q2 (dm (b := 9) h9) hb hlf
   · rw [show eJ (fs.map FB.fr) j t = .cont (⟨t.kind, j, t.sq, 0, .nil, []⟩ :: fs.map FB.fr) from by unfold eJ; rw [if_neg h0, if_neg h8, if_neg h2, if_neg (fun e => e hb), if_neg h9]]
     exact oy h hl _ _ _ _ _ _ _ _ _ _ _ t rfl q0 q8 q2 (cy (b := 9) h9) hb
 · rw [show eJ (fs.map FB.fr) j t = .err j (eu (fs.map FB.fr) t) from by unfold eJ; rw [if_neg h0, if_neg h8, if_neg h2, if_pos hb]]
   exact kB h hl _ _ _ _ _ _ _ _ _ _ _ t rfl q0 q8 q2 _ hb rfl
end
theorem Run.inv {l : List UInt8} {S : List Fr} {i : Int} {r : Got} (h : Run l S i r) : (∃ p c, aH l i = .error (p, c) /\ r = .error (p, c)) \/ ∃ j t, aH l i = .ok (j, t) /\ gV l (j + t.len) r (bU S j t) := by
 cases h with
 | lex n => exact .inl ⟨_, _, n, rfl⟩
 | err n s => exact .inr ⟨_, _, n, by rw [s]; rfl⟩
 | done n s => exact .inr ⟨_, _, n, by rw [s]; rfl⟩
 | cont n s m => exact .inr ⟨_, _, n, by rw [s]; exact m⟩
def ro (r : Got) (w : World) (e : Ending) (w' : World) : Prop :=
 match r with
 | .ok (d, n) => ∃ p : PV, e = .returned (.tuple #[bT d p, .int .i64 (n : Int), .nilIface]) /\ au (fun b => w.heap.size <= b) w' d p /\ K0 w w'
 | .error (p, c) => ∃ v, e = .returned (.tuple #[.agg (rwC 0 0 false none 0 0 ⟨#[]⟩ none 0 0), .int .i64 0, v]) /\ eO w' v p c /\ K0 w w'
structure OnS (l : List UInt8) (w : World) (r : Got) (i : Int) (fs : List FB) (R : Option Addr) (rc : Nat) (wr : World) : Prop where
 run : Run l (fs.map FB.fr) i r
 ps : PS (fun _ => False) (w.heap.size + 1) (w.heap.size + 1) fs R rc wr
 ok : okF (fs.map FB.fr) i
 h0 : wr.heap[w.heap.size]? = some (.cells (rwC 0 0 false none 0 0 ⟨#[]⟩ none 0 0) 27 (0, 0))
 K : K0 w wr
theorem OnS.start {l : List UInt8} {w : World} {r : Got} {i : Int} (h : dh l i r) : OnS l w r i [] none 0 ((w.alloc (.cells (rwC 0 0 false none 0 0 ⟨#[]⟩ none 0 0) 27)).alloc (.cells #[.slice none 0 0] 120)) := by
 have K : K0 w ((w.alloc (.cells (rwC 0 0 false none 0 0 ⟨#[]⟩ none 0 0) 27)).alloc (.cells #[.slice none 0 0] 120)) := (kR.alloc _).alloc _
 refine ⟨h.run, ⟨by have := hN (w.alloc (.cells (rwC 0 0 false none 0 0 ⟨#[]⟩ none 0 0) 27)) (.cells #[.slice none 0 0] 120); rwa [World.size_alloc] at this, Nat.le_refl _, World.ownsRow_nil _ _ _ _, by simp, .nil, fun _ e => e.elim, fun _ e => e.elim⟩, ⟨by simp, by simp⟩, ac (hN w _) _, K⟩
theorem mN (s : ByteArray) (at_ : Int) (r : Got) (hr : dh s.data.toList at_ r) (w : World) (hT : Tabs w) : Calls Tryz.prog 42 #[.string s, .int .i64 at_] w (ro r w) := by
 have HNX := hid (fun (i : Int) (W : World) (K : K0 w W) => lj s i W (hT.keep K))
 have HZ := hid (show s.data.toList.length = s.size from (Lib.size_eq s).symm)
 have HST := hid (OnS.start (w := w) hr)
 clear hr hT
 go_enter Tryz.func42, Tryz.ntmps42
 go_wp2_with fail
 generalize ((w.alloc (.cells (rwC 0 0 false none 0 0 ⟨#[]⟩ none 0 0) 27)).alloc (.cells #[.slice none 0 0] 120)) = w1 at *
 go_loopw [1] (fun av wr => ∃ (i : Int) (fs : List FB) (R : Option Addr) (rc : Nat), av = .int .i64 i /\ OnS s.data.toList w r i fs R rc wr) (fun av _ => ((s.size : Int) - intOf av).toNat)
 case atStart => exact ⟨at_, [], none, 0, rfl, HST.out⟩
 case round =>
  clear HST
  obtain ⟨i, fs, R, rc, rfl, hst⟩ := hrel
  have HS := hid hst
  clear hst
  go_wp2_with fail
  refine (HNX.out i _ HS.out.K).mono ?_
  intro e w2 hres
  rcases HS.out.run.inv with ⟨p, c, nn, hre⟩ | ⟨j, t, nn, hst⟩
  · skip
    rw [nn] at hres
    obtain ⟨rfl, k2⟩ := hres
    have g0 : ((c : Int) != 0) = true := by have := ej nn; simp; omega
    have HA := hid (ac (k2.heap HS.out.h0 id) (.cells (tkC 0 0 0 false 0 0 false none 0 0 ⟨#[]⟩ none 0 0) 29))
    have HK2 := hid ((HS.out.K.trans k2).alloc (.cells (tkC 0 0 0 false 0 0 false none 0 0 ⟨#[]⟩ none 0 0) 29))
    clear k2
    try dsimp only
    go_wp2_with fail
    refine (bj _ (p : Int) (c : Int) _).mono ?_
    rintro e w4 ⟨v, rfl, he, k4⟩
    have HA4 := hid (k4.heap HA.out id)
    have HKx := hid (HK2.out.trans k4)
    have HER := hid (show eO (aE w4 w.heap.size (.int .i64 0) (.int .i32 0) (.bool false) (.slice none 0 0) (.string ⟨#[]⟩) (.slice none 0 0)) _ _ _ from he.keep (aq _ _ (.int .i64 0) (.int .i32 0) (.bool false) (.slice none 0 0) (.string ⟨#[]⟩) (.slice none 0 0)) (by rintro b Y rfl; rw [HA4.out]; exact ⟨by simp, by simp⟩))
    clear he k4
    try dsimp only
    have HE := hid (bN HKx.out (Nat.le_refl _) (.int .i64 0) (.int .i32 0) (.bool false) (.slice none 0 0) (.string ⟨#[]⟩) (.slice none 0 0))
    have HR := hid (ab (aQ HA4.out (.int .i64 0) (.int .i32 0) (.bool false) (.slice none 0 0) (.string ⟨#[]⟩) (.slice none 0 0))).1
    obtain ⟨⟨b0, b1, b2, b3, b4, b5⟩, f0, f1, f2, f3, f4, f5⟩ := ab HA4.out
    go_wp2_with fail
    refine bodyPost_ret (v := .tuple #[.agg (rwC 0 0 false none 0 0 ⟨#[]⟩ none 0 0), .int .i64 0, v]) ?_ rfl ?_
    · obtain ⟨e0, e1, e2, e3, e4, e5⟩ := HR.out
      simp [results, Tryz.results42, go_sem, e0, e1, e2, e3, e4, e5]
    · rw [hre]; exact ⟨v, rfl, HER.out, HE.out⟩
  · skip
    have HZ4 := hid (show s.data.toList.length <= 4096 from (cJ nn).1)
    rw [nn] at hres
    obtain ⟨dk, dc, dneg, A, n, cp, x, he, hlf, k2⟩ := hres
    obtain ⟨tk1, tk2, tk3, tk4⟩ := aN nn
    obtain ⟨lim1, ai, hai, lim2, _⟩ := cJ nn
    have hn48 : i <= 4096 := by omega
    have HSTEP := hid hst
    have HT4 := hid tk4
    have HT3 := hid tk3
    have HI0 := hid (show 0 <= i by omega)
    have hps2 := HS.out.ps.keep0 (k2.alloc (.cells (tkC (t.kind : Int) (j : Int) ((j + t.len : Nat) : Int) t.sq dk dc dneg A n cp x none 0 0) 29))
    have hcall := ma hps2 HS.out.ok (by omega) t j ((j + t.len : Nat) : Int) dk dc dneg A n cp x (hlf.keep (kR.alloc _))
    have htok := rF (j := j) (t := t) HS.out.ok tk1
    have HOK := hid htok
    obtain ⟨tk, htk⟩ : ∃ z : Int, z = (t.kind : Int) := ⟨_, rfl⟩
    obtain ⟨te, hte⟩ : ∃ z : Int, z = ((j + t.len : Nat) : Int) := ⟨_, rfl⟩
    obtain ⟨ts, hts⟩ : ∃ z : Bool, z = t.sq := ⟨_, rfl⟩
    rw [<- htk, <- hte, <- hts] at he hcall
    rw [<- htk, <- hte, <- hts] at hps2
    subst he
    have HTE := hid hte
    have HCALL := hid hcall
    have HA := hid (ac (k2.heap HS.out.h0 id) (.cells (tkC tk (j : Int) te ts dk dc dneg A n cp x none 0 0) 29))
    have HK2 := hid ((HS.out.K.trans k2).alloc (.cells (tkC tk (j : Int) te ts dk dc dneg A n cp x none 0 0) 29))
    have HPSX := hid hps2
    obtain ⟨⟨a0, a1, a2, a3, a4, a5, a6, a7, a8, a9⟩, _⟩ := aa (hN w2 (.cells (tkC tk (j : Int) te ts dk dc dneg A n cp x none 0 0) 29))
    clear hps2 hcall htok htk hte hts k2 hlf tk1 tk2 tk3 tk4 lim1 lim2 hai hst nn hn48
    try dsimp only
    go_wp2_with fail
    refine HCALL.out.mono ?_
    intro e w4 hres
    generalize w2.alloc (.cells (tkC tk (j : Int) te ts dk dc dneg A n cp x none 0 0) 29) = w3 at *
    clear a0 a1 a2 a3 a4 a5 a6 a7 a8 a9
    have HSF := hid (oC (fs.map FB.fr) j t)
    cases htf : eJ (fs.map FB.fr) j t with
    | err p c =>
     rw [htf] at hres
     obtain ⟨v, rfl, he, k4⟩ := hres
     have hre : r = .error (p, c) := by have h1 := HSTEP.out; rw [HSF.out, htf] at h1; exact h1
     have HRE := hid hre
     have HA4 := hid (ac (k4.heap HA.out (by omega)) (.cells (rwC 0 0 false none 0 0 ⟨#[]⟩ none 0 0) 27))
     have HKx := hid ((HK2.out.into k4 (fun b e => by omega)).alloc (.cells (rwC 0 0 false none 0 0 ⟨#[]⟩ none 0 0) 27))
     have HEN := hid (he.keep0 (kR.alloc (.cells (rwC 0 0 false none 0 0 ⟨#[]⟩ none 0 0) 27)))
     obtain ⟨A', B', what, hv, _, _⟩ := he
     subst hv
     have HER := hid (show eO (aE (w4.alloc (.cells (rwC 0 0 false none 0 0 ⟨#[]⟩ none 0 0) 27)) w.heap.size (.int .i64 0) (.int .i32 0) (.bool false) (.slice none 0 0) (.string ⟨#[]⟩) (.slice none 0 0)) _ _ _ from HEN.out.keep (aq _ _ (.int .i64 0) (.int .i32 0) (.bool false) (.slice none 0 0) (.string ⟨#[]⟩) (.slice none 0 0)) (by rintro b Y rfl; rw [HA4.out]; exact ⟨by simp, by simp⟩))
     clear k4 htf hre
     try dsimp only
     have HE := hid (bN HKx.out (Nat.le_refl _) (.int .i64 0) (.int .i32 0) (.bool false) (.slice none 0 0) (.string ⟨#[]⟩) (.slice none 0 0))
     have HR := hid (ab (aQ HA4.out (.int .i64 0) (.int .i32 0) (.bool false) (.slice none 0 0) (.string ⟨#[]⟩) (.slice none 0 0))).1
     obtain ⟨⟨b0, b1, b2, b3, b4, b5⟩, f0, f1, f2, f3, f4, f5⟩ := ab HA4.out
     go_wp2_with fail
     refine bodyPost_ret (v := .tuple #[.agg (rwC 0 0 false none 0 0 ⟨#[]⟩ none 0 0), .int .i64 0, .iface 164 (.pointer (some ⟨B', 0, none⟩))]) ?_ rfl ?_
     · obtain ⟨e0, e1, e2, e3, e4, e5⟩ := HR.out
       simp [results, Tryz.results42, go_sem, e0, e1, e2, e3, e4, e5]
     · rw [HRE.out]; exact ⟨_, rfl, HER.out, HE.out⟩
    | cont S =>
     rw [htf] at hres
     obtain ⟨fs2, R2, rc2, hfs, rfl, hp2, k4⟩ := hres
     have hrun : Run s.data.toList S ((j + t.len : Nat) : Int) r := by have h1 := HSTEP.out; rw [HSF.out, htf] at h1; exact h1
     have hk0 : t.kind ≠ 0 := by
      intro e
      unfold eJ at htf
      rw [if_pos e] at htf
      cases htf
     have HLT := hid (HT4.out hk0)
     have hA4 := ac (k4.heap HA.out (by omega)) (.cells (rwC 0 0 false none 0 0 ⟨#[]⟩ none 0 0) 27)
     have hKx := (HK2.out.into k4 (fun b e => by omega)).alloc (.cells (rwC 0 0 false none 0 0 ⟨#[]⟩ none 0 0) 27)
     have HN := hid (show OnS s.data.toList w r te fs2 R2 rc2 (w4.alloc (.cells (rwC 0 0 false none 0 0 ⟨#[]⟩ none 0 0) 27)) from ⟨by rw [hfs, HTE.out]; exact hrun, hp2.keep0 (kR.alloc _), by rw [hfs]; exact (HOK.out.1 S htf).mono (by rw [HTE.out]; exact Int.le_of_lt HLT.out), hA4, hKx⟩)
     clear k4 htf hrun hk0 hA4 hKx hp2 hfs
     try dsimp only
     go_wp2_with fail
     go_roundw
     case rel => exact ⟨te, fs2, R2, rc2, rfl, HN.out⟩
     case measure =>
      have h1 := HLT.out
      have h2 := HT3.out
      have h3 := HI0.out
      have h4 := HTE.out
      have h5 := HZ.out
      simp only [intOf]
      omega
    | ended S d =>
     rw [htf] at hres
     obtain ⟨fs2, R2, rc2, pd, hfs, rfl, hp2, hd2, k4⟩ := hres
     have hput := HSTEP.out
     rw [HSF.out, htf] at hput
     have hput : gV s.data.toList (j + t.len) r (dI S d) := hput
     have hk0 : t.kind ≠ 0 := by
      intro e
      unfold eJ at htf
      rw [if_pos e] at htf
      cases htf
     have HLT := hid (HT4.out hk0)
     have hoks := HOK.out.2 S d htf
     have hA4 := ac (k4.heap HA.out (by omega)) (.cells (rwC d.k d.c d.neg pd.A pd.n pd.cp d.t pd.B pd.m pd.cap) 27)
     have hKx := (HK2.out.into k4 (fun b e => by omega)).alloc (.cells (rwC d.k d.c d.neg pd.A pd.n pd.cp d.t pd.B pd.m pd.cap) 27)
     have HA4 := hid hA4
     have HK4 := hid hKx
     have hp4 := hp2.keep0 (kR.alloc (.cells (rwC d.k d.c d.neg pd.A pd.n pd.cp d.t pd.B pd.m pd.cap) 27))
     have hits : ∀ f ∈ fs2, f.fr.items.length <= 100000 := fun f hf => by
      have h1 := hoks.2 f.fr (by rw [<- hfs]; exact List.mem_map_of_mem hf)
      by_cases e : f.fr.items = []
      · rw [e]; simp
      · have := h1.cnt e
        have h2 := HLT.out
        have h3 := HT3.out
        have h4 := HZ4.out
        omega
     have hpc := qE hp4 (hd2.keep0 (kR.alloc (.cells (rwC d.k d.c d.neg pd.A pd.n pd.cp d.t pd.B pd.m pd.cap) 27))) (by have := hoks.1; rw [<- hfs] at this; simpa using this) hits
     rw [hfs] at hpc
     have HPC := hid hpc
     have HPUT := hid hput
     have HOKS := hid hoks
     obtain ⟨⟨y0, y1, y2, y3, y4, y5⟩, _⟩ := ab (hN w4 (.cells (rwC d.k d.c d.neg pd.A pd.n pd.cp d.t pd.B pd.m pd.cap) 27))
     clear hput hk0 hoks hA4 hKx hp4 hits hpc hp2 hd2 k4 htf hfs
     try dsimp only
     go_wp2_with fail
     refine HPC.out.mono ?_
     intro e w6 hres
     generalize w4.alloc (.cells (rwC d.k d.c d.neg pd.A pd.n pd.cp d.t pd.B pd.m pd.cap) 27) = w5 at *
     clear y0 y1 y2 y3 y4 y5
     cases hpf : dI S d with
     | err p c => rw [hpf] at hres; exact hres.elim
     | done d2 =>
      rw [hpf] at hres
      obtain ⟨p2, rfl, hd2, k6⟩ := hres
      have HRE := hid (show r = .ok (d2, j + t.len) by have h1 := HPUT.out; rw [hpf] at h1; exact h1)
      have HA6 := hid (ac (k6.heap HA4.out (by omega)) (.cells (rwC d2.k d2.c d2.neg p2.A p2.n p2.cp d2.t p2.B p2.m p2.cap) 27))
      have HKx := hid ((HK4.out.into k6 (fun b e => by omega)).alloc (.cells (rwC d2.k d2.c d2.neg p2.A p2.n p2.cp d2.t p2.B p2.m p2.cap) 27))
      have HD6 := hid (hd2.keep0 (kR.alloc (.cells (rwC d2.k d2.c d2.neg p2.A p2.n p2.cp d2.t p2.B p2.m p2.cap) 27)))
      obtain ⟨⟨y0, y1, y2, y3, y4, y5⟩, _⟩ := ab (hN w6 (.cells (rwC d2.k d2.c d2.neg p2.A p2.n p2.cp d2.t p2.B p2.m p2.cap) 27))
      clear hd2 k6 hpf
      try dsimp only
      have HE := hid (bN HKx.out (Nat.le_refl _) (.int .i64 d2.k) (.int .i32 d2.c) (.bool d2.neg) (.slice p2.A p2.n p2.cp) (.string d2.t) (.slice p2.B p2.m p2.cap))
      have HR := hid (ab (aQ HA6.out (.int .i64 d2.k) (.int .i32 d2.c) (.bool d2.neg) (.slice p2.A p2.n p2.cp) (.string d2.t) (.slice p2.B p2.m p2.cap))).1
      obtain ⟨⟨b0, b1, b2, b3, b4, b5⟩, f0, f1, f2, f3, f4, f5⟩ := ab HA6.out
      go_wp2_with fail
      refine bodyPost_ret (v := .tuple #[.agg (rwC d2.k d2.c d2.neg p2.A p2.n p2.cp d2.t p2.B p2.m p2.cap), .int .i64 te, .nilIface]) ?_ rfl ?_
      · obtain ⟨e0, e1, e2, e3, e4, e5⟩ := HR.out
        simp [results, Tryz.results42, go_sem, e0, e1, e2, e3, e4, e5]
      · rw [HRE.out]
        refine ⟨p2, by rw [HTE.out], ?_, HE.out⟩
        refine (HD6.out.keep (aq _ w.heap.size _ _ _ _ _ _) ?_).mono (fun b _ e => by omega)
        rintro b rfl
        exact ⟨fun e => by omega, ax HA6.out (by decide)⟩
     | cont S2 =>
      rw [hpf] at hres
      obtain ⟨fs3, R3, rc3, d3, p3, hfs3, rfl, hp3, k6⟩ := hres
      have hrun : Run s.data.toList S2 ((j + t.len : Nat) : Int) r := by have h1 := HPUT.out; rw [hpf] at h1; exact h1
      have hA6 := ac (k6.heap HA4.out (by omega)) (.cells (rwC d3.k d3.c d3.neg p3.A p3.n p3.cp d3.t p3.B p3.m p3.cap) 27)
      have hKx := (HK4.out.into k6 (fun b e => by omega)).alloc (.cells (rwC d3.k d3.c d3.neg p3.A p3.n p3.cp d3.t p3.B p3.m p3.cap) 27)
      have HN := hid (show OnS s.data.toList w r te fs3 R3 rc3 (w6.alloc (.cells (rwC d3.k d3.c d3.neg p3.A p3.n p3.cp d3.t p3.B p3.m p3.cap) 27)) from ⟨by rw [hfs3, HTE.out]; exact hrun, hp3.keep0 (kR.alloc _), by rw [hfs3]; exact pe HOKS.out HI0.out (by rw [HTE.out]; exact HLT.out) S2 hpf, hA6, hKx⟩)
      clear k6 hpf hrun hA6 hKx hp3 hfs3
      try dsimp only
      go_wp2_with fail
      go_roundw
      case rel => exact ⟨te, fs3, R3, rc3, rfl, HN.out⟩
      case measure =>
       have h1 := HLT.out
       have h2 := HT3.out
       have h3 := HI0.out
       have h4 := HTE.out
       have h5 := HZ.out
       simp only [intOf]
       omega
def gX (r : Got) (w : World) (e : Ending) (w' : World) : Prop :=
 match r with
 | .ok (d, n) => ∃ p : PV, e = .returned (.tuple #[bT d p, .int .i64 (n : Int), .int .i64 0, .int .i64 0]) /\ au (fun b => w.heap.size <= b) w' d p /\ K0 w w'
 | .error (q, c) => e = .returned (.tuple #[.agg (rwC 0 0 false none 0 0 ⟨#[]⟩ none 0 0), .int .i64 0, .int .i64 (q : Int), .int .i64 (c : Int)]) /\ K0 w w'
theorem qF (s : ByteArray) (at_ : Int) (d : Raw) (n : Nat) (hr : dh s.data.toList at_ (.ok (d, n))) (w : World) (hT : Tabs w) : Calls Tryz.prog 18 #[.string s, .int .i64 at_] w (gX (.ok (d, n)) w) := by
 have HB := hid (hN w (.cells (rwC 0 0 false none 0 0 ⟨#[]⟩ none 0 0) 27))
 have HK0 := hid (show K0 w (w.alloc (.cells (rwC 0 0 false none 0 0 ⟨#[]⟩ none 0 0) 27)) from kR.alloc _)
 have HC := hid (mN s at_ _ hr (w.alloc (.cells (rwC 0 0 false none 0 0 ⟨#[]⟩ none 0 0) 27)) (hT.keep HK0.out))
 clear hr hT
 go_enter Tryz.func18, Tryz.ntmps18
 go_wp2_with fail
 refine HC.out.mono ?_
 rintro e w2 ⟨pd, rfl, hd, k2⟩
 have HB2 := hid (k2.heap HB.out id)
 have HK2 := hid (HK0.out.trans k2)
 have HB4 := hid (show ((aE w2 w.heap.size (.int .i64 d.k) (.int .i32 d.c) (.bool d.neg) (.slice pd.A pd.n pd.cp) (.string d.t) (.slice pd.B pd.m pd.cap)).alloc (.cells #[.pointer none] 77)).heap[w.heap.size]? = some (.cells (rwC d.k d.c d.neg pd.A pd.n pd.cp d.t pd.B pd.m pd.cap) 27 (0, 0)) from ac (aQ HB2.out _ _ _ _ _ _) _)
 have HK4 := hid (show K0 w ((aE w2 w.heap.size (.int .i64 d.k) (.int .i32 d.c) (.bool d.neg) (.slice pd.A pd.n pd.cp) (.string d.t) (.slice pd.B pd.m pd.cap)).alloc (.cells #[.pointer none] 77)) from (bN HK2.out (Nat.le_refl _) (.int .i64 d.k) (.int .i32 d.c) (.bool d.neg) (.slice pd.A pd.n pd.cp) (.string d.t) (.slice pd.B pd.m pd.cap)).alloc _)
 have HD4 := hid (show au (fun b => w.heap.size <= b /\ b ≠ w.heap.size) ((aE w2 w.heap.size (.int .i64 d.k) (.int .i32 d.c) (.bool d.neg) (.slice pd.A pd.n pd.cp) (.string d.t) (.slice pd.B pd.m pd.cap)).alloc (.cells #[.pointer none] 77)) d pd from (hd.keep ((aq w2 w.heap.size (.int .i64 d.k) (.int .i32 d.c) (.bool d.neg) (.slice pd.A pd.n pd.cp) (.string d.t) (.slice pd.B pd.m pd.cap)).alloc _) (by
  rintro b rfl
  exact ⟨fun e => by have e : (w.alloc (.cells (rwC 0 0 false none 0 0 ⟨#[]⟩ none 0 0) 27)).heap.size <= w.heap.size := e; rw [World.size_alloc] at e; omega, ax HB2.out (by decide)⟩)).mono (fun b _ e => by have e : (w.alloc (.cells (rwC 0 0 false none 0 0 ⟨#[]⟩ none 0 0) 27)).heap.size <= b := e; rw [World.size_alloc] at e; exact ⟨by omega, by omega⟩))
 have HE := hid (bN HK4.out (Nat.le_refl _) (.int .i64 d.k) (.int .i32 d.c) (.bool d.neg) (.slice pd.A pd.n pd.cp) (.string d.t) (.slice pd.B pd.m pd.cap))
 have HR := hid (ab (aQ HB4.out (.int .i64 d.k) (.int .i32 d.c) (.bool d.neg) (.slice pd.A pd.n pd.cp) (.string d.t) (.slice pd.B pd.m pd.cap))).1
 obtain ⟨⟨c0, c1, c2, c3, c4, c5⟩, f0, f1, f2, f3, f4, f5⟩ := ab HB2.out
 have HN := hid (show au (fun b => w.heap.size <= b) (aE ((aE w2 w.heap.size (.int .i64 d.k) (.int .i32 d.c) (.bool d.neg) (.slice pd.A pd.n pd.cp) (.string d.t) (.slice pd.B pd.m pd.cap)).alloc (.cells #[.pointer none] 77)) w.heap.size (.int .i64 d.k) (.int .i32 d.c) (.bool d.neg) (.slice pd.A pd.n pd.cp) (.string d.t) (.slice pd.B pd.m pd.cap)) d pd from (HD4.out.keep (aq _ _ (.int .i64 d.k) (.int .i32 d.c) (.bool d.neg) (.slice pd.A pd.n pd.cp) (.string d.t) (.slice pd.B pd.m pd.cap)) (by
  rintro b rfl
  exact ⟨fun e => e.2 rfl, ax HB4.out (by decide)⟩)).mono (fun b _ e => e.1))
 clear hd k2
 try dsimp only
 go_wp2_with fail
 refine (Asparse.as_nil _ _).mono ?_
 rintro e w3 ⟨rfl, hw⟩
 rw [hw] at HB4 HK4 HE HR HN
 clear hw c0 c1 c2 c3 c4 c5 f0 f1 f2 f3 f4 f5
 obtain ⟨⟨c0, c1, c2, c3, c4, c5⟩, f0, f1, f2, f3, f4, f5⟩ := ab HB4.out
 try dsimp only
 go_wp2_with fail
 refine bodyPost_ret (v := .tuple #[.agg (rwC d.k d.c d.neg pd.A pd.n pd.cp d.t pd.B pd.m pd.cap), .int .i64 (n : Int), .int .i64 0, .int .i64 0]) ?_ rfl ?_
 · obtain ⟨e0, e1, e2, e3, e4, e5⟩ := HR.out
   simp [results, Tryz.results18, go_sem, e0, e1, e2, e3, e4, e5]
 · exact ⟨pd, rfl, HN.out, HE.out⟩
theorem ph (s : ByteArray) (at_ : Int) (p c : Nat) (hr : dh s.data.toList at_ (.error (p, c))) (w : World) (hT : Tabs w) : Calls Tryz.prog 18 #[.string s, .int .i64 at_] w (gX (.error (p, c)) w) := by
 have HB := hid (hN w (.cells (rwC 0 0 false none 0 0 ⟨#[]⟩ none 0 0) 27))
 have HK0 := hid (show K0 w (w.alloc (.cells (rwC 0 0 false none 0 0 ⟨#[]⟩ none 0 0) 27)) from kR.alloc _)
 have HC := hid (mN s at_ _ hr (w.alloc (.cells (rwC 0 0 false none 0 0 ⟨#[]⟩ none 0 0) 27)) (hT.keep HK0.out))
 have HT := hid hT
 clear hr hT
 go_enter Tryz.func18, Tryz.ntmps18
 go_wp2_with fail
 refine HC.out.mono ?_
 rintro e w2 ⟨v, rfl, he, k2⟩
 have HB2 := hid (k2.heap HB.out id)
 have HK2 := hid (HK0.out.trans k2)
 obtain ⟨A, B, what, rfl, hB, hA⟩ := he
 have nB : B ≠ w.heap.size := by
  rintro rfl
  exact absurd (cQ hB HB2.out) (by decide)
 have nA : A ≠ w.heap.size := by
  rintro rfl
  exact absurd (cQ hA HB2.out) (by decide)
 have HB4 := hid (show ((aE w2 w.heap.size (.int .i64 0) (.int .i32 0) (.bool false) (.slice none 0 0) (.string ⟨#[]⟩) (.slice none 0 0)).alloc (.cells #[.pointer none] 77)).heap[w.heap.size]? = some (.cells (rwC 0 0 false none 0 0 ⟨#[]⟩ none 0 0) 27 (0, 0)) from ac (aQ HB2.out _ _ _ _ _ _) _)
 have HK4 := hid (show K0 w ((aE w2 w.heap.size (.int .i64 0) (.int .i32 0) (.bool false) (.slice none 0 0) (.string ⟨#[]⟩) (.slice none 0 0)).alloc (.cells #[.pointer none] 77)) from (bN HK2.out (Nat.le_refl _) (.int .i64 0) (.int .i32 0) (.bool false) (.slice none 0 0) (.string ⟨#[]⟩) (.slice none 0 0)).alloc _)
 have HA4 := hid (show ((aE w2 w.heap.size (.int .i64 0) (.int .i32 0) (.bool false) (.slice none 0 0) (.string ⟨#[]⟩) (.slice none 0 0)).alloc (.cells #[.pointer none] 77)).heap[A]? = some (.cells #[.int .i64 (p : Int), .int .i64 (c : Int)] 80 (0, 0)) from ac (dQ hA nA _ _ _ _ _ _) _)
 have hB4 : ((aE w2 w.heap.size (.int .i64 0) (.int .i32 0) (.bool false) (.slice none 0 0) (.string ⟨#[]⟩) (.slice none 0 0)).alloc (.cells #[.pointer none] 77)).heap[B]? = some (.cells #[.string what, .iface 77 (.pointer (some ⟨A, 0, none⟩))] 166 (0, 0)) := ac (dQ hB nB _ _ _ _ _ _) _
 have ht4 : ((aE w2 w.heap.size (.int .i64 0) (.int .i32 0) (.bool false) (.slice none 0 0) (.string ⟨#[]⟩) (.slice none 0 0)).alloc (.cells #[.pointer none] 77)).heap[w2.heap.size]? = some (.cells #[.pointer none] 77 (0, 0)) := by
  have := hN (aE w2 w.heap.size (.int .i64 0) (.int .i32 0) (.bool false) (.slice none 0 0) (.string ⟨#[]⟩) (.slice none 0 0)) (.cells #[.pointer none] 77)
  rwa [fw] at this
 have HL := hid (show w.heap.size < w2.heap.size /\ A < w2.heap.size from ⟨ao HB2.out, ao hA⟩)
 have HCA := hid (Asparse.as_hit A B w2.heap.size what (.pointer none) #[] ((aE w2 w.heap.size (.int .i64 0) (.int .i32 0) (.bool false) (.slice none 0 0) (.string ⟨#[]⟩) (.slice none 0 0)).alloc (.cells #[.pointer none] 77)) (HT.out.keep HK4.out).err hB4 ht4)
 obtain ⟨⟨c0, c1, c2, c3, c4, c5⟩, f0, f1, f2, f3, f4, f5⟩ := ab HB2.out
 have hsz : (aE w2 w.heap.size (.int .i64 0) (.int .i32 0) (.bool false) (.slice none 0 0) (.string ⟨#[]⟩) (.slice none 0 0)).heap.size = w2.heap.size := fw _ _ _ _ _ _ _ _
 have HNA := hid nA
 clear hA hB hB4 ht4 k2 nA nB
 try dsimp only
 go_wp2_with fail
 refine HCA.out.mono ?_
 rintro e w5 ⟨rfl, htb, k5⟩
 have hA5 := k5.heap HA4.out (by have := HL.out.2; omega)
 have HB5 := hid (k5.heap HB4.out (by have := HL.out.1; omega))
 have HK5 := hid (HK4.out.into k5 (by rintro i rfl; have := HL.out.1; omega))
 have g0 : w5.cell? ⟨w2.heap.size, 0, none⟩ = some (.pointer (some ⟨A, 0, none⟩)) := by rw [cell_of_row w5 _ _ _ _ _ htb]; rfl
 have g1 : w5.cell? ⟨A, 0, none⟩ = some (.int .i64 (p : Int)) := by rw [cell_of_row w5 _ _ _ _ _ hA5]; rfl
 have g2 : w5.cell? ⟨A, 1, none⟩ = some (.int .i64 (c : Int)) := by rw [cell_of_row w5 _ _ _ _ _ hA5]; rfl
 clear c0 c1 c2 c3 c4 c5 f0 f1 f2 f3 f4 f5 hsz
 obtain ⟨⟨c0, c1, c2, c3, c4, c5⟩, f0, f1, f2, f3, f4, f5⟩ := ab HB5.out
 have HE := hid (bN HK5.out (Nat.le_refl _) (.int .i64 0) (.int .i32 0) (.bool false) (.slice none 0 0) (.string ⟨#[]⟩) (.slice none 0 0))
 have HR := hid (ab (aQ HB5.out (.int .i64 0) (.int .i32 0) (.bool false) (.slice none 0 0) (.string ⟨#[]⟩) (.slice none 0 0))).1
 have n2 : ¬ w2.heap.size = w.heap.size := by have := HL.out.1; omega
 have n1 : ¬ A = w.heap.size := HNA.out
 clear hA5 htb k5
 try dsimp only
 go_wp2_with fail
 have ks := aq w5 w.heap.size (.int .i64 0) (.int .i32 0) (.bool false) (.slice none 0 0) (.string ⟨#[]⟩) (.slice none 0 0)
 have p0 := (ks.cell (p := ⟨w2.heap.size, 0, none⟩) (bL w5 _ g0) n2).trans g0
 have p1 := (ks.cell (p := ⟨A, 0, none⟩) (bL w5 _ g1) n1).trans g1
 have p2 := (ks.cell (p := ⟨A, 1, none⟩) (bL w5 _ g2) n1).trans g2
 dsimp only [aE] at p0 p1 p2
 clear ks
 generalize hB0 : w.heap.size = B0 at *
 generalize w2.heap.size = B2 at *
 go_big_region
 go_wp2_with fail
 refine bodyPost_ret (v := .tuple #[.agg (rwC 0 0 false none 0 0 ⟨#[]⟩ none 0 0), .int .i64 0, .int .i64 (p : Int), .int .i64 (c : Int)]) ?_ rfl ?_
 · obtain ⟨e0, e1, e2, e3, e4, e5⟩ := HR.out
   simp [results, Tryz.results18, go_sem, e0, e1, e2, e3, e4, e5]
 · exact ⟨rfl, HE.out.drew⟩
theorem iV (s : ByteArray) (at_ : Int) (r : Got) (hr : dh s.data.toList at_ r) (w : World) (hT : Tabs w) : Calls Tryz.prog 18 #[.string s, .int .i64 at_] w (gX r w) := by
 cases r with
 | ok x => obtain ⟨d, n⟩ := x; exact qF s at_ d n hr w hT
 | error x => obtain ⟨p, c⟩ := x; exact ph s at_ p c hr w hT
theorem pi (s : ByteArray) (ds : List Raw) (q c : Nat) (w : World) (hT : Tabs w) (h : dM s.data.toList 0 ds q c) : Calls Tryz.prog 23 #[.string s] w (eD ds q c w) := by
 have HZ := hid (show s.data.toList.length = s.size from (Lib.size_eq s).symm)
 have HON := hid (fun (i : Nat) (r : Got) (hr : dh s.data.toList (i : Int) r) (W : World) (K : K0 w W) => iV s (i : Int) r hr W (hT.keep K))
 have HST := hid (show kt w s.data.toList ds q c 0 0 [] ds none 0 w from ⟨rfl, h, rfl, ⟨rfl, .inl ⟨rfl, rfl⟩⟩, fun y hy => absurd hy (by simp), kR, Nat.zero_le _, Nat.zero_le _⟩)
 obtain ⟨l, hl⟩ : ∃ l, l = s.data.toList := ⟨_, rfl⟩
 rw [<- hl] at HZ HON HST
 clear hl h hT
 obtain ⟨i27, h27, hz0, hz1, hz2⟩ := info_parts gQ
 go_enter Tryz.func23, Tryz.ntmps23
 go_wp2_with fail
 go_loopw [2, 5] (fun lv iv wr => ∃ (i n cap : Nat) (xs : List (Raw × PV)) (rest : List Raw) (A : Option Addr), lv = .slice A n cap /\ iv = .int .i64 (i : Int) /\ kt w l ds q c i n xs rest A cap wr) (fun _ iv _ => s.size + 1 - (intOf iv).toNat)
 case atStart => exact ⟨0, 0, 0, [], ds, none, rfl, rfl, HST.out⟩
 case round =>
  obtain ⟨i, n, cap, xs, rest, A, rfl, rfl, hst⟩ := hrel
  have HS := hid hst
  have hcap := cT hst.own
  have hdt := hst.data
  clear hst HST
  go_wp2_with fail
  obtain ⟨hon, hc19, hr⟩ | ⟨p, hon, hr, hq, hc⟩ | ⟨d, en, us, hon, hr, hdt2⟩ := hdt.inv
  · refine (HON.out i _ hon _ HS.out.K).mono ?_
    rintro e w2 ⟨rfl, k2⟩
    obtain ⟨pp, hpp⟩ : ∃ z : Int, z = (q : Int) := ⟨_, rfl⟩
    obtain ⟨cc, hcc⟩ : ∃ z : Int, z = (c : Int) := ⟨_, rfl⟩
    have g1 : (cc == 19) = false := by rw [hcc]; simp; omega
    have g2 : (cc != 0) = true := by rw [hcc]; have := hon.code; simp; omega
    rw [<- hpp, <- hcc]
    subst hr
    have hf := HS.out.fin (k2.alloc (.cells (rwC 0 0 false none 0 0 ⟨#[]⟩ none 0 0) 27))
    rw [<- hpp, <- hcc] at hf
    have HF := hid hf
    clear hon hc19 hdt k2 hpp hcc hf
    try dsimp only
    go_wp2_with fail
    refine bodyPost_ret (v := .tuple #[.slice A n cap, .int .i64 pp, .int .i64 cc]) (by simp [results, Tryz.results23, go_sem]) rfl HF.out
  · refine (HON.out i _ hon _ HS.out.K).mono ?_
    rintro e w2 ⟨rfl, k2⟩
    have g1 : ((19 : Int) == 19) = true := by decide
    subst hr hq hc
    have HF := hid (HS.out.fin (k2.alloc (.cells (rwC 0 0 false none 0 0 ⟨#[]⟩ none 0 0) 27)))
    clear hon hdt k2
    try dsimp only
    go_wp2_with fail
    exact bodyPost_ret (v := .tuple #[.slice A n cap, .int .i64 0, .int .i64 0]) (by simp [results, Tryz.results23, go_sem]) rfl HF.out
  · refine (HON.out i _ hon _ HS.out.K).mono ?_
    intro e w2 hres
    obtain ⟨pd, he, hd2, k2⟩ := hres
    subst he
    have hends := hon.ends
    have hln := hon.lim
    have g1 : ((0 : Int) == 19) = false := by decide
    have g2 : ((0 : Int) != 0) = false := by decide
    have HE3 := hid (show i < en /\ en <= s.size /\ en <= 4096 by rw [<- HZ.out]; omega)
    have hn4 : n <= 4096 := HS.out.l4
    have K6 := hid ((k2.alloc (.cells (rwC d.k d.c d.neg pd.A pd.n pd.cp d.t pd.B pd.m pd.cap) 27)).alloc (.cells (rwC d.k d.c d.neg pd.A pd.n pd.cp d.t pd.B pd.m pd.cap) 27))
    have HOWN := hid (bH HS.out.own K6.out (fun _ _ => id))
    have HNEW := hid (fU (show ((w2.alloc (.cells (rwC d.k d.c d.neg pd.A pd.n pd.cp d.t pd.B pd.m pd.cap) 27)).alloc (.cells (rwC d.k d.c d.neg pd.A pd.n pd.cp d.t pd.B pd.m pd.cap) 27)).heap[w2.heap.size + 1]? = _ from by have := hN (w2.alloc (.cells (rwC d.k d.c d.neg pd.A pd.n pd.cp d.t pd.B pd.m pd.cap) 27)) (.cells (rwC d.k d.c d.neg pd.A pd.n pd.cp d.t pd.B pd.m pd.cap) 27); rwa [World.size_alloc] at this))
    have HBASE := hid (show w.heap.size <= ((w2.alloc (.cells (rwC d.k d.c d.neg pd.A pd.n pd.cp d.t pd.B pd.m pd.cap) 27)).alloc (.cells (rwC d.k d.c d.neg pd.A pd.n pd.cp d.t pd.B pd.m pd.cap) 27)).heap.size from (HS.out.K.trans K6.out).size)
    have HD6 := hid (show au (fun b => wr.heap.size <= b) ((w2.alloc (.cells (rwC d.k d.c d.neg pd.A pd.n pd.cp d.t pd.B pd.m pd.cap) 27)).alloc (.cells (rwC d.k d.c d.neg pd.A pd.n pd.cp d.t pd.B pd.m pd.cap) 27)) d pd from hd2.keep0 ((kR.alloc _).alloc _))
    have HT2 := hid (And.intro hr hdt2)
    obtain ⟨⟨y0, y1, y2, y3, y4, y5⟩, _⟩ := ab (hN w2 (.cells (rwC d.k d.c d.neg pd.A pd.n pd.cp d.t pd.B pd.m pd.cap) 27))
    clear hon hr hdt hdt2 hd2 hends hln k2
    try dsimp only
    go_wp2_with (at_builtin; refine wpList_append_own_at _ rfl (.tmp 28) (.tmp 30) 25 rfl w.heap.size 27 i27 (.agg (rwC 0 0 false none 0 0 ⟨#[]⟩ none 0 0)) 6 88 Tryz.underlying25 h27 hz0 hz1 hz2 rfl (by decide) _ _ _ rfl HOWN.out ⟨w2.heap.size + 1, 0, none⟩ 1 1 [.int .i64 d.k, .int .i32 d.c, .bool d.neg, .slice pd.A pd.n pd.cp, .string d.t, .slice pd.B pd.m pd.cap] rfl rfl HNEW.out ?a1 ?a2 ?a3 HBASE.out ?_)
    case a1 => intro u hu; simp only [List.mem_cons, List.not_mem_nil, or_false] at hu; rcases hu with rfl | rfl | rfl | rfl | rfl | rfl <;> rfl
    case a2 => unfold maxLen; omega
    case a3 => omega
    intro v' w6 hown hgrow _ hblk
    obtain ⟨A3, c3, rfl, HM⟩ := HS.out.item K6.out HT2.out.1 HT2.out.2 HE3.out.1 HE3.out.2.2 HD6.out hown hgrow (by rw [World.size_alloc, World.size_alloc]; exact hblk)
    have HMM := hid HM
    clear y0 y1 y2 y3 y4 y5 hown hgrow HM hblk
    go_wp2_with fail
    go_roundw
    case rel => exact ⟨en, n + 1, c3, _, us, A3, rfl, rfl, HMM.out⟩
    case measure => have := HE3.out; simp only [intOf]; omega
def aw1 : List UInt8 := [40, 97, 32, 46, 32, 40, 98, 32, 91, 99, 93, 41, 41]
def aw2 : List UInt8 := [39, 40, 49, 32, 44, 120, 41]
theorem n10 : aH aw1 0 = .ok (0, ⟨1, 1, false, .no⟩) := by kernel_rfl
theorem n11 : aH aw1 1 = .ok (1, ⟨9, 1, false, .sym [97]⟩) := by kernel_rfl
theorem n12 : aH aw1 2 = .ok (3, ⟨8, 1, false, .no⟩) := by kernel_rfl
theorem n14 : aH aw1 4 = .ok (5, ⟨1, 1, false, .no⟩) := by kernel_rfl
theorem n16 : aH aw1 6 = .ok (6, ⟨9, 1, false, .sym [98]⟩) := by kernel_rfl
theorem n17 : aH aw1 7 = .ok (8, ⟨1, 1, true, .no⟩) := by kernel_rfl
theorem n19 : aH aw1 9 = .ok (9, ⟨9, 1, false, .sym [99]⟩) := by kernel_rfl
theorem n1a : aH aw1 10 = .ok (10, ⟨2, 1, true, .no⟩) := by kernel_rfl
theorem n1b : aH aw1 11 = .ok (11, ⟨2, 1, false, .no⟩) := by kernel_rfl
theorem n1c : aH aw1 12 = .ok (12, ⟨2, 1, false, .no⟩) := by kernel_rfl
theorem n20 : aH aw2 0 = .ok (0, ⟨4, 1, false, .no⟩) := by kernel_rfl
theorem n21 : aH aw2 1 = .ok (1, ⟨1, 1, false, .no⟩) := by kernel_rfl
theorem n22 : aH aw2 2 = .ok (2, ⟨9, 1, false, .int 1⟩) := by kernel_rfl
theorem n23 : aH aw2 3 = .ok (4, ⟨6, 1, false, .no⟩) := by kernel_rfl
theorem n25 : aH aw2 5 = .ok (5, ⟨9, 1, false, .sym [120]⟩) := by kernel_rfl
theorem n26 : aH aw2 6 = .ok (6, ⟨2, 1, false, .no⟩) := by kernel_rfl
abbrev rM : Raw := bB (.sym [97])
abbrev ry : Raw := cC [bB (.sym [98]), cC [bB (.sym [99])] .nil] .nil
theorem rh : dh aw1 0 (.ok (dr rM ry, 13)) := by
 have bg : ∀ (k n : Nat) (q : Bool) (d : fk), k = 1 \/ k = 9 -> (⟨k, n, q, d⟩ : Tk).beg := fun k n q d h => by rcases h with h | h <;> subst h <;> exact ⟨by simp, by simp, by simp⟩
 refine .frm n10 (bg _ _ _ _ (.inl rfl)) (.opn rfl (by decide) ?_)
 refine .itemOk n11 (bg _ _ _ _ (.inr rfl)) rfl (.datum rfl) ?_
 refine .dotOk n12 rfl rfl (by simp) ?_
 refine .tailOk n14 (bg _ _ _ _ (.inl rfl)) rfl (.opn rfl (by decide) ?_) (.lstOk n1c rfl rfl (by decide))
 refine .itemOk n16 (bg _ _ _ _ (.inr rfl)) rfl (.datum rfl) ?_
 refine .itemOk n17 (bg _ _ _ _ (.inl rfl)) rfl (.opn rfl (by decide) ?_) (.lstOk n1b rfl rfl (by decide))
 exact .itemOk n19 (bg _ _ _ _ (.inr rfl)) rfl (.datum rfl) (.lstOk n1a rfl rfl (by decide))
abbrev mJ : Raw := dr (cC [bB (.int 1), gL 6 (bB (.sym [120]))] .nil) .nil
theorem rg : dh aw2 0 (.ok (dr (bB (.sym (ca 4))) mJ, 7)) := by
 have bg : ∀ (k n : Nat) (q : Bool) (d : fk), k = 1 \/ k = 9 \/ k = 4 \/ k = 6 -> (⟨k, n, q, d⟩ : Tk).beg := fun k n q d h => by rcases h with h | h | h | h <;> subst h <;> exact ⟨by simp, by simp, by simp⟩
 refine .frm n20 (bg _ _ _ _ (.inr (.inr (.inl rfl)))) (.markOk (d := cC [bB (.int 1), gL 6 (bB (.sym [120]))] .nil) (by decide) (by decide) n21 (bg _ _ _ _ (.inl rfl)) (.opn rfl (by decide) ?_))
 refine .itemOk n22 (bg _ _ _ _ (.inr (.inl rfl))) rfl (.datum rfl) ?_
 refine .itemOk n23 (bg _ _ _ _ (.inr (.inr (.inr rfl)))) rfl (.markOk (by decide) (by decide) n25 (bg _ _ _ _ (.inr (.inl rfl))) (.datum rfl)) ?_
 exact .lstOk n26 rfl rfl (by decide)
theorem iU {N P : Nat -> Prop} {w : World} {a d : Raw} {p : PV} (h : bo N P w (dr a d) p) : p.m = 2 /\ ∃ b off, p.B = some ⟨b, off, none⟩ /\ b < w.heap.size /\ w.cell? ⟨b, off + 4, none⟩ = some (.string a.t) := by
 obtain ⟨b, off, v, e, _, hi, _⟩ := h.items 0 (by show 0 < 2; omega)
 have h5 := hi.cells.2.2.2.2.1
 simp only [Nat.zero_mul, Nat.add_zero] at h5
 exact ⟨h.len.symm, b, off, e, bL w _ h5, h5⟩
theorem mc (w : World) (hT : Tabs w) : Calls Tryz.prog 21 #[] w (BoolPost true w) := by
 have HC := hid (fun (W : World) (K : K0 w W) => iV ⟨aw1.toArray⟩ 0 _ (show dh (⟨aw1.toArray⟩ : ByteArray).data.toList 0 _ from rh) W (hT.keep K))
 have HD := hid (fun (W : World) (K : K0 w W) => iV ⟨aw2.toArray⟩ 0 _ (show dh (⟨aw2.toArray⟩ : ByteArray).data.toList 0 _ from rg) W (hT.keep K))
 clear hT
 go_enter Tryz.func21, Tryz.ntmps21
 go_wp2_with fail
 refine (HC.out _ kR).mono ?_
 rintro e w2 ⟨p, rfl, hd, k2⟩
 obtain ⟨A, n, cp, B, m, cap⟩ := p
 obtain ⟨hm, b, off, hB, hb, hc⟩ := iU hd
 have hm : m = 2 := hm
 have hB : B = some ⟨b, off, none⟩ := hB
 subst hm hB
 have hce : rM.t = ⟨#[97]⟩ := rfl
 rw [hce] at hc
 have HK2 := hid k2
 have HC2 := hid hc
 have HB2 := hid (hN w2 (.cells (il (dr rM ry) ⟨A, n, cp, some ⟨b, off, none⟩, 2, cap⟩) 27))
 clear hd k2 hc hb hce
 try dsimp only
 go_wp2_with fail
 refine (HD.out _ (HK2.out.alloc _)).mono ?_
 rintro e w4 ⟨p, rfl, hd, k4⟩
 obtain ⟨A2, n2, cp2, B2, m2, cap2⟩ := p
 obtain ⟨hm, b2, off2, hB, hb, hc⟩ := iU hd
 have hm : m2 = 2 := hm
 have hB : B2 = some ⟨b2, off2, none⟩ := hB
 subst hm hB
 have hce : (bB (.sym (ca 4))).t = ⟨#[113, 117, 111, 116, 101]⟩ := rfl
 rw [hce] at hc
 have K24 : K0 w2 w4 := (kR.alloc _).trans k4
 have K5 : K0 w4 (w4.alloc (.cells (il (dr (bB (.sym (ca 4))) mJ) ⟨A2, n2, cp2, some ⟨b2, off2, none⟩, 2, cap2⟩) 27)) := kR.alloc _
 have x1 : (w4.alloc (.cells (il (dr (bB (.sym (ca 4))) mJ) ⟨A2, n2, cp2, some ⟨b2, off2, none⟩, 2, cap2⟩) 27)).cell? ⟨b, off + 4, none⟩ = some (.string ⟨#[97]⟩) := ((K24.trans K5).cell (p := ⟨b, off + 4, none⟩) (bL w2 _ HC2.out) id).trans HC2.out
 have x2 : (w4.alloc (.cells (il (dr (bB (.sym (ca 4))) mJ) ⟨A2, n2, cp2, some ⟨b2, off2, none⟩, 2, cap2⟩) 27)).cell? ⟨b2, off2 + 4, none⟩ = some (.string ⟨#[113, 117, 111, 116, 101]⟩) := (K5.cell (p := ⟨b2, off2 + 4, none⟩) hb id).trans hc
 obtain ⟨⟨y0, y1, y2, y3, y4, y5⟩, _⟩ := ab ((k4.trans K5).heap HB2.out id)
 have HK5 := hid ((HK2.out.trans K24).trans K5)
 clear hd k4 hc hb hce K24 K5
 try dsimp only
 go_wp2_with fail
 go_ret
 exact ⟨rfl, HK5.out⟩
structure gW (N P : Nat -> Prop) (w : World) (A : Option Addr) (n : Nat) (ds : List Raw) (vs : Nat -> PV) : Prop where
 len : ds.length = n
 row : 0 < n -> ∃ b off, A = some ⟨b, off, none⟩ /\ ∀ i (h : i < ds.length), dL w b off i ds[i] (vs i)
 ch : ∀ i (h : i < ds.length), bo N P w ds[i] (vs i)
theorem gW.keep0 {N P : Nat -> Prop} {w w' : World} {A : Option Addr} {n : Nat} {ds : List Raw} {vs : Nat -> PV} (h : gW N P w A n ds vs) (K : K0 w w') : gW N P w' A n ds vs :=
 ⟨h.len, fun hm => by obtain ⟨b, off, e, hr⟩ := h.row hm; exact ⟨b, off, e, fun i hi => (hr i hi).keep K id⟩, fun i hi => (h.ch i hi).keep0 K⟩
noncomputable def eqL (ds es : List Raw) : Bool := @decide (ds = es) (Classical.propDecidable _)
theorem lm {ds es : List Raw} (h : ds = es) : eqL ds es = true := by unfold eqL; simp [h]
theorem jH {ds es : List Raw} (h : ds ≠ es) : eqL ds es = false := by unfold eqL; simp [h]
theorem jT {N P N' P' : Nat -> Prop} {w : World} {A : Option Addr} {n cap : Nat} {ds : List Raw} {vs : Nat -> PV} {A' : Option Addr} {n' cap' : Nat} {es : List Raw} {us : Nat -> PV} (h : gW N P w A n ds vs) (h' : gW N' P' w A' n' es us) (hn : n <= 100000) :
 Calls Tryz.prog 25 #[.slice A n cap, .slice A' n' cap'] w (BoolPost (eqL ds es) w) := by
 have H := hid h
 have H' := hid h'
 by_cases hl : n = n'
 · subst hl
   have hnn : ((n : Int) != (n : Int)) = false := by simp
   clear h h'
   go_enter Tryz.func25, Tryz.ntmps25
   go_wp2_with fail
   go_loopw [5] (fun iv wr => ∃ i : Nat, i <= n /\ iv = .int .i64 (i : Int) /\ K0 w wr /\ Hid (∀ j (h : j < ds.length) (h' : j < es.length), j < i -> ds[j] = es[j])) (fun iv _ => n - (intOf iv).toNat)
   case atStart => exact ⟨0, Nat.zero_le _, rfl, kR, hid (fun j _ _ hj => absurd hj (Nat.not_lt_zero j))⟩
   case round =>
    obtain ⟨i, hi, rfl, hK, HE⟩ := hrel
    have HK := hid hK
    clear hK
    by_cases hlt : i < n
    · have l1 : decide ((i : Int) < (n : Int)) = true := dT (by omega)
      have l2 : decide (i < n) = true := dT hlt
      have hiq : i < ds.length := by rw [H.out.len]; exact hlt
      have hie : i < es.length := by rw [H'.out.len]; exact hlt
      obtain ⟨b, off, eA, hr⟩ := H.out.row (by omega)
      obtain ⟨b', off', eA', hr'⟩ := H'.out.row (by omega)
      subst eA eA'
      have hic := (hr i hiq).keep HK.out id
      have hic' := (hr' i hie).keep HK.out id
      obtain ⟨x, hx⟩ : ∃ x, x = ds[i] := ⟨_, rfl⟩
      obtain ⟨y, hy⟩ : ∃ y, y = es[i] := ⟨_, rfl⟩
      obtain ⟨v, hv⟩ : ∃ v, v = vs i := ⟨_, rfl⟩
      obtain ⟨u, hu⟩ : ∃ u, u = us i := ⟨_, rfl⟩
      rw [<- hx, <- hv] at hic
      rw [<- hy, <- hu] at hic'
      obtain ⟨r0, r1, r2, r3, r4, r5⟩ := hic.cells
      obtain ⟨s0, s1, s2, s3, s4, s5⟩ := hic'.cells
      have HC := hid (fun (W : World) (K : K0 wr W) => (show Calls Tryz.prog 20 #[bT x v, bT y u] W (BoolPost (eqR x y) W) from by
       rw [hx, hy, hv, hu]
       exact nr ((H.out.ch i hiq).keep0 HK.out) _ _ W K (((H'.out.ch i hie).keep0 HK.out).keep0 K)))
      have HX := hid hx
      have HY := hid hy
      have HID := hid (And.intro hiq hie)
      have hi0 : (0 : Int) <= (i : Int) := Int.natCast_nonneg _
      have hi1 : (i : Int) < (n : Int) := by omega
      have HCL := hid (fun (w' : World) (K : K0 wr w') => (show w'.cell? ⟨b, off + i * 6, none⟩ = some (.int .i64 x.k) /\ w'.cell? ⟨b, off + i * 6 + 1, none⟩ = some (.int .i32 x.c) /\ w'.cell? ⟨b, off + i * 6 + 2, none⟩ = some (.bool x.neg) /\ w'.cell? ⟨b, off + i * 6 + 3, none⟩ = some (.slice v.A v.n v.cp) /\ w'.cell? ⟨b, off + i * 6 + 4, none⟩ = some (.string x.t) /\ w'.cell? ⟨b, off + i * 6 + 5, none⟩ = some (.slice v.B v.m v.cap) /\ w'.cell? ⟨b', off' + i * 6, none⟩ = some (.int .i64 y.k) /\ w'.cell? ⟨b', off' + i * 6 + 1, none⟩ = some (.int .i32 y.c) /\ w'.cell? ⟨b', off' + i * 6 + 2, none⟩ = some (.bool y.neg) /\ w'.cell? ⟨b', off' + i * 6 + 3, none⟩ = some (.slice u.A u.n u.cp) /\ w'.cell? ⟨b', off' + i * 6 + 4, none⟩ = some (.string y.t) /\ w'.cell? ⟨b', off' + i * 6 + 5, none⟩ = some (.slice u.B u.m u.cap) /\ K0 wr w' from ⟨(K.cell (p := ⟨b, off + i * 6, none⟩) (bL wr _ r0) id).trans r0, (K.cell (p := ⟨b, off + i * 6 + 1, none⟩) (bL wr _ r1) id).trans r1, (K.cell (p := ⟨b, off + i * 6 + 2, none⟩) (bL wr _ r2) id).trans r2, (K.cell (p := ⟨b, off + i * 6 + 3, none⟩) (bL wr _ r3) id).trans r3, (K.cell (p := ⟨b, off + i * 6 + 4, none⟩) (bL wr _ r4) id).trans r4, (K.cell (p := ⟨b, off + i * 6 + 5, none⟩) (bL wr _ r5) id).trans r5, (K.cell (p := ⟨b', off' + i * 6, none⟩) (bL wr _ s0) id).trans s0, (K.cell (p := ⟨b', off' + i * 6 + 1, none⟩) (bL wr _ s1) id).trans s1, (K.cell (p := ⟨b', off' + i * 6 + 2, none⟩) (bL wr _ s2) id).trans s2, (K.cell (p := ⟨b', off' + i * 6 + 3, none⟩) (bL wr _ s3) id).trans s3, (K.cell (p := ⟨b', off' + i * 6 + 4, none⟩) (bL wr _ s4) id).trans s4, (K.cell (p := ⟨b', off' + i * 6 + 5, none⟩) (bL wr _ s5) id).trans s5, K⟩))
      have HLL := hid (show x = y -> ∀ j (h : j < ds.length) (h' : j < es.length), j < i + 1 -> ds[j] = es[j] from fun e j h h' hj => by
       by_cases e2 : j = i
       · subst e2; rw [<- hx, <- hy]; exact e
       · exact HE.out j h h' (by omega))
      have HNE := hid (show x ≠ y -> ds ≠ es from fun hne e => hne (by subst e; rw [hx, hy]))
      clear hic hic' hr hr' HX HY hx hy hv hu HID hiq hie
      have Kd : K0 wr wr.drew := kR.drew
      go_wp2_with fail
      clear r0 r1 r2 r3 r4 r5 s0 s1 s2 s3 s4 s5
      by_cases hxy : x = y
      · have HC2 := hid (fun (w' : World) (K : K0 wr w') => (show Calls Tryz.prog 20 #[bT x v, bT y u] w' (BoolPost true w') from by have := HC.out w' K; rwa [i2.2 hxy] at this))
        have HN := hid (HLL.out hxy)
        clear hxy
        go_region_held3 (fun w' => w'.cell? ⟨b, off + i * 6, none⟩ = some (.int .i64 x.k) /\ w'.cell? ⟨b, off + i * 6 + 1, none⟩ = some (.int .i32 x.c) /\ w'.cell? ⟨b, off + i * 6 + 2, none⟩ = some (.bool x.neg) /\ w'.cell? ⟨b, off + i * 6 + 3, none⟩ = some (.slice v.A v.n v.cp) /\ w'.cell? ⟨b, off + i * 6 + 4, none⟩ = some (.string x.t) /\ w'.cell? ⟨b, off + i * 6 + 5, none⟩ = some (.slice v.B v.m v.cap) /\ w'.cell? ⟨b', off' + i * 6, none⟩ = some (.int .i64 y.k) /\ w'.cell? ⟨b', off' + i * 6 + 1, none⟩ = some (.int .i32 y.c) /\ w'.cell? ⟨b', off' + i * 6 + 2, none⟩ = some (.bool y.neg) /\ w'.cell? ⟨b', off' + i * 6 + 3, none⟩ = some (.slice u.A u.n u.cp) /\ w'.cell? ⟨b', off' + i * 6 + 4, none⟩ = some (.string y.t) /\ w'.cell? ⟨b', off' + i * 6 + 5, none⟩ = some (.slice u.B u.m u.cap) /\ K0 wr w')
         (first | exact HCL.out _ Kd | exact HCL.out _ (by assumption))
         ((go_at_call 20; go_split_ands; (with_reducible refine (HC2.out _ (by assumption)).mono ?_); rintro e w5 ⟨rfl, k5⟩; have K5 := ah.trans (by assumption) k5))
        have HK5 := hid (HK.out.trans K5)
        clear k5 K5 Kd
        try dsimp only
        go_wp2_with fail
        go_roundw
        case rel => exact ⟨i + 1, by omega, by go_num, HK5.out, HN⟩
        case measure => simp only [intOf]; omega
      · have HC2 := hid (fun (w' : World) (K : K0 wr w') => (show Calls Tryz.prog 20 #[bT x v, bT y u] w' (BoolPost false w') from by have := HC.out w' K; rwa [dt.2 hxy] at this))
        have HF := hid (HNE.out hxy)
        clear hxy
        go_region_held3 (fun w' => w'.cell? ⟨b, off + i * 6, none⟩ = some (.int .i64 x.k) /\ w'.cell? ⟨b, off + i * 6 + 1, none⟩ = some (.int .i32 x.c) /\ w'.cell? ⟨b, off + i * 6 + 2, none⟩ = some (.bool x.neg) /\ w'.cell? ⟨b, off + i * 6 + 3, none⟩ = some (.slice v.A v.n v.cp) /\ w'.cell? ⟨b, off + i * 6 + 4, none⟩ = some (.string x.t) /\ w'.cell? ⟨b, off + i * 6 + 5, none⟩ = some (.slice v.B v.m v.cap) /\ w'.cell? ⟨b', off' + i * 6, none⟩ = some (.int .i64 y.k) /\ w'.cell? ⟨b', off' + i * 6 + 1, none⟩ = some (.int .i32 y.c) /\ w'.cell? ⟨b', off' + i * 6 + 2, none⟩ = some (.bool y.neg) /\ w'.cell? ⟨b', off' + i * 6 + 3, none⟩ = some (.slice u.A u.n u.cp) /\ w'.cell? ⟨b', off' + i * 6 + 4, none⟩ = some (.string y.t) /\ w'.cell? ⟨b', off' + i * 6 + 5, none⟩ = some (.slice u.B u.m u.cap) /\ K0 wr w')
         (first | exact HCL.out _ Kd | exact HCL.out _ (by assumption))
         ((go_at_call 20; go_split_ands; (with_reducible refine (HC2.out _ (by assumption)).mono ?_); rintro e w5 ⟨rfl, k5⟩; have K5 := ah.trans (by assumption) k5))
        have HK5 := hid (HK.out.trans K5)
        clear k5 K5 Kd
        try dsimp only
        go_wp2_with fail
        go_ret
        rw [jH HF.out]
        exact ⟨rfl, HK5.out⟩
    · have l1 : decide ((i : Int) < (n : Int)) = false := dF (by omega)
      have l2 : decide (i < n) = false := dF hlt
      have HQ := hid (show ds = es from List.ext_getElem (by rw [H.out.len, H'.out.len]) (fun j h h' => HE.out j h h' (by have := H.out.len; omega)))
      go_wp2_with fail
      go_ret
      rw [lm HQ.out]
      exact ⟨rfl, HK.out⟩
 · have HF := hid (show ds ≠ es from fun e => hl (by rw [<- h.len, <- h'.len, e]))
   have hnn : ((n : Int) != (n' : Int)) = true := by simp; omega
   clear h h' hl
   go_enter Tryz.func25, Tryz.ntmps25
   go_wp2_with fail
   go_ret
   rw [jH HF.out]
   exact ⟨rfl, kR⟩
theorem eD.row {ds : List Raw} {q c : Nat} {w w' : World} {e : Ending} (h : eD ds q c w e w') : ∃ (A : Option Addr) (cap : Nat) (vs : Nat -> PV), e = .returned (.tuple #[.slice A ds.length cap, .int .i64 (q : Int), .int .i64 (c : Int)]) /\ gW (eC w') (fun b => w.heap.size <= b) w' A ds.length ds vs /\ K0 w w' /\ ds.length <= 4096 /\ ds.length <= cap := by
 obtain ⟨xs, A, cap, rfl, hx, hown, hit, K, h4⟩ := h
 refine ⟨A, cap, fun i => (xs.getD i (.nil, PV.none)).2, rfl, ⟨rfl, fun hm => ?_, fun i hi => ?_⟩, K, h4, cT hown⟩
 · obtain ⟨g, rfl, hg⟩ := d6 hown hm
   refine ⟨g, 0, rfl, fun i hi => ?_⟩
   have hi2 : i < xs.length := by rw [<- hx, List.length_map] at hi; exact hi
   have e1 : ds[i] = (xs[i]'hi2).1 := by simp only [<- hx, List.getElem_map]
   rw [e1, gD, gE hi2]
   exact eX hown hi2
 · have hi2 : i < xs.length := by rw [<- hx, List.length_map] at hi; exact hi
   have e1 : ds[i] = (xs[i]'hi2).1 := by simp only [<- hx, List.getElem_map]
   rw [e1, gD, gE hi2]
   exact (hit _ (List.getElem_mem hi2)).mono (fun b _ hb => hb.1)
theorem lawPAll (s : ByteArray) (w : World) (hT : Tabs w) : Calls Tryz.prog 7 #[.string s] w (BoolPost true w) := by
 obtain ⟨ds, q, c, hr⟩ := dM.ex s.data.toList
 have H1 := hid (fun (W : World) (K : K0 w W) => (pi s ds q c W (hT.keep K) hr).mono (fun _ _ h => eD.row h))
 have H2 := hid (fun (W : World) => (oS s ds q c W hr).mono (fun _ _ h => eD.row h))
 have HAW := hid (fun (W : World) (K : K0 w W) => mc W (hT.keep K))
 clear hT hr
 obtain ⟨n, hn⟩ : ∃ n, n = ds.length := ⟨_, rfl⟩
 rw [<- hn] at H1 H2
 clear hn
 obtain ⟨qq, hq⟩ : ∃ z : Int, z = (q : Int) := ⟨_, rfl⟩
 obtain ⟨cc, hc⟩ : ∃ z : Int, z = (c : Int) := ⟨_, rfl⟩
 rw [<- hq, <- hc] at H1 H2
 clear hq hc
 have eq : (qq == qq) = true := by simp
 have ec : (cc == cc) = true := by simp
 go_enter Tryz.func7, Tryz.ntmps7
 go_wp2_with fail
 refine (H1.out _ kR).mono ?_
 rintro e w2 ⟨A, cap, vs, rfl, hd, k2, hn4, hcap⟩
 have HD := hid hd
 have HK2 := hid k2
 clear hd k2
 try dsimp only
 go_wp2_with fail
 refine (H2.out _).mono ?_
 rintro e w4 ⟨A', cap', vs', rfl, hd', k4, _, hcap'⟩
 have HC := hid (jT (cap := cap) (cap' := cap') (HD.out.keep0 k4) hd' (by omega))
 rw [lm rfl] at HC
 have HK4 := hid (HK2.out.trans k4)
 clear hd' k4
 try dsimp only
 go_wp2_with fail
 refine HC.out.mono ?_
 rintro e w6 ⟨rfl, k6⟩
 have HK6 := hid (HK4.out.trans k6)
 clear k6
 try dsimp only
 go_wp2_with fail
 refine (HAW.out _ HK6.out).mono ?_
 rintro e w7 ⟨rfl, k7⟩
 have HK7 := hid (HK6.out.trans k7)
 clear k7
 try dsimp only
 go_wp2_with fail
 go_ret
 exact ⟨rfl, HK7.out⟩
end Go.Proofs.YtonnikipeokkaaaGreatDoor
