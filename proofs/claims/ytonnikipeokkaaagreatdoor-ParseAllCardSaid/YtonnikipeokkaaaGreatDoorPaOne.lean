import Derived.Test.YtonnikipeokkaaaGreatDoorPrVec
namespace Go.Proofs.YtonnikipeokkaaaGreatDoor
set_option maxRecDepth 100000
set_option maxHeartbeats 8000000
open Go.Lib (hid)
open Go.RowKit Go.Lib
theorem aO {a : Nat} {b : Nat} (h : a ≠ b) : ((a : Int) == (b : Int)) = false := by simp; omega
theorem ix {a : Nat} {b : Nat} (h : a = b) : ((a : Int) == (b : Int)) = true := by simp; omega
theorem rY (s : ByteArray) : ∀ m, p5 s m := by
 intro m
 induction m with
 | zero => intro j deep t r hrd h1 h2; omega
 | succ m ih =>
  intro j deep t r hrd h1 h2 hb h9 hd k c neg A n cp x w hlf
  have e1 : (((deep + 1 : Nat)) : Int) = (deep : Int) + 1 := by omega
  have HNX : ∀ (rr : Except (Nat × Nat) (Nat × Tk)), aH s.data.toList ((j + t.len : Nat) : Int) = rr -> Hid (∀ W : World, K0 w W -> Calls Tryz.prog 14 #[.string s, .int .i64 ((j + t.len : Nat) : Int)] W (aJ rr W)) := fun rr hr => hid (fun W _ => by have := fN s ((j + t.len : Nat) : Int) W; rwa [hr] at this)
  have HIN : ∀ (kk : Nat) (u : Tk) (g : Got), Rd s.data.toList (.frm kk u (deep + 1)) g -> aH s.data.toList ((j + t.len : Nat) : Int) = .ok (kk, u) -> u.beg -> deep ≠ 64 -> Hid (∀ (dk dc : Int) (dneg : Bool) (A2 : Option Addr) (n2 cp2 : Nat) (x2 : ByteArray) (W : World), K0 w W -> cz W u.d dk dc dneg A2 n2 cp2 x2 -> Calls Tryz.prog 44 #[.string s, ar (u.kind : Int) (kk : Int) ((kk + u.len : Nat) : Int) u.sq dk dc dneg A2 n2 cp2 x2, .int .i64 ((deep : Int) + 1)] W (bd g W)) := by
   intro kk u g hg hn hu hd64
   obtain ⟨t1, t2, t3, t4⟩ := aN hn
   have t5 := t4 hu.1
   have hz : s.data.toList.length = s.size := (Lib.size_eq s).symm
   refine hid (fun dk dc dneg A2 n2 cp2 x2 W _ hl => ?_)
   rw [<- e1]
   exact ih kk (deep + 1) u g hg (by omega) (by omega) hu t1 (by omega) dk dc dneg A2 n2 cp2 x2 W hl
  cases hrd with
  | datum h =>
   refine (ml s _ _ _ _ _ _ _ _ _ _ _ _ w (ix (b := 9) h)).mono ?_
   rintro e w' ⟨he, K⟩
   obtain ⟨hl, ek, ec, en, et⟩ := au.leaf (P := fun b => w.heap.size <= b) (hlf.keep K)
   refine ⟨⟨A, n, cp, none, 0, 0⟩, ?_, hl, K⟩
   rw [he, ek, ec, en, et]
  | deep h h64 =>
   exact nQ s _ _ _ _ _ _ _ _ _ _ _ _ w (aO (b := 9) h) (ix (b := 64) h64)
  | opn h h64 hn =>
   refine nO s _ _ _ _ _ _ _ _ _ _ _ _ w (aO (b := 9) (by omega)) (aO (b := 64) h64) (ix (b := 1) h) (by omega) (by omega) r (hid (fun W _ => ?_))
   rw [<- e1]
   exact oN s m ih j (deep + 1) (j + t.len) t.sq r h1 (by omega) (by omega) hn _ _ _ _ _ _ _ _ W
  | vct h hs h64 hn =>
   refine pC s _ _ _ _ _ _ _ _ _ _ _ _ w (aO (b := 9) (by omega)) (aO (b := 64) h64) (aO (b := 1) (by omega)) (ix (b := 3) h) (by omega) (by omega) r (hid (fun W _ => ?_))
   rw [<- e1]
   exact oF s m ih j (deep + 1) (j + t.len) t.sq r h1 (by omega) (by omega) hn _ _ _ _ _ _ _ _ W
  | markLex h h64 nn =>
   exact po s _ _ _ _ _ _ _ _ _ _ _ _ w (aO (b := 9) (by omega)) (aO (b := 64) h64) (aO (b := 1) (by omega)) (aO (b := 3) (by omega)) _ _ (HNX _ nn) (by have := ej nn; simp; omega)
  | markEnd h h64 nn hu =>
   exact pr s _ _ _ _ _ _ _ _ _ _ _ _ w (aO (b := 9) (by omega)) (aO (b := 64) h64) (aO (b := 1) (by omega)) (aO (b := 3) (by omega)) j rfl _ _ (HNX _ nn) hu
  | markBad h h64 nn hu =>
   rcases hu with hu | hu
   · exact nK s _ _ _ _ _ _ _ _ _ _ _ _ w (aO (b := 9) (by omega)) (aO (b := 64) h64) (aO (b := 1) (by omega)) (aO (b := 3) (by omega)) _ _ (HNX _ nn) hu
   · exact pu s _ _ _ _ _ _ _ _ _ _ _ _ w (aO (b := 9) (by omega)) (aO (b := 64) h64) (aO (b := 1) (by omega)) (aO (b := 3) (by omega)) _ _ (HNX _ nn) hu
  | markErr h h64 nn hu mm =>
   exact pq s _ _ _ _ _ _ _ _ _ _ _ _ w (aO (b := 9) (by omega)) (aO (b := 64) h64) (aO (b := 1) (by omega)) (aO (b := 3) (by omega)) _ _ (HNX _ nn) hu (by omega) (by omega) _ _ _ rfl (by have := Rd.code mm _ _ rfl; omega) (HIN _ _ _ mm nn hu h64)
  | @markOk _ _ kk ee _ u d h h64 nn hu mm =>
   have h4 : t.kind = (t.kind - 4) + 4 := by omega
   rw [h4]
   exact qH s _ _ _ _ _ _ _ _ _ _ _ _ w (aO (b := 9) (by omega)) (aO (b := 64) h64) (aO (b := 1) (by omega)) (aO (b := 3) (by omega)) _ _ (HNX _ nn) hu (by omega) (by omega) (t.kind - 4) ee d (by omega) (by omega) (HIN _ _ _ mm nn hu h64)
theorem oM (s : ByteArray) (at_ : Int) (r : Got) (hr : dh s.data.toList at_ r) (w : World) : Calls Tryz.prog 19 #[.string s, .int .i64 at_] w (bd r w) := by
 have HNX := hid (fun (W : World) => fN s at_ W)
 have HB := hid (show (w.alloc (.cells (gtC 0 0 false none 0 0 ⟨#[]⟩ none 0 0 0 0 0) 43)).heap[w.heap.size]? = some (.cells (gtC 0 0 false none 0 0 ⟨#[]⟩ none 0 0 0 0 0) 43 (0, 0)) from hN w _)
 have HK1 := hid (show K0 w (w.alloc (.cells (gtC 0 0 false none 0 0 ⟨#[]⟩ none 0 0 0 0 0) 43)) from kR.alloc _)
 have HZ := hid (show s.data.toList.length = s.size from (Lib.size_eq s).symm)
 have hzz : ((0 : Int) != 0) = false := by decide
 go_enter Tryz.func19, Tryz.ntmps19
 go_wp2_with fail
 refine (HNX.out _).mono ?_
 intro e w2 hres
 cases hr with
 | @lex q cc nn =>
  rw [nn] at hres
  obtain ⟨rfl, k2⟩ := hres
  have g0 : ((cc : Int) != 0) = true := by have := ej nn; simp; omega
  have HB4 := hid (ac (k2.heap HB.out id) (.cells (tkC 0 0 0 false 0 0 false none 0 0 ⟨#[]⟩ none 0 0) 29))
  have HBT := hid (hN w2 (.cells (tkC 0 0 0 false 0 0 false none 0 0 ⟨#[]⟩ none 0 0) 29))
  have K2 := hid (k2.alloc (.cells (tkC 0 0 0 false 0 0 false none 0 0 ⟨#[]⟩ none 0 0) 29))
  have HK2 := hid (HK1.out.trans K2.out)
  have HLT := hid (ao HB4.out)
  clear k2
  try dsimp only
  go_wp2_with fail
  refine (bD (q : Int) (cc : Int) _).mono ?_
  rintro e w5 ⟨rfl, k5⟩
  have HB65 := hid (k5.heap HB4.out id)
  have HK5 := hid (HK2.out.trans k5)
  clear k5
  obtain ⟨⟨z0, z1, z2, z3, z4, z5, z6, z7, z8⟩, y0, y1, y2, y3, y4, y5, y6, y7, y8⟩ := aj HB65.out
  have HE := hid (aB HK5.out (show w.heap.size <= w.heap.size by omega) (.int .i64 0) (.int .i32 0) (.bool false) (.slice none 0 0) (.string ⟨#[]⟩) (.slice none 0 0) (.int .i64 0) (.int .i64 (q : Int)) (.int .i64 (cc : Int)))
  have HR := hid (aj (aM HB65.out (.int .i64 0) (.int .i32 0) (.bool false) (.slice none 0 0) (.string ⟨#[]⟩) (.slice none 0 0) (.int .i64 0) (.int .i64 (q : Int)) (.int .i64 (cc : Int)))).1
  try dsimp only
  go_wp2_with fail
  refine bodyPost_ret (v := .agg (gtC 0 0 false none 0 0 ⟨#[]⟩ none 0 0 0 (q : Int) (cc : Int))) ?_ rfl ?_
  · obtain ⟨e0, e1, e2, e3, e4, e5, e6, e7, e8⟩ := HR.out
    simp [results, Tryz.results19, go_sem, e0, e1, e2, e3, e4, e5, e6, e7, e8]
  · exact ⟨rfl, HE.out⟩
 | @none j u nn hk =>
  rw [nn] at hres
  obtain ⟨dk, dc, dneg, A2, n2, cp2, x2, he, hlf, k2⟩ := hres
  obtain ⟨uk, huk⟩ : ∃ z : Int, z = (u.kind : Int) := ⟨_, rfl⟩
  obtain ⟨ua, hua⟩ : ∃ z : Int, z = (j : Int) := ⟨_, rfl⟩
  obtain ⟨ue, hue⟩ : ∃ z : Int, z = ((j + u.len : Nat) : Int) := ⟨_, rfl⟩
  obtain ⟨uq, huq⟩ : ∃ z : Bool, z = u.sq := ⟨_, rfl⟩
  rw [<- huk, <- hua, <- hue, <- huq] at he
  subst he
  have HUA := hid hua
  have HUE := hid hue
  have p0 : (uk == 0) = true := by rw [huk, hk]; rfl
  have HB4 := hid (ac (k2.heap HB.out id) (.cells (tkC uk ua ue uq dk dc dneg A2 n2 cp2 x2 none 0 0) 29))
  have HBT := hid (hN w2 (.cells (tkC uk ua ue uq dk dc dneg A2 n2 cp2 x2 none 0 0) 29))
  have K2 := hid (k2.alloc (.cells (tkC uk ua ue uq dk dc dneg A2 n2 cp2 x2 none 0 0) 29))
  have HK2 := hid (HK1.out.trans K2.out)
  have HLT := hid (ao HB4.out)
  clear k2
  obtain ⟨⟨b0, b1, b2, b3, b4, b5, b6, b7, b8, b9⟩, _⟩ := aa HBT.out
  clear hk huk hua hue huq hlf
  try dsimp only
  go_wp2_with fail
  refine (bD ua 19 _).mono ?_
  rintro e w5 ⟨rfl, k5⟩
  have HB65 := hid (k5.heap HB4.out id)
  have HK5 := hid (HK2.out.trans k5)
  clear k5
  obtain ⟨⟨z0, z1, z2, z3, z4, z5, z6, z7, z8⟩, y0, y1, y2, y3, y4, y5, y6, y7, y8⟩ := aj HB65.out
  have HE := hid (aB HK5.out (show w.heap.size <= w.heap.size by omega) (.int .i64 0) (.int .i32 0) (.bool false) (.slice none 0 0) (.string ⟨#[]⟩) (.slice none 0 0) (.int .i64 0) (.int .i64 ua) (.int .i64 19))
  have HR := hid (aj (aM HB65.out (.int .i64 0) (.int .i32 0) (.bool false) (.slice none 0 0) (.string ⟨#[]⟩) (.slice none 0 0) (.int .i64 0) (.int .i64 ua) (.int .i64 19))).1
  try dsimp only
  go_wp2_with fail
  refine bodyPost_ret (v := .agg (gtC 0 0 false none 0 0 ⟨#[]⟩ none 0 0 0 ua 19)) ?_ rfl ?_
  · obtain ⟨e0, e1, e2, e3, e4, e5, e6, e7, e8⟩ := HR.out
    simp [results, Tryz.results19, go_sem, e0, e1, e2, e3, e4, e5, e6, e7, e8]
  · exact ⟨by rw [HUA.out]; rfl, HE.out⟩
 | @bad j u nn hk =>
  rw [nn] at hres
  rcases hk with hk | hk
  · skip
    obtain ⟨dk, dc, dneg, A2, n2, cp2, x2, he, hlf, k2⟩ := hres
    obtain ⟨uk, huk⟩ : ∃ z : Int, z = (u.kind : Int) := ⟨_, rfl⟩
    obtain ⟨ua, hua⟩ : ∃ z : Int, z = (j : Int) := ⟨_, rfl⟩
    obtain ⟨ue, hue⟩ : ∃ z : Int, z = ((j + u.len : Nat) : Int) := ⟨_, rfl⟩
    obtain ⟨uq, huq⟩ : ∃ z : Bool, z = u.sq := ⟨_, rfl⟩
    rw [<- huk, <- hua, <- hue, <- huq] at he
    subst he
    have HUA := hid hua
    have HUE := hid hue
    have p0 : (uk == 0) = false := by rw [huk, hk]; rfl
    have p2 : (uk == 2) = true := by rw [huk, hk]; rfl
    have HB4 := hid (ac (k2.heap HB.out id) (.cells (tkC uk ua ue uq dk dc dneg A2 n2 cp2 x2 none 0 0) 29))
    have HBT := hid (hN w2 (.cells (tkC uk ua ue uq dk dc dneg A2 n2 cp2 x2 none 0 0) 29))
    have K2 := hid (k2.alloc (.cells (tkC uk ua ue uq dk dc dneg A2 n2 cp2 x2 none 0 0) 29))
    have HK2 := hid (HK1.out.trans K2.out)
    have HLT := hid (ao HB4.out)
    clear k2
    obtain ⟨⟨b0, b1, b2, b3, b4, b5, b6, b7, b8, b9⟩, _⟩ := aa HBT.out
    clear hk huk hua hue huq hlf
    try dsimp only
    go_wp2_with fail
    refine (bD ua 9 _).mono ?_
    rintro e w5 ⟨rfl, k5⟩
    have HB65 := hid (k5.heap HB4.out id)
    have HK5 := hid (HK2.out.trans k5)
    clear k5
    obtain ⟨⟨z0, z1, z2, z3, z4, z5, z6, z7, z8⟩, y0, y1, y2, y3, y4, y5, y6, y7, y8⟩ := aj HB65.out
    have HE := hid (aB HK5.out (show w.heap.size <= w.heap.size by omega) (.int .i64 0) (.int .i32 0) (.bool false) (.slice none 0 0) (.string ⟨#[]⟩) (.slice none 0 0) (.int .i64 0) (.int .i64 ua) (.int .i64 9))
    have HR := hid (aj (aM HB65.out (.int .i64 0) (.int .i32 0) (.bool false) (.slice none 0 0) (.string ⟨#[]⟩) (.slice none 0 0) (.int .i64 0) (.int .i64 ua) (.int .i64 9))).1
    try dsimp only
    go_wp2_with fail
    refine bodyPost_ret (v := .agg (gtC 0 0 false none 0 0 ⟨#[]⟩ none 0 0 0 ua 9)) ?_ rfl ?_
    · obtain ⟨e0, e1, e2, e3, e4, e5, e6, e7, e8⟩ := HR.out
      simp [results, Tryz.results19, go_sem, e0, e1, e2, e3, e4, e5, e6, e7, e8]
    · exact ⟨by rw [HUA.out]; rfl, HE.out⟩
  · skip
    obtain ⟨dk, dc, dneg, A2, n2, cp2, x2, he, hlf, k2⟩ := hres
    obtain ⟨uk, huk⟩ : ∃ z : Int, z = (u.kind : Int) := ⟨_, rfl⟩
    obtain ⟨ua, hua⟩ : ∃ z : Int, z = (j : Int) := ⟨_, rfl⟩
    obtain ⟨ue, hue⟩ : ∃ z : Int, z = ((j + u.len : Nat) : Int) := ⟨_, rfl⟩
    obtain ⟨uq, huq⟩ : ∃ z : Bool, z = u.sq := ⟨_, rfl⟩
    rw [<- huk, <- hua, <- hue, <- huq] at he
    subst he
    have HUA := hid hua
    have HUE := hid hue
    have p0 : (uk == 0) = false := by rw [huk, hk]; rfl
    have p2 : (uk == 2) = false := by rw [huk, hk]; rfl
    have p8 : (uk == 8) = true := by rw [huk, hk]; rfl
    have HB4 := hid (ac (k2.heap HB.out id) (.cells (tkC uk ua ue uq dk dc dneg A2 n2 cp2 x2 none 0 0) 29))
    have HBT := hid (hN w2 (.cells (tkC uk ua ue uq dk dc dneg A2 n2 cp2 x2 none 0 0) 29))
    have K2 := hid (k2.alloc (.cells (tkC uk ua ue uq dk dc dneg A2 n2 cp2 x2 none 0 0) 29))
    have HK2 := hid (HK1.out.trans K2.out)
    have HLT := hid (ao HB4.out)
    clear k2
    obtain ⟨⟨b0, b1, b2, b3, b4, b5, b6, b7, b8, b9⟩, _⟩ := aa HBT.out
    clear hk huk hua hue huq hlf
    try dsimp only
    go_wp2_with fail
    refine (bD ua 9 _).mono ?_
    rintro e w5 ⟨rfl, k5⟩
    have HB65 := hid (k5.heap HB4.out id)
    have HK5 := hid (HK2.out.trans k5)
    clear k5
    obtain ⟨⟨z0, z1, z2, z3, z4, z5, z6, z7, z8⟩, y0, y1, y2, y3, y4, y5, y6, y7, y8⟩ := aj HB65.out
    have HE := hid (aB HK5.out (show w.heap.size <= w.heap.size by omega) (.int .i64 0) (.int .i32 0) (.bool false) (.slice none 0 0) (.string ⟨#[]⟩) (.slice none 0 0) (.int .i64 0) (.int .i64 ua) (.int .i64 9))
    have HR := hid (aj (aM HB65.out (.int .i64 0) (.int .i32 0) (.bool false) (.slice none 0 0) (.string ⟨#[]⟩) (.slice none 0 0) (.int .i64 0) (.int .i64 ua) (.int .i64 9))).1
    try dsimp only
    go_wp2_with fail
    refine bodyPost_ret (v := .agg (gtC 0 0 false none 0 0 ⟨#[]⟩ none 0 0 0 ua 9)) ?_ rfl ?_
    · obtain ⟨e0, e1, e2, e3, e4, e5, e6, e7, e8⟩ := HR.out
      simp [results, Tryz.results19, go_sem, e0, e1, e2, e3, e4, e5, e6, e7, e8]
    · exact ⟨by rw [HUA.out]; rfl, HE.out⟩
 | @frm j u _ nn hu mm =>
  rw [nn] at hres
  obtain ⟨tk1, tk2, tk3, tk4⟩ := aN nn
  obtain ⟨dk, dc, dneg, A2, n2, cp2, x2, he, hlf, k2⟩ := hres
  obtain ⟨uk, huk⟩ : ∃ z : Int, z = (u.kind : Int) := ⟨_, rfl⟩
  obtain ⟨ua, hua⟩ : ∃ z : Int, z = (j : Int) := ⟨_, rfl⟩
  obtain ⟨ue, hue⟩ : ∃ z : Int, z = ((j + u.len : Nat) : Int) := ⟨_, rfl⟩
  obtain ⟨uq, huq⟩ : ∃ z : Bool, z = u.sq := ⟨_, rfl⟩
  rw [<- huk, <- hua, <- hue, <- huq] at he
  subst he
  have HUA := hid hua
  have HUE := hid hue
  have p0 : (uk == 0) = false := by rw [huk]; have := hu.1; simp; omega
  have p2 : (uk == 2) = false := by rw [huk]; have := hu.2.1; simp; omega
  have p8 : (uk == 8) = false := by rw [huk]; have := hu.2.2; simp; omega
  have HFR := hid (fun (W : World) (K : K0 w2 W) => (show Calls Tryz.prog 44 #[.string s, ar uk ua ue uq dk dc dneg A2 n2 cp2 x2, .int .i64 0] W (bd r W) from by rw [huk, hua, hue, huq]; exact rY s (s.size + 1) j 0 u r mm (by rw [<- HZ.out]; exact tk3) (by omega) hu tk1 (by omega) dk dc dneg A2 n2 cp2 x2 W (hlf.keep K)))
  have HB4 := hid (ac (k2.heap HB.out id) (.cells (tkC uk ua ue uq dk dc dneg A2 n2 cp2 x2 none 0 0) 29))
  have HBT := hid (hN w2 (.cells (tkC uk ua ue uq dk dc dneg A2 n2 cp2 x2 none 0 0) 29))
  have K2 := hid (k2.alloc (.cells (tkC uk ua ue uq dk dc dneg A2 n2 cp2 x2 none 0 0) 29))
  have HK2 := hid (HK1.out.trans K2.out)
  have HLT := hid (ao HB4.out)
  clear k2
  obtain ⟨⟨b0, b1, b2, b3, b4, b5, b6, b7, b8, b9⟩, _⟩ := aa HBT.out
  clear hu mm nn tk1 tk2 tk3 tk4 huk hua hue huq hlf
  try dsimp only
  go_wp2_with fail
  refine (HFR.out _ (kR.alloc _)).mono ?_
  intro e w4 hres
  obtain ⟨d, p, gn, gq, gc, rfl, hg, k4⟩ := hres.form
  have HB64 := hid (k4.heap HB4.out id)
  have HK4 := hid (HK2.out.trans k4)
  have HG := hid hg
  clear k4 hres hg b0 b1 b2 b3 b4 b5 b6 b7 b8 b9
  obtain ⟨⟨z0, z1, z2, z3, z4, z5, z6, z7, z8⟩, y0, y1, y2, y3, y4, y5, y6, y7, y8⟩ := aj HB64.out
  have HE := hid (aB HK4.out (show w.heap.size <= w.heap.size by omega) (.int .i64 d.k) (.int .i32 d.c) (.bool d.neg) (.slice p.A p.n p.cp) (.string d.t) (.slice p.B p.m p.cap) (.int .i64 gn) (.int .i64 gq) (.int .i64 gc))
  have HR := hid (aj (aM HB64.out (.int .i64 d.k) (.int .i32 d.c) (.bool d.neg) (.slice p.A p.n p.cp) (.string d.t) (.slice p.B p.m p.cap) (.int .i64 gn) (.int .i64 gq) (.int .i64 gc))).1
  try dsimp only
  go_wp2_with fail
  refine bodyPost_ret (v := .agg (gtC d.k d.c d.neg p.A p.n p.cp d.t p.B p.m p.cap gn gq gc)) ?_ rfl ?_
  · obtain ⟨e0, e1, e2, e3, e4, e5, e6, e7, e8⟩ := HR.out
    simp [results, Tryz.results19, go_sem, e0, e1, e2, e3, e4, e5, e6, e7, e8]
  · exact (HG.out.keep (ck _ _ (.int .i64 d.k) (.int .i32 d.c) (.bool d.neg) (.slice p.A p.n p.cp) (.string d.t) (.slice p.B p.m p.cap) (.int .i64 gn) (.int .i64 gq) (.int .i64 gc)) HLT.out HB64.out (by decide)).post (Nat.le_of_lt HLT.out) HE.out
def eD (ds : List Raw) (q c : Nat) (w : World) (e : Ending) (w' : World) : Prop :=
 ∃ (xs : List (Raw × PV)) (A : Option Addr) (cap : Nat), e = .returned (.tuple #[.slice A ds.length cap, .int .i64 (q : Int), .int .i64 (c : Int)]) /\ xs.map Prod.fst = ds /\ w'.ownsRow w.heap.size 27 6 (.slice A ds.length cap) ds.length (xs.flatMap dD) /\ (∀ y ∈ xs, au (Oth w.heap.size (.slice A ds.length cap)) w' y.1 y.2) /\ K0 w w' /\ ds.length <= 4096
structure kt (w : World) (l : List UInt8) (ds : List Raw) (q c i n : Nat) (xs : List (Raw × PV)) (rest : List Raw) (A : Option Addr) (cap : Nat) (wr : World) : Prop where
 eqs : ds = xs.map Prod.fst ++ rest
 data : dM l i rest q c
 cnt : n = xs.length
 own : wr.ownsRow w.heap.size 27 6 (.slice A n cap) n (xs.flatMap dD)
 items : ∀ y ∈ xs, au (Oth w.heap.size (.slice A n cap)) wr y.1 y.2
 K : K0 w wr
 le : n <= i
 l4 : n <= 4096
theorem kt.fin {w : World} {l : List UInt8} {ds : List Raw} {q c i n : Nat} {xs : List (Raw × PV)} {A : Option Addr} {cap : Nat} {wr : World} (h : kt w l ds q c i n xs [] A cap wr) {w2 : World} (K : K0 wr w2) : eD ds q c w (.returned (.tuple #[.slice A n cap, .int .i64 (q : Int), .int .i64 (c : Int)])) w2 := by
 have e : ds = xs.map Prod.fst := by rw [h.eqs, List.append_nil]
 have hn : n = ds.length := by rw [e, List.length_map]; exact h.cnt
 subst hn
 exact ⟨xs, A, cap, rfl, e.symm, bH h.own K (fun _ _ => id), fun y hy => (h.items y hy).keep0 K, h.K.trans K, h.l4⟩
theorem kt.item {w : World} {l : List UInt8} {ds : List Raw} {q c i n : Nat} {xs : List (Raw × PV)} {rest : List Raw} {A : Option Addr} {cap : Nat} {wr : World} {w2 w3 : World} {d : Raw} {p : PV} {us : List Raw} (h : kt w l ds q c i n xs rest A cap wr) (K : K0 wr w2) {i' : Nat} (he : rest = d :: us) (hdt : dM l i' us q c) (hi : i < i') (hl : i' <= 4096)
 (hd : au (fun b => wr.heap.size <= b) w2 d p) {v' : Value} (hown : w3.ownsRow w.heap.size 27 6 v' (n + 1) (xs.flatMap dD ++ dD (d, p))) (hg : w2.grownBy w3 (Value.slice A n cap).ownBlock) (hb : v'.ownBlock = (Value.slice A n cap).ownBlock \/ v'.ownBlock = some w2.heap.size) :
 ∃ A' c', v' = .slice A' (n + 1) c' /\ kt w l ds q c i' (n + 1) (xs ++ [(d, p)]) us A' c' w3 := by
 obtain ⟨A', c', rfl⟩ := eo hown
 have hoff := cE h.own
 have hoff2 := cE (bH h.own K (fun _ _ => id))
 have KG : ah (fun b => (Value.slice A n cap).ownBlock = some b) w2 w3 := kR.grown hg (fun k hk => .inl hk)
 have hs := K.size
 have hs0 := h.K.size
 have hle := h.le
 have key : ∀ y q, au (Oth w.heap.size (.slice A n cap)) w2 y q -> au (Oth w.heap.size (.slice A' (n + 1) c')) w3 y q := fun y q hy => by
  have h1 : au (fun b => Oth w.heap.size (.slice A n cap) b /\ b < w2.heap.size) w2 y q := hy.mono (fun b hb ho => ⟨ho, hb⟩)
  refine (h1.keep KG (fun b hb => ⟨fun hq => hq.1.2 hb, (hoff2 b hb).2.2⟩)).mono (fun b _ hq => ⟨hq.1.1, fun e => ?_⟩)
  rcases hb with hb | hb
  · rw [hb] at e; exact hq.1.2 e
  · rw [hb] at e; injection e with e; omega
 refine ⟨A', c', rfl, by rw [h.eqs, he]; simp, hdt, by rw [List.length_append, h.cnt]; rfl, by rw [List.flatMap_append]; simpa using hown, ?_, (h.K.trans K).grown hg (fun k hk => .inr (hoff k hk).1), by omega, by omega⟩
 intro y hy
 rcases List.mem_append.1 hy with hy | hy
 · exact key _ _ ((h.items y hy).keep0 K)
 · rw [List.mem_singleton.1 hy]
   exact key d p (hd.mono (fun b _ hb => ⟨by omega, fun e => by have := (hoff b e).2.1; omega⟩))
theorem dM.inv {l : List UInt8} {i q c : Nat} {ds : List Raw} (h : dM l i ds q c) : (dh l (i : Int) (.error (q, c)) /\ c ≠ 19 /\ ds = []) \/ (∃ p, dh l (i : Int) (.error (p, 19)) /\ ds = [] /\ q = 0 /\ c = 0) \/ ∃ d n us, dh l (i : Int) (.ok (d, n)) /\ ds = d :: us /\ dM l n us q c := by
 cases h with
 | bad h hc => exact .inl ⟨h, hc, rfl⟩
 | fin h => exact .inr (.inl ⟨_, h, rfl, rfl, rfl⟩)
 | cons h m => exact .inr (.inr ⟨_, _, _, h, rfl, m⟩)
theorem dh.lim {l : List UInt8} {i : Int} {d : Raw} {n : Nat} (h : dh l i (.ok (d, n))) : l.length <= 4096 := by
 cases h with
 | frm nn hk m => exact (cJ nn).1
theorem oS (s : ByteArray) (ds : List Raw) (q c : Nat) (w : World) (h : dM s.data.toList 0 ds q c) : Calls Tryz.prog 24 #[.string s] w (eD ds q c w) := by
 have HZ := hid (show s.data.toList.length = s.size from (Lib.size_eq s).symm)
 have HON := hid (fun (i : Nat) (r : Got) (hr : dh s.data.toList (i : Int) r) (W : World) => oM s (i : Int) r hr W)
 have HST := hid (show kt w s.data.toList ds q c 0 0 [] ds none 0 w from ⟨rfl, h, rfl, ⟨rfl, .inl ⟨rfl, rfl⟩⟩, fun y hy => absurd hy (by simp), kR, Nat.zero_le _, Nat.zero_le _⟩)
 obtain ⟨l, hl⟩ : ∃ l, l = s.data.toList := ⟨_, rfl⟩
 rw [<- hl] at HZ HON HST
 clear hl h
 obtain ⟨i27, h27, hz0, hz1, hz2⟩ := info_parts gQ
 go_enter Tryz.func24, Tryz.ntmps24
 go_wp2_with fail
 go_loopw [5, 6] (fun lv iv wr => ∃ (i n cap : Nat) (xs : List (Raw × PV)) (rest : List Raw) (A : Option Addr), lv = .slice A n cap /\ iv = .int .i64 (i : Int) /\ kt w l ds q c i n xs rest A cap wr) (fun _ iv _ => s.size + 1 - (intOf iv).toNat)
 case atStart => exact ⟨0, 0, 0, [], ds, none, rfl, rfl, HST.out⟩
 case round =>
  obtain ⟨i, n, cap, xs, rest, A, rfl, rfl, hst⟩ := hrel
  have HS := hid hst
  have hcap := cT hst.own
  have hdt := hst.data
  clear hst HST
  go_wp2_with fail
  obtain ⟨hon, hc19, hr⟩ | ⟨p, hon, hr, hq, hc⟩ | ⟨d, en, us, hon, hr, hdt2⟩ := hdt.inv
  · refine (HON.out i _ hon _).mono ?_
    rintro e w2 ⟨rfl, k2⟩
    obtain ⟨pp, hpp⟩ : ∃ z : Int, z = (q : Int) := ⟨_, rfl⟩
    obtain ⟨cc, hcc⟩ : ∃ z : Int, z = (c : Int) := ⟨_, rfl⟩
    have g1 : (cc == 19) = false := by rw [hcc]; simp; omega
    have g2 : (cc != 0) = true := by rw [hcc]; have := hon.code; simp; omega
    rw [<- hpp, <- hcc]
    subst hr
    have K3 := hid (k2.alloc (.cells (gtC 0 0 false none 0 0 ⟨#[]⟩ none 0 0 0 pp cc) 43))
    obtain ⟨⟨z0, z1, z2, z3, z4, z5, z6, z7, z8⟩, _⟩ := aj (hN w2 (.cells (gtC 0 0 false none 0 0 ⟨#[]⟩ none 0 0 0 pp cc) 43))
    have HPP := hid hpp
    have HCC := hid hcc
    clear hon hc19 hdt k2 hpp hcc
    go_wp2_with fail
    go_quiet (fail)
    have hf := HS.out.fin (K3.out.drewN nq)
    rw [<- HPP.out, <- HCC.out] at hf
    have HF := hid hf
    clear hf
    try dsimp only
    go_wp2_with fail
    refine bodyPost_ret (v := .tuple #[.slice A n cap, .int .i64 pp, .int .i64 cc]) (by simp [results, Tryz.results24, go_sem]) rfl HF.out
  · refine (HON.out i _ hon _).mono ?_
    rintro e w2 ⟨rfl, k2⟩
    have g1 : ((19 : Int) == 19) = true := by decide
    subst hr hq hc
    have HF := hid (HS.out.fin (k2.alloc (.cells (gtC 0 0 false none 0 0 ⟨#[]⟩ none 0 0 0 (p : Int) 19) 43)))
    clear hon hdt k2
    go_wp2_with fail
    exact bodyPost_ret (v := .tuple #[.slice A n cap, .int .i64 0, .int .i64 0]) (by simp [results, Tryz.results24, go_sem]) rfl HF.out
  · refine (HON.out i _ hon _).mono ?_
    intro e w2 hres
    obtain ⟨pd, he, hd2, k2⟩ := hres
    subst he
    have hends := hon.ends
    have hln := hon.lim
    have g1 : ((0 : Int) == 19) = false := by decide
    have g2 : ((0 : Int) != 0) = false := by decide
    have HE3 := hid (show i < en /\ en <= s.size /\ en <= 4096 by rw [<- HZ.out]; omega)
    have hn4 : n <= 4096 := HS.out.l4
    have K6 := hid ((k2.alloc (.cells (gtC d.k d.c d.neg pd.A pd.n pd.cp d.t pd.B pd.m pd.cap en 0 0) 43)).alloc (.cells (rwC d.k d.c d.neg pd.A pd.n pd.cp d.t pd.B pd.m pd.cap) 27))
    have HOWN := hid (bH HS.out.own K6.out (fun _ _ => id))
    have HNEW := hid (fU (show ((w2.alloc (.cells (gtC d.k d.c d.neg pd.A pd.n pd.cp d.t pd.B pd.m pd.cap en 0 0) 43)).alloc (.cells (rwC d.k d.c d.neg pd.A pd.n pd.cp d.t pd.B pd.m pd.cap) 27)).heap[w2.heap.size + 1]? = _ from by have := hN (w2.alloc (.cells (gtC d.k d.c d.neg pd.A pd.n pd.cp d.t pd.B pd.m pd.cap en 0 0) 43)) (.cells (rwC d.k d.c d.neg pd.A pd.n pd.cp d.t pd.B pd.m pd.cap) 27); rwa [World.size_alloc] at this))
    have HBASE := hid (show w.heap.size <= ((w2.alloc (.cells (gtC d.k d.c d.neg pd.A pd.n pd.cp d.t pd.B pd.m pd.cap en 0 0) 43)).alloc (.cells (rwC d.k d.c d.neg pd.A pd.n pd.cp d.t pd.B pd.m pd.cap) 27)).heap.size from (HS.out.K.trans K6.out).size)
    have HD6 := hid (show au (fun b => wr.heap.size <= b) ((w2.alloc (.cells (gtC d.k d.c d.neg pd.A pd.n pd.cp d.t pd.B pd.m pd.cap en 0 0) 43)).alloc (.cells (rwC d.k d.c d.neg pd.A pd.n pd.cp d.t pd.B pd.m pd.cap) 27)) d pd from hd2.keep0 ((kR.alloc _).alloc _))
    have HT2 := hid (And.intro hr hdt2)
    obtain ⟨⟨z0, z1, z2, z3, z4, z5, z6, z7, z8⟩, _⟩ := aj (ac (hN w2 (.cells (gtC d.k d.c d.neg pd.A pd.n pd.cp d.t pd.B pd.m pd.cap en 0 0) 43)) (.cells (rwC d.k d.c d.neg pd.A pd.n pd.cp d.t pd.B pd.m pd.cap) 27))
    obtain ⟨⟨y0, y1, y2, y3, y4, y5, y6, y7, y8⟩, _⟩ := aj (hN w2 (.cells (gtC d.k d.c d.neg pd.A pd.n pd.cp d.t pd.B pd.m pd.cap en 0 0) 43))
    have HBT := hid (ac (hN w2 (.cells (gtC d.k d.c d.neg pd.A pd.n pd.cp d.t pd.B pd.m pd.cap en 0 0) 43)) (.cells (rwC d.k d.c d.neg pd.A pd.n pd.cp d.t pd.B pd.m pd.cap) 27))
    have HOFF := hid (cE HS.out.own)
    have HS2 := hid k2.size
    clear hon hr hdt hdt2 hd2 hends hln k2
    go_wp2_with (at_builtin; refine wpList_append_own_at _ rfl (.tmp 23) (.tmp 26) 25 rfl w.heap.size 27 i27 (.agg (rwC 0 0 false none 0 0 ⟨#[]⟩ none 0 0)) 6 88 Tryz.underlying25 h27 hz0 hz1 hz2 rfl (by decide) _ _ _ rfl HOWN.out ⟨w2.heap.size + 1, 0, none⟩ 1 1 [.int .i64 d.k, .int .i32 d.c, .bool d.neg, .slice pd.A pd.n pd.cp, .string d.t, .slice pd.B pd.m pd.cap] rfl rfl HNEW.out ?a1 ?a2 ?a3 HBASE.out ?_)
    case a1 => intro u hu; simp only [List.mem_cons, List.not_mem_nil, or_false] at hu; rcases hu with rfl | rfl | rfl | rfl | rfl | rfl <;> rfl
    case a2 => unfold maxLen; omega
    case a3 => omega
    intro v' w6 hown hgrow _ hblk
    have hb15 : w6.heap[w2.heap.size]? = _ := ((ah.refl (fun b => (Value.slice A n cap).ownBlock = some b) _).grown hgrow (fun k hk => .inl hk)).heap HBT.out (fun hb => by have := (HOFF.out _ hb).2.1; have := HS2.out; omega)
    obtain ⟨A3, c3, rfl, HM⟩ := HS.out.item K6.out HT2.out.1 HT2.out.2 HE3.out.1 HE3.out.2.2 HD6.out hown hgrow (by rw [World.size_alloc, World.size_alloc]; exact hblk)
    have HMM := hid HM
    clear z0 z1 z2 z3 z4 z5 z6 z7 z8 y0 y1 y2 y3 y4 y5 y6 y7 y8
    obtain ⟨⟨z0, z1, z2, z3, z4, z5, z6, z7, z8⟩, _⟩ := aj hb15
    clear hown hgrow HM hblk hb15
    go_wp2_with fail
    go_roundw
    case rel => exact ⟨en, n + 1, c3, _, us, A3, rfl, rfl, HMM.out⟩
    case measure => have := HE3.out; simp only [intOf]; omega
def eO (w : World) (v : Value) (p c : Int) : Prop := ∃ (A B : Nat) (what : ByteArray), v = .iface 164 (.pointer (some ⟨B, 0, none⟩)) /\ w.heap[B]? = some (.cells #[.string what, .iface 77 (.pointer (some ⟨A, 0, none⟩))] 166 (0, 0)) /\ w.heap[A]? = some (.cells #[.int .i64 p, .int .i64 c] 80 (0, 0))
theorem eO.keep {S : Nat -> Prop} {w w' : World} {v : Value} {p c : Int} (h : eO w v p c) (k : ah S w w') (hs : ∀ b X, S b -> w.heap[b]? ≠ some (.cells X 166 (0, 0)) /\ w.heap[b]? ≠ some (.cells X 80 (0, 0))) : eO w' v p c := by
 obtain ⟨A, B, what, h1, h2, h3⟩ := h
 exact ⟨A, B, what, h1, k.heap h2 (fun h => (hs _ _ h).1 h2), k.heap h3 (fun h => (hs _ _ h).2 h3)⟩
theorem eO.keep0 {w w' : World} {v : Value} {p c : Int} (h : eO w v p c) (k : K0 w w') : eO w' v p c := h.keep k (fun _ _ h => h.elim)
def bR (p c : Int) (w : World) (e : Ending) (w' : World) : Prop := ∃ v, e = .returned v /\ eO w' v p c /\ K0 w w'
theorem bj (what : ByteArray) (p c : Int) (w : World) : Calls Tryz.prog 69 #[.string what, .int .i64 p, .int .i64 c] w (bR p c w) := by
 go_enter Tryz.func69, Tryz.ntmps69
 go_wp2_with fail
 go_ret
 refine ⟨_, rfl, ⟨w.heap.size, w.heap.size + 1, what, rfl, ?_, ?_⟩, (kR.alloc _).alloc _⟩
 · have := hN (w.alloc (.cells #[.int .i64 p, .int .i64 c] 80)) (.cells #[.string what, .iface 77 (.pointer (some ⟨w.heap.size, 0, none⟩))] 166)
   rwa [World.size_alloc] at this
 · rw [Below.heap_alloc _ _ _ (by simp)]; exact hN w _
theorem pc (w : World) : Calls Tryz.prog 102 #[.int .i64 4] w fun e w' => e = .returned (.string ⟨#[113, 117, 111, 116, 101]⟩) /\ w = w' := by
 go_enter Tryz.func102, Tryz.ntmps102
 go_wp2_with fail
 go_ret
 exact ⟨rfl, rfl⟩
theorem o7 (w : World) : Calls Tryz.prog 102 #[.int .i64 5] w fun e w' => e = .returned (.string ⟨#[113, 117, 97, 115, 105, 113, 117, 111, 116, 101]⟩) /\ w = w' := by
 go_enter Tryz.func102, Tryz.ntmps102
 go_wp2_with fail
 go_ret
 exact ⟨rfl, rfl⟩
theorem o5 (w : World) : Calls Tryz.prog 102 #[.int .i64 6] w fun e w' => e = .returned (.string ⟨#[117, 110, 113, 117, 111, 116, 101]⟩) /\ w = w' := by
 go_enter Tryz.func102, Tryz.ntmps102
 go_wp2_with fail
 go_ret
 exact ⟨rfl, rfl⟩
theorem o4 (w : World) : Calls Tryz.prog 102 #[.int .i64 7] w fun e w' => e = .returned (.string ⟨#[117, 110, 113, 117, 111, 116, 101, 45, 115, 112, 108, 105, 99, 105, 110, 103]⟩) /\ w = w' := by
 go_enter Tryz.func102, Tryz.ntmps102
 go_wp2_with fail
 go_ret
 exact ⟨rfl, rfl⟩
theorem nG (k : Int) (w : World) (q4 : (k == 4) = false) (q5 : (k == 5) = false) (q6 : (k == 6) = false) (q7 : (k == 7) = false) : Calls Tryz.prog 102 #[.int .i64 k] w fun e w' => e = .returned (.string ⟨#[]⟩) /\ w = w' := by
 go_enter Tryz.func102, Tryz.ntmps102
 go_wp2_with fail
 go_ret
 exact ⟨rfl, rfl⟩
theorem ed (k : Nat) (w : World) : Calls Tryz.prog 102 #[.int .i64 (k : Int)] w fun e w' => e = .returned (.string ⟨(ca k).toArray⟩) /\ w = w' := by
 by_cases h : 4 <= k /\ k <= 7
 · obtain ⟨a, b⟩ := h
   match k, a, b with
   | 4, _, _ => exact pc w
   | 5, _, _ => exact o7 w
   | 6, _, _ => exact o5 w
   | 7, _, _ => exact o4 w
 · have e : ca k = [] := by
    unfold ca
    split <;> first | omega | rfl
   rw [e]
   exact nG k w (aO (b := 4) (by omega)) (aO (b := 5) (by omega)) (aO (b := 6) (by omega)) (aO (b := 7) (by omega))
theorem qr (t : ByteArray) (w : World) : Calls Tryz.prog 104 #[.string t] w fun e w' => e = .returned (.agg (rwC 6 0 false none 0 0 t none 0 0)) /\ K0 w w' := by
 go_enter Tryz.func104, Tryz.ntmps104
 go_wp2_with fail
 exact bodyPost_ret (v := .agg (rwC 6 0 false none 0 0 t none 0 0)) (by simp [results, Tryz.results104, go_sem]) rfl ⟨rfl, kR.alloc _⟩
def fd (r : Raw) (w : World) (e : Ending) (w' : World) : Prop := ∃ p : PV, e = .returned (bT r p) /\ au (fun b => w.heap.size <= b) w' r p /\ K0 w w'
structure CpS (W : World) (r : Raw) (A1 : Option Addr) (n1 cp1 : Nat) (B : Option Addr) (m cap : Nat) (i : Nat) (xs : List (Raw × PV)) (R : Option Addr) (rc : Nat) (wr : World) : Prop where
 cnt : xs.map Prod.fst = r.l.take i
 le : i <= r.l.length
 own : wr.ownsRow (W.heap.size + 2) 27 6 (.slice R i rc) i (xs.flatMap dD)
 items : ∀ y ∈ xs, au (Oth (W.heap.size + 2) (.slice R i rc)) wr y.1 y.2
 h1 : wr.heap[W.heap.size]? = some (.cells (rwC r.k r.c r.neg A1 n1 cp1 r.t B m cap) 27 (0, 0))
 h2 : wr.heap[W.heap.size + 1]? = some (.cells (rwC 0 0 false none 0 0 ⟨#[]⟩ none 0 0) 27 (0, 0))
 num : aR wr A1 n1 cp1 r.mag
 typ : 0 < n1 -> ∀ b off, A1 = some ⟨b, off, none⟩ -> eC wr b
 K : K0 W wr
theorem CpS.item {W : World} {r : Raw} {A1 : Option Addr} {n1 cp1 : Nat} {B : Option Addr} {m cap i : Nat} {xs : List (Raw × PV)} {R : Option Addr} {rc : Nat} {wr w2 w3 : World} {p : PV} (h : CpS W r A1 n1 cp1 B m cap i xs R rc wr) (hi : i < r.l.length) (K : K0 wr w2)
 (hd : au (fun b => wr.heap.size <= b) w2 r.l[i] p) {v' : Value} (hown : w3.ownsRow (W.heap.size + 2) 27 6 v' (i + 1) (xs.flatMap dD ++ dD (r.l[i], p))) (hg : w2.grownBy w3 (Value.slice R i rc).ownBlock) (hb : v'.ownBlock = (Value.slice R i rc).ownBlock \/ v'.ownBlock = some w2.heap.size) :
 ∃ R' c', v' = .slice R' (i + 1) c' /\ CpS W r A1 n1 cp1 B m cap (i + 1) (xs ++ [(r.l[i], p)]) R' c' w3 := by
 obtain ⟨A', c', rfl⟩ := eo hown
 have hoff := cE h.own
 have hoff2 := cE (bH h.own K (fun _ _ => id))
 have KG : ah (fun b => (Value.slice R i rc).ownBlock = some b) w2 w3 := kR.grown hg (fun k hk => .inl hk)
 have hs := K.size
 have h2l := ao h.h2
 have key : ∀ y q, au (Oth (W.heap.size + 2) (.slice R i rc)) w2 y q -> au (Oth (W.heap.size + 2) (.slice A' (i + 1) c')) w3 y q := fun y q hy => by
  have h1 : au (fun b => Oth (W.heap.size + 2) (.slice R i rc) b /\ b < w2.heap.size) w2 y q := hy.mono (fun b hb ho => ⟨ho, hb⟩)
  refine (h1.keep KG (fun b hb => ⟨fun hq => hq.1.2 hb, (hoff2 b hb).2.2⟩)).mono (fun b _ hq => ⟨hq.1.1, fun e => ?_⟩)
  rcases hb with hb | hb
  · rw [hb] at e; exact hq.1.2 e
  · rw [hb] at e; injection e with e; omega
 have hT : ∀ b, (Value.slice R i rc).ownBlock = some b -> ¬ eC w2 b := fun b hb => (hoff2 b hb).2.2
 refine ⟨A', c', rfl, by rw [List.map_append, h.cnt, List.take_succ_eq_append_getElem hi]; rfl, hi, by rw [List.flatMap_append]; simpa using hown, ?_, KG.heap (K.heap h.h1 id) (fun hb => by have := (hoff _ hb).1; omega), KG.heap (K.heap h.h2 id) (fun hb => by have := (hoff _ hb).1; omega), ?_, fun hn b off e => ?_, (h.K.trans K).grown hg (fun k hk => .inr (by have := (hoff k hk).1; omega))⟩
 · intro y hy
   rcases List.mem_append.1 hy with hy | hy
   · exact key _ _ ((h.items y hy).keep0 K)
   · rw [List.mem_singleton.1 hy]
     exact key _ p (hd.mono (fun b _ hb => ⟨by omega, fun e => by have := (hoff b e).2.1; omega⟩))
 · exact (h.num.keep0 K).keep KG (fun hn b off e hb => hT b hb ((h.typ hn b off e).keep K id))
 · exact ((h.typ hn b off e).keep K id).keep KG (fun hb => hT b hb ((h.typ hn b off e).keep K id))
theorem CpS.out {W : World} {r : Raw} {A1 : Option Addr} {n1 cp1 : Nat} {B : Option Addr} {m cap i : Nat} {xs : List (Raw × PV)} {R : Option Addr} {rc : Nat} {wr : World} (h : CpS W r A1 n1 cp1 B m cap i xs R rc wr) (hi : r.l.length = i) (hbig : i * 88 <= 140737488351232) : au (fun b => W.heap.size + 2 <= b) wr r ⟨A1, n1, cp1, R, i, rc⟩ := by
 subst hi
 have hx : xs.map Prod.fst = r.l := by rw [h.cnt, List.take_length]
 have hlen : xs.length = r.l.length := by rw [<- hx, List.length_map]
 have hget : ∀ i (hi : i < r.l.length), r.l[i] = (xs[i]'(by omega)).1 := fun i hi => by
  have : (xs.map Prod.fst)[i]'(by rw [List.length_map]; omega) = r.l[i] := by simp only [hx]
  rw [<- this, List.getElem_map]
 refine .mk h.num h.typ rfl (cT h.own) hbig (fun i => (xs.getD i (.nil, PV.none)).2) (fun hm => ?_) ?_
 · obtain ⟨g, rfl, hg⟩ := d6 h.own hm
   refine ⟨g, 0, rfl, hg, fun i hi => ?_⟩
   have hi2 : i < xs.length := by omega
   have := eX h.own hi2
   rw [hget i hi, gD, gE hi2]
   exact this
 · intro i hi
   have hi2 : i < xs.length := by omega
   rw [hget i hi, gD, gE hi2]
   exact (h.items _ (List.getElem_mem hi2)).mono (fun b _ hb => hb.1)
theorem lw (r : Raw) (A : Option Addr) (n cp : Nat) (g o : Nat) (m cap : Nat) (vs : Nat -> PV) (w W : World) (HW : Hid (K0 w W)) (HN : Hid (aR W A n cp r.mag)) (HLEN : Hid (r.l.length = m)) (hcap : m <= cap) (hbig : m * 88 <= 140737488351232) (HROW : Hid (∀ i (h : i < r.l.length), dL w g o i r.l[i] (vs i))) (IH : Hid (∀ i (h : i < r.l.length) (W' : World), K0 w W' -> Calls Tryz.prog 131 #[bT r.l[i] (vs i)] W' (fd r.l[i] W'))) : Calls Tryz.prog 131 #[.agg (rwC r.k r.c r.neg A n cp r.t (some ⟨g, o, none⟩) m cap)] W (fd r W) := by
 obtain ⟨i27, h27, hz0, hz1, hz2⟩ := info_parts gQ
 have HB1 := hid (show ((W.alloc (.cells (rwC r.k r.c r.neg A n cp r.t (some ⟨g, o, none⟩) m cap) 27)).alloc (.cells (rwC 0 0 false none 0 0 ⟨#[]⟩ none 0 0) 27)).heap[W.heap.size]? = some (.cells (rwC r.k r.c r.neg A n cp r.t (some ⟨g, o, none⟩) m cap) 27 (0, 0)) from ac (hN W _) _)
 have HB2 := hid (show ((W.alloc (.cells (rwC r.k r.c r.neg A n cp r.t (some ⟨g, o, none⟩) m cap) 27)).alloc (.cells (rwC 0 0 false none 0 0 ⟨#[]⟩ none 0 0) 27)).heap[W.heap.size + 1]? = some (.cells (rwC 0 0 false none 0 0 ⟨#[]⟩ none 0 0) 27 (0, 0)) from by have := hN (W.alloc (.cells (rwC r.k r.c r.neg A n cp r.t (some ⟨g, o, none⟩) m cap) 27)) (.cells (rwC 0 0 false none 0 0 ⟨#[]⟩ none 0 0) 27); rwa [World.size_alloc] at this)
 have HK1 := hid (show K0 W ((W.alloc (.cells (rwC r.k r.c r.neg A n cp r.t (some ⟨g, o, none⟩) m cap) 27)).alloc (.cells (rwC 0 0 false none 0 0 ⟨#[]⟩ none 0 0) 27)) from (kR.alloc _).alloc _)
 obtain ⟨⟨a0, a1, a2, a3, a4, a5⟩, _⟩ := ab HB1.out
 go_enter Tryz.func131, Tryz.ntmps131
 go_wp2_with fail
 refine (fa A n cp r.mag _ (HN.out.keep0 HK1.out)).mono ?_
 rintro e w2 ⟨A1, n1, cp1, rfl, hown, k2⟩
 have HB12 := hid (k2.heap HB1.out id)
 have HB22 := hid (k2.heap HB2.out id)
 have hlt := ao HB2.out
 have KS : ah (fun b => b = W.heap.size) w2 (w2.setCell ⟨W.heap.size, 3, none⟩ (.slice A1 n1 cp1)) := ah.setCell (S := fun b => b = W.heap.size) (p := ⟨W.heap.size, 3, none⟩) kR (.inl rfl) _
 have hfr := hown.fresh
 have h126 : 0 < n1 -> ∀ b off, A1 = some ⟨b, off, none⟩ -> eC w2 b := by
  rintro hn b off rfl
  rcases hown.2 with ⟨hv, h0⟩ | ⟨g, cap, cur, hv, hg, hh, h1, h2⟩
  · omega
  · injection hv with e1 _ _
    injection e1 with e1
    injection e1 with e1
    subst e1
    exact ⟨cur, hh⟩
 have hl1 : aR w2 A1 n1 cp1 r.mag := hown.toLimbs HN.out.low (by have := hown.len; have := HN.out.len; have := HN.out.max; omega)
 have HST := hid (show CpS W r A1 n1 cp1 (some ⟨g, o, none⟩) m cap 0 [] none 0 (w2.setCell ⟨W.heap.size, 3, none⟩ (.slice A1 n1 cp1)) from ⟨rfl, Nat.zero_le _, ⟨rfl, .inl ⟨rfl, rfl⟩⟩, fun y hy => absurd hy (by simp), by simp [World.setCell, Array.getElem?_modify, HB12.out], KS.heap HB22.out (by omega), hl1.keep KS (fun hn b off e hb => by have := (hfr b off e).1; omega), fun hn b off e => (h126 hn b off e).keep KS (fun hb => by have := (hfr b off e).1; omega), (HK1.out.trans k2).into KS (by rintro b rfl; exact Nat.le_refl _)⟩)
 obtain ⟨⟨z0, z1, z2, z3, z4, z5⟩, y0, y1, y2, y3, y4, y5⟩ := ab HB12.out
 clear hown k2 hlt KS hfr h126 hl1 a0 a1 a2 a3 a4 a5
 try dsimp only
 go_wp2_with fail
 clear z0 z1 z2 z3 z4 z5 y0 y1 y2 y3 y4 y5
 generalize w2.setCell ⟨W.heap.size, 3, none⟩ (.slice A1 n1 cp1) = w3 at *
 go_loopw [3, 15] (fun lv iv wr => ∃ (i rc : Nat) (xs : List (Raw × PV)) (R : Option Addr), lv = .slice R i rc /\ iv = .int .i64 (i : Int) /\ CpS W r A1 n1 cp1 (some ⟨g, o, none⟩) m cap i xs R rc wr) (fun _ iv _ => m - (intOf iv).toNat)
 case atStart => exact ⟨0, 0, [], none, rfl, rfl, HST.out⟩
 case round =>
  obtain ⟨i, rc, xs, R, rfl, rfl, hst⟩ := hrel
  have HS := hid hst
  have hrc := cT hst.own
  clear hst HST
  by_cases hlt : i < m
  · skip
    have l1 : decide ((i : Int) < (m : Int)) = true := dT (by omega)
    have l2 : decide (i < m) = true := dT hlt
    have hi : i < r.l.length := by rw [HLEN.out]; exact hlt
    obtain ⟨y, hy⟩ : ∃ y, y = r.l[i] := ⟨_, rfl⟩
    obtain ⟨v, hv⟩ : ∃ v, v = vs i := ⟨_, rfl⟩
    have hic := (HROW.out i hi).keep (HW.out.trans HS.out.K) id
    rw [<- hy, <- hv] at hic
    obtain ⟨r0, r1, r2, r3, r4, r5⟩ := hic.cells
    have HIH := hid (fun (W' : World) (K : K0 wr W') => (show Calls Tryz.prog 131 #[bT y v] W' (fd y W') from by rw [hy, hv]; exact IH.out i hi W' ((HW.out.trans HS.out.K).trans K)))
    have HY := hid hy
    have hi0 : (0 : Int) <= (i : Int) := Int.natCast_nonneg _
    have hi1 : (i : Int) < (m : Int) := by omega
    obtain ⟨⟨c0, c1, c2, c3, c4, c5⟩, _⟩ := ab (hN wr (.cells (rwC y.k y.c y.neg v.A v.n v.cp y.t v.B v.m v.cap) 27))
    clear hic hy hv
    go_wp2_with fail
    refine (HIH.out _ (kR.alloc _)).mono ?_
    rintro e w4 ⟨v2, rfl, hd2, k4⟩
    have K6 := hid ((((ah.refl (fun _ => False) wr).alloc (.cells (rwC y.k y.c y.neg v.A v.n v.cp y.t v.B v.m v.cap) 27)).trans k4).alloc (.cells (rwC y.k y.c y.neg v2.A v2.n v2.cp y.t v2.B v2.m v2.cap) 27))
    have HOWN := hid (bH HS.out.own K6.out (fun _ _ => id))
    have HNEW := hid (fU (hN w4 (.cells (rwC y.k y.c y.neg v2.A v2.n v2.cp y.t v2.B v2.m v2.cap) 27)))
    have HBASE := hid (show W.heap.size + 2 <= (w4.alloc (.cells (rwC y.k y.c y.neg v2.A v2.n v2.cp y.t v2.B v2.m v2.cap) 27)).heap.size from by have := K6.out.size; have := ao HS.out.h2; omega)
    have HD6 := hid (show au (fun b => wr.heap.size <= b) (w4.alloc (.cells (rwC y.k y.c y.neg v2.A v2.n v2.cp y.t v2.B v2.m v2.cap) 27)) y v2 from (hd2.keep0 (kR.alloc _)).mono (fun b _ hb => by simp at hb; omega))
    clear hd2 k4 r0 r1 r2 r3 r4 r5 c0 c1 c2 c3 c4 c5
    have hrow27 : (i + 1) * 88 <= 140737488355328 := by omega
    try dsimp only
    go_wp2_with (at_builtin; refine wpList_append_own_at _ rfl (.tmp 19) (.tmp 22) 25 rfl (W.heap.size + 2) 27 i27 (.agg (rwC 0 0 false none 0 0 ⟨#[]⟩ none 0 0)) 6 88 Tryz.underlying25 h27 hz0 hz1 hz2 rfl (by decide) _ _ _ rfl HOWN.out ⟨w4.heap.size, 0, none⟩ 1 1 [.int .i64 y.k, .int .i32 y.c, .bool y.neg, .slice v2.A v2.n v2.cp, .string y.t, .slice v2.B v2.m v2.cap] rfl rfl HNEW.out ?a1 ?a2 ?a3 HBASE.out ?_)
    case a1 => intro u hu; simp only [List.mem_cons, List.not_mem_nil, or_false] at hu; rcases hu with rfl | rfl | rfl | rfl | rfl | rfl <;> rfl
    case a2 => unfold maxLen; omega
    case a3 => omega
    intro v' w6 hown hgrow _ hblk
    obtain ⟨A3, c3, rfl, HM⟩ := HS.out.item hi K6.out (by rw [<- HY.out]; exact HD6.out) (by rw [<- HY.out]; exact hown) hgrow (by rw [World.size_alloc]; exact hblk)
    have HMM := hid HM
    clear hown hgrow HM hblk hrow27
    go_wp2_with fail
    go_roundw
    case rel => exact ⟨i + 1, c3, _, A3, rfl, by go_num, HMM.out⟩
    case measure => simp only [intOf]; omega
  · skip
    have l1 : decide ((i : Int) < (m : Int)) = false := dF (by omega)
    have l2 : decide (i < m) = false := dF (by omega)
    have him : i = m := by have := HS.out.le; have := HLEN.out; omega
    subst him
    have hsz := HLEN.out
    have HB1 := hid HS.out.h1
    have KS : ah (fun b => b = W.heap.size) wr (wr.setCell ⟨W.heap.size, 5, none⟩ (.slice R i rc)) := ah.setCell (S := fun b => b = W.heap.size) (p := ⟨W.heap.size, 5, none⟩) kR (.inl rfl) _
    obtain ⟨⟨z0, z1, z2, z3, z4, z5⟩, y0, y1, y2, y3, y4, y5⟩ := ab HS.out.h1
    obtain ⟨⟨b0, b1, b2, b3, b4, b5⟩, f0, f1, f2, f3, f4, f5⟩ := ab HS.out.h2
    have HB2s := hid (KS.heap HS.out.h2 (by omega))
    have HD := hid (HS.out.out hsz hbig)
    have HKE := hid (HS.out.K.into KS (by rintro b rfl; exact Nat.le_refl _))
    have HE := hid (bN HKE.out (show W.heap.size <= W.heap.size + 1 by omega) (.int .i64 r.k) (.int .i32 r.c) (.bool r.neg) (.slice A1 n1 cp1) (.string r.t) (.slice R i rc))
    have HR := hid (ab (aQ HB2s.out (.int .i64 r.k) (.int .i32 r.c) (.bool r.neg) (.slice A1 n1 cp1) (.string r.t) (.slice R i rc))).1
    have HKS := hid KS
    clear KS hsz
    go_wp2_with fail
    refine bodyPost_ret (v := .agg (rwC r.k r.c r.neg A1 n1 cp1 r.t R i rc)) ?_ rfl ?_
    · obtain ⟨e0, e1, e2, e3, e4, e5⟩ := HR.out
      simp [results, Tryz.results131, go_sem, e0, e1, e2, e3, e4, e5]
    · refine ⟨⟨A1, n1, cp1, R, i, rc⟩, rfl, ?_, HE.out⟩
      refine ((HD.out.keep HKS.out ?_).keep (aq _ _ (.int .i64 r.k) (.int .i32 r.c) (.bool r.neg) (.slice A1 n1 cp1) (.string r.t) (.slice R i rc)) ?_).mono (fun b _ hb => by omega)
      · rintro b rfl
        exact ⟨by omega, ax HB1.out (by decide)⟩
      · rintro b rfl
        exact ⟨by omega, ax HB2s.out (by decide)⟩
theorem lx (r : Raw) (A : Option Addr) (n cp : Nat) (B : Option Addr) (m cap : Nat) (_vs : Nat -> PV) (w W : World) (_HW : Hid (K0 w W)) (HN : Hid (aR W A n cp r.mag)) (HLEN : Hid (r.l.length = m)) (hcap : m <= cap) (hbig : m * 88 <= 140737488351232) (hm : m = 0) : Calls Tryz.prog 131 #[.agg (rwC r.k r.c r.neg A n cp r.t B m cap)] W (fd r W) := by
 have HM0 := hid hm
 clear hm
 have HB1 := hid (show ((W.alloc (.cells (rwC r.k r.c r.neg A n cp r.t B m cap) 27)).alloc (.cells (rwC 0 0 false none 0 0 ⟨#[]⟩ none 0 0) 27)).heap[W.heap.size]? = some (.cells (rwC r.k r.c r.neg A n cp r.t B m cap) 27 (0, 0)) from ac (hN W _) _)
 have HB2 := hid (show ((W.alloc (.cells (rwC r.k r.c r.neg A n cp r.t B m cap) 27)).alloc (.cells (rwC 0 0 false none 0 0 ⟨#[]⟩ none 0 0) 27)).heap[W.heap.size + 1]? = some (.cells (rwC 0 0 false none 0 0 ⟨#[]⟩ none 0 0) 27 (0, 0)) from by have := hN (W.alloc (.cells (rwC r.k r.c r.neg A n cp r.t B m cap) 27)) (.cells (rwC 0 0 false none 0 0 ⟨#[]⟩ none 0 0) 27); rwa [World.size_alloc] at this)
 have HK1 := hid (show K0 W ((W.alloc (.cells (rwC r.k r.c r.neg A n cp r.t B m cap) 27)).alloc (.cells (rwC 0 0 false none 0 0 ⟨#[]⟩ none 0 0) 27)) from (kR.alloc _).alloc _)
 obtain ⟨⟨a0, a1, a2, a3, a4, a5⟩, _⟩ := ab HB1.out
 go_enter Tryz.func131, Tryz.ntmps131
 go_wp2_with fail
 refine (fa A n cp r.mag _ (HN.out.keep0 HK1.out)).mono ?_
 rintro e w2 ⟨A1, n1, cp1, rfl, hown, k2⟩
 have HB12 := hid (k2.heap HB1.out id)
 have HB22 := hid (k2.heap HB2.out id)
 have hlt := ao HB2.out
 have KS : ah (fun b => b = W.heap.size) w2 (w2.setCell ⟨W.heap.size, 3, none⟩ (.slice A1 n1 cp1)) := ah.setCell (S := fun b => b = W.heap.size) (p := ⟨W.heap.size, 3, none⟩) kR (.inl rfl) _
 have hfr := hown.fresh
 have h126 : 0 < n1 -> ∀ b off, A1 = some ⟨b, off, none⟩ -> eC w2 b := by
  rintro hn b off rfl
  rcases hown.2 with ⟨hv, h0⟩ | ⟨g, cap, cur, hv, hg, hh, h1, h2⟩
  · omega
  · injection hv with e1 _ _
    injection e1 with e1
    injection e1 with e1
    subst e1
    exact ⟨cur, hh⟩
 have hl1 : aR w2 A1 n1 cp1 r.mag := hown.toLimbs HN.out.low (by have := hown.len; have := HN.out.len; have := HN.out.max; omega)
 have HST := hid (show CpS W r A1 n1 cp1 B m cap 0 [] none 0 (w2.setCell ⟨W.heap.size, 3, none⟩ (.slice A1 n1 cp1)) from ⟨rfl, Nat.zero_le _, ⟨rfl, .inl ⟨rfl, rfl⟩⟩, fun y hy => absurd hy (by simp), by simp [World.setCell, Array.getElem?_modify, HB12.out], KS.heap HB22.out (by omega), hl1.keep KS (fun hn b off e hb => by have := (hfr b off e).1; omega), fun hn b off e => (h126 hn b off e).keep KS (fun hb => by have := (hfr b off e).1; omega), (HK1.out.trans k2).into KS (by rintro b rfl; exact Nat.le_refl _)⟩)
 obtain ⟨⟨z0, z1, z2, z3, z4, z5⟩, y0, y1, y2, y3, y4, y5⟩ := ab HB12.out
 clear hown k2 hlt KS hfr h126 hl1 a0 a1 a2 a3 a4 a5
 try dsimp only
 go_wp2_with fail
 clear z0 z1 z2 z3 z4 z5 y0 y1 y2 y3 y4 y5
 generalize w2.setCell ⟨W.heap.size, 3, none⟩ (.slice A1 n1 cp1) = w3 at *
 go_loopw [3, 15] (fun lv iv wr => ∃ (i rc : Nat) (xs : List (Raw × PV)) (R : Option Addr), lv = .slice R i rc /\ iv = .int .i64 (i : Int) /\ CpS W r A1 n1 cp1 B m cap i xs R rc wr) (fun _ iv _ => m - (intOf iv).toNat)
 case atStart => exact ⟨0, 0, [], none, rfl, rfl, HST.out⟩
 case round =>
  obtain ⟨i, rc, xs, R, rfl, rfl, hst⟩ := hrel
  have HS := hid hst
  have hrc := cT hst.own
  clear hst HST
  by_cases hlt : i < m
  · have := HM0.out
    omega
  · skip
    have l1 : decide ((i : Int) < (m : Int)) = false := dF (by omega)
    have l2 : decide (i < m) = false := dF (by omega)
    have him : i = m := by have := HS.out.le; have := HLEN.out; omega
    subst him
    have hsz := HLEN.out
    have HB1 := hid HS.out.h1
    have KS : ah (fun b => b = W.heap.size) wr (wr.setCell ⟨W.heap.size, 5, none⟩ (.slice R i rc)) := ah.setCell (S := fun b => b = W.heap.size) (p := ⟨W.heap.size, 5, none⟩) kR (.inl rfl) _
    obtain ⟨⟨z0, z1, z2, z3, z4, z5⟩, y0, y1, y2, y3, y4, y5⟩ := ab HS.out.h1
    obtain ⟨⟨b0, b1, b2, b3, b4, b5⟩, f0, f1, f2, f3, f4, f5⟩ := ab HS.out.h2
    have HB2s := hid (KS.heap HS.out.h2 (by omega))
    have HD := hid (HS.out.out hsz hbig)
    have HKE := hid (HS.out.K.into KS (by rintro b rfl; exact Nat.le_refl _))
    have HE := hid (bN HKE.out (show W.heap.size <= W.heap.size + 1 by omega) (.int .i64 r.k) (.int .i32 r.c) (.bool r.neg) (.slice A1 n1 cp1) (.string r.t) (.slice R i rc))
    have HR := hid (ab (aQ HB2s.out (.int .i64 r.k) (.int .i32 r.c) (.bool r.neg) (.slice A1 n1 cp1) (.string r.t) (.slice R i rc))).1
    have HKS := hid KS
    clear KS hsz
    go_wp2_with fail
    refine bodyPost_ret (v := .agg (rwC r.k r.c r.neg A1 n1 cp1 r.t R i rc)) ?_ rfl ?_
    · obtain ⟨e0, e1, e2, e3, e4, e5⟩ := HR.out
      simp [results, Tryz.results131, go_sem, e0, e1, e2, e3, e4, e5]
    · refine ⟨⟨A1, n1, cp1, R, i, rc⟩, rfl, ?_, HE.out⟩
      refine ((HD.out.keep HKS.out ?_).keep (aq _ _ (.int .i64 r.k) (.int .i32 r.c) (.bool r.neg) (.slice A1 n1 cp1) (.string r.t) (.slice R i rc)) ?_).mono (fun b _ hb => by omega)
      · rintro b rfl
        exact ⟨by omega, ax HB1.out (by decide)⟩
      · rintro b rfl
        exact ⟨by omega, ax HB2s.out (by decide)⟩
theorem ms {N P : Nat -> Prop} {w : World} {r : Raw} {p : PV} (h : bo N P w r p) : ∀ W : World, K0 w W -> Calls Tryz.prog 131 #[bT r p] W (fd r W) := by
 induction h with
 | @mk r p num nP len mcap big vs row ch ih =>
  intro W hW
  obtain ⟨A, n, cp, B, m, cap⟩ := p
  rcases Nat.eq_zero_or_pos m with hm | hm
  · exact lx r A n cp B m cap vs w W (hid hW) (hid (num.keep0 hW)) (hid len) mcap big hm
  · obtain ⟨g, o, e, _, hrow⟩ := row hm
    have e : B = some ⟨g, o, none⟩ := e
    subst e
    exact lw r A n cp g o m cap vs w W (hid hW) (hid (num.keep0 hW)) (hid len) mcap big (hid hrow) (hid (fun i h W' K => ih i h W' K))
end Go.Proofs.YtonnikipeokkaaaGreatDoor
