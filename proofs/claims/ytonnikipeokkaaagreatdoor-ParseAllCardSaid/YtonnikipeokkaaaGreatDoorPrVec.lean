import Derived.Test.YtonnikipeokkaaaGreatDoorPaLst
namespace Go.Proofs.YtonnikipeokkaaaGreatDoor
set_option maxRecDepth 100000
set_option maxHeartbeats 40000000
open Go.Lib (hid)
open Go.RowKit Go.Lib
structure km (l : List UInt8) (o deep : Nat) (r : Got) (tc : Array Value) (w : World) (i : Nat) (xs : List (Raw × PV)) (A : Option Addr) (n cap : Nat) (wr : World) : Prop where
 rd : Rd l (.vec o deep i (xs.map Prod.fst)) r
 cnt : n = xs.length
 ile : i <= l.length
 h4 : wr.heap[w.heap.size]? = some (.cells tc 29 (0, 0))
 h6 : wr.heap[w.heap.size + 1]? = some (.cells (gtC 0 0 false none 0 0 ⟨#[]⟩ none 0 0 0 0 0) 43 (0, 0))
 h8 : wr.heap[w.heap.size + 2]? = some (.cells (rwC 8 0 false none 0 0 ⟨#[]⟩ A n cap) 27 (0, 0))
 own : wr.ownsRow (w.heap.size + 3) 27 6 (.slice A n cap) n (xs.flatMap dD)
 items : ∀ y ∈ xs, au (Oth (w.heap.size + 3) (.slice A n cap)) wr y.1 y.2
 K : K0 w wr
 le : n <= i
 cnt62 : n <= 62
theorem km.lt {l : List UInt8} {o deep : Nat} {r : Got} {tc : Array Value} {w : World} {i : Nat} {xs : List (Raw × PV)} {A : Option Addr} {n cap : Nat} {wr : World} (h : km l o deep r tc w i xs A n cap wr) : w.heap.size + 2 < wr.heap.size := ao h.h8
theorem km.vec {l : List UInt8} {o deep : Nat} {r : Got} {tc : Array Value} {w : World} {i : Nat} {xs : List (Raw × PV)} {A : Option Addr} {n cap : Nat} {wr : World} (h : km l o deep r tc w i xs A n cap wr) {w2 : World} (K : K0 wr w2) : au (fun b => w.heap.size + 3 <= b) w2 (ne (xs.map Prod.fst)) ⟨none, 0, 0, A, n, cap⟩ := by
 have hl : (ne (xs.map Prod.fst)).l = xs.map Prod.fst := rfl
 have h62 := h.cnt62
 refine .mk (ei w2) (fun h => absurd h (Nat.lt_irrefl _)) (by rw [hl, List.length_map]; exact h.cnt.symm) (cT h.own) (by show n * 88 <= _; omega) (fun i => (xs.getD i (.nil, PV.none)).2) (fun hm => ?_) ?_
 · obtain ⟨g, rfl, hg⟩ := d6 h.own hm
   refine ⟨g, 0, rfl, hg, fun i hi => ?_⟩
   have hi2 : i < xs.length := by rw [hl, List.length_map] at hi; exact hi
   have := (eX h.own hi2).keep K id
   simp only [hl, List.getElem_map]
   rw [gD, gE hi2]
   exact this
 · intro i hi
   have hi2 : i < xs.length := by rw [hl, List.length_map] at hi; exact hi
   simp only [hl, List.getElem_map]
   rw [gD, gE hi2]
   exact ((h.items _ (List.getElem_mem hi2)).keep0 K).mono (fun b _ hb => hb.1)
theorem km.item {l : List UInt8} {o deep : Nat} {r : Got} {tc : Array Value} {w : World} {i : Nat} {xs : List (Raw × PV)} {A : Option Addr} {n cap : Nat} {wr : World} {w2 w3 : World} {d : Raw} {p : PV} (h : km l o deep r tc w i xs A n cap wr) (K : K0 wr w2) {i' : Nat} (rd : Rd l (.vec o deep i' (xs.map Prod.fst ++ [d])) r) (hi : i < i') (hl : i' <= l.length) (hn : n ≠ 62)
 (hd : au (fun b => wr.heap.size <= b) w2 d p) {v' : Value} (hown : w3.ownsRow (w.heap.size + 3) 27 6 v' (n + 1) (xs.flatMap dD ++ dD (d, p))) (hg : w2.grownBy w3 (Value.slice A n cap).ownBlock) (hb : v'.ownBlock = (Value.slice A n cap).ownBlock \/ v'.ownBlock = some w2.heap.size) :
 ∃ A' c', v' = .slice A' (n + 1) c' /\ w3.heap[w.heap.size + 2]? = some (.cells (rwC 8 0 false none 0 0 ⟨#[]⟩ A n cap) 27 (0, 0)) /\ km l o deep r tc w i' (xs ++ [(d, p)]) A' (n + 1) c' (w3.setCell ⟨w.heap.size + 2, 5, none⟩ v') := by
 obtain ⟨A', c', rfl⟩ := eo hown
 have hoff := cE h.own
 have hoff2 := cE (bH h.own K (fun _ _ => id))
 have hoff3 := cE hown
 have KG : ah (fun b => (Value.slice A n cap).ownBlock = some b) w2 w3 := kR.grown hg (fun k hk => .inl hk)
 have hlt := h.lt
 have hs := K.size
 have h8 : w3.heap[w.heap.size + 2]? = some (.cells (rwC 8 0 false none 0 0 ⟨#[]⟩ A n cap) 27 (0, 0)) := KG.heap (K.heap h.h8 id) (fun hb => by have := (hoff _ hb).1; omega)
 have KS : ah (fun b => b = w.heap.size + 2) w3 (w3.setCell ⟨w.heap.size + 2, 5, none⟩ (.slice A' (n + 1) c')) := ah.setCell (S := fun b => b = w.heap.size + 2) (p := ⟨w.heap.size + 2, 5, none⟩) kR (.inl rfl) _
 have key : ∀ y q, au (Oth (w.heap.size + 3) (.slice A n cap)) w2 y q -> au (Oth (w.heap.size + 3) (.slice A' (n + 1) c')) w3 y q := fun y q hy => by
  have h1 : au (fun b => Oth (w.heap.size + 3) (.slice A n cap) b /\ b < w2.heap.size) w2 y q := hy.mono (fun b hb ho => ⟨ho, hb⟩)
  refine (h1.keep KG (fun b hb => ⟨fun hq => hq.1.2 hb, (hoff2 b hb).2.2⟩)).mono (fun b _ hq => ⟨hq.1.1, fun e => ?_⟩)
  rcases hb with hb | hb
  · rw [hb] at e; exact hq.1.2 e
  · rw [hb] at e; injection e with e; omega
 have key2 : ∀ y q, au (Oth (w.heap.size + 3) (.slice A' (n + 1) c')) w3 y q -> au (Oth (w.heap.size + 3) (.slice A' (n + 1) c')) (w3.setCell ⟨w.heap.size + 2, 5, none⟩ (.slice A' (n + 1) c')) y q := fun y q hy => hy.keep KS (by rintro b rfl; exact ⟨fun hq => by have := hq.1; omega, ax h8 (by decide)⟩)
 have h62 := h.cnt62
 refine ⟨A', c', rfl, h8, by rw [List.map_append]; exact rd, by rw [List.length_append, h.cnt]; rfl, hl, KS.heap (KG.heap (K.heap h.h4 id) (fun hb => by have := (hoff _ hb).1; omega)) (by omega), KS.heap (KG.heap (K.heap h.h6 id) (fun hb => by have := (hoff _ hb).1; omega)) (by omega), by simp [World.setCell, Array.getElem?_modify, h8], bH (by rw [List.flatMap_append]; simpa using hown) KS (fun b hb e => by have := (hoff3 b hb).1; omega), ?_, ((h.K.trans K).grown hg (fun k hk => .inr (by have := (hoff k hk).1; omega))).into KS (by rintro b rfl; omega), by have := h.le; omega, by omega⟩
 intro y hy
 rcases List.mem_append.1 hy with hy | hy
 · exact key2 _ _ (key _ _ ((h.items y hy).keep0 K))
 · rw [List.mem_singleton.1 hy]
   exact key2 _ _ (key d p (hd.mono (fun b _ hb => ⟨by omega, fun e => by have := (hoff b e).2.1; omega⟩)))
theorem oF (s : ByteArray) (m : Nat) (IH : p5 s m) (o deep i0 : Nat) (sq : Bool) (r : Got) (hi0 : i0 <= s.size) (hm : s.size <= i0 + m) (hdp : deep <= 64) (hr : Rd s.data.toList (.vec o deep i0 []) r) (kind : Int) (k c : Int) (neg : Bool) (A0 : Option Addr) (n0 cp0 : Nat) (x : ByteArray) (w : World) :
 Calls Tryz.prog 73 #[.string s, ar kind (o : Int) (i0 : Int) sq k c neg A0 n0 cp0 x, .int .i64 (deep : Int)] w (bd r w) := by
 have HZ := hid (show s.data.toList.length = s.size from (Lib.size_eq s).symm)
 have HNX := hid (fun (i : Nat) (W : World) => fN s (i : Int) W)
 have HST := hid (show km s.data.toList o deep r (tkC kind (o : Int) (i0 : Int) sq k c neg A0 n0 cp0 x none 0 0) w i0 [] none 0 0 (((w.alloc (.cells (tkC kind (o : Int) (i0 : Int) sq k c neg A0 n0 cp0 x none 0 0) 29)).alloc (.cells (gtC 0 0 false none 0 0 ⟨#[]⟩ none 0 0 0 0 0) 43)).alloc (.cells (rwC 8 0 false none 0 0 ⟨#[]⟩ none 0 0) 27)) from ⟨hr, rfl, by rw [HZ.out]; exact hi0, ac (ac (hN w _) _) _, ac (by have := hN (w.alloc (.cells (tkC kind (o : Int) (i0 : Int) sq k c neg A0 n0 cp0 x none 0 0) 29)) (.cells (gtC 0 0 false none 0 0 ⟨#[]⟩ none 0 0 0 0 0) 43); rwa [World.size_alloc] at this) _, by have := hN ((w.alloc (.cells (tkC kind (o : Int) (i0 : Int) sq k c neg A0 n0 cp0 x none 0 0) 29)).alloc (.cells (gtC 0 0 false none 0 0 ⟨#[]⟩ none 0 0 0 0 0) 43)) (.cells (rwC 8 0 false none 0 0 ⟨#[]⟩ none 0 0) 27); rwa [World.size_alloc, World.size_alloc] at this, ⟨rfl, .inl ⟨rfl, rfl⟩⟩, fun y hy => absurd hy (by simp), ((kR.alloc _).alloc _).alloc _, Nat.zero_le _, Nat.zero_le _⟩)
 obtain ⟨⟨a0, a1, a2, a3, a4, a5, a6, a7, a8, a9⟩, _⟩ := aa HST.out.h4
 clear hr
 obtain ⟨i27, h27, hz0, hz1, hz2⟩ := info_parts gQ
 go_enter Tryz.func73, Tryz.ntmps73
 go_wp2_with fail
 clear a0 a1 a2 a3 a4 a5 a6 a7 a8 a9
 generalize (((w.alloc (.cells (tkC kind (o : Int) (i0 : Int) sq k c neg A0 n0 cp0 x none 0 0) 29)).alloc (.cells (gtC 0 0 false none 0 0 ⟨#[]⟩ none 0 0 0 0 0) 43)).alloc (.cells (rwC 8 0 false none 0 0 ⟨#[]⟩ none 0 0) 27)) = w1 at *
 go_loopw [8] (fun iv wr => ∃ (i n cap : Nat) (xs : List (Raw × PV)) (A : Option Addr), iv = .int .i64 (i : Int) /\ i0 <= i /\ km s.data.toList o deep r (tkC kind (o : Int) (i0 : Int) sq k c neg A0 n0 cp0 x none 0 0) w i xs A n cap wr) (fun iv _ => s.size - (intOf iv).toNat)
 case atStart => exact ⟨i0, 0, 0, [], none, rfl, Nat.le_refl _, HST.out⟩
 case round =>
  obtain ⟨i, n, cap, xs, A, rfl, hii, hst⟩ := hrel
  have HS := hid hst
  have hrd := hst.rd
  have HCAP := hid (cT hst.own)
  have hcap := cT hst.own
  have HI := hid (show i <= s.size by rw [<- HZ.out]; exact hst.ile)
  clear hst HST
  go_wp2_with fail
  refine (HNX.out i _).mono ?_
  intro e w2 hres
  obtain ⟨items, hit⟩ : ∃ items, items = xs.map Prod.fst := ⟨_, rfl⟩
  rw [<- hit] at hrd
  have HIT := hid hit
  have HLEN := hid (show n = items.length by rw [hit, List.length_map]; exact HS.out.cnt)
  clear hit
  cases hrd with
  | @vecLex _ _ _ q cc _ nn =>
   rw [nn] at hres
   obtain ⟨rfl, k2⟩ := hres
   have g0 : ((cc : Int) != 0) = true := by have := ej nn; simp; omega
   have HB4 := hid (ac (k2.heap HS.out.h4 id) (.cells (tkC 0 0 0 false 0 0 false none 0 0 ⟨#[]⟩ none 0 0) 29))
   have HB6 := hid (ac (k2.heap HS.out.h6 id) (.cells (tkC 0 0 0 false 0 0 false none 0 0 ⟨#[]⟩ none 0 0) 29))
   have HB8 := hid (ac (k2.heap HS.out.h8 id) (.cells (tkC 0 0 0 false 0 0 false none 0 0 ⟨#[]⟩ none 0 0) 29))
   have HBT := hid (hN w2 (.cells (tkC 0 0 0 false 0 0 false none 0 0 ⟨#[]⟩ none 0 0) 29))
   have K2w := hid k2.size
   have K2 := hid (k2.alloc (.cells (tkC 0 0 0 false 0 0 false none 0 0 ⟨#[]⟩ none 0 0) 29))
   have HK2 := hid (HS.out.K.trans K2.out)
   clear k2
   try dsimp only
   go_wp2_with fail
   refine (bD (q : Int) (cc : Int) _).mono ?_
   rintro e w5 ⟨rfl, k5⟩
   have HB65 := hid (k5.heap HB6.out id)
   have HK5 := hid (HK2.out.trans k5)
   clear k5
   obtain ⟨⟨z0, z1, z2, z3, z4, z5, z6, z7, z8⟩, y0, y1, y2, y3, y4, y5, y6, y7, y8⟩ := aj HB65.out
   have HE := hid (aB HK5.out (show w.heap.size <= w.heap.size + 1 by omega) (.int .i64 0) (.int .i32 0) (.bool false) (.slice none 0 0) (.string ⟨#[]⟩) (.slice none 0 0) (.int .i64 0) (.int .i64 (q : Int)) (.int .i64 (cc : Int)))
   have HR := hid (aj (aM HB65.out (.int .i64 0) (.int .i32 0) (.bool false) (.slice none 0 0) (.string ⟨#[]⟩) (.slice none 0 0) (.int .i64 0) (.int .i64 (q : Int)) (.int .i64 (cc : Int)))).1
   try dsimp only
   go_wp2_with fail
   refine bodyPost_ret (v := .agg (gtC 0 0 false none 0 0 ⟨#[]⟩ none 0 0 0 (q : Int) (cc : Int))) ?_ rfl ?_
   · obtain ⟨e0, e1, e2, e3, e4, e5, e6, e7, e8⟩ := HR.out
     simp [results, Tryz.results73, go_sem, e0, e1, e2, e3, e4, e5, e6, e7, e8]
   · exact ⟨rfl, HE.out⟩
  | @vecEnd _ _ _ kk u _ nn hu =>
   rw [nn] at hres
   obtain ⟨dk, dc, dneg, A2, n2, cp2, x2, he, hlf, k2⟩ := hres
   obtain ⟨uk, huk⟩ : ∃ z : Int, z = (u.kind : Int) := ⟨_, rfl⟩
   obtain ⟨ua, hua⟩ : ∃ z : Int, z = (kk : Int) := ⟨_, rfl⟩
   obtain ⟨ue, hue⟩ : ∃ z : Int, z = ((kk + u.len : Nat) : Int) := ⟨_, rfl⟩
   obtain ⟨uq, huq⟩ : ∃ z : Bool, z = u.sq := ⟨_, rfl⟩
   rw [<- huk, <- hua, <- hue, <- huq] at he
   subst he
   have HUA := hid hua
   have HUE := hid hue
   have hzz : ((0 : Int) != 0) = false := by decide
   have p0 : (uk == 0) = true := by rw [huk, hu]; rfl
   have HB4 := hid (ac (k2.heap HS.out.h4 id) (.cells (tkC uk ua ue uq dk dc dneg A2 n2 cp2 x2 none 0 0) 29))
   have HB6 := hid (ac (k2.heap HS.out.h6 id) (.cells (tkC uk ua ue uq dk dc dneg A2 n2 cp2 x2 none 0 0) 29))
   have HB8 := hid (ac (k2.heap HS.out.h8 id) (.cells (tkC uk ua ue uq dk dc dneg A2 n2 cp2 x2 none 0 0) 29))
   have HBT := hid (hN w2 (.cells (tkC uk ua ue uq dk dc dneg A2 n2 cp2 x2 none 0 0) 29))
   have K2w := hid k2.size
   have K2 := hid (k2.alloc (.cells (tkC uk ua ue uq dk dc dneg A2 n2 cp2 x2 none 0 0) 29))
   have HK2 := hid (HS.out.K.trans K2.out)
   clear k2
   obtain ⟨⟨b0, b1, b2, b3, b4, b5, b6, b7, b8, b9⟩, _⟩ := aa HBT.out
   obtain ⟨⟨a0, a1, a2, a3, a4, a5, a6, a7, a8, a9⟩, _⟩ := aa HB4.out
   clear hu huk hua hue huq hlf
   try dsimp only
   go_wp2_with fail
   refine (bD (o : Int) 11 _).mono ?_
   rintro e w5 ⟨rfl, k5⟩
   have HB65 := hid (k5.heap HB6.out id)
   have HK5 := hid (HK2.out.trans k5)
   clear k5
   obtain ⟨⟨z0, z1, z2, z3, z4, z5, z6, z7, z8⟩, y0, y1, y2, y3, y4, y5, y6, y7, y8⟩ := aj HB65.out
   have HE := hid (aB HK5.out (show w.heap.size <= w.heap.size + 1 by omega) (.int .i64 0) (.int .i32 0) (.bool false) (.slice none 0 0) (.string ⟨#[]⟩) (.slice none 0 0) (.int .i64 0) (.int .i64 (o : Int)) (.int .i64 11))
   have HR := hid (aj (aM HB65.out (.int .i64 0) (.int .i32 0) (.bool false) (.slice none 0 0) (.string ⟨#[]⟩) (.slice none 0 0) (.int .i64 0) (.int .i64 (o : Int)) (.int .i64 11))).1
   try dsimp only
   go_wp2_with fail
   refine bodyPost_ret (v := .agg (gtC 0 0 false none 0 0 ⟨#[]⟩ none 0 0 0 (o : Int) 11)) ?_ rfl ?_
   · obtain ⟨e0, e1, e2, e3, e4, e5, e6, e7, e8⟩ := HR.out
     simp [results, Tryz.results73, go_sem, e0, e1, e2, e3, e4, e5, e6, e7, e8]
   · exact ⟨rfl, HE.out⟩
  | @vecBad _ _ _ kk u _ nn hu hb =>
   rw [nn] at hres
   obtain ⟨dk, dc, dneg, A2, n2, cp2, x2, he, hlf, k2⟩ := hres
   obtain ⟨uk, huk⟩ : ∃ z : Int, z = (u.kind : Int) := ⟨_, rfl⟩
   obtain ⟨ua, hua⟩ : ∃ z : Int, z = (kk : Int) := ⟨_, rfl⟩
   obtain ⟨ue, hue⟩ : ∃ z : Int, z = ((kk + u.len : Nat) : Int) := ⟨_, rfl⟩
   obtain ⟨uq, huq⟩ : ∃ z : Bool, z = u.sq := ⟨_, rfl⟩
   rw [<- huk, <- hua, <- hue, <- huq] at he
   subst he
   have HUA := hid hua
   have HUE := hid hue
   have hzz : ((0 : Int) != 0) = false := by decide
   have p0 : (uk == 0) = false := by rw [huk, hu]; rfl
   have p2 : (uk == 2) = true := by rw [huk, hu]; rfl
   have hx : true = uq := by rw [huq, hb]
   subst hx
   have HB4 := hid (ac (k2.heap HS.out.h4 id) (.cells (tkC uk ua ue true dk dc dneg A2 n2 cp2 x2 none 0 0) 29))
   have HB6 := hid (ac (k2.heap HS.out.h6 id) (.cells (tkC uk ua ue true dk dc dneg A2 n2 cp2 x2 none 0 0) 29))
   have HB8 := hid (ac (k2.heap HS.out.h8 id) (.cells (tkC uk ua ue true dk dc dneg A2 n2 cp2 x2 none 0 0) 29))
   have HBT := hid (hN w2 (.cells (tkC uk ua ue true dk dc dneg A2 n2 cp2 x2 none 0 0) 29))
   have K2w := hid k2.size
   have K2 := hid (k2.alloc (.cells (tkC uk ua ue true dk dc dneg A2 n2 cp2 x2 none 0 0) 29))
   have HK2 := hid (HS.out.K.trans K2.out)
   clear k2
   obtain ⟨⟨b0, b1, b2, b3, b4, b5, b6, b7, b8, b9⟩, _⟩ := aa HBT.out
   obtain ⟨⟨a0, a1, a2, a3, a4, a5, a6, a7, a8, a9⟩, _⟩ := aa HB4.out
   clear hu hb huk hua hue huq hlf
   try dsimp only
   go_wp2_with fail
   refine (bD ua 9 _).mono ?_
   rintro e w5 ⟨rfl, k5⟩
   have HB65 := hid (k5.heap HB6.out id)
   have HK5 := hid (HK2.out.trans k5)
   clear k5
   obtain ⟨⟨z0, z1, z2, z3, z4, z5, z6, z7, z8⟩, y0, y1, y2, y3, y4, y5, y6, y7, y8⟩ := aj HB65.out
   have HE := hid (aB HK5.out (show w.heap.size <= w.heap.size + 1 by omega) (.int .i64 0) (.int .i32 0) (.bool false) (.slice none 0 0) (.string ⟨#[]⟩) (.slice none 0 0) (.int .i64 0) (.int .i64 ua) (.int .i64 9))
   have HR := hid (aj (aM HB65.out (.int .i64 0) (.int .i32 0) (.bool false) (.slice none 0 0) (.string ⟨#[]⟩) (.slice none 0 0) (.int .i64 0) (.int .i64 ua) (.int .i64 9))).1
   try dsimp only
   go_wp2_with fail
   refine bodyPost_ret (v := .agg (gtC 0 0 false none 0 0 ⟨#[]⟩ none 0 0 0 ua 9)) ?_ rfl ?_
   · obtain ⟨e0, e1, e2, e3, e4, e5, e6, e7, e8⟩ := HR.out
     simp [results, Tryz.results73, go_sem, e0, e1, e2, e3, e4, e5, e6, e7, e8]
   · exact ⟨by rw [HUA.out]; rfl, HE.out⟩
  | @vecOk _ _ _ kk u _ nn hu hb =>
   rw [nn] at hres
   obtain ⟨dk, dc, dneg, A2, n2, cp2, x2, he, hlf, k2⟩ := hres
   obtain ⟨uk, huk⟩ : ∃ z : Int, z = (u.kind : Int) := ⟨_, rfl⟩
   obtain ⟨ua, hua⟩ : ∃ z : Int, z = (kk : Int) := ⟨_, rfl⟩
   obtain ⟨ue, hue⟩ : ∃ z : Int, z = ((kk + u.len : Nat) : Int) := ⟨_, rfl⟩
   obtain ⟨uq, huq⟩ : ∃ z : Bool, z = u.sq := ⟨_, rfl⟩
   rw [<- huk, <- hua, <- hue, <- huq] at he
   subst he
   have HUA := hid hua
   have HUE := hid hue
   have hzz : ((0 : Int) != 0) = false := by decide
   have p0 : (uk == 0) = false := by rw [huk, hu]; rfl
   have p2 : (uk == 2) = true := by rw [huk, hu]; rfl
   have hx : false = uq := by rw [huq, hb]
   subst hx
   have HB4 := hid (ac (k2.heap HS.out.h4 id) (.cells (tkC uk ua ue false dk dc dneg A2 n2 cp2 x2 none 0 0) 29))
   have HB6 := hid (ac (k2.heap HS.out.h6 id) (.cells (tkC uk ua ue false dk dc dneg A2 n2 cp2 x2 none 0 0) 29))
   have HB8 := hid (ac (k2.heap HS.out.h8 id) (.cells (tkC uk ua ue false dk dc dneg A2 n2 cp2 x2 none 0 0) 29))
   have HBT := hid (hN w2 (.cells (tkC uk ua ue false dk dc dneg A2 n2 cp2 x2 none 0 0) 29))
   have K2w := hid k2.size
   have K2 := hid (k2.alloc (.cells (tkC uk ua ue false dk dc dneg A2 n2 cp2 x2 none 0 0) 29))
   have HK2 := hid (HS.out.K.trans K2.out)
   clear k2
   obtain ⟨⟨b0, b1, b2, b3, b4, b5, b6, b7, b8, b9⟩, _⟩ := aa HBT.out
   obtain ⟨⟨a0, a1, a2, a3, a4, a5, a6, a7, a8, a9⟩, _⟩ := aa HB4.out
   obtain ⟨⟨h0, h1, h2, h3, h4, h5⟩, _⟩ := ab HB8.out
   have HVEC := hid (show au (fun b => w.heap.size + 3 <= b) (w2.alloc (.cells (tkC uk ua ue false dk dc dneg A2 n2 cp2 x2 none 0 0) 29)) (ne items) ⟨none, 0, 0, A, n, cap⟩ from by rw [HIT.out]; exact HS.out.vec K2.out)
   have HLT := hid HS.out.lt
   clear hu hb huk hua hue huq hlf
   obtain ⟨⟨z0, z1, z2, z3, z4, z5, z6, z7, z8⟩, y0, y1, y2, y3, y4, y5, y6, y7, y8⟩ := aj HB6.out
   have HE := hid (aB HK2.out (show w.heap.size <= w.heap.size + 1 by omega) (.int .i64 8) (.int .i32 0) (.bool false) (.slice none 0 0) (.string ⟨#[]⟩) (.slice A n cap) (.int .i64 ue) (.int .i64 0) (.int .i64 0))
   have HR := hid (aj (aM HB6.out (.int .i64 8) (.int .i32 0) (.bool false) (.slice none 0 0) (.string ⟨#[]⟩) (.slice A n cap) (.int .i64 ue) (.int .i64 0) (.int .i64 0))).1
   try dsimp only
   go_wp2_with fail
   refine bodyPost_ret (v := .agg (gtC 8 0 false none 0 0 ⟨#[]⟩ A n cap ue 0 0)) ?_ rfl ?_
   · obtain ⟨e0, e1, e2, e3, e4, e5, e6, e7, e8⟩ := HR.out
     simp [results, Tryz.results73, go_sem, e0, e1, e2, e3, e4, e5, e6, e7, e8]
   · refine ⟨⟨none, 0, 0, A, n, cap⟩, by rw [<- HUE.out]; rfl, ?_, HE.out⟩
     refine (HVEC.out.keep (ck _ _ (.int .i64 8) (.int .i32 0) (.bool false) (.slice none 0 0) (.string ⟨#[]⟩) (.slice A n cap) (.int .i64 ue) (.int .i64 0) (.int .i64 0)) ?_).mono (fun b _ hb => by omega)
     rintro b rfl
     exact ⟨by have := HLT.out; omega, ax HB6.out (by decide)⟩
  | @vecDot _ _ _ kk u _ nn hu =>
   rw [nn] at hres
   obtain ⟨dk, dc, dneg, A2, n2, cp2, x2, he, hlf, k2⟩ := hres
   obtain ⟨uk, huk⟩ : ∃ z : Int, z = (u.kind : Int) := ⟨_, rfl⟩
   obtain ⟨ua, hua⟩ : ∃ z : Int, z = (kk : Int) := ⟨_, rfl⟩
   obtain ⟨ue, hue⟩ : ∃ z : Int, z = ((kk + u.len : Nat) : Int) := ⟨_, rfl⟩
   obtain ⟨uq, huq⟩ : ∃ z : Bool, z = u.sq := ⟨_, rfl⟩
   rw [<- huk, <- hua, <- hue, <- huq] at he
   subst he
   have HUA := hid hua
   have HUE := hid hue
   have hzz : ((0 : Int) != 0) = false := by decide
   have p0 : (uk == 0) = false := by rw [huk, hu]; rfl
   have p2 : (uk == 2) = false := by rw [huk, hu]; rfl
   have p8 : (uk == 8) = true := by rw [huk, hu]; rfl
   have HB4 := hid (ac (k2.heap HS.out.h4 id) (.cells (tkC uk ua ue uq dk dc dneg A2 n2 cp2 x2 none 0 0) 29))
   have HB6 := hid (ac (k2.heap HS.out.h6 id) (.cells (tkC uk ua ue uq dk dc dneg A2 n2 cp2 x2 none 0 0) 29))
   have HB8 := hid (ac (k2.heap HS.out.h8 id) (.cells (tkC uk ua ue uq dk dc dneg A2 n2 cp2 x2 none 0 0) 29))
   have HBT := hid (hN w2 (.cells (tkC uk ua ue uq dk dc dneg A2 n2 cp2 x2 none 0 0) 29))
   have K2w := hid k2.size
   have K2 := hid (k2.alloc (.cells (tkC uk ua ue uq dk dc dneg A2 n2 cp2 x2 none 0 0) 29))
   have HK2 := hid (HS.out.K.trans K2.out)
   clear k2
   obtain ⟨⟨b0, b1, b2, b3, b4, b5, b6, b7, b8, b9⟩, _⟩ := aa HBT.out
   obtain ⟨⟨a0, a1, a2, a3, a4, a5, a6, a7, a8, a9⟩, _⟩ := aa HB4.out
   clear hu huk hua hue huq hlf
   try dsimp only
   go_wp2_with fail
   refine (bD ua 9 _).mono ?_
   rintro e w5 ⟨rfl, k5⟩
   have HB65 := hid (k5.heap HB6.out id)
   have HK5 := hid (HK2.out.trans k5)
   clear k5
   obtain ⟨⟨z0, z1, z2, z3, z4, z5, z6, z7, z8⟩, y0, y1, y2, y3, y4, y5, y6, y7, y8⟩ := aj HB65.out
   have HE := hid (aB HK5.out (show w.heap.size <= w.heap.size + 1 by omega) (.int .i64 0) (.int .i32 0) (.bool false) (.slice none 0 0) (.string ⟨#[]⟩) (.slice none 0 0) (.int .i64 0) (.int .i64 ua) (.int .i64 9))
   have HR := hid (aj (aM HB65.out (.int .i64 0) (.int .i32 0) (.bool false) (.slice none 0 0) (.string ⟨#[]⟩) (.slice none 0 0) (.int .i64 0) (.int .i64 ua) (.int .i64 9))).1
   try dsimp only
   go_wp2_with fail
   refine bodyPost_ret (v := .agg (gtC 0 0 false none 0 0 ⟨#[]⟩ none 0 0 0 ua 9)) ?_ rfl ?_
   · obtain ⟨e0, e1, e2, e3, e4, e5, e6, e7, e8⟩ := HR.out
     simp [results, Tryz.results73, go_sem, e0, e1, e2, e3, e4, e5, e6, e7, e8]
   · exact ⟨by rw [HUA.out]; rfl, HE.out⟩
  | @vecBig _ _ _ kk u _ nn hu hb =>
   rw [nn] at hres
   obtain ⟨dk, dc, dneg, A2, n2, cp2, x2, he, hlf, k2⟩ := hres
   obtain ⟨uk, huk⟩ : ∃ z : Int, z = (u.kind : Int) := ⟨_, rfl⟩
   obtain ⟨ua, hua⟩ : ∃ z : Int, z = (kk : Int) := ⟨_, rfl⟩
   obtain ⟨ue, hue⟩ : ∃ z : Int, z = ((kk + u.len : Nat) : Int) := ⟨_, rfl⟩
   obtain ⟨uq, huq⟩ : ∃ z : Bool, z = u.sq := ⟨_, rfl⟩
   rw [<- huk, <- hua, <- hue, <- huq] at he
   subst he
   have HUA := hid hua
   have HUE := hid hue
   have hzz : ((0 : Int) != 0) = false := by decide
   have p0 : (uk == 0) = false := by rw [huk]; have := hu.1; simp; omega
   have p2 : (uk == 2) = false := by rw [huk]; have := hu.2.1; simp; omega
   have p8 : (uk == 8) = false := by rw [huk]; have := hu.2.2; simp; omega
   have HB4 := hid (ac (k2.heap HS.out.h4 id) (.cells (tkC uk ua ue uq dk dc dneg A2 n2 cp2 x2 none 0 0) 29))
   have HB6 := hid (ac (k2.heap HS.out.h6 id) (.cells (tkC uk ua ue uq dk dc dneg A2 n2 cp2 x2 none 0 0) 29))
   have HB8 := hid (ac (k2.heap HS.out.h8 id) (.cells (tkC uk ua ue uq dk dc dneg A2 n2 cp2 x2 none 0 0) 29))
   have HBT := hid (hN w2 (.cells (tkC uk ua ue uq dk dc dneg A2 n2 cp2 x2 none 0 0) 29))
   have K2w := hid k2.size
   have K2 := hid (k2.alloc (.cells (tkC uk ua ue uq dk dc dneg A2 n2 cp2 x2 none 0 0) 29))
   have HK2 := hid (HS.out.K.trans K2.out)
   clear k2
   obtain ⟨⟨b0, b1, b2, b3, b4, b5, b6, b7, b8, b9⟩, _⟩ := aa HBT.out
   obtain ⟨⟨a0, a1, a2, a3, a4, a5, a6, a7, a8, a9⟩, _⟩ := aa HB4.out
   obtain ⟨⟨h0, h1, h2, h3, h4, h5⟩, _⟩ := ab HB8.out
   have q1 : ((n : Int) == 62) = true := by rw [HLEN.out, hb]; rfl
   clear hu hb huk hua hue huq hlf
   try dsimp only
   go_wp2_with fail
   refine (bD ua 6 _).mono ?_
   rintro e w5 ⟨rfl, k5⟩
   have HB65 := hid (k5.heap HB6.out id)
   have HK5 := hid (HK2.out.trans k5)
   clear k5
   obtain ⟨⟨z0, z1, z2, z3, z4, z5, z6, z7, z8⟩, y0, y1, y2, y3, y4, y5, y6, y7, y8⟩ := aj HB65.out
   have HE := hid (aB HK5.out (show w.heap.size <= w.heap.size + 1 by omega) (.int .i64 0) (.int .i32 0) (.bool false) (.slice none 0 0) (.string ⟨#[]⟩) (.slice none 0 0) (.int .i64 0) (.int .i64 ua) (.int .i64 6))
   have HR := hid (aj (aM HB65.out (.int .i64 0) (.int .i32 0) (.bool false) (.slice none 0 0) (.string ⟨#[]⟩) (.slice none 0 0) (.int .i64 0) (.int .i64 ua) (.int .i64 6))).1
   try dsimp only
   go_wp2_with fail
   refine bodyPost_ret (v := .agg (gtC 0 0 false none 0 0 ⟨#[]⟩ none 0 0 0 ua 6)) ?_ rfl ?_
   · obtain ⟨e0, e1, e2, e3, e4, e5, e6, e7, e8⟩ := HR.out
     simp [results, Tryz.results73, go_sem, e0, e1, e2, e3, e4, e5, e6, e7, e8]
   · exact ⟨by rw [HUA.out]; rfl, HE.out⟩
  | @vecErr _ _ _ kk q cc u _ nn hu hb mm =>
   rw [nn] at hres
   have hcc := Rd.code mm _ _ rfl
   have q1 : ((n : Int) == 62) = false := by rw [HLEN.out]; simp; omega
   obtain ⟨gr, hgr⟩ : ∃ gr : Got, gr = .error (q, cc) := ⟨_, rfl⟩
   rw [<- hgr] at mm
   have HGR := hid hgr
   obtain ⟨dk, dc, dneg, A2, n2, cp2, x2, he, hlf, k2⟩ := hres
   obtain ⟨uk, huk⟩ : ∃ z : Int, z = (u.kind : Int) := ⟨_, rfl⟩
   obtain ⟨ua, hua⟩ : ∃ z : Int, z = (kk : Int) := ⟨_, rfl⟩
   obtain ⟨ue, hue⟩ : ∃ z : Int, z = ((kk + u.len : Nat) : Int) := ⟨_, rfl⟩
   obtain ⟨uq, huq⟩ : ∃ z : Bool, z = u.sq := ⟨_, rfl⟩
   rw [<- huk, <- hua, <- hue, <- huq] at he
   subst he
   have HUA := hid hua
   have HUE := hid hue
   have hzz : ((0 : Int) != 0) = false := by decide
   have p0 : (uk == 0) = false := by rw [huk]; have := hu.1; simp; omega
   have p2 : (uk == 2) = false := by rw [huk]; have := hu.2.1; simp; omega
   have p8 : (uk == 8) = false := by rw [huk]; have := hu.2.2; simp; omega
   obtain ⟨tk1, tk2, tk3, tk4⟩ := aN nn
   have hln := (cJ nn).1
   have tk5 := tk4 hu.1
   have HFR := hid (fun (W : World) (K : K0 w2 W) => (show Calls Tryz.prog 44 #[.string s, ar uk ua ue uq dk dc dneg A2 n2 cp2 x2, .int .i64 (deep : Int)] W (bd gr W) from by rw [huk, hua, hue, huq]; exact IH kk deep u gr mm (by rw [<- HZ.out]; exact tk3) (by omega) hu tk1 hdp dk dc dneg A2 n2 cp2 x2 W (hlf.keep K)))
   have HB4 := hid (ac (k2.heap HS.out.h4 id) (.cells (tkC uk ua ue uq dk dc dneg A2 n2 cp2 x2 none 0 0) 29))
   have HB6 := hid (ac (k2.heap HS.out.h6 id) (.cells (tkC uk ua ue uq dk dc dneg A2 n2 cp2 x2 none 0 0) 29))
   have HB8 := hid (ac (k2.heap HS.out.h8 id) (.cells (tkC uk ua ue uq dk dc dneg A2 n2 cp2 x2 none 0 0) 29))
   have HBT := hid (hN w2 (.cells (tkC uk ua ue uq dk dc dneg A2 n2 cp2 x2 none 0 0) 29))
   have K2w := hid k2.size
   have K2 := hid (k2.alloc (.cells (tkC uk ua ue uq dk dc dneg A2 n2 cp2 x2 none 0 0) 29))
   have HK2 := hid (HS.out.K.trans K2.out)
   clear k2
   obtain ⟨⟨b0, b1, b2, b3, b4, b5, b6, b7, b8, b9⟩, _⟩ := aa HBT.out
   obtain ⟨⟨a0, a1, a2, a3, a4, a5, a6, a7, a8, a9⟩, _⟩ := aa HB4.out
   obtain ⟨⟨h0, h1, h2, h3, h4, h5⟩, _⟩ := ab HB8.out
   clear huk hua hue huq hlf
   try dsimp only
   go_wp2_with fail
   refine (HFR.out _ (kR.alloc _)).mono ?_
   intro e w4 hres
   obtain ⟨d, p, gn, gq, gc, rfl, hg, k4⟩ := hres.form
   have HB64 := hid (ac (k4.heap HB6.out id) (.cells (gtC d.k d.c d.neg p.A p.n p.cp d.t p.B p.m p.cap gn gq gc) 43))
   have HB84 := hid (ac (k4.heap HB8.out id) (.cells (gtC d.k d.c d.neg p.A p.n p.cp d.t p.B p.m p.cap gn gq gc) 43))
   have HB15 := hid (hN w4 (.cells (gtC d.k d.c d.neg p.A p.n p.cp d.t p.B p.m p.cap gn gq gc) 43))
   have K4 := hid (K2.out.trans (k4.alloc (.cells (gtC d.k d.c d.neg p.A p.n p.cp d.t p.B p.m p.cap gn gq gc) 43)))
   have HK4 := hid (HS.out.K.trans K4.out)
   have HG := hid (hg.keep0 ((ah.refl (fun _ => False) w4).alloc (.cells (gtC d.k d.c d.neg p.A p.n p.cp d.t p.B p.m p.cap gn gq gc) 43)))
   have HSZ := hid K2.out.size
   have HLT := hid HS.out.lt
   obtain ⟨⟨g0, g1, g2, g3, g4, g5, g6, g7, g8⟩, _⟩ := aj HB15.out
   clear k4 hres hg a0 a1 a2 a3 a4 a5 a6 a7 a8 a9 b0 b1 b2 b3 b4 b5 b6 b7 b8 b9
   have g9 : (gc != 0) = true := by
    have h1 := HG.out
    rw [hgr] at h1
    rw [h1.2.2.2.2]; simp; omega
   clear hgr hcc hu hb mm tk1 tk2 tk3 tk4 tk5
   obtain ⟨⟨z0, z1, z2, z3, z4, z5, z6, z7, z8⟩, y0, y1, y2, y3, y4, y5, y6, y7, y8⟩ := aj HB64.out
   have HE := hid (aB HK4.out (show w.heap.size <= w.heap.size + 1 by omega) (.int .i64 d.k) (.int .i32 d.c) (.bool d.neg) (.slice p.A p.n p.cp) (.string d.t) (.slice p.B p.m p.cap) (.int .i64 gn) (.int .i64 gq) (.int .i64 gc))
   have HR := hid (aj (aM HB64.out (.int .i64 d.k) (.int .i32 d.c) (.bool d.neg) (.slice p.A p.n p.cp) (.string d.t) (.slice p.B p.m p.cap) (.int .i64 gn) (.int .i64 gq) (.int .i64 gc))).1
   try dsimp only
   go_wp2_with fail
   refine bodyPost_ret (v := .agg (gtC d.k d.c d.neg p.A p.n p.cp d.t p.B p.m p.cap gn gq gc)) ?_ rfl ?_
   · obtain ⟨e0, e1, e2, e3, e4, e5, e6, e7, e8⟩ := HR.out
     simp [results, Tryz.results73, go_sem, e0, e1, e2, e3, e4, e5, e6, e7, e8]
   · rw [<- HGR.out]; exact (HG.out.keep (ck _ _ (.int .i64 d.k) (.int .i32 d.c) (.bool d.neg) (.slice p.A p.n p.cp) (.string d.t) (.slice p.B p.m p.cap) (.int .i64 gn) (.int .i64 gq) (.int .i64 gc)) (by have := HSZ.out; have := HLT.out; dsimp only [tkC, rwC, gtC] at *; omega) HB64.out (by decide)).post (by have := HSZ.out; have := HLT.out; dsimp only [tkC, rwC, gtC] at *; omega) HE.out
  | @vecItem _ _ _ kk ee u _ dd _ nn hu hb mm g =>
   rw [nn] at hres
   have hend := mm.ends (aN nn).2.2.1 _ _ rfl
   simp only [cq.pos] at hend
   have q1 : ((n : Int) == 62) = false := by rw [HLEN.out]; simp; omega
   obtain ⟨gr, hgr⟩ : ∃ gr : Got, gr = .ok (dd, ee) := ⟨_, rfl⟩
   rw [<- hgr] at mm
   obtain ⟨dk, dc, dneg, A2, n2, cp2, x2, he, hlf, k2⟩ := hres
   obtain ⟨uk, huk⟩ : ∃ z : Int, z = (u.kind : Int) := ⟨_, rfl⟩
   obtain ⟨ua, hua⟩ : ∃ z : Int, z = (kk : Int) := ⟨_, rfl⟩
   obtain ⟨ue, hue⟩ : ∃ z : Int, z = ((kk + u.len : Nat) : Int) := ⟨_, rfl⟩
   obtain ⟨uq, huq⟩ : ∃ z : Bool, z = u.sq := ⟨_, rfl⟩
   rw [<- huk, <- hua, <- hue, <- huq] at he
   subst he
   have HUA := hid hua
   have HUE := hid hue
   have hzz : ((0 : Int) != 0) = false := by decide
   have p0 : (uk == 0) = false := by rw [huk]; have := hu.1; simp; omega
   have p2 : (uk == 2) = false := by rw [huk]; have := hu.2.1; simp; omega
   have p8 : (uk == 8) = false := by rw [huk]; have := hu.2.2; simp; omega
   obtain ⟨tk1, tk2, tk3, tk4⟩ := aN nn
   have hln := (cJ nn).1
   have tk5 := tk4 hu.1
   have HFR := hid (fun (W : World) (K : K0 w2 W) => (show Calls Tryz.prog 44 #[.string s, ar uk ua ue uq dk dc dneg A2 n2 cp2 x2, .int .i64 (deep : Int)] W (bd gr W) from by rw [huk, hua, hue, huq]; exact IH kk deep u gr mm (by rw [<- HZ.out]; exact tk3) (by omega) hu tk1 hdp dk dc dneg A2 n2 cp2 x2 W (hlf.keep K)))
   have HB4 := hid (ac (k2.heap HS.out.h4 id) (.cells (tkC uk ua ue uq dk dc dneg A2 n2 cp2 x2 none 0 0) 29))
   have HB6 := hid (ac (k2.heap HS.out.h6 id) (.cells (tkC uk ua ue uq dk dc dneg A2 n2 cp2 x2 none 0 0) 29))
   have HB8 := hid (ac (k2.heap HS.out.h8 id) (.cells (tkC uk ua ue uq dk dc dneg A2 n2 cp2 x2 none 0 0) 29))
   have HBT := hid (hN w2 (.cells (tkC uk ua ue uq dk dc dneg A2 n2 cp2 x2 none 0 0) 29))
   have K2w := hid k2.size
   have K2 := hid (k2.alloc (.cells (tkC uk ua ue uq dk dc dneg A2 n2 cp2 x2 none 0 0) 29))
   have HK2 := hid (HS.out.K.trans K2.out)
   clear k2
   obtain ⟨⟨b0, b1, b2, b3, b4, b5, b6, b7, b8, b9⟩, _⟩ := aa HBT.out
   obtain ⟨⟨a0, a1, a2, a3, a4, a5, a6, a7, a8, a9⟩, _⟩ := aa HB4.out
   obtain ⟨⟨h0, h1, h2, h3, h4, h5⟩, _⟩ := ab HB8.out
   clear huk hua hue huq hlf
   try dsimp only
   go_wp2_with fail
   refine (HFR.out _ (kR.alloc _)).mono ?_
   intro e w4 hres
   obtain ⟨d, p, gn, gq, gc, rfl, hg, k4⟩ := hres.form
   have HB64 := hid (ac (k4.heap HB6.out id) (.cells (gtC d.k d.c d.neg p.A p.n p.cp d.t p.B p.m p.cap gn gq gc) 43))
   have HB84 := hid (ac (k4.heap HB8.out id) (.cells (gtC d.k d.c d.neg p.A p.n p.cp d.t p.B p.m p.cap gn gq gc) 43))
   have HB15 := hid (hN w4 (.cells (gtC d.k d.c d.neg p.A p.n p.cp d.t p.B p.m p.cap gn gq gc) 43))
   have K4 := hid (K2.out.trans (k4.alloc (.cells (gtC d.k d.c d.neg p.A p.n p.cp d.t p.B p.m p.cap gn gq gc) 43)))
   have HK4 := hid (HS.out.K.trans K4.out)
   have HG := hid (hg.keep0 ((ah.refl (fun _ => False) w4).alloc (.cells (gtC d.k d.c d.neg p.A p.n p.cp d.t p.B p.m p.cap gn gq gc) 43)))
   have HSZ := hid K2.out.size
   have HLT := hid HS.out.lt
   obtain ⟨⟨g0, g1, g2, g3, g4, g5, g6, g7, g8⟩, _⟩ := aj HB15.out
   clear k4 hres hg a0 a1 a2 a3 a4 a5 a6 a7 a8 a9 b0 b1 b2 b3 b4 b5 b6 b7 b8 b9
   rw [hgr] at HG
   obtain ⟨hg1, hg2, hg3, hg4, hg5⟩ := HG.out
   subst hg1; subst hg3; subst hg4
   have HGN := hid hg2
   have HD := hid hg5
   have g9 : ((0 : Int) != 0) = false := by decide
   clear hg2 hg5 HG
   have hn4 : n <= 62 := HS.out.cnt62
   have HT3 := hid (show i < ee /\ ee <= s.size by rw [<- HZ.out]; omega)
   have K6 := hid (K4.out.alloc (.cells (rwC d.k d.c d.neg p.A p.n p.cp d.t p.B p.m p.cap) 27))
   have HOWN := hid (bH HS.out.own K6.out (fun _ _ => id))
   have HNEW := hid (fU (show ((w4.alloc (.cells (gtC d.k d.c d.neg p.A p.n p.cp d.t p.B p.m p.cap gn 0 0) 43)).alloc (.cells (rwC d.k d.c d.neg p.A p.n p.cp d.t p.B p.m p.cap) 27)).heap[w4.heap.size + 1]? = _ from by have := hN (w4.alloc (.cells (gtC d.k d.c d.neg p.A p.n p.cp d.t p.B p.m p.cap gn 0 0) 43)) (.cells (rwC d.k d.c d.neg p.A p.n p.cp d.t p.B p.m p.cap) 27); rwa [World.size_alloc] at this))
   have HBASE := hid (show w.heap.size + 3 <= ((w4.alloc (.cells (gtC d.k d.c d.neg p.A p.n p.cp d.t p.B p.m p.cap gn 0 0) 43)).alloc (.cells (rwC d.k d.c d.neg p.A p.n p.cp d.t p.B p.m p.cap) 27)).heap.size from by have := K6.out.size; have := HLT.out; omega)
   have HRD := hid (show Rd s.data.toList (.vec o deep ee (xs.map Prod.fst ++ [d])) r from by rw [<- HIT.out]; exact g)
   have HN62 := hid (show n ≠ 62 by rw [HLEN.out]; exact hb)
   have HD6 := hid (show au (fun b => wr.heap.size <= b) ((w4.alloc (.cells (gtC d.k d.c d.neg p.A p.n p.cp d.t p.B p.m p.cap gn 0 0) 43)).alloc (.cells (rwC d.k d.c d.neg p.A p.n p.cp d.t p.B p.m p.cap) 27)) d p from (HD.out.keep0 (kR.alloc _)).mono (fun b _ hb => by have := HSZ.out; dsimp only [tkC] at *; omega))
   obtain ⟨⟨h0, h1, h2, h3, h4, h5⟩, _⟩ := ab HB84.out
   clear hgr hu hb mm g tk1 tk2 tk3 tk4 tk5 hend hln nn
   try dsimp only
   go_wp2_with (at_builtin; refine wpList_append_own_at _ rfl (.tmp 71) (.tmp 74) 25 rfl (w.heap.size + 3) 27 i27 (.agg (rwC 0 0 false none 0 0 ⟨#[]⟩ none 0 0)) 6 88 Tryz.underlying25 h27 hz0 hz1 hz2 rfl (by decide) _ _ _ rfl HOWN.out ⟨w4.heap.size + 1, 0, none⟩ 1 1 [.int .i64 d.k, .int .i32 d.c, .bool d.neg, .slice p.A p.n p.cp, .string d.t, .slice p.B p.m p.cap] rfl rfl HNEW.out ?a1 ?a2 ?a3 HBASE.out ?_)
   case a1 => intro u hu; simp only [List.mem_cons, List.not_mem_nil, or_false] at hu; rcases hu with rfl | rfl | rfl | rfl | rfl | rfl <;> rfl
   case a2 => unfold maxLen; omega
   case a3 => omega
   intro v' w6 hown hgrow _ hblk
   obtain ⟨A3, c3, rfl, h8, HM⟩ := HS.out.item K6.out HRD.out HT3.out.1 (by rw [HZ.out]; exact HT3.out.2) HN62.out HD6.out hown hgrow (by rw [World.size_alloc, World.size_alloc]; exact hblk)
   have HMM := hid HM
   clear h0 h1 h2 h3 h4 h5
   obtain ⟨⟨h0, h1, h2, h3, h4, h5⟩, f0, f1, f2, f3, f4, f5⟩ := ab h8
   clear hown hgrow HM hblk h8
   go_wp2_with fail
   go_roundw
   case rel => exact ⟨ee, n + 1, c3, _, A3, by rw [HGN.out], by have := HT3.out; omega, HMM.out⟩
   case measure => rw [HGN.out]; have := HT3.out; simp only [intOf]; omega
end Go.Proofs.YtonnikipeokkaaaGreatDoor
