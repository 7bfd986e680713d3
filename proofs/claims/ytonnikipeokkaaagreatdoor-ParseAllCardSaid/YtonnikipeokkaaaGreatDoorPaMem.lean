/- lex: All. The law's sample of lex. The law of lex and its do -/
import Derived.Maps.AppendAt
import Derived.Test.YtonnikipeokkaaaGreatDoorRlSame
import Derived.Test.YtonnikipeokkaaaGreatDoorRlNext
namespace Go.Proofs.YtonnikipeokkaaaGreatDoor
open Go.Lib (hid)
open Go.RowKit Go.Lib
theorem ej {l : List UInt8} {i : Int} {p c : Nat} (h : aH l i = .error (p, c)) : c ≠ 0 := by
 unfold aH at h
 split at h
 · injection h with h; injection h with h1 h2; omega
 split at h
 · injection h with h; injection h with h1 h2; omega
 · have := (jD (by omega) h).2
   omega
def Raw.k : Raw -> Int
 | .mk k _ _ _ _ _ => k
def Raw.c : Raw -> Int
 | .mk _ c _ _ _ _ => c
def Raw.neg : Raw -> Bool
 | .mk _ _ neg _ _ _ => neg
def Raw.mag : Raw -> List Nat
 | .mk _ _ _ mag _ _ => mag
def Raw.t : Raw -> ByteArray
 | .mk _ _ _ _ t _ => t
def Raw.l : Raw -> List Raw
 | .mk _ _ _ _ _ l => l
structure PV where
 A : Option Addr
 n : Nat
 cp : Nat
 B : Option Addr
 m : Nat
 cap : Nat
def PV.none : PV := ⟨.none, 0, 0, .none, 0, 0⟩
abbrev il (r : Raw) (p : PV) : Array Value := (rwC r.k r.c r.neg p.A p.n p.cp r.t p.B p.m p.cap)
abbrev bT (r : Raw) (p : PV) : Value := .agg (rwC r.k r.c r.neg p.A p.n p.cp r.t p.B p.m p.cap)
def dL (w : World) (b off i : Nat) (r : Raw) (p : PV) : Prop := ∀ f u, (il r p)[f]? = some u -> w.cell? ⟨b, off + i * 6 + f, .none⟩ = some u
inductive bo (N P : Nat -> Prop) (w : World) : Raw -> PV -> Prop
 | mk {r : Raw} {p : PV} (num : aR w p.A p.n p.cp r.mag) (nP : 0 < p.n -> ∀ b off, p.A = some ⟨b, off, .none⟩ -> N b)
  (len : r.l.length = p.m) (mcap : p.m <= p.cap) (big : p.m * 88 <= 140737488351232) (vs : Nat -> PV) (row : 0 < p.m -> ∃ b off, p.B = some ⟨b, off, .none⟩ /\ P b /\ ∀ i (h : i < r.l.length), dL w b off i r.l[i] (vs i))
  (ch : ∀ i (h : i < r.l.length), bo N P w r.l[i] (vs i)) : bo N P w r p
theorem dL.keep {S : Nat -> Prop} {w w' : World} {b off i : Nat} {r : Raw} {p : PV} (h : dL w b off i r p) (K : ah S w w') (hs : ¬ S b) : dL w' b off i r p := fun f u hu => by
 have := h f u hu
 rw [K.cell (p := ⟨b, off + i * 6 + f, .none⟩) (bL w _ this) hs]; exact this
theorem bo.keep {S N P : Nat -> Prop} {w w' : World} {r : Raw} {p : PV} (h : bo N P w r p) (K : ah S w w') (hs : ∀ b, S b -> ¬ P b /\ ¬ N b) : bo N P w' r p := by
 induction h with
 | mk num nP len mcap big vs row ch ih =>
  refine .mk (num.keep K (fun hn b off e hS => (hs b hS).2 (nP hn b off e))) nP len mcap big vs (fun hm => ?_) ih
  obtain ⟨b, off, e, hP, hc⟩ := row hm
  exact ⟨b, off, e, hP, fun i h => (hc i h).keep K (fun hS => (hs b hS).1 hP)⟩
theorem bo.keep0 {N P : Nat -> Prop} {w w' : World} {r : Raw} {p : PV} (h : bo N P w r p) (K : K0 w w') : bo N P w' r p := h.keep K (fun _ h => h.elim)
theorem bo.mono {N M P Q : Nat -> Prop} {w : World} {r : Raw} {p : PV} (h : bo N P w r p) (hn : ∀ b, b < w.heap.size -> N b -> M b) (hs : ∀ b, b < w.heap.size -> P b -> Q b) : bo M Q w r p := by
 induction h with
 | @mk r p num nP len mcap big vs row ch ih =>
  refine .mk num (fun hm b off e => hn b ?_ (nP hm b off e)) len mcap big vs (fun hm => ?_) ih
  · obtain ⟨b', off', e', lt⟩ := num.lt hm
    rw [e] at e'
    injection e' with e'; injection e' with e'
    subst e'; exact lt
  · obtain ⟨b, off, e, hP, hc⟩ := row hm
    have hi : 0 < r.l.length := by omega
    have := hc 0 hi 0 (.int .i64 (r.l[0]).k) rfl
    exact ⟨b, off, e, hs b (bL w _ this) hP, hc⟩
theorem dL.cells {w : World} {b off i : Nat} {r : Raw} {p : PV} (h : dL w b off i r p) : w.cell? ⟨b, off + i * 6, .none⟩ = some (.int .i64 r.k) /\ w.cell? ⟨b, off + i * 6 + 1, .none⟩ = some (.int .i32 r.c) /\ w.cell? ⟨b, off + i * 6 + 2, .none⟩ = some (.bool r.neg) /\ w.cell? ⟨b, off + i * 6 + 3, .none⟩ = some (.slice p.A p.n p.cp) /\ w.cell? ⟨b, off + i * 6 + 4, .none⟩ = some (.string r.t) /\ w.cell? ⟨b, off + i * 6 + 5, .none⟩ = some (.slice p.B p.m p.cap) :=
 ⟨h 0 _ rfl, h 1 _ rfl, h 2 _ rfl, h 3 _ rfl, h 4 _ rfl, h 5 _ rfl⟩
theorem Raw.ext {r r' : Raw} (h0 : r.k = r'.k) (h1 : r.c = r'.c) (h2 : r.neg = r'.neg) (h3 : r.mag = r'.mag) (h4 : r.t = r'.t) (h5 : r.l = r'.l) : r = r' := by
 cases r; cases r'
 simp only [Raw.k, Raw.c, Raw.neg, Raw.mag, Raw.t, Raw.l] at h0 h1 h2 h3 h4 h5
 rw [h0, h1, h2, h3, h4, h5]
noncomputable def eqR (r r' : Raw) : Bool := @decide (r = r') (Classical.propDecidable _)
theorem i2 {r r' : Raw} : eqR r r' = true ↔ r = r' := by unfold eqR; simp
theorem dt {r r' : Raw} : eqR r r' = false ↔ r ≠ r' := by unfold eqR; simp
theorem bo.items {N P : Nat -> Prop} {w : World} {r : Raw} {p : PV} (h : bo N P w r p) (i : Nat) (hi : i < r.l.length) : ∃ b off v, p.B = some ⟨b, off, .none⟩ /\ P b /\ dL w b off i r.l[i] v /\ bo N P w r.l[i] v := by
 cases h with
 | mk num nP len mcap big vs row ch =>
  obtain ⟨b, off, e, hP, hc⟩ := row (by omega)
  exact ⟨b, off, vs i, e, hP, hc i hi, ch i hi⟩
theorem bo.num {N P : Nat -> Prop} {w : World} {r : Raw} {p : PV} (h : bo N P w r p) : aR w p.A p.n p.cp r.mag := by cases h with | mk num => exact num
theorem bo.len {N P : Nat -> Prop} {w : World} {r : Raw} {p : PV} (h : bo N P w r p) : r.l.length = p.m := by cases h with | mk _ _ len => exact len
def eC (w : World) (b : Nat) : Prop := ∃ X, w.heap[b]? = some (.cells X 126 (0, 0))
theorem eC.keep {S : Nat -> Prop} {w w' : World} {b : Nat} (h : eC w b) (K : ah S w w') (hs : ¬ S b) : eC w' b := by
 obtain ⟨X, hX⟩ := h
 exact ⟨X, K.heap hX hs⟩
theorem ax {w : World} {b : Nat} {X : Array Value} {T : TypeId} {fz : Nat × Nat} (h : w.heap[b]? = some (.cells X T fz)) (hT : T ≠ 126) : ¬ eC w b := by
 rintro ⟨Y, hY⟩
 rw [h] at hY
 injection hY with hY
 injection hY with _ hY
 exact hT hY
abbrev au (P : Nat -> Prop) (w : World) (r : Raw) (p : PV) : Prop := bo (eC w) P w r p
theorem au.keep {S P : Nat -> Prop} {w w' : World} {r : Raw} {p : PV} (h : au P w r p) (K : ah S w w') (hs : ∀ b, S b -> ¬ P b /\ ¬ eC w b) : au P w' r p :=
 (bo.keep h K hs).mono (fun b _ hn => hn.keep K (fun hS => (hs b hS).2 hn)) (fun _ _ hP => hP)
theorem au.keep0 {P : Nat -> Prop} {w w' : World} {r : Raw} {p : PV} (h : au P w r p) (K : K0 w w') : au P w' r p := h.keep K (fun _ h => h.elim)
theorem au.mono {P Q : Nat -> Prop} {w : World} {r : Raw} {p : PV} (h : au P w r p) (hs : ∀ b, b < w.heap.size -> P b -> Q b) : au Q w r p := bo.mono h (fun _ _ hn => hn) hs
theorem bo.nil (N P : Nat -> Prop) (w : World) : bo N P w .nil PV.none :=
 .mk (ei w) (fun h => absurd h (Nat.lt_irrefl _)) rfl (Nat.le_refl _) (show 0 * 88 <= 140737488351232 by omega) (fun _ => PV.none) (fun h => absurd h (Nat.lt_irrefl _)) (fun _ h => absurd h (Nat.not_lt_zero _))
theorem au.leaf {P : Nat -> Prop} {w : World} {d : fk} {k c : Int} {neg : Bool} {A : Option Addr} {n cp : Nat} {t : ByteArray} (h : cz w d k c neg A n cp t) :
 au P w (bB d) ⟨A, n, cp, none, 0, 0⟩ /\ k = (bB d).k /\ c = (bB d).c /\ neg = (bB d).neg /\ t = (bB d).t := by
 have hz : ∀ (r : Raw) (_ : r.l = []), aR w A n cp r.mag -> (0 < n -> ∀ b off, A = some ⟨b, off, .none⟩ -> eC w b) -> au P w r ⟨A, n, cp, none, 0, 0⟩ := by
  intro r hl num nP
  exact .mk num nP (by rw [hl]; rfl) (Nat.le_refl _) (show 0 * 88 <= 140737488351232 by omega) (fun _ => PV.none) (fun h => absurd h (Nat.lt_irrefl _)) (fun _ h => by rw [hl] at h; exact absurd h (Nat.not_lt_zero _))
 cases d
 case int x =>
  obtain ⟨rfl, rfl, rfl, h1, _, rfl⟩ := h
  exact ⟨hz _ rfl h1.lim h1.typ, rfl, rfl, rfl, rfl⟩
 all_goals
  obtain ⟨rfl, rfl, rfl, rfl, rfl, rfl, rfl⟩ := h
  exact ⟨hz _ rfl (ei w) (fun h => absurd h (Nat.lt_irrefl _)), rfl, rfl, rfl, rfl⟩
open Go.Lib
inductive lE where
 | err (p c : Nat)
 | cont (S : List Fr)
 | ended (S : List Fr) (d : Raw)
def lE.fin : lE -> Stp
 | .err p c => .err p c
 | .cont S => .cont S
 | .ended S d => dI S d
def eN : List Fr -> Nat -> Bool -> lE
 | [], j, _ => .err j 9
 | o :: S, j, sq => if o.mark \/ o.sq ≠ sq \/ o.dot = 1 then .err j 9 else .ended S o.shut
def jl : List Fr -> Nat -> lE
 | [], j => .err j 9
 | o :: S, j => if o.kind ≠ 1 \/ o.items = [] \/ o.dot ≠ 0 then .err j 9 else .cont (⟨o.kind, o.at_, o.sq, 1, o.tail, o.items⟩ :: S)
def lo : List Fr -> Nat -> Nat × Nat
 | [], j => (j, 19)
 | o :: _, _ => (o.at_, 11)
def eJ (S : List Fr) (j : Nat) (t : Tk) : lE :=
 if t.kind = 0 then .err (lo S j).1 (lo S j).2
 else if t.kind = 8 then jl S j
 else if t.kind = 2 then eN S j t.sq
 else if eu S t ≠ 0 then .err j (eu S t)
 else if t.kind = 9 then .ended S (bB t.d)
 else .cont (⟨t.kind, j, t.sq, 0, .nil, []⟩ :: S)
theorem oC (S : List Fr) (j : Nat) (t : Tk) : bU S j t = (eJ S j t).fin := by
 unfold bU eJ
 split
 · cases S <;> rfl
 split
 · cases S with
   | nil => rfl
   | cons o S => unfold nU jl; simp only; split <;> rfl
 split
 · cases S with
   | nil => rfl
   | cons o S => unfold gz eN; simp only; split <;> rfl
 split
 · rfl
 split <;> rfl
structure Fr.ok (o : Fr) (at_ : Int) : Prop where
 kind : o.kind = 1 \/ o.kind = 3 \/ o.mark
 dot : o.dot <= 2
 cnt : o.items ≠ [] -> (o.items.length : Int) <= at_
 mrk : o.mark -> o.dot = 0
def okF (S : List Fr) (at_ : Int) : Prop := S.length <= 64 /\ ∀ o ∈ S, o.ok at_
theorem okF.mono {S : List Fr} {a b : Int} (h : okF S a) (hab : a <= b) : okF S b := ⟨h.1, fun o ho => ⟨(h.2 o ho).kind, (h.2 o ho).dot, fun hi => Int.le_trans ((h.2 o ho).cnt hi) hab, (h.2 o ho).mrk⟩⟩
theorem okF.tail {o : Fr} {S : List Fr} {a : Int} (h : okF (o :: S) a) : okF S a := ⟨by have := h.1; simp at this; omega, fun x hx => h.2 x (List.mem_cons_of_mem _ hx)⟩
theorem rF {S : List Fr} {j : Nat} {t : Tk} {a : Int} (h : okF S a) (hk : t.kind <= 9) : (∀ S', eJ S j t = .cont S' -> okF S' a) /\ (∀ S' d, eJ S j t = .ended S' d -> okF S' a) := by
 unfold eJ
 split
 · exact ⟨fun _ e => (by cases e), fun _ _ e => (by cases e)⟩
 split
 · cases S with
   | nil => exact ⟨fun _ e => (by cases e), fun _ _ e => (by cases e)⟩
   | cons o S =>
    unfold jl; simp only
    split
    · exact ⟨fun _ e => (by cases e), fun _ _ e => (by cases e)⟩
    · rename_i hc
      refine ⟨fun S' e => ?_, fun _ _ e => (by cases e)⟩
      injection e with e; subst e
      have ho := h.2 o List.mem_cons_self
      have hk1 : o.kind = 1 := by by_cases e : o.kind = 1; exact e; exact absurd (.inl e) hc
      refine ⟨h.1, fun x hx => ?_⟩
      rcases List.mem_cons.1 hx with rfl | hx
      · exact ⟨.inl hk1, by show 1 <= 2; omega, ho.cnt, fun hm => by have : 4 <= o.kind /\ o.kind <= 7 := hm; omega⟩
      · exact h.2 x (List.mem_cons_of_mem _ hx)
 split
 · cases S with
   | nil => exact ⟨fun _ e => (by cases e), fun _ _ e => (by cases e)⟩
   | cons o S =>
    unfold eN; simp only
    split
    · exact ⟨fun _ e => (by cases e), fun _ _ e => (by cases e)⟩
    · exact ⟨fun _ e => (by cases e), fun S' d e => by injection e with e _; subst e; exact h.tail⟩
 split
 · exact ⟨fun _ e => (by cases e), fun _ _ e => (by cases e)⟩
 rename_i h0 h8 h2 hb
 split
 · exact ⟨fun _ e => (by cases e), fun S' d e => by injection e with e _; subst e; exact h⟩
 · rename_i h9
   refine ⟨fun S' e => ?_, fun _ _ e => (by cases e)⟩
   injection e with e; subst e
   refine ⟨?_, fun x hx => ?_⟩
   · cases S with
     | nil => simp
     | cons o S =>
      have hb : eu (o :: S) t = 0 := by by_cases e : eu (o :: S) t = 0; exact e; exact absurd e hb
      unfold eu at hb
      simp only at hb
      split at hb
      · cases hb
      split at hb
      · cases hb
      split at hb
      · cases hb
      · rename_i hd
        have := h.1
        have : ¬ (o :: S).length = 64 := fun e => hd ⟨h9, e⟩
        simp only [List.length_cons] at *
        omega
   · rcases List.mem_cons.1 hx with rfl | hx
     · exact ⟨by show t.kind = 1 \/ t.kind = 3 \/ (4 <= t.kind /\ t.kind <= 7); omega, by show 0 <= 2; omega, fun hi => absurd rfl hi, fun _ => rfl⟩
     · exact h.2 x hx
theorem pe : ∀ {S : List Fr} {a b : Int} {d : Raw}, okF S a -> 0 <= a -> a < b -> ∀ S', dI S d = .cont S' -> okF S' b
 | [], _, _, _, _, _, _, _, e => by cases e
 | o :: S, a, b, d, h, h0, hab, S', e => by
  rw [dI] at e
  have ho := h.2 o List.mem_cons_self
  split at e
  · exact pe h.tail h0 hab S' e
  · rename_i hm
    split at e
    · injection e with e; subst e
      refine ⟨h.1, fun x hx => ?_⟩
      rcases List.mem_cons.1 hx with rfl | hx
      · exact ⟨ho.kind, by show 2 <= 2; omega, fun hi => by have := ho.cnt hi; show (o.items.length : Int) <= b; omega, fun hm' => absurd hm' hm⟩
      · exact ((h.mono (Int.le_of_lt hab)).2 x (List.mem_cons_of_mem _ hx))
    · injection e with e; subst e
      refine ⟨h.1, fun x hx => ?_⟩
      rcases List.mem_cons.1 hx with rfl | hx
      · refine ⟨ho.kind, ho.dot, fun _ => ?_, fun hm' => absurd hm' hm⟩
        show ((o.items ++ [d]).length : Int) <= b
        rw [List.length_append]
        by_cases hi : o.items = []
        · rw [hi]; simp; omega
        · have := ho.cnt hi; simp; omega
      · exact ((h.mono (Int.le_of_lt hab)).2 x (List.mem_cons_of_mem _ hx))
end Go.Proofs.YtonnikipeokkaaaGreatDoor
