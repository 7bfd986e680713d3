/-
  The law ParseEither: where an error stands, and the walk.
-/
import Derived.Test.YtonnikipeokkaaaGreatDoorPaLaw
import Derived.Test.YtonnikipeokkaaaGreatDoorPaDoc
import Derived.Test.YtonnikipeokkaaaGreatDoorN3
import Derived.Test.YtonnikipeokkaaaGreatDoorPaLx
import Derived.Laws.BitsAllLaws
import Derived.Test.YtonnikipeokkaaaGreatDoorLxTok
import Derived.LoopN
import Derived.Test.YtonnikipeokkaaaGreatDoorPaMem
namespace Go.Proofs.YtonnikipeokkaaaGreatDoor
open Go.RowKit Go.Lib

theorem next_err_le {l : List UInt8} {i : Int} {p c : Nat} (h : nextV l i = .error (p, c)) : p ≤ l.length := by
  unfold nextV at h
  split at h
  · injection h with h; injection h with h _; omega
  split at h
  · injection h with h; injection h with h _; omega
  · have := (lexAt_err (by omega) h).1
    omega
/-- Where what is open began. -/
def Goal.beg : Goal → Nat
  | .frm j _ _ => j
  | .lst o _ _ _ _ _ _ => o
  | .vec o _ _ _ => o
theorem Rd.place {l : List UInt8} {g : Goal} {r : Got} (h : Rd l g r) : g.pos ≤ l.length → g.beg ≤ l.length → ∀ p c, r = .error (p, c) → p ≤ l.length := by
  have hO : ∀ {i : Int} {k : Nat} {u : Tk}, nextV l i = .ok (k, u) → k + u.len ≤ l.length := fun n => (nextV_tok n).2.2.1
  induction h with
  | datum h => intro _ _ p c e; cases e
  | deep h hd => intro _ hb p c e; injection e with e; injection e with e _; subst e; exact hb
  | opn h hd n ih => intro hp hb; exact ih hp hb
  | vct h hs hd n ih => intro hp hb; exact ih hp hb
  | markLex h hd n => intro _ hb p c e; injection e with e; injection e with e _; subst e; exact next_err_le n
  | markEnd h hd n hu => intro _ hb p c e; injection e with e; injection e with e _; subst e; exact hb
  | markBad h hd n hu => intro _ hb p c e; injection e with e; injection e with e _; subst e; have := hO n; omega
  | markErr h hd n hu m ih => intro _ hb p c e; have := hO n; exact ih this (by simp only [Goal.beg]; omega) p c e
  | markOk h hd n hu m ih => intro _ _ p c e; cases e
  | lstLex n => intro _ hb p c e; injection e with e; injection e with e _; subst e; exact next_err_le n
  | lstEnd n hu => intro _ hb p c e; injection e with e; injection e with e _; subst e; exact hb
  | lstBad n hu hb => intro _ _ p c e; injection e with e; injection e with e _; subst e; have := hO n; omega
  | lstOk n hu hb hd => intro _ _ p c e; cases e
  | dotBad n hu hb => intro _ _ p c e; injection e with e; injection e with e _; subst e; have := hO n; omega
  | dotOk n hu h0 hi m ih => intro _ hb; exact ih (hO n) hb
  | full n hu hb => intro _ _ p c e; injection e with e; injection e with e _; subst e; have := hO n; omega
  | itemErr n hu hb m ih => intro _ _ p c e; have := hO n; exact ih this (by simp only [Goal.beg]; omega) p c e
  | itemOk n hu hb m g ih ih2 => intro _ hb; have h2 := m.ends (hO n) _ _ rfl; exact ih2 h2.2 hb
  | tailOk n hu hb m g ih ih2 => intro _ hb; have h2 := m.ends (hO n) _ _ rfl; exact ih2 h2.2 hb
  | vecLex n => intro _ hb p c e; injection e with e; injection e with e _; subst e; exact next_err_le n
  | vecEnd n hu => intro _ hb p c e; injection e with e; injection e with e _; subst e; exact hb
  | vecBad n hu hb => intro _ _ p c e; injection e with e; injection e with e _; subst e; have := hO n; omega
  | vecOk n hu hb => intro _ _ p c e; cases e
  | vecDot n hu => intro _ _ p c e; injection e with e; injection e with e _; subst e; have := hO n; omega
  | vecBig n hu hb => intro _ _ p c e; injection e with e; injection e with e _; subst e; have := hO n; omega
  | vecErr n hu hb m ih => intro _ _ p c e; have := hO n; exact ih this (by simp only [Goal.beg]; omega) p c e
  | vecItem n hu hb m g ih ih2 => intro _ hb; have h2 := m.ends (hO n) _ _ rfl; exact ih2 h2.2 hb
theorem OneR.place {l : List UInt8} {i : Int} {p c : Nat} (h : OneR l i (.error (p, c))) : p ≤ l.length := by
  cases h with
  | lex n => exact next_err_le n
  | none n hk => have := (nextV_tok n).2.2.1; omega
  | bad n hk => have := (nextV_tok n).2.2.1; omega
  | frm n hk m =>
    have := (nextV_tok n).2.2.1
    exact m.place this (by simp only [Goal.beg]; omega) _ _ rfl
end Go.Proofs.YtonnikipeokkaaaGreatDoor
