/-
  Aids to the laws that ask the document's answer: answers in memory of their own, values under a letter, what is written over.
-/
import Derived.Test.YtdfekphahdmffaaDoorRfIs
import Derived.Test.YtdfekphahdmffaaDoorRfAdd
import Derived.Test.YtdfekphahdmffaaDoorRfSpoil
namespace Go.Proofs.YtdfekphahdmffaaDoor
open Go.RowKit

theorem ResPost.own {x : Int} {w w' : World} {e : Ending} (h : ResPost x w e w') : Keep (fun _ => False) w w' ∧ ∃ (q : Bool) (A : Option Addr) (n c : Nat) (l : List Nat) (f : Int), e = .returned (.tuple #[numArg q A n c, .int .i64 f]) ∧ OwnR 63 .u32 w' w.heap.size A n c l ∧ LimbsAt w' A n c l ∧ n ≤ 48 ∧ Out x q l f := by
  obtain ⟨k, ⟨hn, he⟩ | ⟨A, n, c, hf, he, own⟩⟩ := h
  · exact ⟨k, false, none, 0, 0, [], 6, he, OwnR.nil _ _ _ _, none_limbs _, by omega, .inr ⟨hn, rfl, rfl, rfl⟩⟩
  · exact ⟨k, _, A, n, c, _, 0, he, own, own.num hf, by have := own.len; unfold Fits at hf; omega, .inl ⟨hf, rfl, rfl, rfl⟩⟩
/-- A value whose sign is the letter z. -/
def ZPost (z : Bool) (x : Int) (m : Nat) (w : World) (e : Ending) (w' : World) : Prop :=
  ∃ (A : Option Addr) (n c : Nat), e = .returned (numArg z A n c) ∧ BitsAt w' A n c (bits2 x.natAbs) ∧ n ≤ m ∧ Keep (fun _ => False) w w'
theorem OwnR.bits {w : World} {base n c : Nat} {A : Option Addr} {m : Nat} (h : OwnR 5 .u8 w base A n c (bits2 m)) (hm : n ≤ 10000000) : BitsAt w A n c (bits2 m) := h.toBits (digs_low two2 _) hm
theorem BitPost.z {z : Bool} {x : Int} {m : Nat} {w w' : World} {e : Ending} (h : BitPost x w e w') (hz : z = decide (x < 0)) (hm : (bits2 x.natAbs).length ≤ m) (hm2 : m ≤ 10000000) : ZPost z x m w e w' := by
  obtain ⟨k, A, n, c, he, o⟩ := h
  have hl := o.len
  have hn : n ≤ m := by omega
  exact ⟨A, n, c, by rw [hz]; exact he, o.bits (by omega), hn, k⟩
theorem sval_len {w : World} {p : Bool} {A : Option Addr} {n c : Nat} {l : List Nat} (h : LimbsAt w A n c l) (hm : n ≤ 60) : (bits2 (sval p l).natAbs).length ≤ 1920 := by
  refine (len_pow _ BB 32 60 1920 rfl rfl).2 ?_
  rw [sval_abs]
  have h1 := val_lt h.low
  rw [h.len] at h1
  exact Nat.lt_of_lt_of_le h1 (Nat.pow_le_pow_right (by unfold BB; omega) hm)
theorem len_mul (a b : Nat) : (bits2 (a * b)).length ≤ (bits2 a).length + (bits2 b).length := by
  refine (digs_len_le two2 _ _).2 ?_
  rw [Nat.pow_add]
  exact Nat.mul_lt_mul'' ((digs_len_le two2 _ _).1 (Nat.le_refl _)) ((digs_len_le two2 _ _).1 (Nat.le_refl _))
theorem len_add {a b c k : Nat} (ha : (bits2 a).length ≤ k) (hb : (bits2 b).length ≤ k) (hc : c ≤ a + b) : (bits2 c).length ≤ k + 1 := by
  refine (digs_len_le two2 _ _).2 ?_
  have h1 := (digs_len_le two2 _ _).1 ha
  have h2 := (digs_len_le two2 _ _).1 hb
  rw [Nat.pow_succ]
  omega
theorem val_z {z p : Bool} {x : Int} {A : Option Addr} {n c : Nat} {l : List Nat} {w : World} (hz : z = decide (x < 0)) (hx : x = sval p l) (h : LimbsAt w A n c l) (hm : n ≤ 60) : Calls Tryd.prog 24 #[numArg p A n c] w (ZPost z x 1920 w) :=
  (val_any p A n c l w h (by omega)).mono fun e w' hp => by
    subst hx
    exact BitPost.z hp hz (sval_len h hm) (by omega)
theorem rmul_z {z z' z2 : Bool} {x y : Int} {A : Option Addr} {n c : Nat} {A' : Option Addr} {n' c' : Nat} {w : World} (hz : z = decide (x < 0)) (hz' : z' = decide (y < 0)) (hz2 : z2 = decide (x * y < 0)) (h : BitsAt w A n c (bits2 x.natAbs)) (h' : BitsAt w A' n' c' (bits2 y.natAbs)) (hm : n ≤ 1920) (hm' : n' ≤ 1920) :
    Calls Tryd.prog 37 #[numArg z A n c, numArg z' A' n' c'] w (ZPost z2 (x * y) 3840 w) := by
  rw [hz, hz']
  refine (rmul_any x y A n c A' n' c' w h h' (by omega) (by omega)).mono fun e w' hp => BitPost.z hp hz2 ?_ (by omega)
  rw [Int.natAbs_mul]
  have := len_mul x.natAbs y.natAbs
  have h1 := h.len
  have h2 := h'.len
  omega
theorem radd_z {z z' z2 : Bool} {x y : Int} {A : Option Addr} {n c : Nat} {A' : Option Addr} {n' c' : Nat} {w : World} (hz : z = decide (x < 0)) (hz' : z' = decide (y < 0)) (hz2 : z2 = decide (x + y < 0)) (h : BitsAt w A n c (bits2 x.natAbs)) (h' : BitsAt w A' n' c' (bits2 y.natAbs)) (hm : n ≤ 3000) (hm' : n' ≤ 3000) :
    Calls Tryd.prog 45 #[numArg z A n c, numArg z' A' n' c'] w (ZPost z2 (x + y) 3001 w) :=
  (radd_any x y z z' z2 A n c A' n' c' w hz hz' hz2 h h' (by omega) (by omega)).mono fun e w' ⟨A2, n2, c2, he, o, k⟩ => by
    have hl := len_add (c := (x + y).natAbs) (k := 3000) (by rw [h.len]; exact hm) (by rw [h'.len]; exact hm') (by omega)
    have ho := o.len
    exact ⟨A2, n2, c2, he, o.bits (by omega), by omega, k⟩
theorem is_z {z : Bool} {x : Int} {q : Bool} {A : Option Addr} {n c : Nat} {l : List Nat} {f : Int} {A2 : Option Addr} {n2 c2 : Nat} {w : World} (hz : z = decide (x < 0)) (ho : Out x q l f) (h : LimbsAt w A n c l) (h2 : BitsAt w A2 n2 c2 (bits2 x.natAbs)) :
    Calls Tryd.prog 27 #[numArg q A n c, .int .i64 f, numArg z A2 n2 c2] w (BoolPost true w) := by
  rw [hz]; exact is_any x q A n c l f A2 n2 c2 w ho h h2
/-- An answer is written over: the blocks stay, and what was there ahead of it. -/
theorem Env.spoil {w w0 w' w'' : World} {bs0 bs : List (Nat × Value × Value)} {ms0 ms : List (Option Addr × Nat × Nat × List Nat)} {base n c : Nat} {A : Option Addr} {l : List Nat} (h0 : Env w bs0 ms0 w0) (h : Env w bs ms w') (k0 : Keep (fun _ => False) w0 w')
    (ks : Keep (fun b => 0 < n ∧ A = some ⟨b, 0, none⟩) w' w'') (own : OwnR 63 .u32 w' base A n c l) (hb : w0.heap.size ≤ base) (hbs : ∀ x ∈ bs, ∃ p, x.2.1 = .bool p) : Env w bs ms0 w'' ∧ Keep (fun _ => False) w0 w'' := by
  have hk : Keep (fun _ => False) w0 w'' := k0.into ks (by
    rintro i ⟨_, hi⟩
    exact Nat.le_trans hb (own.fresh i 0 hi).1)
  refine ⟨⟨h0.k.trans hk, fun x hx => ?_, fun x hx => (h0.m x hx).keep0 hk⟩, hk⟩
  refine ks.heap (h.b x hx) ?_
  rintro ⟨hn, hA⟩
  obtain ⟨p, hp⟩ := hbs x hx
  have hc := (h.cells (B := x.1) (u := x.2.1) (v := x.2.2) hx).1
  obtain ⟨b', off, e', _, hc'⟩ := own.row.2 0 hn
  rw [hA] at e'
  injection e' with e'
  injection e' with e1 e2 _
  subst e1 e2
  rw [hc, hp] at hc'
  cases hc'
theorem OwnR.off {w w' : World} {base base' n c n' c' : Nat} {A A' : Option Addr} {l l' : List Nat} (_h : OwnR 63 .u32 w base A n c l) (h' : OwnR 63 .u32 w base' A' n' c' l') (ks : Keep (fun b => 0 < n ∧ A = some ⟨b, 0, none⟩) w w') (w1 : World) (hw : w1.heap.size ≤ base') (ho : OwnR 63 .u32 w1 base A n c l) : OwnR 63 .u32 w' base' A' n' c' l' :=
  h'.keep ks (by
    rintro b off e ⟨_, hA⟩
    have h1 := (ho.fresh b 0 hA).2
    have h2 := (h'.fresh b off e).1
    omega)
end Go.Proofs.YtdfekphahdmffaaDoor
