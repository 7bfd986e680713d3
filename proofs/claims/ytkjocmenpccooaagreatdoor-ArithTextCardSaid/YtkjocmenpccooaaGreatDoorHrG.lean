/-
  The law ArithText: its walk.
-/
import Derived.Test.YtkjocmenpccooaaGreatDoorHrE
import Derived.Test.YtkjocmenpccooaaGreatDoorHqW
namespace Go.Proofs.YtkjocmenpccooaaGreatDoor
open Go.RowKit

theorem UTabs.keep {w w' : World} (h : UTabs w) (k : Keep (fun _ => False) w w') : UTabs w' := by
  have l1 : 0 < w.heap.size := World.block_lt_of_cell? w _ (h.1 0 (by omega))
  have l2 : 1 < w.heap.size := World.block_lt_of_cell? w _ (h.2 0 (by omega)).1
  refine ⟨fun c hc => ?_, fun i hi => ⟨?_, ?_⟩⟩
  · rw [k.cell (p := ⟨0, c, none⟩) l1 id]; exact h.1 c hc
  · rw [k.cell (p := ⟨1, 2 * i, none⟩) l2 id]; exact (h.2 i hi).1
  · rw [k.cell (p := ⟨1, 2 * i + 1, none⟩) l2 id]; exact (h.2 i hi).2
theorem text_index (t : ByteArray) (h : 0 < t.size) (W : World) : (Instr.index 9 (.string t) (.int .i64 0)).run Tryz.prog W = .ok (.int .u8 ((t[0]'h).toNat : Int)) W := by
  have hz : ((0 : Int) < (t.size : Int)) := by omega
  go_simp
theorem txt_minus (x : Int) : ((((txt x)[0]'(txt_pos x)).toNat : Int) == 45) = decide (x < 0) := by
  by_cases h : x < 0
  · rw [decide_eq_true h, (txt_first x).2 h]
    rfl
  · rw [decide_eq_false h]
    refine beq_eq_false_iff_ne.2 (fun e => h ((txt_first x).1 ?_))
    have e2 : ((txt x)[0]'(txt_pos x)).toNat = 45 := by omega
    exact UInt8.toNat_inj.1 e2
theorem yes_ask5 (k : Int) (hk : k = 15 ∨ k = 16 ∨ k = 17 ∨ k = 18 ∨ k = 19) (x : Int) (t : Bool) (ht : t = askB k x) (W : World) (A : Option Addr) (cp : Nat) (h : ArgsR W A [x]) : Calls Tryz.prog 12 #[.int .i64 k, .slice A 1 cp] W (BoolPost t W) := by
  subst ht
  exact yes_any W k A 1 cp _ (run_ask k hk W A cp x h)
theorem ask_neg (x : Int) : askB 17 x = decide (x < 0) := by
  unfold askB
  rw [if_neg (by decide), if_neg (by decide), if_pos rfl]
/-- A text's datum in a box. -/
def StrBox (W : World) (B : Nat) (t : ByteArray) : Prop := W.heap[B]? = some (.cells #[.int .i64 5, .int .i32 0, .bool false, .slice none 0 0, .string t, .slice none 0 0] 27 (0, 0))
set_option maxRecDepth 100000 in
set_option maxHeartbeats 40000000 in
theorem textlaw_any (w : World) (qx : Bool) (Ax : Option Addr) (nx cx : Nat) (lx : List Nat)
    (h1 : nx ≤ 60 → LimbsAt w Ax nx cx lx) (hT : PowTab w) (hU : UTabs w) :
    Calls Tryz.prog 5 #[numArg qx Ax nx cx] w (BoolPost true w) := by
  have HL := Lib.hid h1
  have HT5 := Lib.hid (And.intro hT hU)
  clear h1 hT hU
  have hb0 := heap_alloc_new w (.cells #[.bool qx, .slice Ax nx cx] 24)
  have HB0 := Lib.hid hb0
  obtain ⟨a0, a1⟩ := pair_cells hb0
  clear hb0
  have HK0 := Lib.hid ((Keep.refl (fun _ => False) w).alloc (.cells #[.bool qx, .slice Ax nx cx] 24))
  go_enter Tryz.func5, Tryz.ntmps5
  go_wp2_with fail
  generalize w.alloc (.cells #[.bool qx, .slice Ax nx cx] 24) = wa at *
  generalize w.heap.size = B0 at *
  refine (num_any11 _ qx Ax nx cx).mono ?_
  rintro e w2 ⟨rfl, k2⟩
  have hraw := heap_alloc_new w2 (datC 4 qx Ax nx cx ⟨#[]⟩)
  have HB2 := Lib.hid (bx_old (k2.heap HB0.out id) (datC 4 qx Ax nx cx ⟨#[]⟩))
  have HK2 := Lib.hid ((HK0.out.trans k2).alloc (datC 4 qx Ax nx cx ⟨#[]⟩))
  have HR2 := Lib.hid hraw
  obtain ⟨⟨x0, x1, x2, x3, x4, x5⟩, _⟩ := six_cells hraw
  clear k2 hraw a0 a1
  go_wp2_with fail
  generalize hw3 : w2.alloc (datC 4 qx Ax nx cx ⟨#[]⟩) = w3 at *
  have hsz : w3.heap.size = w2.heap.size + 1 := by rw [← hw3, World.size_alloc]
  clear hw3
  generalize w2.heap.size = Bx at *
  have hrow := fun (cs : Array Value) => row_new w3 cs 27
  rw [hsz] at hrow
  clear hsz
  have HBX := Lib.hid (show ND.Box w3 Bx ⟨qx, lx, ⟨Ax, nx, cx⟩⟩ from ⟨HR2.out, fun hn => (HL.out hn).keep0 HK2.out⟩)
  obtain ⟨t, ht⟩ : ∃ t, t = rightB [⟨qx, lx, ⟨Ax, nx, cx⟩⟩] := ⟨_, rfl⟩
  have HT := Lib.hid ht
  clear ht
  refine (right_any _ _ 1 _ [⟨qx, lx, ⟨Ax, nx, cx⟩⟩] rfl (DatR.of [⟨qx, lx, ⟨Ax, nx, cx⟩⟩] [] (hrow _) (by rfl) (fun d hd => by
    have k := (Keep.refl (fun _ => False) w3).alloc
    simp only [List.mem_cons, List.not_mem_nil, or_false] at hd
    subst hd
    exact HBX.out.2.keep0 (k _))) (by decide) t HT.out).mono ?_
  rintro e wr ⟨rfl, kr⟩
  have HKR := Lib.hid (((Keep.refl _ _).alloc _).trans kr)
  clear kr x0 x1 x2 x3 x4 x5 hrow
  cases t with
  | false =>
    go_wp2_with fail
    refine (awake_any _).mono ?_
    rintro e w5 ⟨rfl, k5⟩
    have HK5 := Lib.hid ((HK2.out.trans HKR.out).trans k5)
    clear k5
    go_wp2_with fail
    go_ret
    exact ⟨rfl, HK5.out⟩
  | true =>
    have OK := rightB_ok HT.out.symm _ List.mem_cons_self
    have X1 := (HBX.out.keep HKR.out).good OK
    have HN6 := Lib.hid X1.is.l.len
    obtain ⟨x, hx⟩ : ∃ x, x = ND.x ⟨qx, lx, ⟨Ax, nx, cx⟩⟩ := ⟨_, rfl⟩
    rw [← hx] at X1 HN6
    have HX := Lib.hid (show Road w wr [⟨Bx, x, qx, Ax, nx, cx⟩] from ⟨HK2.out.trans HKR.out, List.forall_mem_cons.2 ⟨X1, fun _ h => absurd h List.not_mem_nil⟩⟩)
    have HF := Lib.hid X1.is.f
    have HB3 := Lib.hid (HKR.out.heap HB2.out id)
    clear HKR HT OK X1 hx HBX HR2 HB2 HB0 HL
    obtain ⟨t, ht⟩ : ∃ t, t = txt x := ⟨_, rfl⟩
    have HTX := Lib.hid ht
    clear ht
    obtain ⟨x0, x1, x2, x3, x4, x5⟩ := HX.out.cells ⟨Bx, x, qx, Ax, nx, cx⟩ List.mem_cons_self
    go_wp2_with fail
    refine (run_show _ _ _ x (HX.out.args [⟨Bx, x, qx, Ax, nx, cx⟩] _ (by rfl) (List.forall_mem_cons.2 ⟨List.mem_cons_self, (fun _ h => absurd h List.not_mem_nil)⟩) _ (by simp)) (HT5.out.1.keep (HX.out.K.alloc _))).mono ?_
    rintro e w11 hre
    clear x0 x1 x2 x3 x4 x5
    rw [← HTX.out] at hre
    by_cases hm : t.size ≤ 62
    · rw [if_pos hm] at hre
      unfold RunEndT at hre
      rw [if_pos rfl] at hre
      obtain ⟨kk, rfl⟩ := hre
      have HM := Lib.hid hm
      clear hm
      have HX1 := Lib.hid ((HX.out.keep (((Keep.refl _ _).alloc _).trans kk)).other (datC 5 false none 0 0 t))
      have HSB := Lib.hid (show StrBox (w11.alloc (datC 5 false none 0 0 t)) w11.heap.size t from heap_alloc_new w11 _)
      clear kk
      clear HX
      have HX := HX1
      clear HX1
      obtain ⟨⟨s0, s1, s2, s3, s4, s5⟩, _⟩ := six_cells HSB.out
      go_wp2_with fail
      generalize hw4 : w11.alloc (datC 5 false none 0 0 t) = w4 at *
      have hsz : w4.heap.size = w11.heap.size + 1 := by rw [← hw4, World.size_alloc]
      clear hw4
      generalize w11.heap.size = Bs at *
      have hrow := fun (cs : Array Value) => row_new w4 cs 27
      rw [hsz] at hrow
      clear hsz
      have hUT : UTabs w4 := HT5.out.2.keep HX.out.K
      have HRD := Lib.hid (fun (cp : Nat) => run_read (w4.alloc (.cells #[.int .i64 5, .int .i32 0, .bool false, .slice none 0 0, .string t, .slice none 0 0] 27)) (some ⟨Bs + 1, 0, none⟩) cp x HF.out (by rw [← HTX.out]; exact HM.out) (str_item x (by rw [← HTX.out]; exact HM.out) (fun _ K2 => hUT.keep (((Keep.refl _ _).alloc _).trans K2)) (hrow _) rfl rfl rfl rfl (by rw [← HTX.out]; rfl) rfl))
      clear s0 s1 s2 s3 s4 s5 hrow hUT
      refine (HRD.out _).mono ?_
      rintro e w5 hre
      clear HRD
      obtain ⟨qy, Ay, ny, cy, rfl, kk, hv⟩ := hre.good
      have HSB2 := Lib.hid (show StrBox (w5.alloc (datC 4 qy Ay ny cy ⟨#[]⟩)) Bs t from ((((Keep.refl _ _).alloc _).trans kk).alloc _).heap HSB.out id)
      have HX1 := Lib.hid ((HX.out.keep (((Keep.refl _ _).alloc _).trans kk)).new hv)
      clear hv kk hre HSB
      clear HX
      have HX := HX1
      clear HX1
      go_upto_region 8 with fail
      generalize w5.alloc (datC 4 qy Ay ny cy ⟨#[]⟩) = w6 at HX HSB2 ⊢
      generalize w5.heap.size = By at HX ⊢
      obtain ⟨b, hb⟩ : ∃ b, b = decide (x < 0) := ⟨_, rfl⟩
      have htp : 0 < t.size := by rw [HTX.out]; exact txt_pos x
      have ix : ∀ W, (Instr.index 9 (.string t) (.int .i64 0)).run Tryz.prog W = .ok (.int .u8 ((t[0]'htp).toNat : Int)) W := fun W => text_index t htp W
      have hc : (((t[0]'htp).toNat : Int) == 45) = b := by
        rw [hb]
        have := txt_minus x
        simp only [← HTX.out] at this
        exact this
      generalize ((t[0]'htp).toNat : Int) = ch at ix hc
      have l1 : decide ((0 : Int) < (t.size : Int)) = true := decide_eq_true (by omega)
      have l2 : decide (0 < t.size) = true := decide_eq_true htp
      have HYC := Lib.hid (yes_ask5 17 (by omega) x b (by rw [hb, ask_neg]))
      have HBB := Lib.hid hb
      clear hb htp
      have HC := Lib.hid (fun (w' : World) (K : Keep (fun _ => False) w6 w') => (show w'.cell? ⟨By, 0, none⟩ = some (.int .i64 4) ∧ w'.cell? ⟨By, 1, none⟩ = some (.int .i32 0) ∧ w'.cell? ⟨By, 2, none⟩ = some (.bool qy) ∧ w'.cell? ⟨By, 3, none⟩ = some (.slice Ay ny cy) ∧ w'.cell? ⟨By, 4, none⟩ = some (.string ⟨#[]⟩) ∧ w'.cell? ⟨By, 5, none⟩ = some (.slice none 0 0) ∧ w'.cell? ⟨Bx, 0, none⟩ = some (.int .i64 4) ∧ w'.cell? ⟨Bx, 1, none⟩ = some (.int .i32 0) ∧ w'.cell? ⟨Bx, 2, none⟩ = some (.bool qx) ∧ w'.cell? ⟨Bx, 3, none⟩ = some (.slice Ax nx cx) ∧ w'.cell? ⟨Bx, 4, none⟩ = some (.string ⟨#[]⟩) ∧ w'.cell? ⟨Bx, 5, none⟩ = some (.slice none 0 0) ∧ w'.cell? ⟨Bs, 4, none⟩ = some (.string t) from by
        obtain ⟨a0, a1, a2, a3, a4, a5⟩ := (HX.out.keep K).cells ⟨By, x, qy, Ay, ny, cy⟩ List.mem_cons_self
        obtain ⟨b0, b1, b2, b3, b4, b5⟩ := (HX.out.keep K).cells ⟨Bx, x, qx, Ax, nx, cx⟩ (List.mem_cons_of_mem _ List.mem_cons_self)
        have hr := (six_cells (K.heap HSB2.out id)).1.2.2.2.2.1
        exact ⟨a0, a1, a2, a3, a4, a5, b0, b1, b2, b3, b4, b5, hr⟩))
      have KD : Keep (fun _ => False) w6 w6.drew := (Keep.refl _ _).drew
      cases b
      all_goals
        go_region_held3 (fun w' => w'.cell? ⟨By, 0, none⟩ = some (.int .i64 4) ∧ w'.cell? ⟨By, 1, none⟩ = some (.int .i32 0) ∧ w'.cell? ⟨By, 2, none⟩ = some (.bool qy) ∧ w'.cell? ⟨By, 3, none⟩ = some (.slice Ay ny cy) ∧ w'.cell? ⟨By, 4, none⟩ = some (.string ⟨#[]⟩) ∧ w'.cell? ⟨By, 5, none⟩ = some (.slice none 0 0) ∧ w'.cell? ⟨Bx, 0, none⟩ = some (.int .i64 4) ∧ w'.cell? ⟨Bx, 1, none⟩ = some (.int .i32 0) ∧ w'.cell? ⟨Bx, 2, none⟩ = some (.bool qx) ∧ w'.cell? ⟨Bx, 3, none⟩ = some (.slice Ax nx cx) ∧ w'.cell? ⟨Bx, 4, none⟩ = some (.string ⟨#[]⟩) ∧ w'.cell? ⟨Bx, 5, none⟩ = some (.slice none 0 0) ∧ w'.cell? ⟨Bs, 4, none⟩ = some (.string t))
          (first | exact HC.out _ KD | exact HC.out _ K7 | exact HC.out _ (K7.alloc _) | exact HC.out _ K8 | exact HC.out _ K9)
          (first
            | (go_at_call 8; refine (awake_any _).mono ?_; rintro e w9 ⟨rfl, kk⟩; have K9 := K8.trans kk; clear kk)
            | (go_at_call 12; refine (HYC.out _ _ _ ((HX.out.keep K7).args [⟨Bx, x, qx, Ax, nx, cx⟩] _ (by rfl) (List.forall_mem_cons.2 ⟨(List.mem_cons_of_mem _ List.mem_cons_self), (fun _ h => absurd h List.not_mem_nil)⟩) _ (by simp))).mono ?_; rintro e w8 ⟨rfl, kk⟩; have K8 := (K7.alloc _).trans kk; clear kk)
            | (go_at_call 10; refine ((HX.out.keep KD).same ⟨By, x, qy, Ay, ny, cy⟩ ⟨Bx, x, qx, Ax, nx, cx⟩ List.mem_cons_self (List.mem_cons_of_mem _ List.mem_cons_self) true (decide_eq_true rfl).symm).mono ?_; rintro e w7 ⟨rfl, kk⟩; have K7 := KD.trans kk; clear kk))
        all_goals
          have HKE := Lib.hid (HX.out.K.trans K9)
          go_wp2_with fail
          go_ret
          exact ⟨rfl, HKE.out⟩
    · rw [if_neg hm] at hre
      unfold RunEndT at hre
      rw [if_neg (by decide)] at hre
      obtain ⟨kk, rfl⟩ := hre
      have HX1 := Lib.hid ((HX.out.keep (((Keep.refl _ _).alloc _).trans kk)).other (datC 0 false none 0 0 ⟨#[]⟩))
      have hb3 := ((((Keep.refl _ _).alloc _).trans kk).alloc (datC 0 false none 0 0 ⟨#[]⟩)).heap HB3.out id
      clear kk
      clear HX
      have HX := HX1
      clear HX1
      obtain ⟨n0, n1⟩ := pair_cells hb3
      have hn6 : 6 < nx := by
        have h1 := HN6.out
        rcases Nat.lt_or_ge 6 nx with h | h
        · exact h
        · exfalso
          have h2 := txt_short x (by have h3 : (limbs x.natAbs).length = nx := h1; omega)
          rw [← HTX.out] at h2
          exact hm h2
      have l1 : decide ((6 : Int) < (nx : Int)) = true := decide_eq_true (by omega)
      have l2 : decide (6 < nx) = true := decide_eq_true hn6
      clear hb3 hm hn6
      go_wp2_with fail
      refine (awake_any _).mono ?_
      rintro e w5 ⟨rfl, k5⟩
      have HK5 := Lib.hid (HX.out.K.trans k5)
      clear k5
      go_wp2_with fail
      go_ret
      exact ⟨rfl, HK5.out⟩
end Go.Proofs.YtkjocmenpccooaaGreatDoor
