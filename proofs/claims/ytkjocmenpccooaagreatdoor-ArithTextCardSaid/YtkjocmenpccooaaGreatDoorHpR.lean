/-
  Things on the heap, read again: at, object, words, More, Type.
-/
import Derived.Test.YtkjocmenpccooaaGreatDoorHpI
namespace Go.Proofs.YtkjocmenpccooaaGreatDoor
open Go.RowKit

set_option maxRecDepth 100000 in
set_option maxHeartbeats 4000000 in
theorem at_obj {w : World} {h c s p g : Nat} {S : SpV} (H : HpAt w h c s p g S) (u a : Nat) (hu : u = a * 8 + 3) (ha : a < 65536) (k kd : Int) (hq : a / 64 < S.M.lim) (ht : 0 < (S.M.sg (a / 64)).taken) (hkd : (S.M.sg (a / 64)).kind = kd)
    (hn : ((a % 64 : Nat) : Int) < (S.M.sg (a / 64)).n) (b : Bool) (hb : (kd == k) = b) : Calls Tryz.prog 140 #[.pointer (some ⟨h, 0, none⟩), .int .u64 (u : Int), .int .i64 3, .int .i64 k] w (fun e w' => e = .returned (.tuple #[.int .i64 (a : Int), .bool b]) ∧ Keep (fun _ => False) w w') := by
  have HA := Lib.hid (fun w => (show Calls Tryz.prog 168 #[.int .u64 (u : Int)] w (AddrPost w (a : Int) true) from by
    have := addr_yes u w (by omega) ⟨by omega, by omega⟩
    rwa [show u / 8 = a from by omega] at this))
  unfold AddrPost at HA
  have HN := Lib.hid (fun (w2 : World) (K : Keep (fun _ => False) w w2) => none_any (H.keep0 K))
  have HT := Lib.hid (fun w => tag_any u 3 w (by omega) (by omega))
  obtain ⟨sg, hsg⟩ : ∃ sg, sg = S.M.sg (a / 64) := ⟨_, rfl⟩
  have HS := Lib.hid (fun (w2 : World) (K : Keep (fun _ => False) w w2) (y : Int) (hy : y = ((a / 64 : Nat) : Int)) => (show Calls Tryz.prog 142 #[.pointer (some ⟨p, 0, none⟩), .int .i64 y] w2 (fun e w' => e = .returned (.tuple #[.agg #[.int .i64 sg.gen, .int .i64 sg.kind, .int .i64 sg.n, .int .i64 sg.c0, .int .i64 sg.c1, .int .i64 sg.c2, .int .i64 sg.c3], .bool true]) ∧ Keep (fun _ => False) w2 w') from by
    rw [hsg]
    exact seg_yes p g S.M (a / 64) y w2 (H.keep0 K).cd.sp.mem H.ok.mem.l1024 hy hq ht))
  have HP := Lib.hid (fun (w2 : World) (K : Keep (fun _ => False) w w2) => (H.keep0 K).ptrs)
  rw [← hsg] at hkd hn
  have hkk : (sg.kind == k) = b := by rw [hkd]; exact hb
  have hnn : decide (((a : Int)) % 64 < sg.n) = true := decide_eq_true (by omega)
  have HU := Lib.hid hu
  have HAA := Lib.hid ha
  generalize sg.kind = kd2 at *
  generalize sg.n = nn at *
  clear H hu ha hq ht hkd hn hb hsg
  go_enter Tryz.func140, Tryz.ntmps140
  go_wp2_with fail
  refine (HA.out _).mono ?_
  rintro e w2 ⟨rfl, k2⟩
  have HK2 := Lib.hid k2
  clear k2
  go_wp2_with fail
  refine (HN.out _ HK2.out).mono ?_
  rintro e w3 ⟨rfl, rfl⟩
  go_wp2_with fail
  refine (HT.out _).mono ?_
  rintro e w3 ⟨rfl, rfl⟩
  obtain ⟨p1, p2, p3⟩ := HP.out _ HK2.out
  go_wp2_with fail
  refine (HS.out _ HK2.out _ (by have := HAA.out; unfold wrap64; push_cast; omega)).mono ?_
  rintro e w3 ⟨rfl, k3⟩
  have HK3 := Lib.hid (HK2.out.trans k3)
  clear k3 p1 p2 p3
  have hbx := heap_alloc_new w3 (.cells #[.int .i64 sg.gen, .int .i64 kd2, .int .i64 nn, .int .i64 sg.c0, .int .i64 sg.c1, .int .i64 sg.c2, .int .i64 sg.c3] 199)
  have b1 : (w3.alloc (.cells #[.int .i64 sg.gen, .int .i64 kd2, .int .i64 nn, .int .i64 sg.c0, .int .i64 sg.c1, .int .i64 sg.c2, .int .i64 sg.c3] 199)).cell? ⟨w3.heap.size, 1, none⟩ = some (.int .i64 kd2) := by rw [cell_of_row _ _ _ _ _ _ hbx]; rfl
  have b2 : (w3.alloc (.cells #[.int .i64 sg.gen, .int .i64 kd2, .int .i64 nn, .int .i64 sg.c0, .int .i64 sg.c1, .int .i64 sg.c2, .int .i64 sg.c3] 199)).cell? ⟨w3.heap.size, 2, none⟩ = some (.int .i64 nn) := by rw [cell_of_row _ _ _ _ _ _ hbx]; rfl
  have HK4 := Lib.hid (HK3.out.alloc (.cells #[.int .i64 sg.gen, .int .i64 kd2, .int .i64 nn, .int .i64 sg.c0, .int .i64 sg.c1, .int .i64 sg.c2, .int .i64 sg.c3] 199))
  clear hbx
  go_wp2_with fail
  generalize w3.alloc (.cells #[.int .i64 sg.gen, .int .i64 kd2, .int .i64 nn, .int .i64 sg.c0, .int .i64 sg.c1, .int .i64 sg.c2, .int .i64 sg.c3] 199) = w4 at *
  generalize w3.heap.size = B at *
  cases b with
  | true =>
    go_quiet (fail)
    go_wp2_with fail
    go_ret2
    exact ⟨rfl, HK4.out.drewN _⟩
  | false =>
    go_quiet (fail)
    go_wp2_with fail
    go_ret2
    exact ⟨rfl, HK4.out.drewN _⟩
set_option maxHeartbeats 4000000 in
theorem atu_no {w : World} {h c s p g : Nat} {S : SpV} (H : HpAt w h c s p g S) (u : Nat) (hu : u ≤ 18446744073709551615) (ha : ¬ isAddr u) (k : Int) : Calls Tryz.prog 140 #[.pointer (some ⟨h, 0, none⟩), .int .u64 (u : Int), .int .i64 3, .int .i64 k] w (fun e w' => e = .returned (.tuple #[.int .i64 0, .bool false]) ∧ Keep (fun _ => False) w w') := by
  have HA := Lib.hid (fun w => addr_no u w hu ha)
  unfold AddrPost at HA
  have HN := Lib.hid (fun (w2 : World) (K : Keep (fun _ => False) w w2) => none_any (H.keep0 K))
  clear H hu ha
  go_enter Tryz.func140, Tryz.ntmps140
  go_wp2_with fail
  refine (HA.out _).mono ?_
  rintro e w2 ⟨rfl, k2⟩
  have HK2 := Lib.hid k2
  clear k2
  go_wp2_with fail
  refine (HN.out _ HK2.out).mono ?_
  rintro e w3 ⟨rfl, rfl⟩
  go_wp2_with fail
  go_ret2
  exact ⟨rfl, HK2.out⟩
/-- What object tells. -/
def ObjPost (a k n more : Int) (ok : Bool) (w : World) (e : Ending) (w' : World) : Prop := e = .returned (.tuple #[.int .i64 a, .int .i64 k, .int .i64 n, .int .u64 more, .bool ok]) ∧ Keep (fun _ => False) w w'
set_option maxRecDepth 100000 in
set_option maxHeartbeats 8000000 in
theorem object_no {w : World} {h c s p g : Nat} {S : SpV} (H : HpAt w h c s p g S) (u : Nat) (hu : u ≤ 18446744073709551615) (ha : ¬ isAddr u) : Calls Tryz.prog 104 #[.pointer (some ⟨h, 0, none⟩), .int .u64 (u : Int)] w (ObjPost 0 0 0 0 false w) := by
  have HA := Lib.hid (fun (w2 : World) (K : Keep (fun _ => False) w w2) (k : Int) => atu_no (H.keep0 K) u hu ha k)
  clear H hu ha
  have ix0 : ∀ W : World, (Instr.index 194 (.agg #[.int .i64 2, .int .i64 3]) (.int .i64 0)).run Tryz.prog W = .ok (.int .i64 2) W := fun W => by kernel_rfl
  have ix1 : ∀ W : World, (Instr.index 194 (.agg #[.int .i64 2, .int .i64 3]) (.int .i64 1)).run Tryz.prog W = .ok (.int .i64 3) W := fun W => by kernel_rfl
  go_enter Tryz.func104, Tryz.ntmps104
  go_wp2_with fail
  refine wp_loop_rounds 3 ?_
  rw [rounds_succ]
  go_wp2_with fail
  refine (HA.out _ (Keep.refl _ _) _).mono ?_
  rintro e w2 ⟨rfl, k2⟩
  have HK2 := Lib.hid k2
  clear k2
  go_wp2_with fail
  rw [rounds_succ]
  go_wp2_with fail
  refine (HA.out _ HK2.out _).mono ?_
  rintro e w3 ⟨rfl, k3⟩
  have HK3 := Lib.hid (HK2.out.trans k3)
  clear k3
  go_wp2_with fail
  rw [rounds_succ]
  go_wp2_with fail
  refine bodyPost_ret (v := .tuple #[.int .i64 0, .int .i64 0, .int .i64 0, .int .u64 0, .bool false]) ?_ rfl ⟨rfl, HK3.out⟩
  simp [results, Tryz.results104, go_sem]
set_option maxRecDepth 100000 in
set_option maxHeartbeats 8000000 in
theorem object_any {w : World} {h c s p g : Nat} {S : SpV} (H : HpAt w h c s p g S) (u a k more : Nat) (ws : List Nat) (hu : u = a * 8 + 3) (ha : a < 65536) (hk : k = 2 ∨ k = 3) (hm : more < 281474976710656) (hn : ws.length ≤ 62) (A : At S.M 3 a (headW k ws.length more :: ws)) :
    Calls Tryz.prog 104 #[.pointer (some ⟨h, 0, none⟩), .int .u64 (u : Int)] w (ObjPost a k ws.length more true w) := by
  have n64 := (H.ok.mem.sg _ A.lim).n64
  have hroom := A.room
  rw [List.length_cons] at hroom
  have HA := Lib.hid (fun (w2 : World) (K : Keep (fun _ => False) w w2) (k2 : Int) (b : Bool) (hb : ((3 : Int) == k2) = b) => at_obj (H.keep0 K) u a hu ha k2 3 A.lim A.tk A.kd (by omega) b hb)
  have hw0 := A.wd 0 (by simp)
  rw [Nat.add_zero, List.getElem_cons_zero] at hw0
  have HRD := Lib.hid (fun (w2 : World) (K : Keep (fun _ => False) w w2) => (show Calls Tryz.prog 105 #[.pointer (some ⟨p, 0, none⟩), .int .i64 (a : Int)] w2 (fun e w' => e = .returned (.tuple #[.int .u64 ((headW k ws.length more : Nat) : Int), .int .i64 0]) ∧ w2 = w') from by
    have := read_yes p g S.M a a w2 (H.keep0 K).cd.sp.mem H.ok.mem.l1024 rfl A.lim A.tk (by omega) n64
    rwa [hw0] at this))
  have HHD := Lib.hid (fun w => whead_any k ws.length more w (by omega) hn hm)
  obtain ⟨sg, hsg⟩ : ∃ sg, sg = S.M.sg (a / 64) := ⟨_, rfl⟩
  have HS := Lib.hid (fun (w2 : World) (K : Keep (fun _ => False) w w2) (y : Int) (hy : y = ((a / 64 : Nat) : Int)) => (show Calls Tryz.prog 142 #[.pointer (some ⟨p, 0, none⟩), .int .i64 y] w2 (fun e w' => e = .returned (.tuple #[.agg #[.int .i64 sg.gen, .int .i64 sg.kind, .int .i64 sg.n, .int .i64 sg.c0, .int .i64 sg.c1, .int .i64 sg.c2, .int .i64 sg.c3], .bool true]) ∧ Keep (fun _ => False) w2 w') from by
    rw [hsg]
    exact seg_yes p g S.M (a / 64) y w2 (H.keep0 K).cd.sp.mem H.ok.mem.l1024 hy A.lim A.tk))
  have HP := Lib.hid (fun (w2 : World) (K : Keep (fun _ => False) w w2) => (H.keep0 K).ptrs)
  have HRW := Lib.hid (fun w => raw_any (k : Int) w (by omega))
  rw [← hsg] at hroom
  obtain ⟨k', hk'⟩ : ∃ x : Int, x = (k : Int) := ⟨_, rfl⟩
  obtain ⟨n', hn'⟩ : ∃ x : Int, x = (ws.length : Int) := ⟨_, rfl⟩
  obtain ⟨m', hm'⟩ : ∃ x : Int, x = (more : Int) := ⟨_, rfl⟩
  obtain ⟨a', ha'⟩ : ∃ x : Int, x = (a : Int) := ⟨_, rfl⟩
  obtain ⟨hw, hhw⟩ : ∃ x : Int, x = ((headW k ws.length more : Nat) : Int) := ⟨_, rfl⟩
  rw [← hk', ← hn', ← hm'] at HHD
  rw [← hhw] at HHD HRD
  rw [← ha'] at HRD HA
  rw [← hk'] at HRW
  unfold ObjPost
  rw [← hk', ← hn', ← hm', ← ha']
  have hlt : decide (a' % 64 + n' < sg.n) = true := decide_eq_true (by omega)
  have a0 : 0 ≤ a' := by omega
  have a1 : a' < 65536 := by omega
  have n0 : 0 ≤ n' := by omega
  have n1 : n' ≤ 62 := by omega
  have HA64 := Lib.hid (show a' / 64 = ((a / 64 : Nat) : Int) from by omega)
  generalize sg.n = nn at *
  clear H A hu ha hk hm hn n64 hroom hw0 hsg hk' hn' hm' ha' hhw
  have ix0 : ∀ W : World, (Instr.index 194 (.agg #[.int .i64 2, .int .i64 3]) (.int .i64 0)).run Tryz.prog W = .ok (.int .i64 2) W := fun W => by kernel_rfl
  have ix1 : ∀ W : World, (Instr.index 194 (.agg #[.int .i64 2, .int .i64 3]) (.int .i64 1)).run Tryz.prog W = .ok (.int .i64 3) W := fun W => by kernel_rfl
  go_enter Tryz.func104, Tryz.ntmps104
  go_wp2_with fail
  refine wp_loop_rounds 2 ?_
  rw [rounds_succ]
  go_wp2_with fail
  refine (HA.out _ (Keep.refl _ _) 2 false rfl).mono ?_
  rintro e w2 ⟨rfl, k2⟩
  have HK2 := Lib.hid k2
  clear k2
  go_wp2_with fail
  rw [rounds_succ]
  go_wp2_with fail
  refine (HA.out _ HK2.out 3 true rfl).mono ?_
  rintro e w3 ⟨rfl, k3⟩
  have HK3 := Lib.hid (HK2.out.trans k3)
  clear k3
  obtain ⟨p1, p2, p3⟩ := HP.out _ HK3.out
  go_wp2_with fail
  refine (HRD.out _ HK3.out).mono ?_
  rintro e w4 ⟨rfl, rfl⟩
  go_wp2_with fail
  refine (HHD.out _).mono ?_
  rintro e w4 ⟨rfl, k4⟩
  have HK4 := Lib.hid (HK3.out.trans k4)
  clear k4 p1 p2 p3
  obtain ⟨p1, p2, p3⟩ := HP.out _ HK4.out
  go_wp2_with fail
  refine (HS.out _ HK4.out _ HA64.out).mono ?_
  rintro e w5 ⟨rfl, k5⟩
  have HK5 := Lib.hid (HK4.out.trans k5)
  clear k5 p1 p2 p3
  have hbx := heap_alloc_new w5 (.cells #[.int .i64 sg.gen, .int .i64 sg.kind, .int .i64 nn, .int .i64 sg.c0, .int .i64 sg.c1, .int .i64 sg.c2, .int .i64 sg.c3] 199)
  have b2 : (w5.alloc (.cells #[.int .i64 sg.gen, .int .i64 sg.kind, .int .i64 nn, .int .i64 sg.c0, .int .i64 sg.c1, .int .i64 sg.c2, .int .i64 sg.c3] 199)).cell? ⟨w5.heap.size, 2, none⟩ = some (.int .i64 nn) := by rw [cell_of_row _ _ _ _ _ _ hbx]; rfl
  have HK6 := Lib.hid (HK5.out.alloc (.cells #[.int .i64 sg.gen, .int .i64 sg.kind, .int .i64 nn, .int .i64 sg.c0, .int .i64 sg.c1, .int .i64 sg.c2, .int .i64 sg.c3] 199))
  clear hbx
  go_wp2_with fail
  refine (HRW.out _).mono ?_
  rintro e w6 ⟨rfl, rfl⟩
  go_wp2_with fail
  refine bodyPost_ret (v := .tuple #[.int .i64 a', .int .i64 k', .int .i64 n', .int .u64 m', .bool true]) ?_ rfl ⟨rfl, HK6.out⟩
  simp [results, Tryz.results104, go_sem]
end Go.Proofs.YtkjocmenpccooaaGreatDoor
