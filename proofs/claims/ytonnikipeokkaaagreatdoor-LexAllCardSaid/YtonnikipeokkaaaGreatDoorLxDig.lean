/-
  lex: digits.
-/
import Derived.Test.YtonnikipeokkaaaGreatDoorLxBase
import Derived.Laws.IdiomStrings
import Derived.Laws.BitsLemmas
namespace Go.Proofs.YtonnikipeokkaaaGreatDoor
open Go.RowKit Go.Lib

theorem or_dig (n v : Nat) (hn : n ≤ 1048575) (hv : v < 16) : bits .or .i32 ((n : Int) * 16) (v : Int) = ((n * 16 + v : Nat) : Int) := by
  have := bits_join .i32 31 (by decide) wraps_i32 4 ((n : Int) * 16) (v : Int) (by omega) (by omega) (by omega) (by omega) (by omega) (by omega)
  rw [this]; omega
theorem valid_charB (n : Nat) : Lib.validRune (n : Int) = charB n := by
  unfold Lib.validRune charB
  rw [Bool.eq_iff_iff]
  simp only [decide_eq_true_eq]
  omega
def DigPost (l : List UInt8) (w : World) (e : Ending) (w' : World) : Prop :=
  ∃ n : Nat, n < 16777216 ∧ e = .returned (.tuple #[.int .i32 (n : Int), .bool (hexC l).isSome]) ∧ (∀ r, hexC l = some r → r = n) ∧ Keep (fun _ => False) w w'
theorem hexN_step {l : List UInt8} {k n v : Nat} {c : UInt8} (hk : k < l.length) (hc : c = l.getD k 0) (hv : hexV c = some v) (h : hexN l 0 = hexN (l.drop k) n) : hexN l 0 = hexN (l.drop (k + 1)) (n * 16 + v) := by
  rw [h, drop_cons hk, ← hc, hexN, hv]
theorem pow_step {n k v : Nat} (h : n < 16 ^ k) (hv : v < 16) : n * 16 + v < 16 ^ (k + 1) := by rw [Nat.pow_succ]; omega
theorem dig_le {n k : Nat} (h : n < 16 ^ k) (hk : k < 6) : n ≤ 1048575 := by
  have h2 : 16 ^ k ≤ 16 ^ 5 := Nat.pow_le_pow_right (by omega) (by omega)
  omega
theorem dig_le6 {n k : Nat} (h : n < 16 ^ k) (hk : k ≤ 6) : n < 16777216 := by
  have h2 : 16 ^ k ≤ 16 ^ 6 := Nat.pow_le_pow_right (by omega) (by omega)
  omega
set_option maxRecDepth 100000 in
set_option maxHeartbeats 4000000 in
theorem digits_any (s : ByteArray) (w : World) (hs : s.size ≤ 1000000) :
    Calls Tryz.prog 127 #[.string s] w (DigPost s.data.toList w) := by
  have hz : s.data.toList.length = s.size := (Lib.size_eq s).symm
  by_cases h0 : s.size < 1
  · have t1 : decide ((s.size : Int) < 1) = true := decide_eq_true (by omega)
    have hx : hexC s.data.toList = none := by unfold hexC; rw [if_pos (by omega)]
    have HX := Lib.hid hx
    clear hx
    go_enter Tryz.func127, Tryz.ntmps127
    go_wp2_with fail
    go_ret2
    refine ⟨0, by omega, ?_, ?_, Keep.refl _ _⟩
    · rw [HX.out]; rfl
    · intro r hr; rw [HX.out] at hr; cases hr
  · have t1 : decide ((s.size : Int) < 1) = false := decide_eq_false (by omega)
    by_cases h6 : 6 < s.size
    · have t2 : decide ((6 : Int) < (s.size : Int)) = true := decide_eq_true (by omega)
      have hx : hexC s.data.toList = none := by unfold hexC; rw [if_pos (by omega)]
      have HX := Lib.hid hx
      clear hx
      go_enter Tryz.func127, Tryz.ntmps127
      go_wp2_with fail
      go_ret2
      refine ⟨0, by omega, ?_, ?_, Keep.refl _ _⟩
      · rw [HX.out]; rfl
      · intro r hr; rw [HX.out] at hr; cases hr
    · have t2 : decide ((6 : Int) < (s.size : Int)) = false := decide_eq_false (by omega)
      go_enter Tryz.func127, Tryz.ntmps127
      go_wp2_with fail
      have hconv := run_bytes_of_string (P := Tryz.prog) w 9 70 5 s rfl rfl rfl
      have hcell : ∀ j, j < s.size → (w.drew.alloc (Obj.cells (bytesRow s (grownCap w s.size 0 5)) 5 ((bytesRow s (grownCap w s.size 0 5)).size, (bytesRow s (grownCap w s.size 0 5)).size + 1))).cell? ⟨w.heap.size, j, none⟩ = some (.int .u8 ((s.data.toList.getD j 0).toNat : Int)) := by
        intro j hj
        have hb : (w.drew.alloc (Obj.cells (bytesRow s (grownCap w s.size 0 5)) 5 ((bytesRow s (grownCap w s.size 0 5)).size, (bytesRow s (grownCap w s.size 0 5)).size + 1))).heap[w.heap.size]? = some (.cells (bytesRow s (grownCap w s.size 0 5)) 5 ((bytesRow s (grownCap w s.size 0 5)).size, (bytesRow s (grownCap w s.size 0 5)).size + 1)) := heap_alloc_new w.drew _
        have hk2 : j < s.data.size := by simpa using hj
        unfold World.cell?
        rw [hb]
        have := bytesRow_at s (grownCap w s.size 0 5) j hk2
        simp only [this]
        simp [List.getD_eq_getElem?_getD, Array.getElem?_eq_getElem hk2]
      have hK : Keep (fun _ => False) w (w.drew.alloc (Obj.cells (bytesRow s (grownCap w s.size 0 5)) 5 ((bytesRow s (grownCap w s.size 0 5)).size, (bytesRow s (grownCap w s.size 0 5)).size + 1))) := (Keep.refl _ _).drew.alloc _
      generalize grownCap w s.size 0 5 = cap at hconv hcell hK
      generalize w.drew.alloc (Obj.cells (bytesRow s cap) 5 ((bytesRow s cap).size, (bytesRow s cap).size + 1)) = W at hconv hcell hK
      generalize w.heap.size = B at hconv hcell
      have HCELL := Lib.hid hcell
      have HK := Lib.hid hK
      clear hcell hK
      rw [hconv]
      clear hconv
      try dsimp only
      go_wp2_with fail
      go_loop [4, 18] (fun nv iv => ∃ k n : Nat, k ≤ s.size ∧ n < 16 ^ k ∧ (∃ N : Int, nv = .int .i32 N ∧ N = (n : Int)) ∧ iv = .int .i64 (k : Int) ∧ hexN s.data.toList 0 = hexN (s.data.toList.drop k) n) (fun _ iv => s.size - (intOf iv).toNat)
      case atStart => exact ⟨0, 0, Nat.zero_le _, by omega, ⟨0, rfl, rfl⟩, rfl, rfl⟩
      case round =>
        obtain ⟨k, n, hk, hn, ⟨N, rfl, hN⟩, rfl, hx⟩ := hrel
        have HX := Lib.hid hx
        have HN := Lib.hid hn
        have HNN := Lib.hid hN
        clear hx hn hN
        by_cases hlt : k < s.size
        · have b0 : 0 ≤ N := by rw [HNN.out]; omega
          have b1 : N ≤ 1048575 := by
            have h1 := HN.out
            have h2 : 16 ^ k ≤ 16 ^ 5 := Nat.pow_le_pow_right (by omega) (by omega)
            have h3 := HNN.out
            omega
          have hcell := HCELL.out k hlt
          obtain ⟨c, hc⟩ : ∃ c, c = s.data.toList.getD k 0 := ⟨_, rfl⟩
          rw [← hc] at hcell
          have d0 : decide ((k : Int) < (s.size : Int)) = true := decide_eq_true (by omega)
          by_cases g1 : 48 ≤ c.toNat ∧ c.toNat ≤ 57
          · obtain ⟨v, hv⟩ : ∃ v, c.toNat = 48 + v := ⟨c.toNat - 48, by omega⟩
            have hxv : hexV c = some (v + 0) := by unfold hexV; rw [if_pos g1]; congr 1; omega
            rw [hv] at hcell
            have hv9 : v ≤ 9 := by omega
            have HC := Lib.hid hc
            have HXV := Lib.hid hxv
            clear hc hv hxv g1
            go_wp2_with fail
            go_round
            case rel =>
              refine ⟨k + 1, n * 16 + (v + 0), by omega, pow_step HN.out (by omega), ⟨_, rfl, ?_⟩, by go_num, hexN_step (by omega) HC.out HXV.out HX.out⟩
              rw [HNN.out, show 48 + (v : Int) - 48 = ((v + 0 : Nat) : Int) by omega]
              exact or_dig _ _ (dig_le HN.out (by omega)) (by omega)
            case measure => simp [intOf]; omega
          by_cases g2 : 97 ≤ c.toNat ∧ c.toNat ≤ 102
          · obtain ⟨v, hv⟩ : ∃ v, c.toNat = 97 + v := ⟨c.toNat - 97, by omega⟩
            have hxv : hexV c = some (v + 10) := by unfold hexV; rw [if_neg g1, if_pos g2]; congr 1; omega
            rw [hv] at hcell
            have hv9 : v ≤ 5 := by omega
            have HC := Lib.hid hc
            have HXV := Lib.hid hxv
            clear hc hv hxv g1 g2
            go_wp2_with fail
            go_round
            case rel =>
              refine ⟨k + 1, n * 16 + (v + 10), by omega, pow_step HN.out (by omega), ⟨_, rfl, ?_⟩, by go_num, hexN_step (by omega) HC.out HXV.out HX.out⟩
              rw [HNN.out, show 97 + (v : Int) - 97 + 10 = ((v + 10 : Nat) : Int) by omega]
              exact or_dig _ _ (dig_le HN.out (by omega)) (by omega)
            case measure => simp [intOf]; omega
          by_cases g3 : 65 ≤ c.toNat ∧ c.toNat ≤ 70
          · obtain ⟨v, hv⟩ : ∃ v, c.toNat = 65 + v := ⟨c.toNat - 65, by omega⟩
            have hxv : hexV c = some (v + 10) := by unfold hexV; rw [if_neg g1, if_neg g2, if_pos g3]; congr 1; omega
            rw [hv] at hcell
            have hv9 : v ≤ 5 := by omega
            have HC := Lib.hid hc
            have HXV := Lib.hid hxv
            clear hc hv hxv g1 g2 g3
            go_wp2_with fail
            go_round
            case rel =>
              refine ⟨k + 1, n * 16 + (v + 10), by omega, pow_step HN.out (by omega), ⟨_, rfl, ?_⟩, by go_num, hexN_step (by omega) HC.out HXV.out HX.out⟩
              rw [HNN.out, show 65 + (v : Int) - 65 + 10 = ((v + 10 : Nat) : Int) by omega]
              exact or_dig _ _ (dig_le HN.out (by omega)) (by omega)
            case measure => simp [intOf]; omega
          have hxv : hexV c = none := by unfold hexV; rw [if_neg g1, if_neg g2, if_neg g3]
          have hx : hexC s.data.toList = none := by unfold hexC; rw [if_neg (by omega), HX.out, drop_cons (by omega), ← hc, hexN, hxv]
          have HXX := Lib.hid hx
          have HC := Lib.hid hc
          obtain ⟨d, hd⟩ : ∃ d, d = c.toNat := ⟨_, rfl⟩
          rw [← hd] at hcell g1 g2 g3
          clear hx hc hxv hd
          have key : (decide ((48 : Int) ≤ (d : Int)) = true → decide ((d : Int) ≤ 57) = false) ∧ (decide ((97 : Int) ≤ (d : Int)) = true → decide ((d : Int) ≤ 102) = false) ∧ (decide ((65 : Int) ≤ (d : Int)) = true → decide ((d : Int) ≤ 70) = false) := by
            refine ⟨fun h => ?_, fun h => ?_, fun h => ?_⟩ <;> (have := of_decide_eq_true h; exact decide_eq_false (by omega))
          clear g1 g2 g3
          obtain ⟨k1, k2, k3⟩ := key
          have done : ∀ (t : Keep (fun _ => False) w W), DigPost s.data.toList w (.returned (.tuple #[.int .i32 0, .bool false])) W := fun t => ⟨0, by omega, by rw [HXX.out]; rfl, by (intro r hr; rw [HXX.out] at hr; cases hr), t⟩
          have HD := Lib.hid (done HK.out)
          clear done
          cases q1 : decide ((48 : Int) ≤ (d : Int)) <;> cases q2 : decide ((97 : Int) ≤ (d : Int)) <;> cases q3 : decide ((65 : Int) ≤ (d : Int))
          all_goals
            simp only [q1, q2, q3, true_implies, reduceCtorEq, false_implies] at k1 k2 k3
            go_wp2_with fail
            go_ret2
            exact HD.out
        · have d0 : decide ((k : Int) < (s.size : Int)) = false := decide_eq_false (by omega)
          have d1 : decide (k < s.size) = false := decide_eq_false (by omega)
          have hx : hexC s.data.toList = if charB n then some n else none := by
            unfold hexC
            rw [if_neg (by omega), HX.out, List.drop_of_length_le (by omega), hexN]
          have HXX := Lib.hid hx
          have hn6 := dig_le6 HN.out (by omega)
          have HN6 := Lib.hid hn6
          clear hx hn6
          go_wp2_with fail
          refine (Tryz.utf8_ValidRune _ _).mono ?_
          rintro e w1 ⟨rfl, rfl⟩
          try dsimp only
          have hvr : Lib.validRune N = charB n := by rw [HNN.out]; exact valid_charB n
          rw [hvr]
          have HNV := Lib.hid HNN.out
          clear hvr
          obtain ⟨cb, hcb⟩ : ∃ cb, cb = charB n := ⟨_, rfl⟩
          rw [← hcb]
          have HCB := Lib.hid hcb
          clear hcb
          go_wp2_with fail
          refine bodyPost_ret (v := .tuple #[.int .i32 (n : Int), .bool cb]) (by simp [results, Tryz.results127, go_sem, HNV.out]) rfl ?_
          refine ⟨n, HN6.out, ?_, ?_, HK.out⟩
          · rw [HXX.out, ← HCB.out]
            cases cb <;> rfl
          · intro r hr
            rw [HXX.out, ← HCB.out] at hr
            cases cb
            · cases hr
            · injection hr with hr; exact hr.symm
end Go.Proofs.YtonnikipeokkaaaGreatDoor
