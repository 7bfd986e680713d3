/-
  lex: escape, quoted.
-/
import Derived.Test.YtonnikipeokkaaaGreatDoorLxDig
import Derived.Test.YtonnikipeokkaaaGreatDoorLxSkip
namespace Go.Proofs.YtonnikipeokkaaaGreatDoor
open Go.RowKit Go.Lib

theorem encode_utfB (n : Nat) (h : charB n = true) : Utf8.encode (n : Int) = ⟨(utfB n).toArray⟩ := by
  have hv : Utf8.valid (n : Int) = true := by
    unfold charB at h
    unfold Utf8.valid
    have := of_decide_eq_true h
    simp only [Bool.or_eq_true, Bool.and_eq_true, decide_eq_true_eq]
    omega
  unfold Utf8.encode utfB
  simp only [hv, if_true, Int.toNat_natCast]
  split
  · rfl
  split
  · rfl
  split
  · rfl
  · rfl
theorem hexC_char {l : List UInt8} {r : Nat} (h : hexC l = some r) : charB r = true := by
  unfold hexC at h
  split at h
  · cases h
  split at h
  · cases h
  split at h
  · rename_i g; injection h with h; rw [← h]; exact g
  · cases h
theorem index_semi : ∀ u : List UInt8, Lib.indexByte u 59 = match semi u with | some k => (k : Int) | none => -1
  | [] => rfl
  | b :: t => by
    have ih := index_semi t
    unfold Lib.indexByte
    by_cases h : b = 59
    · subst h; rfl
    · have hb : (b == 59) = false := by simpa using h
      rw [hb]
      simp only [Bool.false_eq_true, if_false]
      have hs : semi (b :: t) = (semi t).map (· + 1) := by
        unfold semi
        have e : ((b :: t).takeWhile (fun b => b != 59)).length = (t.takeWhile (fun b => b != 59)).length + 1 := by
          rw [List.takeWhile_cons, if_pos (by simpa using h), List.length_cons]
        rw [e, List.length_cons]
        by_cases g : (t.takeWhile (fun b => b != 59)).length < t.length
        · rw [if_pos g, if_pos (by omega)]; rfl
        · rw [if_neg g, if_neg (by omega)]; rfl
      rw [hs, ih]
      cases semi t with
      | none => rfl
      | some k =>
        simp only [Option.map_some]
        rw [if_neg (by simp)]
        simp
theorem escL_x (by_ : UInt8) (u : List UInt8) : (semi u = none → escL by_ (120 :: u) = .bad) ∧ ∀ k, semi u = some k → (hexC (u.take k) = none → escL by_ (120 :: u) = .bad) ∧ ∀ r, hexC (u.take k) = some r → escL by_ (120 :: u) = .ok (utfB r) (k + 2) := by
  refine ⟨fun h => ?_, fun k h => ⟨fun g => ?_, fun r g => ?_⟩⟩
  · rw [escL, if_neg (by decide), if_neg (by decide), if_neg (by decide), if_neg (by decide), if_pos rfl, h]
  · rw [escL, if_neg (by decide), if_neg (by decide), if_neg (by decide), if_neg (by decide), if_pos rfl, h]
    simp only
    rw [g]
  · rw [escL, if_neg (by decide), if_neg (by decide), if_neg (by decide), if_neg (by decide), if_pos rfl, h]
    simp only
    rw [g]
def EscPost (r : EscR) (a : Nat) (w : World) (e : Ending) (w' : World) : Prop :=
  match r with
  | .ok out n => e = .returned (.tuple #[.string ⟨out.toArray⟩, .int .i64 ((a + n : Nat) : Int), .bool true]) ∧ Keep (fun _ => False) w w'
  | .bad => ∃ x i, e = .returned (.tuple #[.string x, .int .i64 i, .bool false]) ∧ Keep (fun _ => False) w w'
  | .open_ => False
theorem byte_ne {c d : UInt8} (h : c ≠ d) : ((c.toNat : Int) == (d.toNat : Int)) = false := by
  rw [byte_eq]; simpa using h
set_option maxRecDepth 100000 in
set_option maxHeartbeats 4000000 in
theorem escape_any (s : ByteArray) (a : Nat) (by_ : UInt8) (w : World) (ha : a < s.size) (hs : s.size ≤ 1000000) :
    Calls Tryz.prog 120 #[.string s, .int .i64 (a : Int), .int .u8 (by_.toNat : Int)] w (EscPost (escL by_ (s.data.toList.drop a)) a w) := by
  have hz : s.data.toList.length = s.size := (Lib.size_eq s).symm
  have hx := at_run s a (by rw [hz]; exact ha) _ rfl
  have hdrop := drop_cons (l := s.data.toList) (i := a) (by omega)
  rw [hdrop]
  obtain ⟨c, hc⟩ : ∃ c, c = s.data.toList.getD a 0 := ⟨_, rfl⟩
  rw [← hc] at hx ⊢
  have HDR := Lib.hid hdrop
  have HC := Lib.hid hc
  have HZ := Lib.hid hz
  clear hdrop hc hz
  have K0 : Keep (fun _ => False) w w := Keep.refl _ _
  have HK := Lib.hid K0
  clear K0
  by_cases c1 : c = 92 ∨ c = 34
  · have hv : escL by_ (c :: s.data.toList.drop (a + 1)) = .ok [c] 1 := by rw [escL, if_pos c1]
    rw [hv]
    clear hv
    rcases c1 with rfl | rfl
    all_goals
      clear HC
      go_enter Tryz.func120, Tryz.ntmps120
      go_wp2_with fail
    · exact bodyPost_ret (v := .tuple #[.string (Utf8.encode 92), .int .i64 ((a + 1 : Nat) : Int), .bool true]) (by simp [results, Tryz.results120, go_sem]) rfl ⟨rfl, HK.out⟩
    · exact bodyPost_ret (v := .tuple #[.string (Utf8.encode 34), .int .i64 ((a + 1 : Nat) : Int), .bool true]) (by simp [results, Tryz.results120, go_sem]) rfl ⟨rfl, HK.out⟩
  by_cases c110 : c = 110
  · have hv : escL by_ (c :: s.data.toList.drop (a + 1)) = .ok [10] 1 := by rw [escL, if_neg c1,  if_pos c110]
    rw [hv]
    clear hv HC
    subst c110
    clear c1
    go_enter Tryz.func120, Tryz.ntmps120
    go_wp2_with fail
    exact bodyPost_ret (v := .tuple #[.string ⟨#[10]⟩, .int .i64 ((a + 1 : Nat) : Int), .bool true]) (by simp [results, Tryz.results120, go_sem]) rfl ⟨rfl, HK.out⟩
  by_cases c116 : c = 116
  · have hv : escL by_ (c :: s.data.toList.drop (a + 1)) = .ok [9] 1 := by rw [escL, if_neg c1, if_neg c110,  if_pos c116]
    rw [hv]
    clear hv HC
    subst c116
    clear c1 c110
    go_enter Tryz.func120, Tryz.ntmps120
    go_wp2_with fail
    exact bodyPost_ret (v := .tuple #[.string ⟨#[9]⟩, .int .i64 ((a + 1 : Nat) : Int), .bool true]) (by simp [results, Tryz.results120, go_sem]) rfl ⟨rfl, HK.out⟩
  by_cases c114 : c = 114
  · have hv : escL by_ (c :: s.data.toList.drop (a + 1)) = .ok [13] 1 := by rw [escL, if_neg c1, if_neg c110, if_neg c116,  if_pos c114]
    rw [hv]
    clear hv HC
    subst c114
    clear c1 c110 c116
    go_enter Tryz.func120, Tryz.ntmps120
    go_wp2_with fail
    exact bodyPost_ret (v := .tuple #[.string ⟨#[13]⟩, .int .i64 ((a + 1 : Nat) : Int), .bool true]) (by simp [results, Tryz.results120, go_sem]) rfl ⟨rfl, HK.out⟩
  have n1 : c ≠ 92 ∧ c ≠ 34 := ⟨fun h => c1 (.inl h), fun h => c1 (.inr h)⟩
  have e92 : ((c.toNat : Int) == 92) = false := byte_ne n1.1
  have e34 : ((c.toNat : Int) == 34) = false := byte_ne n1.2
  have e110 : ((c.toNat : Int) == 110) = false := byte_ne c110
  have e116 : ((c.toNat : Int) == 116) = false := byte_ne c116
  have e114 : ((c.toNat : Int) == 114) = false := byte_ne c114
  by_cases c120 : c = 120
  · have hsemi := index_semi (c :: s.data.toList.drop (a + 1))
    have hext : (s.extract a s.size).data.toList = c :: s.data.toList.drop (a + 1) := by
      rw [Lib.extract_data, List.take_of_length_le (by rw [List.length_drop]; have := HZ.out; omega), HDR.out, ← HC.out]
    have hsm : semi (c :: s.data.toList.drop (a + 1)) = (semi (s.data.toList.drop (a + 1))).map (· + 1) := by
      unfold semi
      have e : ((c :: s.data.toList.drop (a + 1)).takeWhile (fun b => b != 59)).length = ((s.data.toList.drop (a + 1)).takeWhile (fun b => b != 59)).length + 1 := by
        rw [List.takeWhile_cons, if_pos (by rw [c120]; decide), List.length_cons]
      rw [e, List.length_cons]
      by_cases g : ((s.data.toList.drop (a + 1)).takeWhile (fun b => b != 59)).length < (s.data.toList.drop (a + 1)).length
      · rw [if_pos g, if_pos (by omega)]; rfl
      · rw [if_neg g, if_neg (by omega)]; rfl
    rw [hsm] at hsemi
    subst c120
    have HEX := Lib.hid hext
    have HL := Lib.hid (escL_x by_ (s.data.toList.drop (a + 1)))
    clear hsm hext e92 e34 e110 e116 e114 n1 c1 c110 c116 c114
    have hlen : (s.data.toList.drop (a + 1)).length = s.size - (a + 1) := by rw [List.length_drop, HZ.out]
    cases hs2 : semi (s.data.toList.drop (a + 1)) with
    | none =>
      rw [hs2] at hsemi
      rw [HL.out.1 hs2]
      have hsemi : Lib.indexByte (120 :: s.data.toList.drop (a + 1)) 59 = -1 := hsemi
      have HSE := Lib.hid hsemi
      clear hsemi hs2 hlen
      go_enter Tryz.func120, Tryz.ntmps120
      go_wp2_with fail
      refine (Tryz.strings_IndexByte _ _ _).mono ?_
      rintro e w1 ⟨rfl, rfl⟩
      rw [HEX.out, show Lib.indexByte (120 :: s.data.toList.drop (a + 1)) ((59 : Int).toNat.toUInt8) = -1 from HSE.out]
      try dsimp only
      go_wp2_with fail
      exact bodyPost_ret (v := .tuple #[.string ⟨#[]⟩, .int .i64 0, .bool false]) (by simp [results, Tryz.results120, go_sem]) rfl ⟨_, _, rfl, HK.out⟩
    | some k =>
      have hk := semi_le hs2
      rw [hlen] at hk
      rw [hs2] at hsemi
      have hsemi : Lib.indexByte (120 :: s.data.toList.drop (a + 1)) 59 = ((k + 1 : Nat) : Int) := hsemi
      have hext2 : (s.extract (a + 1) (a + (k + 1))).data.toList = (s.data.toList.drop (a + 1)).take k := by
        rw [Lib.extract_data, show a + (k + 1) - (a + 1) = k by omega]
      have hsz2 : (s.extract (a + 1) (a + (k + 1))).size ≤ 1000000 := by
        rw [Lib.size_eq, hext2]
        have := List.length_take_le k (s.data.toList.drop (a + 1))
        omega
      have HSE := Lib.hid hsemi
      have HX2 := Lib.hid hext2
      have HZ2 := Lib.hid hsz2
      have HL2 := Lib.hid (HL.out.2 k hs2)
      clear hsemi hs2 hlen hext2 hsz2
      have b1 : (0 : Int) ≤ (k : Int) + 1 := by omega
      have b2 : decide ((k : Int) + 1 < 0) = false := decide_eq_false (by omega)
      go_enter Tryz.func120, Tryz.ntmps120
      go_wp2_with fail
      refine (Tryz.strings_IndexByte _ _ _).mono ?_
      rintro e w1 ⟨rfl, rfl⟩
      rw [HEX.out, show Lib.indexByte (120 :: s.data.toList.drop (a + 1)) ((59 : Int).toNat.toUInt8) = ((k + 1 : Nat) : Int) from HSE.out]
      obtain ⟨q, hq⟩ : ∃ q, q = k + 1 := ⟨_, rfl⟩
      rw [← hq] at HX2 HZ2 ⊢
      have HQ := Lib.hid hq
      have b3 : a + q < s.size := by omega
      have b4 : 1 ≤ q := by omega
      clear hq b1 b2 hk
      have b5 : decide ((q : Int) < 0) = false := decide_eq_false (by omega)
      try dsimp only
      go_wp2_with fail
      refine (digits_any _ _ HZ2.out).mono ?_
      rintro e w2 ⟨n, hn, rfl, hr, k2⟩
      rw [HX2.out] at hr ⊢
      have HN := Lib.hid hn
      have HK2 := Lib.hid (HK.out.trans k2)
      clear hn k2
      cases hcx : hexC ((s.data.toList.drop (a + 1)).take k) with
      | none =>
        have HCX := Lib.hid hcx
        clear hr hcx
        try dsimp only [Option.isSome]
        go_wp2_with fail
        refine bodyPost_ret (v := .tuple #[.string (Utf8.encode (n : Int)), .int .i64 ((a : Int) + q + 1), .bool false]) (by simp [results, Tryz.results120, go_sem]) rfl ?_
        rw [HL2.out.1 HCX.out]
        exact ⟨_, _, rfl, HK2.out⟩
      | some r =>
        obtain rfl := hr r hcx
        have HENC := Lib.hid (encode_utfB r (hexC_char hcx))
        have HCX := Lib.hid hcx
        clear hr hcx
        try dsimp only [Option.isSome]
        go_wp2_with fail
        refine bodyPost_ret (v := .tuple #[.string (Utf8.encode (r : Int)), .int .i64 ((a : Int) + q + 1), .bool true]) (by simp [results, Tryz.results120, go_sem]) rfl ?_
        rw [HL2.out.2 r HCX.out]
        unfold EscPost
        rw [HENC.out, HQ.out]
        refine ⟨?_, HK2.out⟩
        rw [show ((a : Int) + ((k + 1 : Nat) : Int) + 1) = ((a + (k + 2) : Nat) : Int) by omega]
  have e120 : ((c.toNat : Int) == 120) = false := byte_ne c120
  by_cases c124 : c = 124
  · subst c124
    have eby : ((by_.toNat : Int) == 124) = (by_ == 124) := byte_eq by_ 124
    cases hb : by_ == 124 with
    | true =>
      rw [hb] at eby
      have hv : escL by_ (124 :: s.data.toList.drop (a + 1)) = .ok [124] 1 := by
        rw [escL, if_neg c1, if_neg c110, if_neg c116, if_neg c114, if_neg c120, if_pos ⟨rfl, by simpa using hb⟩]
      rw [hv]
      clear hv HC hb e92 e34 e110 e116 e114 e120 n1 c1 c110 c116 c114 c120
      go_enter Tryz.func120, Tryz.ntmps120
      go_wp2_with fail
      exact bodyPost_ret (v := .tuple #[.string ⟨#[124]⟩, .int .i64 ((a + 1 : Nat) : Int), .bool true]) (by simp [results, Tryz.results120, go_sem]) rfl ⟨rfl, HK.out⟩
    | false =>
      rw [hb] at eby
      have hv : escL by_ (124 :: s.data.toList.drop (a + 1)) = .bad := by
        rw [escL, if_neg c1, if_neg c110, if_neg c116, if_neg c114, if_neg c120, if_neg (by rintro ⟨_, h⟩; rw [h] at hb; cases hb)]
      rw [hv]
      clear hv HC hb e92 e34 e110 e116 e114 e120 n1 c1 c110 c116 c114 c120
      go_enter Tryz.func120, Tryz.ntmps120
      go_wp2_with fail
      exact bodyPost_ret (v := .tuple #[.string ⟨#[124]⟩, .int .i64 ((a + 1 : Nat) : Int), .bool false]) (by simp [results, Tryz.results120, go_sem]) rfl ⟨_, _, rfl, HK.out⟩
  have e124 : ((c.toNat : Int) == 124) = false := byte_ne c124
  have hv : escL by_ (c :: s.data.toList.drop (a + 1)) = .bad := by
    rw [escL, if_neg c1, if_neg c110, if_neg c116, if_neg c114, if_neg c120, if_neg (by rintro ⟨h, _⟩; exact c124 h)]
  rw [hv]
  have HC2 := Lib.hid HC.out
  clear hv n1 c1 c110 c116 c114 c120 c124 HC
  obtain ⟨d, hd⟩ : ∃ d, d = (c.toNat : Int) := ⟨_, rfl⟩
  rw [← hd] at hx e92 e34 e110 e116 e114 e120 e124
  clear hd
  go_enter Tryz.func120, Tryz.ntmps120
  go_wp2_with fail
  exact bodyPost_ret (v := .tuple #[.string ⟨#[]⟩, .int .i64 0, .bool false]) (by simp [results, Tryz.results120, go_sem]) rfl ⟨_, _, rfl, HK.out⟩
end Go.Proofs.YtonnikipeokkaaaGreatDoor
