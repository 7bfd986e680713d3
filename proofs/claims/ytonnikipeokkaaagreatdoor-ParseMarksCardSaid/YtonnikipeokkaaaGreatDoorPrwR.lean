/-
  The law ParseMarks.
-/
import Derived.Test.YtonnikipeokkaaaGreatDoorPrwN
import Derived.Test.YtonnikipeokkaaaGreatDoorPaLaw
namespace Go.Proofs.YtonnikipeokkaaaGreatDoor
open Go.RowKit Go.Lib

def gotC : Got → Raw × Int × Int × Int
  | .ok (d, n) => (d, (n : Int), 0, 0)
  | .error (p, c) => (.nil, 0, (p : Int), (c : Int))
theorem pone_c {r : Got} {W : World} {e : Ending} {w' : World} (h : ParsePOne r W e w') : OneC (gotC r).1 (gotC r).2.1 (gotC r).2.2.1 (gotC r).2.2.2 W e w' := by
  cases r with
  | ok x => exact h
  | error x =>
    obtain ⟨p, c⟩ := x
    obtain ⟨h1, h2⟩ := h
    exact ⟨PV.none, h1, RawAt.nil _ _ _, h2⟩
theorem data_mm (i : Nat) (hi : i < 4) (s mm : ByteArray) (h : mm = if i = 2 ∧ s.data.toList.head? = some 64 then mkT i ++ ⟨#[32]⟩ else mkT i) : (mm ++ s).data.toList = markM i s.data.toList ++ s.data.toList := by
  rw [ByteArray.data_append, Array.toList_append]
  congr 1
  subst h
  match i, hi with
  | 0, _ => rfl
  | 1, _ => rfl
  | 3, _ => rfl
  | 2, _ =>
    by_cases hh : s.data.toList.head? = some 64
    · have e : markM 2 s.data.toList = [44, 32] := by unfold markM; rw [if_neg (by decide), if_neg (by decide), if_pos rfl, if_pos hh]
      rw [e, if_pos ⟨rfl, hh⟩]; rfl
    · have e : markM 2 s.data.toList = [44] := by unfold markM; rw [if_neg (by decide), if_neg (by decide), if_pos rfl, if_neg hh]
      rw [e, if_neg (fun h => hh h.2)]; rfl
theorem data_br (x y : UInt8) (s : ByteArray) : (⟨#[x]⟩ ++ s ++ ⟨#[10, y]⟩ : ByteArray).data.toList = [x] ++ (s.data.toList ++ 10 :: [y]) := by
  simp [ByteArray.data_append]
set_option maxRecDepth 100000 in
set_option maxHeartbeats 4000000 in
theorem lawPMarks (s : ByteArray) (w : World) (hT : Tabs w) : Calls Tryz.prog 9 #[.string s] w (BoolPost true w) := by
  have HAW := Lib.hid (fun (W : World) (K : Keep (fun _ => False) w W) => pawake_any W (hT.keep K))
  by_cases ha : 3000 < s.size
  · exact marks_long s w HAW (by omega)
  have sz : s.data.toList.length = s.size := (Lib.size_eq s).symm
  have hO : ∀ (t : ByteArray) (r : Got) (_ : OneR t.data.toList 0 r) (W : World) (_ : Keep (fun _ => False) w W), Calls Tryz.prog 18 #[.string t, .int .i64 0] W (OneC (gotC r).1 (gotC r).2.1 (gotC r).2.2.1 (gotC r).2.2.2 W) := fun t r h W K => (pOne_any t 0 r h W (hT.keep K)).mono fun _ _ hp => pone_c hp
  obtain ⟨r, hr⟩ := OneR.ex s.data.toList 0
  obtain ⟨ds, qa, ca, hd⟩ := DataR.ex s.data.toList
  refine marks_w s w (gotC r).1 (gotC r).2.1 (gotC r).2.2.1 (gotC r).2.2.2 (Lib.hid (by omega)) (decide_eq_false (by omega)) (Lib.hid (hO s r hr)) (Lib.hid ?_) HAW ds (qa : Int) (ca : Int)
    (Lib.hid (fun W K => (pAll_any s ds qa ca W (hT.keep K) hd).mono (fun _ _ h => DatsPost.row h))) (Lib.hid ?_)
  · intro i hi mm hmm
    obtain ⟨g, hg, hm⟩ := mark_got i hi (by omega) hr
    refine ⟨(gotC g).1, (gotC g).2.1, (gotC g).2.2.1, (gotC g).2.2.2, hO (mm ++ s) g (by rw [data_mm i hi s mm hmm]; exact hg), fun hc => ?_⟩
    cases r with
    | error x =>
      obtain ⟨p, c⟩ := x
      exact absurd hc (by have := hr.code0; show ¬ (c : Int) = 0; omega)
    | ok x =>
      obtain ⟨d, e⟩ := x
      rcases hm d e rfl with ⟨e', rfl⟩ | ⟨q, rfl⟩
      · exact .inl ⟨rfl, rfl⟩
      · exact .inr rfl
  · intro hc
    have hc0 : ca = 0 := by omega
    subst hc0
    have hqa : qa = 0 := by
      rcases hd.code with h | h
      · exact h.2
      · omega
    subst hqa
    rcases brack_one (by omega) hd with ⟨n, n', h1, h2⟩ | ⟨q, q', h1, h2⟩
    · exact ⟨listR ds .nil, 0, n, 0, n', 0, hO _ _ (by rw [data_br]; exact h1), hO _ _ (by rw [data_br]; exact h2), .inl ⟨rfl, rfl⟩⟩
    · exact ⟨.nil, 10, 0, q, 0, q', hO _ _ (by rw [data_br]; exact h1), hO _ _ (by rw [data_br]; exact h2), .inr rfl⟩
end Go.Proofs.YtonnikipeokkaaaGreatDoor
