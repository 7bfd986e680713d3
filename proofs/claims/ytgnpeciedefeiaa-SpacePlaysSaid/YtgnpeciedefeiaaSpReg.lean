/-
  morainelaw08.stands: its second statement: both have as much, and as many words.
-/
import Derived.Test.YtgnpeciedefeiaaSpDoes
import Derived.Test.YtgnpeciedefeiaaStandsReg
namespace Go.Proofs.Ytgnpeciedefeiaa
open Go.RowKit

/-- How many words those of some generations have. -/
def sumL (M : MemV) (gs : List Int) (L : List Nat) : Int := sumTo M (LF M gs L) (LF M gs L).length
def WPost (w0 w : World) (x : Int) (e : Ending) (w' : World) : Prop := e = .returned (.int .i64 x) ∧ Keep (fun _ => False) w0 w' ∧ ∀ A n L, IA w A n L → IA w' A n L
theorem words_as {s p g : Nat} {S : SpV} {L : List Nat} (ok : S.Ok) (T : TakenL S.M [] L) {w0 : World} (h : SpAt w0 s p g S) (gs : List Int) (A : Option Addr) (n c : Nat) (w : World) (K : Keep (fun _ => False) w0 w) (hg : IA w A n gs) (hn : n ≤ 1000000) :
    Calls Try.prog 69 #[.pointer (some ⟨s, 0, none⟩), .slice A n c] w (WPost w0 w (sumL S.M gs L)) :=
  (words8_any (h.keep0 K) ok A n c gs hg.h hn).mono fun e w' ⟨L', hT, he, k⟩ => by
    obtain rfl : L' = LF S.M gs L := hT.unique (T.filter gs)
    exact ⟨he, K.trans k, fun _ _ _ h => h.keep0 k⟩
theorem rwords_as {base r q : Nat} {S : SpV} {L : List Nat} (ok : S.Ok) {w0 : World} (R : R8At w0 base r q S L) (gs : List Int) (A : Option Addr) (n c : Nat) (w : World) (K : Keep (fun _ => False) w0 w) (hg : IA w A n gs) (hn : n ≤ 1000000) :
    Calls Try.prog 71 #[.pointer (some ⟨r, 0, none⟩), .slice A n c] w (WPost w0 w (sumL S.M gs L)) :=
  (rwords8_any (R.keep0 K) ok A n c gs hg.h hn).mono fun e w' ⟨L', hT, he, k⟩ => by
    obtain rfl : L' = LF S.M gs L := hT.unique (R.ref.taken.filter gs)
    exact ⟨he, K.trans k, fun _ _ _ h => h.keep0 k⟩
/-- Cells that are read in 'stands'. -/
def Facts8 (s p r q : Nat) (M : MemV) (L : List Nat) (Av : Option Addr) (cap : Nat) (w0 w : World) : Prop :=
  w.cell? ⟨s, 0, none⟩ = some (.pointer (some ⟨p, 0, none⟩)) ∧ w.cell? ⟨r, 0, none⟩ = some (.pointer (some ⟨q, 0, none⟩)) ∧ w.cell? ⟨q, 0, none⟩ = some (.int .i64 (M.lim : Int)) ∧ w.cell? ⟨q, 1, none⟩ = some (.slice Av L.length cap) ∧ Keep (fun _ => False) w0 w
theorem facts8 {w : World} {s p g base r q : Nat} {S : SpV} {L : List Nat} (h : SpAt w s p g S) (R : R8At w base r q S L) : ∃ Av cap, ∀ w', Keep (fun _ => False) w w' → Facts8 s p r q S.M L Av cap w w' := by
  obtain ⟨T, v, wv, RN⟩ := R.ref
  obtain ⟨Av, cap, rfl⟩ := RN.shape
  obtain ⟨c0, c1⟩ := RN.cells
  have hql := RN.lt
  exact ⟨Av, cap, fun w' K => ⟨(K.cell (p := ⟨s, 0, none⟩) h.lt (by simp)).trans h.ptr, (K.cell (p := ⟨r, 0, none⟩) R.lt (by simp)).trans R.ptr, (K.cell (p := ⟨q, 0, none⟩) hql (by simp)).trans c0, (K.cell (p := ⟨q, 1, none⟩) hql (by simp)).trans c1, K⟩⟩

noncomputable def stands8Reg : Code := (Try.f33.body.bind (pickRegion 2)).getD .skip

set_option maxRecDepth 100000 in
set_option maxHeartbeats 16000000 in
theorem stands8_reg (base s p g r q : Nat) (S : SpV) (L : List Nat) (w : World) (h : SpAt w s p g S) (R : R8At w base r q S L) (ok : S.Ok) (w1 : World) (A1 A2 : Option Addr) (ca1 ca2 : Nat) (Av : Option Addr) (cap : Nat)
    (F : ∀ w', Keep (fun _ => False) w w' → Facts8 s p r q S.M L Av cap w w') (K1 : Keep (fun _ => False) w w1) (K' : Act → World → Prop) (Q' : Exit → Act → World → Prop) (u18 u19 u20 u21 u22 u23 u24 u25 u26 u27 u28 u29 u30 u31 u32 u33 u34 u35 u36 u37 u38 u39 u40 u41 u42 u43 u44 u45 u46 u47 u48 u49 u50 u51 u52 u53 u54 u55 u56 u57 u58 u59 u60 u61 u62 u63 u64 u65 u66 u67 u68 u69 u70 u71 u72 u73 u74 u75 u76 u77 u78 u79 u80 u81 u82 u83 u84 u85 u86 u87 u88 u89 u90 u91 u92 u93 u94 u95 u96 u97 u98 u99 u100 u101 u102 u103 u104 u105 u106 u107 u108 u109 u110 u111 u112 u113 u114 u115 u116 u117 u118 u119 u120 u121 u122 u123 u124 u125 u126 u127 u128 u129 u130 u131 u132 u133 u134 u135 u136 u137 u138 u139 u140 u141 u142 u143 u144 u145 u146 u147 u148 u149 u150 u151 u152 u153 u154 u155 u156 u157 u158 u159 u160 u161 u162 u163 u164 u165 u166 u167 u168 u169 u170 u171 u172 u173 u174 u175 u176 u177 u178 u179 u180 u181 u182 u183 u184 u185 u186 u187 u188 u189 u190 u191 u192 u193 u194 u195 u196 u197 u198 u199 u200 u201 u202 u203 u204 u205 u206 u207 u208 u209 u210 u211 u212 u213 u214 u215 u216 u217 u218 u219 u220 u221 u222 u223 u224 u225 : Value)
    (hK : ∀ (v18 v19 v20 v21 v22 v23 v24 v25 v26 v27 v28 v29 v30 v31 v32 v33 v34 v35 v36 v37 v38 v39 v40 v41 v42 v43 v44 v45 v46 v47 v48 v49 v50 v51 v52 v53 v54 v55 v56 v57 v58 v59 v60 v61 v62 v63 v64 v65 v66 v67 v68 v69 v70 v71 v72 v73 v74 v75 v76 v77 v78 v79 v80 : Value) (wx : World), Keep (fun _ => False) w wx → K' ⟨#[.pointer (some ⟨s, 0, none⟩), .pointer (some ⟨r, 0, none⟩), undef, undef, .bool false, .slice A1 L.length ca1, .slice A2 L.length ca2, undef, undef, undef, undef, undef, undef, undef, undef, undef, undef, undef, v18, v19, v20, v21, v22, v23, v24, v25, v26, v27, v28, v29, v30, v31, v32, v33, v34, v35, v36, v37, v38, v39, v40, v41, v42, v43, v44, v45, v46, v47, v48, v49, v50, v51, v52, v53, v54, v55, v56, v57, v58, v59, v60, v61, v62, v63, v64, v65, v66, v67, v68, v69, v70, v71, v72, v73, v74, v75, v76, v77, v78, v79, v80, .bool false, u82, u83, u84, u85, u86, u87, u88, u89, u90, u91, u92, u93, u94, u95, u96, u97, u98, u99, u100, u101, u102, u103, u104, u105, u106, u107, u108, u109, u110, u111, u112, u113, u114, u115, u116, u117, u118, u119, u120, u121, u122, u123, u124, u125, u126, u127, u128, u129, u130, u131, u132, u133, u134, u135, u136, u137, u138, u139, u140, u141, u142, u143, u144, u145, u146, u147, u148, u149, u150, u151, u152, u153, u154, u155, u156, u157, u158, u159, u160, u161, u162, u163, u164, u165, u166, u167, u168, u169, u170, u171, u172, u173, u174, u175, u176, u177, u178, u179, u180, u181, u182, u183, u184, u185, u186, u187, u188, u189, u190, u191, u192, u193, u194, u195, u196, u197, u198, u199, u200, u201, u202, u203, u204, u205, u206, u207, u208, u209, u210, u211, u212, u213, u214, u215, u216, u217, u218, u219, u220, u221, u222, u223, u224, u225], []⟩ wx) :
    Code.wp Try.prog stands8Reg (Exit.then K' Q') ⟨#[.pointer (some ⟨s, 0, none⟩), .pointer (some ⟨r, 0, none⟩), undef, undef, .bool false, .slice A1 L.length ca1, .slice A2 L.length ca2, undef, undef, undef, undef, undef, undef, undef, undef, undef, undef, undef, u18, u19, u20, u21, u22, u23, u24, u25, u26, u27, u28, u29, u30, u31, u32, u33, u34, u35, u36, u37, u38, u39, u40, u41, u42, u43, u44, u45, u46, u47, u48, u49, u50, u51, u52, u53, u54, u55, u56, u57, u58, u59, u60, u61, u62, u63, u64, u65, u66, u67, u68, u69, u70, u71, u72, u73, u74, u75, u76, u77, u78, u79, u80, u81, u82, u83, u84, u85, u86, u87, u88, u89, u90, u91, u92, u93, u94, u95, u96, u97, u98, u99, u100, u101, u102, u103, u104, u105, u106, u107, u108, u109, u110, u111, u112, u113, u114, u115, u116, u117, u118, u119, u120, u121, u122, u123, u124, u125, u126, u127, u128, u129, u130, u131, u132, u133, u134, u135, u136, u137, u138, u139, u140, u141, u142, u143, u144, u145, u146, u147, u148, u149, u150, u151, u152, u153, u154, u155, u156, u157, u158, u159, u160, u161, u162, u163, u164, u165, u166, u167, u168, u169, u170, u171, u172, u173, u174, u175, u176, u177, u178, u179, u180, u181, u182, u183, u184, u185, u186, u187, u188, u189, u190, u191, u192, u193, u194, u195, u196, u197, u198, u199, u200, u201, u202, u203, u204, u205, u206, u207, u208, u209, u210, u211, u212, u213, u214, u215, u216, u217, u218, u219, u220, u221, u222, u223, u224, u225], []⟩ w1 := by
  have T := R.ref.taken
  have hl := R.ref.len ok.mem
  have l1024 := ok.mem.l1024
  have hfree : (S.M.lim : Int) - (L.length : Int) = S.M.free := by
    have hall := count_all S.M ok.mem.t0 S.M.lim (Nat.le_refl _)
    have hfr := ok.mem.fr
    have hlen := T.len
    omega
  have hwrap : IntKind.i64.wrap ((S.M.lim : Int) - (L.length : Int)) = S.M.free := by rw [← hfree]; simp [IntKind.wrap, IntKind.signed, IntKind.bits]; omega
  have HF := Lib.hid F
  have HT := Lib.hid T
  have HH := Lib.hid h
  have HR := Lib.hid R
  clear F T h R hfree
  conv => arg 2; whnf
  have F0 := HF.out _ K1
  have Fd := HF.out _ K1.drew
  unfold Facts8 at F0 Fd
  obtain ⟨f0, f1, f2, f3, _⟩ := F0
  go_region_held3 (fun w' => w'.cell? ⟨s, 0, none⟩ = some (.pointer (some ⟨p, 0, none⟩)) ∧ w'.cell? ⟨r, 0, none⟩ = some (.pointer (some ⟨q, 0, none⟩)) ∧ w'.cell? ⟨q, 0, none⟩ = some (.int .i64 (S.M.lim : Int)) ∧ w'.cell? ⟨q, 1, none⟩ = some (.slice Av L.length cap) ∧ Keep (fun _ => False) w w')
    (first | exact Fd | (go_split_ands; exact HF.out _ (by repeat (first | with_reducible assumption | with_reducible apply Keep.drew | with_reducible apply Keep.alloc))))
    (first
      | (go_at_call 23; go_split_ands; refine (limit_any p g S.M _ (HH.out.mem.keep (S := fun _ => False) (by repeat (first | with_reducible assumption | with_reducible apply Keep.drew | with_reducible apply Keep.alloc)) (by simp) (by simp))).mono ?_; rintro e w' ⟨rfl, rfl⟩)
      | (go_at_call 15; go_split_ands; refine (free_any p g S.M _ (HH.out.mem.keep (S := fun _ => False) (by repeat (first | with_reducible assumption | with_reducible apply Keep.drew | with_reducible apply Keep.alloc)) (by simp) (by simp))).mono ?_; rintro e w' ⟨rfl, rfl⟩)
      | (go_at_call 69; go_split_ands; refine (words_as ok HT.out HH.out _ _ _ _ _ (by repeat (first | with_reducible assumption | with_reducible apply Keep.drew | with_reducible apply Keep.alloc)) (by repeat (first | with_reducible assumption | (with_reducible refine IA.twos ?_ _ _; (simp; done)) | with_reducible exact IA.nil _ _ | with_reducible apply IA.allocs | with_reducible apply_assumption)) (by omega)).mono ?_; rintro e wt ⟨rfl, K2, l2⟩)
      | (go_at_call 71; go_split_ands; refine (rwords_as ok HR.out _ _ _ _ _ (by repeat (first | with_reducible assumption | with_reducible apply Keep.drew | with_reducible apply Keep.alloc)) (by repeat (first | with_reducible assumption | (with_reducible refine IA.twos ?_ _ _; (simp; done)) | with_reducible exact IA.nil _ _ | with_reducible apply IA.allocs | with_reducible apply_assumption)) (by omega)).mono ?_; rintro e wt ⟨rfl, K4, l4⟩))
  all_goals refine hK _ _ _ _ _ _ _ _ _ _ _ _ _ _ _ _ _ _ _ _ _ _ _ _ _ _ _ _ _ _ _ _ _ _ _ _ _ _ _ _ _ _ _ _ _ _ _ _ _ _ _ _ _ _ _ _ _ _ _ _ _ _ _ _ (by assumption)
end Go.Proofs.Ytgnpeciedefeiaa
