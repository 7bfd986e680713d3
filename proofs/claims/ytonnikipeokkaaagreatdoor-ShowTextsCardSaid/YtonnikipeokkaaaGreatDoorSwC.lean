/-
  The shower's text.
-/
import Derived.Test.YtonnikipeokkaaaGreatDoorSwB
namespace Go.Proofs.YtonnikipeokkaaaGreatDoor
set_option maxRecDepth 100000
set_option maxHeartbeats 1000000
open Go.Lib (hid)
open Go.RowKit Go.Lib
theorem ah.freeze {S:Nat->Prop} {w w':World} (h:ah S w w') {p:Addr} (hp:S p.block\/w.heap.size<=p.block) (n:Nat):ah S w (w'.freeze p n):=by
 unfold World.freeze
 split
 ·exact h
 ·refine ⟨h.os,h.tape,h.output,by have:=h.size;simpa using this,fun k hk hn=>?_⟩
  rw [<- h.block k hk hn]
  simp only [Array.getElem?_modify]
  rw [if_neg]
  rintro rfl
  rcases hp with hp | hp
  ·exact hn hp
  ·omega
theorem lO (w:World) (b:Nat) (pl:Bool) (l:List UInt8) (g:Option Nat) (h:aL w b pl l g) (h0:l ≠ []) :
 Calls Tryz.prog 79 #[.pointer (some ⟨b,0,none⟩)] w fun e w'=>e=.returned (.string ⟨l.toArray⟩)/\ah (Sg b g) w w':=by
 obtain ⟨a,v,ha,hbk,hown,hg0,_⟩:=h
 have hl0:l.length ≠ 0:=by simpa using h0
 obtain ⟨g',cap,cur,rfl,hbg,hg,hnc,hcm,hcs,htake⟩:∃ g cap cur,v=.slice (some ⟨g,0,none⟩) l.length cap/\0<=g/\w.heap[g]? = some (.cells cur 5 (0,0))/\l.length<=cap/\cap<=maxLen/\cur.size=cap * 1/\cur.toList.take (l.length * 1)=byteCells l:=by
  rcases hown.2 with ⟨_,hz⟩ | ⟨g,cap,cur,hv,r⟩
  ·exact absurd hz hl0
  ·exact ⟨g,cap,cur,hv,r⟩
 have c1:w.drew.cell? ⟨b,1,none⟩=some (.slice (some ⟨g',0,none⟩) l.length cap):=by
  have:w.drew.heap[b]? = some (.cells #[.pointer a,.slice (some ⟨g',0,none⟩) l.length cap,.bool pl] 135 (0,0)):=hbk
  rw [Lib.cell_of_heap this];rfl
 have hSD:(Builtin.unsafeSliceData_ #[70] 184 #[.slice (some ⟨g',0,none⟩) l.length cap]).run Tryz.prog w.drew=.ok (.pointer (some ⟨g',0,none⟩)) w.drew:=
  Lib.run_unsafeSliceData_row _ _ _ _ _ _ (by omega)
 have hUS:(Builtin.unsafeString_ #[184,3] 9 #[.pointer (some ⟨g',0,none⟩),.int .i64 l.length]).run Tryz.prog w.drew=.ok (.string ⟨l.toArray⟩) (w.drew.freeze ⟨g',0,none⟩ l.length):=by
  refine Lib.run_unsafeString_row w.drew 184 3 9 5 Tryz.underlying184 Tryz.Builder_Extra_156.cellsByte g' cur.size (by have hg':w.drew.heap[g']? = some (.cells cur 5 (0,0)):=hg;simp [World.shape?,hg']) l h0 (by omega) (by unfold maxLen at hcm;omega) ?_
  intro j x hx
  have:=hown.cells (g:=g') rfl j (.int .u8 x.toNat) (by simp [Lib.byteCells,hx])
  exact this
 have HK:=hid (show ah (Sg b g) w (w.drew.freeze ⟨g',0,none⟩ l.length) from ah.freeze kR.drew (.inl (.inr hg0)) _)
 clear hown hg htake hbk
 go_enter Tryz.func79,Tryz.ntmps79
 go_wp2_with fail
 go_region
 all_goals (go_wp2;go_ret;exact ⟨rfl,HK.out⟩)
theorem mP (w:World) (b:Nat) (pl:Bool) (g:Option Nat) (h:aL w b pl [] g) :
 Calls Tryz.prog 79 #[.pointer (some ⟨b,0,none⟩)] w fun e w'=>e=.returned (.string ⟨#[]⟩)/\ah (Sg b g) w w':=by
 obtain ⟨a,v,ha,hbk,hown,hg0,hv⟩:=h
 have hv:=hv rfl
 subst hv
 have hUS:(Builtin.unsafeString_ #[184,3] 9 #[.pointer none,.int .i64 0]).run Tryz.prog w.drew=.ok (.string ⟨#[]⟩) w.drew:=Any.unsafeString_none Tryz.lays169 Tryz.Builder_Extra_169 w.drew none
 have c1:w.drew.cell? ⟨b,1,none⟩=some (.slice none 0 0):=by
  have:w.drew.heap[b]? = some (.cells #[.pointer a,.slice none 0 0,.bool pl] 135 (0,0)):=hbk
  rw [Lib.cell_of_heap this];rfl
 have hSD:(Builtin.unsafeSliceData_ #[70] 184 #[.slice none 0 0]).run Tryz.prog w.drew=.ok (.pointer none) w.drew:=rfl
 have HK:=hid (show ah (Sg b g) w w.drew from kR.drew)
 clear hown hbk hg0
 go_enter Tryz.func79,Tryz.ntmps79
 go_wp2_with fail
 go_region
 all_goals (go_wp2;go_ret;exact ⟨rfl,HK.out⟩)
theorem vh (w:World) (b:Nat) (pl:Bool) (l:List UInt8) (g:Option Nat) (h:aL w b pl l g) :
 Calls Tryz.prog 79 #[.pointer (some ⟨b,0,none⟩)] w fun e w'=>e=.returned (.string ⟨l.toArray⟩)/\ah (Sg b g) w w':=by
 cases l with
 | nil=>exact mP w b pl g h
 | cons x r=>exact lO w b pl (x :: r) g h (by simp)
end Go.Proofs.YtonnikipeokkaaaGreatDoor
