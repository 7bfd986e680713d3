/-
  Bytes as a text.
-/
import Derived.Test.YtonnikipeokkaaaGreatDoorRlQuo
import Derived.Laws.BytesArg
namespace Go.Proofs.YtonnikipeokkaaaGreatDoor
set_option maxRecDepth 100000
open Go.Lib (hid)
open Go.RowKit Go.Lib
theorem kE {w:World} {base m c:Nat} {A:Option Addr} {out:List UInt8} (h:dz w base A m c out):(convert 70 9 (.slice A m c)).run Tryz.prog w=.ok (.string ⟨out.toArray⟩) w:=by
 have hl:=h.len
 subst hl
 rcases h.2 with ⟨hv,h0⟩ | ⟨g,cap,cur,hv,hg,hh,h1,h2⟩
 ·injection hv with e1 e2 e3
  subst e1
  rw [run_convert_bytes_nil w 70 5 Tryz.underlying70 Tryz.underlying5 _ _ 9 Tryz.underlying9]
  have:out=[]:=by
   cases out with
   | nil=>rfl
   | cons a b=>simp at h0
  rw [this];rfl
 ·injection hv with e1 e2 e3
  subst e1
  refine run_convert_bytes_back w 70 9 5 ⟨g,0,none⟩ c out Tryz.underlying70 Tryz.underlying5 Tryz.underlying9 (fun j hj=>?_)
  have:=World.ownsRow.cellAt h j (by omega)
  rw [Addr.add_lit,Nat.zero_add,this]
  unfold Lib.byteCells
  simp [gE hj]
end Go.Proofs.YtonnikipeokkaaaGreatDoor
