/-
  The rows' opening: the tables, the handle of errors; the wit
  The rows of show: the tables and the handle of errors; the w
-/
import Derived.Test.YtonnikipeokkaaaGreatDoorRows
import Derived.Test.YtonnikipeokkaaaGreatDoorTie
import Derived.Test.YtonnikipeokkaaaGreatDoorLxTok
import Derived.ProofKit
import Derived.OpenShut
import Derived.LaidMore
import Derived.LaidHandle
import Derived.Lay
import Derived.SevenTiedAt
import Derived.Stop.Joined
import Derived.Stop.LaidErr
import Derived.Lib.LaidU8T
import Derived.Test.YtonnikipeokkaaaGreatDoorSwD
namespace Go.Proofs.YtonnikipeokkaaaGreatDoor
open Go.Lib (hid)
open Go.ChangeShapes Go.WideShapes Go.ChangeAt Go.RowKit Go.Joins
theorem seatOwn:ownKnob Tryz.prog.godebug=none:=by kernel_rfl
theorem laidOut:laidOutB Tryz.prog=true:=by kernel_rfl
theorem et:Tryz.prog.globalNamed "errors.errorType" = some 0:=by kernel_rfl
theorem rt:(Tryz.prog.cutTypes.find? (·.1 == "internal/reflectlite.rtype")).map (·.2)=some 148:=by kernel_rfl
theorem xf:((List.range Tryz.prog.types.size).filter fun t=>Tryz.prog.rowNamed t [101,114,114,111,114])=[60]:=by kernel_rfl
noncomputable def uO (os:Os):World:=
 let w0:=World.holding Tryz.prog os ⟨#[],#[],[]⟩
 { w0 with heap:=w0.heap.modify 0 fun
  | .cells _ t frozen=>.cells #[.iface 148 (.agg #[.pointer (some ⟨7,60,none⟩)])] t frozen
  | o=>o }
end Go.Proofs.YtonnikipeokkaaaGreatDoor

namespace Go.Proofs.YtonnikipeokkaaaGreatDoor
set_option maxRecDepth 100000
open Go.Lib (hid)
open Go.ChangeShapes Go.WideShapes Go.ChangeAt Go.RowKit Go.Joins
noncomputable def shTabs:List (String × DataW Unit):=Rows.showUnlikeRow.laid
noncomputable def dS:List (String × DataW Unit):=[("math/bits.deBruijn32tab",Rows.laid_math_bits_deBruijn32tab),("math/bits.deBruijn64tab",Rows.laid_math_bits_deBruijn64tab),("internal/strconv.uint64pow10",Rows.laid_internal_strconv_uint64pow10),("unicode/utf8.acceptRanges",Rows.laid_unicode_utf8_acceptRanges),("unicode/utf8.first",Rows.laid_unicode_utf8_first)]
theorem ir {W:World} (h:laidMetH Tryz.prog shTabs W):laidMet Tryz.prog dS W/\handlesMet Tryz.prog [("errors.errorType",Rows.laid_errors_errorType)] W:=h
theorem iR {W:World} (h:laidMetH Tryz.prog shTabs W):W.cell? ⟨0,0,none⟩=some (.iface 148 (.agg #[.pointer (some ⟨7,60,none⟩)])):=by
 obtain ⟨name,u,ty,e1,e2,e3,e4,e5⟩:=(ir h).2 _ (List.mem_singleton.2 rfl)
 have en:name=[101,114,114,111,114]:=(Option.some.inj e1).symm
 subst en
 obtain rfl:=Option.some.inj (rt.symm.trans e2)
 have hm:ty ∈ (List.range Tryz.prog.types.size).filter fun t=>Tryz.prog.rowNamed t [101,114,114,111,114]:=List.mem_filter.2 ⟨List.mem_range.2 e3,e4⟩
 rw [xf] at hm
 obtain rfl:=List.mem_singleton.1 hm
 have hh:typeHandle Tryz.prog 60=.pointer (some ⟨7,60,none⟩):=by kernel_rfl
 rw [hh] at e5
 simpa using World.var?_cell et e5 0
def wD:List Int:=[0,1,56,2,57,49,28,3,61,58,42,50,38,29,17,4,62,47,59,36,45,43,51,22,53,39,33,30,24,18,12,5,63,55,48,27,60,41,37,16,46,35,44,21,52,32,23,11,54,26,40,15,34,20,31,10,25,14,19,9,13,8,7,6]
theorem nJ:Tryz.prog.globalNamed "math/bits.deBruijn64tab" = some 6:=by kernel_rfl
theorem shTabs_of_laid {W:World} (h:laidMetH Tryz.prog shTabs W):TabT W:=by
 have hL:laidMet Tryz.prog dS W:=(ir h).1
 have hD:laidMet Tryz.prog (("math/bits.deBruijn64tab",Lib.tabData .u8 wD) :: [("internal/strconv.uint64pow10",Rows.laid_internal_strconv_uint64pow10),("unicode/utf8.acceptRanges",Rows.laid_unicode_utf8_acceptRanges),("unicode/utf8.first",Rows.laid_unicode_utf8_first)]) W:=hL.tail
 have hP:laidMet Tryz.prog (("internal/strconv.uint64pow10",Lib.tabData .u64 Lib.pow10Tab) :: [("unicode/utf8.acceptRanges",Rows.laid_unicode_utf8_acceptRanges),("unicode/utf8.first",Rows.laid_unicode_utf8_first)]) W:=hL.tail.tail
 have hU:laidMet Tryz.prog [("unicode/utf8.acceptRanges",Rows.laid_unicode_utf8_acceptRanges),("unicode/utf8.first",Rows.laid_unicode_utf8_first)] W:=hL.tail.tail.tail
 have tD:Lib.TabIs Tryz.prog W "math/bits.deBruijn64tab" .u8 wD:=
  Lib.tabIs_of_head nJ (t:=((Tryz.prog.globals[6]?).map (·.type)).getD 0) (by kernel_rfl) (n:=64) (e:=5) (by kernel_rfl) Tryz.underlying5 (by kernel_rfl) (by kernel_rfl) hD
 have tP:gu W:=
  Lib.tabIs_of_head (g:=(Tryz.prog.globalNamed "internal/strconv.uint64pow10").getD 0) (by kernel_rfl) (t:=((Tryz.prog.globals[(Tryz.prog.globalNamed "internal/strconv.uint64pow10").getD 0]?).map (·.type)).getD 0) (by kernel_rfl) (n:=20) (e:=((Tryz.prog.globals[(Tryz.prog.globalNamed "internal/strconv.uint64pow10").getD 0]?).bind fun g=>(Tryz.prog.underlying g.type).bind fun d=>match d with | .array _ e=>some e | _=>none).getD 0) (by kernel_rfl) (by kernel_rfl) (by kernel_rfl) (by kernel_rfl) hP
 refine ⟨⟨utf8Tabs_of_readsT (U8Types.of196 Tryz.lays196) ⟨by kernel_rfl,by kernel_rfl,by kernel_rfl,by kernel_rfl,by kernel_rfl,by kernel_rfl,by kernel_rfl⟩ (Lib.laidMet.reads hU (.tail _ (.head _))) (Lib.laidMet.reads hU (.head _)),iR h⟩,tP,?_⟩
 have:=World.var?_cell nJ tD 15
 rw [this]
 rfl
noncomputable def shLaidW (os:Os):World:=(uO os).layVars Tryz.prog dS
theorem shLaidW_os (os:Os):(shLaidW os).os=os:=World.layVars_os _ _ _
theorem mQ (os:Os) (args:Array Value):laidMet Tryz.prog dS ((shLaidW os).forCall (fun _ _=>0) ⟨#[],args,[]⟩).memory:=by
 have e1:(dS.filter fun x=>(dS.map (·.1)).contains x.1)=dS:=List.filter_eq_self.2 fun x hx=>List.contains_iff_mem.2 (List.mem_map.2 ⟨x,hx,rfl⟩)
 have e2:(dS.filter fun x=>!(dS.map (·.1)).contains x.1)=[]:=List.filter_eq_nil_iff.2 fun x hx=>by rw [List.contains_iff_mem.2 (List.mem_map.2 ⟨x,hx,rfl⟩)];simp
 have h:laidMet Tryz.prog dS (shLaidW os):=laidMet_layVars (w0:=uO os) (dS.map (·.1)) [] (congrArg (fun l=>((uO os).layVars Tryz.prog l).heap) e1.symm) (by rw [e1];kernel_rfl) (by rw [e1];kernel_rfl) (by rw [e2];exact LaidIn.none)
 exact h.of_heap (by simp [World.memory,World.forCall,Input.heap])
theorem shTabs_met (os:Os) (args:Array Value):laidMetH Tryz.prog shTabs ((shLaidW os).forCall (fun _ _=>0) ⟨#[],args,[]⟩).memory:=
 laidMetH_of_parts (mQ os args) (by kernel_rfl)
theorem shTabs_shaped (os:Os):(shLaidW os).Shaped Tryz.prog:=World.shaped_of_ZipB (by kernel_rfl) (by kernel_rfl)
theorem shTabs_size {W:World} (h:TabT W):6<W.heap.size:=bL W _ h.2.2
end Go.Proofs.YtonnikipeokkaaaGreatDoor
