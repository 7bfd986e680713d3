/-
  errors.As, at the errors of the package lex.
-/
import Derived.Test.YtonnikipeokkaaaGreatDoorPaLx
import Derived.LaidEql
import Derived.Stop.Asserts
import Derived.RowKitTokens
namespace Go.Proofs.YtonnikipeokkaaaGreatDoor
set_option maxRecDepth 100000
set_option maxHeartbeats 8000000
open Go.Lib (hid)
open Go.RowKit Go.Extern.Stop Go.Stop Go.Extern
namespace Aslex
theorem rlm (z:Sem Value) (f:TypeId->Addr->Nat->Nat->Sem Value) (v:Value) :
 ReflectliteValue.method z f #[v]=(do match <- ReflectliteValue.parts v with | none=>z | some (t,a,fl)=>f t a fl (fl % 32)):=rfl
theorem valueOfT (t:Addr) (w:World):(ReflectliteValue.unpack (.iface 65 (.pointer (some t)))).run Tryz.prog w
 = .ok (.agg #[.pointer (some ⟨7,65,none⟩),.pointer (some ⟨w.heap.size,0,none⟩),.int .u64 150]) (w.alloc (.cells #[.pointer (some t)] 65)):=by kernel_rfl
theorem typeT (a:Addr) (w:World):(ReflectliteValue.methodAny (ReflectliteValue.valueError "reflectlite.Value.Type" 0) (fun t _ _ _=>ReflectliteType.toType t) #[.agg #[.pointer (some ⟨7,65,none⟩),.pointer (some a),.int .u64 150]]).run Tryz.prog w
 = .ok (.iface 148 (.agg #[.pointer (some ⟨7,65,none⟩)])) w:=by kernel_rfl
theorem methodKind (h:Value) (w:World):(Go.method 383 148 (.agg #[h]) "Kind").run Tryz.prog w=.ok (215,h) w:=by kernel_rfl
theorem kindT (w:World):((ReflectliteType.abiMethod fun t=>(fun a:Nat=>Value.int IntKind.u8 (a:Int)) <$> Rtype.kind t) #[.pointer (some ⟨7,65,none⟩)]).run Tryz.prog w=.ok (.int .u8 22) w:=by kernel_rfl
theorem kindF (w:World):((ReflectliteType.abiMethod fun t=>(fun a:Nat=>Value.int IntKind.u8 (a:Int)) <$> Rtype.kind t) #[.pointer (some ⟨7,63,none⟩)]).run Tryz.prog w=.ok (.int .u8 22) w:=by kernel_rfl
theorem partsT (a:Addr) (w:World):(ReflectliteValue.parts (.agg #[.pointer (some ⟨7,65,none⟩),.pointer (some a),.int .u64 150])).run Tryz.prog w=.ok (some (65,a,150)) w:=by kernel_rfl
theorem isNilT (a p:Addr) (W:World) (ha:W.cell? a=some (.pointer (some p))) :
 (ReflectliteValue.method (ReflectliteValue.valueError "reflectlite.Value.IsNil" 0) ReflectliteValue.isNil #[.agg #[.pointer (some ⟨7,65,none⟩),.pointer (some a),.int .u64 150]]).run Tryz.prog W=.ok (.bool false) W:=by
 rw [rlm]
 simp only [Sem.run_bind,partsT,Result.andThen]
 simp [ReflectliteValue.isNil,loadVar,isAgg,underlying,Tryz.underlying65,ha,Result.andThen]
theorem methodElem (h:Value) (w:World):(Go.method 383 148 (.agg #[h]) "Elem").run Tryz.prog w=.ok (227,.agg #[h]) w:=by kernel_rfl
theorem methodImplements (h:Value) (w:World):(Go.method 383 148 (.agg #[h]) "Implements").run Tryz.prog w=.ok (228,.agg #[h]) w:=by kernel_rfl
theorem methodAssignableTo (h:Value) (w:World):(Go.method 383 148 (.agg #[h]) "AssignableTo").run Tryz.prog w=.ok (225,.agg #[h]) w:=by kernel_rfl
theorem elemT (w:World):(ReflectliteType.method ReflectliteType.elem #[.agg #[.pointer (some ⟨7,65,none⟩)]]).run Tryz.prog w=.ok (.iface 148 (.agg #[.pointer (some ⟨7,63,none⟩)])) w:=by kernel_rfl
theorem implementsF (w:World):(ReflectliteType.relation "Implements" ReflectliteType.implements_ #[.agg #[.pointer (some ⟨7,63,none⟩)],.iface 148 (.agg #[.pointer (some ⟨7,60,none⟩)])]).run Tryz.prog w=.ok (.bool true) w:=by kernel_rfl
theorem typeOfF (v:Value) (w:World):(ReflectliteType.typeOf #[.iface 63 v]).run Tryz.prog w=.ok (.iface 148 (.agg #[.pointer (some ⟨7,63,none⟩)])) w:=by kernel_rfl
theorem typeOfW (v:Value) (w:World):(ReflectliteType.typeOf #[.iface 207 v]).run Tryz.prog w=.ok (.iface 148 (.agg #[.pointer (some ⟨7,207,none⟩)])) w:=by kernel_rfl
theorem assignableF (w:World):(ReflectliteType.relation "AssignableTo" ReflectliteType.assignableTo #[.agg #[.pointer (some ⟨7,63,none⟩)],.iface 148 (.agg #[.pointer (some ⟨7,63,none⟩)])]).run Tryz.prog w=.ok (.bool true) w:=by kernel_rfl
theorem assignableW (w:World):(ReflectliteType.relation "AssignableTo" ReflectliteType.assignableTo #[.agg #[.pointer (some ⟨7,207,none⟩)],.iface 148 (.agg #[.pointer (some ⟨7,63,none⟩)])]).run Tryz.prog w=.ok (.bool false) w:=by kernel_rfl
theorem valueOfF (e:Addr) (w:World):(ReflectliteValue.unpack (.iface 63 (.pointer (some e)))).run Tryz.prog w
 = .ok (.agg #[.pointer (some ⟨7,63,none⟩),.pointer (some ⟨w.heap.size,0,none⟩),.int .u64 150]) (w.alloc (.cells #[.pointer (some e)] 63)):=by kernel_rfl
theorem elemOfT (w:World):(Rtype.elem? 65).run Tryz.prog w=.ok (some 63) w:=by kernel_rfl
theorem mkF (p:Addr) (w:World):(ReflectliteValue.mk 63 p ReflectliteValue.flagAddr).run Tryz.prog w=.ok (.agg #[.pointer (some ⟨7,63,none⟩),.pointer (some p),.int .u64 406]) w:=by kernel_rfl
theorem elemV (a p:Addr) (W:World) (ha:W.cell? a=some (.pointer (some p))) :
 (ReflectliteValue.method (ReflectliteValue.valueError "reflectlite.Value.Elem" 0) ReflectliteValue.elem #[.agg #[.pointer (some ⟨7,65,none⟩),.pointer (some a),.int .u64 150]]).run Tryz.prog W
  = .ok (.agg #[.pointer (some ⟨7,63,none⟩),.pointer (some p),.int .u64 406]) W:=by
 rw [rlm]
 simp only [Sem.run_bind,partsT,Result.andThen]
 simp [ReflectliteValue.elem,loadVar,isAgg,underlying,Tryz.underlying65,ha,Result.andThen,elemOfT,mkF]
theorem rls (v x:Value):ReflectliteValue.set #[v,x]=(do
 let (some (dst,a,fl),some (src,b,_)):=(<- ReflectliteValue.parts v,<- ReflectliteValue.parts x)
  | unsupported (.noEntry "extern/(internal/reflectlite.Value).Set.zeroValue")
 if fl / ReflectliteValue.flagAddr % 2 == 0 then unsupported (.noEntry "extern/(internal/reflectlite.Value).Set.unaddressable")
 let val <- loadVar src b
 if <- Rtype.directlyAssignable dst src then storeVar dst a val
 else if <- Rtype.implements dst src then
  if (<- Rtype.kind src) == 20 then
   match val with
   | .nilIface=>unsupported (.noEntry "extern/reflectlite: a nil value of one interface type handed on as a value of another")
   | _=>storeVar dst a val
  else storeVar dst a (.iface src val)
 else panicString ("reflectlite.Set: value of type " ++ (<- Rtype.spelt src) ++ " is not assignable to type " ++ (<- Rtype.spelt dst))
 pure (.tuple #[])):=rfl
theorem partsFa (a:Addr) (w:World):(ReflectliteValue.parts (.agg #[.pointer (some ⟨7,63,none⟩),.pointer (some a),.int .u64 406])).run Tryz.prog w=.ok (some (63,a,406)) w:=by kernel_rfl
theorem partsF (a:Addr) (w:World):(ReflectliteValue.parts (.agg #[.pointer (some ⟨7,63,none⟩),.pointer (some a),.int .u64 150])).run Tryz.prog w=.ok (some (63,a,150)) w:=by kernel_rfl
theorem directF (w:World):(Rtype.directlyAssignable 63 63).run Tryz.prog w=.ok true w:=by kernel_rfl
theorem setF (ta b e:Addr) (old:Value) (W:World) (hb:W.cell? b=some (.pointer (some e))) (ht:W.cell? ta=some old) (hf:W.frozen? ta=false) :
 (ReflectliteValue.set #[.agg #[.pointer (some ⟨7,63,none⟩),.pointer (some ta),.int .u64 406],.agg #[.pointer (some ⟨7,63,none⟩),.pointer (some b),.int .u64 150]]).run Tryz.prog W
  = .ok (.tuple #[]) (W.setCell ta (.pointer (some e))):=by
 rw [rls]
 simp only [Sem.run_bind,partsFa,partsF,Result.andThen]
 simp [ReflectliteValue.flagAddr,loadVar,isAgg,underlying,Tryz.underlying63,hb,Result.andThen,directF,storeVar,Value.cells,storeCells,Addr.add]
 rw [run_store Tryz.prog W ta _ _ (by rfl)]
 simp [ht,hf]
theorem methodUnwrap (h:Value) (w:World):(Go.method 383 207 h "Unwrap").run Tryz.prog w=.ok (238,h) w:=by kernel_rfl
theorem noAs (v:Value) (xT:TypeId) (w:World):(Instr.typeAssert (.iface 207 v) xT 153 true).run Tryz.prog w=.ok (.tuple #[.nilIface,.bool false]) w:=run_typeAssert_lacksB Tryz.underlying153 (by kernel_rfl) (by kernel_rfl) v xT w
theorem hasUnwrap (v:Value) (xT:TypeId) (w:World):(Instr.typeAssert (.iface 207 v) xT 156 true).run Tryz.prog w=.ok (.tuple #[.iface 207 v,.bool true]) w:=run_typeAssert_hasB Tryz.underlying156 (by kernel_rfl) v xT w
theorem as_nil (t:Value) (w:World):Calls Tryz.prog 35 #[.nilIface,t] w fun e w'=>e=.returned (.bool false)/\w=w':=by
 go_enter Tryz.func35,Tryz.ntmps35
 go_wp2
 go_ret
 exact ⟨rfl,rfl⟩
theorem as_hit (A B tb:Nat) (what:ByteArray) (old:Value) (_X:Array Value) (w:World) (hg:w.cell? ⟨0,0,none⟩=some (.iface 148 (.agg #[.pointer (some ⟨7,60,none⟩)]))) (hB:w.heap[B]? = some (.cells #[.string what,.iface 63 (.pointer (some ⟨A,0,none⟩))] 209 (0,0))) (ht:w.heap[tb]? = some (.cells #[old] 63 (0,0))) :
 Calls Tryz.prog 35 #[.iface 207 (.pointer (some ⟨B,0,none⟩)),.iface 65 (.pointer (some ⟨tb,0,none⟩))] w fun ev w'=>ev=.returned (.bool true)/\w'.heap[tb]? = some (.cells #[.pointer (some ⟨A,0,none⟩)] 63 (0,0))/\ah (fun b=>b=tb) w w':=by
 have hV:=@run_callFunc_extern Tryz.prog 57 _ (fun args=>ReflectliteValue.unpack (args.getD 0 (.tuple #[]))) Tryz.func57 (by kernel_rfl) (by kernel_rfl) (by kernel_rfl) (by kernel_rfl)
 have hT:=@run_callFunc_extern Tryz.prog 58 _ (ReflectliteValue.methodAny (ReflectliteValue.valueError "reflectlite.Value.Type" 0) (fun t _ _ _=>ReflectliteType.toType t)) Tryz.func58 (by kernel_rfl) (by kernel_rfl) (by kernel_rfl) (by kernel_rfl)
 have hN:=@run_callFunc_extern Tryz.prog 59 _ (ReflectliteValue.method (ReflectliteValue.valueError "reflectlite.Value.IsNil" 0) ReflectliteValue.isNil) Tryz.func59 (by kernel_rfl) (by kernel_rfl) (by kernel_rfl) (by kernel_rfl)
 have hK:=@run_callFunc_extern Tryz.prog 215 _ (ReflectliteType.abiMethod fun t=>do pure (.int .u8 (<- Rtype.kind t))) Tryz.func215 (by kernel_rfl) (by kernel_rfl) (by kernel_rfl) (by kernel_rfl)
 have hE:=@run_callFunc_extern Tryz.prog 227 _ (ReflectliteType.method ReflectliteType.elem) Tryz.func227 (by kernel_rfl) (by kernel_rfl) (by kernel_rfl) (by kernel_rfl)
 have hI:=@run_callFunc_extern Tryz.prog 228 _ (ReflectliteType.relation "Implements" ReflectliteType.implements_) Tryz.func228 (by kernel_rfl) (by kernel_rfl) (by kernel_rfl) (by kernel_rfl)
 have hO:=@run_callFunc_extern Tryz.prog 92 _ ReflectliteType.typeOf Tryz.func92 (by kernel_rfl) (by kernel_rfl) (by kernel_rfl) (by kernel_rfl)
 have hA:=@run_callFunc_extern Tryz.prog 225 _ (ReflectliteType.relation "AssignableTo" ReflectliteType.assignableTo) Tryz.func225 (by kernel_rfl) (by kernel_rfl) (by kernel_rfl) (by kernel_rfl)
 have hL:=@run_callFunc_extern Tryz.prog 93 _ (ReflectliteValue.method (ReflectliteValue.valueError "reflectlite.Value.Elem" 0) ReflectliteValue.elem) Tryz.func93 (by kernel_rfl) (by kernel_rfl) (by kernel_rfl) (by kernel_rfl)
 have hS:=@run_callFunc_extern Tryz.prog 94 _ ReflectliteValue.set Tryz.func94 (by kernel_rfl) (by kernel_rfl) (by kernel_rfl) (by kernel_rfl)
 have tO:=typeOfF
 have tW:=typeOfW
 have mA:=methodAssignableTo
 have aF:=assignableF
 have aW:=assignableW
 have vF:=valueOfF
 have f6:=valueOfT
 have f7:=typeT
 have mK:=methodKind
 have mE:=methodElem
 have mI:=methodImplements
 have mU:=methodUnwrap
 have tA:=noAs
 have tU:=hasUnwrap
 have k27:=kindT
 have k25:=kindF
 have e27:=elemT
 have i25:=implementsF
 have lB:=az hB
 have lt:=az ht
 have hlt:0<w.heap.size:=by omega
 have n8:=isNilT ⟨w.heap.size,0,none⟩ ⟨tb,0,none⟩ ((w.alloc (.cells #[.pointer (some ⟨tb,0,none⟩)] 65)).alloc (.cells #[.pointer (some ⟨7,65,none⟩),.pointer (some ⟨w.heap.size,0,none⟩),.int .u64 150] 98)) (by simp)
 have hg2:((w.alloc (.cells #[.pointer (some ⟨tb,0,none⟩)] 65)).alloc (.cells #[.pointer (some ⟨7,65,none⟩),.pointer (some ⟨w.heap.size,0,none⟩),.int .u64 150] 98)).cell? ⟨0,0,none⟩=some (.iface 148 (.agg #[.pointer (some ⟨7,60,none⟩)])):=by
  rw [World.cell?_alloc_lt _ _ ⟨0,0,none⟩ (by simp),World.cell?_alloc_lt _ _ ⟨0,0,none⟩ hlt];exact hg
 have el:=elemV ⟨w.heap.size,0,none⟩ ⟨tb,0,none⟩ (((w.alloc (.cells #[.pointer (some ⟨tb,0,none⟩)] 65)).alloc (.cells #[.pointer (some ⟨7,65,none⟩),.pointer (some ⟨w.heap.size,0,none⟩),.int .u64 150] 98)).alloc (.cells #[.pointer (some ⟨7,65,none⟩),.pointer (some ⟨w.heap.size,0,none⟩),.int .u64 150] 98)) (by rw [World.cell?_alloc_lt _ _ ⟨w.heap.size,0,none⟩ (by simp;omega)];simp)
 have hB1:(((w.alloc (.cells #[.pointer (some ⟨tb,0,none⟩)] 65)).alloc (.cells #[.pointer (some ⟨7,65,none⟩),.pointer (some ⟨w.heap.size,0,none⟩),.int .u64 150] 98)).alloc (.cells #[.pointer (some ⟨7,65,none⟩),.pointer (some ⟨w.heap.size,0,none⟩),.int .u64 150] 98)).cell? ⟨B,1,none⟩=some (.iface 63 (.pointer (some ⟨A,0,none⟩))):=by
  rw [World.cell?_alloc_lt _ _ ⟨B,1,none⟩ (by simp;omega),World.cell?_alloc_lt _ _ ⟨B,1,none⟩ (by simp;omega),World.cell?_alloc_lt _ _ ⟨B,1,none⟩ lB,cell_of_row w _ _ _ _ _ hB];rfl
 have htc:w.cell? ⟨tb,0,none⟩=some old:=by rw [cell_of_row w _ _ _ _ _ ht];rfl
 have htf:w.frozen? ⟨tb,0,none⟩=false:=by simp [World.frozen?,ht]
 have st:=setF ⟨tb,0,none⟩ ⟨w.heap.size+1+1+1,0,none⟩ ⟨A,0,none⟩ old ((((w.alloc (.cells #[.pointer (some ⟨tb,0,none⟩)] 65)).alloc (.cells #[.pointer (some ⟨7,65,none⟩),.pointer (some ⟨w.heap.size,0,none⟩),.int .u64 150] 98)).alloc (.cells #[.pointer (some ⟨7,65,none⟩),.pointer (some ⟨w.heap.size,0,none⟩),.int .u64 150] 98)).alloc (.cells #[.pointer (some ⟨A,0,none⟩)] 63))
  (by rw [World.cell?_alloc_at _ _ _ _ (by simp)];rfl)
  (by rw [World.cell?_alloc_lt _ _ ⟨tb,0,none⟩ (by simp;omega),World.cell?_alloc_lt _ _ ⟨tb,0,none⟩ (by simp;omega),World.cell?_alloc_lt _ _ ⟨tb,0,none⟩ (by simp;omega),World.cell?_alloc_lt _ _ ⟨tb,0,none⟩ lt];exact htc)
  (by rw [World.frozen?_alloc_old _ _ ⟨tb,0,none⟩ (by simp;omega),World.frozen?_alloc_old _ _ ⟨tb,0,none⟩ (by simp;omega),World.frozen?_alloc_old _ _ ⟨tb,0,none⟩ (by simp;omega),World.frozen?_alloc_old _ _ ⟨tb,0,none⟩ (Nat.ne_of_lt lt)];exact htf)
 have hk:ah (fun b=>b=tb) w (((((w.alloc (.cells #[.pointer (some ⟨tb,0,none⟩)] 65)).alloc (.cells #[.pointer (some ⟨7,65,none⟩),.pointer (some ⟨w.heap.size,0,none⟩),.int .u64 150] 98)).alloc (.cells #[.pointer (some ⟨7,65,none⟩),.pointer (some ⟨w.heap.size,0,none⟩),.int .u64 150] 98)).alloc (.cells #[.pointer (some ⟨A,0,none⟩)] 63)).setCell ⟨tb,0,none⟩ (.pointer (some ⟨A,0,none⟩))):=(((((kR.alloc _).alloc _).alloc _).alloc _).setCell (S:=fun b=>b=tb) (p:=⟨tb,0,none⟩) (.inl rfl) _)
 have hr:(((((w.alloc (.cells #[.pointer (some ⟨tb,0,none⟩)] 65)).alloc (.cells #[.pointer (some ⟨7,65,none⟩),.pointer (some ⟨w.heap.size,0,none⟩),.int .u64 150] 98)).alloc (.cells #[.pointer (some ⟨7,65,none⟩),.pointer (some ⟨w.heap.size,0,none⟩),.int .u64 150] 98)).alloc (.cells #[.pointer (some ⟨A,0,none⟩)] 63)).setCell ⟨tb,0,none⟩ (.pointer (some ⟨A,0,none⟩))).heap[tb]? = some (.cells #[.pointer (some ⟨A,0,none⟩)] 63 (0,0)):=by
  have h4:((((w.alloc (.cells #[.pointer (some ⟨tb,0,none⟩)] 65)).alloc (.cells #[.pointer (some ⟨7,65,none⟩),.pointer (some ⟨w.heap.size,0,none⟩),.int .u64 150] 98)).alloc (.cells #[.pointer (some ⟨7,65,none⟩),.pointer (some ⟨w.heap.size,0,none⟩),.int .u64 150] 98)).alloc (.cells #[.pointer (some ⟨A,0,none⟩)] 63)).heap[tb]? = some (.cells #[old] 63 (0,0)):=by
   rw [Below.heap_alloc _ _ _ (by simp;omega),Below.heap_alloc _ _ _ (by simp;omega),Below.heap_alloc _ _ _ (by simp;omega),Below.heap_alloc _ _ _ lt];exact ht
  simp [World.setCell,Array.getElem?_modify] at h4 ⊢
  simp [h4]
 have HK:=hid hk
 have HR:=hid hr
 clear hk hr hB ht htc htf
 go_enter Tryz.func35,Tryz.ntmps35
 go_wp2
 refine wp_loop_rounds 2 ?_
 rw [rounds_succ]
 go_wp2
 trace_state
 rw [rounds_succ]
 go_wp2
 go_ret
 exact ⟨rfl,HR.out,HK.out⟩
end Aslex
end Go.Proofs.YtonnikipeokkaaaGreatDoor
