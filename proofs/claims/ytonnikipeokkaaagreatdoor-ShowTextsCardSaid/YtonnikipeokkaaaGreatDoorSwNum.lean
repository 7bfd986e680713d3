/-
  The texts of numbers, and May: the program's and the documen
-/
import Derived.Test.YtonnikipeokkaaaGreatDoorPnNum
namespace Go.Proofs.YtonnikipeokkaaaGreatDoor
set_option maxRecDepth 100000
set_option maxHeartbeats 8000000
open Go.Lib (hid)
open Go.RowKit
theorem uv {B:Nat} (hB:2<=B) {m n:Nat} (h:d4 B m=d4 B n):m=n:=by
 have:=congrArg (val B) h
 rwa [bc hB,bc hB] at this
theorem ja {_B:Nat} {l m:List Nat} {k:Nat} (hl:l.length=m.length) (he:∀ j,k<=j->j<l.length->l.getD j 0=m.getD j 0):l.drop k=m.drop k:=by
 refine List.ext_getElem? fun i=>?_
 rw [List.getElem?_drop,List.getElem?_drop]
 by_cases h:k+i<l.length
 ·have:=he (k+i) (by omega) h
  rw [gD,gD,gE h,gE (by omega)] at this
  rw [gE h,gE (by omega)]
  simpa using this
 ·rw [List.getElem?_eq_none (by omega),List.getElem?_eq_none (by omega)]
theorem ii {B:Nat} (hB:0<B) {l m:List Nat} (hl:l.length=m.length) (low:Low B l) {k:Nat} (hk:k<l.length) (he:∀ j,k+1<=j->j<l.length->l.getD j 0=m.getD j 0) (h:l.getD k 0<m.getD k 0):val B l<val B m:=by
 have e1:=fo B l (k+1)
 have e2:=fo B m (k+1)
 rw [bq,List.length_take,Nat.min_eq_left (by omega)] at e1 e2
 have e3:=ja (_B:=B) hl he
 have e4:=ff hB low k
 have e5:B ^ k * (l.getD k 0+1)<=B ^ k * m.getD k 0:=Nat.mul_le_mul_left _ h
 rw [Nat.mul_add,Nat.mul_one] at e5
 rw [e1,e2,e3]
 omega
theorem hZ (v:Nat):bA (aA v)=v:=bc BB2 v
section
variable {B:Nat} (hB:B=2 ^ 32)
include hB
end
theorem uW:BB=2 ^ 32:=by unfold BB;rfl
theorem qg (neg:Bool) (l:List Nat):ci neg l=0 ↔ bA l=0:=by
 unfold ci;cases neg<;>simp
open Go.RowKit Go.Sort Go.Lib
abbrev po:UInt8->Value:=fun (b:UInt8)=>Value.int .u8 (b.toNat:Int)
theorem vT (w:World) (nd:Nat) (hs:nd<=24):Holds po (w.alloc (.cells Lib.zeros24 236)) w.heap.size 0 (Array.replicate nd (0:UInt8)):=fun j hj=>by
 have hj':j<nd:=by simpa using hj
 refine ⟨?_,World.frozen?_alloc_new _ _ _ _⟩
 rw [World.cell?_alloc_new,zeros24_at _ (by omega),getElem!_pos _ j hj]
 simp
def ax (l:List UInt8) (w:World) (e:Ending) (w':World):Prop:=e=.returned (.string ⟨l.toArray⟩)/\K0 w w'
theorem uj (w:World) (o:Obj) (dk:Array UInt8) (k:Nat):K0 w ((putRow po (w.alloc o) w.heap.size 0 dk).drewN k):=by
 rw [alloc_eq_grow]
 obtain ⟨os',_,e⟩:=putRow_grow_new po w #[o] w.heap.size 0 dk (Nat.le_refl _)
 rw [e]
 have g:K0 w (grow w os'):=⟨rfl,rfl,rfl,by simp,fun i hi _=>heap_grow_old w os' hi⟩
 exact g.drewN k
theorem vV (u:Nat) (w:World) (hu64:u<18446744073709551616) (htab:gu w) :
 Calls Tryz.prog 163 #[.int .u64 (u:Int),.int .i64 10] w (ax (Lib.decDigits u) w):=by
 by_cases hs:u<100
 ·have hi:(u:Int)<100:=by omega
  go_enter Tryz.func163,Tryz.ntmps163
  go_wp2_with fail
  refine (Tryz.internal_strconv_small u hs w).mono ?_
  rintro e w' ⟨rfl,rfl⟩
  try dsimp only
  go_wp2_with fail
  go_ret
  exact ⟨rfl,kR⟩
 ·have hi:decide ((u:Int)<100)=false:=dF (by omega)
  have hu1:1<=u:=by omega
  have hnd20:Lib.nDigits u<=20:=by have:=Lib.numDigits_eq u hu1 hu64;split at this<;>omega
  have hal:Tryz.prog.arrayLen 236=24:=by kernel_rfl
  have hsl:∀ W,(Instr.sliceAt 236 (.pointer (some ⟨w.heap.size,0,none⟩)) none (some (.int .i64 (Lib.nDigits u:Int))) none).run Tryz.prog W=.ok (.slice (some ⟨w.heap.size,0,none⟩) (Lib.nDigits u) 24) W:=fun W=>by
   rw [run_sliceAt_array_h W 236 ⟨w.heap.size,0,none⟩ (by kernel_rfl) .i64 (Lib.nDigits u:Int) (by omega) (by rw [hal];omega)]
   go_simp
  have hH0:=vT w (Lib.nDigits u) (by omega)
  have hfmt:=Tryz.internal_strconv_formatBase10 w.heap.size 0 24 u (Array.replicate (Lib.nDigits u) 0) (w.alloc (.cells Lib.zeros24 236)) hH0 (by rw [Array.size_replicate];exact Lib.lt_pow_nDigits u) hu64 (by rw [Array.size_replicate];omega)
  rw [Array.size_replicate] at hfmt
  have HH0:=hid hH0
  have HF:=hid hfmt
  have HU:=hid (And.intro hu1 hu64)
  have HT:=hid (Lib.tabIs_alloc htab (.cells Lib.zeros24 236))
  clear hH0 hal hfmt hs hu1 hu64 htab
  go_enter Tryz.func163,Tryz.ntmps163
  go_wp2_with fail
  refine (Tryz.internal_strconv_numDigits u HU.out.1 HU.out.2 _ HT.out).mono ?_
  rintro e w' ⟨rfl,rfl⟩
  try dsimp only
  go_wp2_with fail
  refine HF.out.mono ?_
  rintro e w' ⟨rfl,k,v',dk,rfl,hF⟩
  have hcv:(convert 70 9 (.slice (some ⟨w.heap.size,0,none⟩) (Lib.nDigits u) 24)).run Tryz.prog ((putRow po (w.alloc (.cells Lib.zeros24 236)) w.heap.size 0 dk).drewN k)=.ok (.string ⟨(Lib.decDigits u).toArray⟩) ((putRow po (w.alloc (.cells Lib.zeros24 236)) w.heap.size 0 dk).drewN k):=by
   have h:=run_convert_bytes_back (P:=Tryz.prog) ((putRow po (w.alloc (.cells Lib.zeros24 236)) w.heap.size 0 dk).drewN k) 70 9 5 ⟨w.heap.size,0,none⟩ 24 (Lib.decDigits u) Tryz.underlying70 Tryz.underlying5 Tryz.underlying9 (fun j hj=>by
    rw [Lib.row_is_numeral hF j hj,Lib.add_plain,World.cell?_drewN]
    exact cell?_putRow po _ w.heap.size 0 _ dk HH0.out (by rw [hF.size,Array.size_replicate]) j (by rw [hF.size];rw [Lib.decDigits_length] at hj;exact hj))
   rw [Lib.decDigits_length] at h
   exact h
  have P:=uj w (.cells Lib.zeros24 236) dk k
  have HP:=hid P
  clear P hF
  try dsimp only
  go_wp2_with fail
  go_ret
  exact ⟨rfl,HP.out⟩
theorem pi (u:Nat) (w:World) (hu64:u<18446744073709551616) (htab:gu w) :
 Calls Tryz.prog 142 #[.int .u64 (u:Int),.int .i64 10] w (ax (Lib.decDigits u) w):=by
 have HF:=hid (vV u w hu64 htab)
 clear htab
 go_enter Tryz.func142,Tryz.ntmps142
 go_wp2_with fail
 refine HF.out.mono ?_
 rintro e w' ⟨rfl,K⟩
 try dsimp only
 go_wp2_with fail
 go_ret
 exact ⟨rfl,K⟩
open Go.Lib
theorem wb (r:Nat):1<=(decDigits r).length:=by
 by_cases h:r<10
 ·rw [dM h];simp
 ·rw [iI h];simp
theorem gV (B:Nat) (l:List Nat) (k:Nat) (h:k<l.length):val B (l.drop k)=l.getD k 0+B * val B (l.drop (k+1)):=by
 rw [List.drop_eq_getElem_cons h,val,gD,gE h]
 rfl
theorem iN.step {B D k:Nat} {l m:List Nat} {c:Nat} (_hB:0<B) (hD:0<D) (hl:Low B l) (h:iN B D (k+1) l m c) (hk:k<l.length) :
 (c * B+m.getD k 0) / D<B/\iN B D k l (m.set k ((c * B+m.getD k 0) / D)) ((c * B+m.getD k 0) % D):=by
 have hx:=hl.getD _hB k
 rw [h.same k (by omega)]
 generalize hl0:l.getD k 0=x at *
 have hc:=h.lt
 have hlt:(c * B+x) / D<B:=by
  rw [Nat.div_lt_iff_lt_mul hD]
  have:(c+1) * B<=D * B:=Nat.mul_le_mul_right _ hc
  rw [Nat.add_mul,Nat.one_mul] at this
  rw [Nat.mul_comm B D]
  omega
 refine ⟨hlt,by rw [List.length_set];exact h.len,h.low.set _ hlt,?_,Nat.mod_lt _ hD,?_⟩
 ·intro j hj
  rw [gD,List.getElem?_set_ne (by omega),<- gD]
  exact h.same j (by omega)
 ·have hkm:k<(m.set k ((c * B+x) / D)).length:=by rw [List.length_set,h.len];exact hk
  rw [gV B l k hk,gV B (m.set k ((c * B+x) / D)) k hkm,hl0,h.v,List.drop_set_of_lt (by omega)]
  have eg:(m.set k ((c * B+x) / D)).getD k 0=(c * B+x) / D:=by
   rw [gD,List.getElem?_set_self (by rw [h.len];exact hk)];rfl
  rw [eg]
  have e:=Nat.div_add_mod (c * B+x) D
  generalize (c * B+x) / D=a at *
  generalize (c * B+x) % D=b at *
  generalize val B (m.drop (k+1))=y at *
  rw [Nat.mul_add,Nat.add_mul,<- Nat.mul_assoc,Nat.mul_comm B c,Nat.mul_comm a D]
  have:B * y * D=B * (y * D):=Nat.mul_assoc _ _ _
  rw [this] at *
  omega
theorem iU {w:World} {base g cap:Nat} {ps:List (List UInt8)} (h:i6 w base (.slice (some ⟨g,0,none⟩) ps.length cap) ps):Holds encStr w g 0 ps.toArray:=by
 intro j hj
 have hj':j<ps.length:=by simpa using hj
 refine ⟨?_,?_⟩
 ·have:=World.ownsRow.cellAt h j (by rw [Nat.mul_one];exact hj')
  rw [Nat.zero_add]
  rw [this]
  simp [hj']
 ·rcases h.2 with ⟨hn,_⟩ | ⟨g2,cap2,cur2,hv,hg,hh,_⟩
  ·cases hn
  ·injection hv with e _ _
   injection e with e
   injection e with e _ _
   subst e
   simp [World.frozen?,hh]
theorem kg:∀ l:List (List UInt8),Lib.join l []=l.flatten:=by
 intro l
 cases l with
 | nil=>rfl
 | cons x r=>
  rw [Lib.join_cons]
  simp [Lib.joinTail]
theorem tg {w w':World} {base g cap n:Nat} {ps:List (List UInt8)} (h:i6 w base (.slice (some ⟨g,0,none⟩) ps.length cap) ps) (hw:w'=putRow encStr (Sort.ahead w n) g 0 ps.reverse.toArray) :
 ah (fun x=>x=g) w w'/\(∀ (j:Nat) x,(ps.reverse.map fun s:List UInt8=>(⟨s.toArray⟩:ByteArray))[j]? = some x->w'.cell? ⟨g,0+j,none⟩=some (.string x)):=by
 subst hw
 refine ⟨?_,?_⟩
 ·refine ⟨rfl,rfl,rfl,by simp [putRow,mapBlock,Sort.ahead],fun i _ hs=>?_⟩
  simp only [putRow,mapBlock,Sort.ahead,Array.getElem?_modify]
  rw [if_neg (fun e=>hs e.symm)]
 ·intro j x hx
  have hH:=iU h
  have hj:j<ps.length:=by
   rcases Nat.lt_or_ge j ps.length with h' | h'
   ·exact h'
   ·rw [List.getElem?_eq_none (by simp;omega)] at hx;cases hx
  have hH2:Holds encStr (Sort.ahead w n) g 0 ps.toArray:=fun i hi=>hH i hi
  rw [cell?_putRow encStr (Sort.ahead w n) g 0 ps.toArray ps.reverse.toArray hH2 (by simp) j (by simpa using hj)]
  rw [List.getElem?_map,gE (by simpa using hj)] at hx
  simp only [Option.map_some,Option.some.injEq] at hx
  rw [<- hx]
  rw [getElem!_pos _ j (by simpa using hj)]
  simp
theorem lp {V v k n:Nat} (h:v * GG ^ k<=V) (hv:0<v) (hV:V<BB ^ n) (hn:n<=9000):k<=10000:=by
 have h1:GG ^ k<=V:=Nat.le_trans (Nat.le_mul_of_pos_left _ hv) h
 have h2:(2 ^ 29) ^ k<=GG ^ k:=Nat.pow_le_pow_left (by unfold GG;omega) k
 have h3:(2 ^ 29) ^ k<(2 ^ 32) ^ n:=by rw [<- uW];omega
 rw [<- Nat.pow_mul,<- Nat.pow_mul] at h3
 have:=(Nat.pow_lt_pow_iff_right (by omega)).1 h3
 omega
theorem um:(Tryz.prog.info? 9).map (fun i=>(i.zero,i.size,i.bytes))=some (some (.string ⟨#[]⟩),1,16):=by kernel_rfl
theorem lY (w5:World) (t:ByteArray):∀ j u,([Value.string t]:List Value)[j]? = some u->(w5.alloc (.cells #[.string t] 9)).cell? ((⟨w5.heap.size,0,none⟩:Addr).add j)=some u:=by
 intro j u hu
 match j with
 | 0=>
  simp at hu
  subst hu
  rw [Addr.add_mid,cell_of_row _ _ _ _ _ _ (hN w5 _)]
  rfl
 | j+1=>simp at hu
theorem jY (z:Nat):repeatL [48] z=List.replicate z 48:=by
 induction z with
 | zero=>rfl
 | succ z ih=>rw [repeatL,ih,List.replicate_succ];rfl
theorem wk {t:ByteArray} {d:List UInt8} {z k:Nat} (ht:t=⟨d.toArray⟩) (hz:z=k):({ data:=(repeatL [48] z).toArray }:ByteArray)++t=⟨(List.replicate k 48++d).toArray⟩:=by
 rw [ht,hz,jY]
 apply ByteArray.ext
 simp [ByteArray.data_append]
theorem iX {V n:Nat} (hV:V<BB ^ n) (hn:n<=9000):(decDigits V).length<=288001:=by
 have h1:BB ^ n<=10 ^ (32 * n):=by
  rw [uW,<- Nat.pow_mul]
  exact Nat.pow_le_pow_left (by omega) _
 have h2:10 ^ (32 * n)<10 ^ (32 * n+1):=Nat.pow_lt_pow_right (by omega) (by omega)
 have:=kz (32 * n) V (by omega)
 omega
theorem mL {wr w5:World} {base g cap q:Nat} {ps:List (List UInt8)} (o:i6 wr base (.slice (some ⟨g,0,none⟩) ps.length cap) ps) (hg:g<wr.heap.size) (hw:w5=putRow encStr (Sort.ahead wr q) g 0 ps.reverse.toArray) (hl:ps.length<=100000) (hs:ps.reverse.flatten.length<=1000000) :
 Calls Tryz.prog 145 #[.slice (some ⟨g,0,none⟩) ps.length cap,.string ⟨#[]⟩] w5 fun e w'=>e=.returned (.string ⟨(ps.reverse.flatten).toArray⟩)/\ah (fun x=>x=g) wr w':=by
 obtain ⟨k,hc⟩:=tg o hw
 have e1:(ps.reverse.map fun s:List UInt8=>(⟨s.toArray⟩:ByteArray)).length=ps.length:=by simp
 have e2:((ps.reverse.map fun s:List UInt8=>(⟨s.toArray⟩:ByteArray)).map (·.data.toList))=ps.reverse:=by
  rw [List.map_map,show ((fun x:ByteArray=>x.data.toList) ∘ fun s:List UInt8=>(⟨s.toArray⟩:ByteArray))=id from funext fun _=>rfl,List.map_id]
 have hcap:ps.length<=cap:=by
  rcases o.2 with ⟨hn,_⟩ | ⟨g2,cap2,cur2,hv,_,_,h1,_⟩
  ·cases hn
  ·injection hv with _ _ e3
   omega
 have J:=Tryz.strings_Join g 0 cap (ps.reverse.map fun s:List UInt8=>(⟨s.toArray⟩:ByteArray)) ⟨#[]⟩ w5 hc (Nat.lt_of_lt_of_le hg k.size) (by rw [e1];omega) (by rw [e1];exact hcap) (by rw [e2];show (Lib.join ps.reverse []).length<=_;rw [kg];omega)
 rw [e1,e2] at J
 have ej:Lib.join ps.reverse (⟨#[]⟩:ByteArray).data.toList=ps.reverse.flatten:=kg _
 rw [ej] at J
 refine J.mono ?_
 rintro e w' ⟨he,hb⟩
 exact ⟨he,k.join (ah.of_below hb) (fun _ _ h=>h.elim)⟩
theorem tX {c y:Nat} (hc:(c:Int)<=999999999) (hy:y<=4294967295):bits BinOp.or IntKind.u64 ((c:Int) * 4294967296) (y:Int)=((c * BB+y:Nat):Int):=by
 have h:=bits_join .u64 64 (by decide) (fun n h0 h1=>by rw [IntKind.wrap_u64];omega) 32 ((c:Int) * 4294967296) (y:Int) (by omega) (by omega) (by omega) (by omega) (by omega) (by omega)
 rw [h]
 unfold BB
 omega
theorem sr (neg:Bool) (A:Option Addr) (n c:Nat) (l:List Nat) (w:World) (h:aq w A n c l) (hm:n<=9000) (htab:gu w) :
 Calls Tryz.prog 108 #[al neg A n c] w (ax (Lib.itoa (ci neg l)) w):=by
 have K:K0 w (w.alloc (.cells #[.bool neg,.slice A n c] 24)):=kR.alloc _
 have hb:(w.alloc (.cells #[.bool neg,.slice A n c] 24)).heap[w.heap.size]? = some (.cells #[.bool neg,.slice A n c] 24 (0,0)):=hN w _
 have h1:=h.keep0 K
 have tl:=jx h1.low
 rw [h1.len] at tl
 have HTAB:=hid htab
 clear htab
 go_enter Tryz.func108,Tryz.ntmps108
 go_wp2_with fail
 refine (cE A n c l _ h1).mono ?_
 rintro e w1x ⟨rfl,rfl⟩
 try dsimp only
 go_wp2_with fail
 refine (eQ A (cM l) c (aA (bA l)) _ h1.trim).mono ?_
 rintro e w2 ⟨A2,n2,c2,rfl,own,k2⟩
 have hn2:n2<=9000:=by
  have:=own.len
  have e:(aA (bA l)).length=cM l:=rfl
  omega
 have ST:pF (w.alloc (.cells #[.bool neg,.slice A n c] 24)) (bA l) (bA l) A2 n2 c2 (.slice none 0 0) [] w2:=⟨own,World.ownsRow_nil _ _ _ _,k2,hn2,by
  rcases Nat.eq_zero_or_pos (bA l) with h0 | h0
  ·exact .inl ⟨h0,h0,rfl⟩
  ·exact .inr (.inr ⟨h0,by simp⟩),by simp,by simp,by simp⟩
 have HV:=hid (show bA l<BB ^ n by have:=fq h.low;rwa [h.len] at this)
 have HST:=hid ST
 have HB:=hid hb
 have HTB:=hid (HTAB.out.keep K)
 have HK:=hid K
 clear ST own k2 hb K h1 h tl hn2
 generalize w.heap.size=Bx at HB ⊢
 generalize w.alloc (.cells #[.bool neg,.slice A n c] 24)=w1 at HST HB HTB HK ⊢
 try dsimp only
 go_wp2_with fail
 go_loopw [3,4] (fun mv pv wr=>∃ (v:Nat) (A:Option Addr) (n c:Nat) (ps:List (List UInt8)),mv=.slice A n c/\pF w1 (bA l) v A n c pv ps wr) (fun _ pv _=>match pv with | .slice _ k _=>bA l - k | _=>0)
 case atStart=>exact ⟨_,_,_,_,_,rfl,HST.out⟩
 case round=>
  clear HST
  obtain ⟨v,A3,n3,c3,ps,rfl,st⟩:=hrel
  have hn3:(aA v).length=n3:=st.m.len
  obtain ⟨P,cP,rfl⟩:=i6.form st.p
  by_cases h0:v=0
  ·subst h0
   obtain rfl:n3=0:=by rw [<- hn3];unfold aA;rw [bi];rfl
   have hbw:=st.K.heap HB.out (by simp)
   have q0:wr.cell? ⟨Bx,0,none⟩=some (.bool neg):=by rw [cell_of_row wr _ _ _ _ _ hbw];rfl
   have HS:=hid st
   clear st hbw hn3
   by_cases hps:ps=[]
   ·subst hps
    have hV:bA l=0:=by
     rcases HS.out.t with ⟨h,_⟩ | ⟨_,h,_⟩ | ⟨h,_⟩
     ·exact h
     ·exact absurd rfl h
     ·omega
    have e:Lib.itoa (ci neg l)=[48]:=by rw [(qg neg l).2 hV];rw [show (0:Int)=((0:Nat):Int) from rfl,Lib.itoa_nonneg,dM (by omega)];rfl
    have HE:=hid e
    clear e hV
    go_wp2_with fail
    go_ret
    exact ⟨by rw [HE.out];rfl,HK.out.trans HS.out.K⟩
   ·have hk:0<ps.length:=List.length_pos_iff.2 hps
    have hki:((ps.length:Int) == 0)=false:=by simp;omega
    have HPS:=hid hps
    clear hps
    obtain ⟨g,cg,eg,_,hlt⟩:=World.ownsRow.form HS.out.p hk
    injection eg with e1 _ e3
    subst e1 e3
    have hgb:=(World.ownsRow.lt HS.out.p g rfl).1
    have hfl:ps.reverse.flatten=decDigits (bA l):=by
     rcases HS.out.t with ⟨_,_,h⟩ | ⟨_,_,h⟩ | ⟨h,_⟩
     ·exact absurd h HPS.out
     ·exact h.symm
     ·omega
    have hdb:=iX HV.out hm
    have hV1:1<=bA l:=by have:=HS.out.s;omega
    have hpb:=HS.out.b
    have HF:=hid (And.intro hfl (And.intro hdb (And.intro hV1 (And.intro hpb (And.intro hgb hlt)))))
    clear hfl hdb hV1 hpb hgb hlt
    cases neg with
    | false=>
     go_wp2_with fail
     refine (Tryz.slices_Reverse_string g 0 cP ps wr (iU HS.out.p) (by have:=HF.out.2.2.2.1;omega)).mono ?_
     rintro e w7 ⟨rfl,q,hw⟩
     have HW:=hid hw
     clear hw
     try dsimp only
     go_wp2_with fail
     refine (mL HS.out.p HF.out.2.2.2.2.2 HW.out (by have:=HF.out.2.2.2.1;omega) (by rw [HF.out.1];have:=HF.out.2.1;omega)).mono ?_
     rintro e w8 ⟨rfl,k8⟩
     have R:ax (Lib.itoa (ci false l)) w (.returned (.string ⟨(ps.reverse.flatten).toArray⟩)) w8:=⟨by rw [HF.out.1,show ci false l=((bA l:Nat):Int) from rfl,Lib.itoa_nonneg],HK.out.trans (HS.out.K.into k8 (by rintro i rfl;exact HF.out.2.2.2.2.1))⟩
     have HR:=hid R
     clear R k8
     try dsimp only
     go_wp2_with fail
     go_ret
     exact HR.out
    | true=>
     obtain ⟨i9,h9,hz0,hz1,hz2⟩:=info_parts um
     have KW:K0 wr (wr.alloc (.cells #[.string ⟨#[45]⟩] 9)):=kR.alloc _
     have HP6:=hid (HS.out.p.keep KW (fun _ _=>id))
     have HNEW:=hid (lY wr ⟨#[45]⟩)
     have HBS:=hid (Nat.le_trans HS.out.K.size KW.size)
     have HKW:=hid KW
     clear KW
     go_wp2_with (at_builtin;refine wpList_append_own _ rfl (.tmp 61) (.tmp 62) 51 rfl w1.heap.size 9 i9 (.string ⟨#[]⟩) 1 16 Tryz.underlying51 h9 hz0 hz1 hz2 rfl (by decide) _ _ _ rfl HP6.out ⟨wr.heap.size,0,none⟩ 1 1 [.string ⟨#[45]⟩] rfl rfl HNEW.out ?a1 ?a2 ?a3 HBS.out ?_)
     case a1=>first | rfl | (intro u hu;simp at hu;subst hu;rfl)
     case a2=>have:=HF.out.2.2.2.1;unfold maxLen;omega
     case a3=>have:=HF.out.2.2.2.1;omega
     intro pv' w6 hown hgrow _
     have o6:i6 w6 w1.heap.size pv' (ps++[[45]]):=by
      show w6.ownsRow _ 9 1 pv' (ps++[[45]]).length ((ps++[[45]]).map encStr)
      rw [List.length_append,List.map_append]
      exact hown
     have K6:K0 w1 w6:=(HS.out.K.trans HKW.out).into (ah.of_grown hgrow) (fun i hi=>by
      have e:i=g:=by simpa [Value.ownBlock] using hi
      have:=HF.out.2.2.2.2.1
      omega)
     obtain ⟨g2,cg2,eg2,_,hlt2⟩:=World.ownsRow.form hown (by omega)
     subst eg2
     have hgb2:=(World.ownsRow.lt hown g2 rfl).1
     obtain ⟨ps2,hps2⟩:∃ x,x=ps++[([45]:List UInt8)]:=⟨_,rfl⟩
     have el:ps.length+1=ps2.length:=by rw [hps2];simp
     rw [<- hps2] at o6
     have efl:ps2.reverse.flatten=45 :: decDigits (bA l):=by rw [hps2,<- HF.out.1];simp
     have HEF:=hid (And.intro efl el)
     have HO6:=hid o6
     have HX:=hid (And.intro K6 (And.intro hlt2 hgb2))
     clear o6 K6 hlt2 hgb2 hown hgrow
     rw [el] at HO6 ⊢
     clear efl hps2 el
     go_wp2_with fail
     refine (Tryz.slices_Reverse_string g2 0 cg2 ps2 w6 (iU HO6.out) (by have:=HF.out.2.2.2.1;have:=HEF.out.2;omega)).mono ?_
     rintro e w7 ⟨rfl,q,hw⟩
     have HW:=hid hw
     clear hw
     try dsimp only
     go_wp2_with fail
     refine (mL HO6.out HX.out.2.1 HW.out (by have:=HF.out.2.2.2.1;have:=HEF.out.2;omega) (by rw [HEF.out.1];have:=HF.out.2.1;rw [List.length_cons];omega)).mono ?_
     rintro e w8 ⟨rfl,k8⟩
     have R:ax (Lib.itoa (ci true l)) w (.returned (.string ⟨(ps2.reverse.flatten).toArray⟩)) w8:=⟨by rw [HEF.out.1,show ci true l=-((bA l:Nat):Int) from rfl,Lib.itoa_neg _ HF.out.2.2.1],HK.out.trans (HX.out.1.into k8 (by rintro i rfl;exact HX.out.2.2))⟩
     have HR:=hid R
     clear R k8
     try dsimp only
     go_wp2_with fail
     go_ret
     exact HR.out
  ·have hpos:0<n3:=by
    rw [<- hn3]
    exact Nat.pos_of_ne_zero (fun e=>h0 (by have:=congrArg bA (List.eq_nil_of_length_eq_zero e);rw [hZ] at this;exact this))
   obtain ⟨b,c',e1,hcn,hlt⟩:=World.ownsRow.form st.m hpos
   injection e1 with e1 _ e3
   subst e1 e3
   have HS:=hid st
   have hn:=st.n
   clear st hn3
   go_wp2_with fail
   have low3:Low BB (aA v):=aw BB2 _
   go_loopw [5,6] (fun cv iv wi=>∃ (k:Nat) (m:List Nat) (cr:Nat),k<=n3/\iv=.int .i64 ((k:Int) - 1)/\cv=.int .u64 (cr:Int)/\aP 126 .u32 wi w1.heap.size (some ⟨b,0,none⟩) n3 c3 m/\iN BB GG k (aA v) m cr/\ah (fun x=>x=b) wr wi) (fun _ iv _=>(RowKit.intOf iv+1).toNat)
   case atStart=>
    refine ⟨n3,_,0,Nat.le_refl _,rfl,rfl,HS.out.m,?_,kR⟩
    have:=iN.start (B:=BB) (D:=GG) (by unfold GG;omega) low3
    rwa [HS.out.m.len] at this
   case round=>
    obtain ⟨k,m,cr,hk,rfl,rfl,own,D,kk⟩:=hrel
    rcases Nat.eq_zero_or_pos k with rfl | hkp
    ·obtain ⟨dv,dc⟩:=D.done (by unfold GG;omega)
     have hcr:(cr:Int)<=999999999:=by have:=D.lt;unfold GG at this;omega
     have hlm:=own.toLimbs D.low (by omega)
     have HO:=hid own
     have HDV:=hid (And.intro (show bA m=v / GG by rw [<- hZ v];exact dv) (show cr=v % GG by rw [<- hZ v];exact dc))
     have HL:=hid D.low
     have HKK:=hid kk
     clear dv dc D own kk
     go_wp2_with fail
     refine (cE _ n3 c3 m _ hlm).mono ?_
     rintro e w4 ⟨rfl,rfl⟩
     try dsimp only
     go_wp2_with fail
     have hbb:=(HS.out.m.fresh b 0 rfl).1
     have KA:K0 w1 wr:=HS.out.K.into HKK.out (by rintro i rfl;exact hbb)
     have hp:=HS.out.p.keep HKK.out (fun g hg e=>si HS.out.m HS.out.p (by rw [hg,e]))
     have HKA:=hid KA
     have HPP:=hid hp
     have hts:(decDigits cr).length<=9:=kz 8 cr (by omega)
     refine (pi cr _ (by omega) (HTB.out.keep KA)).mono ?_
     rintro e w5 ⟨rfl,k5⟩
     obtain ⟨t,ht⟩:∃ t:ByteArray,t=⟨(decDigits cr).toArray⟩:=⟨_,rfl⟩
     have hsz:(t.size:Int)<=9:=by rw [ht];simp [ByteArray.size];omega
     rw [<- ht]
     have HT:=hid ht
     have htl:=jH m
     have HTL:=hid htl
     have HK5:=hid k5
     have hsz2:(0:Int)<=(t.size:Int):=by omega
     clear hp ht KA hts htl k5 hlm hbb
     by_cases hq:0<cM m
     ·have hqi:(0:Int)<(cM m:Int):=by omega
      obtain ⟨z,hz⟩:∃ z:Nat,(9:Int) - (t.size:Int)=(z:Int)/\z=9 - (decDigits cr).length:=⟨9 - (decDigits cr).length,by rw [HT.out];simp [ByteArray.size];have:=kz 8 cr (by omega);omega,rfl⟩
      obtain ⟨hz,hz'⟩:=hz
      have HZ:=hid hz'
      clear hz'
      try dsimp only
      go_wp2_with fail
      refine (Tryz.strings_Repeat ⟨#[48]⟩ z w5 (by omega) (by simp [ByteArray.size];omega)).mono ?_
      rintro e w7 ⟨rfl,b7⟩
      have HK7:=hid (HK5.out.trans (ah.of_below b7))
      have hcl:(9223372036854775807<(repeatL [48] z).length+t.size)=False:=eq_false (by rw [jY,List.length_replicate];omega)
      clear b7
      obtain ⟨i9,h9,hz0,hz1,hz2⟩:=info_parts um
      have KW:K0 wr (w7.alloc (.cells #[.string (({ data:=(repeatL [48] z).toArray }:ByteArray)++t)] 9)):=HK7.out.alloc _
      have HP6:=hid ((HPP.out).keep KW (fun _ _=>id))
      have HNEW:=hid (lY w7 (({ data:=(repeatL [48] z).toArray }:ByteArray)++t))
      have HLEN:=hid (lp HS.out.g (Nat.pos_of_ne_zero h0) HV.out hm)
      have HBS:=hid (Nat.le_trans HKA.out.size KW.size)
      clear KW
      try dsimp only
      go_wp2_with (at_builtin;refine wpList_append_own _ rfl (.tmp 52) (.tmp 54) 51 rfl w1.heap.size 9 i9 (.string ⟨#[]⟩) 1 16 Tryz.underlying51 h9 hz0 hz1 hz2 rfl (by decide) _ _ _ rfl HP6.out ⟨w7.heap.size,0,none⟩ 1 1 [.string (({ data:=(repeatL [48] z).toArray }:ByteArray)++t)] rfl rfl HNEW.out ?a1 ?a2 ?a3 HBS.out ?_)
      case a1=>intro u hu;simp at hu;subst hu;rfl
      case a2=>have:=HLEN.out;unfold maxLen;omega
      case a3=>have:=HLEN.out;omega
      intro pv' w6 hown hgrow _
      have N:=pF.next HS.out HLEN.out (Nat.pos_of_ne_zero h0) HKK.out HO.out HL.out HDV.out.1 HDV.out.2 HK7.out (wk HT.out HZ.out) (.inl ⟨by have:=HTL.out;rw [<- HDV.out.1];omega,rfl⟩) hown hgrow
      obtain ⟨P',cP',rfl⟩:=i6.form N.p
      have hps:=HS.out.s
      have HN:=hid N
      clear N hown hgrow
      go_wp2_with fail
      go_roundw
      case rel=>exact ⟨_,_,_,_,_,rfl,HN.out⟩
      case measure=>
       simp only [List.length_append,List.length_singleton]
       have:=Nat.pos_of_ne_zero h0
       omega
     ·have hqi:decide ((0:Int)<(cM m:Int))=false:=dF (by omega)
      obtain ⟨i9,h9,hz0,hz1,hz2⟩:=info_parts um
      have KW:K0 wr (w5.alloc (.cells #[.string t] 9)):=HK5.out.alloc _
      have HP6:=hid ((HPP.out).keep KW (fun _ _=>id))
      have HNEW:=hid (lY w5 t)
      have HLEN:=hid (lp HS.out.g (Nat.pos_of_ne_zero h0) HV.out hm)
      have HBS:=hid (Nat.le_trans HKA.out.size KW.size)
      clear KW
      try dsimp only
      go_wp2_with (at_builtin;refine wpList_append_own _ rfl (.tmp 52) (.tmp 54) 51 rfl w1.heap.size 9 i9 (.string ⟨#[]⟩) 1 16 Tryz.underlying51 h9 hz0 hz1 hz2 rfl (by decide) _ _ _ rfl HP6.out ⟨w5.heap.size,0,none⟩ 1 1 [.string t] rfl rfl HNEW.out ?a1 ?a2 ?a3 HBS.out ?_)
      case a1=>intro u hu;simp at hu;subst hu;rfl
      case a2=>have:=HLEN.out;unfold maxLen;omega
      case a3=>have:=HLEN.out;omega
      intro pv' w6 hown hgrow _
      have N:=pF.next HS.out HLEN.out (Nat.pos_of_ne_zero h0) HKK.out HO.out HL.out HDV.out.1 HDV.out.2 HK5.out HT.out (.inr ⟨by have:=HTL.out;rw [<- HDV.out.1];omega,rfl⟩) hown hgrow
      obtain ⟨P',cP',rfl⟩:=i6.form N.p
      have hps:=HS.out.s
      have HN:=hid N
      clear N hown hgrow
      go_wp2_with fail
      go_roundw
      case rel=>exact ⟨_,_,_,_,_,rfl,HN.out⟩
      case measure=>
       simp only [List.length_append,List.length_singleton]
       have:=Nat.pos_of_ne_zero h0
       omega
    ·obtain ⟨k,rfl⟩:∃ j,k=j+1:=⟨k - 1,by omega⟩
     have hkl:k<n3:=by omega
     have hkl2:k<(aA v).length:=by rw [HS.out.m.len];exact hkl
     obtain ⟨s1,s2⟩:=D.step (by unfold BB;omega) (by unfold GG;omega) low3 hkl2
     have hy:=iD D.low k
     have hcr:(cr:Int)<=999999999:=by have:=D.lt;unfold GG at this;omega
     obtain ⟨b',o',e1,_,hcx⟩:=own.row.2 k hkl
     injection e1 with e1
     injection e1 with e1 e2 _
     subst e1 e2
     rw [Nat.zero_add] at hcx
     have hfz:=own.frozen _ _ rfl k
     obtain ⟨y,hyy⟩:∃ y,y=m.getD k 0:=⟨_,rfl⟩
     rw [<- hyy] at s1 s2 hy hcx
     have hor:=tX hcr (y:=y) (by omega)
     obtain ⟨x,hx⟩:∃ x,x=cr * BB+y:=⟨_,rfl⟩
     rw [<- hx] at s1 s2 hor
     have hxl:(x:Int)<=4300000000000000000:=by rw [hx];unfold BB;omega
     have hq:(x:Int) / 1000000000=((x / GG:Nat):Int):=by unfold GG;omega
     have hr:(x:Int) % 1000000000=((x % GG:Nat):Int):=by unfold GG;omega
     have ek:((k+1:Nat):Int) - 1=(k:Int):=by omega
     rw [ek]
     have own2:=own.set hkl (x / GG)
     have kk2:ah (fun z=>z=b) _ _:=kk.setCell (p:=⟨b,k,none⟩) (.inl rfl) (.int .u32 ((x / GG:Nat):Int))
     have HO:=hid own2
     have HD:=hid s2
     have HKK:=hid kk2
     have HQ:=hid hq
     have HR:=hid hr
     have hql:(x:Int) / 1000000000<=4294967295:=by rw [hq];have:=s1;unfold BB at this;generalize x / GG=z at *;omega
     clear own own2 kk kk2 D s1 s2 hyy hx hq hr ek hkl2 low3
     go_wp2_with fail
     go_roundw
     case rel=>exact ⟨k,_,_,by omega,by go_num,by rw [HR.out],by rw [HQ.out];exact HO.out,HD.out,by rw [HQ.out];exact HKK.out⟩
     case measure=>simp [RowKit.intOf]
open Go.ChangeShapes Go.WideShapes Go.ChangeAt Go.RowKit Go.Joins
theorem uN {a b:Nat} (hl:(ai a).length=(ai b).length) (he:∀ j,j<(ai a).length->(ai a).getD j 0=(ai b).getD j 0):a=b:=by
 have:=ja (_B:=2) (k:=0) hl (fun j _ h=>he j h)
 simp only [List.drop_zero] at this
 exact uv aT this
theorem pA {a b k:Nat} (hl:(ai a).length=(ai b).length) (hk:k<(ai a).length) (he:∀ j,k+1<=j->j<(ai a).length->(ai a).getD j 0=(ai b).getD j 0) (h:(ai a).getD k 0 ≠ (ai b).getD k 0):decide (a<b)=decide ((ai a).getD k 0<(ai b).getD k 0):=by
 rcases Nat.lt_or_ge ((ai a).getD k 0) ((ai b).getD k 0) with h1 | h1
 ·have:=ii (by omega) hl (aw aT a) hk he h1
  rw [bc aT,bc aT] at this
  rw [dT this,dT (by omega)]
 ·have h2:(ai b).getD k 0<(ai a).getD k 0:=by omega
  have:=ii (by omega) hl.symm (aw aT b) (by omega) (fun j hj hl2=>(he j hj (by omega)).symm) h2
  rw [bc aT,bc aT] at this
  rw [dF (by omega),dF (by omega)]
def eY (a b:List Nat) (i c:Nat):Nat:=(a.getD i 0+(4 - b.getD i 0 - c)) % 4
theorem l5 {a b:List Nat} (ha:Low 2 a) (hb:Low 2 b):∀ i,val 2 (cB 2 (eY a b) i)+val 2 (b.take i)=val 2 (a.take i)+2 ^ i * bx 2 (eY a b) i/\bx 2 (eY a b) i<=1
 | 0=>by simp [cB,bx,val]
 | i+1=>by
  obtain ⟨h1,h2⟩:=l5 ha hb i
  have x:=ha.getD (by omega) i
  have y:=hb.getD (by omega) i
  have hrow:val 2 (cB 2 (eY a b) (i+1))=val 2 (cB 2 (eY a b) i)+2 ^ i * (eY a b i (bx 2 (eY a b) i) % 2):=by
   rw [iS,cK,eW];simp [val]
  have hc:bx 2 (eY a b) (i+1)=eY a b i (bx 2 (eY a b) i) / 2:=rfl
  have hF:eY a b i (bx 2 (eY a b) i)=(a.getD i 0+(4 - b.getD i 0 - bx 2 (eY a b) i)) % 4:=rfl
  generalize eY a b i (bx 2 (eY a b) i)=f at hrow hc hF
  generalize bx 2 (eY a b) i=bw at h1 h2 hF
  rw [hc,hrow,bq,bq,Nat.pow_succ]
  generalize a.getD i 0=p at *
  generalize b.getD i 0=q at *
  have e:f % 2+q+bw=p+2 * (f / 2):=by omega
  refine ⟨?_,by omega⟩
  have e2:2 ^ i * (f % 2)+2 ^ i * q+2 ^ i * bw=2 ^ i * p+2 ^ i * (2 * (f / 2)):=by rw [<- Nat.mul_add,<- Nat.mul_add,<- Nat.mul_add,e]
  rw [Nat.mul_assoc]
  omega
theorem vP {a b:List Nat} (ha:Low 2 a) (hb:Low 2 b) (hl:b.length<=a.length) (h:bB b<=bB a):bB (cB 2 (eY a b) a.length)=bB a - bB b:=by
 obtain ⟨h1,h2⟩:=l5 ha hb a.length
 rw [List.take_of_length_le hl,List.take_length] at h1
 have hr:=fq (eV (B:=2) (by omega) (eY a b) a.length)
 rw [eW] at hr
 rcases (by omega:bx 2 (eY a b) a.length=0\/bx 2 (eY a b) a.length=1) with e | e
 ·rw [e] at h1
  show val 2 _=val 2 a - val 2 b
  omega
 ·rw [e] at h1
  have h':val 2 b<=val 2 a:=h
  omega
theorem rk {p q c f:Nat} (hp:p<2) (hq:q<2) (hc:c<=1) (hf:f=(p+(4 - q - c)) % 4):((p:Int) - (q:Int) - (c:Int)<0/\(p:Int) - (q:Int) - (c:Int)+2=((f % 2:Nat):Int)/\f / 2=1)\/(¬ (p:Int) - (q:Int) - (c:Int)<0/\(p:Int) - (q:Int) - (c:Int)=((f % 2:Nat):Int)/\f / 2=0):=by
 omega
theorem fI (x:Nat) (k:Nat):(ai x).getD k 0=x / 2 ^ k % 2:=by
 induction k generalizing x with
 | zero=>
  rcases Nat.eq_zero_or_pos x with h | h
  ·subst h;unfold ai;rw [bi];rfl
  ·unfold ai;rw [ey aT h];simp
 | succ k ih=>
  rcases Nat.eq_zero_or_pos x with h | h
  ·subst h;unfold ai;rw [bi];simp
  ·have:=ih (x / 2)
   unfold ai at this ⊢
   rw [ey aT h,List.getD_cons_succ,this,Nat.div_div_eq_div_mul,Nat.pow_succ,Nat.mul_comm 2]
theorem om (x k:Nat):x / 2 ^ k=(ai x).getD k 0+2 * (x / 2 ^ (k+1)):=by
 rw [fI,Nat.pow_succ,<- Nat.div_div_eq_div_mul]
 omega
theorem v6 (D y b:Nat) (_hy:0<y) (hb:b<=1):(b+2 * (D % y)<y->(b+2 * D) / y=2 * (D / y)/\(b+2 * D) % y=b+2 * (D % y))/\(¬ b+2 * (D % y)<y->(b+2 * D) / y=2 * (D / y)+1/\(b+2 * D) % y=b+2 * (D % y) - y):=by
 have h1:=Nat.div_add_mod D y
 have h2:=Nat.mod_lt D _hy
 generalize D % y=r at *
 generalize D / y=q at *
 subst h1
 refine ⟨fun h=>?_,fun h=>?_⟩
 ·have e:b+2 * (y * q+r)=(b+2 * r)+y * (2 * q):=by rw [Nat.mul_add,Nat.mul_left_comm];omega
  rw [e,Nat.add_mul_div_left _ _ _hy,Nat.add_mul_mod_self_left,Nat.div_eq_of_lt h,Nat.mod_eq_of_lt h]
  omega
 ·obtain ⟨s,hs⟩:∃ s,s=b+2 * r - y:=⟨_,rfl⟩
  have hs1:s<y:=by omega
  have e:b+2 * (y * q+r)=s+y * (2 * q+1):=by rw [Nat.mul_add,Nat.mul_add,Nat.mul_left_comm,Nat.mul_one];omega
  rw [e,Nat.add_mul_div_left _ _ _hy,Nat.add_mul_mod_self_left,Nat.div_eq_of_lt hs1,Nat.mod_eq_of_lt hs1]
  omega
theorem rO (b m:Nat):bB (b :: ai m)=b+2 * m:=by
 show b+2 * val 2 (d4 2 m)=_
 rw [bc aT]
theorem kY (a b:Nat) (A:Option Addr) (n c:Nat) (A':Option Addr) (n' c':Nat) (w:World) (h:bg w A n c (ai a)) (h':bg w A' n' c' (ai b)) :
 Calls Tryz.prog 116 #[.slice A n c,.slice A' n' c'] w (BoolPost (decide (a<b)) w):=by
 have m1:=h.max
 have m2:=h'.max
 have HT:=hid h
 have HT':=hid h'
 have EL:=hid h.len
 have EL':=hid h'.len
 clear h h'
 by_cases hne:n=n'
 ·have hb:((n:Int) != (n':Int))=false:=by simp [hne]
  have HNE:=hid hne
  clear hne
  go_enter Tryz.func116,Tryz.ntmps116
  go_wp2_with fail
  clear hb
  go_loopw [5] (fun iv wr=>∃ k:Nat,k<=n/\iv=.int .i64 ((k:Int) - 1)/\(∀ j,k<=j->j<n->(ai a).getD j 0=(ai b).getD j 0)/\K0 w wr) (fun iv _=>(intOf iv+1).toNat)
  case atStart=>exact ⟨n,Nat.le_refl _,rfl,fun j h1 h2=>by omega,kR⟩
  case round=>
   obtain ⟨k,hk,rfl,he,K⟩:=hrel
   have HE:=hid he
   clear he
   by_cases h0:k=0
   ·subst h0
    have hv:a=b:=uN (by rw [EL.out,EL'.out];exact HNE.out) (fun j hj=>HE.out j (Nat.zero_le _) (by rw [<- EL.out];exact hj))
    have P:BoolPost (decide (a<b)) w (.returned (.bool false)) wr:=⟨by rw [hv,dF (Nat.lt_irrefl _)],K⟩
    have HP:=hid P
    clear P hv
    go_wp2_with fail
    go_ret
    exact HP.out
   ·obtain ⟨m,rfl⟩:∃ m,k=m+1:=⟨k - 1,by omega⟩
    obtain ⟨b1,o1,rfl,hb1,q1⟩:=(HT.out.row.keep0 K).2 m (by omega)
    obtain ⟨b2,o2,rfl,hb2,q2⟩:=(HT'.out.row.keep0 K).2 m (by have:=HNE.out;omega)
    obtain ⟨x,hx⟩:∃ x,x=(ai a).getD m 0:=⟨_,rfl⟩
    obtain ⟨y,hy⟩:∃ y,y=(ai b).getD m 0:=⟨_,rfl⟩
    rw [<- hx] at q1
    rw [<- hy] at q2
    have HX:=hid hx
    have HY:=hid hy
    have em:((m+1:Nat):Int) - 1=(m:Int):=by omega
    rw [em]
    have i0:(0:Int)<=(m:Int):=by omega
    have i1:(m:Int)<(n:Int):=by omega
    have i2:(m:Int)<(n':Int):=by have:=HNE.out;omega
    by_cases hxy:x=y
    ·subst hxy
     clear hx hy em h0
     go_wp2_with fail
     go_quiet (fail)
     go_wp2_with fail
     go_roundw
     case rel=>exact ⟨m,by omega,by go_num,fun j h1 h2=>by
      by_cases e:j=m
      ·rw [e,<- HX.out,<- HY.out]
      ·exact HE.out j (by omega) h2,K.drewN _⟩
     case measure=>simp [intOf]
    ·have hb:((x:Int) != (y:Int))=true:=by
      rw [bne_iff_ne];omega
     have P:∀ w',K0 w w'->BoolPost (decide (a<b)) w (.returned (.bool (decide (x<y)))) w':=fun w' K'=>⟨by
      rw [pA (k:=m) (by rw [EL.out,EL'.out];exact HNE.out) (by rw [EL.out];omega) (fun j h1 h2=>HE.out j h1 (by rw [<- EL.out];exact h2)) (by rw [<- HX.out,<- HY.out];exact hxy),<- HX.out,<- HY.out],K'⟩
     have HP:=hid P
     clear P hx hy em h0 hxy
     go_wp2_with fail
     go_quiet (fail)
     go_wp2_with fail
     have K9:=K.drewN nq
     have q3:(wr.drewN nq).cell? ⟨b1,o1+m,none⟩=some (.int .u8 (x:Int)):=q1
     have q4:(wr.drewN nq).cell? ⟨b2,o2+m,none⟩=some (.int .u8 (y:Int)):=q2
     generalize wr.drewN nq=w9 at K9 q3 q4 ⊢
     go_quiet (fail)
     go_wp2_with fail
     go_ret
     exact HP.out _ (K9.drewN _)
 ·have hb:((n:Int) != (n':Int))=true:=by rw [bne_iff_ne];omega
  have hc:decide (n<n')=decide (a<b):=by
   rcases Nat.lt_or_ge n n' with h1 | h1
   ·rw [dT h1,dT (mi (by rw [EL.out,EL'.out];exact h1))]
   ·have:=mi (a:=b) (b:=a) (by rw [EL.out,EL'.out];omega)
    rw [dF (by omega),dF (by omega)]
  have P:BoolPost (decide (a<b)) w (.returned (.bool (decide (n<n')))) w:=⟨by rw [hc],kR⟩
  have HP:=hid P
  clear hne hc P
  go_enter Tryz.func116,Tryz.ntmps116
  go_wp2_with fail
  go_ret
  exact HP.out
theorem jV (a b:Nat) (A:Option Addr) (n c:Nat) (A':Option Addr) (n' c':Nat) (w:World) (h:bg w A n c (ai a)) (h':bg w A' n' c' (ai b)) (hle:b<=a) :
 Calls Tryz.prog 117 #[.slice A n c,.slice A' n' c'] w (mo (a - b) w):=by
 have HL:=hid h
 have HL':=hid h'
 have hmx:=h.max
 have HV:=hid (show bB (cB 2 (eY (ai a) (ai b)) n)=a - b from by
  have:=vP (aw aT a) (aw aT b) (gS hle) (by rw [show bB (d4 2 a)=a from bc aT a,show bB (d4 2 b)=b from bc aT b];exact hle)
  rw [show bB (d4 2 a)=a from bc aT a,show bB (d4 2 b)=b from bc aT b] at this
  rw [<- this,<- h.len])
 clear h h'
 obtain ⟨F,hF⟩:∃ F,F=eY (ai a) (ai b):=⟨_,rfl⟩
 rw [<- hF] at HV
 have HFE:=hid hF
 have HC1:=hid (show ∀ i,bx 2 F i<=1 from fun i=>by rw [hF];exact (l5 (aw aT a) (aw aT b) i).2)
 clear hF
 go_enter Tryz.func117,Tryz.ntmps117
 go_wp2_with fail
 go_loopw [5,6,7,8] (fun v cv iv _ wr=>∃ i:Nat,i<=n/\iv=.int .i64 (i:Int)/\cv=.int .i64 ((bx 2 F i:Nat):Int)/\uV w F i v wr) (fun _ _ iv _ _=>n - (intOf iv).toNat)
 case atStart=>exact ⟨0,Nat.zero_le _,rfl,rfl,World.ownsRow_nil _ _ _ _,kR⟩
 case round=>
  obtain ⟨i,hi,rfl,rfl,st⟩:=hrel
  obtain ⟨P,cP,rfl⟩:=cS st.o
  have HS:=hid st
  clear st
  have hcr:=HC1.out i
  obtain ⟨cr,hcr2⟩:∃ x,x=bx 2 F i:=⟨_,rfl⟩
  rw [<- hcr2] at hcr ⊢
  have HCR:=hid hcr2
  clear hcr2
  by_cases hin:i<n
  ·have i0:(0:Int)<=(i:Int):=by omega
   have i1:(i:Int)<(n:Int):=by omega
   have hx:=ck HL.out.low i
   have hy:=ck HL'.out.low i
   have HB:=hid (fun (wi:World) (K':K0 w wi)=>fk A n c (ai a) i wi (HL.out.keep0 K'))
   have HB':=hid (fun (wi:World) (K':K0 w wi)=>fk A' n' c' (ai b) i wi (HL'.out.keep0 K'))
   obtain ⟨x,hxx⟩:∃ x,x=(ai a).getD i 0:=⟨_,rfl⟩
   obtain ⟨y,hyy⟩:∃ y,y=(ai b).getD i 0:=⟨_,rfl⟩
   rw [<- hxx] at hx HB
   rw [<- hyy] at hy HB'
   obtain ⟨f,hf⟩:∃ f,f=F i cr:=⟨_,rfl⟩
   have hd:=rk (p:=x) (q:=y) (c:=cr) (f:=f) (by omega) (by omega) hcr (by rw [hf,HFE.out];unfold eY;rw [<- hxx,<- hyy])
   have HF:=hid (show f=F i (bx 2 F i) from by rw [hf,<- HCR.out])
   clear hxx hyy hf
   have hs:=HS.out.K
   obtain ⟨bt,hbt⟩:∃ bt,bt=f % 2:=⟨_,rfl⟩
   rw [<- hbt] at hd
   have hbt2:bt<=1:=by omega
   have HBT:=hid (show bt=F i (bx 2 F i) % 2 from by rw [<- HF.out];exact hbt)
   have HNX:=hid (show bx 2 F (i+1)=f / 2 from by rw [HF.out];rfl)
   obtain ⟨i5,h5,hz0,hz1,hz2⟩:=info_parts d7
   have KW:K0 wr (wr.alloc (.cells #[.int .u8 (bt:Int)] 5)):=kR.alloc _
   have HOWN:=hid (iy HS.out.o KW (fun _ _=>id))
   have HNEW:=hid (jC wr (bt:Int))
   have HBS:=hid (Nat.le_trans HS.out.K.size KW.size)
   have HKW:=hid KW
   clear KW hbt
   rcases hd with ⟨hd1,hd2,hd3⟩ | ⟨hd1,hd2,hd3⟩
   ·have HD3:=hid hd3
    clear hd3
    go_wp2_with fail
    refine (HB.out _ hs).mono ?_
    rintro e w2 ⟨rfl,rfl⟩
    try dsimp only
    go_wp2_with fail
    refine (HB'.out _ hs).mono ?_
    rintro e w2 ⟨rfl,rfl⟩
    try dsimp only
    go_wp2_with (at_builtin;refine wpList_append_own _ rfl (.tmp 28) (.tmp 31) 70 rfl w.heap.size 5 i5 (.int .u8 0) 1 1 Tryz.underlying70 h5 hz0 hz1 hz2 rfl (by decide) _ _ _ rfl HOWN.out ⟨wr.heap.size,0,none⟩ 1 1 [.int .u8 (bt:Int)] rfl rfl HNEW.out ?a1 ?a2 ?a3 HBS.out ?_)
    case a1=>intro u hu;simp at hu;subst hu;rfl
    case a2=>unfold maxLen;omega
    case a3=>omega
    intro v' w6 hown hgrow _
    have N:=HS.out.more (b:=bt) HBT.out HKW.out hown hgrow
    obtain ⟨P2,cP2,rfl⟩:=cS N.o
    have HN:=hid N
    clear N hown hgrow
    go_wp2_with fail
    go_roundw
    case rel=>exact ⟨i+1,by omega,by go_num,by rw [HNX.out,HD3.out];rfl,HN.out⟩
    case measure=>simp [intOf];omega
   ·have HD3:=hid hd3
    clear hd3
    go_wp2_with fail
    refine (HB.out _ hs).mono ?_
    rintro e w2 ⟨rfl,rfl⟩
    try dsimp only
    go_wp2_with fail
    refine (HB'.out _ hs).mono ?_
    rintro e w2 ⟨rfl,rfl⟩
    try dsimp only
    go_wp2_with (at_builtin;refine wpList_append_own _ rfl (.tmp 28) (.tmp 31) 70 rfl w.heap.size 5 i5 (.int .u8 0) 1 1 Tryz.underlying70 h5 hz0 hz1 hz2 rfl (by decide) _ _ _ rfl HOWN.out ⟨wr.heap.size,0,none⟩ 1 1 [.int .u8 (bt:Int)] rfl rfl HNEW.out ?a1 ?a2 ?a3 HBS.out ?_)
    case a1=>intro u hu;simp at hu;subst hu;rfl
    case a2=>unfold maxLen;omega
    case a3=>omega
    intro v' w6 hown hgrow _
    have N:=HS.out.more (b:=bt) HBT.out HKW.out hown hgrow
    obtain ⟨P2,cP2,rfl⟩:=cS N.o
    have HN:=hid N
    clear N hown hgrow
    go_wp2_with fail
    go_roundw
    case rel=>exact ⟨i+1,by omega,by go_num,by rw [HNX.out,HD3.out];rfl,HN.out⟩
    case measure=>simp [intOf];omega
  ·have hd:decide ((i:Int)<(n:Int))=false:=dF (by omega)
   obtain rfl:i=n:=by omega
   have ho:aP 5 .u8 wr w.heap.size P i cP (cB 2 F i):=HS.out.o
   have low:Low 2 (cB 2 F i):=eV (by omega) F i
   have hB:=ho.toBits low (by omega)
   have hle2:=fU low
   rw [ho.len] at hle2
   have ho2:=ho.take hle2
   rw [nO low,HV.out] at ho2
   have HO:=hid ho2
   have HB:=hid hB
   have HK:=hid HS.out.K
   clear hB ho ho2
   go_wp2_with fail
   refine (dW P i cP _ _ HB.out).mono ?_
   rintro e w1 ⟨rfl,rfl⟩
   go_wp2_with fail
   go_ret
   exact ⟨P,_,cP,rfl,HO.out,HK.out⟩
theorem pT {w:World} {x:Nat} {A:Option Addr} {n c:Nat} (h:bg w A n c (ai x)):x<2 ^ n:=(aM aT _ _).1 (Nat.le_of_eq h.len)
theorem qf {l:List Nat} (low:Low BB l):cM l=l.length ↔ l=aA (bA l):=by
 constructor
 ·intro h
  have:=gA low
  rw [h,List.take_of_length_le (Nat.le_refl _)] at this
  exact this
 ·intro h
  unfold cM
  rw [<- h]
theorem xg {p:Bool} {l:List Nat} {n:Nat} (low:Low BB l) (hl:l.length=n):kc p l=(decide (n<=48) && (decide (cM l=n) && (!p || decide (0<n)))):=by
 subst hl
 have h1:=qf low
 unfold kc
 by_cases ht:l=aA (bA l)
 ·have h2:=h1.2 ht
  have hf:dG (ci p l) ↔ l.length<=48:=by
   unfold dG
   rw [dP,<- ht]
  have hp:(p=decide (ci p l<0)) ↔ ((!p || decide (0<l.length))=true):=by
   have hv:0<bA l ↔ 0<l.length:=by
    have:=jH l
    rw [h2] at this
    exact this.symm
   unfold ci
   cases p
   ·simp
   ·simp
    omega
  rw [dT h2]
  have e:(dG (ci p l)/\p=decide (ci p l<0)/\l=aA (bA l)) ↔ (l.length<=48/\(!p || decide (0<l.length))=true):=by
   rw [hf,hp]
   exact ⟨fun h=>⟨h.1,h.2.1⟩,fun h=>⟨h.1,h.2,ht⟩⟩
  rw [decide_eq_decide.2 e,Bool.decide_and]
  simp
 ·have h2:¬ cM l=l.length:=fun h=>ht (h1.1 h)
  rw [dF (fun h=>ht h.2.2),dF h2]
  simp
theorem yp (p1:Bool) (A1:Option Addr) (n1 c1:Nat) (l1:List Nat) (w:World) (L1:aq w A1 n1 c1 l1) (hn:¬ n1<=48) :
 Calls Tryz.prog 135 #[al p1 A1 n1 c1] w (BoolPost false w):=by
 have t1:decide ((n1:Int)<=48)=false:=dF (by omega)
 have t2:decide (n1<=48)=false:=dF hn
 have HL:=hid L1
 clear L1
 clear hn
 have X0:=rG w (.bool p1) (.slice A1 n1 c1)
 go_enter Tryz.func135,Tryz.ntmps135
 go_wp2_with fail
 generalize w.heap.size=B0 at X0 ⊢
 generalize w.alloc (.cells #[.bool p1,.slice A1 n1 c1] 24)=w2 at X0 ⊢
 have HX:=hid X0
 clear X0
 have HTR:=hid (fun (k:Nat)=>(show Calls Tryz.prog 141 #[.slice A1 n1 c1] (w2.drewN k) (fun e w9=>e=.returned (.slice A1 (cM l1) c1)/\w9=w2.drewN k) from (cE A1 n1 c1 l1 (w2.drewN k) (HL.out.keep0 (HX.out.k.trans (kR.drewN k)))).mono fun _ _ ⟨he,hw⟩=>⟨he,hw.symm⟩))
 have HK:=hid HX.out.k
 obtain ⟨r0,r1,rl⟩:=HX.out.cells (.head _)
 go_wp2_with fail
 go_quiet ((go_at_call 141;with_reducible exact Calls.quiet_of_same (HTR.out _)))
 go_wp2_with fail
 go_ret
 exact ⟨rfl,HK.out.drewN _⟩
theorem ym (p1:Bool) (A1:Option Addr) (n1 c1:Nat) (l1:List Nat) (w:World) (L1:aq w A1 n1 c1 l1) (hn:n1<=48) (ht:¬ cM l1=n1) :
 Calls Tryz.prog 135 #[al p1 A1 n1 c1] w (BoolPost false w):=by
 obtain ⟨m,hm⟩:∃ m,m=cM l1:=⟨_,rfl⟩
 rw [<- hm] at ht
 have HM:=hid hm
 clear hm
 have t1:(n1:Int)<=48:=by omega
 have t3:((m:Int) == (n1:Int))=false:=by rw [bF];omega
 have t4:decide (m=n1)=false:=dF ht
 have HL:=hid L1
 clear L1
 clear hn ht
 have X0:=rG w (.bool p1) (.slice A1 n1 c1)
 go_enter Tryz.func135,Tryz.ntmps135
 go_wp2_with fail
 generalize w.heap.size=B0 at X0 ⊢
 generalize w.alloc (.cells #[.bool p1,.slice A1 n1 c1] 24)=w2 at X0 ⊢
 have HX:=hid X0
 clear X0
 have HTR:=hid (fun (k:Nat)=>(show Calls Tryz.prog 141 #[.slice A1 n1 c1] (w2.drewN k) (fun e w9=>e=.returned (.slice A1 m c1)/\w9=w2.drewN k) from (cE A1 n1 c1 l1 (w2.drewN k) (HL.out.keep0 (HX.out.k.trans (kR.drewN k)))).mono fun _ _ ⟨he,hw⟩=>⟨by rw [HM.out];exact he,hw.symm⟩))
 have HK:=hid HX.out.k
 obtain ⟨r0,r1,rl⟩:=HX.out.cells (.head _)
 go_wp2_with fail
 go_quiet ((go_at_call 141;with_reducible exact Calls.quiet_of_same (HTR.out _)))
 go_wp2_with fail
 go_ret
 exact ⟨rfl,HK.out.drewN _⟩
theorem yl (p1:Bool) (A1:Option Addr) (n1 c1:Nat) (l1:List Nat) (w:World) (L1:aq w A1 n1 c1 l1) (hn:n1<=48) (ht:cM l1=n1) (hp:p1=false) :
 Calls Tryz.prog 135 #[al p1 A1 n1 c1] w (BoolPost true w):=by
 obtain ⟨m,hm⟩:∃ m,m=cM l1:=⟨_,rfl⟩
 rw [<- hm] at ht
 have HM:=hid hm
 clear hm
 have t1:(n1:Int)<=48:=by omega
 subst ht
 subst hp
 have HL:=hid L1
 clear L1
 clear hn
 have X0:=rG w (.bool false) (.slice A1 m c1)
 go_enter Tryz.func135,Tryz.ntmps135
 go_wp2_with fail
 generalize w.heap.size=B0 at X0 ⊢
 generalize w.alloc (.cells #[.bool false,.slice A1 m c1] 24)=w2 at X0 ⊢
 have HX:=hid X0
 clear X0
 have HTR:=hid (fun (k:Nat)=>(show Calls Tryz.prog 141 #[.slice A1 m c1] (w2.drewN k) (fun e w9=>e=.returned (.slice A1 m c1)/\w9=w2.drewN k) from (cE A1 m c1 l1 (w2.drewN k) (HL.out.keep0 (HX.out.k.trans (kR.drewN k)))).mono fun _ _ ⟨he,hw⟩=>⟨by rw [HM.out];exact he,hw.symm⟩))
 have HK:=hid HX.out.k
 obtain ⟨r0,r1,rl⟩:=HX.out.cells (.head _)
 go_wp2_with fail
 go_quiet ((go_at_call 141;with_reducible exact Calls.quiet_of_same (HTR.out _)))
 go_wp2_with fail
 go_ret
 exact ⟨rfl,HK.out.drewN _⟩
theorem yj (p1:Bool) (A1:Option Addr) (n1 c1:Nat) (l1:List Nat) (w:World) (L1:aq w A1 n1 c1 l1) (hn:n1<=48) (ht:cM l1=n1) (hp:p1=true) (h0:0<n1) :
 Calls Tryz.prog 135 #[al p1 A1 n1 c1] w (BoolPost true w):=by
 obtain ⟨m,hm⟩:∃ m,m=cM l1:=⟨_,rfl⟩
 rw [<- hm] at ht
 have HM:=hid hm
 clear hm
 have t1:(n1:Int)<=48:=by omega
 subst ht
 subst hp
 have t5:(0:Int)<(m:Int):=by omega
 have t6:decide (0<m)=true:=dT h0
 have HL:=hid L1
 clear L1
 clear hn h0
 have X0:=rG w (.bool true) (.slice A1 m c1)
 go_enter Tryz.func135,Tryz.ntmps135
 go_wp2_with fail
 generalize w.heap.size=B0 at X0 ⊢
 generalize w.alloc (.cells #[.bool true,.slice A1 m c1] 24)=w2 at X0 ⊢
 have HX:=hid X0
 clear X0
 have HTR:=hid (fun (k:Nat)=>(show Calls Tryz.prog 141 #[.slice A1 m c1] (w2.drewN k) (fun e w9=>e=.returned (.slice A1 m c1)/\w9=w2.drewN k) from (cE A1 m c1 l1 (w2.drewN k) (HL.out.keep0 (HX.out.k.trans (kR.drewN k)))).mono fun _ _ ⟨he,hw⟩=>⟨by rw [HM.out];exact he,hw.symm⟩))
 have HK:=hid HX.out.k
 obtain ⟨r0,r1,rl⟩:=HX.out.cells (.head _)
 go_wp2_with fail
 go_quiet ((go_at_call 141;with_reducible exact Calls.quiet_of_same (HTR.out _)))
 go_wp2_with fail
 go_ret
 exact ⟨rfl,HK.out.drewN _⟩
theorem yi (p1:Bool) (A1:Option Addr) (n1 c1:Nat) (l1:List Nat) (w:World) (L1:aq w A1 n1 c1 l1) (hn:n1<=48) (ht:cM l1=n1) (hp:p1=true) (h0:¬ 0<n1) :
 Calls Tryz.prog 135 #[al p1 A1 n1 c1] w (BoolPost false w):=by
 obtain ⟨m,hm⟩:∃ m,m=cM l1:=⟨_,rfl⟩
 rw [<- hm] at ht
 have HM:=hid hm
 clear hm
 have t1:(n1:Int)<=48:=by omega
 subst ht
 subst hp
 have t5:decide ((0:Int)<(m:Int))=false:=dF (by omega)
 have t6:decide (0<m)=false:=dF h0
 have HL:=hid L1
 clear L1
 clear hn h0
 have X0:=rG w (.bool true) (.slice A1 m c1)
 go_enter Tryz.func135,Tryz.ntmps135
 go_wp2_with fail
 generalize w.heap.size=B0 at X0 ⊢
 generalize w.alloc (.cells #[.bool true,.slice A1 m c1] 24)=w2 at X0 ⊢
 have HX:=hid X0
 clear X0
 have HTR:=hid (fun (k:Nat)=>(show Calls Tryz.prog 141 #[.slice A1 m c1] (w2.drewN k) (fun e w9=>e=.returned (.slice A1 m c1)/\w9=w2.drewN k) from (cE A1 m c1 l1 (w2.drewN k) (HL.out.keep0 (HX.out.k.trans (kR.drewN k)))).mono fun _ _ ⟨he,hw⟩=>⟨by rw [HM.out];exact he,hw.symm⟩))
 have HK:=hid HX.out.k
 obtain ⟨r0,r1,rl⟩:=HX.out.cells (.head _)
 go_wp2_with fail
 go_quiet ((go_at_call 141;with_reducible exact Calls.quiet_of_same (HTR.out _)))
 go_wp2_with fail
 go_ret
 exact ⟨rfl,HK.out.drewN _⟩
theorem vQ (p:Bool) (A:Option Addr) (n c:Nat) (l:List Nat) (w:World) (h:aq w A n c l) :
 Calls Tryz.prog 135 #[al p A n c] w (BoolPost (kc p l) w):=by
 rw [xg h.low h.len]
 by_cases hn:n<=48
 ·by_cases ht:cM l=n
  ·cases hp:p with
   | false=>rw [dT hn,dT ht];exact yl _ A n c l w h hn ht rfl
   | true=>
    by_cases h0:0<n
    ·rw [dT hn,dT ht,dT h0];exact yj _ A n c l w h hn ht rfl h0
    ·rw [dT hn,dT ht,dF h0];exact yi _ A n c l w h hn ht rfl h0
  ·rw [dT hn,dF ht];exact ym p A n c l w h hn ht
 ·rw [dF hn];exact yp p A n c l w h hn
theorem pe (n:Nat):(madeCells #[Value.int .u8 0] n).toList=(List.replicate n 0).map fun x:Nat=>Value.int .u8 (x:Int):=by
 refine List.ext_getElem? fun i=>?_
 by_cases hi:i<n
 ·simp [madeCells,hi,Nat.mod_one]
 ·simp [madeCells,hi]
theorem rn (w:World) (n:Nat) (hn:n<=1000000):aP 5 .u8 (w.alloc (.cells (madeCells #[Value.int .u8 0] n) 5)) w.heap.size (some ⟨w.heap.size,0,none⟩) n n (List.replicate n 0):=by
 refine ⟨by simp,.inr ⟨w.heap.size,n,madeCells #[Value.int .u8 0] n,rfl,Nat.le_refl _,hN _ _,Nat.le_refl _,by unfold maxLen;omega,by simp [size_madeCells],?_⟩⟩
 rw [pe,List.take_of_length_le (by simp)]
theorem rm (n:Nat) (hn:n<=1000000) (W:World):(Instr.makeSlice 70 (.int .i64 (n:Int)) (.int .i64 (n:Int))).run Tryz.prog W=.ok (.slice (some ⟨W.heap.size,0,none⟩) n n) (W.alloc (.cells (madeCells #[Value.int .u8 0] n) 5)):=by
 obtain ⟨i0,hi,hz0,hz1,hz2⟩:=info_parts d7
 have:=run_make (P:=Tryz.prog) W 70 5 i0 _ Tryz.underlying70 hi hz0 .i64 .i64 (n:Int) (n:Int) (by omega) (by omega) (by rw [hz2];omega) (by omega)
 rw [hz1] at this
 simpa [Value.cells] using this
structure nY (w:World) (a b B n k:Nat) (qs:List Nat) (R:Option Addr) (nr c:Nat) (wr:World):Prop where
 q:aP 5 .u8 wr B (some ⟨B,0,none⟩) n n qs
 s:fL a b k qs
 r:aP 5 .u8 wr (B+1) R nr c (ai (a / 2 ^ k % b))
 K:K0 w wr
 lt:B<wr.heap.size
structure iL (w:World) (a b B n k D:Nat) (qs:List Nat) (R:Option Addr) (nr c:Nat) (wr:World):Prop where
 q:aP 5 .u8 wr B (some ⟨B,0,none⟩) n n qs
 s:fL a b (k+1) qs
 r:aP 5 .u8 wr (B+1) R nr c (ai D)
 K:K0 w wr
 lt:B<wr.heap.size
 D:D=(ai a).getD k 0+2 * (a / 2 ^ (k+1) % b)
theorem gi {x m:Nat} (hx:x<=1):Low 2 (x :: ai m):=by
 intro y hy
 rcases List.mem_cons.1 hy with rfl | hy
 ·omega
 ·exact aw aT m y hy
theorem nY.app {w wr w6:World} {a b B n k x D nr c n2 c2:Nat} {qs:List Nat} {R R2:Option Addr} (h:nY w a b B n (k+1) qs R nr c wr) (hx:x=(ai a).getD k 0) (hD:D=x+2 * (a / 2 ^ (k+1) % b)) (K6:K0 wr w6) (o:aP 5 .u8 w6 wr.heap.size R2 n2 c2 (x :: ai (a / 2 ^ (k+1) % b))) (hx1:x<=1):iL w a b B n k D qs R2 (dy (x :: ai (a / 2 ^ (k+1) % b))) c2 w6:=by
 have hle:=fU (gi (m:=a / 2 ^ (k+1) % b) hx1)
 rw [o.len] at hle
 have ho:=o.take hle
 rw [nO (gi hx1),rO,<- hD] at ho
 exact ⟨h.q.keep0 K6,h.s,ho.mono (by have:=h.lt;omega),h.K.trans K6,Nat.lt_of_lt_of_le h.lt K6.size,by rw [hD,hx]⟩
theorem iL.dv {w wr:World} {a b B n k D nr c:Nat} {qs:List Nat} {R:Option Addr} (h:iL w a b B n k D qs R nr c wr) (hb:0<b):(D<b->a / 2 ^ k / b=2 * (a / 2 ^ (k+1) / b)/\a / 2 ^ k % b=D)/\(¬ D<b->a / 2 ^ k / b=2 * (a / 2 ^ (k+1) / b)+1/\a / 2 ^ k % b=D - b):=by
 have h1:=ck (aw aT a) k
 have h2:=v6 (a / 2 ^ (k+1)) b ((ai a).getD k 0) hb (by unfold ai;omega)
 rw [<- om a k,<- h.D] at h2
 exact h2
theorem iL.small {w wr:World} {a b B n k D nr c:Nat} {qs:List Nat} {R:Option Addr} (h:iL w a b B n k D qs R nr c wr) (hb:0<b) (hlt:D<b):nY w a b B n k qs R nr c wr:=by
 obtain ⟨h1,h2⟩:=(h.dv hb).1 hlt
 exact ⟨h.q,h.s.zero h1,by rw [h2];exact h.r,h.K,h.lt⟩
theorem iL.great {w wr w8:World} {a b B n k D nr c n3 c3:Nat} {qs:List Nat} {R R3:Option Addr} (h:iL w a b B n k D qs R nr c wr) (hb:0<b) (hge:¬ D<b) (hk:k<n) (hw:w.heap.size<=B) (k8:K0 wr w8) (o:aP 5 .u8 w8 wr.heap.size R3 n3 c3 (ai (D - b))) :
 nY w a b B n k (qs.set k 1) R3 n3 c3 (w8.setCell ⟨B,k,none⟩ (.int .u8 1)):=by
 obtain ⟨h1,h2⟩:=(h.dv hb).2 hge
 have hq:=h.q.keep0 k8
 have hset:=hq.set hk 1
 have KS:ah (fun b=>b=B) w8 (w8.setCell ⟨B,k,none⟩ (.int .u8 1)):=cG (S:=fun b=>b=B) rfl _ _
 refine ⟨hset,h.s.one (by rw [h.q.len];exact hk) h1,?_,(h.K.trans k8).into KS (fun i hi=>by rw [hi];exact hw),Nat.lt_of_lt_of_le (Nat.lt_of_lt_of_le h.lt k8.size) KS.size⟩
 rw [h2]
 have o2:=(o.mono (base':=B+1) (by have:=h.lt;omega))
 exact o2.keep KS (fun b' off e hb'=>by have:=(o2.fresh b' off e).1;omega)
theorem iL.cell {w wr w8:World} {a b B n k D nr c:Nat} {qs:List Nat} {R:Option Addr} (h:iL w a b B n k D qs R nr c wr) (hk:k<n) (k8:K0 wr w8):(∃ y:Nat,w8.cell? ⟨B,k,none⟩=some (.int .u8 (y:Int)))/\w8.frozen? ⟨B,k,none⟩=false:=by
 have hq:=h.q.keep0 k8
 obtain ⟨b',off,e',_,hc⟩:=hq.row.2 k hk
 injection e' with e'
 injection e' with e1 e2 _
 subst e1 e2
 rw [Nat.zero_add] at hc
 exact ⟨⟨_,hc⟩,hq.frozen _ 0 rfl k⟩
theorem re (a b:Nat) (A:Option Addr) (n c:Nat) (A':Option Addr) (n' c':Nat) (w:World) (h:bg w A n c (ai a)) (h':bg w A' n' c' (ai b)) (hb:0<b) (hm:n<=1000000) (hm':n'<=1000000) :
 Calls Tryz.prog 81 #[.slice A n c,.slice A' n' c'] w fun e w'=>∃ (Q:Option Addr) (nq cq:Nat) (R:Option Addr) (nr cr:Nat),e=.returned (.tuple #[.slice Q nq cq,.slice R nr cr])/\aP 5 .u8 w' w.heap.size Q nq cq (ai (a / b))/\aP 5 .u8 w' w.heap.size R nr cr (ai (a % b))/\K0 w w':=by
 have hmk:=fun W:World=>rm n hm W
 have own:=rn w n hm
 have K:K0 w (w.alloc (.cells (madeCells #[Value.int .u8 0] n) 5)):=kR.alloc _
 have HL:=hid h
 have HL':=hid h'
 have HBB:=hid hb
 have HST:=hid (fL.start a b n (pT h))
 have HA0:=hid (show a / 2 ^ n % b=0 from by rw [Nat.div_eq_of_lt (pT h),Nat.zero_mod])
 have HLT:=hid (show w.heap.size<(w.alloc (.cells (madeCells #[Value.int .u8 0] n) 5)).heap.size from by simp)
 clear h h' hb
 go_enter Tryz.func81,Tryz.ntmps81
 go_wp2_with fail
 clear hmk
 generalize hB:w.heap.size=B at own HLT ⊢
 have HB:=hid (Nat.le_of_eq hB)
 clear hB
 generalize w.alloc (.cells (madeCells #[Value.int .u8 0] n) 5)=w1 at own K HLT ⊢
 have HI:=hid (show nY w a b B n n (List.replicate n 0) none 0 0 w1 from ⟨own,HST.out,by rw [HA0.out];unfold ai;rw [bi];exact aP.nil _ _ _ _,K,HLT.out⟩)
 clear own K
 go_loopw [7,8] (fun rv iv wr=>∃ (k:Nat) (qs:List Nat) (R:Option Addr) (nr cr:Nat),k<=n/\iv=.int .i64 ((k:Int) - 1)/\rv=.slice R nr cr/\nY w a b B n k qs R nr cr wr) (fun _ iv _=>(intOf iv+1).toNat)
 case atStart=>exact ⟨n,_,none,0,0,Nat.le_refl _,rfl,rfl,HI.out⟩
 case round=>
  obtain ⟨k,qs,R,nr,cr,hk,rfl,rfl,st⟩:=hrel
  have HS:=hid st
  have HKK:=hid st.K
  clear st
  by_cases h0:k=0
  ·subst h0
   have hq:=HS.out.q
   have low:=HS.out.s.low
   have hv:=HS.out.s.done
   have hle:=fU low
   rw [hq.len] at hle
   have ho:=hq.take hle
   rw [nO low,hv] at ho
   have hr:=HS.out.r
   rw [Nat.pow_zero,Nat.div_one] at hr
   have HO:=hid (And.intro (ho.mono HB.out) (hr.mono (base':=w.heap.size) (by have:=HB.out;omega)))
   have HBT:=hid (hq.toBits low (by omega))
   have HK:=hid HS.out.K
   clear hq ho hr hv hle low
   go_wp2_with fail
   refine (dW _ n n qs _ HBT.out).mono ?_
   rintro e w2 ⟨rfl,rfl⟩
   try dsimp only
   go_wp2_with fail
   exact bodyPost_ret (v:=.tuple #[.slice (some ⟨B,0,none⟩) (dy qs) n,.slice R nr cr]) (by simp [results,Tryz.results81,go_sem]) rfl ⟨_,_,_,_,_,_,rfl,HO.out.1,HO.out.2,HK.out⟩
  ·obtain ⟨m,rfl⟩:∃ m,k=m+1:=⟨k - 1,by omega⟩
   obtain ⟨b1,o1,rfl,hb1,q1⟩:=(HL.out.row.keep0 HKK.out).2 m (by omega)
   have hx:=ck HL.out.low m
   obtain ⟨x,hxx⟩:∃ x,x=(ai a).getD m 0:=⟨_,rfl⟩
   rw [<- hxx] at q1 hx
   have HX:=hid hxx
   have em:((m+1:Nat):Int) - 1=(m:Int):=by omega
   rw [em]
   have i0:(0:Int)<=(m:Int):=by omega
   have i1:(m:Int)<(n:Int):=by omega
   have hrl:=HS.out.r.len
   have hnr:nr<=n':=by
    rw [<- hrl,<- HL'.out.len]
    exact gS (Nat.le_of_lt (Nat.mod_lt _ HBB.out))
   obtain ⟨r0,hr0⟩:∃ r,r=a / 2 ^ (m+1) % b:=⟨_,rfl⟩
   obtain ⟨D,hD⟩:∃ D,D=x+2 * r0:=⟨_,rfl⟩
   have HR0:=hid (And.intro hr0 hD)
   have hx1:x<=1:=by omega
   have HX1:=hid hx1
   have KA:K0 wr (wr.alloc (.cells #[.int .u8 (x:Int)] 5)):=kR.alloc _
   have HKA:=hid KA
   have HONE:=hid (gK wr (x:Int))
   have HRO:=hid (HS.out.r.keep0 KA)
   have hbl:dy (x :: ai r0)<=1+nr:=by
    have:=fU (gi (m:=r0) hx1)
    rw [hr0] at this ⊢
    simp only [List.length_cons] at this
    omega
   obtain ⟨bl,hbl2⟩:∃ L,L=dy (x :: ai r0):=⟨_,rfl⟩
   rw [<- hbl2] at hbl
   have HBL:=hid hbl2
   clear hxx hx em h0 KA hrl hr0 hD hbl2 hx1
   rcases R with _ | ad
   ·have hnr0:nr=0:=by
     rcases Nat.eq_zero_or_pos nr with e | e
     ·exact e
     ·obtain ⟨_,_,e2,_⟩:=HRO.out.row.2 0 e
      cases e2
    have hr00:ai r0=[]:=by
     have:=HRO.out.len
     rw [<- HR0.out.1] at this
     exact List.eq_nil_of_length_eq_zero (by omega)
    subst hnr0
    have HO6:=hid (show aP 5 .u8 (wr.alloc (.cells #[.int .u8 (x:Int)] 5)) wr.heap.size (some ⟨wr.heap.size,0,none⟩) 1 1 (x :: ai r0) from by rw [hr00];exact HONE.out)
    have HK6:=HKA
    clear HONE HRO hr00
    have HM:=hid (HS.out.app (D:=D) (R2:=some ⟨wr.heap.size,0,none⟩) (n2:=1) (c2:=1) HX.out (by rw [<- HR0.out.1];exact HR0.out.2) HK6.out (by rw [<- HR0.out.1];exact HO6.out) HX1.out)
    rw [<- HR0.out.1,<- HBL.out] at HM
    have HCB:=hid (HO6.out.toBits (gi HX1.out) (by omega))
    have HLS:=hid (kY D b (some ⟨wr.heap.size,0,none⟩) bl 1 A' n' c' (wr.alloc (.cells #[.int .u8 (x:Int)] 5)) (HM.out.r.toBits (aw aT _) (by omega)) (HL'.out.keep0 (HKK.out.trans HK6.out)))
    go_wp2_with fail
    refine (dW _ _ _ _ _ HCB.out).mono ?_
    rintro e w7 ⟨rfl,rfl⟩
    rw [<- HBL.out]
    try dsimp only
    go_wp2_with fail
    refine (HLS.out).mono ?_
    rintro e w7 ⟨rfl,k7⟩
    by_cases hlt:D<b
    ·rw [dT hlt]
     have HN:=hid (HM.out.small HBB.out hlt)
     have HN2:=hid (show nY w a b B n m qs (some ⟨wr.heap.size,0,none⟩) bl 1 w7 from ⟨HN.out.q.keep0 k7,HN.out.s,HN.out.r.keep0 k7,HN.out.K.trans k7,Nat.lt_of_lt_of_le HN.out.lt k7.size⟩)
     clear hlt HN HM HLS k7
     try dsimp only
     go_wp2_with fail
     go_roundw
     case rel=>exact ⟨m,_,_,_,_,by omega,by go_num,rfl,HN2.out⟩
     case measure=>simp [intOf]
    ·rw [dF hlt]
     have HMN:=hid (jV D b (some ⟨wr.heap.size,0,none⟩) bl 1 A' n' c' w7 ((HM.out.r.keep0 k7).toBits (aw aT _) (by omega)) (HL'.out.keep0 (HKK.out.trans (HK6.out.trans k7))) (by omega))
     have HGE:=hid hlt
     have HK7:=hid k7
     clear hlt HLS k7
     try dsimp only
     go_wp2_with fail
     refine HMN.out.mono ?_
     rintro e w8 ⟨R3,n3,c3,rfl,o8,k8⟩
     obtain ⟨⟨y,hc8⟩,hf8⟩:=HM.out.cell (by omega) (HK7.out.trans k8)
     have HN:=hid (HM.out.great HBB.out HGE.out (by omega) HB.out (HK7.out.trans k8) (o8.mono HK7.out.size))
     clear o8 k8 HMN
     try dsimp only
     go_wp2_with fail
     go_roundw
     case rel=>exact ⟨m,_,_,_,_,by omega,by go_num,rfl,HN.out⟩
     case measure=>simp [intOf]
   ·obtain ⟨i5,h5,hz0,hz1,hz2⟩:=info_parts d7
    have HRR:=hid HRO.out.row
    have HRL:=hid HRO.out.len
    rw [<- HR0.out.1] at HRR HRL
    clear HRO
    go_wp2_with (at_builtin;refine wpList_append_own _ rfl (.tmp 23) (.tmp 24) 70 rfl wr.heap.size 5 i5 (.int .u8 0) 1 1 Tryz.underlying70 h5 hz0 hz1 hz2 rfl (by decide) _ _ _ rfl HONE.out ad nr cr ((ai r0).map fun x:Nat=>Value.int .u8 (x:Int)) rfl (by rw [List.length_map,HRL.out,Nat.mul_one]) HRR.out.news ?a1 ?a2 ?a3 ?a4 ?_)
    case a1=>
     intro u hu
     obtain ⟨z,_,rfl⟩:=List.mem_map.1 hu
     rfl
    case a2=>unfold maxLen;omega
    case a3=>omega
    case a4=>simp
    intro v' w6 hown hgrow _
    have hown2:w6.ownsRow wr.heap.size 5 1 v' (1+nr) ((x :: ai r0).map fun x:Nat=>Value.int .u8 (x:Int)):=hown
    obtain ⟨R2,c2,rfl,o6⟩:=cj hown2
    have HO6:=hid o6
    have HK6:=hid (HKA.out.into (ah.of_grown hgrow) (fun i hi=>Nat.le_of_eq (by simpa [Value.ownBlock] using hi.symm)))
    clear hown hown2 hgrow o6 HONE HRR HRL
    have HM:=hid (HS.out.app (D:=D) (R2:=R2) (n2:=1+nr) (c2:=c2) HX.out (by rw [<- HR0.out.1];exact HR0.out.2) HK6.out (by rw [<- HR0.out.1];exact HO6.out) HX1.out)
    rw [<- HR0.out.1,<- HBL.out] at HM
    have HCB:=hid (HO6.out.toBits (gi HX1.out) (by omega))
    have HLS:=hid (kY D b R2 bl c2 A' n' c' w6 (HM.out.r.toBits (aw aT _) (by omega)) (HL'.out.keep0 (HKK.out.trans HK6.out)))
    go_wp2_with fail
    refine (dW _ _ _ _ _ HCB.out).mono ?_
    rintro e w7 ⟨rfl,rfl⟩
    rw [<- HBL.out]
    try dsimp only
    go_wp2_with fail
    refine (HLS.out).mono ?_
    rintro e w7 ⟨rfl,k7⟩
    by_cases hlt:D<b
    ·rw [dT hlt]
     have HN:=hid (HM.out.small HBB.out hlt)
     have HN2:=hid (show nY w a b B n m qs R2 bl c2 w7 from ⟨HN.out.q.keep0 k7,HN.out.s,HN.out.r.keep0 k7,HN.out.K.trans k7,Nat.lt_of_lt_of_le HN.out.lt k7.size⟩)
     clear hlt HN HM HLS k7
     try dsimp only
     go_wp2_with fail
     go_roundw
     case rel=>exact ⟨m,_,_,_,_,by omega,by go_num,rfl,HN2.out⟩
     case measure=>simp [intOf]
    ·rw [dF hlt]
     have HMN:=hid (jV D b R2 bl c2 A' n' c' w7 ((HM.out.r.keep0 k7).toBits (aw aT _) (by omega)) (HL'.out.keep0 (HKK.out.trans (HK6.out.trans k7))) (by omega))
     have HGE:=hid hlt
     have HK7:=hid k7
     clear hlt HLS k7
     try dsimp only
     go_wp2_with fail
     refine HMN.out.mono ?_
     rintro e w8 ⟨R3,n3,c3,rfl,o8,k8⟩
     obtain ⟨⟨y,hc8⟩,hf8⟩:=HM.out.cell (by omega) (HK7.out.trans k8)
     have HN:=hid (HM.out.great HBB.out HGE.out (by omega) HB.out (HK7.out.trans k8) (o8.mono HK7.out.size))
     clear o8 k8 HMN
     try dsimp only
     go_wp2_with fail
     go_roundw
     case rel=>exact ⟨m,_,_,_,_,by omega,by go_num,rfl,HN.out⟩
     case measure=>simp [intOf]
open Go.RowKit Go.Lib
def DSt (V m:Nat) (o:List UInt8):Prop:=(m=0/\decDigits V=o)\/(0<m/\decDigits V=decDigits m++o)
theorem DSt.next {V m:Nat} {o:List UInt8} (h:DSt V m o) (hm:0<m):DSt V (m / 10) (UInt8.ofNat (48+m % 10) :: o):=by
 rcases h with ⟨h0,_⟩ | ⟨_,h⟩
 ·omega
 ·by_cases h10:m<10
  ·refine .inl ⟨by omega,?_⟩
   rw [h,dM h10,Nat.mod_eq_of_lt h10]
   rfl
  ·refine .inr ⟨by omega,?_⟩
   rw [h,iI h10,List.append_assoc]
   rfl
theorem DSt.le {V m:Nat} {o:List UInt8} (h:DSt V m o):o.length<=(decDigits V).length:=by
 rcases h with ⟨_,h⟩ | ⟨_,h⟩
 ·rw [h];exact Nat.le_refl _
 ·rw [h,List.length_append];omega
def yw:Value->Nat
 | .slice _ n _=>n
 | _=>0
theorem ru {m:Nat} (h:0<m):(ai (m / 10)).length<(ai m).length:=by
 have h1:(ai m).length=(ai (m / 2)).length+1:=by unfold ai;rw [ey aT h];rfl
 have h2:=gS (a:=m / 10) (b:=m / 2) (by omega)
 omega
theorem rB {v:Nat} (h:v<10):(ai v).getD 0 0+2 * (ai v).getD 1 0+4 * (ai v).getD 2 0+8 * (ai v).getD 3 0=v:=by
 rw [fI,fI,fI,fI]
 omega
theorem uI {v:Nat} (h:v<10):(UInt8.ofNat (48+v)).toNat=48+v:=by
 simp only [UInt8.toNat_ofNat']
 omega
theorem wl (o:List UInt8):(⟨#[45]⟩:ByteArray)++⟨o.toArray⟩=⟨(45 :: o).toArray⟩:=by
 apply ByteArray.ext
 simp [ByteArray.data_append]
structure uT (w:World) (V m:Nat) (o:List UInt8) (O:Option Addr) (no co:Nat) (B:Option Addr) (nb cb:Nat) (wr:World):Prop where
 ow:aP 5 .u8 wr w.heap.size O no co (o.map UInt8.toNat)
 b:bg wr B nb cb (ai m)
 t:DSt V m o
 K:K0 w wr
theorem uT.next {w wr w4 w6:World} {V m:Nat} {o:List UInt8} {O O2:Option Addr} {no co no2 co2:Nat} {B Q:Option Addr} {nb cb nq cq:Nat} (h:uT w V m o O no co B nb cb wr) (hm:0<m) (k4:K0 wr w4) (k6:K0 w4 w6)
 (q:aP 5 .u8 w4 w4.heap.size Q nq cq (ai (m / 10))\/bg w4 Q nq cq (ai (m / 10))) (hq:nq<=10000000) (oo:aP 5 .u8 w6 w4.heap.size O2 no2 co2 ((48+m % 10) :: o.map UInt8.toNat)):uT w V (m / 10) (UInt8.ofNat (48+m % 10) :: o) O2 no2 co2 Q nq cq w6:=by
 refine ⟨?_,?_,h.t.next hm,h.K.trans (k4.trans k6)⟩
 ·rw [List.map_cons,uI (Nat.mod_lt _ (by omega))]
  exact oo.mono (Nat.le_trans h.K.size k4.size)
 ·rcases q with q | q
  ·exact (q.toBits (aw aT _) hq).keep0 k6
  ·exact q.keep0 k6
theorem qn (x:Int) (z:Bool) (A:Option Addr) (n c:Nat) (w:World) (hz:z=decide (x<0)) (h:bg w A n c (ai x.natAbs)) (hV:x.natAbs<BB ^ 60) (hm:n<=10000) :
 Calls Tryz.prog 51 #[al z A n c] w (ax (itoa x) w):=by
 have K:K0 w (w.alloc (.cells #[.bool z,.slice A n c] 90)):=kR.alloc _
 have hb:(w.alloc (.cells #[.bool z,.slice A n c] 90)).heap[w.heap.size]? = some (.cells #[.bool z,.slice A n c] 90 (0,0)):=hN w _
 have HL:=hid (h.keep0 K)
 have HK:=hid K
 have HDL:=hid (iX hV (by omega))
 by_cases h0:n=0
 ·have hx:x=0:=by
   have:=h.len
   have h2:=ez aT (List.eq_nil_of_length_eq_zero (by rw [this];exact h0):ai x.natAbs=[])
   omega
  subst h0 hx
  clear hz h hb K hV
  go_enter Tryz.func51,Tryz.ntmps51
  go_wp2_with fail
  go_ret
  exact ⟨by rw [show itoa 0=[48] from by unfold itoa;rw [if_neg (by omega)];exact dM (by decide)];rfl,HK.out⟩
 ·have hn0:0<n:=by omega
  have hxp:0<x.natAbs:=by
   rcases Nat.eq_zero_or_pos x.natAbs with e | e
   ·have:=h.len
    rw [e] at this
    unfold ai at this
    rw [bi] at this
    simp at this
    omega
   ·exact e
  have HZ:=hid hz
  have HXP:=hid hxp
  have HBX:=hid hb
  obtain ⟨V,hVV⟩:∃ V,V=x.natAbs:=⟨_,rfl⟩
  rw [<- hVV] at HL HDL
  have HVE:=hid hVV
  have hne:((n:Int) == 0)=false:=by rw [bF];omega
  clear hz h hb K hV hxp hVV
  go_enter Tryz.func51,Tryz.ntmps51
  go_wp2_with fail
  have HI:=hid (show uT w V V [] none 0 0 A n c (w.alloc (.cells #[.bool z,.slice A n c] 90)) from ⟨aP.nil _ _ _ _,HL.out,.inr ⟨by rw [HVE.out];exact HXP.out,by simp⟩,HK.out⟩)
  have HBX2:=hid (fun (w':World) (K':K0 (w.alloc (.cells #[.bool z,.slice A n c] 90)) w')=>(show w'.cell? ⟨w.heap.size,0,none⟩=some (.bool z) from by rw [cell_of_row w' _ _ _ _ _ (K'.heap HBX.out (by simp))];rfl))
  clear hne
  generalize w.heap.size=B0 at HBX2 ⊢
  clear HBX
  generalize w.alloc (.cells #[.bool z,.slice A n c] 90)=w1 at HI HBX2 ⊢
  go_loopw [3,4,5,6,7] (fun ov bv _ _ _ wr=>∃ (m:Nat) (o:List UInt8) (O:Option Addr) (no co:Nat) (B:Option Addr) (nb cb:Nat),ov=.slice O no co/\bv=.slice B nb cb/\nb<=10000/\uT w V m o O no co B nb cb wr/\K0 w1 wr) (fun _ bv _ _ _ _=>yw bv)
  case atStart=>exact ⟨V,[],none,0,0,A,n,c,rfl,rfl,hm,HI.out,kR⟩
  case round=>
   obtain ⟨m,o,O,no,co,B,nb,cb,rfl,rfl,hnb,st,kk⟩:=hrel
   have HS:=hid st
   have HKK:=hid kk
   have hol:no<=288001:=by
    have h1:=st.t.le
    have h2:=st.ow.len
    rw [List.length_map] at h2
    have:=HDL.out
    omega
   clear st kk
   by_cases hb0:nb=0
   ·subst hb0
    have hm0:m=0:=ez aT (List.eq_nil_of_length_eq_zero (by rw [HS.out.b.len]):ai m=[])
    have ht:decDigits V=o:=by
     rcases HS.out.t with ⟨_,h⟩ | ⟨h,_⟩
     ·exact h
     ·omega
    have hnol:no=o.length:=by have:=HS.out.ow.len;rw [List.length_map] at this;exact this.symm
    have hop:0<no:=by rw [hnol,<- ht];exact wb V
    obtain ⟨g,cg,eg,_,_⟩:=World.ownsRow.form HS.out.ow hop
    injection eg with eg _ ec
    subst eg ec
    have hcv:=run_convert_bytes_back (P:=Tryz.prog) wr 70 9 5 ⟨g,0,none⟩ co o Tryz.underlying70 Tryz.underlying5 Tryz.underlying9 (fun j hj=>HS.out.ow.row.news j (.int .u8 (o[j].toNat:Int)) (by simp [gE hj]))
    rw [<- hnol] at hcv
    have HT:=hid ht
    have c0:=HBX2.out _ HKK.out
    have HK9:=hid HS.out.K
    have hol3:¬ (9223372036854775807<1+o.length):=by omega
    clear ht hm0 hnol hop
    cases z with
    | false=>
     have HIT:=hid (show itoa x=o from by
      unfold itoa
      have:=HZ.out
      simp at this
      rw [if_neg (by omega),<- HT.out,HVE.out]
      congr 1
      omega)
     go_wp2_with fail
     go_ret
     exact ⟨by rw [HIT.out];rfl,HK9.out⟩
    | true=>
     have HIT:=hid (show itoa x=45 :: o from by
      unfold itoa
      have:=HZ.out
      simp at this
      rw [if_pos (by omega),<- HT.out,HVE.out])
     go_wp2_with fail
     go_ret
     exact ⟨by rw [HIT.out,<- wl];rfl,HK9.out⟩
   ·have hbp:(0:Int)<(nb:Int):=by omega
    have hmp:0<m:=by
     rcases Nat.eq_zero_or_pos m with e | e
     ·have:=HS.out.b.len
      rw [e] at this
      unfold ai at this
      rw [bi] at this
      simp at this
      omega
     ·exact e
    have HMP:=hid hmp
    have hld:=ru hmp
    rw [HS.out.b.len] at hld
    have HLD:=hid hld
    clear hmp hld hb0
    go_wp2_with fail
    refine (d8 10 wr (by omega)).mono ?_
    rintro e w2 ⟨T,nt,ct,rfl,ot,k2⟩
    have hnt:nt<=1000000:=by
     rw [<- ot.len]
     exact Nat.le_trans ((aM aT 10 4).2 (by decide)) (by omega)
    have HPA:=hid (re m 10 B nb cb T nt ct w2 (HS.out.b.keep0 k2) (ot.toBits (aw aT _) (by omega)) (by omega) (by omega) hnt)
    have HK2:=hid k2
    clear ot k2
    try dsimp only
    go_wp2_with fail
    refine HPA.out.mono ?_
    rintro e w4 ⟨Q,nq,cq,R,nr,cr,rfl,oq,orr,k4⟩
    have hnq:nq<nb:=by rw [<- oq.len];exact HLD.out
    have HRB:=hid (orr.toBits (aw aT _) (by rw [<- orr.len];exact Nat.le_trans ((aM aT _ 4).2 (by have:=Nat.mod_lt m (show 0<10 by omega);omega)) (by omega)))
    have HQB:=hid (oq.toBits (aw aT _) (by omega))
    have HK4:=hid (HK2.out.trans k4)
    have hfb:=rB (Nat.mod_lt m (show 0<10 by omega))
    have l0:=ck (aw aT (m % 10)) 0
    have l1:=ck (aw aT (m % 10)) 1
    have l2:=ck (aw aT (m % 10)) 2
    have l3:=ck (aw aT (m % 10)) 3
    have B0:=hid (show Calls Tryz.prog 83 #[.slice R nr cr,.int .i64 0] w4 _ from fk R nr cr (ai (m % 10)) 0 w4 HRB.out)
    have B1:=hid (show Calls Tryz.prog 83 #[.slice R nr cr,.int .i64 1] w4 _ from fk R nr cr (ai (m % 10)) 1 w4 HRB.out)
    have B2:=hid (show Calls Tryz.prog 83 #[.slice R nr cr,.int .i64 2] w4 _ from fk R nr cr (ai (m % 10)) 2 w4 HRB.out)
    have B3:=hid (show Calls Tryz.prog 83 #[.slice R nr cr,.int .i64 3] w4 _ from fk R nr cr (ai (m % 10)) 3 w4 HRB.out)
    obtain ⟨x0,hx0⟩:∃ y,y=(ai (m % 10)).getD 0 0:=⟨_,rfl⟩
    obtain ⟨x1,hx1⟩:∃ y,y=(ai (m % 10)).getD 1 0:=⟨_,rfl⟩
    obtain ⟨x2,hx2⟩:∃ y,y=(ai (m % 10)).getD 2 0:=⟨_,rfl⟩
    obtain ⟨x3,hx3⟩:∃ y,y=(ai (m % 10)).getD 3 0:=⟨_,rfl⟩
    unfold ai at hx0 hx1 hx2 hx3 hfb B0 B1 B2 B3
    rw [<- hx0] at hfb l0 B0
    rw [<- hx1] at hfb l1 B1
    rw [<- hx2] at hfb l2 B2
    rw [<- hx3] at hfb l3 B3
    obtain ⟨dg,hdg⟩:∃ d,d=48+m % 10:=⟨_,rfl⟩
    have hdv:(48:Int)+((x0:Int)+2 * (x1:Int)+4 * (x2:Int)+8 * (x3:Int))=(dg:Int):=by omega
    have hdl:dg<=57:=by omega
    have HDG:=hid hdg
    have KA:K0 w4 (w4.alloc (.cells #[.int .u8 (dg:Int)] 5)):=kR.alloc _
    have HKA:=hid KA
    have HONE:=hid (gK w4 (dg:Int))
    have HRO:=hid (HS.out.ow.keep0 (HK4.out.trans KA))
    clear hx0 hx1 hx2 hx3 hfb hdg oq orr k4 HPA KA
    try dsimp only
    go_wp2_with fail
    refine B0.out.mono ?_
    rintro e w5 ⟨rfl,rfl⟩
    try dsimp only
    go_wp2_with fail
    refine B1.out.mono ?_
    rintro e w5 ⟨rfl,rfl⟩
    try dsimp only
    go_wp2_with fail
    refine B2.out.mono ?_
    rintro e w5 ⟨rfl,rfl⟩
    try dsimp only
    go_wp2_with fail
    refine B3.out.mono ?_
    rintro e w5 ⟨rfl,rfl⟩
    clear B0 B1 B2 B3
    rcases O with _ | ad
    ·have hno:no=0:=by
      rcases Nat.eq_zero_or_pos no with e | e
      ·exact e
      ·obtain ⟨_,_,e2,_⟩:=HRO.out.row.2 0 e
       cases e2
     have hoo:o=[]:=by
      have:=HRO.out.len
      rw [List.length_map] at this
      exact List.eq_nil_of_length_eq_zero (by omega)
     subst hno hoo
     have HN:=hid (HS.out.next HMP.out HK4.out HKA.out (.inr HQB.out) (by omega) (show aP 5 .u8 _ w4.heap.size (some ⟨w4.heap.size,0,none⟩) 1 1 ((48+m % 10) :: []) from by rw [<- HDG.out];exact HONE.out))
     have HK9:=hid (HKK.out.trans (HK4.out.trans HKA.out))
     clear HONE HRO HQB HRB
     try dsimp only
     go_wp2_with fail
     go_roundw
     case rel=>exact ⟨m / 10,_,_,_,_,_,_,_,rfl,rfl,by omega,HN.out,HK9.out⟩
     case measure=>exact hnq
    ·obtain ⟨i5,h5,hz0,hz1,hz2⟩:=info_parts d7
     have HRR:=hid HRO.out.row
     have HRL:=hid HRO.out.len
     obtain ⟨ol,hol2⟩:∃ l,l=o.map UInt8.toNat:=⟨_,rfl⟩
     rw [<- hol2] at HRR HRL
     have HOL:=hid hol2
     clear HRO hol2
     try dsimp only
     go_wp2_with (at_builtin;refine wpList_append_own _ rfl (.tmp 40) (.tmp 41) 70 rfl w4.heap.size 5 i5 (.int .u8 0) 1 1 Tryz.underlying70 h5 hz0 hz1 hz2 rfl (by decide) _ _ _ rfl HONE.out ad no co (ol.map fun x:Nat=>Value.int .u8 (x:Int)) rfl (by rw [List.length_map,HRL.out,Nat.mul_one]) HRR.out.news ?a1 ?a2 ?a3 ?a4 ?_)
     case a1=>
      intro u hu
      obtain ⟨y,_,rfl⟩:=List.mem_map.1 hu
      rfl
     case a2=>unfold maxLen;omega
     case a3=>omega
     case a4=>simp
     intro v' w6 hown hgrow _
     have hown2:w6.ownsRow w4.heap.size 5 1 v' (1+no) ((dg :: ol).map fun x:Nat=>Value.int .u8 (x:Int)):=hown
     obtain ⟨R2,c2,rfl,o6⟩:=cj hown2
     have K6:=(HKA.out.into (ah.of_grown hgrow) (fun i hi=>Nat.le_of_eq (by simpa [Value.ownBlock] using hi.symm)))
     have HN:=hid (HS.out.next HMP.out HK4.out K6 (.inr HQB.out) (by omega) (by rw [<- HDG.out,<- HOL.out];exact o6))
     have HK9:=hid (HKK.out.trans (HK4.out.trans K6))
     clear hown hown2 hgrow o6 HONE HRR HRL HQB HRB K6
     go_wp2_with fail
     go_roundw
     case rel=>exact ⟨m / 10,_,_,_,_,_,_,_,rfl,rfl,by omega,HN.out,HK9.out⟩
     case measure=>exact hnq
end Go.Proofs.YtonnikipeokkaaaGreatDoor
