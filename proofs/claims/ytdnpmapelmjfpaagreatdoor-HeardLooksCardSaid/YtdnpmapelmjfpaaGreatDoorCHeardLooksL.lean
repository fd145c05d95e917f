/- hustingslaw24.HeardLooks returns true for every input, and every argument reads behind the call as it read before; the listed variables are tied to the program's text. No condition of ours. -/
import Derived.Test.YtdnpmapelmjfpaaGreatDoorLhq
import Derived.Test.YtdnpmapelmjfpaaGreatDoorLkc
import Derived.Test.YtdnpmapelmjfpaaGreatDoorLkb
import Derived.Test.YtdnpmapelmjfpaaGreatDoorCards
import Derived.Test.YtdnpmapelmjfpaaGreatDoorTie
import Derived.LaidHandle
import Derived.LaidLaws
import Derived.Deep.DeepHandedRow
import Derived.Stop.LaidTwo
import Derived.LaidSub
set_option maxHeartbeats 40000000
set_option linter.unusedVariables false
set_option linter.unusedSimpArgs false
set_option maxRecDepth 100000
namespace Go.Proofs.YtdnpmapelmjfpaaGreatDoor
open Go.ChangeShapes Go.WideShapes Go.ChangeAt Go.RowKit
theorem zDg:ownKnob Tryz.prog.godebug=none:=by kernel_rfl
theorem zGw:Tryz.prog.globalNamed "errors.errorType" =some 3:=by kernel_rfl
theorem zFf:((List.range Tryz.prog.types.size).filter fun t=>Tryz.prog.rowNamed t [101,114,114,111,114])=[124]:=by kernel_rfl
def zp3:List (String×DataW Unit):=[("errors.errorType",Rows.laid_errors_errorType),("hustings/head.bits",Rows.laid_hustings_head_bits),("hustings/heard.errBad",Rows.laid_hustings_heard_errBad),("hustings/heard.errPass",Rows.laid_hustings_heard_errPass)]
theorem zF6 {W:World} (h:laidMetH Tryz.prog zp3 W):Laid W:=by
 have h':laidMet Tryz.prog [("hustings/head.bits",Rows.laid_hustings_head_bits),("hustings/heard.errBad",Rows.laid_hustings_heard_errBad),("hustings/heard.errPass",Rows.laid_hustings_heard_errPass)] W∧handlesMet Tryz.prog [("errors.errorType",Rows.laid_errors_errorType)] W:=h
 obtain⟨name,u,ty,e1,e2,e3,e4,e5⟩:=h'.2 _ (List.mem_singleton.2 rfl)
 have en:name=[101,114,114,111,114]:=(Option.some.inj e1).symm
 subst en;obtain rfl:u=286:=Option.some.inj (e2.symm.trans (by kernel_rfl))
 have hm:ty∈(List.range Tryz.prog.types.size).filter fun t=>Tryz.prog.rowNamed t [101,114,114,111,114]:=List.mem_filter.2 ⟨List.mem_range.2 e3,e4⟩
 rw[zFf]at hm;obtain rfl:=List.mem_singleton.1 hm
 have hh:typeHandle Tryz.prog 124=hdl 124:=by kernel_rfl
 rw[hh]at e5;show W.cell? ⟨3,0,none⟩=_
 simpa using World.var?_cell zGw e5 0
theorem zw4:Tryz.prog.globalNamed "hustings/head.bits" =some 2:=by kernel_rfl
theorem zDe {l:List Value} {i:Nat} {v:Value} (h:(l.drop i).take 1=[v]):l[i]? =some v:=by
 have h1:=congrArg (fun x:List Value=>x[0]?) h
 simpa using h1
def zke:List Int:=[32768,1024,512,256,128,64,32,16]
theorem zuz {W:World} (h:laidMetH Tryz.prog zp3 W):BitsAt W:=by
 have h':laidMet Tryz.prog [("hustings/head.bits",Rows.laid_hustings_head_bits),("hustings/heard.errBad",Rows.laid_hustings_heard_errBad),("hustings/heard.errPass",Rows.laid_hustings_heard_errPass)] W∧handlesMet Tryz.prog [("errors.errorType",Rows.laid_errors_errorType)] W:=h
 obtain⟨ps,IW,_,_⟩:=h'.1
 obtain⟨g,t,cs,fuel,p,q,e1,e2,e3,e4,_,_⟩:=IW
 obtain rfl:2=g:=Option.some.inj (zw4.symm.trans e1)
 obtain rfl:223=t:=Option.some.inj ((show(Tryz.prog.globals[2]?).map (·.type)=some 223 by kernel_rfl).symm.trans e2)
 obtain⟨xs,n,_,hd,_,aq,hf⟩:=DataW.trod_array Tryz.underlying223 e4
 have fB:=(Prod.mk.inj hd).1
 have key:∀i,i<8→cs.toList[i]? =some (.int .u16 (zke.getD i 0)):=fun i hi=>by
  have hx:(xs.map (·.1))[i]? =some (.lit (.int .u16 (zke.getD i 0))):=by
   have h1:xs.map (·.1)=zke.map fun k=>(.lit (.int .u16 k):DataW Unit):=by
    injection fB with h1
    exact h1.symm
   rw[h1,List.getElem?_map,Z3 (show i<zke.length from hi)]
   simp[List.getD,Z3 (show i<zke.length from hi)]
  rw[List.getElem?_map]at hx;obtain⟨y,jA,gS⟩:=Option.map_eq_some_iff.1 hx
  have h2:=(hf i hi).trans jA
  rw[show Tryz.prog.cellsOf 26=1 by kernel_rfl,Nat.mul_one]at h2
  obtain⟨m,g1,g2,_⟩:=DataW.trod_int Tryz.underlying26 h2
  rw[g2]at gS;have hm:m=zke.getD i 0:=by
   injection gS with gS
   injection gS
  rw[←hm];exact zDe g1
 have key2:∀i,i<8→W.cell? ⟨2,i,none⟩=some (.int .u16 (zke.getD i 0)):=fun i hi=>by
  rw[World.var?_cell zw4 e3 i];simpa using key i hi
 exact⟨key2 0 (by omega),key2 1 (by omega),key2 2 (by omega),key2 3 (by omega),key2 4 (by omega),key2 5 (by omega),key2 6 (by omega),key2 7 (by omega)⟩
theorem zzi:Tryz.prog.globalNamed "hustings/heard.errBad" =some 0:=by kernel_rfl
theorem zwp:Tryz.prog.globalNamed "hustings/heard.errPass" =some 1:=by kernel_rfl
theorem zC8:(Tryz.prog.globals[0]?).map (·.type)=some 124:=by kernel_rfl
theorem zAu:(Tryz.prog.globals[1]?).map (·.type)=some 124:=by kernel_rfl
theorem zCt:Tryz.prog.cellsOf 385=1:=by kernel_rfl
theorem zBp:Tryz.prog.cellsOf 9=1:=by kernel_rfl
theorem zwe: "*" ++ "errors.errorString" = "*errors.errorString" :=by decide
theorem zG6 (u:TypeId) (h:Tryz.prog.typeName? 3 u=some "*errors.errorString"):u=366:=
 typeName_ptr_named (nm:= "errors.errorString") (by rw[zwe];kernel_rfl) (by kernel_rfl) (by decide) u (by rw[zwe];exact h)
theorem zEz {W:World} (h:laidMetH Tryz.prog zp3 W):∃a b,ErrsAt W a b:=by
 have h':laidMet Tryz.prog [("hustings/head.bits",Rows.laid_hustings_head_bits),("hustings/heard.errBad",Rows.laid_hustings_heard_errBad),("hustings/heard.errPass",Rows.laid_hustings_heard_errPass)] W∧handlesMet Tryz.prog [("errors.errorType",Rows.laid_errors_errorType)] W:=h
 have h2:laidMet Tryz.prog [("hustings/heard.errBad",Rows.laid_hustings_heard_errBad),("hustings/heard.errPass",Rows.laid_hustings_heard_errPass)] W:=h'.1.filter (fun x=>x.1 != "hustings/head.bits")
 obtain⟨a0,a1,s0,s1,c0,c1,t0,t1,IX,ku,_,_,_,_,_,_,au,gL,cQ⟩:=laid_sentinels2 h2 zzi zC8 zwp zAu Tryz.underlying124 zG6 Tryz.underlying366 Tryz.underlying385 rfl rfl Tryz.underlying9 zCt zBp
 exact⟨a0,a1,by simpa using World.var?_cell zzi IX 0,by simpa using World.var?_cell zwp ku 0,⟨_,_,gL⟩,⟨_,_,cQ⟩,au⟩
abbrev badS:ByteArray:={data:= #[116,104,101,32,114,101,112,108,121,32,105,115,32,98,97,100]}
abbrev zH2:ByteArray:={data:= #[116,104,101,32,114,101,112,108,121,32,105,115,32,97,32,112,97,115,115]}
noncomputable def zEc:Nat:=(World.holding Tryz.prog default ⟨#[],#[],[]⟩).heap.size
noncomputable def zlx (os:Os):World:=
 let w0:=World.holding Tryz.prog os ⟨#[.cells #[.string badS] 385,.cells #[.string zH2] 385],#[],[]⟩
 {w0 with heap:=(((w0.heap.modify 3 fun
  | .cells _ t frozen=>.cells #[zms] t frozen
  |o=>o).modify 2 fun
  | .cells _ t frozen=>.cells #[.int .u16 32768,.int .u16 1024,.int .u16 512,.int .u16 256,.int .u16 128,.int .u16 64,.int .u16 32,.int .u16 16] t frozen
  |o=>o).modify 0 fun
  | .cells _ t frozen=>.cells #[.iface 366 (.pointer (some ⟨zEc,0,none⟩))] t frozen
  |o=>o).modify 1 fun
  | .cells _ t frozen=>.cells #[.iface 366 (.pointer (some ⟨zEc+1,0,none⟩))] t frozen
  |o=>o}
theorem zD3 (os:Os) (args:Array Value):laidMetH Tryz.prog zp3 ((zlx os).forCall (fun _ _=>0) ⟨#[],args,[]⟩).memory:=
 laidMetH_of_parts (laidMet_of_run' 8 (by kernel_rfl) (by kernel_rfl)) (by kernel_rfl)
section
variable {H : Type} {enc : TypeId × Value → H} {P : Program}
theorem zlg (hl:laidOutB P=true) {W W':World} (hb:Below W.heap.size W W') {sp:Nat→Bool}:∀{ts:List TypeId} {vs:List Value} {ds:List (DataW H)} {ps:List MemPlace},
 (∀t∈ts,P.readableRec t=true∧t<P.types.size)→DataW.TrodAll enc P W 0 (fun _=>true) true ts vs ds ps→(∀x∈ps,x.block<W.heap.size)→(∀x∈ps,sp x.block=true)→DataW.TrodAll enc P W' 0 sp true ts vs ds ps
 |[],_,_,_,_,h,_,_=>by obtain⟨rfl,rfl,rfl⟩:=trodAll_nil h;exact trodAll_mk0
 |t::ts,_,_,_,ht,h,ab,hs=>by
  obtain⟨v,vs,d,ds,p,q,rfl,rfl,rfl,h0,h1⟩:=trodAll_cons h
  have h2:=ht t (by simp)
  exact trodAll_cons_mk (WideElems.Trod_stays hl h2.1 h2.2 h0 (fun x hx=>hb.same (ab x (by simp[hx]))) (fun x hx=>hs x (by simp[hx])))
   (zlg hl hb (fun t IY=>ht t (by simp[IY])) h1 (fun x hx=>ab x (by simp[hx])) (fun x hx=>hs x (by simp[hx])))
theorem zs4 {f:Func} {s:ChangeSpec} {apart fresh handsOn again:Bool} {W W':World} {args:Array Value} {v:Value} {ds gs:List (DataW H)} {before pa pv:List MemPlace}
 (hW:DataW.Whole enc P f.params.toList s.vars apart W args.toList ds gs before)
 (kL:∀(b:Nat) (sp:Nat→Bool) (hd:Bool),DataW.TrodAll enc P W' b sp hd f.resultTypes.toList (v.resultList f.resultTypes.size) (s.fn H (ds++gs)).results [])
 (qa:∀sp:Nat→Bool,(∀p∈before,sp p.block=true)→DataW.TrodAll enc P W' 0 sp true f.params.toList args.toList (s.fn H (ds++gs)).args pa)
 (qe:∀sp:Nat→Bool,(∀p∈before,sp p.block=true)→DataW.TrodVars enc P W' sp s.vars (s.fn H (ds++gs)).vars pv)
 (bA:before=pa++pv) (hb:Below W.heap.size W W')
 (bB:∀(j:Nat) (t:TypeId) (r:Value),f.resultTypes[j]? =some t→(v.resultList f.resultTypes.size)[j]? =some r→Value.okWide P W' .any 0 t r):
 s.post enc P f apart fresh handsOn again W args v W':=by
 have ab:∀p∈before,p.block<W.heap.size:=fun p hp=>hW.lt p hp
 have my:∀p∈before,(fun b=>decide (b<W.heap.size)) p.block=true:=fun p hp=>by simpa using ab p hp
 refine⟨ds,gs,before,[],pa,pv,hW,kL _ _ _,qa _ my,qe _ my,World.keptBut_mono (fun p hp=>⟨hp,?_⟩) (hb.frame (·∈before)),fun _=>?_⟩
 ·rw[bA,List.mem_append]at hp;exact Or.inr hp
 ·obtain⟨_,_,_,_,_,hz,hn⟩:=hW
  refine⟨bB,_,_,([]++pa)++pv,⟨[]++pa,pv,trodAll_append (qa _ (fun _ _=>rfl)) (kL _ _ _),qe _ (fun _ _=>rfl),rfl,?_,?_⟩,?_⟩
  ·intro b off hp;have mu:MemPlace.cell b off∈before:=by rw[bA];simpa using hp
   rw[hb.frozen (ab _ mu)];exact hz b off mu
  ·intro ha;have:=hn ha
   rw[bA]at this;simpa using this
  ·intro p hp _;rw[bA];simpa using hp
theorem zAw {f:Func} {s:ChangeSpec} {apart fresh handsOn again:Bool} {W W':World} {args:Array Value} {ds gs:List (DataW H)} {before:List MemPlace} {t:TypeId}
 (hl:laidOutB P=true) (Ex:s.vars=[]) (hr:f.resultTypes= #[t]) (ht:P.underlying t=some .bool)
 (hp:∀t∈f.params.toList,P.readableRec t=true∧t<P.types.size)
 (hW:DataW.Whole enc P f.params.toList s.vars apart W args.toList ds gs before)
 (tG:s.fn H ds={results:=[.lit (.bool true)],args:=ds}) (hb:Ext W W'):
 s.post enc P f apart fresh handsOn again W args (.bool true) W':=by
 have yY:=hW
 obtain⟨p,q,hA,hV,rfl,_,_⟩:=hW
 rw[Ex]at hV;obtain⟨rfl,rfl⟩:=trodVars_none hV
 have ab:∀x∈p,x.block<W.heap.size:=fun x hx=>by simpa using yY.lt x (by simp[hx])
 refine zs4 (pa:=p) (pv:=[]) yY (fun _ _ _=>?_) (fun sp hs=>?_) (fun _ _=>?_) rfl hb (ok_one hr rfl (okWide_bool_mk ht _))
 ·rw[List.append_nil,tG,hr];exact trodAll_mk1 (shut_bool ht true)
 ·rw[List.append_nil,tG];exact zlg hl hb hp hA ab (fun x hx=>hs x (by simp[hx]))
 ·rw[List.append_nil,tG,Ex];rfl
end
theorem zD4:laidOutB Tryz.prog=true:=by kernel_rfl
end Go.Proofs.YtdnpmapelmjfpaaGreatDoor
namespace Go.Proofs.YtdnpmapelmjfpaaGreatDoor
open Go.RowKit
theorem zBb (c e:Nat) (w:World) (hc:c≤255) (he:e≤255):
 Calls Tryz.prog 121 #[.int .u8 (c:Int),.int .u8 (e:Int)] w fun en w'=>en=.returned (.int .i64 ((16*e+c%16:Nat):Int))∧Ext w w':=by
 have h1:IntKind.i64.wrap (16*(e:Int))=16*(e:Int):=IntWalk.i64_in _ (by omega)
 have h2:IntKind.i64.wrap (e:Int)=(e:Int):=IntWalk.i64_in _ (by omega)
 have h3:IntKind.i64.wrap ((c:Int)%16)=(c:Int)%16:=IntWalk.i64_in _ (by omega)
 have h4:IntKind.i64.wrap (16*(e:Int)+(c:Int)%16)=16*(e:Int)+(c:Int)%16:=IntWalk.i64_in _ (by omega)
 go_enter Tryz.func121,Tryz.ntmps121;go_wp2_with fail;go_ret;refine⟨?_,Z5 _⟩
 push_cast
 rfl
theorem zyj (m:MsgD) (q a u x o:Value) (w:World) (h1:0≤m.hd.code∧m.hd.code≤255) (h2:0≤m.ed.ext∧m.ed.ext≤255):
 Calls Tryz.prog 61 #[zfd m.hd q a u x m.he m.ed o] w fun en w'=>en=.returned (.int .i64 (16*m.ed.ext+m.hd.code%16))∧Ext w w':=by
 obtain⟨c,hc⟩:∃c:Nat,m.hd.code=(c:Int):=⟨m.hd.code.toNat,by omega⟩
 obtain⟨e,he⟩:∃e:Nat,m.ed.ext=(e:Int):=⟨m.ed.ext.toNat,by omega⟩
 have HC:=Z7 (fun V=>zBb c e V (by omega) (by omega))
 have HE:=Z7 (show(16*m.ed.ext+m.hd.code%16)=((16*e+c%16:Nat):Int)by rw[hc,he];push_cast;rfl)
 have Kk:=Z7 hc
 have Kl:=Z7 he
 obtain⟨X0,ar⟩:∃X0,X0=w.alloc (.cells #[.int .u16 m.hd.id,.bool m.hd.qr,.int .u8 m.hd.op,.bool m.hd.aa,.bool m.hd.tc,.bool m.hd.rd,.bool m.hd.ra,.bool m.hd.z,.bool m.hd.ad,.bool m.hd.cd,.int .u8 m.hd.code,q,a,u,x,.bool m.he,.int .u16 m.ed.size,.int .u8 m.ed.ext,.int .u8 m.ed.ver,.int .u16 m.ed.flags,o] 45):=⟨_,rfl⟩
 have aD:Ext w X0:=by rw[ar];exact(Z5 _).alloc _
 have r1:X0.heap[w.heap.size]? =some (.cells #[.int .u16 m.hd.id,.bool m.hd.qr,.int .u8 m.hd.op,.bool m.hd.aa,.bool m.hd.tc,.bool m.hd.rd,.bool m.hd.ra,.bool m.hd.z,.bool m.hd.ad,.bool m.hd.cd,.int .u8 m.hd.code,q,a,u,x,.bool m.he,.int .u16 m.ed.size,.int .u8 m.ed.ext,.int .u8 m.ed.ver,.int .u16 m.ed.flags,o] 45):=by rw[ar];exact heap_alloc_new _ _
 have k10:X0.cell? ⟨w.heap.size,10,none⟩=some (.int .u8 (c:Int)):=(za0 (j:=10) r1 rfl).trans (by rw[←hc];rfl)
 have k17:X0.cell? ⟨w.heap.size,17,none⟩=some (.int .u8 (e:Int)):=(za0 (j:=17) r1 rfl).trans (by rw[←he];rfl)
 clear hc he h1 h2 r1;go_enter Tryz.func61,Tryz.ntmps61;go_upto_region 1 with fail
 rw[←ar];clear ar;go_wp2_with fail;refine(HC.out _).mono ?_;rintro en w1 ⟨rfl,ae⟩;go_wp2_with fail;go_ret;exact⟨by rw[HE.out];rfl,aD.trans ae⟩
theorem zvc (xn:List UInt8) (xt xc:Int) (n:List UInt8) (ty cls:Int) (w:World) (hx:xn.length≤1048576) (hn:n.length≤1048576):
 Calls Tryz.prog 60 #[.agg #[S xn,.int .u16 xt,.int .u16 xc],.agg #[S n,.int .u16 ty,.int .u16 cls]] w fun e w'=>e=.returned (.bool (sameN xn n&&(decide (xt=ty)&&decide (xc=cls))))∧Ext w w':=by
 obtain⟨X1,aV⟩:∃X1,X1=w.alloc (.cells #[S xn,.int .u16 xt,.int .u16 xc] 32):=⟨_,rfl⟩
 obtain⟨X0,ar⟩:∃X0,X0=X1.alloc (.cells #[S n,.int .u16 ty,.int .u16 cls] 32):=⟨_,rfl⟩
 obtain⟨g1,bh⟩:∃g1,g1=X1.heap.size:=⟨_,rfl⟩
 have r1:X1.heap[w.heap.size]? =some (.cells #[S xn,.int .u16 xt,.int .u16 xc] 32):=by rw[aV];exact heap_alloc_new _ _
 have r0:X0.heap[g1]? =some (.cells #[S n,.int .u16 ty,.int .u16 cls] 32):=by rw[ar,bh];exact heap_alloc_new _ _
 have a7:Ext X1 X0:=by rw[ar];exact(Z5 _).alloc _
 have aD:Ext w X0:=Ext.trans (by rw[aV];exact(Z5 _).alloc _) a7
 have r10:=Z8 a7 r1
 have bH:w.heap.size+1=g1:=by rw[bh,aV];simp
 have kG:=Z7 bH
 have yS:=Z7 (fun V=>zl4 xn n V hx hn)
 clear bH;go_enter Tryz.func60,Tryz.ntmps60;go_upto_region 1 with fail
 rw[←aV,←ar];have e1:(w.heap.size+1)=g1:=kG.out
 try rw[e1]
 try rw[←bh]
 clear e1 aV ar bh a7;have p0:=za0 (j:=0) r10 rfl
 have y0:=za0 (j:=0) r0 rfl
 obtain⟨sm,dR⟩:∃sm,sm=sameN xn n:=⟨_,rfl⟩
 have oQ:=Z7 dR
 rw[←dR]at yS;clear dR;go_wp2_with fail;refine(yS.out _).mono ?_;rintro e w1 ⟨rfl,ae⟩;clear y0 p0;have r03:=Z8 ae r0
 have r3:=Z8 ae r10
 have y1:=za0 (j:=1) r03 rfl
 have y2:=za0 (j:=2) r03 rfl
 have p1:=za0 (j:=1) r3 rfl
 have p2:=za0 (j:=2) r3 rfl
 have dB:Ext w w1:=aD.trans ae
 rcases sm with _|_
 ·go_wp2_with fail;go_ret;exact⟨by rw[←oQ.out];rfl,dB⟩
 by_cases ht:xt=ty
 ·have oz:(xt==ty)=true:=by rw[ht];exact beq_self_eq_true _
  by_cases hc:xc=cls
  ·have cD:(xc==cls)=true:=by rw[hc];exact beq_self_eq_true _
   have mi:=Z7 (show(sameN xn n&&(decide (xt=ty)&&decide (xc=cls)))=true from by rw[←oQ.out,decide_eq_true ht,decide_eq_true hc];rfl)
   clear ht hc;go_wp2_with fail;go_ret;exact⟨by rw[mi.out];rfl,dB⟩
  ·have cD:(xc==cls)=false:=by rw[beq_eq_false_iff_ne];exact hc
   have mi:=Z7 (show(sameN xn n&&(decide (xt=ty)&&decide (xc=cls)))=false from by rw[←oQ.out,decide_eq_false hc];cases decide (xt=ty)<;>rfl)
   clear ht hc;go_wp2_with fail;go_ret;exact⟨by rw[mi.out];rfl,dB⟩
 ·have oz:(xt==ty)=false:=by rw[beq_eq_false_iff_ne];exact ht
  have mi:=Z7 (show(sameN xn n&&(decide (xt=ty)&&decide (xc=cls)))=false from by rw[←oQ.out,decide_eq_false ht];rfl)
  clear ht;go_wp2_with fail;go_ret;exact⟨by rw[mi.out];rfl,dB⟩
theorem zvd (c:Int) (sets soa:List SetD) (sA sB oA oB:Option Addr) (sn sm on om sc sd oc od:Nat) (w:World) (h1:Sets w 0 (.slice sA sn sc) sets) (h2:Sets w 0 (.slice sB sm sd) sets) (h3:Sets w 0 (.slice oA on oc) soa) (h4:Sets w 0 (.slice oB om od) soa):
 Calls Tryz.prog 65 #[.agg #[.int .u8 c,.slice sA sn sc,.slice oA on oc],.agg #[.int .u8 c,.slice sB sm sd,.slice oB om od]] w fun e w'=>e=.returned (.bool true)∧Ext w w':=by
 obtain⟨X1,aV⟩:∃X1,X1=w.alloc (.cells #[.int .u8 c,.slice sA sn sc,.slice oA on oc] 24):=⟨_,rfl⟩
 obtain⟨X0,ar⟩:∃X0,X0=X1.alloc (.cells #[.int .u8 c,.slice sB sm sd,.slice oB om od] 24):=⟨_,rfl⟩
 obtain⟨g1,bh⟩:∃g1,g1=X1.heap.size:=⟨_,rfl⟩
 have r1:X1.heap[w.heap.size]? =some (.cells #[.int .u8 c,.slice sA sn sc,.slice oA on oc] 24):=by rw[aV];exact heap_alloc_new _ _
 have r0:X0.heap[g1]? =some (.cells #[.int .u8 c,.slice sB sm sd,.slice oB om od] 24):=by rw[ar,bh];exact heap_alloc_new _ _
 have a7:Ext X1 X0:=by rw[ar];exact(Z5 _).alloc _
 have aD:Ext w X0:=Ext.trans (by rw[aV];exact(Z5 _).alloc _) a7
 have r10:=Z8 a7 r1
 have bH:w.heap.size+1=g1:=by rw[bh,aV];simp
 have kG:=Z7 bH
 have pN:=Z7 (fun V (hV:Ext w V)=>znl sets sets _ _ 0 0 V (h1.ext hV) (h2.ext hV))
 have Ey:=Z7 (fun V (hV:Ext w V)=>znl soa soa _ _ 0 0 V (h3.ext hV) (h4.ext hV))
 rw[decide_eq_true (show sets=sets from rfl)]at pN
 rw[decide_eq_true (show soa=soa from rfl)]at Ey
 clear bH;go_enter Tryz.func65,Tryz.ntmps65;go_upto_region 1 with fail
 rw[←aV,←ar];have e1:(w.heap.size+1)=g1:=kG.out
 try rw[e1]
 try rw[←bh]
 clear e1 aV ar bh a7;have p0:=za0 (j:=0) r10 rfl
 have p1:=za0 (j:=1) r10 rfl
 have y0:=za0 (j:=0) r0 rfl
 have y1:=za0 (j:=1) r0 rfl
 go_wp2_with fail;refine(pN.out _ aD).mono ?_;rintro e w1 ⟨rfl,ae⟩;clear y0 p0 y1 p1;have r03:=Z8 ae r0
 have r3:=Z8 ae r10
 have y2:=za0 (j:=2) r03 rfl
 have p2:=za0 (j:=2) r3 rfl
 go_wp2_with fail;refine(Ey.out _ (aD.trans ae)).mono ?_;rintro e w2 ⟨rfl,ah⟩;go_wp2_with fail;go_ret;exact⟨rfl,(aD.trans ae).trans ah⟩
theorem zyl (k c t:Int) (sets soa:List SetD) (sA sB oA oB:Option Addr) (sn sm on om sc sd oc od:Nat) (w:World) (h1:Sets w 0 (.slice sA sn sc) sets) (h2:Sets w 0 (.slice sB sm sd) sets) (h3:Sets w 0 (.slice oA on oc) soa) (h4:Sets w 0 (.slice oB om od) soa):
 Calls Tryz.prog 28 #[.agg #[.int .u8 k,.int .u8 c,.slice sA sn sc,.slice oA on oc,.int .u32 t],.agg #[.int .u8 k,.int .u8 c,.slice sB sm sd,.slice oB om od,.int .u32 t]] w fun e w'=>e=.returned (.bool true)∧Ext w w':=by
 obtain⟨X1,aV⟩:∃X1,X1=w.alloc (.cells #[.int .u8 k,.int .u8 c,.slice sA sn sc,.slice oA on oc,.int .u32 t] 71):=⟨_,rfl⟩
 obtain⟨X0,ar⟩:∃X0,X0=X1.alloc (.cells #[.int .u8 k,.int .u8 c,.slice sB sm sd,.slice oB om od,.int .u32 t] 71):=⟨_,rfl⟩
 obtain⟨g1,bh⟩:∃g1,g1=X1.heap.size:=⟨_,rfl⟩
 have r1:X1.heap[w.heap.size]? =some (.cells #[.int .u8 k,.int .u8 c,.slice sA sn sc,.slice oA on oc,.int .u32 t] 71):=by rw[aV];exact heap_alloc_new _ _
 have r0:X0.heap[g1]? =some (.cells #[.int .u8 k,.int .u8 c,.slice sB sm sd,.slice oB om od,.int .u32 t] 71):=by rw[ar,bh];exact heap_alloc_new _ _
 have a7:Ext X1 X0:=by rw[ar];exact(Z5 _).alloc _
 have aD:Ext w X0:=Ext.trans (by rw[aV];exact(Z5 _).alloc _) a7
 have r10:=Z8 a7 r1
 have bH:w.heap.size+1=g1:=by rw[bh,aV];simp
 have kG:=Z7 bH
 have pN:=Z7 (zvd c sets soa sA sB oA oB sn sm on om sc sd oc od X0 (h1.ext aD) (h2.ext aD) (h3.ext aD) (h4.ext aD))
 clear bH;go_enter Tryz.func28,Tryz.ntmps28;go_upto_region 1 with fail
 rw[←aV,←ar];have e1:(w.heap.size+1)=g1:=kG.out
 try rw[e1]
 try rw[←bh]
 clear e1 aV ar bh a7;have p0:=za0 (j:=0) r10 rfl
 have p1:=za0 (j:=1) r10 rfl
 have p2:=za0 (j:=2) r10 rfl
 have p3:=za0 (j:=3) r10 rfl
 have p4:=za0 (j:=4) r10 rfl
 have y0:=za0 (j:=0) r0 rfl
 have y1:=za0 (j:=1) r0 rfl
 have y2:=za0 (j:=2) r0 rfl
 have y3:=za0 (j:=3) r0 rfl
 have y4:=za0 (j:=4) r0 rfl
 go_wp2_with fail;refine pN.out.mono ?_;rintro e w1 ⟨rfl,ae⟩;go_wp2_with fail;go_ret;exact⟨rfl,aD.trans ae⟩
theorem zBw {a b:Int} (ha:0≤a) (hb:0≤b):min (timeT a) (timeT b)=if 2147483647<b then 0 else if 2147483647<a then 0 else min b a:=by
 unfold timeT;split<;>split<;>omega
theorem zyi (lo:Nat) (s:SetD) (dv:Value) (w:World) (hs:Strs w lo dv s.data) (hd:∀x∈s.data,x.length≤1048576) (h0:0≤s.ttl):
 Calls Tryz.prog 122 #[zby s dv] w fun e w'=>e=.returned (.int .u32 (soaTime s))∧Ext w w':=by
 obtain⟨nm,ty,cl,tt,da⟩:=s
 dsimp only at*;obtain⟨A,c,rfl,h1,h2,ay⟩:=hs
 unfold maxLen at h2;by_cases bY:ty=6
 rotate_left
 ·have hT:soaTime ⟨nm,ty,cl,tt,da⟩=0:=if_neg bY
  have f1:(ty !=6)=true:=by simpa using bY
  rw[hT];clear hT bY;go_enter Tryz.func122,Tryz.ntmps122;go_wp2_with fail;go_ret;exact⟨rfl,(Z5 _).alloc _⟩
 subst bY;by_cases hl:da.length=1
 rotate_left
 ·have hT:soaTime ⟨nm,6,cl,tt,da⟩=0:=by
   unfold soaTime;rw[if_pos rfl]
   match da,hl with
   |[],_=>rfl
   |[_],h=>exact absurd rfl h
   |_::_::_,_=>rfl
  rw[hT];obtain⟨f1,f2⟩:=zin hl
  clear hT hl;go_enter Tryz.func122,Tryz.ntmps122;go_wp2_with fail;go_ret;exact⟨rfl,(Z5 _).alloc _⟩
 obtain⟨d,rfl⟩:=List.length_eq_one_iff.1 hl
 have hT:soaTime ⟨nm,6,cl,tt,[d]⟩=zd9 tt d:=rfl
 rw[hT];obtain⟨b,off,rfl,_,az,hc⟩:=ay.2 (by simp)
 have c0:=hc 0 (S d) rfl
 simp only[Nat.add_zero]at c0;have hdl:=hd d (by simp)
 have HM:=Z7 (fun W=>zl3 6 d W hdl)
 clear hc ay hl hd hT;simp only[List.length_singleton];rcases hm:rmay 6 d with _|_
 ·have hT:zd9 tt d=0:=by unfold zd9;rw[hm];rfl
  rw[hT];rw[hm]at HM;clear hT hm;go_enter Tryz.func122,Tryz.ntmps122;go_wp2_with fail;refine(HM.out _).mono ?_;rintro e w1 ⟨rfl,ae⟩;go_wp2_with fail;go_ret;exact⟨rfl,((Z5 _).alloc _).trans ae⟩
 have hT:zd9 tt d=min (timeT tt) (timeT (zef d)):=by unfold zd9;rw[hm];rfl
 rw[hT,zBw h0 (by omega)]
 rw[hm]at HM;have BQ:=zrn hm
 obtain⟨p,hp⟩:∃p,d.length=p+4:=⟨d.length - 4,by omega⟩
 obtain⟨s4,gg⟩:∃s4,d.drop p=s4:=⟨_,rfl⟩
 have gx:s4.length=4:=by rw[←gg,List.length_drop];omega
 have HL:Hid (zef d=be s4∧s4.length=4):=⟨by unfold zef;rw[hp,Nat.add_sub_cancel,gg],gx⟩
 have Hp:=Z7 hp
 have IZ:=Z7 gg
 have ju:=Z7 gx
 have pg:(d.length:Int)=(p:Int)+4:=by omega
 have Km:(p:Int)≤1048576:=by omega
 have pE:(0:Int)≤(p:Int):=by omega
 clear hT hm gg gx hp;go_enter Tryz.func122,Tryz.ntmps122;go_wp2_with fail;refine(HM.out _).mono ?_;rintro e w1 ⟨rfl,ae⟩;obtain⟨hq,bU,bP⟩:=zap ae
 have q3:=hq 3
 have c01:=((((Z5 w).alloc (.cells #[S nm,.int .u16 6,.int .u16 cl,.int .u32 tt,.slice (some ⟨b,off,none⟩) 1 c] 79)).trans ae).cell (p:=⟨b,off,none⟩) az).trans c0
 clear c0;go_wp2_with fail
 go_loop [4,5] (fun v i=>∃k:Nat,k≤4∧i=.int .i64 ((p+k:Nat):Int)∧v=.int .u32 (be (s4.take k))) (fun _ i=>p+4 - (intOf i).toNat)
 case atStart=>exact⟨0,by omega,by go_num,rfl⟩
 case round=>
  obtain⟨k,hk,rfl,rfl⟩:=hrel
  by_cases ab:k<4
  ·have bC:k<s4.length:=by rw[ju.out];exact ab
   have gq:p+k<d.length:=by rw[Hp.out];omega
   obtain⟨c',Hb,cg,dp,aB⟩:=zbu d (p+k) gq
   have z7:Hid (s4[k]=c'):=Z7 (by rw[←Hb.out];simp only[←IZ.out];rw[List.getElem_drop])
   have bO:=Z7 (zpw s4 k bC c' z7.out)
   have hx:=zkd s4 k (by rw[ju.out];omega) bC
   generalize be (s4.take k)=x at*;have I0:((p+k:Nat):Int)<(d.length:Int):=by omega
   have I1:(0:Int)≤((p+k:Nat):Int):=by omega
   go_wp2_with fail;go_round
   case rel=>exact⟨k+1,by omega,by go_num,by rw[bO.out];go_num⟩
   case measure=>simp[intOf];omega
  ·obtain rfl:k=4:=by omega
   have e1:s4.take 4=s4:=List.take_of_length_le (by rw[ju.out];omega)
   rw[e1];clear e1;have Cw:=Z7 HL.out.1
   clear HL;generalize be s4=x at*;by_cases i6:(2147483647:Int)<(x:Int)
   ·have bh:decide ((x:Int)>2147483647)=true:=decide_eq_true i6
    have ci:decide ((2147483647:Int)<(x:Int))=true:=decide_eq_true i6
    go_wp2_with fail
    all_goals go_ret
    all_goals refine⟨zmx ?_,((Z5 _).alloc _).trans ae⟩
    all_goals(have xG:=Cw.out;first|omega|(rw[xG,if_pos i6])|(simp_all;done)|trace_state)
   ·have bh:decide ((x:Int)>2147483647)=false:=decide_eq_false i6
    have ci:decide ((2147483647:Int)<(x:Int))=false:=decide_eq_false i6
    by_cases gY:(2147483647:Int)<tt
    ·have dQ:decide (tt>2147483647)=true:=decide_eq_true gY
     have cY:decide ((2147483647:Int)<tt)=true:=decide_eq_true gY
     go_wp2_with fail
     all_goals go_ret
     all_goals refine⟨zmx ?_,((Z5 _).alloc _).trans ae⟩
     all_goals(have xG:=Cw.out;first|omega|(rw[xG,if_neg i6,if_pos gY])|(simp_all;done)|trace_state)
    ·have dQ:decide (tt>2147483647)=false:=decide_eq_false gY
     have cY:decide ((2147483647:Int)<tt)=false:=decide_eq_false gY
     go_wp2_with fail
     all_goals go_ret
     all_goals refine⟨zmx ?_,((Z5 _).alloc _).trans ae⟩
     all_goals(have xG:=Cw.out;first|omega|(rw[xG,if_neg i6,if_neg gY])|(simp_all;done)|trace_state)
structure Betw (lo hi:Nat) (w w':World):Prop where
 os:w'.os=w.os
 tape:w'.tape=w.tape
 output:w'.output=w.output
 size:w.heap.size≤w'.heap.size
 block:∀k,k<w.heap.size→(k<lo∨hi≤k)→w'.heap[k]? =w.heap[k]?
theorem Betw.refl (lo hi:Nat) (w:World):Betw lo hi w w:=⟨rfl,rfl,rfl,Z4 _,fun _ _ _=>rfl⟩
theorem Betw.setCell {lo hi:Nat} {a w:World} (h:Betw lo hi a w) {p:Addr} (h1:lo≤p.block) (h2:p.block<hi) (u:Value):Betw lo hi a (w.setCell p u):=
 ⟨h.os,h.tape,h.output,Z2 h.size (by simp[World.setCell]),fun k hk h3=>(Below.heap_setCell _ _ _ _ (by omega)).trans (h.block k hk h3)⟩
theorem Betw.drewN {lo hi:Nat} {a w:World} (h:Betw lo hi a w) (n:Nat):Betw lo hi a (w.drewN n):=⟨h.os,h.tape,h.output,h.size,h.block⟩
theorem Betw.ext {lo hi:Nat} {w0 w w':World} (h:Ext w0 w) (k:Betw lo hi w w') (hl:w0.heap.size≤lo):Ext w0 w':=
 ⟨k.os.trans h.os,k.tape.trans h.tape,k.output.trans h.output,Z2 h.size k.size,fun i kf=>(k.block i (Z1 kf h.size) (.inl (by omega))).trans (h.block i kf)⟩
theorem Own.betw {lo hi:Nat} {w w':World} {lo':Nat} {e:TypeId} {sz n c:Nat} {A:Option Addr} {xs:List Value} (h:Own w lo' e sz A n c xs) (k:Betw lo hi w w') (hl:hi≤lo'):Own w' lo' e sz A n c xs:=by
 refine⟨h.1,?_⟩;rcases h.2 with h1|⟨g,cap,cur,h1,hg,hh,h4⟩
 ·exact .inl h1
 ·exact .inr ⟨g,cap,cur,h1,hg,(k.block g (Z9 hh) (.inr (by omega))).trans hh,h4⟩
theorem OSets.betw {lo hi:Nat} {w w':World} {lo':Nat} {v:Value} {l:List SetD} (h:OSets w lo' v l) (k:Betw lo hi w w') (hl:hi≤lo'):OSets w' lo' v l:=by
 obtain⟨ps,A,c,h1,h2,h3,h4⟩:=h
 refine⟨ps,A,c,h1,h2,h3.betw k hl,fun p hp=>?_⟩
 obtain⟨B,d,e,ho⟩:=h4 p hp
 exact⟨B,d,e,ho.betw k hl⟩
def AnyStrs (w:World) (lo hi:Nat) (v:Value):Prop:=∃l,OStrs w lo v l∧∀k,v.ownBlock=some k→k<hi
theorem AnyStrs.stored {w:World} {lo hi:Nat} {v:Value} (h:AnyStrs w lo hi v) (g j:Nat) (x:List UInt8):AnyStrs (w.setCell ⟨g,j,none⟩ (S x)) lo hi v:=by
 obtain⟨l,⟨A,c,rfl,ho⟩,hk⟩:=h
 rcases ho.2 with⟨h1,h2⟩|⟨g',cap,cur,h1,hg,hh,h4,h5,h6,h7⟩
 ·injection h1 with h1 h2 h3
  have:l=[]:=List.eq_nil_of_length_eq_zero h2
  subst this h1 h3;exact⟨[],⟨none,0,rfl,Own.nil _ _ _ _⟩,by simp[Value.ownBlock]⟩
 ·by_cases e:g'=g
  ·subst e;injection h1 with h1 _ h3
   subst h1 h3;refine⟨l.set j x,⟨_,c,by rw[List.length_set],?_⟩,hk⟩
   refine⟨by simp,.inr ⟨g',c,cur.setIfInBounds j (S x),by rw[List.length_set],hg,by simp[World.setCell,Array.getElem?_modify,hh],by rw[List.length_set];exact h4,h5,by simpa using h6,?_⟩⟩
   rw[Array.toList_setIfInBounds,List.length_set,List.map_set,←h7,List.take_set]
  ·exact⟨l,⟨A,c,rfl,ho.1,.inr ⟨g',cap,cur,h1,hg,(Below.heap_setCell w ⟨g,j,none⟩ _ g' e).trans hh,h4,h5,h6,h7⟩⟩,hk⟩
theorem AnyStrs.other {w:World} {lo hi:Nat} {v:Value} (h:AnyStrs w lo hi v) {p:Addr} (u:Value) (hp:v.ownBlock=none∨v.ownBlock≠some p.block):AnyStrs (w.setCell p u) lo hi v:=by
 obtain⟨l,h1,h2⟩:=h
 exact⟨l,h1.set_other u hp,h2⟩
theorem Own.stored5 {w:World} {lo g n c:Nat} {qs:List (SetD×Value)} (h:Own w lo 79 5 (some ⟨g,0,none⟩) n c (qs.flatMap setCells)) (hn:qs.length=n) {k:Nat} {p:SetD×Value} (hp:qs[k]? =some p) (hk:k<qs.length) (q:SetD×Value):
 Own (((((w.setCell ⟨g,k*5,none⟩ (S q.1.name)).setCell ⟨g,k*5+1,none⟩ (.int .u16 q.1.typ)).setCell ⟨g,k*5+2,none⟩ (.int .u16 q.1.cls)).setCell ⟨g,k*5+3,none⟩ (.int .u32 q.1.ttl)).setCell ⟨g,k*5+4,none⟩ q.2) lo 79 5 (some ⟨g,0,none⟩) n c ((qs.set k q).flatMap setCells):=by
 subst hn;obtain⟨⟨pn,pt,pc,pl,pd⟩,pv⟩:=p
 obtain⟨⟨qn,qt,qc,ql,qd⟩,qv⟩:=q
 have h1:=h.stored (k*5+0) (S qn) (by omega)
 rw[zdx qs k _ (⟨qn,pt,pc,pl,pd⟩,pv) 0 (S qn) hp (by omega) rfl]at h1
 have h2:=h1.stored (k*5+1) (.int .u16 qt) (by omega)
 rw[zdx _ k (⟨qn,pt,pc,pl,pd⟩,pv) (⟨qn,qt,pc,pl,pd⟩,pv) 1 (.int .u16 qt) (List.getElem?_set_self hk) (by omega) rfl,List.set_set]at h2
 have h3:=h2.stored (k*5+2) (.int .u16 qc) (by omega)
 rw[zdx _ k (⟨qn,qt,pc,pl,pd⟩,pv) (⟨qn,qt,qc,pl,pd⟩,pv) 2 (.int .u16 qc) (List.getElem?_set_self hk) (by omega) rfl,List.set_set]at h3
 have h4:=h3.stored (k*5+3) (.int .u32 ql) (by omega)
 rw[zdx _ k (⟨qn,qt,qc,pl,pd⟩,pv) (⟨qn,qt,qc,ql,pd⟩,pv) 3 (.int .u32 ql) (List.getElem?_set_self hk) (by omega) rfl,List.set_set]at h4
 have h5:=h4.stored (k*5+4) qv (by omega)
 rw[zdx _ k (⟨qn,qt,qc,ql,pd⟩,pv) (⟨qn,qt,qc,ql,qd⟩,qv) 4 qv (List.getElem?_set_self hk) (by omega) rfl,List.set_set]at h5
 exact h5
abbrev zGl:List UInt8:=[115,112,111,105,108,116]
theorem Betw.alloc {lo hi:Nat} {a w:World} (h:Betw lo hi a w) (o:Obj):Betw lo hi a (w.alloc o):=
 ⟨h.os,h.tape,h.output,Z2 h.size (by simp),fun k hk h3=>by
  have e:(w.alloc o).heap[k]? =w.heap[k]? :=((Z5 w).alloc o).block k (Z1 hk h.size)
  rw[e];exact h.block k hk h3⟩
theorem Own.off {w:World} {lo:Nat} {e:TypeId} {sz n c:Nat} {A:Option Addr} {xs:List Value} (h:Own w lo e sz A n c xs) {p:Addr} (hp:(Value.slice A n c).ownBlock=none∨(Value.slice A n c).ownBlock≠some p.block) (u:Value):Own (w.setCell p u) lo e sz A n c xs:=by
 refine⟨h.1,?_⟩;rcases h.2 with h1|⟨g',cap,cur,h1,hg,hh,h4⟩
 ·exact .inl h1
 ·refine .inr ⟨g',cap,cur,h1,hg,(Below.heap_setCell w p u g' (fun e=>?_)).trans hh,h4⟩
  injection h1 with h1
  subst h1;rcases hp with hp|hp
  ·simp[Value.ownBlock]at hp
  ·exact hp (by simp[Value.ownBlock];exact e)
structure Spo2 (w:World) (lo hi gl:Nat) (n:Nat→Nat) (A:Nat→Option Addr) (c:Nat→Nat) (qs:Nat→List (SetD×Value)) (wr:World):Prop where
 len:∀j,j<2→(qs j).length=n j
 own:∀j,j<2→Own wr lo 79 5 (A j) (n j) (c j) ((qs j).flatMap setCells)
 datas:∀j,j<2→∀p∈qs j,AnyStrs wr lo hi p.2
 lst:∀j,j<2→wr.cell? ⟨gl,j,none⟩=some (.slice (A j) (n j) (c j))
 betw:Betw lo hi w wr
theorem zi3 {wr:World} {gl j g i:Nat} {v:Value} (h:wr.cell? ⟨gl,j,none⟩=some v) (hg:g≠gl) (u:Value):(wr.setCell ⟨g,i,none⟩ u).cell? ⟨gl,j,none⟩=some v:=by
 rw[World.cell?_setCell_other wr ⟨g,i,none⟩ ⟨gl,j,none⟩ _ (by intro e;injection e with e _ _;first|exact hg e|exact hg e.symm)]
 exact h
theorem Spo2.store {w wr:World} {lo hi gl:Nat} {n:Nat→Nat} {A:Nat→Option Addr} {c:Nat→Nat} {qs:Nat→List (SetD×Value)} (h:Spo2 w lo hi gl n A c qs wr) {gd:Nat} (h1:lo≤gd) (h2:gd<hi) (jE:hi≤gl)
 (au:∀j,j<2→(Value.slice (A j) (n j) (c j)).ownBlock=none∨(Value.slice (A j) (n j) (c j)).ownBlock≠some gd) (i:Nat) (x:List UInt8):Spo2 w lo hi gl n A c qs (wr.setCell ⟨gd,i,none⟩ (S x)):=
 ⟨h.len,fun j hj=>(h.own j hj).off (au j hj) _,fun j hj p hp=>(h.datas j hj p hp).stored gd i x,fun j hj=>zi3 (h.lst j hj) (by omega) _,h.betw.setCell h1 h2 _⟩
theorem Spo2.set {w wr:World} {lo hi gl:Nat} {n:Nat→Nat} {A:Nat→Option Addr} {c:Nat→Nat} {qs:Nat→List (SetD×Value)} (h:Spo2 w lo hi gl n A c qs wr) {k g m:Nat} (hk:k<2) (hA:A k=some ⟨g,0,none⟩) (h1:lo≤g) (h2:g<hi) (jE:hi≤gl)
 (iu:∀i j,i<2→j<2→i≠j→(Value.slice (A i) (n i) (c i)).ownBlock=none∨(Value.slice (A i) (n i) (c i)).ownBlock≠(Value.slice (A j) (n j) (c j)).ownBlock) {p:SetD×Value} (hp:(qs k)[m]? =some p) (hm:m<(qs k).length) (q:List UInt8):
 Spo2 w lo hi gl n A c (fun j=>if j=k then(qs k).set m (⟨q,0,0,0,[]⟩,.slice none 0 0)else qs j) (((((wr.setCell ⟨g,m*5,none⟩ (S q)).setCell ⟨g,m*5+1,none⟩ (.int .u16 0)).setCell ⟨g,m*5+2,none⟩ (.int .u16 0)).setCell ⟨g,m*5+3,none⟩ (.int .u32 0)).setCell ⟨g,m*5+4,none⟩ (.slice none 0 0)):=by
 have hb:(Value.slice (A k) (n k) (c k)).ownBlock=some g:=by rw[hA];rfl
 have bq:∀{v:Value} {j:Nat},wr.cell? ⟨gl,j,none⟩=some v→(((((wr.setCell ⟨g,m*5,none⟩ (S q)).setCell ⟨g,m*5+1,none⟩ (.int .u16 0)).setCell ⟨g,m*5+2,none⟩ (.int .u16 0)).setCell ⟨g,m*5+3,none⟩ (.int .u32 0)).setCell ⟨g,m*5+4,none⟩ (.slice none 0 0)).cell? ⟨gl,j,none⟩=some v:=
  fun hc=>zi3 (zi3 (zi3 (zi3 (zi3 hc (by omega) _) (by omega) _) (by omega) _) (by omega) _) (by omega) _
 have aZ:∀p∈qs 0++qs 1,True:=fun _ _=>trivial
 refine⟨fun j hj=>?_,fun j hj=>?_,fun j hj x hx=>?_,fun j hj=>bq (h.lst j hj),?_⟩
 ·split
  ·rename_i e;subst e;rw[List.length_set];exact h.len j hj
  ·exact h.len j hj
 ·split
  ·rename_i e;subst e;have ho:=h.own j hj
   rw[hA]at ho ⊢;exact Own.stored5 ho (h.len j hj) hp hm (⟨q,0,0,0,[]⟩,.slice none 0 0)
  ·rename_i e;have hs:(Value.slice (A j) (n j) (c j)).ownBlock=none∨(Value.slice (A j) (n j) (c j)).ownBlock≠some g:=by
    rw[←hb];exact iu j k hj hk e
   exact((((((h.own j hj).off (p:=⟨g,_,none⟩) hs _).off (p:=⟨g,_,none⟩) hs _).off (p:=⟨g,_,none⟩) hs _).off (p:=⟨g,_,none⟩) hs _).off (p:=⟨g,_,none⟩) hs _)
 ·have my:∀j',j'<2→∀y∈qs j',AnyStrs (((((wr.setCell ⟨g,m*5,none⟩ (S q)).setCell ⟨g,m*5+1,none⟩ (.int .u16 0)).setCell ⟨g,m*5+2,none⟩ (.int .u16 0)).setCell ⟨g,m*5+3,none⟩ (.int .u32 0)).setCell ⟨g,m*5+4,none⟩ (.slice none 0 0)) lo hi y.2:=fun j' dP y hy=>by
   have au:y.2.ownBlock=none∨y.2.ownBlock≠some g:=by
    obtain⟨l9,nT,_⟩:=h.datas j' dP y hy
    have:=zb3 nT (h.own k hk)
    rw[hb]at this;exact this
   exact AnyStrs.other (p:=⟨g,_,none⟩) (AnyStrs.other (p:=⟨g,_,none⟩) (AnyStrs.other (p:=⟨g,_,none⟩) (AnyStrs.other (p:=⟨g,_,none⟩) (AnyStrs.other (p:=⟨g,_,none⟩) (h.datas j' dP y hy) _ au) _ au) _ au) _ au) _ au
  split at hx
  ·rename_i e;subst e;rcases List.mem_or_eq_of_mem_set hx with hx|hx
   ·exact my j hj x hx
   ·subst hx;exact⟨[],⟨none,0,rfl,Own.nil _ _ _ _⟩,by simp[Value.ownBlock]⟩
  ·exact my j hj x hx
 ·exact((((h.betw.setCell (p:=⟨g,_,none⟩) h1 h2 _).setCell (p:=⟨g,_,none⟩) h1 h2 _).setCell (p:=⟨g,_,none⟩) h1 h2 _).setCell (p:=⟨g,_,none⟩) h1 h2 _).setCell (p:=⟨g,_,none⟩) h1 h2 _
theorem Sets.shapeR {w:World} {lo:Nat} {v:Value} {l:List SetD} (h:Sets w lo v l):∃(ps:List (SetD×Value)) (A:Option Addr) (c:Nat),v=.slice A l.length c∧ps.map Prod.fst=l∧ps.length=l.length∧l.length≤c∧c≤maxLen∧Rd w lo 5 A ps.length (ps.flatMap setCells)∧∀p∈ps,Strs w lo p.2 p.1.data:=by
 obtain⟨ps,A,c,h1,h2,h3,h4,h5,h6⟩:=h
 have hl:ps.length=l.length:=by rw[←h1];simp
 exact⟨ps,A,c,by rw[h2,hl],h1,hl,by rw[←hl];exact h3,h4,h5,h6⟩
def zpu (R:VerR) (w:World) (e:Ending) (w':World):Prop:=
 ∃vs vo,e=.returned (.tuple #[.agg #[.int .u8 R.code,vs,vo],.int .u32 R.time,.int .i64 R.err])∧Sets w' 0 vs R.sets∧Sets w' 0 vo R.soa∧Ext w w'
theorem zk7 (w w':World) (e:Nat) (h:Ext w w'):zpu (VerR.bad e) w (.returned (.tuple #[.agg #[.int .u8 0,.slice none 0 0,.slice none 0 0],.int .u32 0,.int .i64 e])) w':=
 ⟨_,_,rfl,Sets.nil9 _ _,Sets.nil9 _ _,h⟩
theorem zp4:∀(l:List SetD) (a b:Int),leastT l (min a b)=min (leastT l a) b
 |[],a,b=>rfl
 |x::r,a,b=>by
  show leastT r (min (min a b) x.ttl)=min (leastT r (min a x.ttl)) b
  rw[←zp4 r (min a x.ttl) b];congr 1;omega
theorem zAf (l:List SetD) (t:Int) (h:t≤2147483647):min (leastT l 2147483647) t=leastT l t:=by
 rw[←zp4];congr 1;omega
theorem Strs.offB {w V:World} {lo g:Nat} {v:Value} {l:List (List UInt8)} (h:Strs w lo v l) (hk:∀j x,w.cell? ⟨g,j,none⟩≠some (S x)) (hV:zfg g w V) (hz:w.heap.size≤V.heap.size):Strs V lo v l:=by
 obtain⟨A,c,e,h1,h2,hr⟩:=h
 refine⟨A,c,e,h1,h2,hr.1,fun hn=>?_⟩
 obtain⟨b,off,e2,ak,hb,hc⟩:=hr.2 hn
 refine⟨b,off,e2,ak,Z1 hb hz,fun j u hu=>?_⟩
 have vF:=hc j u hu
 by_cases jy:b=g
 ·subst jy;obtain⟨s,hs⟩:∃s,u=S s:=by
   rw[List.getElem?_map]at hu;rcases hx:l[j]? with _|s
   ·rw[hx]at hu;cases hu
   ·rw[hx]at hu;exact⟨s,(Option.some.inj hu).symm⟩
  rw[hs]at vF;exact absurd vF (hk _ _)
 ·rw[hV b _ hb jy];exact vF
theorem zDd {w:World} {lo g n c:Nat} {A:Option Addr} {xs:List Value} {e:TypeId} (h:Own w lo e 1 A n c xs) (hp:(Value.slice A n c).ownBlock=none∨(Value.slice A n c).ownBlock≠some g) (u0 u1 u2 u3 u4:Value):
 Own (((((w.setCell ⟨g,0,none⟩ u0).setCell ⟨g,1,none⟩ u1).setCell ⟨g,2,none⟩ u2).setCell ⟨g,3,none⟩ u3).setCell ⟨g,4,none⟩ u4) lo e 1 A n c xs:=
 ((((h.off (p:=⟨g,0,none⟩) hp u0).off (p:=⟨g,1,none⟩) hp u1).off (p:=⟨g,2,none⟩) hp u2).off (p:=⟨g,3,none⟩) hp u3).off (p:=⟨g,4,none⟩) hp u4
theorem ztj {w:World} {lo g n c:Nat} {A:Option Addr} {xs:List Value} {e:TypeId} (h:Own w lo e 1 A n c xs) (hg:w.heap.size≤g):(Value.slice A n c).ownBlock=none∨(Value.slice A n c).ownBlock≠some g:=by
 rcases hb:(Value.slice A n c).ownBlock with _|k
 ·exact .inl rfl
 ·refine .inr (fun e=>?_)
  injection e with e
  have:=(h.blk k hb).2
  omega
theorem zFe {w:World} {lo g n c:Nat} {A:Option Addr} {xs:List Value} {e:TypeId} (h:Own w lo e 1 A n c xs) (hg:g<lo):(Value.slice A n c).ownBlock=none∨(Value.slice A n c).ownBlock≠some g:=by
 rcases hb:(Value.slice A n c).ownBlock with _|k
 ·exact .inl rfl
 ·refine .inr (fun e=>?_)
  injection e with e
  have:=(h.blk k hb).1
  omega
theorem OStrs.lower0 {w:World} {lo:Nat} {v:Value} {l:List (List UInt8)} (h:OStrs w lo v l):OStrs w 0 v l:=by
 obtain⟨A,c,e,ho⟩:=h
 exact⟨A,c,e,ho.lower (Nat.zero_le _)⟩
structure OfInv (w4:World) (code:Int) (all:List SetD) (k:Nat) (qs:List (SetD×Value)) (B:Option Addr) (d:Nat) (wr:World):Prop where
 len:qs.length=k
 fst:qs.map Prod.fst=(all.take k).map ttl0
 box:∀j,wr.cell? ⟨w4.heap.size,j,none⟩= #[.int .u8 code,.slice B qs.length d,.slice none 0 0][j]?
 fro:∀j,wr.frozen? ⟨w4.heap.size,j,none⟩=false
 zb:w4.heap.size<wr.heap.size
 own:Own wr (w4.heap.size+1) 79 5 B qs.length d (qs.flatMap setCells)
 datas:∀p∈qs,Strs w4 0 p.2 p.1.data
 ext:Ext w4 wr
theorem zwk {w4 wo V:World} {code:Int} {all L:List SetD} {k:Nat} {qs:List (SetD×Value)} {B:Option Addr} {d g:Nat} (hI:OfInv w4 code all k qs B d wo) (hq:qs.map Prod.fst=L) (m7:∀j y,w4.cell? ⟨g,j,none⟩≠some (S y)) (hV:zfg g w4 V) (hz:w4.heap.size≤V.heap.size) (ho:Own V (w4.heap.size+1) 79 5 B qs.length d (qs.flatMap setCells)):
 Sets V 0 (.slice B qs.length d) L:=
 ⟨qs,B,d,hq,rfl,ho.cap.1,ho.cap.2,ho.rd.lower (Nat.zero_le _),fun p hp=>(hI.datas p hp).offB m7 hV hz⟩
theorem zti {w4 wo Y:World} {code:Int} {all L:List SetD} {k:Nat} {qs:List (SetD×Value)} {B:Option Addr} {d g:Nat} (hI:OfInv w4 code all k qs B d wo) (hE:Ext wo Y) (hq:qs.map Prod.fst=L) (kL:g<w4.heap.size) (m7:∀j y,w4.cell? ⟨g,j,none⟩≠some (S y)) (u0 u1 u2:Value):
 Sets (((Y.setCell ⟨g,0,none⟩ u0).setCell ⟨g,1,none⟩ u1).setCell ⟨g,2,none⟩ u2) 0 (.slice B qs.length d) L:=
 zwk hI hq m7 (zcb (zcb (zcb (zca (hI.ext.trans hE)) 0 u0) 1 u1) 2 u2) (by have h1:=hI.ext.size;have h2:=hE.size;simp;omega) ((((hI.own.ext hE).set_other (show g<w4.heap.size+1 by omega) u0).set_other (show g<w4.heap.size+1 by omega) u1).set_other (show g<w4.heap.size+1 by omega) u2)
theorem zDq (x:MsgX) (n:List UInt8) (ty cls code:Int) (lo:Nat) (aA:Option Addr) (ac:Nat) (uA:Option Addr) (uc:Nat) (ans auth:List RecD) (w:World)
 (ha:Recs w lo (.slice aA ans.length ac) ans) (hu:Recs w lo (.slice uA auth.length uc) auth) (gX:zh7 ans) (wN:zh7 auth) (I2:∀r∈auth,0≤r.ttl) (hn:n.length≤1048576):
 Calls Tryz.prog 62 #[.agg #[S n,.int .u16 ty,.int .u16 cls],msgV x code (.slice aA ans.length ac) (.slice uA auth.length uc)] w (zpu (verOf n ty cls code ans auth) w):=by
 have HM:=Z7 (fun W=>zc3 n W hn)
 have yP:=Z7 (fun W (hW:Ext w W)=>zrl lo _ ans W (ha.ext hW) gX)
 have sg:=Z7 (fun W (hW:Ext w W)=>zrl lo _ auth W (hu.ext hW) wN)
 have cQ:=zj5 gX
 have cj:=zj5 wN
 have I3:=Z7 (fun s (hs:s∈groupR auth)=>(zxq I2 hs).1)
 rcases hm:may n with _|_
 ·have hR:verOf n ty cls code ans auth=VerR.bad 1:=if_neg (by rw[hm];rintro⟨h,_⟩;cases h)
  have HR:=Z7 hR
  rw[hm]at HM;clear hm hR;obtain⟨X,hX⟩:∃X,X=(((w.alloc (.cells #[S n,.int .u16 ty,.int .u16 cls] 32)).alloc (.cells (xrw x code (.slice aA ans.length ac) (.slice uA auth.length uc)) 45)).alloc (.cells #[.int .u8 0,.slice none 0 0,.slice none 0 0] 24)):=⟨_,rfl⟩
  obtain⟨kq,_,zq⟩:=zai (w.heap.size) rfl (((Z5 (w.alloc (.cells #[S n,.int .u16 ty,.int .u16 cls] 32))).alloc (.cells (xrw x code (.slice aA ans.length ac) (.slice uA auth.length uc)) 45)).alloc (.cells #[.int .u8 0,.slice none 0 0,.slice none 0 0] 24))
  have zm:w.heap.size+1<(((w.alloc (.cells #[S n,.int .u16 ty,.int .u16 cls] 32)).alloc (.cells (xrw x code (.slice aA ans.length ac) (.slice uA auth.length uc)) 45)).alloc (.cells #[.int .u8 0,.slice none 0 0,.slice none 0 0] 24)).heap.size:=by simp
  have eu:(((w.alloc (.cells #[S n,.int .u16 ty,.int .u16 cls] 32)).alloc (.cells (xrw x code (.slice aA ans.length ac) (.slice uA auth.length uc)) 45)).alloc (.cells #[.int .u8 0,.slice none 0 0,.slice none 0 0] 24)).heap[w.heap.size+1]? =some (.cells (xrw x code (.slice aA ans.length ac) (.slice uA auth.length uc)) 45):=(((Z5 ((w.alloc (.cells #[S n,.int .u16 ty,.int .u16 cls] 32)).alloc (.cells (xrw x code (.slice aA ans.length ac) (.slice uA auth.length uc)) 45))).alloc (.cells #[.int .u8 0,.slice none 0 0,.slice none 0 0] 24)).block (w.heap.size+1) (by simp)).trans (zjd (w.alloc (.cells #[S n,.int .u16 ty,.int .u16 cls] 32)) _ (w.heap.size+1) (by simp))
  obtain⟨kv,kvf,zv⟩:=zai (w.heap.size+1+1) (by simp) (Z5 (((w.alloc (.cells #[S n,.int .u16 ty,.int .u16 cls] 32)).alloc (.cells (xrw x code (.slice aA ans.length ac) (.slice uA auth.length uc)) 45)).alloc (.cells #[.int .u8 0,.slice none 0 0,.slice none 0 0] 24)))
  rw[←hX]at kq zq zm eu kv kvf zv;have bF:Ext w X:=by rw[hX];exact(((Z5 _).alloc _).alloc _).alloc _
  have ir:w.heap.size+1+1+1=X.heap.size:=by rw[hX];simp
  have HK:=Z7 (show ∀V,Ext X V→V.cell? ⟨w.heap.size,0,none⟩=some (S n)∧V.cell? ⟨w.heap.size,1,none⟩=some (.int .u16 ty)∧V.cell? ⟨w.heap.size,2,none⟩=some (.int .u16 cls)from fun V hV=>⟨(hV.cell (p:=⟨w.heap.size,0,none⟩) zq).trans (kq 0),(hV.cell (p:=⟨w.heap.size,1,none⟩) zq).trans (kq 1),(hV.cell (p:=⟨w.heap.size,2,none⟩) zq).trans (kq 2)⟩)
  have HC:=Z7 (show ∀V,Ext X V→V.cell? ⟨w.heap.size+1,10,none⟩=some (.int .u8 code)∧V.cell? ⟨w.heap.size+1,12,none⟩=some (.slice aA ans.length ac)∧V.cell? ⟨w.heap.size+1,13,none⟩=some (.slice uA auth.length uc)from fun V hV=>⟨zda ((hV.block _ zm).trans eu) 10,zda ((hV.block _ zm).trans eu) 12,zda ((hV.block _ zm).trans eu) 13⟩)
  have mB:=Z7 (show ∀V,Ext X V→(∀j,V.cell? ⟨w.heap.size+1+1,j,none⟩= #[.int .u8 0,.slice none 0 0,.slice none 0 0][j]?)∧(∀j,V.frozen? ⟨w.heap.size+1+1,j,none⟩=false)∧w.heap.size+1+1<V.heap.size from fun V hV=>⟨fun j=>(hV.cell (p:=⟨w.heap.size+1+1,j,none⟩) zv).trans (kv j),fun j=>(hV.frozen (p:=⟨w.heap.size+1+1,j,none⟩) zv).trans (kvf j),Z1 zv hV.size⟩)
  have tJ:=Z7 ir
  clear eu kv kvf zv zm ir;obtain⟨c0,c1,c2⟩:=HK.out X (Z5 _)
  clear kq;go_enter Tryz.func62,Tryz.ntmps62;go_upto_region 1 with fail
  rw[←hX];clear hX;go_wp2_with fail;refine(HM.out X).mono ?_;rintro e w1 ⟨rfl,aV⟩;obtain⟨b0,b1,b2⟩:=mB.out _ (aV)
  go_wp2_with fail;refine bodyPost_ret (v:=.tuple #[.agg #[.int .u8 0,.slice none 0 0,.slice none 0 0],.int .u32 0,.int .i64 1]) (by simp[results,Tryz.results62,go_sem,b0,b1,b2]) rfl ?_
  rw[HR.out];exact zk7 w _ 1 (by have aW:=bF.size;have bI:=bF.trans (aV);exact xt)
 by_cases hc:code=0∨code=3
 rotate_left
 ·have hR:verOf n ty cls code ans auth=VerR.bad 1:=if_neg (fun h=>hc h.2)
  have f1:(code !=0)=true:=by simp;intro h;exact hc (.inl h)
  have f2:(code !=3)=true:=by simp;intro h;exact hc (.inr h)
  have HR:=Z7 hR
  rw[hm]at HM;clear hm hR hc;obtain⟨X,hX⟩:∃X,X=(((w.alloc (.cells #[S n,.int .u16 ty,.int .u16 cls] 32)).alloc (.cells (xrw x code (.slice aA ans.length ac) (.slice uA auth.length uc)) 45)).alloc (.cells #[.int .u8 0,.slice none 0 0,.slice none 0 0] 24)):=⟨_,rfl⟩
  obtain⟨kq,_,zq⟩:=zai (w.heap.size) rfl (((Z5 (w.alloc (.cells #[S n,.int .u16 ty,.int .u16 cls] 32))).alloc (.cells (xrw x code (.slice aA ans.length ac) (.slice uA auth.length uc)) 45)).alloc (.cells #[.int .u8 0,.slice none 0 0,.slice none 0 0] 24))
  have zm:w.heap.size+1<(((w.alloc (.cells #[S n,.int .u16 ty,.int .u16 cls] 32)).alloc (.cells (xrw x code (.slice aA ans.length ac) (.slice uA auth.length uc)) 45)).alloc (.cells #[.int .u8 0,.slice none 0 0,.slice none 0 0] 24)).heap.size:=by simp
  have eu:(((w.alloc (.cells #[S n,.int .u16 ty,.int .u16 cls] 32)).alloc (.cells (xrw x code (.slice aA ans.length ac) (.slice uA auth.length uc)) 45)).alloc (.cells #[.int .u8 0,.slice none 0 0,.slice none 0 0] 24)).heap[w.heap.size+1]? =some (.cells (xrw x code (.slice aA ans.length ac) (.slice uA auth.length uc)) 45):=(((Z5 ((w.alloc (.cells #[S n,.int .u16 ty,.int .u16 cls] 32)).alloc (.cells (xrw x code (.slice aA ans.length ac) (.slice uA auth.length uc)) 45))).alloc (.cells #[.int .u8 0,.slice none 0 0,.slice none 0 0] 24)).block (w.heap.size+1) (by simp)).trans (zjd (w.alloc (.cells #[S n,.int .u16 ty,.int .u16 cls] 32)) _ (w.heap.size+1) (by simp))
  obtain⟨kv,kvf,zv⟩:=zai (w.heap.size+1+1) (by simp) (Z5 (((w.alloc (.cells #[S n,.int .u16 ty,.int .u16 cls] 32)).alloc (.cells (xrw x code (.slice aA ans.length ac) (.slice uA auth.length uc)) 45)).alloc (.cells #[.int .u8 0,.slice none 0 0,.slice none 0 0] 24)))
  rw[←hX]at kq zq zm eu kv kvf zv;have bF:Ext w X:=by rw[hX];exact(((Z5 _).alloc _).alloc _).alloc _
  have ir:w.heap.size+1+1+1=X.heap.size:=by rw[hX];simp
  have HK:=Z7 (show ∀V,Ext X V→V.cell? ⟨w.heap.size,0,none⟩=some (S n)∧V.cell? ⟨w.heap.size,1,none⟩=some (.int .u16 ty)∧V.cell? ⟨w.heap.size,2,none⟩=some (.int .u16 cls)from fun V hV=>⟨(hV.cell (p:=⟨w.heap.size,0,none⟩) zq).trans (kq 0),(hV.cell (p:=⟨w.heap.size,1,none⟩) zq).trans (kq 1),(hV.cell (p:=⟨w.heap.size,2,none⟩) zq).trans (kq 2)⟩)
  have HC:=Z7 (show ∀V,Ext X V→V.cell? ⟨w.heap.size+1,10,none⟩=some (.int .u8 code)∧V.cell? ⟨w.heap.size+1,12,none⟩=some (.slice aA ans.length ac)∧V.cell? ⟨w.heap.size+1,13,none⟩=some (.slice uA auth.length uc)from fun V hV=>⟨zda ((hV.block _ zm).trans eu) 10,zda ((hV.block _ zm).trans eu) 12,zda ((hV.block _ zm).trans eu) 13⟩)
  have mB:=Z7 (show ∀V,Ext X V→(∀j,V.cell? ⟨w.heap.size+1+1,j,none⟩= #[.int .u8 0,.slice none 0 0,.slice none 0 0][j]?)∧(∀j,V.frozen? ⟨w.heap.size+1+1,j,none⟩=false)∧w.heap.size+1+1<V.heap.size from fun V hV=>⟨fun j=>(hV.cell (p:=⟨w.heap.size+1+1,j,none⟩) zv).trans (kv j),fun j=>(hV.frozen (p:=⟨w.heap.size+1+1,j,none⟩) zv).trans (kvf j),Z1 zv hV.size⟩)
  have tJ:=Z7 ir
  clear eu kv kvf zv zm ir;obtain⟨c0,c1,c2⟩:=HK.out X (Z5 _)
  clear kq;go_enter Tryz.func62,Tryz.ntmps62;go_upto_region 1 with fail
  rw[←hX];clear hX;go_wp2_with fail;refine(HM.out X).mono ?_;rintro e w1 ⟨rfl,aV⟩;have q10:=(HC.out _ aV).1
  obtain⟨b0,b1,b2⟩:=mB.out _ (aV)
  go_wp2_with fail;refine bodyPost_ret (v:=.tuple #[.agg #[.int .u8 0,.slice none 0 0,.slice none 0 0],.int .u32 0,.int .i64 1]) (by simp[results,Tryz.results62,go_sem,b0,b1,b2]) rfl ?_
  rw[HR.out];exact zk7 w _ 1 (by have aW:=bF.size;have bI:=bF.trans (aV);exact xt)
 have hR:verOf n ty cls code ans auth=ze8 code cls auth (followOf n ty cls (groupR ans)):=if_pos ⟨hm,hc⟩
 rw[hR];rw[hm]at HM;have HF:=Z7 (fun W lo' v (hS:Sets W lo' v (groupR ans))=>zyr lo' n ty cls v _ W hS cQ hn)
 have lb:=zr2 (groupR ans) n ty cls
 have Ix:=zn8 n ty cls (groupR ans)
 generalize groupR ans=gs1 at*;generalize followOf n ty cls gs1=R at*;have Hc:=Z7 hc
 clear hR hm hc;obtain⟨X,hX⟩:∃X,X=(((w.alloc (.cells #[S n,.int .u16 ty,.int .u16 cls] 32)).alloc (.cells (xrw x code (.slice aA ans.length ac) (.slice uA auth.length uc)) 45)).alloc (.cells #[.int .u8 0,.slice none 0 0,.slice none 0 0] 24)):=⟨_,rfl⟩
 obtain⟨kq,_,zq⟩:=zai (w.heap.size) rfl (((Z5 (w.alloc (.cells #[S n,.int .u16 ty,.int .u16 cls] 32))).alloc (.cells (xrw x code (.slice aA ans.length ac) (.slice uA auth.length uc)) 45)).alloc (.cells #[.int .u8 0,.slice none 0 0,.slice none 0 0] 24))
 have zm:w.heap.size+1<(((w.alloc (.cells #[S n,.int .u16 ty,.int .u16 cls] 32)).alloc (.cells (xrw x code (.slice aA ans.length ac) (.slice uA auth.length uc)) 45)).alloc (.cells #[.int .u8 0,.slice none 0 0,.slice none 0 0] 24)).heap.size:=by simp
 have eu:(((w.alloc (.cells #[S n,.int .u16 ty,.int .u16 cls] 32)).alloc (.cells (xrw x code (.slice aA ans.length ac) (.slice uA auth.length uc)) 45)).alloc (.cells #[.int .u8 0,.slice none 0 0,.slice none 0 0] 24)).heap[w.heap.size+1]? =some (.cells (xrw x code (.slice aA ans.length ac) (.slice uA auth.length uc)) 45):=(((Z5 ((w.alloc (.cells #[S n,.int .u16 ty,.int .u16 cls] 32)).alloc (.cells (xrw x code (.slice aA ans.length ac) (.slice uA auth.length uc)) 45))).alloc (.cells #[.int .u8 0,.slice none 0 0,.slice none 0 0] 24)).block (w.heap.size+1) (by simp)).trans (zjd (w.alloc (.cells #[S n,.int .u16 ty,.int .u16 cls] 32)) _ (w.heap.size+1) (by simp))
 obtain⟨kv,kvf,zv⟩:=zai (w.heap.size+1+1) (by simp) (Z5 (((w.alloc (.cells #[S n,.int .u16 ty,.int .u16 cls] 32)).alloc (.cells (xrw x code (.slice aA ans.length ac) (.slice uA auth.length uc)) 45)).alloc (.cells #[.int .u8 0,.slice none 0 0,.slice none 0 0] 24)))
 rw[←hX]at kq zq zm eu kv kvf zv;have bF:Ext w X:=by rw[hX];exact(((Z5 _).alloc _).alloc _).alloc _
 have ir:w.heap.size+1+1+1=X.heap.size:=by rw[hX];simp
 have HK:=Z7 (show ∀V,Ext X V→V.cell? ⟨w.heap.size,0,none⟩=some (S n)∧V.cell? ⟨w.heap.size,1,none⟩=some (.int .u16 ty)∧V.cell? ⟨w.heap.size,2,none⟩=some (.int .u16 cls)from fun V hV=>⟨(hV.cell (p:=⟨w.heap.size,0,none⟩) zq).trans (kq 0),(hV.cell (p:=⟨w.heap.size,1,none⟩) zq).trans (kq 1),(hV.cell (p:=⟨w.heap.size,2,none⟩) zq).trans (kq 2)⟩)
 have HC:=Z7 (show ∀V,Ext X V→V.cell? ⟨w.heap.size+1,10,none⟩=some (.int .u8 code)∧V.cell? ⟨w.heap.size+1,12,none⟩=some (.slice aA ans.length ac)∧V.cell? ⟨w.heap.size+1,13,none⟩=some (.slice uA auth.length uc)from fun V hV=>⟨zda ((hV.block _ zm).trans eu) 10,zda ((hV.block _ zm).trans eu) 12,zda ((hV.block _ zm).trans eu) 13⟩)
 have mB:=Z7 (show ∀V,Ext X V→(∀j,V.cell? ⟨w.heap.size+1+1,j,none⟩= #[.int .u8 0,.slice none 0 0,.slice none 0 0][j]?)∧(∀j,V.frozen? ⟨w.heap.size+1+1,j,none⟩=false)∧w.heap.size+1+1<V.heap.size from fun V hV=>⟨fun j=>(hV.cell (p:=⟨w.heap.size+1+1,j,none⟩) zv).trans (kv j),fun j=>(hV.frozen (p:=⟨w.heap.size+1+1,j,none⟩) zv).trans (kvf j),Z1 zv hV.size⟩)
 have tJ:=Z7 ir
 clear eu kv kvf zv zm ir;obtain⟨c0,c1,c2⟩:=HK.out X (Z5 _)
 clear kq;go_enter Tryz.func62,Tryz.ntmps62;go_upto_region 1 with fail
 rw[←hX];clear hX;go_cut [32] (fun s32 wx=>s32=.bool false∧Ext X wx)
 case first=>
  rcases Hc.out with rfl|rfl
  ·go_wp2_with fail;refine(HM.out X).mono ?_;rintro e w1 ⟨rfl,aV⟩;have q10:=(HC.out _ aV).1
   go_wp2_with fail;go_meet;exact⟨rfl,aV⟩
  ·go_wp2_with fail;refine(HM.out X).mono ?_;rintro e w1 ⟨rfl,aV⟩;have q10:=(HC.out _ aV).1
   go_wp2_with fail;go_meet;exact⟨rfl,aV⟩
 case rest=>
 obtain⟨rfl,aV⟩:=hcut
 obtain⟨wa,rfl⟩:∃wa:World,wa=wc:=⟨_,rfl⟩
 clear c0 c1 c2;have d9:=Z7 (show ∀V,Ext wa V→V.cell? ⟨w.heap.size,0,none⟩=some (S n)∧V.cell? ⟨w.heap.size,1,none⟩=some (.int .u16 ty)∧V.cell? ⟨w.heap.size,2,none⟩=some (.int .u16 cls)∧V.cell? ⟨w.heap.size+1,12,none⟩=some (.slice aA ans.length ac)from fun V hV=>⟨(HK.out V (aV.trans hV)).1,(HK.out V (aV.trans hV)).2.1,(HK.out V (aV.trans hV)).2.2,(HC.out V (aV.trans hV)).2.1⟩)
 go_wp2_with fail;refine wp_region_noPanic ?_;refine za6 (S:=(fun V=>V.cell? ⟨w.heap.size,0,none⟩=some (S n)∧V.cell? ⟨w.heap.size,1,none⟩=some (.int .u16 ty)∧V.cell? ⟨w.heap.size,2,none⟩=some (.int .u16 cls)∧V.cell? ⟨w.heap.size+1,12,none⟩=some (.slice aA ans.length ac))) (.take 0 (.take 1 (.take 2 (.run 3 (.run 4 (.take 5 (.take 6 (.take 7 (.take 8 (.take 9 (.take 10 (.take 11 (.take 12 (.take 13 (.done))))))))))))))) (by kernel_rfl) (by kernel_rfl) (fun _ _ _ _ _ h=>h) (d9.out _ ((Z5 wa).drew)) ?_
 repeat((with_reducible refine za7 ?_);first
  |(refine za4 (v:=?_) (by rfl) (by rfl) ?_ ?_;rotate_left;(focus(intro V hV;(try dsimp only at hV);(go_simp<;>with_reducible rfl)));(try simp only[ap]))
  |(refine zaf (by rfl) (by rfl) ?_;(try simp only[ap])))
 refine za5 (by rfl) (fun K hK=>?_)
 go_simp;refine(yP.out _ (bF.trans (aV.trans ((Z5 wa).drew)))).mono ?_;rintro e w3 ⟨g3,rfl,cR,ao⟩;have fo:Ext wa w3:=Ext.trans ((Z5 wa).drew) ao
 refine hK.out _ _ ?_ ?_
 ·exact d9.out _ fo
 clear hK K
 (try simp only[ap])
 refine za5 (by rfl) (fun K hK=>?_)
 go_simp;refine(HF.out _ _ _ cR.sets).mono ?_;rintro e w4 ⟨vp,vf,rfl,pS,Ez,aL⟩;have yW:Ext wa w4:=fo.trans aL
 refine hK.out _ _ ?_ ?_
 ·exact d9.out _ yW
 clear hK K
 (try simp only[ap])
 repeat((with_reducible refine za7 ?_);first
  |(refine za4 (v:=?_) (by rfl) (by rfl) ?_ ?_;rotate_left;(focus(intro V hV;(try dsimp only at hV);(go_simp<;>with_reducible rfl)));(try simp only[ap]))
  |(refine zaf (by rfl) (by rfl) ?_;(try simp only[ap])))
 refine zag ?_;refine NoPanic.normal ?_;obtain⟨path,here,fin,er⟩:=R
 dsimp only at*;obtain⟨ps,pA,pc,rfl,bA,oV,I4,Cx,sL,sM⟩:=pS.shapeR
 obtain⟨fs,fA,fc,rfl,j8,oW,I5,Cy,sN,eW⟩:=Ez.shapeR
 have bD:=aV.trans yW
 have pG:=bF.trans bD
 have tL:=lb.len
 have yR:=lb.one
 dsimp only at tL yR;clear pS Ez;by_cases he:er=0
 rotate_left
 ·have HR:=Z7 (show ze8 code cls auth ⟨path,here,fin,er⟩=VerR.bad er from if_neg he)
  have f1:((er:Int)==0)=false:=by rw[beq_eq_false_iff_ne];omega
  have f2:((er:Int)!=0)=true:=by rw[bne,f1];rfl
  clear he oV oW;obtain⟨b0,b1,b2⟩:=mB.out _ (bD)
  go_wp2_with fail;refine bodyPost_ret (v:=.tuple #[.agg #[.int .u8 0,.slice none 0 0,.slice none 0 0],.int .u32 0,.int .i64 er]) (by simp[results,Tryz.results62,go_sem,b0,b1,b2]) rfl ?_
  rw[HR.out];exact zk7 w _ er (by have aW:=bF.size;have bI:=bF.trans (bD);exact xt)
 subst he;by_cases h6:code=3∧0<fin.length
 ·obtain⟨rfl,tM⟩:=h6
  have fV:fin≠[]:=List.length_pos_iff.1 tM
  have HR:=Z7 (show ze8 3 cls auth ⟨path,here,fin,0⟩=VerR.bad 3 by show(if(0:Nat)=0 then(if fin=[]then _ else _)else _)=_;rw[if_pos rfl,if_neg fV];rfl)
  have Cz:(0:Int)<(fin.length:Int):=by omega
  have q10:=(HC.out _ bD).1
  clear fV tM oV oW;obtain⟨b0,b1,b2⟩:=mB.out _ (bD)
  go_wp2_with fail;refine bodyPost_ret (v:=.tuple #[.agg #[.int .u8 0,.slice none 0 0,.slice none 0 0],.int .u32 0,.int .i64 3]) (by simp[results,Tryz.results62,go_sem,b0,b1,b2]) rfl ?_
  rw[HR.out];exact zk7 w _ 3 (by have aW:=bF.size;have bI:=bF.trans (bD);exact xt)
 have bJ:∃all,all=path++fin:=⟨_,rfl⟩
 obtain⟨all,bJ⟩:=bJ
 have sO:∀(k:Nat) (h:k<ps.length),all[k]? =some ps[k].1:=fun k h=>by rw[bJ,List.getElem?_append_left (by omega),←bA,List.getElem?_map,Z3 h];rfl
 have sP:∀(m:Nat) (h:m<fs.length),all[path.length+m]? =some fs[m].1:=fun m h=>by rw[bJ,List.getElem?_append_right (by omega),Nat.add_sub_cancel_left,←j8,List.getElem?_map,Z3 h];rfl
 have fO:all.length=path.length+fin.length:=by rw[bJ,Z6]
 have CA:=Z7 fO
 have xH:=Z7 bJ
 have kR:=Z7 oV
 have I6:=Z7 oW
 unfold maxLen at Cx Cy;obtain⟨j0,iX,kO,jA,gS⟩:=info_parts zfx
 clear bJ fO bA j8 oV oW;have q10:=(HC.out _ bD).1
 go_upto_region 6 with fail
 go_cut [56] (fun s56 wx=>s56=.bool false∧w4=wx)
 case first=>
  by_cases h3:code=3
  ·have h4:decide ((0:Int)<(fin.length:Int))=false:=by rw[decide_eq_false_iff_not];intro h;exact h6 ⟨h3,by omega⟩
   have h5:(code==3)=true:=by rw[h3];rfl
   have I7:decide (0<fin.length)=false:=by rw[decide_eq_false_iff_not];intro h;exact h6 ⟨h3,h⟩
   clear h6 h3;go_wp2_with fail;go_meet;exact⟨by first|rfl|rw[I7],rfl⟩
  ·have h5:(code==3)=false:=by rw[beq_eq_false_iff_ne];exact h3
   clear h6 h3;go_wp2_with fail;go_meet;exact⟨rfl,rfl⟩
 case rest=>
 obtain⟨rfl,rfl⟩:=hcut
 go_wp2_with fail
 go_loopw [12,13] (fun t i wr=>∃(k:Nat),k≤all.length∧i=.int .i64 k∧t=.int .u32 (leastT (all.take k) 2147483647)∧∃(qs:List (SetD×Value)) (B:Option Addr) (dd:Nat),OfInv w4 code all k qs B dd wr) (fun _ i _=>all.length - (intOf i).toNat)
 case atStart=>
  obtain⟨y0,y1,y2⟩:=zap (Z5 (w4.alloc (.cells #[.int .u8 code,.slice none 0 0,.slice none 0 0] 24)))
  exact⟨0,by omega,rfl,rfl,[],none,0,⟨rfl,rfl,y0,y1,y2,Own.nil _ _ _ _,by simp,(Z5 _).alloc _⟩⟩
 case round=>
  obtain⟨k,hk,rfl,rfl,qs,B,dd,hI⟩:=hrel
  obtain⟨wo,rfl⟩:∃wo:World,wo=wr:=⟨_,rfl⟩
  have hE:=hI.ext
  clear q10;by_cases I8:k<all.length
  ·have I9:k<path.length+fin.length:=by have:=CA.out;omega
   by_cases I0:k<path.length
   ·have ab:k<ps.length:=by have:=kR.out;omega
    have hp:ps[k]? =some ps[k]:=Z3 ab
    have bi:all[k]? =some ps[k].1:=sO k ab
    have fk:k<all.length:=(List.getElem?_eq_some_iff.1 bi).1
    have i7:all[k]=ps[k].1:=(List.getElem?_eq_some_iff.1 bi).2
    have gE:=zat all (k) fk
    rw[i7]at gE;have gR:=Z7 gE
    have aZ:=sM ps[k] (List.getElem_mem ab)
    generalize ps[k]=p at*;obtain⟨b,off,rfl,_,az,hc⟩:=sL.2 (by omega)
    obtain⟨c0,c1,c2,c3,c4⟩:=zb0 hc k p hp
    rw[←hE.cell (p:=⟨b,_,none⟩) az]at c0 c1 c2 c3 c4
    have aU:b<wo.heap.size:=Z1 az hE.size
    clear hc hp bi i7 gE sM eW sL sN sO sP fk;obtain⟨⟨nm,ty1,cl1,tt,da⟩,d⟩:=p
    dsimp only at*;obtain⟨dA,dc,rfl⟩:=aZ.shape
    have wK:=Z7 (zje (all.take (k)) ⟨nm,ty1,cl1,tt,da⟩ 2147483647)
    generalize leastT (all.take (k)) 2147483647=tx at*;have cz:((k:Nat):Int)<(path.length:Int)+(fin.length:Int):=by omega
    have rT:(k:Int)<(path.length:Int):=by omega
    have cW:(0:Int)≤(k:Int):=by omega
    have bx:=hI.box
    have bxf:=hI.fro
    have bz:=hI.zb
    have m8:qs.length≤65536:=by have:=hI.len;omega
    have Ja:w4.heap.size≤wo.heap.size:=hE.size
    have fb:=(hI.own.ext ((Z5 wo).alloc (.cells #[S nm,.int .u16 ty1,.int .u16 cl1,.int .u32 0,.slice dA da.length dc] 79))).ext ((Z5 _).alloc (.cells #[S nm,.int .u16 ty1,.int .u16 cl1,.int .u32 0,.slice dA da.length dc] 79))
    have cO:Ext wo ((wo.alloc (.cells #[S nm,.int .u16 ty1,.int .u16 cl1,.int .u32 0,.slice dA da.length dc] 79)).alloc (.cells #[S nm,.int .u16 ty1,.int .u16 cl1,.int .u32 0,.slice dA da.length dc] 79)):=((Z5 _).alloc _).alloc _
    go_wp2_with(
     at_builtin
     refine zad _ rfl (.tmp 93) (.tmp 95) _ rfl (w4.heap.size+1) 79 j0 _ 5 48 Tryz.underlying22 iX kO jA gS rfl (by omega) B qs.length dd (qs.flatMap setCells) rfl fb 0 _ 1 1 (setCells (⟨nm,ty1,cl1,0,da⟩,.slice dA da.length dc)) rfl (zaw _ _ (by simp) _ _ 1 5 rfl) (zg0 ⟨nm,ty1,cl1,0,da⟩ dA da.length dc) (by omega) (by omega) (by simp;omega) ?_
     intro A5 c5 w5 ai bq aG dS;have sQ:∀j,w5.cell? ⟨w4.heap.size,j,none⟩= #[.int .u8 code,.slice B qs.length dd,.slice none 0 0][j]? :=fun j=>((aG.cell (p:=⟨w4.heap.size,j,none⟩) (Nat.lt_succ_self _)).trans (cO.cell (p:=⟨w4.heap.size,j,none⟩) bz)).trans (bx j)
     have sR:∀j,w5.frozen? ⟨w4.heap.size,j,none⟩=false:=fun j=>((aG.frozen (p:=⟨w4.heap.size,j,none⟩) (Nat.lt_succ_self _)).trans (cO.frozen (p:=⟨w4.heap.size,j,none⟩) bz)).trans (bxf j)
     have sS:w4.heap.size<w5.heap.size:=Z1 (Z1 bz cO.size) aG.size
     clear bx bxf bq dS)
    have am:Ext w4 w5:=(hE.trans cO).then aG (Nat.le_succ _)
    go_roundw
    case rel=>
     refine⟨k+1,by omega,by go_num,by rw[gR.out,wK.out],qs++[(⟨nm,ty1,cl1,0,da⟩,.slice dA da.length dc)],A5,c5,⟨by simp[hI.len],by rw[gR.out,List.map_append,List.map_append,hI.fst];rfl,?_,fun j=>by simpa using sR j,by simpa using sS,?_,fun p hp=>?_,am.setCell (Z4 _) _⟩⟩
     ·rw[Z6];exact zic sQ 1 (.slice A5 (qs.length+1) c5) (by simp)
     ·rw[Z6,List.flatMap_append];exact Own.set_other (by simpa using ai) (show w4.heap.size<w4.heap.size+1 from Nat.lt_succ_self _) _
     ·rcases List.mem_append.1 hp with h|h
      ·exact hI.datas p h
      ·rw[List.mem_singleton]at h;subst h;exact aZ
    case measure=>simp[intOf];omega
   ·obtain⟨m,rfl⟩:∃m,k=path.length+m:=⟨k - path.length,by omega⟩
    have ab:m<fs.length:=by have:=I6.out;omega
    have hp:fs[m]? =some fs[m]:=Z3 ab
    have bi:all[path.length+m]? =some fs[m].1:=sP m ab
    have fk:path.length+m<all.length:=(List.getElem?_eq_some_iff.1 bi).1
    have i7:all[path.length+m]=fs[m].1:=(List.getElem?_eq_some_iff.1 bi).2
    have gE:=zat all (path.length+m) fk
    rw[i7]at gE;have gR:=Z7 gE
    have aZ:=eW fs[m] (List.getElem_mem ab)
    generalize fs[m]=p at*;obtain⟨b,off,rfl,_,az,hc⟩:=sN.2 (by omega)
    obtain⟨c0,c1,c2,c3,c4⟩:=zb0 hc m p hp
    rw[←hE.cell (p:=⟨b,_,none⟩) az]at c0 c1 c2 c3 c4
    have aU:b<wo.heap.size:=Z1 az hE.size
    clear hc hp bi i7 gE sM eW sL sN sO sP fk;obtain⟨⟨nm,ty1,cl1,tt,da⟩,d⟩:=p
    dsimp only at*;obtain⟨dA,dc,rfl⟩:=aZ.shape
    have wK:=Z7 (zje (all.take (path.length+m)) ⟨nm,ty1,cl1,tt,da⟩ 2147483647)
    generalize leastT (all.take (path.length+m)) 2147483647=tx at*;have cz:((path.length+m:Nat):Int)<(path.length:Int)+(fin.length:Int):=by omega
    have rT:¬((path.length+m:Nat):Int)<(path.length:Int):=by omega
    have eu:((path.length+m:Nat):Int) - (path.length:Int)=(m:Int):=by omega
    have td:(m:Int)<(fin.length:Int):=by omega
    have cW:(0:Int)≤(m:Int):=by omega
    have bx:=hI.box
    have bxf:=hI.fro
    have bz:=hI.zb
    have m8:qs.length≤65536:=by have:=hI.len;omega
    have Ja:w4.heap.size≤wo.heap.size:=hE.size
    have fb:=(hI.own.ext ((Z5 wo).alloc (.cells #[S nm,.int .u16 ty1,.int .u16 cl1,.int .u32 0,.slice dA da.length dc] 79))).ext ((Z5 _).alloc (.cells #[S nm,.int .u16 ty1,.int .u16 cl1,.int .u32 0,.slice dA da.length dc] 79))
    have cO:Ext wo ((wo.alloc (.cells #[S nm,.int .u16 ty1,.int .u16 cl1,.int .u32 0,.slice dA da.length dc] 79)).alloc (.cells #[S nm,.int .u16 ty1,.int .u16 cl1,.int .u32 0,.slice dA da.length dc] 79)):=((Z5 _).alloc _).alloc _
    go_wp2_with(
     at_builtin
     refine zad _ rfl (.tmp 93) (.tmp 95) _ rfl (w4.heap.size+1) 79 j0 _ 5 48 Tryz.underlying22 iX kO jA gS rfl (by omega) B qs.length dd (qs.flatMap setCells) rfl fb 0 _ 1 1 (setCells (⟨nm,ty1,cl1,0,da⟩,.slice dA da.length dc)) rfl (zaw _ _ (by simp) _ _ 1 5 rfl) (zg0 ⟨nm,ty1,cl1,0,da⟩ dA da.length dc) (by omega) (by omega) (by simp;omega) ?_
     intro A5 c5 w5 ai bq aG dS;have sQ:∀j,w5.cell? ⟨w4.heap.size,j,none⟩= #[.int .u8 code,.slice B qs.length dd,.slice none 0 0][j]? :=fun j=>((aG.cell (p:=⟨w4.heap.size,j,none⟩) (Nat.lt_succ_self _)).trans (cO.cell (p:=⟨w4.heap.size,j,none⟩) bz)).trans (bx j)
     have sR:∀j,w5.frozen? ⟨w4.heap.size,j,none⟩=false:=fun j=>((aG.frozen (p:=⟨w4.heap.size,j,none⟩) (Nat.lt_succ_self _)).trans (cO.frozen (p:=⟨w4.heap.size,j,none⟩) bz)).trans (bxf j)
     have sS:w4.heap.size<w5.heap.size:=Z1 (Z1 bz cO.size) aG.size
     clear bx bxf bq dS)
    have am:Ext w4 w5:=(hE.trans cO).then aG (Nat.le_succ _)
    go_roundw
    case rel=>
     refine⟨path.length+m+1,by omega,by go_num,by rw[gR.out,wK.out],qs++[(⟨nm,ty1,cl1,0,da⟩,.slice dA da.length dc)],A5,c5,⟨by simp[hI.len],by rw[gR.out,List.map_append,List.map_append,hI.fst];rfl,?_,fun j=>by simpa using sR j,by simpa using sS,?_,fun p hp=>?_,am.setCell (Z4 _) _⟩⟩
     ·rw[Z6];exact zic sQ 1 (.slice A5 (qs.length+1) c5) (by simp)
     ·rw[Z6,List.flatMap_append];exact Own.set_other (by simpa using ai) (show w4.heap.size<w4.heap.size+1 from Nat.lt_succ_self _) _
     ·rcases List.mem_append.1 hp with h|h
      ·exact hI.datas p h
      ·rw[List.mem_singleton]at h;subst h;exact aZ
    case measure=>simp[intOf];omega
  ·have cz:¬(k:Int)<(path.length:Int)+(fin.length:Int):=by have:=CA.out;omega
   have e1:all.take k=all:=List.take_of_length_le (by omega)
   have HQ:=Z7 hI.fst
   rw[e1]at HQ ⊢;clear e1;obtain⟨wf,rfl⟩:∃wf:World,wf=wo:=⟨_,rfl⟩
   have xI:=bD.trans hE
   have cF:=bF.trans xI
   have Kn:w4.heap.size≤wf.heap.size:=hE.size
   have bx:=hI.box
   have bxf:=hI.fro
   have bz:=hI.zb
   have kL:w.heap.size+1+1<w4.heap.size:=by have h1:=tJ.out;have h2:=bD.size;omega
   have m7:∀j y,w4.cell? ⟨w.heap.size+1+1,j,none⟩≠some (S y):=fun j y h=>by
    rw[(mB.out _ bD).1 j]at h;rcases j with _|_|_|j<;>simp at h
   have m8:qs.length≤65536:=by have h8:=hI.len;have h9:=CA.out;omega
   obtain⟨b0,b1,b2⟩:=mB.out _ xI
   by_cases fV:fin=[]
   rotate_left
   ·have tM:0<fin.length:=List.length_pos_iff.2 fV
    have ei:code≠3:=fun h=>h6 ⟨h,tM⟩
    have HR:=Z7 (show ze8 code cls auth ⟨path,here,fin,0⟩=⟨code,all.map ttl0,[],leastT all 2147483647,0⟩by
     show(if(0:Nat)=0 then(if fin=[]then _ else zix code path fin)else _)=_
     rw[if_pos rfl,if_neg fV,zix,if_neg ei,xH.out])
    have Cz:(0:Int)<(fin.length:Int):=by omega
    clear fV ei h6;go_wp2_with fail;refine bodyPost_ret (v:=.tuple #[.agg #[.int .u8 code,.slice B qs.length dd,.slice none 0 0],.int .u32 (leastT all 2147483647),.int .i64 0]) (by simp[results,Tryz.results62,go_sem,b0,b1,b2]) rfl ?_
    rw[HR.out];exact⟨_,_,rfl,zti hI (Z5 _) HQ.out kL m7 _ _ _,Sets.nil9 _ _,by have aW:=bF.size;exact xt⟩
   ·subst fV;have oX:Hid (ze8 code cls auth ⟨path,here,[],0⟩=ze9 code path (soaFind (groupR auth) here cls)):=Z7 (by
     show(if(0:Nat)=0 then(if([]:List SetD)=[]then _ else _)else _)=_
     rw[if_pos rfl,if_pos rfl])
    have ja:all=path:=by rw[xH.out,List.append_nil]
    rw[ja]at HQ;have mu:=Z7 (fun s (h:(soaFind (groupR auth) here cls).set=some s)=>(zqi h).1)
    generalize groupR auth=gs2 at*;obtain⟨r,hr⟩:∃r,soaFind gs2 here cls=r:=⟨_,rfl⟩
    rw[hr]at oX mu;have nK:=Z7 hr
    have eJ:=Z7 (show ∀V,Ext wf V→V.cell? ⟨w.heap.size,2,none⟩=some (.int .u16 cls)∧V.cell? ⟨w.heap.size+1,13,none⟩=some (.slice uA auth.length uc)from fun V hV=>⟨(HK.out V (xI.trans hV)).2.2,(HC.out V (xI.trans hV)).2.2⟩)
    have Bx:=Z7 (And.intro bx (And.intro bxf bz))
    have B0:=Z7 (And.intro b0 (And.intro b1 b2))
    have Jb:=Z7 ja
    clear hr ja bx bxf bz b0 b1 b2 h6;go_upto_region 22 with fail
    go_cut [10,15,16] (fun s10 s15 s16 wx=>∃(g2 dc:Nat) (dA:Option Addr),s10=.int .i64 r.err∧s15=.pointer (some ⟨g2,0,none⟩)∧s16=.bool r.set.isSome∧(∀j,wx.cell? ⟨g2,j,none⟩= #[S (r.set.getD SetD.zero).name,.int .u16 (r.set.getD SetD.zero).typ,.int .u16 (r.set.getD SetD.zero).cls,.int .u32 (r.set.getD SetD.zero).ttl,.slice dA (r.set.getD SetD.zero).data.length dc][j]?)∧(∀j,wx.frozen? ⟨g2,j,none⟩=false)∧wf.heap.size≤g2∧g2<wx.heap.size∧OStrs wx wf.heap.size (.slice dA (r.set.getD SetD.zero).data.length dc) (r.set.getD SetD.zero).data∧((Value.slice dA (r.set.getD SetD.zero).data.length dc).ownBlock=none∨(Value.slice dA (r.set.getD SetD.zero).data.length dc).ownBlock≠some g2)∧Ext wf wx)
    case first=>
     as_aux_lemma=>
      refine wp_region_noPanic ?_;refine za6 (S:=(fun V=>V.cell? ⟨w.heap.size,2,none⟩=some (.int .u16 cls)∧V.cell? ⟨w.heap.size+1,13,none⟩=some (.slice uA auth.length uc))) (.take 0 (.take 1 (.take 3 (.take 4 (.take 5 (.run2 2 (.run2 6 (.take 7 (.take 8 (.take 9 (.take 10 (.run 11 (.run 12 (.take 13 (.take 14 (.done))))))))) 11 (.run 6 (.take 7 (.take 8 (.take 9 (.take 10 (.run 12 (.take 13 (.take 14 (.done)))))))))) 11 (.run 2 (.run 6 (.take 7 (.take 8 (.take 9 (.take 10 (.run 12 (.take 13 (.take 14 (.done)))))))))))))))) (by kernel_rfl) (by kernel_rfl) (fun _ _ _ _ _ h=>h) (eJ.out _ ((Z5 wf).drew)) ?_
      repeat((with_reducible refine za7 ?_);first
       |(refine za4 (v:=?_) (by rfl) (by rfl) ?_ ?_;rotate_left;(focus(intro V hV;(try dsimp only at hV);(go_simp<;>with_reducible rfl)));(try simp only[ap]))
       |(refine zaf (by rfl) (by rfl) ?_;(try simp only[ap])))
      refine ziv ?_ ?_
      ·refine za5 (by rfl) (fun K hK=>?_)
       go_simp;refine(sg.out _ (cF.trans ((Z5 wf).drew))).mono ?_;rintro e w5 ⟨g5,rfl,⟨qs5,gA,gc,dx,rfl,eS,gQ⟩,am⟩;have gy:=eS.lower (show wf.heap.size≤_ by simp)
       have tY:=Z7 (fun p hp=>(gQ p hp).lower (show wf.heap.size≤_ by simp))
       have jV:=Z7 (fun W (hW:Ext w5 W)=>zpc wf.heap.size qs5 gA gc gs2 here cls W dx gy.cap.1 gy.cap.2 (gy.rd.ext hW) (fun p hp=>(tY.out p hp).strs.ext hW) cj (by omega))
       rw[nK.out]at jV;clear dx eS gQ gy;have cE:Ext wf w5:=Ext.trans ((Z5 wf).drew) am
       have oY:wf.heap.size≤w5.heap.size:=cE.size
       refine hK.out _ _ ?_ ?_
       ·exact eJ.out _ cE
       clear hK K
       (try simp only[ap])
       refine ziv ?_ ?_
       ·refine za5 (by rfl) (fun K hK=>?_)
        go_simp;refine(jV.out _ (show Ext w5 w5 from xt)).mono ?_;rintro e w6 ⟨d6,rfl,xJ,aw⟩
        have dw:OStrs w5 wf.heap.size d6 (r.set.getD SetD.zero).data:=xJ (fun v s=>OStrs w5 wf.heap.size v s.data) (fun p hp=>tY.out p hp) ⟨none,0,rfl,Own.nil _ _ _ _⟩
        have tZ:Ext w5 w6:=Ext.trans (show Ext w5 w5 from xt) aw
        obtain⟨dA,dc,rfl,iB⟩:=dw
        have nb:Ext wf w6:=Ext.trans cE aw
        have xK:wf.heap.size≤w6.heap.size:=nb.size
        refine hK.out _ _ ?_ ?_
        ·exact eJ.out _ nb
        clear hK K
        (try simp only[ap])
        repeat((with_reducible refine za7 ?_);first
         |(refine za4 (v:=?_) (by rfl) (by rfl) ?_ ?_;rotate_left;(focus(intro V hV;(try dsimp only at hV);(go_simp<;>with_reducible rfl)));(try simp only[ap]))
         |(refine zaf (by rfl) (by rfl) ?_;(try simp only[ap])))
        refine za5 (by rfl) (fun K hK=>?_)
        go_simp;obtain⟨z2,zf2,zz2⟩:=zai (w:=w6) (w6.heap.size) rfl (Z5 (w6.alloc (.cells #[S [],.int .u16 0,.int .u16 0,.int .u32 0,.slice none 0 0] 79)))
        refine hK.out _ _ ?_ ?_
        ·exact eJ.out _ xt
        clear hK K
        (try simp only[ap])
        refine za5 (by rfl) (fun K hK=>?_)
        go_simp;refine hK.out _ _ ?_ ?_
        ·exact eJ.out _ xt
        clear hK K
        (try simp only[ap])
        repeat((with_reducible refine za7 ?_);first
         |(refine za4 (v:=?_) (by rfl) (by rfl) ?_ ?_;rotate_left;(focus(intro V hV;(try dsimp only at hV);(go_simp<;>with_reducible rfl)));(try simp only[ap]))
         |(refine zaf (by rfl) (by rfl) ?_;(try simp only[ap])))
        refine zag ?_;refine NoPanic.normal ?_;go_wp2_with fail;go_meet;exact⟨w6.heap.size,dc,dA,rfl,rfl,rfl,(fun j=>World.cell?_alloc_mark w6 _ _ _ j),(zap (Z5 (w6.alloc (.cells #[S (r.set.getD SetD.zero).name,.int .u16 (r.set.getD SetD.zero).typ,.int .u16 (r.set.getD SetD.zero).cls,.int .u32 (r.set.getD SetD.zero).ttl,.slice dA (r.set.getD SetD.zero).data.length dc] 79)))).2.1,nb.size,by simp,(show OStrs w6 wf.heap.size _ _ from⟨dA,dc,rfl,iB.ext tZ⟩).ext ((Z5 _).alloc _),ztj (iB.ext tZ) (Z4 _),nb.alloc _⟩
       ·refine za5 (by rfl) (fun K hK=>?_)
        go_simp;obtain⟨z1,zf1,zz1⟩:=zai (w:=w5) (w5.heap.size) rfl (Z5 (w5.alloc (.cells #[S [],.int .u16 0,.int .u16 0,.int .u32 0,.slice none 0 0] 79)))
        refine hK.out _ _ ?_ ?_
        ·exact eJ.out _ xt
        clear hK K
        (try simp only[ap])
        refine za5 (by rfl) (fun K hK=>?_)
        go_simp;refine(jV.out _ (show Ext w5 (w5.alloc (.cells #[S [],.int .u16 0,.int .u16 0,.int .u32 0,.slice none 0 0] 79)) from xt)).mono ?_;rintro e w6 ⟨d6,rfl,xJ,aw⟩
        have dw:OStrs w5 wf.heap.size d6 (r.set.getD SetD.zero).data:=xJ (fun v s=>OStrs w5 wf.heap.size v s.data) (fun p hp=>tY.out p hp) ⟨none,0,rfl,Own.nil _ _ _ _⟩
        have tZ:Ext w5 w6:=Ext.trans (show Ext w5 (w5.alloc (.cells #[S [],.int .u16 0,.int .u16 0,.int .u32 0,.slice none 0 0] 79)) from xt) aw
        obtain⟨dA,dc,rfl,iB⟩:=dw
        have nb:Ext wf w6:=Ext.trans (Ext.alloc cE _) aw
        have xK:wf.heap.size≤w6.heap.size:=nb.size
        have z2:∀j,w6.cell? ⟨w5.heap.size,j,none⟩= #[S [],.int .u16 0,.int .u16 0,.int .u32 0,.slice none 0 0][j]? :=fun j=>(aw.cell (p:=⟨w5.heap.size,j,none⟩) zz1).trans (z1 j)
        have zf2:∀j,w6.frozen? ⟨w5.heap.size,j,none⟩=false:=fun j=>(aw.frozen (p:=⟨w5.heap.size,j,none⟩) zz1).trans (zf1 j)
        have zz2:w5.heap.size<w6.heap.size:=Z1 zz1 aw.size
        refine hK.out _ _ ?_ ?_
        ·exact eJ.out _ nb
        clear hK K
        (try simp only[ap])
        repeat((with_reducible refine za7 ?_);first
         |(refine za4 (v:=?_) (by rfl) (by rfl) ?_ ?_;rotate_left;(focus(intro V hV;(try dsimp only at hV);(go_simp<;>with_reducible rfl)));(try simp only[ap]))
         |(refine zaf (by rfl) (by rfl) ?_;(try simp only[ap])))
        refine za5 (by rfl) (fun K hK=>?_)
        go_simp;refine hK.out _ _ ?_ ?_
        ·exact eJ.out _ xt
        clear hK K
        (try simp only[ap])
        repeat((with_reducible refine za7 ?_);first
         |(refine za4 (v:=?_) (by rfl) (by rfl) ?_ ?_;rotate_left;(focus(intro V hV;(try dsimp only at hV);(go_simp<;>with_reducible rfl)));(try simp only[ap]))
         |(refine zaf (by rfl) (by rfl) ?_;(try simp only[ap])))
        refine zag ?_;refine NoPanic.normal ?_;go_wp2_with fail;go_meet;have mC:(Value.slice dA (r.set.getD SetD.zero).data.length dc).ownBlock=none∨(Value.slice dA (r.set.getD SetD.zero).data.length dc).ownBlock≠some w5.heap.size:=ztj iB (Z4 _)
        exact⟨w5.heap.size,dc,dA,rfl,rfl,rfl,zhj z2 (S (r.set.getD SetD.zero).name) (.int .u16 (r.set.getD SetD.zero).typ) (.int .u16 (r.set.getD SetD.zero).cls) (.int .u32 (r.set.getD SetD.zero).ttl) (.slice dA (r.set.getD SetD.zero).data.length dc),(fun j=>by simpa using zf2 j),oY,(by simpa using zz2),(show OStrs _ wf.heap.size _ _ from⟨dA,dc,rfl,(zDd (iB.ext tZ) mC _ _ _ _ _).lower (by first|exact Z4 _|omega)⟩),mC,(by have bH:=oY;exact xt)⟩
      ·refine za5 (by rfl) (fun K hK=>?_)
       go_simp;obtain⟨z0,zf0,zz0⟩:=zai (w:=wf.drew) (wf.heap.size) rfl (Z5 (wf.drew.alloc (.cells #[S [],.int .u16 0,.int .u16 0,.int .u32 0,.slice none 0 0] 79)))
       refine hK.out _ _ ?_ ?_
       ·exact eJ.out _ xt
       clear hK K
       (try simp only[ap])
       refine za5 (by rfl) (fun K hK=>?_)
       go_simp;refine(sg.out _ (cF.trans (Ext.alloc ((Z5 wf).drew) _))).mono ?_;rintro e w5 ⟨g5,rfl,⟨qs5,gA,gc,dx,rfl,eS,gQ⟩,am⟩;have gy:=eS.lower (show(wf.heap.size+1)≤_ by simp)
       have tY:=Z7 (fun p hp=>(gQ p hp).lower (show(wf.heap.size+1)≤_ by simp))
       have jV:=Z7 (fun W (hW:Ext w5 W)=>zpc (wf.heap.size+1) qs5 gA gc gs2 here cls W dx gy.cap.1 gy.cap.2 (gy.rd.ext hW) (fun p hp=>(tY.out p hp).strs.ext hW) cj (by omega))
       rw[nK.out]at jV;clear dx eS gQ gy;have cE:Ext wf w5:=Ext.trans (Ext.alloc ((Z5 wf).drew) _) am
       have oY:wf.heap.size≤w5.heap.size:=cE.size
       have z1:∀j,w5.cell? ⟨wf.heap.size,j,none⟩= #[S [],.int .u16 0,.int .u16 0,.int .u32 0,.slice none 0 0][j]? :=fun j=>(am.cell (p:=⟨wf.heap.size,j,none⟩) zz0).trans (z0 j)
       have zf1:∀j,w5.frozen? ⟨wf.heap.size,j,none⟩=false:=fun j=>(am.frozen (p:=⟨wf.heap.size,j,none⟩) zz0).trans (zf0 j)
       have zz1:wf.heap.size<w5.heap.size:=Z1 zz0 am.size
       refine hK.out _ _ ?_ ?_
       ·exact eJ.out _ cE
       clear hK K
       (try simp only[ap])
       refine za5 (by rfl) (fun K hK=>?_)
       go_simp;refine(jV.out _ (show Ext w5 w5 from xt)).mono ?_;rintro e w6 ⟨d6,rfl,xJ,aw⟩
       have dw:OStrs w5 (wf.heap.size+1) d6 (r.set.getD SetD.zero).data:=xJ (fun v s=>OStrs w5 (wf.heap.size+1) v s.data) (fun p hp=>tY.out p hp) ⟨none,0,rfl,Own.nil _ _ _ _⟩
       have tZ:Ext w5 w6:=Ext.trans (show Ext w5 w5 from xt) aw
       obtain⟨dA,dc,rfl,iB⟩:=dw
       have nb:Ext wf w6:=Ext.trans cE aw
       have xK:wf.heap.size≤w6.heap.size:=nb.size
       have z2:∀j,w6.cell? ⟨wf.heap.size,j,none⟩= #[S [],.int .u16 0,.int .u16 0,.int .u32 0,.slice none 0 0][j]? :=fun j=>(aw.cell (p:=⟨wf.heap.size,j,none⟩) zz1).trans (z1 j)
       have zf2:∀j,w6.frozen? ⟨wf.heap.size,j,none⟩=false:=fun j=>(aw.frozen (p:=⟨wf.heap.size,j,none⟩) zz1).trans (zf1 j)
       have zz2:wf.heap.size<w6.heap.size:=Z1 zz1 aw.size
       refine hK.out _ _ ?_ ?_
       ·exact eJ.out _ nb
       clear hK K
       (try simp only[ap])
       repeat((with_reducible refine za7 ?_);first
        |(refine za4 (v:=?_) (by rfl) (by rfl) ?_ ?_;rotate_left;(focus(intro V hV;(try dsimp only at hV);(go_simp<;>with_reducible rfl)));(try simp only[ap]))
        |(refine zaf (by rfl) (by rfl) ?_;(try simp only[ap])))
       refine za5 (by rfl) (fun K hK=>?_)
       go_simp;refine hK.out _ _ ?_ ?_
       ·exact eJ.out _ xt
       clear hK K
       (try simp only[ap])
       repeat((with_reducible refine za7 ?_);first
        |(refine za4 (v:=?_) (by rfl) (by rfl) ?_ ?_;rotate_left;(focus(intro V hV;(try dsimp only at hV);(go_simp<;>with_reducible rfl)));(try simp only[ap]))
        |(refine zaf (by rfl) (by rfl) ?_;(try simp only[ap])))
       refine zag ?_;refine NoPanic.normal ?_;go_wp2_with fail;go_meet;have mC:(Value.slice dA (r.set.getD SetD.zero).data.length dc).ownBlock=none∨(Value.slice dA (r.set.getD SetD.zero).data.length dc).ownBlock≠some wf.heap.size:=zFe iB (by simp)
       exact⟨wf.heap.size,dc,dA,rfl,rfl,rfl,zhj z2 (S (r.set.getD SetD.zero).name) (.int .u16 (r.set.getD SetD.zero).typ) (.int .u16 (r.set.getD SetD.zero).cls) (.int .u32 (r.set.getD SetD.zero).ttl) (.slice dA (r.set.getD SetD.zero).data.length dc),(fun j=>by simpa using zf2 j),Z4 _,(by simpa using zz2),(show OStrs _ wf.heap.size _ _ from⟨dA,dc,rfl,(zDd (iB.ext tZ) mC _ _ _ _ _).lower (by first|exact Z4 _|omega)⟩),mC,(by have bH:=oY;exact xt)⟩
    case rest=>
    obtain⟨g2,dc,dA,rfl,rfl,rfl,a9,iN,jE,cB,aK,sh,dm⟩:=hcut
    obtain⟨Y,rfl⟩:∃Y:World,Y=wc:=⟨_,rfl⟩
    have dO:=xI.trans dm
    have lf:=bF.trans dO
    have Ko:=hE.trans dm
    have EA:=Z7 (show ∀V,Ext Y V→(∀j,V.cell? ⟨w4.heap.size,j,none⟩= #[.int .u8 code,.slice B qs.length dd,.slice none 0 0][j]?)∧(∀j,V.frozen? ⟨w4.heap.size,j,none⟩=false)∧w4.heap.size<V.heap.size from fun V hV=>⟨fun j=>((dm.trans hV).cell (p:=⟨w4.heap.size,j,none⟩) Bx.out.2.2).trans (Bx.out.1 j),fun j=>((dm.trans hV).frozen (p:=⟨w4.heap.size,j,none⟩) Bx.out.2.2).trans (Bx.out.2.1 j),Z1 Bx.out.2.2 (dm.trans hV).size⟩)
    have bzf:=Bx.out.2.2
    rcases r with⟨st,er⟩
    dsimp only at*;by_cases fC:er=0
    rotate_left
    ·have HR:=Z7 (oX.out.trans (show ze9 code path ⟨st,er⟩=VerR.bad er from if_neg fC))
     have f1:((er:Int)==0)=false:=by rw[beq_eq_false_iff_ne];omega
     have f2:((er:Int)!=0)=true:=by rw[bne,f1];rfl
     clear fC;obtain⟨b0,b1,b2⟩:=mB.out _ (dO)
     go_wp2_with fail;refine bodyPost_ret (v:=.tuple #[.agg #[.int .u8 0,.slice none 0 0,.slice none 0 0],.int .u32 0,.int .i64 er]) (by simp[results,Tryz.results62,go_sem,b0,b1,b2]) rfl ?_
     rw[HR.out];exact zk7 w _ er (by have aW:=bF.size;have bI:=bF.trans (dO);exact xt)
    subst fC;rcases st with _|s
    ·have HR:=Z7 (oX.out.trans (show ze9 code path ⟨none,0⟩=⟨code,path.map ttl0,[],0,0⟩from rfl))
     dsimp only[Option.getD,Option.isSome]at*;obtain⟨b0,b1,b2⟩:=mB.out _ dO
     obtain⟨v0,v1,v2⟩:=EA.out _ (Z5 _)
     go_wp2_with fail;refine bodyPost_ret (v:=.tuple #[.agg #[.int .u8 code,.slice B qs.length dd,.slice none 0 0],.int .u32 0,.int .i64 0]) (by simp[results,Tryz.results62,go_sem,b0,b1,b2]) rfl ?_
     rw[HR.out];exact⟨_,_,rfl,zti hI dm HQ.out kL m7 _ _ _,Sets.nil9 _ _,by have aW:=bF.size;exact xt⟩
    ·have HR:=Z7 (oX.out.trans (show ze9 code path ⟨some s,0⟩=⟨code,path.map ttl0,[ttl0 s],leastT path (soaTime s),0⟩from rfl))
     have dR:=mu.out s rfl
     have i5:=cj s dR
     have t9:=I3.out s dR
     dsimp only[Option.getD,Option.isSome]at*;have CB:=Z7 (zAf path (soaTime s) (zyz s t9).2)
     have wR:=Z7 (fun W (hW:Ext Y W)=>zyi wf.heap.size s _ W (aK.strs.ext hW) i5.2.2 t9)
     generalize soaTime s=tm at*;rw[Jb.out];generalize pF:leastT path 2147483647=lp at*;clear pF;go_wp2_with fail;refine(wR.out _ (Z5 _)).mono ?_;rintro e w7 ⟨rfl,aS⟩;have g7:∀j,w7.cell? ⟨g2,j,none⟩=_:=fun j=>(aS.cell (p:=⟨g2,j,none⟩) cB).trans (a9 j)
     have g7f:∀j,w7.frozen? ⟨g2,j,none⟩=false:=fun j=>(aS.frozen (p:=⟨g2,j,none⟩) cB).trans (iN j)
     have g7z:g2<w7.heap.size:=Z1 cB aS.size
     obtain⟨b0,b1,b2⟩:=mB.out _ (dO.trans aS)
     obtain⟨v0,v1,v2⟩:=EA.out _ aS
     have n1:g2≠w4.heap.size:=by omega
     have n2:g2≠w.heap.size+1+1:=by omega
     have n3:w4.heap.size≠w.heap.size+1+1:=by omega
     have n4:w4.heap.size≠g2:=by omega
     have n5:w.heap.size+1+1≠g2:=by omega
     have n6:w.heap.size+1+1≠w4.heap.size:=by omega
     clear a9 iN cB;go_wp2_with fail;refine bodyPost_ret (v:=.tuple #[.agg #[.int .u8 code,.slice B qs.length dd,.slice (some ⟨w7.heap.size,0,none⟩) 1 1],.int .u32 (min lp tm),.int .i64 0]) (by simp[results,Tryz.results62,go_sem,b0,b1,b2,n1,n2,n3,n4,n5,n6]) rfl ?_
     have CC:=dm.trans aS
     have Jc:wf.heap.size≤w7.heap.size:=CC.size
     have Jd:=hE.trans CC
     have Je:=bF.trans (dO.trans aS)
     obtain⟨V0,cX⟩:∃V0,V0=(((((w7.setCell ⟨g2,3,none⟩ (.int .u32 0)).setCell ⟨w4.heap.size,2,none⟩ (.slice (some ⟨w7.heap.size,0,none⟩) 1 1)).setCell ⟨w.heap.size+1+1,0,none⟩ (.int .u8 code)).setCell ⟨w.heap.size+1+1,1,none⟩ (.slice B qs.length dd)).setCell ⟨w.heap.size+1+1,2,none⟩ (.slice (some ⟨w7.heap.size,0,none⟩) 1 1)):=⟨_,rfl⟩
     rw[←cX];have aF:V0.heap.size=w7.heap.size:=by rw[cX];simp
     have Jf:Ext w4 ((w7.setCell ⟨g2,3,none⟩ (.int .u32 0)).setCell ⟨w4.heap.size,2,none⟩ (.slice (some ⟨w7.heap.size,0,none⟩) 1 1)):=(Jd.setCell (show w4.heap.size≤g2 by omega) _).setCell (Z4 _) _
     have Jg:Ext wf (w7.setCell ⟨g2,3,none⟩ (.int .u32 0)):=CC.setCell jE _
     have s1:Sets V0 0 (.slice B qs.length dd) (path.map ttl0):=by
      rw[cX];exact zwk hI HQ.out m7 (zcb (zcb (zcb (zca Jf) 0 _) 1 _) 2 _) (by simp;omega) (((((hI.own.ext Jg).set_other (show w4.heap.size<w4.heap.size+1 by omega) _).set_other (show w.heap.size+1+1<w4.heap.size+1 by omega) _).set_other (show w.heap.size+1+1<w4.heap.size+1 by omega) _).set_other (show w.heap.size+1+1<w4.heap.size+1 by omega) _)
     have o1:OStrs V0 wf.heap.size (.slice dA s.data.length dc) s.data:=by
      rw[cX];exact zde (zde (zde (zde ((aK.ext aS).set_other (p:=⟨g2,3,none⟩) _ sh) (show w4.heap.size<wf.heap.size from bzf) _) (show w.heap.size+1+1<wf.heap.size by omega) _) (show w.heap.size+1+1<wf.heap.size by omega) _) (show w.heap.size+1+1<wf.heap.size by omega) _
     have e0:Ext w V0:=by
      have aW:=bF.size
      have iy:w.heap.size≤w4.heap.size:=pG.size
      rw[cX];exact((((Je.setCell (show w.heap.size≤g2 by omega) _).setCell iy _).setCell (show w.heap.size≤w.heap.size+1+1 by omega) _).setCell (show w.heap.size≤w.heap.size+1+1 by omega) _).setCell (show w.heap.size≤w.heap.size+1+1 by omega) _
     clear cX;rw[HR.out,←CB.out];refine⟨_,_,rfl,s1.ext ((Z5 _).alloc _),?_,e0.alloc _⟩;obtain⟨y0,_,y2⟩:=zai (w:=V0) (w7.heap.size) aF.symm (Z5 (V0.alloc (.cells #[S s.name,.int .u16 s.typ,.int .u16 s.cls,.int .u32 0,.slice dA s.data.length dc] 79)))
     exact zh6 (s:=ttl0 s) (dv:=.slice dA s.data.length dc) y0 y2 ((OStrs.lower0 o1).strs.ext ((Z5 _).alloc _))
end Go.Proofs.YtdnpmapelmjfpaaGreatDoor
namespace Go.Proofs.YtdnpmapelmjfpaaGreatDoor
section
variable {P : Program} {ops : Array Oper} {Q : Exit → Act → World → Prop} {S : World → Prop} {V : World}
def wpW (P:Program) (ops:Array Oper) (V:World) (n:Nat):List Nat→Act→Act→Prop
 |[],a,a'=>a=a'
 |i::is,a,a'=>∃o d x,nth ops.toList i=some o∧o.dst=some d∧Nat.blt d n=true∧zpq o.op=true∧wpList P ops (fun e y z=>e=.normal∧y=x∧z=V) [o] a V∧wpW P ops V n is x a'
def zmr (ops:Array Oper) (is:List Nat):List (Option Nat):=is.map fun i=>(nth ops.toList i).bind (·.dst)
def zxg:List (Option Nat)→Bool
 |[]=>true
 |x::r=>(!r.contains x)&&zxg r
theorem zet {n:Nat} {a:Act}:wpW P ops V n [] a a:=rfl
theorem ze3 {n i d:Nat} {is:List Nat} {a a' x:Act} {o:Oper} (ho:nth ops.toList i=some o) (hd:o.dst=some d) (ab:Nat.blt d n=true) (hv:zpq o.op=true)
 (h1:∀Q':Exit→Act→World→Prop,Shut (Q' .normal x V)→wpList P ops Q' [o] a V) (h2:wpW P ops V n is x a'):wpW P ops V n (i::is) a a':=
 ⟨o,d,x,ho,hd,ab,hv,h1 _ ⟨rfl,rfl,rfl⟩,h2⟩
theorem zka {o:Oper} {a x:Act} (hv:zpq o.op=true) (h1:wpList P ops (fun e y z=>e=.normal∧y=x∧z=V) [o] a V):
 (Region.wanted o (yielded ops a.tmps)=true∧∃v,(execOp a.eval o).run P V=.ok (.value v) V∧a.put o.dst v=x)∨(Region.wanted o (yielded ops a.tmps)=false∧a.put o.dst undef=x):=by
 unfold wpList at h1;split at h1
 ·rename_i hw;refine .inl ⟨hw,?_⟩;rcases h1 with h1|⟨_,x,y,hx,_⟩
  case inr=>cases hx
  unfold Oper.wp at h1;cases hr:(execOp a.eval o).run P V with
  |ok n w1=>
   obtain⟨v,rfl⟩:=zrw hv hr
   rw[hr]at h1;obtain⟨_,h2,h3⟩:=h1
   subst h3;exact⟨v,rfl,h2⟩
  |halt x w1=>
   rw[hr]at h1;cases x<;>first|exact h1.elim|(obtain⟨h2,_⟩:=h1;cases h2)
 ·rename_i hw;obtain⟨_,h2,_⟩:=h1
  exact .inr ⟨by simpa using hw,h2⟩
theorem zp9 {a:Act} {d e:Nat} {v:Value} (h:e≠d):(a.put (some e) v).tmps.getD d undef=a.tmps.getD d undef:=by
 simp only[Act.put];by_cases hd:d<a.tmps.size
 ·simp[hd,Array.getElem_setIfInBounds_ne hd h]
 ·simp[hd]
theorem zok {n:Nat}:∀(is:List Nat) (a a':Act) (d:Nat),wpW P ops V n is a a'→(zmr ops is).contains (some d)=false→a'.tmps.getD d undef=a.tmps.getD d undef
 |[],a,a',d,h,_=>by cases h;rfl
 |i::is,a,a',d,⟨o,e,x,ho,hd,ab,hv,h1,h2⟩,hc=>by
  simp only[zmr,List.map_cons,ho,Option.bind_some,hd,List.contains_cons,Bool.or_eq_false_iff,beq_eq_false_iff_ne]at hc;have au:e≠d:=fun h=>hc.1 (by rw[h])
  rw[zok is x a' d h2 hc.2];rcases zka hv h1 with⟨_,v,_,hx⟩|⟨_,hx⟩
  ·rw[←hx,hd,zp9 au]
  ·rw[←hx,hd,zp9 au]
theorem ztu {a:Act} {d:Option Nat} {v:Value}:(a.put d v).tmps.size=a.tmps.size:=by
 cases d<;>simp[Act.put]
theorem zco (vx:∃V,S V) (n:Nat) {r:Tr} {w:World}:∀(is:List Nat) {a a':Act},a.tmps.size=n→zxg (zmr ops is)=true→(∀V,S V→wpW P ops V n is a a')→zd4 P ops Q S r a' w→zd4 P ops Q S (zi9 is r) a w
 |[],a,a',_,_,hy,h=>by
  obtain⟨V0,cX⟩:=vx
  cases hy V0 cX;exact h
 |i::is,a,a',hz,hd,hy,h=>by
  have gn:=hd
  simp only[zmr,List.map_cons,zxg,Bool.and_eq_true,Bool.not_eq_true']at hd;obtain⟨V0,cX⟩:=id vx
  obtain⟨o,d,x,ho,qu,ab,hv,h1,h2⟩:=hy V0 cX
  have bC:d<a.tmps.size:=by rw[hz];simpa[Nat.blt_eq]using ab
  have qf:(zmr ops is).contains (some d)=false:=by
   have:=hd.1
   rw[ho,Option.bind_some,qu]at this;exact this
  have ks:∀v y,a.put o.dst v=y→v=y.tmps.getD d undef:=by
   intro v y e;rw[←e,qu];simp[Act.put,bC]
  have key:∀V,S V→wpW P ops V n is x a'∧((Region.wanted o (yielded ops a.tmps)=true∧(execOp a.eval o).run P V=.ok (.value (x.tmps.getD d undef)) V∧a.put o.dst (x.tmps.getD d undef)=x)∨(Region.wanted o (yielded ops a.tmps)=false∧a.put o.dst undef=x)):=by
   intro V hV;obtain⟨o2,d2,y,aI,oZ,_,k8,k1,k2⟩:=hy V hV
   rw[ho]at aI;injection aI with aI
   subst aI;rw[qu]at oZ;injection oZ with oZ
   subst oZ;have e1:=zok is x a' d h2 qf
   have e2:=zok is y a' d k2 qf
   have e3:x.tmps.getD d undef=y.tmps.getD d undef:=e1.symm.trans e2
   have ey:y=x:=by
    have fin:∀v u,a.put o.dst v=x→a.put o.dst u=y→y=x:=by
     intro v u hx hu;have:u=v:=(ks u y hu).trans (e3.symm.trans (ks v x hx).symm)
     rw[←hx,←hu,this]
    rcases zka hv h1 with⟨_,v,_,hx⟩|⟨_,hx⟩
    ·rcases zka hv k1 with⟨_,u,_,hu⟩|⟨_,hu⟩
     ·exact fin _ _ hx hu
     ·exact fin _ _ hx hu
    ·rcases zka hv k1 with⟨_,u,_,hu⟩|⟨_,hu⟩
     ·exact fin _ _ hx hu
     ·exact fin _ _ hx hu
   subst ey;refine⟨k2,?_⟩;rcases zka hv k1 with⟨hw,u,hr,hu⟩|⟨hw,hu⟩
   ·have:=ks u y hu
    rw[←this];exact .inl ⟨hw,hr,hu⟩
   ·exact .inr ⟨hw,hu⟩
  have tS:x.tmps.size=n:=by
   rcases(key V0 cX).2 with⟨_,_,hx⟩|⟨_,hx⟩
   ·rw[←hx,ztu];exact hz
   ·rw[←hx,ztu];exact hz
  have ih:=zco vx n is tS (by simpa[zmr]using hd.2) (fun V hV=>(key V hV).1) h
  have fy:ops[i]? =some o:=by rw[zf3]at ho;simpa using ho
  rcases(key V0 cX).2 with⟨hw,_,hx⟩|⟨hw,hx⟩
  ·refine⟨o,x.tmps.getD d undef,fy,.inl ⟨hw,fun V hV=>?_⟩,by rw[hx];exact ih⟩
   rcases(key V hV).2 with⟨_,hr,_⟩|⟨vy,_⟩
   ·exact hr
   ·rw[hw]at vy;cases vy
  ·exact⟨o,undef,fy,.inr ⟨hw,rfl⟩,by rw[hx];exact ih⟩
end
end Go.Proofs.YtdnpmapelmjfpaaGreatDoor
namespace Go.Proofs.YtdnpmapelmjfpaaGreatDoor
open Go.RowKit
def zhs (k:Nat):Nat→Code→Option Code
 |0,_=>none
 |_+1,.region i ops b=>if i=k then some (.region i ops b)else none
 |n+1,.seq a b=>(zhs k n a).orElse fun _=>zhs k n b
 |n+1,.cond _ a b=>(zhs k n a).orElse fun _=>zhs k n b
 |n+1,.loop a=>zhs k n a
 |n+1,.scope a=>zhs k n a
 |n+1,.block _ a=>zhs k n a
 |_+1,_=>none
theorem zle (w:World) (zs cs:Array Value) (t:TypeId) (g:Nat) (hg:g=w.heap.size):(w.alloc (.cells zs t)).setRow g cs=w.alloc (.cells cs t):=by
 subst hg;unfold World.setRow World.alloc;simp only;congr 1;apply Array.ext_getElem?;intro i;simp only[Array.getElem?_modify,Array.getElem?_push];by_cases h:i=w.heap.size
 ·subst h;simp
 ·rw[if_neg (fun e=>h e.symm),if_neg h,if_neg h]
theorem zo1 {w:World} {p:Addr} {v:Value} (h:w.cell? p=some v):p.block<w.heap.size:=by
 rcases Nat.lt_or_ge p.block w.heap.size with h'|h'
 ·exact h'
 ·simp[World.cell?,Array.getElem?_eq_none h']at h
theorem zdf (w:World):Sets w 0 (.slice none 0 0) []:=⟨[],none,0,rfl,rfl,Z4 _,Nat.zero_le _,⟨rfl,fun h=>absurd h (Nat.lt_irrefl _)⟩,fun p hp=>by cases hp⟩
def zD0 (m:MsgD) (n:List UInt8) (ty cls:Int):Prop:=m.hd.qr=true∧m.hd.op=0∧zd1 m n ty cls=true
instance (m:MsgD) (n:List UInt8) (ty cls:Int):Decidable (zD0 m n ty cls):=inferInstanceAs (Decidable (_∧_∧_))
theorem zzh {m:MsgD} {x:QD} {n:List UInt8} {ty cls:Int} (h:m.qs=[x]):zd1 m n ty cls=(sameN x.name n&&(decide (x.typ=ty)&&decide (x.cls=cls))):=by unfold zd1;rw[h]
theorem zzg {m:MsgD} {n:List UInt8} {ty cls:Int} (h:¬m.qs.length=1):zd1 m n ty cls=false:=by
 unfold zd1;split
 ·rename_i y hy;rw[hy]at h;exact absurd rfl h
 ·rfl
theorem ztx {w w':World} {g sz n:Nat} {A:Option Addr} {xs:List Value} (h:Rd w 0 sz A n xs) (hx:0<n→∃x,xs[0]? =some (S x)) (au:∀j x,w.cell? ⟨g,j,none⟩≠some (S x)) (hk:∀k,k≠g→w'.heap[k]? =w.heap[k]?):Rd w' 0 sz A n xs:=by
 refine⟨h.1,fun h0=>?_⟩
 obtain⟨b,off,e,h1,h2,h3⟩:=h.2 h0
 obtain⟨x,hx⟩:=hx h0
 have hb:b≠g:=by
  intro e;subst e;exact au _ x (h3 0 _ hx)
 have hz:=hk b hb
 refine⟨b,off,e,h1,?_,fun j u hj=>?_⟩
 ·rw[Array.getElem?_eq_getElem h2]at hz;exact(Z9 hz)
 ·have:=h3 j u hj
  simp only[World.cell?]at this ⊢;rw[hz];exact this
theorem zpj {w w':World} {g:Nat} {v:Value} {l:List SetD} (h:Sets w 0 v l) (au:∀j x,w.cell? ⟨g,j,none⟩≠some (S x)) (hk:∀k,k≠g→w'.heap[k]? =w.heap[k]?):Sets w' 0 v l:=by
 obtain⟨ps,A,c,h1,h2,h3,h4,h5,h6⟩:=h
 refine⟨ps,A,c,h1,h2,h3,h4,ztx h5 (fun h0=>?_) au hk,fun p hp=>?_⟩
 ·rcases ps with _|⟨p,r⟩
  ·cases h0
  ·exact⟨p.1.name,rfl⟩
 ·obtain⟨B,d,k1,k2,k3,k4⟩:=h6 p hp
  refine⟨B,d,k1,k2,k3,ztx k4 (fun h0=>?_) au hk⟩
  rcases hd:p.1.data with _|⟨x,r⟩
  ·rw[hd]at h0;cases h0
  ·exact⟨x,rfl⟩
def ziz (R:ReplyD) (w:World) (e:Ending) (w':World):Prop:=
 ∃vs vo,e=.returned (.agg #[.int .u8 R.kind,.int .u8 R.ver.code,vs,vo,.int .u32 R.ver.time])∧Sets w' 0 vs R.ver.sets∧Sets w' 0 vo R.ver.soa∧Ext w w'
def xL (m:MsgD) (qA xA oA:Option Addr) (qc xc oc:Nat):MsgX:=⟨m.hd.id,m.hd.qr,m.hd.op,m.hd.aa,m.hd.tc,m.hd.rd,m.hd.ra,m.hd.z,m.hd.ad,m.hd.cd,qA,m.qs.length,qc,xA,m.extra.length,xc,m.he,m.ed.size,m.ed.ext,m.ed.ver,m.ed.flags,oA,m.ed.opts.length,oc⟩
noncomputable def zAi:Code:=((Tryz.f26.body).bind (zhs 2 400)).getD .skip
theorem ztf {Q:Exit→Act→World→Prop} {f0 f1 f2 f3 f4 f7 f8 f9 f10 f11 f12 f13 f14 f15 f16 f17 f18 f19 f20 f21 f22 f23 f24 f25 f26 f27 f28 f29 f30 f31 f32 f33 f34 f35 f36 f37 f38 f39 f40 f41 f42 f43 f44 f45 f46 f47 f48 f49 f50 f51 f52 f53 f54 f55 f56 f57 f58 f59 f60 f61 f62 f63 f64 f65 f66 f67 f68 f69 f70:Value} {z op:Int} {qr:Bool} {ql qc b5:Nat} {qA:Option Addr} (X:World) (rY:∀V,Ext X V→V.cell? ⟨b5,1,none⟩=some (.bool qr)∧V.cell? ⟨b5,2,none⟩=some (.int .u8 op)∧V.cell? ⟨b5,11,none⟩=some (.slice qA ql qc)) (bT:¬(z=0∧qr=true∧op=0∧ql=1))
 (hQ:∀(t14 t15 t16 t17 t18 t19 t20 t21 t22 t23 t24 t25 t26 t27 t28 t29 t30 t31 t32 t33 t34 t35 t36 t37 t38 t39 t40 t41:Value) (V:World),Ext X V→Q .normal ⟨(f0::f1::f2::f3::f4:: .pointer (some ⟨b5,0,none⟩):: .int .i64 z::f7::f8::f9::f10::f11::f12::f13::t14::t15::t16::t17::t18::t19::t20::t21::t22::t23::t24::t25::t26::t27::t28::t29::t30::t31::t32::t33::t34::t35::t36::t37::t38::t39::t40::t41:: .bool true::f43::f44::f45::f46::f47::f48::f49::f50::f51::f52::f53::f54::f55::f56::f57::f58::f59::f60::f61::f62::f63::f64::f65::f66::f67::f68::f69::f70::[]).toArray,[]⟩ V):
 Code.wp Tryz.prog zAi Q ⟨(f0::f1::f2::f3::f4:: .pointer (some ⟨b5,0,none⟩):: .int .i64 z::f7::f8::f9::f10::f11::f12::f13::f14::f15::f16::f17::f18::f19::f20::f21::f22::f23::f24::f25::f26::f27::f28::f29::f30::f31::f32::f33::f34::f35::f36::f37::f38::f39::f40::f41::f42::f43::f44::f45::f46::f47::f48::f49::f50::f51::f52::f53::f54::f55::f56::f57::f58::f59::f60::f61::f62::f63::f64::f65::f66::f67::f68::f69::f70::[]).toArray,[]⟩ X:=by
 conv=>arg 2;whnf
 have HS:=Z7 rY
 clear rY;refine wp_region_noPanic ?_;refine za6 (S:=fun V=>Ext X V) (zi9 [0,1,2,3,4,5,6,7,8,9,10,11,12,13,14,15,16,17,18,19,20,21,22,23,24,25] (.take 26 (zi9 [27,28] .done))) (by kernel_rfl) (by as_aux_lemma=>kernel_rfl) (fun _ _ _ _ _ h=>h) ((Z5 X).drew) ?_
 by_cases hz:z=0
 rotate_left
 ·have aC:(z==0)=false:=by rw[beq_eq_false_iff_ne];exact hz
  have ax:decide (z=0)=false:=decide_eq_false hz
  clear bT;refine zco (a':=?_) ⟨_,(Z5 X).drew⟩ 71 [0,1,2,3,4,5,6,7,8,9,10,11,12,13,14,15,16,17,18,19,20,21,22,23,24,25] (by kernel_rfl) (by kernel_rfl) ?_ ?_
  rotate_left
  ·intro V hV;obtain⟨c1,c2,c3⟩:=HS.out V hV
   repeat(refine ze3 (x:=?_) (by rfl) rfl rfl rfl ?_ ?_;rotate_left;(focus(intro Q' hq;(repeat(first|go_guarded|go_skip|go_step));(first|exact hq|exact wpList_nil hq))))
   exact zet
  refine zaf (by rfl) (by rfl) ?_
  (try simp only[ap])
  refine zco (a':=?_) ⟨_,(Z5 X).drew⟩ 71 [27,28] (by kernel_rfl) (by kernel_rfl) ?_ ?_
  rotate_left
  ·intro V hV
   repeat(refine ze3 (x:=?_) (by rfl) rfl rfl rfl ?_ ?_;rotate_left;(focus(intro Q' hq;(repeat(first|go_guarded|go_skip|go_step));(first|exact hq|exact wpList_nil hq))))
   exact zet
  refine zag ?_;refine NoPanic.normal ?_;exact hQ _ _ _ _ _ _ _ _ _ _ _ _ _ _ _ _ _ _ _ _ _ _ _ _ _ _ _ _ _ (Z5 X).drew
 subst hz;rcases qr with _|_
 ·clear bT;refine zco (a':=?_) ⟨_,(Z5 X).drew⟩ 71 [0,1,2,3,4,5,6,7,8,9,10,11,12,13,14,15,16,17,18,19,20,21,22,23,24,25] (by kernel_rfl) (by kernel_rfl) ?_ ?_
  rotate_left
  ·intro V hV;obtain⟨c1,c2,c3⟩:=HS.out V hV
   repeat(refine ze3 (x:=?_) (by rfl) rfl rfl rfl ?_ ?_;rotate_left;(focus(intro Q' hq;(repeat(first|go_guarded|go_skip|go_step));(first|exact hq|exact wpList_nil hq))))
   exact zet
  refine zaf (by rfl) (by rfl) ?_
  (try simp only[ap])
  refine zco (a':=?_) ⟨_,(Z5 X).drew⟩ 71 [27,28] (by kernel_rfl) (by kernel_rfl) ?_ ?_
  rotate_left
  ·intro V hV
   repeat(refine ze3 (x:=?_) (by rfl) rfl rfl rfl ?_ ?_;rotate_left;(focus(intro Q' hq;(repeat(first|go_guarded|go_skip|go_step));(first|exact hq|exact wpList_nil hq))))
   exact zet
  refine zag ?_;refine NoPanic.normal ?_;exact hQ _ _ _ _ _ _ _ _ _ _ _ _ _ _ _ _ _ _ _ _ _ _ _ _ _ _ _ _ _ (Z5 X).drew
 by_cases bL:op=0
 rotate_left
 ·have bm:(op==0)=false:=by rw[beq_eq_false_iff_ne];exact bL
  have aI:decide (op=0)=false:=decide_eq_false bL
  clear bT;refine zco (a':=?_) ⟨_,(Z5 X).drew⟩ 71 [0,1,2,3,4,5,6,7,8,9,10,11,12,13,14,15,16,17,18,19,20,21,22,23,24,25] (by kernel_rfl) (by kernel_rfl) ?_ ?_
  rotate_left
  ·intro V hV;obtain⟨c1,c2,c3⟩:=HS.out V hV
   repeat(refine ze3 (x:=?_) (by rfl) rfl rfl rfl ?_ ?_;rotate_left;(focus(intro Q' hq;(repeat(first|go_guarded|go_skip|go_step));(first|exact hq|exact wpList_nil hq))))
   exact zet
  refine zaf (by rfl) (by rfl) ?_
  (try simp only[ap])
  refine zco (a':=?_) ⟨_,(Z5 X).drew⟩ 71 [27,28] (by kernel_rfl) (by kernel_rfl) ?_ ?_
  rotate_left
  ·intro V hV
   repeat(refine ze3 (x:=?_) (by rfl) rfl rfl rfl ?_ ?_;rotate_left;(focus(intro Q' hq;(repeat(first|go_guarded|go_skip|go_step));(first|exact hq|exact wpList_nil hq))))
   exact zet
  refine zag ?_;refine NoPanic.normal ?_;exact hQ _ _ _ _ _ _ _ _ _ _ _ _ _ _ _ _ _ _ _ _ _ _ _ _ _ _ _ _ _ (Z5 X).drew
 subst bL;have hl:¬ql=1:=fun e=>bT ⟨rfl,rfl,rfl,e⟩
 have eT:((ql:Int)==1)=false:=by rw[beq_eq_false_iff_ne];omega
 have kQ:¬(ql:Int)=1:=by omega
 have qi:decide ((ql:Int)=1)=false:=decide_eq_false kQ
 have qz:((ql:Int)!=1)=true:=by rw[bne_iff_ne];exact kQ
 have CV:decide (ql=1)=false:=decide_eq_false hl
 have ET:(ql==1)=false:=by rw[beq_eq_false_iff_ne];exact hl
 clear bT;refine zco (a':=?_) ⟨_,(Z5 X).drew⟩ 71 [0,1,2,3,4,5,6,7,8,9,10,11,12,13,14,15,16,17,18,19,20,21,22,23,24,25] (by kernel_rfl) (by kernel_rfl) ?_ ?_
 rotate_left
 ·intro V hV;obtain⟨c1,c2,c3⟩:=HS.out V hV
  repeat(refine ze3 (x:=?_) (by rfl) rfl rfl rfl ?_ ?_;rotate_left;(focus(intro Q' hq;(repeat(first|go_guarded|go_skip|go_step));(first|exact hq|exact wpList_nil hq))))
  exact zet
 refine zaf (by rfl) (by rfl) ?_
 (try simp only[ap])
 refine zco (a':=?_) ⟨_,(Z5 X).drew⟩ 71 [27,28] (by kernel_rfl) (by kernel_rfl) ?_ ?_
 rotate_left
 ·intro V hV
  repeat(refine ze3 (x:=?_) (by rfl) rfl rfl rfl ?_ ?_;rotate_left;(focus(intro Q' hq;(repeat(first|go_guarded|go_skip|go_step));(first|exact hq|exact wpList_nil hq))))
  exact zet
 refine zag ?_;refine NoPanic.normal ?_;exact hQ _ _ _ _ _ _ _ _ _ _ _ _ _ _ _ _ _ _ _ _ _ _ _ _ _ _ _ _ _ (Z5 X).drew
noncomputable def zAh:Code:=((Tryz.f26.body).bind (zhs 2 400)).getD .skip
theorem zD7 {Q:Exit→Act→World→Prop} {f0 f1 f3 f4 f7 f8 f9 f10 f11 f12 f13 f14 f15 f16 f17 f18 f19 f20 f21 f22 f23 f24 f25 f26 f27 f28 f29 f30 f31 f32 f33 f34 f35 f36 f37 f38 f39 f40 f41 f42 f43 f44 f45 f46 f47 f48 f49 f50 f51 f52 f53 f54 f55 f56 f57 f58 f59 f60 f61 f62 f63 f64 f65 f66 f67 f68 f69 f70:Value} {x:QD} {n:List UInt8} {ty cls:Int} {b5 g3 qb qo qc:Nat} (X:World) (hx:x.name.length≤1048576) (hn:n.length≤1048576) (rY:∀V,Ext X V→V.cell? ⟨b5,1,none⟩=some (.bool true)∧V.cell? ⟨b5,2,none⟩=some (.int .u8 0)∧V.cell? ⟨b5,11,none⟩=some (.slice (some ⟨qb,qo,none⟩) 1 qc)∧(V.cell? ⟨qb,qo,none⟩=some (S x.name)∧V.cell? ⟨qb,qo+1,none⟩=some (.int .u16 x.typ)∧V.cell? ⟨qb,qo+2,none⟩=some (.int .u16 x.cls))∧(V.cell? ⟨g3,0,none⟩=some (S n)∧V.cell? ⟨g3,1,none⟩=some (.int .u16 ty)∧V.cell? ⟨g3,2,none⟩=some (.int .u16 cls)))
 (hQ:∀(t14 t15 t16 t17 t18 t19 t20 t21 t22 t23 t24 t25 t26 t27 t28 t29 t30 t31 t32 t33 t34 t35 t36 t37 t38 t39 t40 t41:Value) (V:World),Ext X V→Q .normal ⟨(f0::f1:: .pointer (some ⟨g3,0,none⟩)::f3::f4:: .pointer (some ⟨b5,0,none⟩):: .int .i64 0::f7::f8::f9::f10::f11::f12::f13::t14::t15::t16::t17::t18::t19::t20::t21::t22::t23::t24::t25::t26::t27::t28::t29::t30::t31::t32::t33::t34::t35::t36::t37::t38::t39::t40::t41:: .bool (!(sameN x.name n&&(decide (x.typ=ty)&&decide (x.cls=cls))))::f43::f44::f45::f46::f47::f48::f49::f50::f51::f52::f53::f54::f55::f56::f57::f58::f59::f60::f61::f62::f63::f64::f65::f66::f67::f68::f69::f70::[]).toArray,[]⟩ V):
 Code.wp Tryz.prog zAh Q ⟨(f0::f1:: .pointer (some ⟨g3,0,none⟩)::f3::f4:: .pointer (some ⟨b5,0,none⟩):: .int .i64 0::f7::f8::f9::f10::f11::f12::f13::f14::f15::f16::f17::f18::f19::f20::f21::f22::f23::f24::f25::f26::f27::f28::f29::f30::f31::f32::f33::f34::f35::f36::f37::f38::f39::f40::f41::f42::f43::f44::f45::f46::f47::f48::f49::f50::f51::f52::f53::f54::f55::f56::f57::f58::f59::f60::f61::f62::f63::f64::f65::f66::f67::f68::f69::f70::[]).toArray,[]⟩ X:=by
 conv=>arg 2;whnf
 have HS:=Z7 rY
 clear rY;have lq:=Z7 (fun V=>zvc x.name x.typ x.cls n ty cls V hx hn)
 generalize (sameN x.name n&&(decide (x.typ=ty)&&decide (x.cls=cls)))=B at*;refine wp_region_noPanic ?_;refine za6 (S:=fun V=>Ext X V) (zi9 [0,1,2,3,4,5,6,7,8,9,10,11,12,13,14,15,16,17,18,19,20,21,22,23,24,25] (.run 26 (zi9 [27,28] .done))) (by kernel_rfl) (by as_aux_lemma=>kernel_rfl) (fun _ _ _ _ _ h=>h) ((Z5 X).drew) ?_
 refine zco (a':=?_) ⟨_,(Z5 X).drew⟩ 71 [0,1,2,3,4,5,6,7,8,9,10,11,12,13,14,15,16,17,18,19,20,21,22,23,24,25] (by kernel_rfl) (by kernel_rfl) ?_ ?_
 rotate_left
 ·intro V hV;obtain⟨c1,c2,c3,⟨c4,c5,c6⟩,c7,c8,c9⟩:=HS.out V hV
  repeat(refine ze3 (x:=?_) (by rfl) rfl rfl rfl ?_ ?_;rotate_left;(focus(intro Q' hq;(repeat(first|go_guarded|go_skip|go_step));(first|exact hq|exact wpList_nil hq))))
  exact zet
 refine zg1 (by rfl) (fun Q' EB hP=>?_)
 (repeat(first|go_guarded|go_step))
 go_at_call 60;refine(lq.out _).mono ?_;rintro e we ⟨rfl,lg⟩
 (try dsimp only)
 (repeat(first|go_values|go_skip|go_guarded|go_step|go_upon|go_back))
 have CD:=((Z5 X).drew).trans lg
 clear lg
 (try with_reducible refine wpList_nil ?_)
 refine EB.out _ _ CD ?_;clear EB hP Q'
 (try simp only[ap])
 refine zco (a':=?_) ⟨_,CD⟩ 71 [27,28] (by kernel_rfl) (by kernel_rfl) ?_ ?_
 rotate_left
 ·intro V hV
  repeat(refine ze3 (x:=?_) (by rfl) rfl rfl rfl ?_ ?_;rotate_left;(focus(intro Q' hq;(repeat(first|go_guarded|go_skip|go_step));(first|exact hq|exact wpList_nil hq))))
  exact zet
 refine zag ?_;refine NoPanic.normal ?_;exact hQ _ _ _ _ _ _ _ _ _ _ _ _ _ _ _ _ _ _ _ _ _ _ _ _ _ _ _ _ _ CD
theorem zyk (d n:List UInt8) (ty cls:Int) (w:World) (hd:d.length≤16384) (hn:n.length≤1048576):
 Calls Tryz.prog 26 #[.agg #[S n,.int .u16 ty,.int .u16 cls],S d] w (ziz (replyOf d n ty cls) w):=by
 have pj:=Z7 (fun(k:Nat) (h:zct d=.error k)=>(show replyOf d n ty cls=.bad by unfold replyOf;rw[h]))
 have CE:=Z7 (fun(m:MsgD) (h:zct d=.ok m)=>(show replyOf d n ty cls=zfn m n ty cls by unfold replyOf;rw[h]))
 generalize replyOf d n ty cls=R at*;obtain⟨X1,aV⟩:∃X1,X1=w.alloc (.cells #[S n,.int .u16 ty,.int .u16 cls] 32):=⟨_,rfl⟩
 obtain⟨X0,ar⟩:∃X0,X0=X1.alloc (.cells #[.int .u8 0,.int .u8 0,.slice none 0 0,.slice none 0 0,.int .u32 0] 71):=⟨_,rfl⟩
 obtain⟨g4,cY⟩:∃g4,g4=X1.heap.size:=⟨_,rfl⟩
 have r1:X1.heap[w.heap.size]? =some (.cells #[S n,.int .u16 ty,.int .u16 cls] 32):=by rw[aV];exact heap_alloc_new _ _
 have r0:X0.heap[g4]? =some (.cells #[.int .u8 0,.int .u8 0,.slice none 0 0,.slice none 0 0,.int .u32 0] 71):=by rw[ar,cY];exact heap_alloc_new _ _
 have a7:Ext X1 X0:=by rw[ar];exact(Z5 _).alloc _
 have aD:Ext w X0:=Ext.trans (by rw[aV];exact(Z5 _).alloc _) a7
 have r10:=Z8 a7 r1
 have bH:w.heap.size+1=g4:=by rw[cY,aV];simp
 have aE:w.heap.size≤g4:=by omega
 have kG:=Z7 bH
 have HD:=Z7 (zve d X0 hd)
 unfold zsf at HD;clear bH;go_enter Tryz.func26,Tryz.ntmps26;go_upto_region 1 with fail
 rw[←aV,←ar];have e1:(w.heap.size+1)=g4:=kG.out
 try rw[e1]
 try rw[←cY]
 clear e1 aV ar cY a7;obtain⟨g3,dQ⟩:∃g3,g3=w.heap.size:=⟨_,rfl⟩
 rw[←dQ];rw[←dQ]at r10;clear dQ r1;go_wp2_with fail;refine HD.out.mono ?_;rintro e Y ⟨jJ,pT⟩;rcases jJ with⟨k,xk,hk,hx,rfl⟩|⟨m,qv,av,uv,xv,ov,hm,rfl,pK,lS⟩
 ·have HR:=Z7 (pj.out _ hx)
  have cW:¬(k:Int)=0:=by omega
  clear hx hk pj CE;generalize (k:Int)=z at*;dsimp only
  iterate 10 go_step
  obtain⟨b5,aG⟩:∃b5,b5=Y.heap.size:=⟨_,rfl⟩
  have hz:(Y.alloc (.cells zcu 45)).heap[b5]? =some (.cells zcu 45):=by rw[aG];exact heap_alloc_new _ _
  refine Go.Great.wpList_allocTo rfl (some 5) rfl (.pointer (some ⟨Y.heap.size,0,none⟩)) (.cells zcu 45) (by kernel_rfl) ?_
  rw[←aG];refine Go.wpList_store_rowTo rfl 45 (.tmp 5) (.tmp 12) rfl rfl b5 zcu rfl rfl 45 _ hz (by kernel_rfl) rfl (by kernel_rfl) ?_
  rw[zle Y zcu zcu 45 b5 aG]
  iterate 3 go_step
  refine wpList_nil ?_;rw[←aG];have rb5:(Y.alloc (.cells zcu 45)).heap[b5]? =some (.cells zcu 45):=by rw[aG];exact heap_alloc_new _ _
  have bN:Ext Y (Y.alloc (.cells zcu 45)):=(Z5 _).alloc _
  obtain⟨Z,hZ⟩:∃Z,Z=Y.alloc (.cells zcu 45):=⟨_,rfl⟩
  rw[←hZ]at rb5 bN ⊢;clear hZ hz aG;have oT:Ext w Z:=aD.trans (pT.trans bN)
  have HS:=Z7 (fun V (hV:Ext Z V)=>(show V.cell? ⟨b5,1,none⟩=some (.bool false)∧V.cell? ⟨b5,2,none⟩=some (.int .u8 0)∧V.cell? ⟨b5,11,none⟩=some (.slice none 0 0)from by
   have rV:=Z8 hV rb5
   exact⟨za0 rV rfl,za0 rV rfl,za0 rV rfl⟩))
  have rr0:=Z8 (pT.trans bN) r0
  go_upto_region 2 with fail
  go_cut [42] (fun s42 wx=>s42=.bool true∧Ext Z wx)
  case first=>
   refine ztf Z HS.out (by rintro⟨e,_⟩;exact cW e) ?_
   iterate 28 intro _
   intro V hV;go_wp2_with fail;go_meet;exact⟨rfl,hV⟩
  case rest=>
   obtain⟨rfl,am⟩:=hcut
   obtain⟨W5,rfl⟩:∃W5:World,W5=wc:=⟨_,rfl⟩
   have rr:=Z8 am rr0
   have y0:=za0 (j:=0) rr rfl
   have y1:=za0 (j:=1) rr rfl
   have y2:=za0 (j:=2) rr rfl
   have y3:=za0 (j:=3) rr rfl
   have y4:=za0 (j:=4) rr rfl
   have f0:=za3 (j:=0) rr
   have f1:=za3 (j:=1) rr
   have f2:=za3 (j:=2) rr
   have f3:=za3 (j:=3) rr
   have f4:=za3 (j:=4) rr
   go_wp2_with fail;obtain⟨U,hU⟩:∃U,U=(((((W5.setCell ⟨g4,0,none⟩ (.int .u8 1)).setCell ⟨g4,1,none⟩ (.int .u8 0)).setCell ⟨g4,2,none⟩ (.slice none 0 0)).setCell ⟨g4,3,none⟩ (.slice none 0 0)).setCell ⟨g4,4,none⟩ (.int .u32 0)):=⟨_,rfl⟩
   rw[←hU];have ru:U.heap[g4]? =some (.cells #[.int .u8 1,.int .u8 0,.slice none 0 0,.slice none 0 0,.int .u32 0] 71):=by rw[hU];exact(za2 (za2 (za2 (za2 (za2 rr 0 _) 1 _) 2 _) 3 _) 4 _)
   have cu:Ext w U:=by rw[hU];exact(((((oT.trans am).setCell aE _).setCell aE _).setCell aE _).setCell aE _).setCell aE _
   refine bodyPost_ret (zc6 rfl _ _ g4 _ _ _ _ rfl ru Tryz.underlying71 rfl (by kernel_rfl)) rfl ?_
   show ziz R w (.returned (.agg #[.int .u8 1,.int .u8 0,.slice none 0 0,.slice none 0 0,.int .u32 0])) U
   rw[HR.out];exact⟨_,_,rfl,zdf _,zdf _,cu⟩
 ·have HR:=Z7 (CE.out _ hm)
  obtain⟨d1,-,-,d4,-,hdl⟩:=zmq hm
  have HM:=Z7 hm
  have eZ:=Z7 d1
  have fN:=Z7 d4
  have dN:=Z7 lS
  have gt:=Z7 pK
  clear pj CE hm d1 d4 lS;obtain⟨⟨mqA,mqc,rfl,mqo⟩,⟨maA,mac,rfl,_⟩,⟨muA,muc,rfl,_⟩,⟨mxA,mxc,rfl,_⟩,⟨moA,moc,rfl,_⟩⟩:=pK
  dsimp only
  iterate 10 go_step
  obtain⟨b5,aG⟩:∃b5,b5=Y.heap.size:=⟨_,rfl⟩
  have hz:(Y.alloc (.cells zcu 45)).heap[b5]? =some (.cells zcu 45):=by rw[aG];exact heap_alloc_new _ _
  refine Go.Great.wpList_allocTo rfl (some 5) rfl (.pointer (some ⟨Y.heap.size,0,none⟩)) (.cells zcu 45) (by kernel_rfl) ?_
  rw[←aG];refine Go.wpList_store_rowTo rfl 45 (.tmp 5) (.tmp 12) rfl rfl b5 #[.int .u16 m.hd.id,.bool m.hd.qr,.int .u8 m.hd.op,.bool m.hd.aa,.bool m.hd.tc,.bool m.hd.rd,.bool m.hd.ra,.bool m.hd.z,.bool m.hd.ad,.bool m.hd.cd,.int .u8 m.hd.code,.slice mqA m.qs.length mqc,.slice maA m.ans.length mac,.slice muA m.auth.length muc,.slice mxA m.extra.length mxc,.bool m.he,.int .u16 m.ed.size,.int .u8 m.ed.ext,.int .u8 m.ed.ver,.int .u16 m.ed.flags,.slice moA m.ed.opts.length moc] rfl rfl 45 _ hz (by kernel_rfl) rfl (by kernel_rfl) ?_
  rw[zle Y zcu #[.int .u16 m.hd.id,.bool m.hd.qr,.int .u8 m.hd.op,.bool m.hd.aa,.bool m.hd.tc,.bool m.hd.rd,.bool m.hd.ra,.bool m.hd.z,.bool m.hd.ad,.bool m.hd.cd,.int .u8 m.hd.code,.slice mqA m.qs.length mqc,.slice maA m.ans.length mac,.slice muA m.auth.length muc,.slice mxA m.extra.length mxc,.bool m.he,.int .u16 m.ed.size,.int .u8 m.ed.ext,.int .u8 m.ed.ver,.int .u16 m.ed.flags,.slice moA m.ed.opts.length moc] 45 b5 aG]
  iterate 3 go_step
  refine wpList_nil ?_;rw[←aG];have rb5:(Y.alloc (.cells #[.int .u16 m.hd.id,.bool m.hd.qr,.int .u8 m.hd.op,.bool m.hd.aa,.bool m.hd.tc,.bool m.hd.rd,.bool m.hd.ra,.bool m.hd.z,.bool m.hd.ad,.bool m.hd.cd,.int .u8 m.hd.code,.slice mqA m.qs.length mqc,.slice maA m.ans.length mac,.slice muA m.auth.length muc,.slice mxA m.extra.length mxc,.bool m.he,.int .u16 m.ed.size,.int .u8 m.ed.ext,.int .u8 m.ed.ver,.int .u16 m.ed.flags,.slice moA m.ed.opts.length moc] 45)).heap[b5]? =some (.cells #[.int .u16 m.hd.id,.bool m.hd.qr,.int .u8 m.hd.op,.bool m.hd.aa,.bool m.hd.tc,.bool m.hd.rd,.bool m.hd.ra,.bool m.hd.z,.bool m.hd.ad,.bool m.hd.cd,.int .u8 m.hd.code,.slice mqA m.qs.length mqc,.slice maA m.ans.length mac,.slice muA m.auth.length muc,.slice mxA m.extra.length mxc,.bool m.he,.int .u16 m.ed.size,.int .u8 m.ed.ext,.int .u8 m.ed.ver,.int .u16 m.ed.flags,.slice moA m.ed.opts.length moc] 45):=by rw[aG];exact heap_alloc_new _ _
  have bN:Ext Y (Y.alloc (.cells #[.int .u16 m.hd.id,.bool m.hd.qr,.int .u8 m.hd.op,.bool m.hd.aa,.bool m.hd.tc,.bool m.hd.rd,.bool m.hd.ra,.bool m.hd.z,.bool m.hd.ad,.bool m.hd.cd,.int .u8 m.hd.code,.slice mqA m.qs.length mqc,.slice maA m.ans.length mac,.slice muA m.auth.length muc,.slice mxA m.extra.length mxc,.bool m.he,.int .u16 m.ed.size,.int .u8 m.ed.ext,.int .u8 m.ed.ver,.int .u16 m.ed.flags,.slice moA m.ed.opts.length moc] 45)):=(Z5 _).alloc _
  obtain⟨Z,hZ⟩:∃Z,Z=Y.alloc (.cells #[.int .u16 m.hd.id,.bool m.hd.qr,.int .u8 m.hd.op,.bool m.hd.aa,.bool m.hd.tc,.bool m.hd.rd,.bool m.hd.ra,.bool m.hd.z,.bool m.hd.ad,.bool m.hd.cd,.int .u8 m.hd.code,.slice mqA m.qs.length mqc,.slice maA m.ans.length mac,.slice muA m.auth.length muc,.slice mxA m.extra.length mxc,.bool m.he,.int .u16 m.ed.size,.int .u8 m.ed.ext,.int .u8 m.ed.ver,.int .u16 m.ed.flags,.slice moA m.ed.opts.length moc] 45):=⟨_,rfl⟩
  rw[←hZ]at rb5 bN ⊢;clear hZ hz aG;have oT:Ext w Z:=aD.trans (pT.trans bN)
  have rr0:=Z8 (pT.trans bN) r0
  have rq0:=Z8 (pT.trans bN) r10
  obtain⟨B,hB⟩:∃B:Bool,B=decide (zD0 m n ty cls):=⟨_,rfl⟩
  go_upto_region 2 with fail
  go_cut [42] (fun s42 wx=>s42=.bool (!B)∧Ext Z wx)
  case first=>
   by_cases bJ:m.hd.qr=true∧m.hd.op=0∧m.qs.length=1
   ·obtain⟨fT,bL,hl⟩:=bJ
    obtain⟨x,hx⟩:=List.length_eq_one_iff.1 hl
    have CF:B=(sameN x.name n&&(decide (x.typ=ty)&&decide (x.cls=cls))):=by
     rw[hB,←zzh (m:=m) hx]
     rcases ha:zd1 m n ty cls with _|_
     ·exact decide_eq_false (fun h=>by have:=h.2.2;rw[ha]at this;cases this)
     ·exact decide_eq_true ⟨fT,bL,ha⟩
    obtain⟨A5,c5,e5,cw⟩:=gt.out.qs
    injection e5 with e51 _ e53
    subst e51 e53;have CG:=(cw.rd.lower (Nat.zero_le _)).ext (show Ext Y Z from bN)
    obtain⟨qb,qo,rfl,_,az,la⟩:=CG.2 (by omega)
    obtain⟨q0,q1,q2⟩:=zdt la 0 x (by rw[hx];rfl)
    rw[Nat.zero_mul,Nat.add_zero]at q0 q1 q2;refine zD7 (x:=x) (n:=n) (ty:=ty) (cls:=cls) (b5:=b5) (g3:=g3) (qb:=qb) (qo:=qo) (qc:=mqc) Z (dN.out.qok x (by rw[hx];simp)) hn (fun V hV=>?_) ?_
    ·have rV:=Z8 hV rb5
     have rQ:=Z8 hV rq0
     exact⟨by rw[←fT];exact za0 rV rfl,by rw[←bL];exact za0 rV rfl,by rw[←hl];exact za0 rV rfl,⟨(hV.cell (zo1 q0)).trans q0,(hV.cell (zo1 q1)).trans q1,(hV.cell (zo1 q2)).trans q2⟩,za0 rQ rfl,za0 rQ rfl,za0 rQ rfl⟩
    iterate 28 intro _
    intro V hV;go_wp2_with fail;go_meet;exact⟨by rw[CF];first|rfl|done|simp only[Bool.not_and]|simp,hV⟩
   ·have CF:B=false:=by
     rw[hB];refine decide_eq_false (fun h=>bJ ?_)
     obtain⟨i1,i2,i3⟩:=h
     refine⟨i1,i2,?_⟩;by_cases hl:m.qs.length=1
     ·exact hl
     ·rw[zzg hl]at i3;cases i3
    refine ztf (z:=0) (op:=m.hd.op) (qr:=m.hd.qr) (ql:=m.qs.length) (qc:=mqc) (b5:=b5) (qA:=mqA) Z (fun V hV=>?_) (fun h=>bJ h.2) ?_
    ·have rV:=Z8 hV rb5
     exact⟨za0 rV rfl,za0 rV rfl,za0 rV rfl⟩
    iterate 28 intro _
    intro V hV;go_wp2_with fail;go_meet;exact⟨by rw[CF];first|rfl|done|simp only[Bool.not_and]|simp,hV⟩
  case rest=>
  obtain⟨rfl,am⟩:=hcut
  obtain⟨W5,rfl⟩:∃W5:World,W5=wc:=⟨_,rfl⟩
  have rr:=Z8 am rr0
  have rq5:=Z8 am rq0
  have rm5:=Z8 am rb5
  rcases t5:B with _|_
  ·have kI:=Z7 (show R=.bad by rw[HR.out];exact zph (fun h=>by rw[hB]at t5;exact of_decide_eq_false t5 h))
   clear t5 hB;have y0:=za0 (j:=0) rr rfl
   have y1:=za0 (j:=1) rr rfl
   have y2:=za0 (j:=2) rr rfl
   have y3:=za0 (j:=3) rr rfl
   have y4:=za0 (j:=4) rr rfl
   have f0:=za3 (j:=0) rr
   have f1:=za3 (j:=1) rr
   have f2:=za3 (j:=2) rr
   have f3:=za3 (j:=3) rr
   have f4:=za3 (j:=4) rr
   go_wp2_with fail;obtain⟨U,hU⟩:∃U,U=(((((W5.setCell ⟨g4,0,none⟩ (.int .u8 1)).setCell ⟨g4,1,none⟩ (.int .u8 0)).setCell ⟨g4,2,none⟩ (.slice none 0 0)).setCell ⟨g4,3,none⟩ (.slice none 0 0)).setCell ⟨g4,4,none⟩ (.int .u32 0)):=⟨_,rfl⟩
   rw[←hU];have ru:U.heap[g4]? =some (.cells #[.int .u8 1,.int .u8 0,.slice none 0 0,.slice none 0 0,.int .u32 0] 71):=by rw[hU];exact(za2 (za2 (za2 (za2 (za2 rr 0 _) 1 _) 2 _) 3 _) 4 _)
   have cu:Ext w U:=by rw[hU];exact(((((oT.trans am).setCell aE _).setCell aE _).setCell aE _).setCell aE _).setCell aE _
   refine bodyPost_ret (zc6 rfl _ _ g4 _ _ _ _ rfl ru Tryz.underlying71 rfl (by kernel_rfl)) rfl ?_
   show ziz R w (.returned (.agg #[.int .u8 1,.int .u8 0,.slice none 0 0,.slice none 0 0,.int .u32 0])) U
   rw[kI.out];exact⟨_,_,rfl,zdf _,zdf _,cu⟩
  have HI:=Z7 (show zD0 m n ty cls by rw[hB]at t5;exact of_decide_eq_true t5)
  clear t5 hB;have t4:=za0 (j:=4) rm5 rfl
  change W5.cell? ⟨b5,4,none⟩=some (.bool m.hd.tc)at t4;have xM:16*m.ed.ext+m.hd.code%16=code12 m:=by
   unfold code12;rcases jK:m.he with _|_
   ·have h0:m.ed.ext=0:=by rw[fN.out jK];rfl
    rw[h0];simp
   ·simp only[if_true];omega
  have m9:=Z7 (fun V=>zyj m (.slice mqA m.qs.length mqc) (.slice maA m.ans.length mac) (.slice muA m.auth.length muc) (.slice mxA m.extra.length mxc) (.slice moA m.ed.opts.length moc) V (by have:=eZ.out.code;have:=zt0 HM.out;omega) (by have:=eZ.out.ext;omega))
  rw[xM]at m9;clear xM;rcases fm:m.hd.tc with _|_
  rotate_left
  ·rw[fm]at t4;have kI:=Z7 (show R=.pass by rw[HR.out];exact zh5 HI.out (.inl fm))
   clear fm;have y0:=za0 (j:=0) rr rfl
   have y1:=za0 (j:=1) rr rfl
   have y2:=za0 (j:=2) rr rfl
   have y3:=za0 (j:=3) rr rfl
   have y4:=za0 (j:=4) rr rfl
   have f0:=za3 (j:=0) rr
   have f1:=za3 (j:=1) rr
   have f2:=za3 (j:=2) rr
   have f3:=za3 (j:=3) rr
   have f4:=za3 (j:=4) rr
   go_wp2_with fail;obtain⟨U,hU⟩:∃U,U=(((((W5.setCell ⟨g4,0,none⟩ (.int .u8 2)).setCell ⟨g4,1,none⟩ (.int .u8 0)).setCell ⟨g4,2,none⟩ (.slice none 0 0)).setCell ⟨g4,3,none⟩ (.slice none 0 0)).setCell ⟨g4,4,none⟩ (.int .u32 0)):=⟨_,rfl⟩
   rw[←hU];have ru:U.heap[g4]? =some (.cells #[.int .u8 2,.int .u8 0,.slice none 0 0,.slice none 0 0,.int .u32 0] 71):=by rw[hU];exact(za2 (za2 (za2 (za2 (za2 rr 0 _) 1 _) 2 _) 3 _) 4 _)
   have cu:Ext w U:=by rw[hU];exact(((((oT.trans am).setCell aE _).setCell aE _).setCell aE _).setCell aE _).setCell aE _
   refine bodyPost_ret (zc6 rfl _ _ g4 _ _ _ _ rfl ru Tryz.underlying71 rfl (by kernel_rfl)) rfl ?_
   show ziz R w (.returned (.agg #[.int .u8 2,.int .u8 0,.slice none 0 0,.slice none 0 0,.int .u32 0])) U
   rw[kI.out];exact⟨_,_,rfl,zdf _,zdf _,cu⟩
  rw[fm]at t4;have Jh:=Z7 fm
  clear fm;go_upto_region 4 with fail
  go_cut [56] (fun s56 wx=>s56=.bool (decide (code12 m≠0∧code12 m≠3))∧Ext W5 wx)
  case first=>
   generalize code12 m=cd at*;by_cases h0:cd=0
   ·subst h0;go_wp2_with(first|(refine za9 (by rfl) 45 (.tmp 5) rfl b5 0 rfl [.int .u16 m.hd.id,.bool m.hd.qr,.int .u8 m.hd.op,.bool m.hd.aa,.bool m.hd.tc,.bool m.hd.rd,.bool m.hd.ra,.bool m.hd.z,.bool m.hd.ad,.bool m.hd.cd,.int .u8 m.hd.code,(.slice mqA m.qs.length mqc),(.slice maA m.ans.length mac),(.slice muA m.auth.length muc),(.slice mxA m.extra.length mxc),.bool m.he,.int .u16 m.ed.size,.int .u8 m.ed.ext,.int .u8 m.ed.ver,.int .u16 m.ed.flags,(.slice moA m.ed.opts.length moc)] (zba rm5) _ Tryz.underlying45 rfl (by kernel_rfl) ?_)|(refine za9 (by rfl) 45 (.tmp 5) rfl b5 0 rfl [.int .u16 m.hd.id,.bool m.hd.qr,.int .u8 m.hd.op,.bool m.hd.aa,.bool m.hd.tc,.bool m.hd.rd,.bool m.hd.ra,.bool m.hd.z,.bool m.hd.ad,.bool m.hd.cd,.int .u8 m.hd.code,(.slice mqA m.qs.length mqc),(.slice maA m.ans.length mac),(.slice muA m.auth.length muc),(.slice mxA m.extra.length mxc),.bool m.he,.int .u16 m.ed.size,.int .u8 m.ed.ext,.int .u8 m.ed.ver,.int .u16 m.ed.flags,(.slice moA m.ed.opts.length moc)] (zba rm6) _ Tryz.underlying45 rfl (by kernel_rfl) ?_)|(go_at_call 61;refine(m9.out _).mono ?_;rintro e wc2 ⟨rfl,mD⟩;have d8:=lg.trans mD)|(go_at_call 61;refine(m9.out _).mono ?_;rintro e wc1 ⟨rfl,lg⟩;have rm6:=Z8 lg rm5)|fail)
    go_meet;exact⟨by first|rfl|simp,lg⟩
   ·have n0:(cd !=0)=true:=by rw[bne_iff_ne];exact h0
    have q0:decide (cd=0)=false:=decide_eq_false h0
    by_cases h3:cd=3
    ·subst h3;go_wp2_with(first|(refine za9 (by rfl) 45 (.tmp 5) rfl b5 0 rfl [.int .u16 m.hd.id,.bool m.hd.qr,.int .u8 m.hd.op,.bool m.hd.aa,.bool m.hd.tc,.bool m.hd.rd,.bool m.hd.ra,.bool m.hd.z,.bool m.hd.ad,.bool m.hd.cd,.int .u8 m.hd.code,(.slice mqA m.qs.length mqc),(.slice maA m.ans.length mac),(.slice muA m.auth.length muc),(.slice mxA m.extra.length mxc),.bool m.he,.int .u16 m.ed.size,.int .u8 m.ed.ext,.int .u8 m.ed.ver,.int .u16 m.ed.flags,(.slice moA m.ed.opts.length moc)] (zba rm5) _ Tryz.underlying45 rfl (by kernel_rfl) ?_)|(refine za9 (by rfl) 45 (.tmp 5) rfl b5 0 rfl [.int .u16 m.hd.id,.bool m.hd.qr,.int .u8 m.hd.op,.bool m.hd.aa,.bool m.hd.tc,.bool m.hd.rd,.bool m.hd.ra,.bool m.hd.z,.bool m.hd.ad,.bool m.hd.cd,.int .u8 m.hd.code,(.slice mqA m.qs.length mqc),(.slice maA m.ans.length mac),(.slice muA m.auth.length muc),(.slice mxA m.extra.length mxc),.bool m.he,.int .u16 m.ed.size,.int .u8 m.ed.ext,.int .u8 m.ed.ver,.int .u16 m.ed.flags,(.slice moA m.ed.opts.length moc)] (zba rm6) _ Tryz.underlying45 rfl (by kernel_rfl) ?_)|(go_at_call 61;refine(m9.out _).mono ?_;rintro e wc2 ⟨rfl,mD⟩;have d8:=lg.trans mD)|(go_at_call 61;refine(m9.out _).mono ?_;rintro e wc1 ⟨rfl,lg⟩;have rm6:=Z8 lg rm5)|fail)
     go_meet;exact⟨by first|rfl|simp,d8⟩
    ·have n3:(cd !=3)=true:=by rw[bne_iff_ne];exact h3
     have q3:decide (cd=3)=false:=decide_eq_false h3
     go_wp2_with(first|(refine za9 (by rfl) 45 (.tmp 5) rfl b5 0 rfl [.int .u16 m.hd.id,.bool m.hd.qr,.int .u8 m.hd.op,.bool m.hd.aa,.bool m.hd.tc,.bool m.hd.rd,.bool m.hd.ra,.bool m.hd.z,.bool m.hd.ad,.bool m.hd.cd,.int .u8 m.hd.code,(.slice mqA m.qs.length mqc),(.slice maA m.ans.length mac),(.slice muA m.auth.length muc),(.slice mxA m.extra.length mxc),.bool m.he,.int .u16 m.ed.size,.int .u8 m.ed.ext,.int .u8 m.ed.ver,.int .u16 m.ed.flags,(.slice moA m.ed.opts.length moc)] (zba rm5) _ Tryz.underlying45 rfl (by kernel_rfl) ?_)|(refine za9 (by rfl) 45 (.tmp 5) rfl b5 0 rfl [.int .u16 m.hd.id,.bool m.hd.qr,.int .u8 m.hd.op,.bool m.hd.aa,.bool m.hd.tc,.bool m.hd.rd,.bool m.hd.ra,.bool m.hd.z,.bool m.hd.ad,.bool m.hd.cd,.int .u8 m.hd.code,(.slice mqA m.qs.length mqc),(.slice maA m.ans.length mac),(.slice muA m.auth.length muc),(.slice mxA m.extra.length mxc),.bool m.he,.int .u16 m.ed.size,.int .u8 m.ed.ext,.int .u8 m.ed.ver,.int .u16 m.ed.flags,(.slice moA m.ed.opts.length moc)] (zba rm6) _ Tryz.underlying45 rfl (by kernel_rfl) ?_)|(go_at_call 61;refine(m9.out _).mono ?_;rintro e wc2 ⟨rfl,mD⟩;have d8:=lg.trans mD)|(go_at_call 61;refine(m9.out _).mono ?_;rintro e wc1 ⟨rfl,lg⟩;have rm6:=Z8 lg rm5)|fail)
     go_meet;exact⟨by first|rfl|simp[h0,h3],d8⟩
  case rest=>
  obtain⟨rfl,aw⟩:=hcut
  obtain⟨W6,rfl⟩:∃W6:World,W6=wc:=⟨_,rfl⟩
  have dC:Ext w W6:=oT.trans (am.trans aw)
  have rr:=Z8 aw rr
  have rq6:=Z8 aw rq5
  have rm8:=Z8 aw rm5
  rcases lH:decide (code12 m≠0∧code12 m≠3)with _|_
  rotate_left
  ·have kI:=Z7 (show R=.pass by rw[HR.out];exact zh5 HI.out (.inr (of_decide_eq_true lH)))
   clear lH;have y0:=za0 (j:=0) rr rfl
   have y1:=za0 (j:=1) rr rfl
   have y2:=za0 (j:=2) rr rfl
   have y3:=za0 (j:=3) rr rfl
   have y4:=za0 (j:=4) rr rfl
   have f0:=za3 (j:=0) rr
   have f1:=za3 (j:=1) rr
   have f2:=za3 (j:=2) rr
   have f3:=za3 (j:=3) rr
   have f4:=za3 (j:=4) rr
   go_wp2_with fail;obtain⟨U,hU⟩:∃U,U=(((((W6.setCell ⟨g4,0,none⟩ (.int .u8 2)).setCell ⟨g4,1,none⟩ (.int .u8 0)).setCell ⟨g4,2,none⟩ (.slice none 0 0)).setCell ⟨g4,3,none⟩ (.slice none 0 0)).setCell ⟨g4,4,none⟩ (.int .u32 0)):=⟨_,rfl⟩
   rw[←hU];have ru:U.heap[g4]? =some (.cells #[.int .u8 2,.int .u8 0,.slice none 0 0,.slice none 0 0,.int .u32 0] 71):=by rw[hU];exact(za2 (za2 (za2 (za2 (za2 rr 0 _) 1 _) 2 _) 3 _) 4 _)
   have cu:Ext w U:=by rw[hU];exact(((((dC).setCell aE _).setCell aE _).setCell aE _).setCell aE _).setCell aE _
   refine bodyPost_ret (zc6 rfl _ _ g4 _ _ _ _ rfl ru Tryz.underlying71 rfl (by kernel_rfl)) rfl ?_
   show ziz R w (.returned (.agg #[.int .u8 2,.int .u8 0,.slice none 0 0,.slice none 0 0,.int .u32 0])) U
   rw[kI.out];exact⟨_,_,rfl,zdf _,zdf _,cu⟩
  have xN:=of_decide_eq_false lH
  have xO:code12 m=0∨code12 m=3:=by
   rcases Classical.em (code12 m=0)with h|h
   ·exact .inl h
   ·exact .inr (Classical.byContradiction fun h3=>xN ⟨h,h3⟩)
  have yD:=Z7 (show R=if(verOf n ty cls m.hd.code m.ans m.auth).err=0 then(⟨3,verOf n ty cls m.hd.code m.ans m.auth⟩:ReplyD)else .bad by rw[HR.out];exact zjl HI.out Jh.out xO)
  have wT:=zwa HM.out
  have cZ:=zqx HM.out
  have EC:=Z7 (zDq (xL m mqA mxA moA mqc mxc moc) n ty cls m.hd.code 0 maA mac muA muc m.ans m.auth W6 ((gt.out.ans.recs.lower (Nat.zero_le _)).ext (bN.trans (am.trans aw))) ((gt.out.auth.recs.lower (Nat.zero_le _)).ext (bN.trans (am.trans aw))) ⟨by omega,cZ.1⟩ ⟨by omega,cZ.2⟩ (fun r hr=>(eZ.out.auth r hr).2.2.1) hn)
  unfold zpu at EC;clear lH xN xO wT cZ m9;generalize verOf n ty cls m.hd.code m.ans m.auth=Vr at*;have k0:=za0 (j:=0) rq6 rfl
  have k1:=za0 (j:=1) rq6 rfl
  have k2:=za0 (j:=2) rq6 rfl
  go_upto_region 7 with(first|(refine za9 (by rfl) 45 (.tmp 5) rfl b5 0 rfl [.int .u16 m.hd.id,.bool m.hd.qr,.int .u8 m.hd.op,.bool m.hd.aa,.bool m.hd.tc,.bool m.hd.rd,.bool m.hd.ra,.bool m.hd.z,.bool m.hd.ad,.bool m.hd.cd,.int .u8 m.hd.code,(.slice mqA m.qs.length mqc),(.slice maA m.ans.length mac),(.slice muA m.auth.length muc),(.slice mxA m.extra.length mxc),.bool m.he,.int .u16 m.ed.size,.int .u8 m.ed.ext,.int .u8 m.ed.ver,.int .u16 m.ed.flags,(.slice moA m.ed.opts.length moc)] (zba rm8) _ Tryz.underlying45 rfl (by kernel_rfl) ?_)|(go_at_call 62;refine EC.out.mono ?_;rintro e W7 ⟨us,uo,rfl,ED,nX,aS⟩;have Ji:=Z7 ED;have Jj:=Z7 nX;obtain⟨qs1,yA,yc,_,rfl,_,_,_,_⟩:=ED;obtain⟨qo1,zA,zc,_,rfl,_,_,_,_⟩:=nX)|fail)
  obtain⟨W8,tk⟩:∃W8,W8=W7.alloc (.cells #[.int .u8 Vr.code,.slice yA qs1.length yc,.slice zA qo1.length zc] 24):=⟨_,rfl⟩
  obtain⟨gv,jw⟩:∃gv,gv=W7.heap.size:=⟨_,rfl⟩
  have rv:W8.heap[gv]? =some (.cells #[.int .u8 Vr.code,.slice yA qs1.length yc,.slice zA qo1.length zc] 24):=by rw[tk,jw];exact heap_alloc_new _ _
  have sT:Ext W7 W8:=by rw[tk];exact(Z5 _).alloc _
  rw[←tk,←jw];clear tk jw k0 k1 k2 t4;have xP:=aS.trans sT
  have xQ:Ext w W8:=dC.trans xP
  have rr:=Z8 xP rr
  have y0:=za0 (j:=0) rr rfl
  have y1:=za0 (j:=1) rr rfl
  have y2:=za0 (j:=2) rr rfl
  have y3:=za0 (j:=3) rr rfl
  have y4:=za0 (j:=4) rr rfl
  have f0:=za3 (j:=0) rr
  have f1:=za3 (j:=1) rr
  have f2:=za3 (j:=2) rr
  have f3:=za3 (j:=3) rr
  have f4:=za3 (j:=4) rr
  have v0:=za0 (j:=0) rv rfl
  have v1:=za0 (j:=1) rv rfl
  have v2:=za0 (j:=2) rv rfl
  rcases Classical.em (Vr.err=0)with cG|cG
  rotate_left
  ·have kI:=Z7 (show R=.bad by rw[yD.out,if_neg cG])
   have aJ:((Vr.err:Int)==0)=false:=by rw[beq_eq_false_iff_ne];omega
   generalize (Vr.err:Int)=z at*;have ax:¬z=0:=by rw[beq_eq_false_iff_ne]at aJ;exact aJ
   have Eg:decide (z=0)=false:=decide_eq_false ax
   clear cG;go_wp2_with fail;obtain⟨U,hU⟩:∃U,U=(((((W8.setCell ⟨g4,0,none⟩ (.int .u8 1)).setCell ⟨g4,1,none⟩ (.int .u8 0)).setCell ⟨g4,2,none⟩ (.slice none 0 0)).setCell ⟨g4,3,none⟩ (.slice none 0 0)).setCell ⟨g4,4,none⟩ (.int .u32 0)):=⟨_,rfl⟩
   rw[←hU];have ru:U.heap[g4]? =some (.cells #[.int .u8 1,.int .u8 0,.slice none 0 0,.slice none 0 0,.int .u32 0] 71):=by rw[hU];exact(za2 (za2 (za2 (za2 (za2 rr 0 _) 1 _) 2 _) 3 _) 4 _)
   have cu:Ext w U:=by rw[hU];exact(((((xQ).setCell aE _).setCell aE _).setCell aE _).setCell aE _).setCell aE _
   refine bodyPost_ret (zc6 rfl _ _ g4 _ _ _ _ rfl ru Tryz.underlying71 rfl (by kernel_rfl)) rfl ?_
   show ziz R w (.returned (.agg #[.int .u8 1,.int .u8 0,.slice none 0 0,.slice none 0 0,.int .u32 0])) U
   rw[kI.out];exact⟨_,_,rfl,zdf _,zdf _,cu⟩
  have kI:=Z7 (show R=⟨3,Vr⟩by rw[yD.out,if_pos cG])
  rw[cG];clear cG;have au:∀j x,W8.cell? ⟨g4,j,none⟩≠some (S x):=by
   intro j x h;simp only[World.cell?,rr]at h;rcases j with _|_|_|_|_|j
   ·cases h
   ·cases h
   ·cases h
   ·cases h
   ·cases h
   ·simp at h
  go_wp2_with fail;obtain⟨U,hU⟩:∃U,U=(((((W8.setCell ⟨g4,0,none⟩ (.int .u8 3)).setCell ⟨g4,1,none⟩ (.int .u8 Vr.code)).setCell ⟨g4,2,none⟩ (.slice yA qs1.length yc)).setCell ⟨g4,3,none⟩ (.slice zA qo1.length zc)).setCell ⟨g4,4,none⟩ (.int .u32 Vr.time)):=⟨_,rfl⟩
  rw[←hU];have ru:U.heap[g4]? =some (.cells #[.int .u8 3,.int .u8 Vr.code,.slice yA qs1.length yc,.slice zA qo1.length zc,.int .u32 Vr.time] 71):=by rw[hU];exact(za2 (za2 (za2 (za2 (za2 rr 0 _) 1 _) 2 _) 3 _) 4 _)
  have cu:Ext w U:=by rw[hU];exact(((((xQ).setCell aE _).setCell aE _).setCell aE _).setCell aE _).setCell aE _
  refine bodyPost_ret (zc6 rfl _ _ g4 _ _ _ _ rfl ru Tryz.underlying71 rfl (by kernel_rfl)) rfl ?_
  show ziz R w (.returned (.agg #[.int .u8 3,.int .u8 Vr.code,.slice yA qs1.length yc,.slice zA qo1.length zc,.int .u32 Vr.time])) U
  have hk:∀k,k≠g4→U.heap[k]? =W8.heap[k]? :=fun k hk=>by
   rw[hU];exact(Below.heap_setCell _ ⟨g4,4,none⟩ _ k hk).trans ((Below.heap_setCell _ ⟨g4,3,none⟩ _ k hk).trans ((Below.heap_setCell _ ⟨g4,2,none⟩ _ k hk).trans ((Below.heap_setCell _ ⟨g4,1,none⟩ _ k hk).trans (Below.heap_setCell _ ⟨g4,0,none⟩ _ k hk))))
  rw[kI.out];exact⟨_,_,rfl,zpj (Ji.out.ext sT) au hk,zpj (Jj.out.ext sT) au hk,cu⟩
theorem ztg {w:World} {lo lo':Nat} {v:Value} {l:List SetD} (h:Sets w lo v l) (hl:lo'≤lo):Sets w lo' v l:=by
 obtain⟨ps,A,c,h1,h2,h3,h4,h5,h6⟩:=h
 exact⟨ps,A,c,h1,h2,h3,h4,h5.lower hl,fun p hp=>(h6 p hp).lower hl⟩
theorem zv1 (n d:List UInt8) (ty cls:Int) (a b:Addr) (w:World) (hg:Laid w) (hb:BitsAt w) (he:ErrsAt w a b) (hn:n.length≤maxLen) (hd:d.length≤maxLen):
 Calls Tryz.prog 6 #[.agg #[S n,.int .u16 ty,.int .u16 cls],S d] w fun e w'=>e=.returned (.bool true)∧Ext w w':=by
 unfold maxLen at hn hd;have CH:=Z7 (fun V (hV:Ext w V)=>zv0 a b V (hg.ext hV) (hb.ext hV) (he.ext hV))
 obtain⟨X0,ar⟩:∃X0,X0=w.alloc (.cells #[S n,.int .u16 ty,.int .u16 cls] 32):=⟨_,rfl⟩
 obtain⟨g3,dQ⟩:∃g3,g3=w.heap.size:=⟨_,rfl⟩
 have r0:X0.heap[g3]? =some (.cells #[S n,.int .u16 ty,.int .u16 cls] 32):=by rw[ar,dQ];exact heap_alloc_new _ _
 have aD:Ext w X0:=by rw[ar];exact(Z5 _).alloc _
 go_enter Tryz.func6,Tryz.ntmps6;go_upto_region 1 with fail
 rw[←ar,←dQ];clear ar dQ;have k0:=za0 (j:=0) r0 rfl
 have k1:=za0 (j:=1) r0 rfl
 have k2:=za0 (j:=2) r0 rfl
 by_cases hn:3000<n.length
 ·have EE:(3000:Int)<(n.length:Int):=by omega
  go_wp2_with fail;refine(CH.out _ aD).mono ?_;rintro e w1 ⟨rfl,ae⟩;go_wp2_with fail;go_ret;exact⟨rfl,aD.trans ae⟩
 have EE:¬(3000:Int)<(n.length:Int):=by omega
 by_cases hd:3000<d.length
 ·have rU:(3000:Int)<(d.length:Int):=by omega
  go_wp2_with fail;refine(CH.out _ aD).mono ?_;rintro e w1 ⟨rfl,ae⟩;go_wp2_with fail;go_ret;exact⟨rfl,aD.trans ae⟩
 have rU:¬(3000:Int)<(d.length:Int):=by omega
 have HL:=Z7 (zyk d n ty cls X0 (by omega) (by omega))
 unfold ziz at HL;have yN:=Z7 (fun V (hV:Ext w V)=>zgd d n ty cls a b V (hg.ext hV) (hb.ext hV) (he.ext hV) (by omega) (by omega))
 unfold zmm at yN;generalize replyOf d n ty cls=R at*;clear hn hd;go_upto_region 4 with(first|(go_at_call 26;refine HL.out.mono ?_;rintro e w1 ⟨vs1,vo1,rfl,fP,bm,ae⟩;have mL:=Z7 fP;have Ac:=Z7 bm;obtain⟨ps1,wA,wc,_,rfl,pw,_,_,_⟩:=fP;obtain⟨po1,vA,vc,_,rfl,Jk,_,_,_⟩:=bm)|fail)
 generalize ps1.length=wn at*;generalize po1.length=vn at*;obtain⟨W1,kh⟩:∃W1,W1=w1.alloc (.cells #[.int .u8 R.kind,.int .u8 R.ver.code,.slice wA wn wc,.slice vA vn vc,.int .u32 R.ver.time] 71):=⟨_,rfl⟩
 obtain⟨b5,aG⟩:∃b5,b5=w1.heap.size:=⟨_,rfl⟩
 have rW:W1.heap[b5]? =some (.cells #[.int .u8 R.kind,.int .u8 R.ver.code,.slice wA wn wc,.slice vA vn vc,.int .u32 R.ver.time] 71):=by rw[kh,aG];exact heap_alloc_new _ _
 have gu:Ext w1 W1:=by rw[kh];exact(Z5 _).alloc _
 rw[←kh,←aG];clear kh aG k0 k1 k2 HL pw Jk EE rU;have co:Ext w W1:=aD.trans (ae.trans gu)
 have rq:=Z8 (ae.trans gu) r0
 have pN:=Z7 (mL.out.ext gu)
 have Jl:=Z7 (Ac.out.ext gu)
 go_wp2_with fail
 go_loopw [6,7,9,10,11,44] (fun s6 _ _ _ _ _ wr=>∃k:Nat,k≤2∧s6=.int .i64 k∧Ext W1 wr) (fun s6 _ _ _ _ _ _=>2 - (intOf s6).toNat)
 case atStart=>exact⟨0,by omega,rfl,Z5 _⟩
 case round=>
  obtain⟨k,hk,rfl,bW⟩:=hrel
  obtain⟨wo,rfl⟩:∃wo:World,wo=wr:=⟨_,rfl⟩
  have cI:Ext w wo:=co.trans bW
  by_cases lv:k<2
  rotate_left
  ·obtain rfl:k=2:=by omega
   go_wp2_with fail;refine(CH.out _ cI).mono ?_;rintro e w9 ⟨rfl,ej⟩;go_wp2_with fail;go_ret;exact⟨rfl,cI.trans ej⟩
  have cz:(k:Int)<2:=by omega
  have Jm:(0:Int)≤(k:Int):=by omega
  have rqo:=Z8 bW rq
  have k0:=za0 (j:=0) rqo rfl
  have k1:=za0 (j:=1) rqo rfl
  have k2:=za0 (j:=2) rqo rfl
  have HK:=Z7 lv
  clear lv hk;go_upto_region 8 with(first|(go_at_call 27;refine(yN.out _ cI).mono ?_;rintro e w3 ⟨vs,vo,rfl,hs,ho,gK,ao⟩;have Hs:=Z7 hs;have Ho:=Z7 ho;have CI:=Z7 gK;clear gK;obtain⟨ps,pA,pc,bA,rfl,jT,ji⟩:=hs;obtain⟨po,tA,tc,Jn,rfl,ng,wv⟩:=ho)|fail)
  obtain⟨W3,bK⟩:∃W3,W3=w3.alloc (.cells #[.int .u8 R.kind,.int .u8 R.ver.code,.slice pA ps.length pc,.slice tA po.length tc,.int .u32 R.ver.time] 73):=⟨_,rfl⟩
  obtain⟨b7,lB⟩:∃b7,b7=w3.heap.size:=⟨_,rfl⟩
  have rX:W3.heap[b7]? =some (.cells #[.int .u8 R.kind,.int .u8 R.ver.code,.slice pA ps.length pc,.slice tA po.length tc,.int .u32 R.ver.time] 73):=by rw[bK,lB];exact heap_alloc_new _ _
  have aO:Ext w3 W3:=by rw[bK];exact(Z5 _).alloc _
  rw[←bK,←lB];clear bK lB k0 k1 k2;have rW3:=Z8 (bW.trans (ao.trans aO)) rW
  have x0:=za0 (j:=0) rX rfl
  have x1:=za0 (j:=1) rX rfl
  have x2:=za0 (j:=2) rX rfl
  have x3:=za0 (j:=3) rX rfl
  have x4:=za0 (j:=4) rX rfl
  have y0:=za0 (j:=0) rW3 rfl
  have y1:=za0 (j:=1) rW3 rfl
  have y2:=za0 (j:=2) rW3 rfl
  have y3:=za0 (j:=3) rW3 rfl
  have y4:=za0 (j:=4) rW3 rfl
  have oQ:=Z7 (zyl R.kind R.ver.code R.ver.time R.ver.sets R.ver.soa _ _ _ _ _ _ _ _ _ _ _ _ W3 ((ztg Hs.out.sets (Nat.zero_le _)).ext aO) (pN.out.ext (bW.trans (ao.trans aO))) ((ztg Ho.out.sets (Nat.zero_le _)).ext aO) (Jl.out.ext (bW.trans (ao.trans aO))))
  go_wp2_with fail;refine oQ.out.mono ?_;rintro e W4 ⟨rfl,aL⟩;clear x0 x1 x2 x3 x4 y0 y1 y2 y3 y4 oQ;have rX4:=Z8 aL rX
  have z2:=za0 (j:=2) rX4 rfl
  have z3:=za0 (j:=3) rX4 rfl
  obtain⟨hi,t6⟩:∃hi,hi=w3.heap.size:=⟨_,rfl⟩
  obtain⟨lo,ak⟩:∃lo,lo=wo.heap.size:=⟨_,rfl⟩
  rw[←ak]at jT ng ji wv;have CJ:W1.heap.size≤lo:=by rw[ak];exact bW.size
  obtain⟨A,n',c,qs0,a0,a1,n0,n1,c0,c1,q0,q1⟩:∃(A:Nat→Option Addr) (n c:Nat→Nat) (qs:Nat→List (SetD×Value)),A 0=pA∧A 1=tA∧n 0=ps.length∧n 1=po.length∧c 0=pc∧c 1=tc∧qs 0=ps∧qs 1=po:=
   ⟨fun j=>if j=0 then pA else tA,fun j=>if j=0 then ps.length else po.length,fun j=>if j=0 then pc else tc,fun j=>if j=0 then ps else po,rfl,rfl,rfl,rfl,rfl,rfl,rfl,rfl⟩
  have bJ:∀(P:Nat→Prop),P 0→P 1→∀j,j<2→P j:=fun P h0 h1 j hj=>by
   rcases(show j=0∨j=1 by omega)with rfl|rfl
   ·exact h0
   ·exact h1
  have mc:∀j,j<2→∀k,(Value.slice (A j) (n' j) (c j)).ownBlock=some k→lo≤k∧k<hi:=
   bJ _ (by rw[a0,n0,c0,t6];exact jT.blk) (by rw[a1,n1,c1,t6];exact ng.blk)
  have bo:∀j,j<2→n' j≤c j∧c j≤maxLen:=bJ _ (by rw[n0,c0];exact jT.cap) (by rw[n1,c1];exact ng.cap)
  have EF:∀j,j<2→n' j≤9223372036854775807:=fun j hj=>by have:=bo j hj;unfold maxLen at this;omega
  have EG:∀j,j<2→c j≤9223372036854775807:=fun j hj=>by have:=bo j hj;unfold maxLen at this;omega
  have iu:∀i j,i<2→j<2→i≠j→(Value.slice (A i) (n' i) (c i)).ownBlock=none∨(Value.slice (A i) (n' i) (c i)).ownBlock≠(Value.slice (A j) (n' j) (c j)).ownBlock:=fun i j hi hj rP=>by
   rcases(show(i=0∧j=1)∨(i=1∧j=0)by omega)with⟨rfl,rfl⟩|⟨rfl,rfl⟩
   ·rw[a0,n0,c0,a1,n1,c1];rcases hv:(Value.slice pA ps.length pc).ownBlock with _|k
    ·exact .inl rfl
    ·refine .inr (fun e=>?_)
     rcases CI.out with h|h
     ·rw[h]at e;cases e
     ·exact h (e.symm.trans hv.symm)
   ·rw[a0,n0,c0,a1,n1,c1];exact CI.out
  obtain⟨X,hX⟩:∃X,X=W4.alloc (.cells #[.slice pA ps.length pc,.slice tA po.length tc] 22):=⟨_,rfl⟩
  obtain⟨gl,o5⟩:∃gl,gl=W4.heap.size:=⟨_,rfl⟩
  obtain⟨kl,_,zl⟩:=zai gl o5 (Z5 (W4.alloc (.cells #[.slice pA ps.length pc,.slice tA po.length tc] 22)))
  rw[←hX]at kl zl;have mF:Ext w3 X:=by rw[hX];exact((aO.trans aL).alloc _)
  have Cl:Ext W1 X:=bW.trans (ao.trans mF)
  have xR:∀j,j<2→X.cell? ⟨gl,j,none⟩=some (.slice (A j) (n' j) (c j)):=bJ _ (by rw[a0,n0,c0];exact kl 0) (by rw[a1,n1,c1];exact kl 1)
  have jP:Spo2 X lo hi gl n' A c qs0 X:=by
   refine⟨bJ _ (by rw[q0,n0]) (by rw[q1,n1]),bJ _ ?_ ?_,bJ _ ?_ ?_,xR,Betw.refl _ _ _⟩
   ·rw[a0,n0,c0,q0];exact jT.ext mF
   ·rw[a1,n1,c1,q1];exact ng.ext mF
   ·rw[q0,t6];exact fun p hp=>⟨_,(ji p hp).ext mF,fun k hk=>((ji p hp).blk k hk).2⟩
   ·rw[q1,t6];exact fun p hp=>⟨_,(wv p hp).ext mF,fun k hk=>((wv p hp).blk k hk).2⟩
  have jE:hi≤gl:=by rw[t6,o5];exact(aO.trans aL).size
  have Jo:=Z7 bo
  have CK:=Z7 mc
  have CL:=Z7 iu
  have Jp:=Z7 EF
  have Jq:=Z7 EG
  have Jr:=Z7 jP
  have CM:=Z7 o5
  clear jP xR kl jT ng ji wv bo mc iu bJ q0 q1 n0 n1 a0 a1 c0 c1 EF EG o5 t6 ak Hs Ho CI bA Jn;go_upto_region 11 with fail
  rw[←hX,←CM.out];clear hX
  go_loopw [9,10,11,44] (fun _ _ _ s44 wr=>∃(i:Nat) (qs:Nat→List (SetD×Value)),i≤2∧s44=.int .i64 i∧Spo2 X lo hi gl n' A c qs wr) (fun _ _ _ s44 _=>2 - (intOf s44).toNat)
  case atStart=>exact⟨0,qs0,by omega,rfl,Jr.out⟩
  case round=>
   obtain⟨i,qs,Dn,rfl,hI⟩:=hrel
   obtain⟨wp,rfl⟩:∃wp:World,wp=wr:=⟨_,rfl⟩
   by_cases lT:i<2
   ·have AU:(i:Int)<2:=by omega
    have Js:(0:Int)≤(i:Int):=by omega
    have Kp:=Jp.out i lT
    have lH:=Jq.out i lT
    have ql:=hI.lst i lT
    go_wp2_with fail;clear ql
    go_loopw [10,11] (fun j _ wr=>∃(k:Nat) (qs:Nat→List (SetD×Value)),k≤n' i∧j=.int .i64 k∧Spo2 X lo hi gl n' A c qs wr) (fun j _ _=>n' i - (intOf j).toNat)
    case atStart=>exact⟨0,qs,by omega,rfl,hI⟩
    case round=>
     obtain⟨k2,qs,hk,rfl,hI⟩:=hrel
     obtain⟨wq,rfl⟩:∃wq:World,wq=wr:=⟨_,rfl⟩
     by_cases ab:k2<n' i
     ·obtain⟨g,hA,bG,cB,iN,a9⟩:=(hI.own i lT).addr (by omega)
      have Jt:g<hi:=(CK.out i lT g (by rw[hA];rfl)).2
      have m8:k2<(qs i).length:=by rw[hI.len i lT];exact ab
      have i9:(qs i)[k2]∈qs i:=List.getElem_mem m8
      have bA:(qs i)[k2]? =some (qs i)[k2]:=Z3 m8
      generalize i7:(qs i)[k2]=p at*;obtain⟨⟨pn,pt,pc2,ptl,pd⟩,pv⟩:=p
      obtain⟨l0,⟨pA2,pcc,rfl,vO⟩,ud⟩:=hI.datas i lT _ i9
      have jL:=vO.cap
      have iE:=jL.2
      unfold maxLen at iE;have iJ:(k2:Int)<(n' i:Int):=by omega
      have cW:(0:Int)≤(k2:Int):=by omega
      generalize hm:l0.length=m at*;have Kq:m≤9223372036854775807:=by have:=jL.1;omega
      have HA:=Z7 hA
      have um:=Z7 bA
      clear hm vO a9 iN jL bA i7;rw[hA];clear hA;go_wp2_with fail
      go_loopw [11] (fun j wi=>∃(z:Nat),z≤m∧j=.int .i64 z∧Spo2 X lo hi gl n' A c qs wi) (fun j _=>m - (intOf j).toNat)
      case atStart=>exact⟨0,by omega,rfl,hI⟩
      case round=>
       obtain⟨z,hz,rfl,hJ⟩:=hrel
       obtain⟨wi,rfl⟩:∃wi:World,wi=wr:=⟨_,rfl⟩
       obtain⟨g2,e2,_,BH,jx,sU⟩:=(hJ.own i lT).addr (by omega)
       rw[HA.out]at e2;injection e2 with e2
       injection e2 with e2 _ _
       subst e2;have eK:=zb0 (off:=0) (fun j u hu=>by rw[Nat.zero_add];exact sU j u hu) k2 _ um.out
       simp only[Nat.zero_add]at eK;obtain⟨y0,y1,y2,y3,y4⟩:=eK
       by_cases tI:z<m
       ·obtain⟨l1,⟨qA,qc,e1,bm⟩,CN⟩:=hJ.datas i lT _ i9
        dsimp only at e1 bm CN;injection e1 with e1 e3 e4
        subst e1 e4;rw[←e3]at bm;obtain⟨gd,rfl,Ju,yX,tV,EH⟩:=bm.addr (by omega)
        have gC:gd<hi:=CN gd rfl
        have Jv:∃x,wi.cell? ⟨gd,z,none⟩=some (S x):=⟨_,EH z (S (l1[z]'(by omega))) (by simp[show z<l1.length by omega])⟩
        obtain⟨x,hx⟩:=Jv
        have Ew:=tV z
        have Kr:(z:Int)<(m:Int):=by omega
        have aF:(0:Int)≤(z:Int):=by omega
        have HJ:=Z7 (hJ.store Ju gC jE (fun j hj=>zfl (e:=79) (e':=9) (hJ.own j hj) bm (by decide)) z zGl)
        clear tV EH CN e3 bm jx sU;go_wp2_with fail;go_roundw
        case rel=>exact⟨z+1,by omega,by go_num,HJ.out⟩
        case measure=>simp[intOf];omega
       ·obtain rfl:z=m:=by omega
        have y5:=jx (k2*5)
        have yR:=jx (k2*5+1)
        have Ed:=jx (k2*5+2)
        have Ks:=jx (k2*5+3)
        have Kt:=jx (k2*5+4)
        have HJ:=Z7 (hJ.set lT HA.out bG Jt jE CL.out um.out m8 [])
        clear jx sU;go_wp2_with fail;go_roundw
        case rel=>exact⟨k2+1,_,by omega,by go_num,HJ.out⟩
        case measure=>simp[intOf];omega
     ·obtain rfl:k2=n' i:=by omega
      go_wp2_with fail;go_roundw
      case rel=>exact⟨i+1,qs,by omega,by go_num,hI⟩
      case measure=>simp[intOf];omega
   ·have AU:¬(i:Int)<2:=by omega
    go_wp2_with fail;go_roundw
    case rel=>exact⟨k+1,by have:=HK.out;omega,by go_num,Betw.ext Cl hI.betw CJ⟩
    case measure=>(have h9:=HK.out;simp[intOf];omega)
end Go.Proofs.YtdnpmapelmjfpaaGreatDoor
namespace Go.Proofs.YtdnpmapelmjfpaaGreatDoor
open Go.ChangeShapes Go.WideShapes Go.RowKit Go.Deep Go.Joins
theorem zy5 {H:Type} {enc:TypeId×Value→H} {W:World} {r:Reach} {b0:Nat} {v:Value} {d:DataW H} {p:List MemPlace}
 (hv:Value.okWide Tryz.prog W r b0 9 v) (h:DataW.Trod enc Tryz.prog W 0 (fun _=>true) true 9 v d p):∃n:List UInt8,v=S n∧n.length≤maxLen:=by
 obtain⟨s,rfl⟩:=okWide_string Tryz.underlying9 hv
 obtain⟨fuel,hf⟩:=h
 obtain⟨s',e,_,hs⟩:=DataW.trod_string Tryz.underlying9 hf
 simp only[Value.cells,List.cons.injEq,and_true]at e;injection e with e
 subst e;exact⟨s.data.toList,S_of s,zAg hs⟩
end Go.Proofs.YtdnpmapelmjfpaaGreatDoor
namespace Go.Proofs.YtdnpmapelmjfpaaGreatDoor
open Go.ChangeShapes Go.WideShapes Go.ChangeAt Go.RowKit
theorem zlh (H:Type) (enc:TypeId×Value→H) (W:World) (base:Nat) (args:Array Value) (ds gs:List (DataW H)) (before:List MemPlace)
 (mG:∀(j:Nat) t v,Tryz.f6.params[j]? =some t→args[j]? =some v→Value.okWide Tryz.prog W .any base t v)
 (hW:DataW.Whole enc Tryz.prog Tryz.f6.params.toList Rows.heardLooksSpec.vars false W args.toList ds gs before)
 (bH:(DataW.weightsEach Tryz.prog (Tryz.f6.params.toList++(OpenSpec.ofChange Rows.heardLooksSpec).bare.plain.varTypes Tryz.prog) (ds++gs)).all (·≤reachBytes)=true)
 (hL:laidMetH Tryz.prog zp3 W):
 Calls Tryz.prog 6 args W fun e W'=>∃v,e=.returned v∧Rows.heardLooksSpec.post enc Tryz.prog Tryz.f6 false true false false W args v W':=by
 have yY:=hW
 have hp:∀t∈Tryz.f6.params.toList,Tryz.prog.readableRec t=true∧t<Tryz.prog.types.size:=by
  have h:(Tryz.f6.params.toList.all fun t=>Tryz.prog.readableRec t&&decide (t<Tryz.prog.types.size))=true:=by kernel_rfl
  simpa only[List.all_eq_true,Bool.and_eq_true,decide_eq_true_eq]using h
 have hg:=zF6 hL
 have hb:=zuz hL
 obtain⟨p,q,EI,hV,rfl,_,_⟩:=hW
 have hA:DataW.TrodAll enc Tryz.prog W 0 (fun _=>true) true Tryz.f6.params.toList args.toList ds p:=EI
 clear EI;rw[Tryz.params6]at hA mG bH;obtain⟨rfl,rfl⟩:=trodVars_none hV
 obtain⟨ea,eb,he⟩:=zEz hL
 obtain⟨v0,v1,d0,d1,p0,p1,rfl,rfl,rfl,h0,h1⟩:=trodAll_two hA
 obtain⟨n,ty,cl,rfl,hn,dx,eS⟩:=zs3 (mG 0 _ _ rfl rfl) h0
 obtain⟨da,rfl,hd⟩:=zy5 (mG 1 _ _ rfl rfl) h1
 refine(zv1 n da ty cl ea eb W hg hb he hn hd).mono ?_;rintro e W' ⟨rfl,hE⟩;exact⟨_,rfl,zAw zD4 rfl (by kernel_rfl) Tryz.underlying4 hp yY rfl hE⟩
theorem zo2 (os:Os) {H:Type} (enc:TypeId×Value→H):∃places,DataW.whole enc Tryz.prog ((zlx os).forCall (fun _ _=>0) ⟨#[],#[.agg #[.string ⟨#[]⟩,.int .u16 0,.int .u16 0],.string ⟨#[]⟩],[]⟩).memory Tryz.f6.params.toList Rows.heardLooksSpec.vars false (#[.agg #[.string ⟨#[]⟩,.int .u16 0,.int .u16 0],.string ⟨#[]⟩]:Array Value).toList 8=some ([.agg [.lit (.string []),.lit (.int .u16 0),.lit (.int .u16 0)],.lit (.string [])],[],places):=
 ⟨[],by kernel_rfl⟩
theorem zn2 (os:Os) (started:os.Started) (H:Type) (enc:TypeId×Value→H) (F:Stop.Interp):
 ReturnsInHanded {} Tryz.checked os 6 .any ((OpenSpec.ofChange Rows.heardLooksSpec).preRow enc Tryz.prog Tryz.f6 Rows.heardLooksRow.domain false Rows.heardLooksRow.laid) (((OpenSpec.ofChange Rows.heardLooksSpec).at F).post enc Tryz.prog Tryz.f6 false true false false):=by
 obtain⟨places,hx⟩:=zo2 os enc
 refine returnsInHanded_of_row (C:=Tryz.checked) (s:=OpenSpec.ofChange Rows.heardLooksSpec) zDg started (by kernel_rfl) Tryz.func6
  (witness_row_at (enc:=enc) (C:=Tryz.checked) false (zlx os) #[.agg #[.string ⟨#[]⟩,.int .u16 0,.int .u16 0],.string ⟨#[]⟩] rfl (by kernel_rfl) (by kernel_rfl) (by kernel_rfl)
   (OpenSpec.preRow_of_cond 8 hx (by kernel_rfl) (fun k hk=>by cases hk) (by kernel_rfl) (zD3 os _))) ?_
 intro W base args ds gs before mG hW _ _ bH hL _ _;exact zlh H enc W base args ds gs before mG hW bH hL
theorem zzj (a b:Bool) (h1:a=true) (h2:b=true):(a&&b)=true:=by rw[h1,h2];rfl
theorem zn1:joinedFacts Tryz.prog 6 Tryz.f6 (OpenSpec.ofChange Rows.heardLooksSpec).bare Rows.heardLooksRow=true:=by
 unfold joinedFacts;repeat' (with_reducible refine zzj _ _ ?_ ?_)
 all_goals(as_aux_lemma=>kernel_rfl)
theorem zoz:Rows.HeardLooksSaid:=
 OpenClaim.holds_of_cond 6 Tryz.f6 rfl rfl rfl rfl rfl rfl rfl ⟨rfl,rfl,rfl,rfl,rfl⟩ rfl rfl rfl rfl rfl (by kernel_rfl) Tryz.func6 zn1
  (of_decide_eq_true (by kernel_rfl)) (by unfold Func.isWrapper;first|(rw[if_pos (by decide+kernel)];kernel_rfl)|(rw[if_neg (by decide+kernel)];exact⟨rfl,rfl⟩))
  (fun os started H enc _ F=>by rw[OpenClaim.pre_eq_preRow];exact zn2 os started H enc F)
theorem heardLooks_card:Rows.HeardLooksCardSaid:=
 Claim7.holds_tied_plain_at .later [] _ _ _ _ zoz (fun _ h=>by cases h) (by as_aux_lemma=>kernel_rfl) (fun _ h=>by cases h) heardLooks_row_tie rfl ⟨rfl,rfl⟩ (by as_aux_lemma=>kernel_rfl) rfl
  (fun f fn hf tG=>by
   obtain rfl:f=6:=Option.some.inj ((show Tryz.prog.funcNamed Rows.heardLooksRow.func=some 6 by kernel_rfl).symm.trans hf) |>.symm
   obtain rfl:fn=Tryz.f6:=(Option.some.inj (Tryz.func6.symm.trans tG)).symm
   refine⟨by kernel_rfl,fun j t ht=>?_⟩
   have h:(Tryz.f6.params.toList.all fun t=>!Tryz.prog.wantsStandIn t)=true:=by kernel_rfl
   have h2:=List.all_eq_true.1 h t (by simpa using Array.mem_of_getElem? ht)
   exact(by simpa using h2:Tryz.prog.wantsStandIn t=false))
  (by as_aux_lemma=>kernel_rfl)
#print axioms heardLooks_card
end Go.Proofs.YtdnpmapelmjfpaaGreatDoor
