/- hustingslaw30.ResolverAnswers returns true for every input, and every argument reads behind the call as it read before; the listed variables are tied to the program's text. No condition of ours. -/
import Derived.Test.YtdnpmapelmjfpaaGreatDoorCards
import Derived.Test.YtdnpmapelmjfpaaGreatDoorTie
import Derived.Test.YtdnpmapelmjfpaaGreatDoorQb
import Derived.ProofKit
import Derived.OpenShut
import Derived.LaidHandle
import Derived.LaidLaws
import Derived.Test.YtdnpmapelmjfpaaGreatDoorQwy
import Derived.Deep.DeepHandedRow
import Derived.Test.YtdnpmapelmjfpaaGreatDoorQl3
import Derived.Test.YtdnpmapelmjfpaaGreatDoorQkd
import Derived.Test.YtdnpmapelmjfpaaGreatDoorQg
import Derived.Test.YtdnpmapelmjfpaaGreatDoorQry
import Derived.Carry
set_option maxHeartbeats 8000000
set_option linter.unusedVariables false
set_option linter.unusedSimpArgs false
namespace Go.Proofs.YtdnpmapelmjfpaaGreatDoor
open Go.ChangeShapes Go.WideShapes Go.ChangeAt Go.RowKit
set_option maxRecDepth 100000
theorem zBq:ownKnob Tryz.prog.godebug=none:=by kernel_rfl
theorem zF9:Tryz.prog.globalNamed "errors.errorType" =some 3:=by kernel_rfl
theorem zDu:((List.range Tryz.prog.types.size).filter fun t=>Tryz.prog.rowNamed t [101,114,114,111,114])=[124]:=by kernel_rfl
def zra:List (String×DataW Unit):=[("errors.errorType",Rows.laid_errors_errorType),("hustings/head.bits",Rows.laid_hustings_head_bits)]
theorem zDm {W:World} (h:laidMetH Tryz.prog zra W):Laid W:=by
 have h':laidMet Tryz.prog [("hustings/head.bits",Rows.laid_hustings_head_bits)] W∧handlesMet Tryz.prog [("errors.errorType",Rows.laid_errors_errorType)] W:=h
 obtain⟨name,u,ty,e1,e2,e3,e4,e5⟩:=h'.2 _ (List.mem_singleton.2 rfl)
 have en:name=[101,114,114,111,114]:=(Option.some.inj e1).symm
 subst en;obtain rfl:u=286:=Option.some.inj (e2.symm.trans (by kernel_rfl))
 have hm:ty∈(List.range Tryz.prog.types.size).filter fun t=>Tryz.prog.rowNamed t [101,114,114,111,114]:=List.mem_filter.2 ⟨List.mem_range.2 e3,e4⟩
 rw[zDu]at hm;obtain rfl:=List.mem_singleton.1 hm
 have hh:typeHandle Tryz.prog 124=hdl 124:=by kernel_rfl
 rw[hh]at e5;show W.cell? ⟨3,0,none⟩=_
 simpa using World.var?_cell zF9 e5 0
theorem zuw:Tryz.prog.globalNamed "hustings/head.bits" =some 2:=by kernel_rfl
theorem zBo {l:List Value} {i:Nat} {v:Value} (h:(l.drop i).take 1=[v]):l[i]? =some v:=by
 have h1:=congrArg (fun x:List Value=>x[0]?) h
 simpa using h1
def zjs:List Int:=[32768,1024,512,256,128,64,32,16]
theorem zts {W:World} (h:laidMetH Tryz.prog zra W):BitsAt W:=by
 have h':laidMet Tryz.prog [("hustings/head.bits",Rows.laid_hustings_head_bits)] W∧handlesMet Tryz.prog [("errors.errorType",Rows.laid_errors_errorType)] W:=h
 obtain⟨ps,hlv,_,_⟩:=h'.1
 obtain⟨g,t,cs,fuel,p,q,e1,e2,e3,e4,_,_⟩:=hlv
 obtain rfl:2=g:=Option.some.inj (zuw.symm.trans e1)
 obtain rfl:223=t:=Option.some.inj ((show(Tryz.prog.globals[2]?).map (·.type)=some 223 by kernel_rfl).symm.trans e2)
 obtain⟨xs,n,_,hd,_,hlen,hf⟩:=DataW.trod_array Tryz.underlying223 e4
 have hd1:=(Prod.mk.inj hd).1
 have key:∀i,i<8→cs.toList[i]? =some (.int .u16 (zjs.getD i 0)):=fun i hi=>by
  have hx:(xs.map (·.1))[i]? =some (.lit (.int .u16 (zjs.getD i 0))):=by
   have h1:xs.map (·.1)=zjs.map fun k=>(.lit (.int .u16 k):DataW Unit):=by
    injection hd1 with h1
    exact h1.symm
   rw[h1,List.getElem?_map,List.getElem?_eq_getElem (show i<zjs.length from hi)]
   simp[List.getD,List.getElem?_eq_getElem (show i<zjs.length from hi)]
  rw[List.getElem?_map]at hx;obtain⟨y,hy1,hy2⟩:=Option.map_eq_some_iff.1 hx
  have h2:=(hf i hi).trans hy1
  rw[show Tryz.prog.cellsOf 26=1 by kernel_rfl,Nat.mul_one]at h2
  obtain⟨m,g1,g2,_⟩:=DataW.trod_int Tryz.underlying26 h2
  rw[g2]at hy2;have hm:m=zjs.getD i 0:=by
   injection hy2 with hy2
   injection hy2
  rw[←hm];exact zBo g1
 have key2:∀i,i<8→W.cell? ⟨2,i,none⟩=some (.int .u16 (zjs.getD i 0)):=fun i hi=>by
  rw[World.var?_cell zuw e3 i];simpa using key i hi
 exact⟨key2 0 (by omega),key2 1 (by omega),key2 2 (by omega),key2 3 (by omega),key2 4 (by omega),key2 5 (by omega),key2 6 (by omega),key2 7 (by omega)⟩
noncomputable def zl8 (os:Os):World:=
 let w0:=World.holding Tryz.prog os ⟨#[],#[],[]⟩
 {w0 with heap:=(w0.heap.modify 3 fun
  | .cells _ t frozen=>.cells #[zm0] t frozen
  |o=>o).modify 2 fun
  | .cells _ t frozen=>.cells #[.int .u16 32768,.int .u16 1024,.int .u16 512,.int .u16 256,.int .u16 128,.int .u16 64,.int .u16 32,.int .u16 16] t frozen
  |o=>o}
theorem zBh (os:Os) (args:Array Value):laidMetH Tryz.prog zra ((zl8 os).forCall (fun _ _=>0) ⟨#[],args,[]⟩).memory:=
 laidMetH_of_parts (laidMet_of_run' 8 (by kernel_rfl) (by kernel_rfl)) (by kernel_rfl)
section
variable {H : Type} {enc : TypeId × Value → H} {P : Program}
theorem zko (hl:laidOutB P=true) {W W':World} (hb:Below W.heap.size W W') {sp:Nat→Bool}:∀{ts:List TypeId} {vs:List Value} {ds:List (DataW H)} {ps:List MemPlace},
 (∀t∈ts,P.readableRec t=true∧t<P.types.size)→DataW.TrodAll enc P W 0 (fun _=>true) true ts vs ds ps→(∀x∈ps,x.block<W.heap.size)→(∀x∈ps,sp x.block=true)→DataW.TrodAll enc P W' 0 sp true ts vs ds ps
 |[],_,_,_,_,h,_,_=>by obtain⟨rfl,rfl,rfl⟩:=trodAll_nil h;exact trodAll_mk0
 |t::ts,_,_,_,ht,h,hlt,hs=>by
  obtain⟨v,vs,d,ds,p,q,rfl,rfl,rfl,h0,h1⟩:=trodAll_cons h
  have h2:=ht t (by simp)
  exact trodAll_cons_mk (WideElems.Trod_stays hl h2.1 h2.2 h0 (fun x hx=>hb.same (hlt x (by simp[hx]))) (fun x hx=>hs x (by simp[hx])))
   (zko hl hb (fun t ht'=>ht t (by simp[ht'])) h1 (fun x hx=>hlt x (by simp[hx])) (fun x hx=>hs x (by simp[hx])))
theorem zqz {f:Func} {s:ChangeSpec} {apart fresh handsOn again:Bool} {W W':World} {args:Array Value} {v:Value} {ds gs:List (DataW H)} {before pa pv:List MemPlace}
 (hW:DataW.Whole enc P f.params.toList s.vars apart W args.toList ds gs before)
 (hres:∀(b:Nat) (sp:Nat→Bool) (hd:Bool),DataW.TrodAll enc P W' b sp hd f.resultTypes.toList (v.resultList f.resultTypes.size) (s.fn H (ds++gs)).results [])
 (hargs:∀sp:Nat→Bool,(∀p∈before,sp p.block=true)→DataW.TrodAll enc P W' 0 sp true f.params.toList args.toList (s.fn H (ds++gs)).args pa)
 (hvars:∀sp:Nat→Bool,(∀p∈before,sp p.block=true)→DataW.TrodVars enc P W' sp s.vars (s.fn H (ds++gs)).vars pv)
 (hps:before=pa++pv) (hb:Below W.heap.size W W')
 (hok:∀(j:Nat) (t:TypeId) (r:Value),f.resultTypes[j]? =some t→(v.resultList f.resultTypes.size)[j]? =some r→Value.okWide P W' .any 0 t r):
 s.post enc P f apart fresh handsOn again W args v W':=by
 have hlt:∀p∈before,p.block<W.heap.size:=fun p hp=>hW.lt p hp
 have hold:∀p∈before,(fun b=>decide (b<W.heap.size)) p.block=true:=fun p hp=>by simpa using hlt p hp
 refine⟨ds,gs,before,[],pa,pv,hW,hres _ _ _,hargs _ hold,hvars _ hold,World.keptBut_mono (fun p hp=>⟨hp,?_⟩) (hb.frame (·∈before)),fun _=>?_⟩
 ·rw[hps,List.mem_append]at hp;exact Or.inr hp
 ·obtain⟨_,_,_,_,_,hz,hn⟩:=hW
  refine⟨hok,_,_,([]++pa)++pv,⟨[]++pa,pv,trodAll_append (hargs _ (fun _ _=>rfl)) (hres _ _ _),hvars _ (fun _ _=>rfl),rfl,?_,?_⟩,?_⟩
  ·intro b off hp;have hin:MemPlace.cell b off∈before:=by rw[hps];simpa using hp
   rw[hb.frozen (hlt _ hin)];exact hz b off hin
  ·intro ha;have:=hn ha
   rw[hps]at this;simpa using this
  ·intro p hp _;rw[hps];simpa using hp
theorem zz4 {f:Func} {s:ChangeSpec} {apart fresh handsOn again:Bool} {W W':World} {args:Array Value} {ds gs:List (DataW H)} {before:List MemPlace} {t:TypeId}
 (hl:laidOutB P=true) (hvn:s.vars=[]) (hr:f.resultTypes= #[t]) (ht:P.underlying t=some .bool)
 (hp:∀t∈f.params.toList,P.readableRec t=true∧t<P.types.size)
 (hW:DataW.Whole enc P f.params.toList s.vars apart W args.toList ds gs before)
 (hfn:s.fn H ds={results:=[.lit (.bool true)],args:=ds}) (hb:Ext W W'):
 s.post enc P f apart fresh handsOn again W args (.bool true) W':=by
 have hW':=hW
 obtain⟨p,q,hA,hV,rfl,_,_⟩:=hW
 rw[hvn]at hV;obtain⟨rfl,rfl⟩:=trodVars_none hV
 have hlt:∀x∈p,x.block<W.heap.size:=fun x hx=>by simpa using hW'.lt x (by simp[hx])
 refine zqz (pa:=p) (pv:=[]) hW' (fun _ _ _=>?_) (fun sp hs=>?_) (fun _ _=>?_) rfl hb (ok_one hr rfl (okWide_bool_mk ht _))
 ·rw[List.append_nil,hfn,hr];exact trodAll_mk1 (shut_bool ht true)
 ·rw[List.append_nil,hfn];exact zko hl hb hp hA hlt (fun x hx=>hs x (by simp[hx]))
 ·rw[List.append_nil,hfn,hvn];rfl
end
theorem zBi:laidOutB Tryz.prog=true:=by kernel_rfl
end Go.Proofs.YtdnpmapelmjfpaaGreatDoor
namespace Go.Proofs.YtdnpmapelmjfpaaGreatDoor
open Go.RowKit
set_option maxRecDepth 100000
theorem zqy (v:Value) (l:List RecD) (q1 q2:List UInt8) (w:World) (hg:Laid w) (hb:BitsAt w) (h:Recs w 0 v l) (hwf:∀r∈l,r.wf) (hs:∀r∈l,r.name.length≤maxLen∧r.data.length≤maxLen) (hq1:q1.length≤maxLen) (hq2:q2.length≤maxLen):
 Calls Tryz.prog 5 #[v,S q1,S q2] w fun e w'=>e=.returned (.bool true)∧Ext w w':=by
 have HFw:=Lib.hid (zys 0 v l w h hs)
 have HAw:=Lib.hid (fun V (hV:Ext w V)=>ztu V (hg.ext hV) (hb.ext hV))
 have HH:=Lib.hid h
 obtain⟨A,c,rfl,h1,h2,hrd⟩:=h
 unfold maxLen at h2 hq1 hq2;unfold zuq at HFw;go_enter Tryz.func5,Tryz.ntmps5;go_wp2_with fail;refine HFw.out.mono ?_;rintro e w1 ⟨B,rfl,hB,rfl⟩;rcases B with _|_
 ·go_wp2_with fail;refine(HAw.out _ (Ext.refl _)).mono ?_;rintro e w2 ⟨rfl,hE2⟩;go_wp2_with fail;go_ret;exact⟨rfl,hE2⟩
 have hfew:=hB rfl
 clear hB HFw;by_cases ha:3000<q1.length
 ·have hai:(3000:Int)<(q1.length:Int):=by omega
  go_wp2_with fail;refine(HAw.out _ (Ext.refl _)).mono ?_;rintro e w2 ⟨rfl,hE2⟩;go_wp2_with fail;go_ret;exact⟨rfl,hE2⟩
 have hai:¬(3000:Int)<(q1.length:Int):=by omega
 by_cases hc:3000<q2.length
 ·have hci:(3000:Int)<(q2.length:Int):=by omega
  go_wp2_with fail;refine(HAw.out _ (Ext.refl _)).mono ?_;rintro e w2 ⟨rfl,hE2⟩;go_wp2_with fail;go_ret;exact⟨rfl,hE2⟩
 have hci:¬(3000:Int)<(q2.length:Int):=by omega
 have hl1:q1.length≤16384:=by omega
 have hl2:q2.length≤16384:=by omega
 have hbd:=hfew.bd
 have hsm:∀r∈l,r.data.length≤100000:=fun r hr=>by have:=(hfew.2 r hr).2;omega
 have HN2:=Lib.hid (zzj 0 _ l w HH.out hbd)
 unfold zrc at HN2;clear ha hc;go_wp2_with fail;refine HN2.out.mono ?_;rintro e w2 (⟨hall,R2,gv2,rfl,hR2l,hR2,ho2,hE2⟩|⟨_,rfl,hE2⟩);rotate_left
 ·go_wp2_with fail;refine(HAw.out _ hE2).mono ?_;rintro e w3 ⟨rfl,hE3⟩;go_wp2_with fail;go_ret;exact⟨rfl,hE2.trans hE3⟩
 have HN1:=Lib.hid (zvj 0 _ l w2 (hg.ext hE2) (HH.out.ext hE2) hbd (zqf hwf))
 unfold zur at HN1;go_wp2_with fail;refine HN1.out.mono ?_;rintro e w3 (⟨_,R1,gv1,rfl,hR1l,hR1,ho1,hE3⟩|⟨hno,_⟩);rotate_left
 ·rw[hall]at hno;cases hno
 clear hall HN1 HN2;have hE23:Ext w w3:=hE2.trans hE3
 have hS1:=ho1.sets.lower (Nat.zero_le _)
 have hS2:=(ho2.sets.lower (Nat.zero_le _)).ext hE3
 have hR2':=(hE3.block _ (Array.getElem?_eq_some_iff.1 hR2).1).trans hR2
 have k1:w3.cell? ⟨R1,0,none⟩=some gv1:=za0 (j:=0) hR1 rfl
 have k2:w3.cell? ⟨R2,0,none⟩=some gv2:=za0 (j:=0) hR2' rfl
 have hz1:=(Array.getElem?_eq_some_iff.1 hR1).1
 have hz2:=(Array.getElem?_eq_some_iff.1 hR2').1
 have HP:=Lib.hid (fun(d:List UInt8) (hd:d.length≤16384) V (hV:Ext w3 V)=>zkd l gv1 R1 d V (hg.ext (hE23.trans hV)) (hb.ext (hE23.trans hV)) ((hV.cell (p:=⟨R1,0,none⟩) hz1).trans k1) (hS1.ext hV) hbd hwf (by omega))
 have HQ:=Lib.hid (fun(d:List UInt8) (hd:d.length≤16384) V (hV:Ext w3 V)=>zln l gv2 R2 d V ((hV.cell (p:=⟨R2,0,none⟩) hz2).trans k2) (hS2.ext hV) hbd hwf hsm hd)
 unfold zf6 at HP HQ;generalize resOf (zap l)=F at*;have HA:=Lib.hid (fun V (hV:Ext w3 V)=>HAw.out V (hE23.trans hV))
 have HPn:=Lib.hid (fun(d:List UInt8) (hd:d.length≤16384) (R:Nat) V (hV:Ext w3 V) (hR:V.cell? ⟨R,0,none⟩=some (.slice none 0 0))=>zkd [] (.slice none 0 0) R d V (hg.ext (hE23.trans hV)) (hb.ext (hE23.trans hV)) hR (Sets.nil V 0) ⟨by simp,by simp⟩ (by simp) (by omega))
 have HQn:=Lib.hid (fun(d:List UInt8) (hd:d.length≤16384) (R:Nat) V (hV:Ext w3 V) (hR:V.cell? ⟨R,0,none⟩=some (.slice none 0 0))=>zln [] (.slice none 0 0) R d V hR (Sets.nil V 0) ⟨by simp,by simp⟩ (by simp) (by simp) hd)
 have HRn:=Lib.hid (fun(R:Nat) V (hR:V.cell? ⟨R,0,none⟩=some (.slice none 0 0))=>zu7 R (.slice none 0 0) [] V hR (Sets.nil V 0) (by simp) (by simp) (by simp))
 unfold zf6 at HPn HQn;unfold zcl at HRn;generalize resOf (zap [])=F0 at*;clear k1 k2 hS1 hS2 ho1 ho2 hfew;go_wp2_with fail;refine(HP.out q1 hl1 _ (Ext.refl _)).mono ?_;rintro e a1 ⟨rfl,hE4⟩;go_wp2_with fail;refine(HQ.out q1 hl1 _ hE4).mono ?_;rintro e a2 ⟨rfl,hE5'⟩;have hE5:=hE4.trans hE5'
 go_wp2_with fail;refine(HP.out q2 hl2 _ hE5).mono ?_;rintro e a3 ⟨rfl,hE6'⟩;have hE6:=hE5.trans hE6'
 go_wp2_with fail;refine(HQ.out q2 hl2 _ hE6).mono ?_;rintro e a4 ⟨rfl,hE7'⟩;have hE7:=hE6.trans hE7'
 go_wp2_with fail;refine(HP.out q1 hl1 _ hE7).mono ?_;rintro e a5 ⟨rfl,hE8'⟩;have hE8:=hE7.trans hE8'
 go_wp2_with fail;refine(HQ.out q1 hl1 _ hE8).mono ?_;rintro e a6 ⟨rfl,hE9'⟩;have hE9:=hE8.trans hE9'
 clear hE4 hE5' hE5 hE6' hE6 hE7' hE7 hE8' hE8 hE9';go_upto_region 11 with fail
 obtain⟨X11,hX11⟩:∃X,X=a6.alloc (.cells #[.slice none 0 0] 65):=⟨_,rfl⟩
 obtain⟨b11,hb11⟩:∃b,b=a6.heap.size:=⟨_,rfl⟩
 have r11:X11.heap[b11]? =some (.cells #[.slice none 0 0] 65):=by rw[hX11,hb11];exact heap_alloc_new _ _
 have hE11:Ext w3 X11:=by rw[hX11];exact hE9.alloc _
 rw[←hX11,←hb11];clear hX11 hb11;have k11:=Lib.hid (fun V (hV:Ext X11 V)=>(show V.cell? ⟨b11,0,none⟩=some (.slice none 0 0)from za0 (j:=0) ((hV.block _ (Array.getElem?_eq_some_iff.1 r11).1).trans r11) rfl))
 go_wp2_with fail;refine(HPn.out q1 hl1 b11 _ hE11 (k11.out _ (Ext.refl _))).mono ?_;rintro e c1 ⟨rfl,hF1⟩;go_wp2_with fail;refine(HQn.out q1 hl1 _ _ ((hE11.trans hF1).alloc _) (za0 (j:=0) (heap_alloc_new _ _) rfl)).mono ?_
 rintro e c2 ⟨rfl,hF2'⟩;have hF2:Ext X11 c2:=(hF1.alloc _).trans hF2'
 go_wp2_with fail;refine(zpg q1 c2).mono ?_;rintro e c3 ⟨rfl,rfl⟩;go_wp2_with fail;refine(zoe c2).mono ?_;rintro e c4 ⟨rfl,rfl⟩;go_wp2_with fail;refine(HRn.out b11 c2 (k11.out _ hF2)).mono ?_;rintro e c5 ⟨A5,c5',rfl,_,hF5⟩;have hEnd:=hE11.trans (hF2.trans hF5)
 go_wp2_with fail;refine(HA.out _ hEnd).mono ?_;rintro e c6 ⟨rfl,hF6⟩;go_wp2_with fail;go_ret;exact⟨rfl,hE23.trans (hEnd.trans hF6)⟩
end Go.Proofs.YtdnpmapelmjfpaaGreatDoor
namespace Go.Proofs.YtdnpmapelmjfpaaGreatDoor
open Go.ChangeShapes Go.WideShapes Go.RowKit Go.Deep Go.Joins
set_option maxRecDepth 100000
section
variable {H : Type} {enc : TypeId × Value → H} {P : Program} {w : World} {base : Nat} {spare : Nat → Bool} {held : Bool}
end
end Go.Proofs.YtdnpmapelmjfpaaGreatDoor
namespace Go.Proofs.YtdnpmapelmjfpaaGreatDoor
open Go.ChangeShapes Go.WideShapes Go.RowKit Go.Deep Go.Joins
set_option maxRecDepth 100000
theorem zq6 {H:Type} {enc:TypeId×Value→H} {W:World} {r:Reach} {b0:Nat} {v:Value} {d:DataW H} {p:List MemPlace}
 (hv:Value.okWide Tryz.prog W r b0 9 v) (h:DataW.Trod enc Tryz.prog W 0 (fun _=>true) true 9 v d p):∃n:List UInt8,v=S n∧n.length≤maxLen:=by
 obtain⟨s,rfl⟩:=okWide_string Tryz.underlying9 hv
 obtain⟨fuel,hf⟩:=h
 obtain⟨s',e,_,hs⟩:=DataW.trod_string Tryz.underlying9 hf
 simp only[Value.cells,List.cons.injEq,and_true]at e;injection e with e
 subst e;exact⟨s.data.toList,S_of s,zs8 hs⟩
end Go.Proofs.YtdnpmapelmjfpaaGreatDoor
namespace Go.Proofs.YtdnpmapelmjfpaaGreatDoor
open Go.ChangeShapes Go.WideShapes Go.ChangeAt Go.RowKit
set_option maxRecDepth 100000
theorem zic (H:Type) (enc:TypeId×Value→H) (W:World) (base:Nat) (args:Array Value) (ds gs:List (DataW H)) (before:List MemPlace)
 (hval:∀(j:Nat) t v,Tryz.f5.params[j]? =some t→args[j]? =some v→Value.okWide Tryz.prog W .any base t v)
 (hW:DataW.Whole enc Tryz.prog Tryz.f5.params.toList Rows.resolverAnswersSpec.vars false W args.toList ds gs before)
 (hsz:(DataW.weightsEach Tryz.prog (Tryz.f5.params.toList++(OpenSpec.ofChange Rows.resolverAnswersSpec).bare.plain.varTypes Tryz.prog) (ds++gs)).all (·≤reachBytes)=true)
 (hL:laidMetH Tryz.prog zra W):
 Calls Tryz.prog 5 args W fun e W'=>∃v,e=.returned v∧Rows.resolverAnswersSpec.post enc Tryz.prog Tryz.f5 false true false false W args v W':=by
 have hW':=hW
 have hp:∀t∈Tryz.f5.params.toList,Tryz.prog.readableRec t=true∧t<Tryz.prog.types.size:=by
  have h:(Tryz.f5.params.toList.all fun t=>Tryz.prog.readableRec t&&decide (t<Tryz.prog.types.size))=true:=by kernel_rfl
  simpa only[List.all_eq_true,Bool.and_eq_true,decide_eq_true_eq]using h
 have hg:=zDm hL
 have hb:=zts hL
 obtain⟨p,q,hA0,hV,rfl,_,_⟩:=hW
 have hA:DataW.TrodAll enc Tryz.prog W 0 (fun _=>true) true Tryz.f5.params.toList args.toList ds p:=hA0
 clear hA0;rw[Tryz.params5]at hA hval hsz;obtain⟨rfl,rfl⟩:=trodVars_none hV
 obtain⟨v0,v1,v2,d0,d1,d2,p0,p1,p2,rfl,rfl,rfl,h0,h1,h2⟩:=trodAll_three hA
 obtain⟨l,hr0,hlo⟩:=zwr (hval 0 _ _ rfl rfl) h0
 obtain⟨q1,rfl,hq1⟩:=zq6 (hval 1 _ _ rfl rfl) h1
 obtain⟨q2,rfl,hq2⟩:=zq6 (hval 2 _ _ rfl rfl) h2
 refine(zqy v0 l q1 q2 W hg hb hr0 (fun r hr=>(hlo r hr).1.2.2) (fun r hr=>⟨Nat.le_trans (zsn hsz (j:=0) rfl rfl (hlo r hr).2.1) (by unfold maxLen;decide),Nat.le_trans (zsn hsz (j:=0) rfl rfl (hlo r hr).2.2) (by unfold maxLen;decide)⟩) hq1 hq2).mono ?_
 rintro e W' ⟨rfl,hE⟩;exact⟨_,rfl,zz4 zBi rfl (by kernel_rfl) Tryz.underlying4 hp hW' rfl hE⟩
theorem zjm (os:Os) {H:Type} (enc:TypeId×Value→H):∃places,DataW.whole enc Tryz.prog ((zl8 os).forCall (fun _ _=>0) ⟨#[],#[.slice none 0 0,.string ⟨#[]⟩,.string ⟨#[]⟩],[]⟩).memory Tryz.f5.params.toList Rows.resolverAnswersSpec.vars false (#[.slice none 0 0,.string ⟨#[]⟩,.string ⟨#[]⟩]:Array Value).toList 8=some ([.nil,.lit (.string []),.lit (.string [])],[],places):=
 ⟨[],by kernel_rfl⟩
theorem zj5 (os:Os) (started:os.Started) (H:Type) (enc:TypeId×Value→H) (F:Stop.Interp):
 ReturnsInHanded {} Tryz.checked os 5 .any ((OpenSpec.ofChange Rows.resolverAnswersSpec).preRow enc Tryz.prog Tryz.f5 Rows.resolverAnswersRow.domain false Rows.resolverAnswersRow.laid) (((OpenSpec.ofChange Rows.resolverAnswersSpec).at F).post enc Tryz.prog Tryz.f5 false true false false):=by
 obtain⟨places,hx⟩:=zjm os enc
 refine returnsInHanded_of_row (C:=Tryz.checked) (s:=OpenSpec.ofChange Rows.resolverAnswersSpec) zBq started (by kernel_rfl) Tryz.func5
  (witness_row_at (enc:=enc) (C:=Tryz.checked) false (zl8 os) #[.slice none 0 0,.string ⟨#[]⟩,.string ⟨#[]⟩] rfl (by kernel_rfl) (by kernel_rfl) (by kernel_rfl)
   (OpenSpec.preRow_of_cond 8 hx (by kernel_rfl) (fun k hk=>by cases hk) (by kernel_rfl) (zBh os _))) ?_
 intro W base args ds gs before hval hW _ _ hsz hL _ _;exact zic H enc W base args ds gs before hval hW hsz hL
theorem zy0 (a b:Bool) (h1:a=true) (h2:b=true):(a&&b)=true:=by rw[h1,h2];rfl
theorem zj4:joinedFacts Tryz.prog 5 Tryz.f5 (OpenSpec.ofChange Rows.resolverAnswersSpec).bare Rows.resolverAnswersRow=true:=by
 unfold joinedFacts;repeat' (with_reducible refine zy0 _ _ ?_ ?_)
 all_goals(as_aux_lemma=>kernel_rfl)
theorem zke:Rows.ResolverAnswersSaid:=
 OpenClaim.holds_of_cond 5 Tryz.f5 rfl rfl rfl rfl rfl rfl rfl ⟨rfl,rfl,rfl,rfl,rfl⟩ rfl rfl rfl rfl rfl (by kernel_rfl) Tryz.func5 zj4
  (of_decide_eq_true (by kernel_rfl)) (by unfold Func.isWrapper;first|(rw[if_pos (by decide+kernel)];kernel_rfl)|(rw[if_neg (by decide+kernel)];exact⟨rfl,rfl⟩))
  (fun os started H enc _ F=>by rw[OpenClaim.pre_eq_preRow];exact zj5 os started H enc F)
theorem resolverAnswers_card:Rows.ResolverAnswersCardSaid:=
 Claim7.holds_tied_plain_at .later [] _ _ _ _ zke (fun _ h=>by cases h) (by as_aux_lemma=>kernel_rfl) (fun _ h=>by cases h) resolverAnswers_row_tie rfl ⟨rfl,rfl⟩ (by as_aux_lemma=>kernel_rfl) rfl
  (fun f fn hf hfn=>by
   obtain rfl:f=5:=Option.some.inj ((show Tryz.prog.funcNamed Rows.resolverAnswersRow.func=some 5 by kernel_rfl).symm.trans hf) |>.symm
   obtain rfl:fn=Tryz.f5:=(Option.some.inj (Tryz.func5.symm.trans hfn)).symm
   refine⟨by kernel_rfl,fun j t ht=>?_⟩
   have h:(Tryz.f5.params.toList.all fun t=>!Tryz.prog.wantsStandIn t)=true:=by kernel_rfl
   have h2:=List.all_eq_true.1 h t (by simpa using Array.mem_of_getElem? ht)
   exact(by simpa using h2:Tryz.prog.wantsStandIn t=false))
  (by as_aux_lemma=>kernel_rfl)
#print axioms resolverAnswers_card
end Go.Proofs.YtdnpmapelmjfpaaGreatDoor
