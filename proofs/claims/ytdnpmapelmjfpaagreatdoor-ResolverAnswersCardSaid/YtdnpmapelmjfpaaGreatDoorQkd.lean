/- Contracts of functions and plain lemmas that the proofs of this seat share (joined texts). No condition. -/
import Derived.Test.YtdnpmapelmjfpaaGreatDoorQkc
import Derived.Test.YtdnpmapelmjfpaaGreatDoorQkb
set_option maxHeartbeats 16000000
set_option linter.unusedVariables false
set_option linter.unusedSimpArgs false
namespace Go.Proofs.YtdnpmapelmjfpaaGreatDoor
open Go.RowKit
set_option maxRecDepth 100000
theorem ztl (i:Int) (rd:Bool) (q:Value) (hq:q.oneCell'=true) (hx:∃A n c,q=.slice A n c):Tryz.prog.built 45 [(0,.agg #[.int .u16 i,.bool true,.int .u8 0,.bool false,.bool false,.bool rd,.bool true,.bool false,.bool false,.bool false,.int .u8 0]),(1,q)]=some (za4 ⟨i,true,0,false,false,rd,true,false,false,false,0⟩ q (.slice none 0 0) (.slice none 0 0) (.slice none 0 0) false za6 (.slice none 0 0)):=by
 obtain⟨A,n,c,rfl⟩:=hx
 kernel_rfl
theorem zwp {w:World} {g:Nat} {hd:HdD} {q a u x o0:Value} {he:Bool} {e0:EdD} (h:w.heap[g]? =some (.cells (za4 hd q a u x he e0 o0) 45)) (e:EdD) (o:Value):(w.setCells g 16 [.int .u16 e.size,.int .u8 e.ext,.int .u8 e.ver,.int .u16 e.flags,o]).heap[g]? =some (.cells (za4 hd q a u x he e o) 45):=
 za7 (za7 (za7 (za7 (za7 h 16 (.int .u16 e.size)) 17 (.int .u8 e.ext)) 18 (.int .u8 e.ver)) 19 (.int .u16 e.flags)) 20 o
theorem zEk {w V:World} {g:Nat} (h:Ext w V) (hb:w.heap.size≤g) (v0 v1 v2 v3 v4:Value):Ext w (V.setCells g 16 [v0,v1,v2,v3,v4]):=
 ((((h.setCell (p:=⟨g,16,none⟩) hb v0).setCell (p:=⟨g,17,none⟩) hb v1).setCell (p:=⟨g,18,none⟩) hb v2).setCell (p:=⟨g,19,none⟩) hb v3).setCell (p:=⟨g,20,none⟩) hb v4
theorem zkn (l:List RecD):∀k,k≤l.length→∀s∈groupTo l k,∀d∈s.data,∃r∈l,d=rfold s.typ r.data
 |0,_=>by simp[groupTo]
 |k+1,h=>by
  rw[zdl l k (by omega)]
  have ih:=zkn l k (by omega)
  intro s hs d hd;unfold zev at hs;split at hs
  ·rename_i hok;split at hs
   ·rcases List.mem_append.1 hs with h1|h1
    ·exact ih s h1 d hd
    ·rw[List.mem_singleton]at h1;subst h1;simp only[List.mem_singleton]at hd;exact⟨l[k],List.getElem_mem _,hd⟩
   ·rename_i hge;obtain⟨t,ht,hkt⟩:=zor _ (Nat.le_refl _) (show 0≤atTo (zbc (fold l[k].name) l[k].typ l[k].cls) (groupTo l k) (groupTo l k).length by omega)
    obtain⟨i,hi,rfl⟩:=List.getElem_of_mem hs
    rw[List.getElem_modify]at hd ⊢;rw[List.length_modify]at hi;split at hd
    ·rename_i e;rw[if_pos e]at*;have hti:t=(groupTo l k)[i]:=by
      rw[e,List.getElem?_eq_getElem hi]at ht;injection ht with ht;exact ht.symm
     have hty:(groupTo l k)[i].typ=l[k].typ:=by
      rw[zgo]at hkt;rw[←hti];simp only[zbn,Prod.mk.injEq]at hkt;exact hkt.2.1
     rcases zsj hd with h2|h2
     ·exact ih _ (List.getElem_mem hi) d h2
     ·exact⟨l[k],List.getElem_mem _,by show d=rfold (groupTo l k)[i].typ _;rw[hty];exact h2⟩
    ·rename_i e;rw[if_neg e];exact ih _ (List.getElem_mem hi) d hd
  ·exact ih s hs d hd
theorem ztq {l:List RecD} (h:∀r∈l,r.data.length≤100000):∀s∈zap l,∀d∈s.data,d.length≤100000:=by
 intro s hs d hd;obtain⟨r,hr,rfl⟩:=zkn l l.length (Nat.le_refl _) s (znm _ _ _ hs) d hd
 exact Nat.le_trans (zit _ _) (h r hr)
theorem zln (l:List RecD) (v:Value) (Rb:Nat) (d:List UInt8) (w:World) (hR:w.cell? ⟨Rb,0,none⟩=some v) (hS:Sets w 0 v (zap l)) (hbd:zfi l) (hwf:∀r∈l,r.wf) (hsm:∀r∈l,r.data.length≤100000) (hd:d.length≤16384):
 Calls Tryz.prog 23 #[.pointer (some ⟨Rb,0,none⟩),S d] w (zf6 (resOf (zap l) d) w):=by
 have hRw:Rb<w.heap.size:=by
  rcases Nat.lt_or_ge Rb w.heap.size with h|h
  ·exact h
  ·simp[World.cell?,Array.getElem?_eq_none h]at hR
 have hsb:=zpy hbd
 have hgs:=Lib.hid (ztq hsm)
 have HD:=Lib.hid (zu5 d w hd)
 unfold zf6;go_enter Tryz.func23,Tryz.ntmps23;go_upto_region 1 with fail
 go_wp2_with fail;refine HD.out.mono ?_;rintro e Y5 ⟨⟨kk,xx,hk0,hx,rfl⟩|⟨m,q,a,u,x,o,hm,rfl,hMO,hBd⟩,hEd⟩
 ·have HN:=Lib.hid (show resOf (zap l) d=[]from by unfold resOf;rw[hx])
  have hke:((kk:Int)!=0)=true:=by simpa using hk0
  clear hx hk0;dsimp only
  iterate 10 go_step
  obtain⟨b5,hb5⟩:∃b5,b5=Y5.heap.size:=⟨_,rfl⟩
  have hz:(Y5.alloc (.cells zbt 45)).heap[b5]? =some (.cells zbt 45):=by rw[hb5];exact heap_alloc_new _ _
  refine Go.Great.wpList_allocTo rfl (some 5) rfl (.pointer (some ⟨Y5.heap.size,0,none⟩)) (.cells zbt 45) (by kernel_rfl) ?_
  rw[←hb5];refine Go.wpList_store_rowTo rfl 45 (.tmp 5) (.tmp 14) rfl rfl b5 zbt rfl rfl 45 _ hz (by kernel_rfl) rfl (by kernel_rfl) ?_
  rw[zcs Y5 zbt zbt 45 b5 hb5]
  iterate 3 go_step
  refine wpList_nil ?_;go_wp2_with fail;go_ret;exact⟨by rw[HN.out];rfl,hEd.alloc _⟩
 have HN:=Lib.hid (show resOf (zap l) d=zf3 (zap l) m from by unfold resOf;rw[hm])
 have HW:=Lib.hid (zv2 hm)
 clear hm;have HM:=Lib.hid hMO
 obtain⟨⟨qA,qc,rfl,hqo⟩,⟨aA,ac,rfl,_⟩,⟨uA,uc,rfl,_⟩,⟨xA,xc,rfl,_⟩,⟨oA,oc,rfl,_⟩⟩:=hMO
 dsimp only
 iterate 10 go_step
 obtain⟨b5,hb5⟩:∃b5,b5=Y5.heap.size:=⟨_,rfl⟩
 have hz:(Y5.alloc (.cells zbt 45)).heap[b5]? =some (.cells zbt 45):=by rw[hb5];exact heap_alloc_new _ _
 refine Go.Great.wpList_allocTo rfl (some 5) rfl (.pointer (some ⟨Y5.heap.size,0,none⟩)) (.cells zbt 45) (by kernel_rfl) ?_
 rw[←hb5];refine Go.wpList_store_rowTo rfl 45 (.tmp 5) (.tmp 14) rfl rfl b5 (za4 m.hd (.slice qA m.qs.length qc) (.slice aA m.ans.length ac) (.slice uA m.auth.length uc) (.slice xA m.extra.length xc) m.he m.ed (.slice oA m.ed.opts.length oc)) rfl rfl 45 _ hz (by kernel_rfl) rfl (by kernel_rfl) ?_
 rw[zcs Y5 zbt (za4 m.hd (.slice qA m.qs.length qc) (.slice aA m.ans.length ac) (.slice uA m.auth.length uc) (.slice xA m.extra.length xc) m.he m.ed (.slice oA m.ed.opts.length oc)) 45 b5 hb5]
 iterate 3 go_step
 refine wpList_nil ?_
 try rw[←hb5]
 obtain⟨X5,hX⟩:∃X5,X5=Y5.alloc (.cells (za4 m.hd (.slice qA m.qs.length qc) (.slice aA m.ans.length ac) (.slice uA m.auth.length uc) (.slice xA m.extra.length xc) m.he m.ed (.slice oA m.ed.opts.length oc)) 45):=⟨_,rfl⟩
 have r5:X5.heap[b5]? =some (.cells (za4 m.hd (.slice qA m.qs.length qc) (.slice aA m.ans.length ac) (.slice uA m.auth.length uc) (.slice xA m.extra.length xc) m.he m.ed (.slice oA m.ed.opts.length oc)) 45):=by rw[hX,hb5];exact heap_alloc_new _ _
 have hY5:Ext Y5 X5:=by rw[hX];exact(Ext.refl _).alloc _
 have hE5:Ext w X5:=hEd.trans hY5
 rw[←hX];clear hX hz hb5 hEd;have c1:X5.cell? ⟨b5,1,none⟩=some (.bool m.hd.qr):=za0 (j:=1) r5 rfl
 have c2:X5.cell? ⟨b5,2,none⟩=some (.int .u8 m.hd.op):=za0 (j:=2) r5 rfl
 have c11:X5.cell? ⟨b5,11,none⟩=some (.slice qA m.qs.length qc):=za0 (j:=11) r5 rfl
 rcases hqr:m.hd.qr with _|_
 rotate_left
 ·have HN2:=Lib.hid (show zf3 (zap l) m=[]from zma (by rw[hqr];simp))
  rw[hqr]at c1;clear hqr;go_wp2_with fail;go_ret;exact⟨by rw[HN.out,HN2.out];rfl,hE5⟩
 rw[hqr]at c1;by_cases hop:m.hd.op=0
 rotate_left
 ·have HN2:=Lib.hid (show zf3 (zap l) m=[]from zma (by rw[hqr];simp[hop]))
  have ho1:(m.hd.op !=0)=true:=by simpa using hop
  clear hqr hop;go_wp2_with fail;go_ret;exact⟨by rw[HN.out,HN2.out];rfl,hE5⟩
 have ho1:(m.hd.op !=0)=false:=by rw[hop];rfl
 by_cases hql:m.qs.length=1
 rotate_left
 ·have HN2:=Lib.hid (show zf3 (zap l) m=[]from zsv hql)
  have hq1:((m.qs.length:Int)!=1)=true:=by simpa using(show ¬((m.qs.length:Int)=1)by omega)
  clear hqr hop hql;go_wp2_with fail;go_ret;exact⟨by rw[HN.out,HN2.out];rfl,hE5⟩
 have hq1:((m.qs.length:Int)!=1)=false:=by rw[hql];rfl
 obtain⟨y,hy⟩:∃y,m.qs=[y]:=by
  rcases hqs:m.qs with _|⟨y,_|⟨z,r⟩⟩
  ·rw[hqs]at hql;cases hql
  ·exact⟨y,rfl⟩
  ·rw[hqs]at hql;simp at hql
 have HY:=Lib.hid hy
 have hym:may y.name=true:=zyu (zp0 HW.out.2.1).1 y (by rw[hy];simp)
 have hyl:y.name.length≤1048576:=Nat.le_trans (ze9 hym) (by omega)
 have HYm:=Lib.hid hym
 obtain⟨R,hR0⟩:∃R,R=zfe (zap l) y.name y.typ y.cls:=⟨_,rfl⟩
 have HN2:=Lib.hid (show zf3 (zap l) m=zej m R from by unfold zf3;rw[hy];dsimp only;rw[if_pos ⟨hqr,hop⟩,hR0])
 have HRo:=Lib.hid (show ResOk l R from by rw[hR0];exact zsw l _ _ _)
 have hqo':=hqo.rd
 obtain⟨gq,oq,rfl,_,hgq,hqc⟩:=hqo'.2 (by omega)
 obtain⟨e0,e1,e2⟩:=zdy hqc 0 y (by rw[hy];rfl)
 rw[←hY5.cell (p:=⟨gq,_,none⟩) hgq]at e0 e1 e2
 rw[Nat.zero_mul,Nat.add_zero]at e0 e1 e2;have hgq5:gq<X5.heap.size:=Nat.lt_of_lt_of_le hgq hY5.size
 have HQ1:=Lib.hid hql
 have HFl:=Lib.hid (fun(he:Bool) V (hV:Ext X5 V)=>zx7 Rb 0 v (zap l) ⟨m.hd.id,true,0,false,false,m.hd.rd,true,false,false,false,0⟩ gq oq qc he (zbb he) y.name y.typ y.cls V (((hE5.trans hV).cell (p:=⟨Rb,0,none⟩) hRw).trans hR) (hS.ext (hE5.trans hV)) hsb hyl (Nat.lt_of_lt_of_le hgq5 hV.size) ((hV.cell (p:=⟨gq,_,none⟩) hgq5).trans e0) ((hV.cell (p:=⟨gq,_,none⟩) hgq5).trans e1) ((hV.cell (p:=⟨gq,_,none⟩) hgq5).trans e2))
 rw[←hR0,←hql]at HFl;unfold zvn at HFl;clear hqr hop hql hy hym hR0 hqc hqo hqo' e0 e1 e2;have HCd:=Lib.hid (show 0≤R.code∧R.code≤15 from by rcases HRo.out.code with h|h|h<;>rw[h]<;>decide)
 have c0:X5.cell? ⟨b5,0,none⟩=some (.int .u16 m.hd.id):=za0 (j:=0) r5 rfl
 have c5:X5.cell? ⟨b5,5,none⟩=some (.bool m.hd.rd):=za0 (j:=5) r5 rfl
 go_upto_region 4 with fail
 refine wp_region_lit ?_
 iterate 27 go_step
 refine zkq rfl 45 _ rfl [(0,.agg #[.int .u16 m.hd.id,.bool true,.int .u8 0,.bool false,.bool false,.bool m.hd.rd,.bool true,.bool false,.bool false,.bool false,.int .u8 0]),(1,(.slice (some ⟨gq,oq,none⟩) m.qs.length qc))] (by simp only[List.map_toArray,List.map_cons,List.map_nil];rfl) (za4 ⟨m.hd.id,true,0,false,false,m.hd.rd,true,false,false,false,0⟩ (.slice (some ⟨gq,oq,none⟩) m.qs.length qc) (.slice none 0 0) (.slice none 0 0) (.slice none 0 0) false za6 (.slice none 0 0)) (ztl m.hd.id m.hd.rd (.slice (some ⟨gq,oq,none⟩) m.qs.length qc) rfl ⟨_,_,_,rfl⟩) (some 44) rfl ?_
 obtain⟨b7,hb7⟩:∃b7,b7=X5.heap.size:=⟨_,rfl⟩
 have hz:(X5.alloc (.cells zbt 45)).heap[b7]? =some (.cells zbt 45):=by rw[hb7];exact heap_alloc_new _ _
 refine Go.Great.wpList_allocTo rfl (some 7) rfl (.pointer (some ⟨X5.heap.size,0,none⟩)) (.cells zbt 45) (by kernel_rfl) ?_
 rw[←hb7];refine Go.wpList_store_rowTo rfl 45 (.tmp 7) (.tmp 44) rfl rfl b7 (za4 ⟨m.hd.id,true,0,false,false,m.hd.rd,true,false,false,false,0⟩ (.slice (some ⟨gq,oq,none⟩) m.qs.length qc) (.slice none 0 0) (.slice none 0 0) (.slice none 0 0) false za6 (.slice none 0 0)) rfl rfl 45 _ hz (by kernel_rfl) rfl (by kernel_rfl) ?_
 rw[zcs X5 zbt (za4 ⟨m.hd.id,true,0,false,false,m.hd.rd,true,false,false,false,0⟩ (.slice (some ⟨gq,oq,none⟩) m.qs.length qc) (.slice none 0 0) (.slice none 0 0) (.slice none 0 0) false za6 (.slice none 0 0)) 45 b7 hb7];refine wpList_nil ?_
 try rw[←hb7]
 obtain⟨X6,hX⟩:∃X6,X6=X5.alloc (.cells (za4 ⟨m.hd.id,true,0,false,false,m.hd.rd,true,false,false,false,0⟩ (.slice (some ⟨gq,oq,none⟩) m.qs.length qc) (.slice none 0 0) (.slice none 0 0) (.slice none 0 0) false za6 (.slice none 0 0)) 45):=⟨_,rfl⟩
 have r7:X6.heap[b7]? =some (.cells (za4 ⟨m.hd.id,true,0,false,false,m.hd.rd,true,false,false,false,0⟩ (.slice (some ⟨gq,oq,none⟩) m.qs.length qc) (.slice none 0 0) (.slice none 0 0) (.slice none 0 0) false za6 (.slice none 0 0)) 45):=by rw[hX,hb7];exact heap_alloc_new _ _
 have hE56:Ext X5 X6:=by rw[hX];exact(Ext.refl _).alloc _
 have hb7X:X5.heap.size≤b7:=by omega
 have hb57:b5<b7:=by rw[hb7];exact(Array.getElem?_eq_some_iff.1 r5).1
 rw[←hX];clear hX hz hb7 c0 c1 c2 c5 c11;have r56:=(hE56.block _ (Array.getElem?_eq_some_iff.1 r5).1).trans r5
 have k15:X6.cell? ⟨b5,15,none⟩=some (.bool m.he):=za0 (j:=15) r56 rfl
 have k16:X6.cell? ⟨b5,16,none⟩=some (.int .u16 m.ed.size):=za0 (j:=16) r56 rfl
 rcases hhe:m.he with _|_
 ·have HHe:=Lib.hid hhe
  have HRm:=Lib.hid (show zdg m=512 from by unfold zdg;rw[if_neg (by rw[hhe];simp)])
  rw[hhe]at k15;obtain⟨X9,rfl⟩:∃X9:World,X9=X6:=⟨_,rfl⟩
  have hE59:Ext X5 X9:=hE56
  have r79:=r7
  clear hhe k16;have hw9:Ext w X9:=hE5.trans hE59
  go_upto_region 10 with fail
  refine wp_region_lit ?_
  iterate 3 go_step
  refine zaf (by rfl) 45 (.tmp 7) rfl b7 rfl _ (za4 ⟨m.hd.id,true,0,false,false,m.hd.rd,true,false,false,false,0⟩ (.slice (some ⟨gq,oq,none⟩) m.qs.length qc) (.slice none 0 0) (.slice none 0 0) (.slice none 0 0) false (zbb false) (.slice none 0 0)) _ _ r79 Tryz.underlying45 rfl (by kernel_rfl) ?_
  go_wp2_with fail;refine(HFl.out false X9 hE59).mono ?_;rintro e Y9 ⟨va,vu,rfl,hra,hru,hE9⟩;have HRa:=Lib.hid hra
  have HRu:=Lib.hid hru
  obtain⟨vA,vc,hva,_,_,_⟩:=hra
  obtain⟨wA,wcc,hvu,_,_,_⟩:=hru
  obtain⟨na,hna⟩:∃na,na=(R.ans.flatMap za8).length:=⟨_,rfl⟩
  obtain⟨nu,hnu⟩:∃nu,nu=(R.auth.flatMap za8).length:=⟨_,rfl⟩
  rw[←hna]at hva;rw[←hnu]at hvu;subst hva hvu;clear hna hnu;dsimp only
  iterate 1 go_step
  obtain⟨b9,hb9⟩:∃b9,b9=Y9.heap.size:=⟨_,rfl⟩
  have hz:(Y9.alloc (.cells zbt 45)).heap[b9]? =some (.cells zbt 45):=by rw[hb9];exact heap_alloc_new _ _
  refine Go.Great.wpList_allocTo rfl (some 9) rfl (.pointer (some ⟨Y9.heap.size,0,none⟩)) (.cells zbt 45) (by kernel_rfl) ?_
  rw[←hb9];refine Go.wpList_store_rowTo rfl 45 (.tmp 9) (.tmp 58) rfl rfl b9 (za4 ⟨m.hd.id,true,0,false,false,m.hd.rd,true,false,false,false,R.code⟩ (.slice (some ⟨gq,oq,none⟩) m.qs.length qc) (.slice vA na vc) (.slice wA nu wcc) (.slice none 0 0) false (zbb false) (.slice none 0 0)) rfl rfl 45 _ hz (by kernel_rfl) rfl (by kernel_rfl) ?_
  rw[zcs Y9 zbt (za4 ⟨m.hd.id,true,0,false,false,m.hd.rd,true,false,false,false,R.code⟩ (.slice (some ⟨gq,oq,none⟩) m.qs.length qc) (.slice vA na vc) (.slice wA nu wcc) (.slice none 0 0) false (zbb false) (.slice none 0 0)) 45 b9 hb9];refine wpList_nil ?_
  try rw[←hb9]
  obtain⟨Z9,hX⟩:∃Z9,Z9=Y9.alloc (.cells (za4 ⟨m.hd.id,true,0,false,false,m.hd.rd,true,false,false,false,R.code⟩ (.slice (some ⟨gq,oq,none⟩) m.qs.length qc) (.slice vA na vc) (.slice wA nu wcc) (.slice none 0 0) false (zbb false) (.slice none 0 0)) 45):=⟨_,rfl⟩
  have r9:Z9.heap[b9]? =some (.cells (za4 ⟨m.hd.id,true,0,false,false,m.hd.rd,true,false,false,false,R.code⟩ (.slice (some ⟨gq,oq,none⟩) m.qs.length qc) (.slice vA na vc) (.slice wA nu wcc) (.slice none 0 0) false (zbb false) (.slice none 0 0)) 45):=by rw[hX,hb9];exact heap_alloc_new _ _
  have hEYZ:Ext Y9 Z9:=by rw[hX];exact(Ext.refl _).alloc _
  have hX9Z:Ext X9 Z9:=hE9.trans hEYZ
  have hb79:b7<b9:=by rw[hb9];exact Nat.lt_of_lt_of_le (Array.getElem?_eq_some_iff.1 r79).1 hE9.size
  rw[←hX];clear hX hz hb9;have r7Z:=(hX9Z.block _ (Array.getElem?_eq_some_iff.1 r79).1).trans r79
  have hw9Z:Ext w Z9:=hw9.trans hX9Z
  have hm7:Msg7 Z9 (zaj m R) (.slice (some ⟨gq,oq,none⟩) m.qs.length qc) (.slice vA na vc) (.slice wA nu wcc) (.slice none 0 0) (.slice none 0 0):=by
   have h7:=(((HM.out.lower (Nat.zero_le _)).ext (hY5.trans (hE59.trans hX9Z))).msg7 hBd)
   exact⟨h7.qs,HRa.out.ext hEYZ,HRu.out.ext hEYZ,zbm _,zeb _ _ (zd3 m.he).2,h7.qok,zec hsb HRo.out.ans,zec hsb HRo.out.auth,(by intro r hr;cases hr),Nat.zero_le _⟩
  have hda:∀r∈(zaj m R).ans++(zaj m R).auth++(zaj m R).extra,r.data.length≤100000:=by
   have hx:∀L:List SetD,(∀s∈L,s∈zap l)→∀r∈L.flatMap za8,r.data.length≤100000:=fun L hL r hr=>by
    obtain⟨s,hs,hr⟩:=List.mem_flatMap.1 hr
    unfold za8 at hr;obtain⟨z,hz,rfl⟩:=List.mem_map.1 hr
    exact hgs.out s (hL s hs) z hz
   intro r hr;rcases List.mem_append.1 hr with hr|hr
   ·rcases List.mem_append.1 hr with hr|hr
    ·exact hx _ HRo.out.ans r hr
    ·exact hx _ HRo.out.auth r hr
   ·cases hr
  have HEn:=Lib.hid (zfm (zaj m R) (.slice (some ⟨gq,oq,none⟩) m.qs.length qc) (.slice vA na vc) (.slice wA nu wcc) (.slice none 0 0) (.slice none 0 0) Z9 (zed HW.out.1 false HCd.out.1 (zf2 hwf HRo.out.ans) (zf2 hwf HRo.out.auth)) hm7 hda)
  have hrw:zdr (zaj m R).hd (.slice (some ⟨gq,oq,none⟩) m.qs.length qc) (.slice vA na vc) (.slice wA nu wcc) (.slice none 0 0) (zaj m R).he (zaj m R).ed (.slice none 0 0)=.agg (za4 ⟨m.hd.id,true,0,false,false,m.hd.rd,true,false,false,false,R.code⟩ (.slice (some ⟨gq,oq,none⟩) m.qs.length qc) (.slice vA na vc) (.slice wA nu wcc) (.slice none 0 0) false (zbb false) (.slice none 0 0)):=by
   show Value.agg (za4 (zaj m R).hd _ _ _ _ m.he (zbb m.he) _)=_
   rw[HHe.out];rfl
  rw[hrw]at HEn;have HRd:=Lib.hid (show zej m R=(if zan (zaj m R)=0∧((zb7 (zaj m R)).length:Int)≤zdg m then zb7 (zaj m R)else zb7 (zav m R))from rfl)
  rw[HRm.out]at HRd;unfold zcq at HEn;obtain⟨fs,hfs⟩:∃fs,fs=zb7 (zaj m R):=⟨_,rfl⟩
  obtain⟨fe,hfe⟩:∃fe,fe=zan (zaj m R):=⟨_,rfl⟩
  rw[←hfs,←hfe]at HRd HEn;clear hm7 hda hrw hfs hfe;go_upto_region 11 with fail
  refine wp_region_lit ?_;refine zaf (by rfl) 45 (.tmp 9) rfl b9 rfl _ (za4 ⟨m.hd.id,true,0,false,false,m.hd.rd,true,false,false,false,R.code⟩ (.slice (some ⟨gq,oq,none⟩) m.qs.length qc) (.slice vA na vc) (.slice wA nu wcc) (.slice none 0 0) false (zbb false) (.slice none 0 0)) _ _ r9 Tryz.underlying45 rfl (by kernel_rfl) ?_
  go_wp2_with fail;refine HEn.out.mono ?_;rintro e w14 ⟨rfl,hE14⟩;have r914:=(hE14.block _ (Array.getElem?_eq_some_iff.1 r9).1).trans r9
  have r714:=(hE14.block _ (Array.getElem?_eq_some_iff.1 r7Z).1).trans r7Z
  have hw14:Ext w w14:=hw9Z.trans hE14
  by_cases hfit:fe=0∧((fs.length:Nat):Int)≤512
  ·have HR2:=Lib.hid (show zej m R=fs from by rw[HRd.out,if_pos hfit])
   have g1:((fe:Int)==0)=true:=by rw[hfit.1];rfl
   have g2:=hfit.2
   clear hfit;go_wp2_with fail;go_ret;exact⟨by rw[HN.out,HN2.out,HR2.out];rfl,hw14⟩
  have HR2:=Lib.hid (show zej m R=zb7 (zav m R)from by rw[HRd.out,if_neg hfit])
  have HNf:=Lib.hid hfit
  clear hfit;go_upto_region 12 with fail
  go_cut [71] (fun s71 wx=>s71=.bool false∧w14=wx)
  case first=>
   by_cases hf0:fe=0
   ·have hl:¬((fs.length:Nat):Int)≤512:=fun h=>HNf.out ⟨hf0,h⟩
    have g1:((fe:Int)==0)=true:=by rw[hf0];rfl
    clear hf0;go_wp2_with fail;go_meet;exact⟨rfl,rfl⟩
   ·have g1:((fe:Int)==0)=false:=by rw[beq_eq_false_iff_ne];omega
    clear hf0;go_wp2_with fail;go_meet;exact⟨rfl,rfl⟩
  case rest=>
  obtain⟨rfl,rfl⟩:=hcut
  have k10:w14.cell? ⟨b9,10,none⟩=some (.int .u8 R.code):=za0 (j:=10) r914 rfl
  have j10:w14.cell? ⟨b7,10,none⟩=some (.int .u8 0):=za0 (j:=10) r714 rfl
  have j4:w14.cell? ⟨b7,4,none⟩=some (.bool false):=za0 (j:=4) r714 rfl
  have f10:=zab (j:=10) r714
  have f4:=zab (j:=4) r714
  have HCe:=Lib.hid (zhn (q:=m) HY.out HYm.out (code:=R.code) HCd.out.2 true)
  go_upto_region 16 with fail
  obtain⟨X17,hX17⟩:∃X17,X17=(w14.setCell ⟨b7,10,none⟩ (.int .u8 R.code)).setCell ⟨b7,4,none⟩ (.bool true):=⟨_,rfl⟩
  rw[←hX17];have r17:X17.heap[b7]? =some (.cells (za4 ⟨m.hd.id,true,0,false,true,m.hd.rd,true,false,false,false,R.code⟩ (.slice (some ⟨gq,oq,none⟩) m.qs.length qc) (.slice none 0 0) (.slice none 0 0) (.slice none 0 0) false (zbb false) (.slice none 0 0)) 45):=by rw[hX17];exact za7 (za7 r714 10 _) 4 _
  have hE17:Ext X5 X17:=by rw[hX17];exact(((hE59.trans hX9Z).trans hE14).setCell (p:=⟨b7,10,none⟩) hb7X _).setCell (p:=⟨b7,4,none⟩) hb7X _
  have hw17:Ext w X17:=hE5.trans hE17
  have hm7:Msg7 X17 (zav m R) (.slice (some ⟨gq,oq,none⟩) m.qs.length qc) (.slice none 0 0) (.slice none 0 0) (.slice none 0 0) (.slice none 0 0):=by
   have h7:=(((HM.out.lower (Nat.zero_le _)).ext (hY5.trans hE17)).msg7 hBd)
   exact⟨h7.qs,zbm _,zbm _,zbm _,zeb _ _ (zd3 m.he).2,h7.qok,(by intro r hr;cases hr),(by intro r hr;cases hr),(by intro r hr;cases hr),Nat.zero_le _⟩
  have HEc:=Lib.hid (zfm (zav m R) (.slice (some ⟨gq,oq,none⟩) m.qs.length qc) (.slice none 0 0) (.slice none 0 0) (.slice none 0 0) (.slice none 0 0) X17 (zed HW.out.1 true HCd.out.1 (by intro r hr;cases hr) (by intro r hr;cases hr)) hm7 (by intro r hr;cases hr))
  have hrw:zdr (zav m R).hd (.slice (some ⟨gq,oq,none⟩) m.qs.length qc) (.slice none 0 0) (.slice none 0 0) (.slice none 0 0) (zav m R).he (zav m R).ed (.slice none 0 0)=.agg (za4 ⟨m.hd.id,true,0,false,true,m.hd.rd,true,false,false,false,R.code⟩ (.slice (some ⟨gq,oq,none⟩) m.qs.length qc) (.slice none 0 0) (.slice none 0 0) (.slice none 0 0) false (zbb false) (.slice none 0 0)):=by
   show Value.agg (za4 (zav m R).hd _ _ _ _ m.he (zbb m.he) _)=_
   rw[HHe.out];rfl
  rw[hrw]at HEc;unfold zcq at HEc;have hce:zan (zav m R)=0:=HCe.out.1
  rw[hce]at HEc;obtain⟨cs,hcs⟩:∃cs,cs=zb7 (zav m R):=⟨_,rfl⟩
  rw[←hcs]at HEc HR2;clear hX17 k10 j10 j4 f10 f4 hm7 hce hcs hrw;refine wp_region_lit ?_;refine zaf (by rfl) 45 (.tmp 7) rfl b7 rfl _ (za4 ⟨m.hd.id,true,0,false,true,m.hd.rd,true,false,false,false,R.code⟩ (.slice (some ⟨gq,oq,none⟩) m.qs.length qc) (.slice none 0 0) (.slice none 0 0) (.slice none 0 0) false (zbb false) (.slice none 0 0)) _ _ r17 Tryz.underlying45 rfl (by kernel_rfl) ?_
  go_wp2_with fail;refine HEc.out.mono ?_;rintro e w18 ⟨rfl,hE18⟩;go_wp2_with fail;go_ret;exact⟨by rw[HN.out,HN2.out,HR2.out];rfl,hw17.trans hE18⟩
 ·have HHe:=Lib.hid hhe
  have hsz:=HW.out.1.size
  obtain⟨room,hroom⟩:∃room:Int,room=max 512 m.ed.size:=⟨_,rfl⟩
  have HRm:=Lib.hid (show zdg m=room from by
   unfold zdg;rw[hhe,hroom];by_cases h:512<m.ed.size
   ·rw[if_pos ⟨rfl,h⟩];omega
   ·rw[if_neg (fun h2=>h h2.2)];omega)
  have hw64:IntKind.i64.wrap m.ed.size=m.ed.size:=IntWalk.i64_in _ (by omega)
  rw[hhe]at k15;clear hhe;have j15:X6.cell? ⟨b7,15,none⟩=some (.bool false):=za0 (j:=15) r7 rfl
  have f15:=zab (j:=15) r7
  go_upto_region 8 with fail
  have r78:(X6.setCell ⟨b7,15,none⟩ (.bool true)).heap[b7]? =some (.cells (za4 ⟨m.hd.id,true,0,false,false,m.hd.rd,true,false,false,false,0⟩ (.slice (some ⟨gq,oq,none⟩) m.qs.length qc) (.slice none 0 0) (.slice none 0 0) (.slice none 0 0) true za6 (.slice none 0 0)) 45):=za7 r7 15 _
  have r58:=(Below.heap_setCell X6 ⟨b7,15,none⟩ (.bool true) b5 (by dsimp only;omega)).trans r56
  have hE58:Ext X5 (X6.setCell ⟨b7,15,none⟩ (.bool true)):=hE56.setCell (p:=⟨b7,15,none⟩) hb7X _
  obtain⟨X8,hX8⟩:∃X8,X8=X6.setCell ⟨b7,15,none⟩ (.bool true):=⟨_,rfl⟩
  rw[←hX8]at r78 r58 hE58 ⊢;clear hX8 j15 f15 k15 k16;refine wp_region_lit ?_
  iterate 6 go_step
  refine wpList_store_mid rfl 43 (.tmp 49) (.tmp 48) rfl b7 16 #[.int .u16 4096,.int .u8 0,.int .u8 0,.int .u16 0,(.slice none 0 0)] rfl rfl (zlv r78 (Nat.le_refl 21)) (by kernel_rfl) (by kernel_rfl) ?_
  refine wpList_nil ?_;obtain⟨X9,hX9⟩:∃X9,X9=X8.setCells b7 16 [.int .u16 4096,.int .u8 0,.int .u8 0,.int .u16 0,(.slice none 0 0)]:=⟨_,rfl⟩
  have r79:X9.heap[b7]? =some (.cells (za4 ⟨m.hd.id,true,0,false,false,m.hd.rd,true,false,false,false,0⟩ (.slice (some ⟨gq,oq,none⟩) m.qs.length qc) (.slice none 0 0) (.slice none 0 0) (.slice none 0 0) true (zbb true) (.slice none 0 0)) 45):=by rw[hX9];exact zwp r78 (zbb true) (.slice none 0 0)
  have r59:X9.heap[b5]? =some (.cells (za4 m.hd (.slice (some ⟨gq,oq,none⟩) m.qs.length qc) (.slice aA m.ans.length ac) (.slice uA m.auth.length uc) (.slice xA m.extra.length xc) m.he m.ed (.slice oA m.ed.opts.length oc)) 45):=by rw[hX9];exact(zfw X8 b7 b5 (by omega) _ _ _ _ _).trans r58
  have hE59:Ext X5 X9:=by rw[hX9];exact zEk hE58 hb7X _ _ _ _ _
  have hX9':X8.setCells b7 16 (#[.int .u16 4096,.int .u8 0,.int .u8 0,.int .u16 0,(.slice none 0 0)]:Array Value).toList=X9:=hX9.symm
  try rw[hX9']
  try rw[←hX9]
  clear hX9 hX9';have k16:X9.cell? ⟨b5,16,none⟩=some (.int .u16 m.ed.size):=za0 (j:=16) r59 rfl
  go_upto_region 10 with fail
  try rw[←hroom]
  clear hroom;have hw9:Ext w X9:=hE5.trans hE59
  go_upto_region 10 with fail
  refine wp_region_lit ?_
  iterate 3 go_step
  refine zaf (by rfl) 45 (.tmp 7) rfl b7 rfl _ (za4 ⟨m.hd.id,true,0,false,false,m.hd.rd,true,false,false,false,0⟩ (.slice (some ⟨gq,oq,none⟩) m.qs.length qc) (.slice none 0 0) (.slice none 0 0) (.slice none 0 0) true (zbb true) (.slice none 0 0)) _ _ r79 Tryz.underlying45 rfl (by kernel_rfl) ?_
  go_wp2_with fail;refine(HFl.out true X9 hE59).mono ?_;rintro e Y9 ⟨va,vu,rfl,hra,hru,hE9⟩;have HRa:=Lib.hid hra
  have HRu:=Lib.hid hru
  obtain⟨vA,vc,hva,_,_,_⟩:=hra
  obtain⟨wA,wcc,hvu,_,_,_⟩:=hru
  obtain⟨na,hna⟩:∃na,na=(R.ans.flatMap za8).length:=⟨_,rfl⟩
  obtain⟨nu,hnu⟩:∃nu,nu=(R.auth.flatMap za8).length:=⟨_,rfl⟩
  rw[←hna]at hva;rw[←hnu]at hvu;subst hva hvu;clear hna hnu;dsimp only
  iterate 1 go_step
  obtain⟨b9,hb9⟩:∃b9,b9=Y9.heap.size:=⟨_,rfl⟩
  have hz:(Y9.alloc (.cells zbt 45)).heap[b9]? =some (.cells zbt 45):=by rw[hb9];exact heap_alloc_new _ _
  refine Go.Great.wpList_allocTo rfl (some 9) rfl (.pointer (some ⟨Y9.heap.size,0,none⟩)) (.cells zbt 45) (by kernel_rfl) ?_
  rw[←hb9];refine Go.wpList_store_rowTo rfl 45 (.tmp 9) (.tmp 58) rfl rfl b9 (za4 ⟨m.hd.id,true,0,false,false,m.hd.rd,true,false,false,false,R.code⟩ (.slice (some ⟨gq,oq,none⟩) m.qs.length qc) (.slice vA na vc) (.slice wA nu wcc) (.slice none 0 0) true (zbb true) (.slice none 0 0)) rfl rfl 45 _ hz (by kernel_rfl) rfl (by kernel_rfl) ?_
  rw[zcs Y9 zbt (za4 ⟨m.hd.id,true,0,false,false,m.hd.rd,true,false,false,false,R.code⟩ (.slice (some ⟨gq,oq,none⟩) m.qs.length qc) (.slice vA na vc) (.slice wA nu wcc) (.slice none 0 0) true (zbb true) (.slice none 0 0)) 45 b9 hb9];refine wpList_nil ?_
  try rw[←hb9]
  obtain⟨Z9,hX⟩:∃Z9,Z9=Y9.alloc (.cells (za4 ⟨m.hd.id,true,0,false,false,m.hd.rd,true,false,false,false,R.code⟩ (.slice (some ⟨gq,oq,none⟩) m.qs.length qc) (.slice vA na vc) (.slice wA nu wcc) (.slice none 0 0) true (zbb true) (.slice none 0 0)) 45):=⟨_,rfl⟩
  have r9:Z9.heap[b9]? =some (.cells (za4 ⟨m.hd.id,true,0,false,false,m.hd.rd,true,false,false,false,R.code⟩ (.slice (some ⟨gq,oq,none⟩) m.qs.length qc) (.slice vA na vc) (.slice wA nu wcc) (.slice none 0 0) true (zbb true) (.slice none 0 0)) 45):=by rw[hX,hb9];exact heap_alloc_new _ _
  have hEYZ:Ext Y9 Z9:=by rw[hX];exact(Ext.refl _).alloc _
  have hX9Z:Ext X9 Z9:=hE9.trans hEYZ
  have hb79:b7<b9:=by rw[hb9];exact Nat.lt_of_lt_of_le (Array.getElem?_eq_some_iff.1 r79).1 hE9.size
  rw[←hX];clear hX hz hb9;have r7Z:=(hX9Z.block _ (Array.getElem?_eq_some_iff.1 r79).1).trans r79
  have hw9Z:Ext w Z9:=hw9.trans hX9Z
  have hm7:Msg7 Z9 (zaj m R) (.slice (some ⟨gq,oq,none⟩) m.qs.length qc) (.slice vA na vc) (.slice wA nu wcc) (.slice none 0 0) (.slice none 0 0):=by
   have h7:=(((HM.out.lower (Nat.zero_le _)).ext (hY5.trans (hE59.trans hX9Z))).msg7 hBd)
   exact⟨h7.qs,HRa.out.ext hEYZ,HRu.out.ext hEYZ,zbm _,zeb _ _ (zd3 m.he).2,h7.qok,zec hsb HRo.out.ans,zec hsb HRo.out.auth,(by intro r hr;cases hr),Nat.zero_le _⟩
  have hda:∀r∈(zaj m R).ans++(zaj m R).auth++(zaj m R).extra,r.data.length≤100000:=by
   have hx:∀L:List SetD,(∀s∈L,s∈zap l)→∀r∈L.flatMap za8,r.data.length≤100000:=fun L hL r hr=>by
    obtain⟨s,hs,hr⟩:=List.mem_flatMap.1 hr
    unfold za8 at hr;obtain⟨z,hz,rfl⟩:=List.mem_map.1 hr
    exact hgs.out s (hL s hs) z hz
   intro r hr;rcases List.mem_append.1 hr with hr|hr
   ·rcases List.mem_append.1 hr with hr|hr
    ·exact hx _ HRo.out.ans r hr
    ·exact hx _ HRo.out.auth r hr
   ·cases hr
  have HEn:=Lib.hid (zfm (zaj m R) (.slice (some ⟨gq,oq,none⟩) m.qs.length qc) (.slice vA na vc) (.slice wA nu wcc) (.slice none 0 0) (.slice none 0 0) Z9 (zed HW.out.1 false HCd.out.1 (zf2 hwf HRo.out.ans) (zf2 hwf HRo.out.auth)) hm7 hda)
  have hrw:zdr (zaj m R).hd (.slice (some ⟨gq,oq,none⟩) m.qs.length qc) (.slice vA na vc) (.slice wA nu wcc) (.slice none 0 0) (zaj m R).he (zaj m R).ed (.slice none 0 0)=.agg (za4 ⟨m.hd.id,true,0,false,false,m.hd.rd,true,false,false,false,R.code⟩ (.slice (some ⟨gq,oq,none⟩) m.qs.length qc) (.slice vA na vc) (.slice wA nu wcc) (.slice none 0 0) true (zbb true) (.slice none 0 0)):=by
   show Value.agg (za4 (zaj m R).hd _ _ _ _ m.he (zbb m.he) _)=_
   rw[HHe.out];rfl
  rw[hrw]at HEn;have HRd:=Lib.hid (show zej m R=(if zan (zaj m R)=0∧((zb7 (zaj m R)).length:Int)≤zdg m then zb7 (zaj m R)else zb7 (zav m R))from rfl)
  rw[HRm.out]at HRd;unfold zcq at HEn;obtain⟨fs,hfs⟩:∃fs,fs=zb7 (zaj m R):=⟨_,rfl⟩
  obtain⟨fe,hfe⟩:∃fe,fe=zan (zaj m R):=⟨_,rfl⟩
  rw[←hfs,←hfe]at HRd HEn;clear hm7 hda hrw hfs hfe;go_upto_region 11 with fail
  refine wp_region_lit ?_;refine zaf (by rfl) 45 (.tmp 9) rfl b9 rfl _ (za4 ⟨m.hd.id,true,0,false,false,m.hd.rd,true,false,false,false,R.code⟩ (.slice (some ⟨gq,oq,none⟩) m.qs.length qc) (.slice vA na vc) (.slice wA nu wcc) (.slice none 0 0) true (zbb true) (.slice none 0 0)) _ _ r9 Tryz.underlying45 rfl (by kernel_rfl) ?_
  go_wp2_with fail;refine HEn.out.mono ?_;rintro e w14 ⟨rfl,hE14⟩;have r914:=(hE14.block _ (Array.getElem?_eq_some_iff.1 r9).1).trans r9
  have r714:=(hE14.block _ (Array.getElem?_eq_some_iff.1 r7Z).1).trans r7Z
  have hw14:Ext w w14:=hw9Z.trans hE14
  by_cases hfit:fe=0∧((fs.length:Nat):Int)≤room
  ·have HR2:=Lib.hid (show zej m R=fs from by rw[HRd.out,if_pos hfit])
   have g1:((fe:Int)==0)=true:=by rw[hfit.1];rfl
   have g2:=hfit.2
   clear hfit;go_wp2_with fail;go_ret;exact⟨by rw[HN.out,HN2.out,HR2.out];rfl,hw14⟩
  have HR2:=Lib.hid (show zej m R=zb7 (zav m R)from by rw[HRd.out,if_neg hfit])
  have HNf:=Lib.hid hfit
  clear hfit;go_upto_region 12 with fail
  go_cut [71] (fun s71 wx=>s71=.bool false∧w14=wx)
  case first=>
   by_cases hf0:fe=0
   ·have hl:¬((fs.length:Nat):Int)≤room:=fun h=>HNf.out ⟨hf0,h⟩
    have g1:((fe:Int)==0)=true:=by rw[hf0];rfl
    clear hf0;go_wp2_with fail;go_meet;exact⟨rfl,rfl⟩
   ·have g1:((fe:Int)==0)=false:=by rw[beq_eq_false_iff_ne];omega
    clear hf0;go_wp2_with fail;go_meet;exact⟨rfl,rfl⟩
  case rest=>
  obtain⟨rfl,rfl⟩:=hcut
  have k10:w14.cell? ⟨b9,10,none⟩=some (.int .u8 R.code):=za0 (j:=10) r914 rfl
  have j10:w14.cell? ⟨b7,10,none⟩=some (.int .u8 0):=za0 (j:=10) r714 rfl
  have j4:w14.cell? ⟨b7,4,none⟩=some (.bool false):=za0 (j:=4) r714 rfl
  have f10:=zab (j:=10) r714
  have f4:=zab (j:=4) r714
  have HCe:=Lib.hid (zhn (q:=m) HY.out HYm.out (code:=R.code) HCd.out.2 true)
  go_upto_region 16 with fail
  obtain⟨X17,hX17⟩:∃X17,X17=(w14.setCell ⟨b7,10,none⟩ (.int .u8 R.code)).setCell ⟨b7,4,none⟩ (.bool true):=⟨_,rfl⟩
  rw[←hX17];have r17:X17.heap[b7]? =some (.cells (za4 ⟨m.hd.id,true,0,false,true,m.hd.rd,true,false,false,false,R.code⟩ (.slice (some ⟨gq,oq,none⟩) m.qs.length qc) (.slice none 0 0) (.slice none 0 0) (.slice none 0 0) true (zbb true) (.slice none 0 0)) 45):=by rw[hX17];exact za7 (za7 r714 10 _) 4 _
  have hE17:Ext X5 X17:=by rw[hX17];exact(((hE59.trans hX9Z).trans hE14).setCell (p:=⟨b7,10,none⟩) hb7X _).setCell (p:=⟨b7,4,none⟩) hb7X _
  have hw17:Ext w X17:=hE5.trans hE17
  have hm7:Msg7 X17 (zav m R) (.slice (some ⟨gq,oq,none⟩) m.qs.length qc) (.slice none 0 0) (.slice none 0 0) (.slice none 0 0) (.slice none 0 0):=by
   have h7:=(((HM.out.lower (Nat.zero_le _)).ext (hY5.trans hE17)).msg7 hBd)
   exact⟨h7.qs,zbm _,zbm _,zbm _,zeb _ _ (zd3 m.he).2,h7.qok,(by intro r hr;cases hr),(by intro r hr;cases hr),(by intro r hr;cases hr),Nat.zero_le _⟩
  have HEc:=Lib.hid (zfm (zav m R) (.slice (some ⟨gq,oq,none⟩) m.qs.length qc) (.slice none 0 0) (.slice none 0 0) (.slice none 0 0) (.slice none 0 0) X17 (zed HW.out.1 true HCd.out.1 (by intro r hr;cases hr) (by intro r hr;cases hr)) hm7 (by intro r hr;cases hr))
  have hrw:zdr (zav m R).hd (.slice (some ⟨gq,oq,none⟩) m.qs.length qc) (.slice none 0 0) (.slice none 0 0) (.slice none 0 0) (zav m R).he (zav m R).ed (.slice none 0 0)=.agg (za4 ⟨m.hd.id,true,0,false,true,m.hd.rd,true,false,false,false,R.code⟩ (.slice (some ⟨gq,oq,none⟩) m.qs.length qc) (.slice none 0 0) (.slice none 0 0) (.slice none 0 0) true (zbb true) (.slice none 0 0)):=by
   show Value.agg (za4 (zav m R).hd _ _ _ _ m.he (zbb m.he) _)=_
   rw[HHe.out];rfl
  rw[hrw]at HEc;unfold zcq at HEc;have hce:zan (zav m R)=0:=HCe.out.1
  rw[hce]at HEc;obtain⟨cs,hcs⟩:∃cs,cs=zb7 (zav m R):=⟨_,rfl⟩
  rw[←hcs]at HEc HR2;clear hX17 k10 j10 j4 f10 f4 hm7 hce hcs hrw;refine wp_region_lit ?_;refine zaf (by rfl) 45 (.tmp 7) rfl b7 rfl _ (za4 ⟨m.hd.id,true,0,false,true,m.hd.rd,true,false,false,false,R.code⟩ (.slice (some ⟨gq,oq,none⟩) m.qs.length qc) (.slice none 0 0) (.slice none 0 0) (.slice none 0 0) true (zbb true) (.slice none 0 0)) _ _ r17 Tryz.underlying45 rfl (by kernel_rfl) ?_
  go_wp2_with fail;refine HEc.out.mono ?_;rintro e w18 ⟨rfl,hE18⟩;go_wp2_with fail;go_ret;exact⟨by rw[HN.out,HN2.out,HR2.out];rfl,hw17.trans hE18⟩
end Go.Proofs.YtdnpmapelmjfpaaGreatDoor
