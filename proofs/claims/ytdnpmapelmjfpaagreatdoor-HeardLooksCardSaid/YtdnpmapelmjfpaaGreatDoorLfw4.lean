/- Lemmas of this claim. No condition. -/
import Derived.Test.YtdnpmapelmjfpaaGreatDoorLfw3
set_option maxHeartbeats 8000000
set_option maxRecDepth 100000
namespace Go.Proofs.YtdnpmapelmjfpaaGreatDoor
open Go.RowKit
structure QeI (B:List UInt8) (T0:Tab) (qs:List QD) (X0:World) (tp k:Nat) (X:List UInt8) (T1:Tab) (wr:World):Prop where
 xl:X.length≤65535
 tab:TabR wr X0.heap.size tp T1
 tl:T1.length≤X.length
 eq:(B,T0)=(X++(zaj quW X.length (qs.drop k) T1).1,(zaj quW X.length (qs.drop k) T1).2)
 ext:Ext X0 wr
theorem zwr {B:List UInt8} {T0:Tab} {qs:List QD} {X0 W wo:World} {tp k:Nat} {X:List UInt8} {T1:Tab} {q:QD} (hI:QeI B T0 qs X0 tp k X T1 wo) (hl:qs.drop k=q::qs.drop (k+1)) (Y:List UInt8) (T2:Tab) (hY:quW X.length q T1=(Y,T2))
 (hx:X.length+Y.length≤65535) (ht:TabR W X0.heap.size tp T2) (cv:T2.length≤X.length+Y.length) (hE:Ext X0 W):QeI B T0 qs X0 tp (k+1) (X++Y) T2 W:=by
 refine⟨by rw[Z6];exact hx,ht,by rw[Z6];exact cv,?_,hE⟩
 rw[hI.eq,hl];simp only[zaj];rw[hY];simp only[Z6,List.append_assoc]
theorem zwq {B:List UInt8} {T0:Tab} {qs:List QD} {X0 wo:World} {tp k:Nat} {X:List UInt8} {T1:Tab} {q:QD} (hI:QeI B T0 qs X0 tp k X T1 wo) (hl:qs.drop k=q::qs.drop (k+1)) (Y:List UInt8) (T2:Tab) (hY:quW X.length q T1=(Y,T2)):X.length+Y.length≤B.length:=by
 have h:=congrArg Prod.fst hI.eq
 dsimp only at h;rw[h,hl];simp only[zaj];rw[hY];simp only[Z6];omega
structure ReI (B:List UInt8) (Ls:List (List RecD)) (X0:World) (tp g:Nat) (row:List Value) (k:Nat) (X:List UInt8) (T1:Tab) (wr:World):Prop where
 xl:X.length≤65535
 tab:TabR wr X0.heap.size tp T1
 tl:T1.length≤X.length
 eq:B=X++(zaj zb9 X.length (Ls.drop k).flatten T1).1
 ext:Ext X0 wr
 row:wr.heap[g]? =some (.cells row.toArray 40)
theorem zwx {B:List UInt8} {Ls:List (List RecD)} {X0 W wo:World} {tp g k:Nat} {row:List Value} {X:List UInt8} {T1:Tab} {l:List RecD} (hI:ReI B Ls X0 tp g row k X T1 wo) (hl:Ls.drop k=l::Ls.drop (k+1))
 (hx:(X++(zaj zb9 X.length l T1).1).length≤65535) (ht:TabR W X0.heap.size tp (zaj zb9 X.length l T1).2) (cv:(zaj zb9 X.length l T1).2.length≤(X++(zaj zb9 X.length l T1).1).length) (hE:Ext X0 W) (hK:KeptC tp wo W) (au:g≠tp):
 ReI B Ls X0 tp g row (k+1) (X++(zaj zb9 X.length l T1).1) (zaj zb9 X.length l T1).2 W:=by
 refine⟨hx,ht,cv,?_,hE,hK.2 _ _ _ _ au hI.row⟩;rw[hI.eq,hl,List.flatten_cons,zfo];simp only[Z6,List.append_assoc]
theorem zww {B:List UInt8} {Ls:List (List RecD)} {X0 wo:World} {tp g k:Nat} {row:List Value} {X:List UInt8} {T1:Tab} {l:List RecD} (hI:ReI B Ls X0 tp g row k X T1 wo) (hl:Ls.drop k=l::Ls.drop (k+1)):(X++(zaj zb9 X.length l T1).1).length≤B.length:=by
 rw[hI.eq,hl,List.flatten_cons,zfo];simp only[Z6];omega
theorem zt6 (m:MsgD) (c3:Nat) (hc:c3=m.extra.length+if m.he then 1 else 0):two m.hd.id.toNat++two (zcf m.hd)++([m.qs.length,m.ans.length,m.auth.length,c3].flatMap two)=zfp m:=by
 subst hc;simp[zfp]
theorem zuh (w:World) (lo:Nat) (h:lo≤w.heap.size):TabR (w.alloc (.cells #[.slice none 0 0] 206)) lo w.heap.size []:=
 ⟨h,zrt,none,0,heap_alloc_new _ _,Z4 _,Nat.zero_le _,⟨rfl,fun h=>absurd h (Nat.lt_irrefl _)⟩⟩
theorem zvf (m:MsgD) (q a u x o:Value) (w:World) (cF:m.wf) (h:Msg7 w m q a u x o) (nA:∀r∈m.ans++m.auth++m.extra,r.data.length≤100000):
 Calls Tryz.prog 56 #[zfd m.hd q a u x m.he m.ed o] w (zml m w):=by
 have tD:=Z7 (fun V (hV:Ext w V)=>zDt m q a u x o V (h.ext hV))
 unfold znt at tD;have H:=Z7 h
 obtain⟨⟨qA,qc,rfl,dx,eS,fT⟩,⟨aA,ac,rfl,_,_,_⟩,⟨uA,uc,rfl,_,_,_⟩,⟨xA,xc,rfl,i6,gY,_⟩,⟨oA,oc,rfl,_,_,_⟩,rD,_,_,_,_⟩:=h
 unfold maxLen at eS gY;obtain⟨X0,ar⟩:∃X0,X0=w.alloc (.cells #[.int .u16 m.hd.id,.bool m.hd.qr,.int .u8 m.hd.op,.bool m.hd.aa,.bool m.hd.tc,.bool m.hd.rd,.bool m.hd.ra,.bool m.hd.z,.bool m.hd.ad,.bool m.hd.cd,.int .u8 m.hd.code,.slice qA m.qs.length qc,.slice aA m.ans.length ac,.slice uA m.auth.length uc,.slice xA m.extra.length xc,.bool m.he,.int .u16 m.ed.size,.int .u8 m.ed.ext,.int .u8 m.ed.ver,.int .u16 m.ed.flags,.slice oA m.ed.opts.length oc] 45):=⟨_,rfl⟩
 have aP:Ext w X0:=by rw[ar];exact(Z5 _).alloc _
 have r0:X0.heap[w.heap.size]? =some (.cells #[.int .u16 m.hd.id,.bool m.hd.qr,.int .u8 m.hd.op,.bool m.hd.aa,.bool m.hd.tc,.bool m.hd.rd,.bool m.hd.ra,.bool m.hd.z,.bool m.hd.ad,.bool m.hd.cd,.int .u8 m.hd.code,.slice qA m.qs.length qc,.slice aA m.ans.length ac,.slice uA m.auth.length uc,.slice xA m.extra.length xc,.bool m.he,.int .u16 m.ed.size,.int .u8 m.ed.ext,.int .u8 m.ed.ver,.int .u16 m.ed.flags,.slice oA m.ed.opts.length oc] 45):=by rw[ar];exact heap_alloc_new w _
 have K0:=Z7 (fun V (hV:Ext X0 V)=>Z8 hV r0)
 have eZ:=Z7 cF
 clear cF;rcases gb:zcj m with _|_
 ·have HF:=Z7 (show zau m=3∧zec m=[]by
   have he:zau m=3:=by unfold zau;rw[if_neg (by rw[gb];simp)]
   exact⟨he,by unfold zec;rw[if_neg (by rw[he];decide)]⟩)
  rw[gb]at tD;clear gb;go_enter Tryz.func56,Tryz.ntmps56;go_upto_region 1 with fail
  have aW:w.alloc (.cells #[.int .u16 m.hd.id,.bool m.hd.qr,.int .u8 m.hd.op,.bool m.hd.aa,.bool m.hd.tc,.bool m.hd.rd,.bool m.hd.ra,.bool m.hd.z,.bool m.hd.ad,.bool m.hd.cd,.int .u8 m.hd.code,.slice qA m.qs.length qc,.slice aA m.ans.length ac,.slice uA m.auth.length uc,.slice xA m.extra.length xc,.bool m.he,.int .u16 m.ed.size,.int .u8 m.ed.ext,.int .u8 m.ed.ver,.int .u16 m.ed.flags,.slice oA m.ed.opts.length oc] 45)=X0:=ar.symm
  rw[aW];clear aW ar;go_wp2_with(first|(refine za9 (by rfl) 45 (.tmp 1) rfl w.heap.size 0 rfl [.int .u16 m.hd.id,.bool m.hd.qr,.int .u8 m.hd.op,.bool m.hd.aa,.bool m.hd.tc,.bool m.hd.rd,.bool m.hd.ra,.bool m.hd.z,.bool m.hd.ad,.bool m.hd.cd,.int .u8 m.hd.code,.slice qA m.qs.length qc,.slice aA m.ans.length ac,.slice uA m.auth.length uc,.slice xA m.extra.length xc,.bool m.he,.int .u16 m.ed.size,.int .u8 m.ed.ext,.int .u8 m.ed.ver,.int .u16 m.ed.flags,.slice oA m.ed.opts.length oc] (zba r0) _ Tryz.underlying45 rfl (by kernel_rfl) ?_)|fail)
  refine(tD.out _ aP).mono ?_;rintro e w1 ⟨rfl,ae⟩;go_wp2_with fail
  go_ret2
  exact⟨by rw[HF.out.1,HF.out.2];rfl,aP.trans ae⟩
 have eE:=gb
 unfold zcj at eE;simp only[Bool.and_eq_true,decide_eq_true_eq]at eE;obtain⟨⟨⟨⟨⟨⟨b1,b2⟩,c1,c2,c3,c4⟩,b4⟩,b5⟩,b6⟩,b7⟩:=eE
 have DC:=Z7 (List.all_eq_true.1 b4)
 have DD:=Z7 b5
 have DE:=Z7 b6
 have DF:=Z7 b7
 have fW:=Z7 (fun(hl:65535<(zbf m).1.length)=>(show zau m=5∧zec m=[]by
  have he:zau m=5:=by unfold zau;rw[if_pos gb,if_pos hl]
  exact⟨he,by unfold zec;rw[if_neg (by rw[he];decide)]⟩))
 have iM:=Z7 (fun(hl:¬65535<(zbf m).1.length)=>(show zau m=0∧zec m=(zbf m).1 by
  have he:zau m=0:=by unfold zau;rw[if_pos gb,if_neg hl]
  exact⟨he,by unfold zec;rw[if_pos he]⟩))
 rw[gb]at tD;clear gb b2 b4 b5 b6 b7;by_cases oD:m.he=true
 ·have He:=Z7 oD
  clear oD;have rG:m.extra.length+1≤65535:=by have:=c4;rw[He.out]at this;simpa using this
  clear c4;have oe:=Z7 (zt6 m (m.extra.length+1) (by rw[He.out];rfl))
  have lE:=Z7 (fun V=>zpd m.hd m.qs.length m.ans.length m.auth.length (m.extra.length+1) V b1 eZ.out.id eZ.out.op eZ.out.code c1 c2 c3 rG)
  rw[oe.out]at lE;obtain⟨Hd,oF⟩:∃Hd,Hd=zfp m:=⟨_,rfl⟩
  rw[←oF]at lE;have kX:Hd.length=12:=by rw[oF];exact zt4 m
  obtain⟨Q,hQ⟩:∃Q,Q=zaj quW 12 m.qs []:=⟨_,rfl⟩
  obtain⟨RR,rH⟩:∃RR,RR=(zaj zb9 (12+Q.1.length) (m.ans++m.auth++m.extra) Q.2).1:=⟨_,rfl⟩
  obtain⟨BB,oG⟩:∃BB,BB=Hd++Q.1++RR:=⟨_,rfl⟩
  have dN:=Z7 (show(zbf m).1=BB++zhr m.ed by rw[oG,oF,rH,hQ];unfold zbf;dsimp only;rw[He.out];rfl)
  have vU:=Z7 (show(Hd++Q.1).length≤(zbf m).1.length∧BB.length≤(zbf m).1.length by rw[dN.out,oG];simp only[Z6];omega)
  have vV:=Z7 (show(Hd++Q.1,Q.2)=(Hd++(zaj quW Hd.length (m.qs.drop 0) []).1,(zaj quW Hd.length (m.qs.drop 0) []).2)by rw[kX,hQ];rfl)
  have vW:=Z7 (show BB=(Hd++Q.1)++(zaj zb9 (Hd++Q.1).length (([m.ans,m.auth,m.extra]:List (List RecD)).drop 0).flatten Q.2).1 by
   rw[oG,Z6,kX,rH];simp)
  have Bi:=Z7 kX
  clear oF hQ rH kX oe oG;go_enter Tryz.func56,Tryz.ntmps56;go_upto_region 1 with fail
  have aW:w.alloc (.cells #[.int .u16 m.hd.id,.bool m.hd.qr,.int .u8 m.hd.op,.bool m.hd.aa,.bool m.hd.tc,.bool m.hd.rd,.bool m.hd.ra,.bool m.hd.z,.bool m.hd.ad,.bool m.hd.cd,.int .u8 m.hd.code,.slice qA m.qs.length qc,.slice aA m.ans.length ac,.slice uA m.auth.length uc,.slice xA m.extra.length xc,.bool m.he,.int .u16 m.ed.size,.int .u8 m.ed.ext,.int .u8 m.ed.ver,.int .u16 m.ed.flags,.slice oA m.ed.opts.length oc] 45)=X0:=ar.symm
  rw[aW];clear aW ar;go_wp2_with(first|(refine za9 (by rfl) 45 (.tmp 1) rfl w.heap.size 0 rfl [.int .u16 m.hd.id,.bool m.hd.qr,.int .u8 m.hd.op,.bool m.hd.aa,.bool m.hd.tc,.bool m.hd.rd,.bool m.hd.ra,.bool m.hd.z,.bool m.hd.ad,.bool m.hd.cd,.int .u8 m.hd.code,.slice qA m.qs.length qc,.slice aA m.ans.length ac,.slice uA m.auth.length uc,.slice xA m.extra.length xc,.bool m.he,.int .u16 m.ed.size,.int .u8 m.ed.ext,.int .u8 m.ed.ver,.int .u16 m.ed.flags,.slice oA m.ed.opts.length oc] (zba r0) _ Tryz.underlying45 rfl (by kernel_rfl) ?_)|fail)
  refine(tD.out _ aP).mono ?_;rintro e w1 ⟨rfl,ae⟩;have r01:=K0.out w1 ae
  have k15:=za0 (j:=15) r01 rfl
  have k11:=za0 (j:=11) r01 rfl
  have k12:=za0 (j:=12) r01 rfl
  have k13:=za0 (j:=13) r01 rfl
  have k14:=za0 (j:=14) r01 rfl
  rw[He.out]at k15;have uO:(m.extra.length:Int)+1≤65535:=by omega
  go_wp2_with(first|(refine za9 (by rfl) 30 (.tmp 23) rfl w.heap.size 0 rfl [.int .u16 m.hd.id,.bool m.hd.qr,.int .u8 m.hd.op,.bool m.hd.aa,.bool m.hd.tc,.bool m.hd.rd,.bool m.hd.ra,.bool m.hd.z,.bool m.hd.ad,.bool m.hd.cd,.int .u8 m.hd.code] (zcx r01 0 11) _ Tryz.underlying30 rfl (by kernel_rfl) ?_)|fail)
  refine(lE.out _).mono ?_;rintro e w2 ⟨rfl,ah⟩;have gw:Ext X0 w2:=ae.trans ah
  obtain⟨W2,eF⟩:∃W2,W2=w2.alloc (.cells #[.slice none 0 0] 206):=⟨_,rfl⟩
  obtain⟨tp,jn⟩:∃tp,tp=w2.heap.size:=⟨_,rfl⟩
  have vX:TabR W2 X0.heap.size tp []:=by rw[eF,jn];exact zuh w2 X0.heap.size gw.size
  have rI:Ext X0 W2:=by rw[eF];exact gw.alloc _
  have jP:QeI (Hd++Q.1) Q.2 m.qs X0 tp 0 Hd [] W2:=⟨by rw[Bi.out];omega,vX,Nat.zero_le _,vV.out,rI⟩
  clear k11 k12 k13 k14 k15 r01 vV vX;go_upto_region 8 with fail
  rw[←eF,←jn];clear eF jn;go_wp2_with fail
  go_loopw [5,8] (fun s5 s8 wr=>∃(k:Nat) (X:List UInt8) (T1:Tab),k≤m.qs.length∧s8=.int .i64 k∧s5=S X∧QeI (Hd++Q.1) Q.2 m.qs X0 tp k X T1 wr) (fun _ s8 _=>m.qs.length - (intOf s8).toNat)
  case atStart=>exact⟨0,Hd,[],Nat.zero_le _,rfl,rfl,jP⟩
  case round=>
   clear jP;obtain⟨k,X,T1,hk,rfl,rfl,hI⟩:=hrel
   obtain⟨wo,rfl⟩:∃wo:World,wo=wr:=⟨_,rfl⟩
   have k11:=za0 (j:=11) (K0.out wo hI.ext) rfl
   by_cases ab:k<m.qs.length
   ·obtain⟨bk,off,rfl,_,az,hc⟩:=(fT.ext aP).2 (by omega)
    obtain⟨x0,x1,x2⟩:=zdt hc k m.qs[k] (Z3 ab)
    have HS:=Z7 (show m.qs.drop k=m.qs[k]::m.qs.drop (k+1)from List.drop_eq_getElem_cons ab)
    have vY:may m.qs[k].name=true:=DC.out _ (List.getElem_mem ab)
    have vg:=eZ.out.qs _ (List.getElem_mem ab)
    generalize m.qs[k]=qq at*;obtain⟨nm,ty,cl⟩:=qq
    obtain⟨oz,ki⟩:=vg
    dsimp only at*;obtain⟨tyn,rfl⟩:=Int.eq_ofNat_of_zero_le oz.1
    obtain⟨cln,rfl⟩:=Int.eq_ofNat_of_zero_le ki.1
    have hx:=hI.xl
    obtain⟨N,hN⟩:∃N,N=putN true true X.length nm T1:=⟨_,rfl⟩
    have yd:N.1.length≤255:=by rw[hN];exact zgt true true X.length T1 vY
    have DA:N.2.length≤T1.length+N.1.length:=by rw[hN];exact zio true true X.length nm T1
    have HY:=Z7 (show quW X.length ⟨nm,(tyn:Int),(cln:Int)⟩ T1=(N.1++(two tyn++two cln),N.2)by rw[hN];rfl)
    obtain⟨Y,kB⟩:∃Y,Y=N.1++(two tyn++two cln):=⟨_,rfl⟩
    have oC:=Z7 kB
    have rC:=Z7 (show Y.length=N.1.length+4 by rw[kB];simp only[Z6,zah])
    have Bj:=Z7 (zwq hI HS.out Y N.2 (by rw[HY.out,kB]))
    have pM:=Z7 (fun V (hV:Ext wo V)=>zl1 X0.heap.size tp T1 X nm true true V (hI.tab.ext hV) (by omega) hI.tl vY)
    rw[←hN]at pM;clear hN kB;have kW:=Z7 (fun V=>zcr tyn V (by omega))
    have ka:=Z7 (fun V=>zcr cln V (by omega))
    have lL:IntKind.u64.wrap (tyn:Int)=(tyn:Int):=IntWalk.u64_in _ (by omega)
    have kp:IntKind.u64.wrap (cln:Int)=(cln:Int):=IntWalk.u64_in _ (by omega)
    have HC:=Z7 (fun V (hV:Ext X0 V)=>(show V.cell? ⟨w.heap.size,11,none⟩=some (.slice (some ⟨bk,off,none⟩) m.qs.length qc)∧V.cell? ⟨bk,off+k*3+1,none⟩=some (.int .u16 (tyn:Int))∧V.cell? ⟨bk,off+k*3+2,none⟩=some (.int .u16 (cln:Int))from
     ⟨za0 (j:=11) (K0.out V hV) rfl,(hV.cell (p:=⟨bk,off+k*3+1,none⟩) az).trans x1,(hV.cell (p:=⟨bk,off+k*3+2,none⟩) az).trans x2⟩))
    have y0:=(hI.ext.cell (p:=⟨bk,off+k*3,none⟩) az).trans x0
    clear hc x0 x1 x2;have cz:(k:Int)<(m.qs.length:Int):=by omega
    have cW:(0:Int)≤(k:Int):=by omega
    go_wp2_with fail;refine(pM.out _ (Z5 wo)).mono ?_;rintro e w5 ⟨rfl,jG,nL,mS⟩;have am:Ext X0 w5:=Below.trans hI.ext nL
    (try dsimp only)
    go_upto_region 12 with fail
    have o0:=zah tyn
    have o1:=zah cln
    have ov1:¬9223372036854775807<X.length+N.1.length+(two tyn).length:=by omega
    have ov2:¬9223372036854775807<X.length+(N.1.length+(two tyn).length)+(two cln).length:=by omega
    clear o0 o1;refine wp_region_noPanic ?_;refine za6 (S:=(fun V=>V.cell? ⟨w.heap.size,11,none⟩=some (.slice (some ⟨bk,off,none⟩) m.qs.length qc)∧V.cell? ⟨bk,off+k*3+1,none⟩=some (.int .u16 (tyn:Int))∧V.cell? ⟨bk,off+k*3+2,none⟩=some (.int .u16 (cln:Int)))) (.take 0 (.take 1 (.take 2 (.take 3 (.take 4 (.take 5 (.take 6 (.take 7 (.take 10 (.take 11 (.take 12 (.take 13 (.take 14 (.take 15 (.take 16 (.run 8 (.take 9 (.run 17 (.take 18 (.take 19 (.done))))))))))))))))))))) (by kernel_rfl) (by kernel_rfl) (fun _ _ _ _ _ h=>h) ((HC.out _ (am.trans (Z5 w5).drew))) ?_
    repeat((with_reducible refine za7 ?_);first
     |(refine za4 (v:=?_) (by rfl) (by rfl) ?_ ?_;rotate_left;(focus(intro V hV;(try dsimp only at hV);(go_simp<;>with_reducible rfl)));(try simp only[ap]))
     |(refine zaf (by rfl) (by rfl) ?_;(try simp only[ap])))
    refine za5 (by rfl) (fun K hK=>?_)
    go_simp;refine(kW.out _).mono ?_;rintro e w6 ⟨rfl,a6⟩;have d8:Ext w5 w6:=(Z5 w5).drew.trans a6
    clear a6;refine hK.out _ _ ?_ ?_
    ·exact(HC.out _ (am.trans d8))
    clear hK K
    (try simp only[ap])
    repeat((with_reducible refine za7 ?_);first
     |(refine za4 (v:=?_) (by rfl) (by rfl) ?_ ?_;rotate_left;(focus(intro V hV;(try dsimp only at hV);(go_simp<;>with_reducible rfl)));(try simp only[ap]))
     |(refine zaf (by rfl) (by rfl) ?_;(try simp only[ap])))
    refine za5 (by rfl) (fun K hK=>?_)
    go_simp;refine(ka.out _).mono ?_;rintro e w7 ⟨rfl,a6⟩;have eI:Ext w5 w7:=d8.trans a6
    clear a6;refine hK.out _ _ ?_ ?_
    ·exact(HC.out _ (am.trans eI))
    clear hK K
    (try simp only[ap])
    repeat((with_reducible refine za7 ?_);first
     |(refine za4 (v:=?_) (by rfl) (by rfl) ?_ ?_;rotate_left;(focus(intro V hV;(try dsimp only at hV);(go_simp<;>with_reducible rfl)));(try simp only[ap]))
     |(refine zaf (by rfl) (by rfl) ?_;(try simp only[ap])))
    refine zag ?_;refine NoPanic.normal ?_;have oH:=rC.out
    by_cases ib:65535<X.length+Y.length
    ·have HL:=Z7 (fW.out (by have:=Bj.out;have:=vU.out;omega))
     have vS:(65535:Int)<(X.length:Int)+(Y.length:Int):=by omega
     obtain⟨Z,hZ⟩:∃Z,Z=X++(N.1++(two tyn++two cln)):=⟨_,rfl⟩
     have m6:Z.length=X.length+Y.length:=by rw[hZ,oH];simp only[Z6,zah];try omega
     have ft:(65535:Int)<(Z.length:Int):=by omega
     rw[←hZ];clear hZ m6 oH;go_wp2_with fail
     go_ret2
     exact⟨by rw[HL.out.1,HL.out.2];rfl,aP.trans (am.trans eI)⟩
    ·obtain⟨Z,hZ⟩:∃Z,Z=X++(N.1++(two tyn++two cln)):=⟨_,rfl⟩
     have m6:Z.length=X.length+Y.length:=by rw[hZ,oH];simp only[Z6,zah];try omega
     have ft:¬(65535:Int)<(Z.length:Int):=by omega
     have HZ:=Z7 (show Z=X++Y by rw[hZ,oC.out])
     have Bk:=Z7 (zwr (W:=w7) hI HS.out Y N.2 (by rw[HY.out,oC.out]) (by omega) (jG.ext eI) (by have:=hI.tl;omega) (am.trans eI))
     rw[←hZ];clear hZ m6 oH;go_wp2_with fail;go_roundw
     case rel=>exact⟨k+1,X++Y,N.2,by omega,by go_num,by rw[HZ.out],Bk.out⟩
     case measure=>simp[intOf];omega
   ·obtain rfl:k=m.qs.length:=by omega
    have HF:=Z7 (show Hd++Q.1=X∧Q.2=T1 by
     have h:=hI.eq
     rw[List.drop_length]at h;simp only[zaj,List.append_nil]at h;injection h with h1 h2
     exact⟨h1,h2⟩)
    have k12:=za0 (j:=12) (K0.out wo hI.ext) rfl
    have k13:=za0 (j:=13) (K0.out wo hI.ext) rfl
    have k14:=za0 (j:=14) (K0.out wo hI.ext) rfl
    have cz:¬((m.qs.length:Int)<(m.qs.length:Int)):=by omega
    go_upto_region 16 with fail
    obtain⟨W3,bK⟩:∃W3,W3=wo.alloc (.cells #[.slice aA m.ans.length ac,.slice uA m.auth.length uc,.slice xA m.extra.length xc] 40):=⟨_,rfl⟩
    obtain⟨g9,rJ⟩:∃g9,g9=wo.heap.size:=⟨_,rfl⟩
    have ao:Ext wo W3:=by rw[bK];exact(Z5 _).alloc _
    have rB:W3.heap[g9]? =some (.cells ([.slice aA m.ans.length ac,.slice uA m.auth.length uc,.slice xA m.extra.length xc]:List Value).toArray 40):=by rw[bK,rJ];exact heap_alloc_new _ _
    have rK:g9≠tp:=by have:=hI.tab.lt;omega
    have oI:ReI BB [m.ans,m.auth,m.extra] X0 tp g9 [.slice aA m.ans.length ac,.slice uA m.auth.length uc,.slice xA m.extra.length xc] 0 X T1 W3:=⟨hI.xl,hI.tab.ext ao,hI.tl,by have h:=vW.out;rw[HF.out.1,HF.out.2]at h;exact h,hI.ext.trans ao,rB⟩
    rw[←bK,←rJ];have rL:=Z7 (fun(i:Nat) (hi:i<3)=>(show ∃(v:Value) (l:List RecD),([m.ans,m.auth,m.extra]:List (List RecD))[i]? =some l∧([.slice aA m.ans.length ac,.slice uA m.auth.length uc,.slice xA m.extra.length xc]:List Value)[i]? =some v∧Recs w 0 v l∧l.all zac=true∧(∀r∈l,r.wf∧r.data.length≤100000)from match i,hi with
     |0,_=>⟨_,_,rfl,rfl,H.out.ans,DD.out,fun r hr=>⟨eZ.out.ans r hr,nA r (by simp[hr])⟩⟩
     |1,_=>⟨_,_,rfl,rfl,H.out.auth,DE.out,fun r hr=>⟨eZ.out.auth r hr,nA r (by simp[hr])⟩⟩
     |2,_=>⟨_,_,rfl,rfl,H.out.extra,DF.out,fun r hr=>⟨eZ.out.extra r hr,nA r (by simp[hr])⟩⟩
     |n+3,h=>absurd h (by omega)))
    clear bK rJ hI k11 k12 k13 k14 HF ao rB;generalize a5:([.slice aA m.ans.length ac,.slice uA m.auth.length uc,.slice xA m.extra.length xc]:List Value)=row at oI rL;clear a5;have vZ:=Z7 (show([m.ans,m.auth,m.extra]:List (List RecD)).length=3 from rfl)
    generalize hLs:([m.ans,m.auth,m.extra]:List (List RecD))=Ls at oI rL vZ;clear hLs vW;go_wp2_with fail
    go_loopw [5,10] (fun s5 s10 wr=>∃(i:Nat) (X:List UInt8) (T1:Tab),i≤3∧s10=.int .i64 i∧s5=S X∧ReI BB Ls X0 tp g9 row i X T1 wr) (fun _ s10 _=>3 - (intOf s10).toNat)
    case atStart=>exact⟨0,X,T1,Nat.zero_le _,rfl,rfl,oI⟩
    case round=>
     clear oI;obtain⟨i,X2,T2,GJ,rfl,rfl,cK⟩:=hrel
     obtain⟨wp,rfl⟩:∃wp:World,wp=wr:=⟨_,rfl⟩
     by_cases rM:i<3
     ·obtain⟨v,l,eT,ku,k8,wd,wg⟩:=rL.out i rM
      have hx:=cK.xl
      have mX:=Z7 (show Ls.drop i=l::Ls.drop (i+1)by
       obtain⟨h1,h2⟩:=List.getElem?_eq_some_iff.1 eT
       rw[←h2];exact List.drop_eq_getElem_cons h1)
      have c9:wp.cell? ⟨g9,i,none⟩=some v:=za0 cK.row (by simpa using ku)
      have HP:=Z7 (fun V (hV:Ext wp V)=>zu4 X0 tp T2 X2 v l V (k8.ext aP) (cK.ext.trans hV) (cK.tab.ext hV) hx cK.tl wd wg)
      clear eT ku k8 wd wg;have wh:(i:Int)<3:=by omega
      have Bl:(0:Int)≤(i:Int):=by omega
      go_wp2_with fail;refine(HP.out _ (Z5 wp)).mono ?_;rintro e w6 ⟨⟨gI,rfl,yj,rN⟩|⟨aT,rfl⟩,aw,lG⟩
      ·have Bn:=Z7 (zwx (W:=w6) cK mX.out gI yj rN aw lG rK)
       go_wp2_with fail;go_roundw
       case rel=>exact⟨i+1,_,_,by omega,by go_num,rfl,Bn.out⟩
       case measure=>simp[intOf];omega
      ·have HL:=Z7 (fW.out (by have:=zww cK mX.out;have:=vU.out.2;dsimp only at aT;omega))
       go_wp2_with fail
       go_ret2
       exact⟨by rw[HL.out.1,HL.out.2];rfl,aP.trans aw⟩
     ·obtain rfl:i=3:=by omega
      have yH:=Z7 (show BB=X2 by
       have h:=cK.eq
       rw[List.drop_of_length_le (by rw[vZ.out];exact Z4 _)]at h
       simpa[zaj]using h)
      have k15:=za0 (j:=15) (K0.out wp cK.ext) rfl
      rw[He.out]at k15;have Bo:=eZ.out.size
      obtain⟨szn,bH⟩:=Int.eq_ofNat_of_zero_le Bo.1
      have DG:=Z7 bH
      have GK:szn≤65535:=by omega
      clear bH;have GL:=eZ.out.ext
      have GM:=eZ.out.ver
      have fw:=eZ.out.flags
      have GN:=Z7 (fun V (hV:Ext w V)=>zyp m.ed _ V (H.out.opts.ext hV) GL GM fw eZ.out.opts)
      have wj:zd3 m.ed<4294967296:=by unfold zd3;omega
      go_wp2_with(first|(refine za9 (by rfl) 43 (.tmp 115) rfl w.heap.size 16 rfl [.int .u16 m.ed.size,.int .u8 m.ed.ext,.int .u8 m.ed.ver,.int .u16 m.ed.flags,.slice oA m.ed.opts.length oc] (zcx (K0.out wp cK.ext) 16 5) _ Tryz.underlying43 rfl (by kernel_rfl) ?_)|fail)
      refine(GN.out _ (aP.trans cK.ext)).mono ?_;rintro e w8 ⟨⟨aT,rfl⟩|⟨fi,rfl⟩,dj⟩
      ·have HL:=Z7 (fW.out (by rw[dN.out,Z6];have h1:(zfy m.ed).length≤(zhr m.ed).length:=by unfold zhr;simp only[Z6];omega
                               omega))
       go_wp2_with fail
       go_ret2
       exact⟨by rw[HL.out.1,HL.out.2];rfl,(aP.trans cK.ext).trans dj⟩
      ·obtain⟨ow,how⟩:∃ow,ow=zfy m.ed:=⟨_,rfl⟩
       obtain⟨tl,cv⟩:∃tl,tl=zd3 m.ed:=⟨_,rfl⟩
       rw[←how]at fi ⊢;rw[←cv]at wj ⊢;have GO:=Z7 (show zhr m.ed=[0]++two 41++two szn++zdp tl++two ow.length++ow by rw[how,cv];unfold zhr;rw[DG.out,Int.toNat_natCast])
       clear how cv;have oE:=Z7 (fun V=>(show Calls Tryz.prog 117 #[.int .u64 41,.int .i64 2] V fun e w'=>e=.returned (S (two 41))∧Ext V w' from zcr 41 V (by omega)))
       have DH:=Z7 (fun V=>zcr szn V (by omega))
       rw[←DG.out]at DH;have GP:=Z7 (fun V=>zri tl V wj)
       have GR:=Z7 (fun V=>zcr ow.length V (by omega))
       have lL:IntKind.u64.wrap m.ed.size=m.ed.size:=IntWalk.u64_in _ (by omega)
       have kp:IntKind.u64.wrap (tl:Int)=(tl:Int):=IntWalk.u64_in _ (by omega)
       have Bh:IntKind.u64.wrap (ow.length:Int)=(ow.length:Int):=IntWalk.u64_in _ (by omega)
       have gY:=cK.xl
       have how:ow.length≤65535:=by omega
       have o0:=zah 41
       have o1:=zah szn
       have o2:=zgp tl
       have o3:=zah ow.length
       go_upto_region 27 with fail
       have o4:([0]:List UInt8).length=1:=rfl
       have ov0:¬9223372036854775807<X2.length+1:=by omega
       have ov1:¬9223372036854775807<X2.length+1+(two 41).length:=by omega
       have ov2:¬9223372036854775807<X2.length+((two 41).length+1)+(two szn).length:=by omega
       have ov3:¬9223372036854775807<X2.length+((two 41).length+(two szn).length+1)+(zdp tl).length:=by omega
       have ov4:¬9223372036854775807<X2.length+((two 41).length+((two szn).length+(zdp tl).length)+1)+(two ow.length).length:=by omega
       clear o4;go_wp2_with fail;refine(oE.out _).mono ?_;rintro e y1 ⟨rfl,DI⟩;go_wp2_with fail;refine(DH.out _).mono ?_;rintro e y2 ⟨rfl,DJ⟩;go_wp2_with fail;refine(GP.out _).mono ?_;rintro e y3 ⟨rfl,DK⟩;go_wp2_with fail;refine(GR.out _).mono ?_;rintro e y4 ⟨rfl,DL⟩;go_upto_region 28 with fail
       obtain⟨Z,hZ⟩:∃Z,Z=X2++0::(two 41++(two szn++(zdp tl++(two ow.length++ow)))):=⟨_,rfl⟩
       have Bp:=Z7 (show(zbf m).1=Z by rw[dN.out,yH.out,GO.out,hZ];simp only[List.append_assoc,List.cons_append,List.nil_append])
       rw[←hZ];clear hZ ov0 ov1 ov2 ov3 ov4 o0 o1 o2 o3;by_cases ib:65535<Z.length
       ·have vS:(65535:Int)<(Z.length:Int):=by omega
        have HL:=Z7 (fW.out (by rw[Bp.out];exact ib))
        go_wp2_with fail
        go_ret2
        exact⟨by rw[HL.out.1,HL.out.2];rfl,(aP.trans cK.ext).trans (dj.trans (DI.trans (DJ.trans (DK.trans DL))))⟩
       ·have vS:¬(65535:Int)<(Z.length:Int):=by omega
        have wk:=Z7 (iM.out (by rw[Bp.out];exact ib))
        go_wp2_with fail
        go_ret2
        exact⟨by rw[wk.out.1,wk.out.2,Bp.out];rfl,(aP.trans cK.ext).trans (dj.trans (DI.trans (DJ.trans (DK.trans DL))))⟩
 ·have He:=Z7 (show m.he=false by simpa using oD)
  clear oD;have rG:m.extra.length+0≤65535:=by have:=c4;rw[He.out]at this;simpa using this
  clear c4;have oe:=Z7 (zt6 m (m.extra.length+0) (by rw[He.out];rfl))
  have lE:=Z7 (fun V=>zpd m.hd m.qs.length m.ans.length m.auth.length (m.extra.length+0) V b1 eZ.out.id eZ.out.op eZ.out.code c1 c2 c3 rG)
  rw[oe.out]at lE;obtain⟨Hd,oF⟩:∃Hd,Hd=zfp m:=⟨_,rfl⟩
  rw[←oF]at lE;have kX:Hd.length=12:=by rw[oF];exact zt4 m
  obtain⟨Q,hQ⟩:∃Q,Q=zaj quW 12 m.qs []:=⟨_,rfl⟩
  obtain⟨RR,rH⟩:∃RR,RR=(zaj zb9 (12+Q.1.length) (m.ans++m.auth++m.extra) Q.2).1:=⟨_,rfl⟩
  obtain⟨BB,oG⟩:∃BB,BB=Hd++Q.1++RR:=⟨_,rfl⟩
  have dN:=Z7 (show(zbf m).1=BB++[]by rw[oG,oF,rH,hQ];unfold zbf;dsimp only;rw[He.out];rfl)
  have vU:=Z7 (show(Hd++Q.1).length≤(zbf m).1.length∧BB.length≤(zbf m).1.length by rw[dN.out,oG];simp only[Z6];omega)
  have vV:=Z7 (show(Hd++Q.1,Q.2)=(Hd++(zaj quW Hd.length (m.qs.drop 0) []).1,(zaj quW Hd.length (m.qs.drop 0) []).2)by rw[kX,hQ];rfl)
  have vW:=Z7 (show BB=(Hd++Q.1)++(zaj zb9 (Hd++Q.1).length (([m.ans,m.auth,m.extra]:List (List RecD)).drop 0).flatten Q.2).1 by
   rw[oG,Z6,kX,rH];simp)
  have Bi:=Z7 kX
  clear oF hQ rH kX oe oG;go_enter Tryz.func56,Tryz.ntmps56;go_upto_region 1 with fail
  have aW:w.alloc (.cells #[.int .u16 m.hd.id,.bool m.hd.qr,.int .u8 m.hd.op,.bool m.hd.aa,.bool m.hd.tc,.bool m.hd.rd,.bool m.hd.ra,.bool m.hd.z,.bool m.hd.ad,.bool m.hd.cd,.int .u8 m.hd.code,.slice qA m.qs.length qc,.slice aA m.ans.length ac,.slice uA m.auth.length uc,.slice xA m.extra.length xc,.bool m.he,.int .u16 m.ed.size,.int .u8 m.ed.ext,.int .u8 m.ed.ver,.int .u16 m.ed.flags,.slice oA m.ed.opts.length oc] 45)=X0:=ar.symm
  rw[aW];clear aW ar;go_wp2_with(first|(refine za9 (by rfl) 45 (.tmp 1) rfl w.heap.size 0 rfl [.int .u16 m.hd.id,.bool m.hd.qr,.int .u8 m.hd.op,.bool m.hd.aa,.bool m.hd.tc,.bool m.hd.rd,.bool m.hd.ra,.bool m.hd.z,.bool m.hd.ad,.bool m.hd.cd,.int .u8 m.hd.code,.slice qA m.qs.length qc,.slice aA m.ans.length ac,.slice uA m.auth.length uc,.slice xA m.extra.length xc,.bool m.he,.int .u16 m.ed.size,.int .u8 m.ed.ext,.int .u8 m.ed.ver,.int .u16 m.ed.flags,.slice oA m.ed.opts.length oc] (zba r0) _ Tryz.underlying45 rfl (by kernel_rfl) ?_)|fail)
  refine(tD.out _ aP).mono ?_;rintro e w1 ⟨rfl,ae⟩;have r01:=K0.out w1 ae
  have k15:=za0 (j:=15) r01 rfl
  have k11:=za0 (j:=11) r01 rfl
  have k12:=za0 (j:=12) r01 rfl
  have k13:=za0 (j:=13) r01 rfl
  have k14:=za0 (j:=14) r01 rfl
  rw[He.out]at k15;have uO:(m.extra.length:Int)+0≤65535:=by omega
  go_wp2_with(first|(refine za9 (by rfl) 30 (.tmp 23) rfl w.heap.size 0 rfl [.int .u16 m.hd.id,.bool m.hd.qr,.int .u8 m.hd.op,.bool m.hd.aa,.bool m.hd.tc,.bool m.hd.rd,.bool m.hd.ra,.bool m.hd.z,.bool m.hd.ad,.bool m.hd.cd,.int .u8 m.hd.code] (zcx r01 0 11) _ Tryz.underlying30 rfl (by kernel_rfl) ?_)|fail)
  refine(lE.out _).mono ?_;rintro e w2 ⟨rfl,ah⟩;have gw:Ext X0 w2:=ae.trans ah
  obtain⟨W2,eF⟩:∃W2,W2=w2.alloc (.cells #[.slice none 0 0] 206):=⟨_,rfl⟩
  obtain⟨tp,jn⟩:∃tp,tp=w2.heap.size:=⟨_,rfl⟩
  have vX:TabR W2 X0.heap.size tp []:=by rw[eF,jn];exact zuh w2 X0.heap.size gw.size
  have rI:Ext X0 W2:=by rw[eF];exact gw.alloc _
  have jP:QeI (Hd++Q.1) Q.2 m.qs X0 tp 0 Hd [] W2:=⟨by rw[Bi.out];omega,vX,Nat.zero_le _,vV.out,rI⟩
  clear k11 k12 k13 k14 k15 r01 vV vX;go_upto_region 8 with fail
  rw[←eF,←jn];clear eF jn;go_wp2_with fail
  go_loopw [5,8] (fun s5 s8 wr=>∃(k:Nat) (X:List UInt8) (T1:Tab),k≤m.qs.length∧s8=.int .i64 k∧s5=S X∧QeI (Hd++Q.1) Q.2 m.qs X0 tp k X T1 wr) (fun _ s8 _=>m.qs.length - (intOf s8).toNat)
  case atStart=>exact⟨0,Hd,[],Nat.zero_le _,rfl,rfl,jP⟩
  case round=>
   clear jP;obtain⟨k,X,T1,hk,rfl,rfl,hI⟩:=hrel
   obtain⟨wo,rfl⟩:∃wo:World,wo=wr:=⟨_,rfl⟩
   have k11:=za0 (j:=11) (K0.out wo hI.ext) rfl
   by_cases ab:k<m.qs.length
   ·obtain⟨bk,off,rfl,_,az,hc⟩:=(fT.ext aP).2 (by omega)
    obtain⟨x0,x1,x2⟩:=zdt hc k m.qs[k] (Z3 ab)
    have HS:=Z7 (show m.qs.drop k=m.qs[k]::m.qs.drop (k+1)from List.drop_eq_getElem_cons ab)
    have vY:may m.qs[k].name=true:=DC.out _ (List.getElem_mem ab)
    have vg:=eZ.out.qs _ (List.getElem_mem ab)
    generalize m.qs[k]=qq at*;obtain⟨nm,ty,cl⟩:=qq
    obtain⟨oz,ki⟩:=vg
    dsimp only at*;obtain⟨tyn,rfl⟩:=Int.eq_ofNat_of_zero_le oz.1
    obtain⟨cln,rfl⟩:=Int.eq_ofNat_of_zero_le ki.1
    have hx:=hI.xl
    obtain⟨N,hN⟩:∃N,N=putN true true X.length nm T1:=⟨_,rfl⟩
    have yd:N.1.length≤255:=by rw[hN];exact zgt true true X.length T1 vY
    have DA:N.2.length≤T1.length+N.1.length:=by rw[hN];exact zio true true X.length nm T1
    have HY:=Z7 (show quW X.length ⟨nm,(tyn:Int),(cln:Int)⟩ T1=(N.1++(two tyn++two cln),N.2)by rw[hN];rfl)
    obtain⟨Y,kB⟩:∃Y,Y=N.1++(two tyn++two cln):=⟨_,rfl⟩
    have oC:=Z7 kB
    have rC:=Z7 (show Y.length=N.1.length+4 by rw[kB];simp only[Z6,zah])
    have Bj:=Z7 (zwq hI HS.out Y N.2 (by rw[HY.out,kB]))
    have pM:=Z7 (fun V (hV:Ext wo V)=>zl1 X0.heap.size tp T1 X nm true true V (hI.tab.ext hV) (by omega) hI.tl vY)
    rw[←hN]at pM;clear hN kB;have kW:=Z7 (fun V=>zcr tyn V (by omega))
    have ka:=Z7 (fun V=>zcr cln V (by omega))
    have lL:IntKind.u64.wrap (tyn:Int)=(tyn:Int):=IntWalk.u64_in _ (by omega)
    have kp:IntKind.u64.wrap (cln:Int)=(cln:Int):=IntWalk.u64_in _ (by omega)
    have HC:=Z7 (fun V (hV:Ext X0 V)=>(show V.cell? ⟨w.heap.size,11,none⟩=some (.slice (some ⟨bk,off,none⟩) m.qs.length qc)∧V.cell? ⟨bk,off+k*3+1,none⟩=some (.int .u16 (tyn:Int))∧V.cell? ⟨bk,off+k*3+2,none⟩=some (.int .u16 (cln:Int))from
     ⟨za0 (j:=11) (K0.out V hV) rfl,(hV.cell (p:=⟨bk,off+k*3+1,none⟩) az).trans x1,(hV.cell (p:=⟨bk,off+k*3+2,none⟩) az).trans x2⟩))
    have y0:=(hI.ext.cell (p:=⟨bk,off+k*3,none⟩) az).trans x0
    clear hc x0 x1 x2;have cz:(k:Int)<(m.qs.length:Int):=by omega
    have cW:(0:Int)≤(k:Int):=by omega
    go_wp2_with fail;refine(pM.out _ (Z5 wo)).mono ?_;rintro e w5 ⟨rfl,jG,nL,mS⟩;have am:Ext X0 w5:=Below.trans hI.ext nL
    (try dsimp only)
    go_upto_region 12 with fail
    have o0:=zah tyn
    have o1:=zah cln
    have ov1:¬9223372036854775807<X.length+N.1.length+(two tyn).length:=by omega
    have ov2:¬9223372036854775807<X.length+(N.1.length+(two tyn).length)+(two cln).length:=by omega
    clear o0 o1;refine wp_region_noPanic ?_;refine za6 (S:=(fun V=>V.cell? ⟨w.heap.size,11,none⟩=some (.slice (some ⟨bk,off,none⟩) m.qs.length qc)∧V.cell? ⟨bk,off+k*3+1,none⟩=some (.int .u16 (tyn:Int))∧V.cell? ⟨bk,off+k*3+2,none⟩=some (.int .u16 (cln:Int)))) (.take 0 (.take 1 (.take 2 (.take 3 (.take 4 (.take 5 (.take 6 (.take 7 (.take 10 (.take 11 (.take 12 (.take 13 (.take 14 (.take 15 (.take 16 (.run 8 (.take 9 (.run 17 (.take 18 (.take 19 (.done))))))))))))))))))))) (by kernel_rfl) (by kernel_rfl) (fun _ _ _ _ _ h=>h) ((HC.out _ (am.trans (Z5 w5).drew))) ?_
    repeat((with_reducible refine za7 ?_);first
     |(refine za4 (v:=?_) (by rfl) (by rfl) ?_ ?_;rotate_left;(focus(intro V hV;(try dsimp only at hV);(go_simp<;>with_reducible rfl)));(try simp only[ap]))
     |(refine zaf (by rfl) (by rfl) ?_;(try simp only[ap])))
    refine za5 (by rfl) (fun K hK=>?_)
    go_simp;refine(kW.out _).mono ?_;rintro e w6 ⟨rfl,a6⟩;have d8:Ext w5 w6:=(Z5 w5).drew.trans a6
    clear a6;refine hK.out _ _ ?_ ?_
    ·exact(HC.out _ (am.trans d8))
    clear hK K
    (try simp only[ap])
    repeat((with_reducible refine za7 ?_);first
     |(refine za4 (v:=?_) (by rfl) (by rfl) ?_ ?_;rotate_left;(focus(intro V hV;(try dsimp only at hV);(go_simp<;>with_reducible rfl)));(try simp only[ap]))
     |(refine zaf (by rfl) (by rfl) ?_;(try simp only[ap])))
    refine za5 (by rfl) (fun K hK=>?_)
    go_simp;refine(ka.out _).mono ?_;rintro e w7 ⟨rfl,a6⟩;have eI:Ext w5 w7:=d8.trans a6
    clear a6;refine hK.out _ _ ?_ ?_
    ·exact(HC.out _ (am.trans eI))
    clear hK K
    (try simp only[ap])
    repeat((with_reducible refine za7 ?_);first
     |(refine za4 (v:=?_) (by rfl) (by rfl) ?_ ?_;rotate_left;(focus(intro V hV;(try dsimp only at hV);(go_simp<;>with_reducible rfl)));(try simp only[ap]))
     |(refine zaf (by rfl) (by rfl) ?_;(try simp only[ap])))
    refine zag ?_;refine NoPanic.normal ?_;have oH:=rC.out
    by_cases ib:65535<X.length+Y.length
    ·have HL:=Z7 (fW.out (by have:=Bj.out;have:=vU.out;omega))
     have vS:(65535:Int)<(X.length:Int)+(Y.length:Int):=by omega
     obtain⟨Z,hZ⟩:∃Z,Z=X++(N.1++(two tyn++two cln)):=⟨_,rfl⟩
     have m6:Z.length=X.length+Y.length:=by rw[hZ,oH];simp only[Z6,zah];try omega
     have ft:(65535:Int)<(Z.length:Int):=by omega
     rw[←hZ];clear hZ m6 oH;go_wp2_with fail
     go_ret2
     exact⟨by rw[HL.out.1,HL.out.2];rfl,aP.trans (am.trans eI)⟩
    ·obtain⟨Z,hZ⟩:∃Z,Z=X++(N.1++(two tyn++two cln)):=⟨_,rfl⟩
     have m6:Z.length=X.length+Y.length:=by rw[hZ,oH];simp only[Z6,zah];try omega
     have ft:¬(65535:Int)<(Z.length:Int):=by omega
     have HZ:=Z7 (show Z=X++Y by rw[hZ,oC.out])
     have Bk:=Z7 (zwr (W:=w7) hI HS.out Y N.2 (by rw[HY.out,oC.out]) (by omega) (jG.ext eI) (by have:=hI.tl;omega) (am.trans eI))
     rw[←hZ];clear hZ m6 oH;go_wp2_with fail;go_roundw
     case rel=>exact⟨k+1,X++Y,N.2,by omega,by go_num,by rw[HZ.out],Bk.out⟩
     case measure=>simp[intOf];omega
   ·obtain rfl:k=m.qs.length:=by omega
    have HF:=Z7 (show Hd++Q.1=X∧Q.2=T1 by
     have h:=hI.eq
     rw[List.drop_length]at h;simp only[zaj,List.append_nil]at h;injection h with h1 h2
     exact⟨h1,h2⟩)
    have k12:=za0 (j:=12) (K0.out wo hI.ext) rfl
    have k13:=za0 (j:=13) (K0.out wo hI.ext) rfl
    have k14:=za0 (j:=14) (K0.out wo hI.ext) rfl
    have cz:¬((m.qs.length:Int)<(m.qs.length:Int)):=by omega
    go_upto_region 16 with fail
    obtain⟨W3,bK⟩:∃W3,W3=wo.alloc (.cells #[.slice aA m.ans.length ac,.slice uA m.auth.length uc,.slice xA m.extra.length xc] 40):=⟨_,rfl⟩
    obtain⟨g9,rJ⟩:∃g9,g9=wo.heap.size:=⟨_,rfl⟩
    have ao:Ext wo W3:=by rw[bK];exact(Z5 _).alloc _
    have rB:W3.heap[g9]? =some (.cells ([.slice aA m.ans.length ac,.slice uA m.auth.length uc,.slice xA m.extra.length xc]:List Value).toArray 40):=by rw[bK,rJ];exact heap_alloc_new _ _
    have rK:g9≠tp:=by have:=hI.tab.lt;omega
    have oI:ReI BB [m.ans,m.auth,m.extra] X0 tp g9 [.slice aA m.ans.length ac,.slice uA m.auth.length uc,.slice xA m.extra.length xc] 0 X T1 W3:=⟨hI.xl,hI.tab.ext ao,hI.tl,by have h:=vW.out;rw[HF.out.1,HF.out.2]at h;exact h,hI.ext.trans ao,rB⟩
    rw[←bK,←rJ];have rL:=Z7 (fun(i:Nat) (hi:i<3)=>(show ∃(v:Value) (l:List RecD),([m.ans,m.auth,m.extra]:List (List RecD))[i]? =some l∧([.slice aA m.ans.length ac,.slice uA m.auth.length uc,.slice xA m.extra.length xc]:List Value)[i]? =some v∧Recs w 0 v l∧l.all zac=true∧(∀r∈l,r.wf∧r.data.length≤100000)from match i,hi with
     |0,_=>⟨_,_,rfl,rfl,H.out.ans,DD.out,fun r hr=>⟨eZ.out.ans r hr,nA r (by simp[hr])⟩⟩
     |1,_=>⟨_,_,rfl,rfl,H.out.auth,DE.out,fun r hr=>⟨eZ.out.auth r hr,nA r (by simp[hr])⟩⟩
     |2,_=>⟨_,_,rfl,rfl,H.out.extra,DF.out,fun r hr=>⟨eZ.out.extra r hr,nA r (by simp[hr])⟩⟩
     |n+3,h=>absurd h (by omega)))
    clear bK rJ hI k11 k12 k13 k14 HF ao rB;generalize a5:([.slice aA m.ans.length ac,.slice uA m.auth.length uc,.slice xA m.extra.length xc]:List Value)=row at oI rL;clear a5;have vZ:=Z7 (show([m.ans,m.auth,m.extra]:List (List RecD)).length=3 from rfl)
    generalize hLs:([m.ans,m.auth,m.extra]:List (List RecD))=Ls at oI rL vZ;clear hLs vW;go_wp2_with fail
    go_loopw [5,10] (fun s5 s10 wr=>∃(i:Nat) (X:List UInt8) (T1:Tab),i≤3∧s10=.int .i64 i∧s5=S X∧ReI BB Ls X0 tp g9 row i X T1 wr) (fun _ s10 _=>3 - (intOf s10).toNat)
    case atStart=>exact⟨0,X,T1,Nat.zero_le _,rfl,rfl,oI⟩
    case round=>
     clear oI;obtain⟨i,X2,T2,GJ,rfl,rfl,cK⟩:=hrel
     obtain⟨wp,rfl⟩:∃wp:World,wp=wr:=⟨_,rfl⟩
     by_cases rM:i<3
     ·obtain⟨v,l,eT,ku,k8,wd,wg⟩:=rL.out i rM
      have hx:=cK.xl
      have mX:=Z7 (show Ls.drop i=l::Ls.drop (i+1)by
       obtain⟨h1,h2⟩:=List.getElem?_eq_some_iff.1 eT
       rw[←h2];exact List.drop_eq_getElem_cons h1)
      have c9:wp.cell? ⟨g9,i,none⟩=some v:=za0 cK.row (by simpa using ku)
      have HP:=Z7 (fun V (hV:Ext wp V)=>zu4 X0 tp T2 X2 v l V (k8.ext aP) (cK.ext.trans hV) (cK.tab.ext hV) hx cK.tl wd wg)
      clear eT ku k8 wd wg;have wh:(i:Int)<3:=by omega
      have Bl:(0:Int)≤(i:Int):=by omega
      go_wp2_with fail;refine(HP.out _ (Z5 wp)).mono ?_;rintro e w6 ⟨⟨gI,rfl,yj,rN⟩|⟨aT,rfl⟩,aw,lG⟩
      ·have Bn:=Z7 (zwx (W:=w6) cK mX.out gI yj rN aw lG rK)
       go_wp2_with fail;go_roundw
       case rel=>exact⟨i+1,_,_,by omega,by go_num,rfl,Bn.out⟩
       case measure=>simp[intOf];omega
      ·have HL:=Z7 (fW.out (by have:=zww cK mX.out;have:=vU.out.2;dsimp only at aT;omega))
       go_wp2_with fail
       go_ret2
       exact⟨by rw[HL.out.1,HL.out.2];rfl,aP.trans aw⟩
     ·obtain rfl:i=3:=by omega
      have yH:=Z7 (show BB=X2 by
       have h:=cK.eq
       rw[List.drop_of_length_le (by rw[vZ.out];exact Z4 _)]at h
       simpa[zaj]using h)
      have k15:=za0 (j:=15) (K0.out wp cK.ext) rfl
      rw[He.out]at k15;have wh:¬((3:Int)<3):=by omega
      have xX:¬(65535:Int)<(X2.length:Int):=by have:=cK.xl;omega
      have wk:=Z7 (iM.out (by rw[dN.out,yH.out,List.append_nil];have:=cK.xl;omega))
      go_wp2_with fail
      go_ret2
      exact⟨by rw[wk.out.1,wk.out.2,dN.out,yH.out,List.append_nil];rfl,aP.trans cK.ext⟩
end Go.Proofs.YtdnpmapelmjfpaaGreatDoor
