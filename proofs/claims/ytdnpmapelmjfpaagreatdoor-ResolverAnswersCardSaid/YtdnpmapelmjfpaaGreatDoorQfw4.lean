/- Contracts of functions and plain lemmas that the proofs of this seat share (joined texts). No condition. -/
import Derived.Test.YtdnpmapelmjfpaaGreatDoorQfw3
set_option maxHeartbeats 8000000
set_option linter.unusedVariables false
set_option linter.unusedSimpArgs false
namespace Go.Proofs.YtdnpmapelmjfpaaGreatDoor
open Go.RowKit
set_option maxRecDepth 100000
structure QeI (B:List UInt8) (T0:Tab) (qs:List QD) (X0:World) (tp k:Nat) (X:List UInt8) (T1:Tab) (wr:World):Prop where
 xl:X.length≤65535
 tab:TabR wr X0.heap.size tp T1
 tl:T1.length≤X.length
 eq:(B,T0)=(X++(zal quW X.length (qs.drop k) T1).1,(zal quW X.length (qs.drop k) T1).2)
 ext:Ext X0 wr
theorem zvd {B:List UInt8} {T0:Tab} {qs:List QD} {X0 W wo:World} {tp k:Nat} {X:List UInt8} {T1:Tab} {q:QD} (hI:QeI B T0 qs X0 tp k X T1 wo) (hl:qs.drop k=q::qs.drop (k+1)) (Y:List UInt8) (T2:Tab) (hY:quW X.length q T1=(Y,T2))
 (hx:X.length+Y.length≤65535) (ht:TabR W X0.heap.size tp T2) (htl:T2.length≤X.length+Y.length) (hE:Ext X0 W):QeI B T0 qs X0 tp (k+1) (X++Y) T2 W:=by
 refine⟨by rw[List.length_append];exact hx,ht,by rw[List.length_append];exact htl,?_,hE⟩
 rw[hI.eq,hl];simp only[zal];rw[hY];simp only[List.length_append,List.append_assoc]
theorem zvc {B:List UInt8} {T0:Tab} {qs:List QD} {X0 wo:World} {tp k:Nat} {X:List UInt8} {T1:Tab} {q:QD} (hI:QeI B T0 qs X0 tp k X T1 wo) (hl:qs.drop k=q::qs.drop (k+1)) (Y:List UInt8) (T2:Tab) (hY:quW X.length q T1=(Y,T2)):X.length+Y.length≤B.length:=by
 have h:=congrArg Prod.fst hI.eq
 dsimp only at h;rw[h,hl];simp only[zal];rw[hY];simp only[List.length_append];omega
structure ReI (B:List UInt8) (Ls:List (List RecD)) (X0:World) (tp g:Nat) (row:List Value) (k:Nat) (X:List UInt8) (T1:Tab) (wr:World):Prop where
 xl:X.length≤65535
 tab:TabR wr X0.heap.size tp T1
 tl:T1.length≤X.length
 eq:B=X++(zal zbf X.length (Ls.drop k).flatten T1).1
 ext:Ext X0 wr
 row:wr.heap[g]? =some (.cells row.toArray 40)
theorem zvi {B:List UInt8} {Ls:List (List RecD)} {X0 W wo:World} {tp g k:Nat} {row:List Value} {X:List UInt8} {T1:Tab} {l:List RecD} (hI:ReI B Ls X0 tp g row k X T1 wo) (hl:Ls.drop k=l::Ls.drop (k+1))
 (hx:(X++(zal zbf X.length l T1).1).length≤65535) (ht:TabR W X0.heap.size tp (zal zbf X.length l T1).2) (htl:(zal zbf X.length l T1).2.length≤(X++(zal zbf X.length l T1).1).length) (hE:Ext X0 W) (hK:KeptC tp wo W) (hne:g≠tp):
 ReI B Ls X0 tp g row (k+1) (X++(zal zbf X.length l T1).1) (zal zbf X.length l T1).2 W:=by
 refine⟨hx,ht,htl,?_,hE,hK.2 _ _ _ _ hne hI.row⟩;rw[hI.eq,hl,List.flatten_cons,zfp];simp only[List.length_append,List.append_assoc]
theorem zvh {B:List UInt8} {Ls:List (List RecD)} {X0 wo:World} {tp g k:Nat} {row:List Value} {X:List UInt8} {T1:Tab} {l:List RecD} (hI:ReI B Ls X0 tp g row k X T1 wo) (hl:Ls.drop k=l::Ls.drop (k+1)):(X++(zal zbf X.length l T1).1).length≤B.length:=by
 rw[hI.eq,hl,List.flatten_cons,zfp];simp only[List.length_append];omega
theorem zs0 (m:MsgD) (c3:Nat) (hc:c3=m.extra.length+if m.he then 1 else 0):two m.hd.id.toNat++two (zcg m.hd)++([m.qs.length,m.ans.length,m.auth.length,c3].flatMap two)=zfq m:=by
 subst hc;simp[zfq]
theorem zt8 (w:World) (lo:Nat) (h:lo≤w.heap.size):TabR (w.alloc (.cells #[.slice none 0 0] 206)) lo w.heap.size []:=
 ⟨h,zqo,none,0,heap_alloc_new _ _,Nat.le_refl _,Nat.zero_le _,⟨rfl,fun h=>absurd h (Nat.lt_irrefl _)⟩⟩
theorem zfm (m:MsgD) (q a u x o:Value) (w:World) (hwf:m.wf) (h:Msg7 w m q a u x o) (hda:∀r∈m.ans++m.auth++m.extra,r.data.length≤100000):
 Calls Tryz.prog 56 #[zdr m.hd q a u x m.he m.ed o] w (zcq m w):=by
 have HMa:=Lib.hid (fun V (hV:Ext w V)=>zC0 m q a u x o V (h.ext hV))
 unfold zn5 at HMa;have H:=Lib.hid h
 obtain⟨⟨qA,qc,rfl,hq1,hq2,hqr⟩,⟨aA,ac,rfl,_,_,_⟩,⟨uA,uc,rfl,_,_,_⟩,⟨xA,xc,rfl,hx1,hx2,_⟩,⟨oA,oc,rfl,_,_,_⟩,hqok,_,_,_,_⟩:=h
 unfold maxLen at hq2 hx2;obtain⟨X0,hX0⟩:∃X0,X0=w.alloc (.cells #[.int .u16 m.hd.id,.bool m.hd.qr,.int .u8 m.hd.op,.bool m.hd.aa,.bool m.hd.tc,.bool m.hd.rd,.bool m.hd.ra,.bool m.hd.z,.bool m.hd.ad,.bool m.hd.cd,.int .u8 m.hd.code,.slice qA m.qs.length qc,.slice aA m.ans.length ac,.slice uA m.auth.length uc,.slice xA m.extra.length xc,.bool m.he,.int .u16 m.ed.size,.int .u8 m.ed.ext,.int .u8 m.ed.ver,.int .u16 m.ed.flags,.slice oA m.ed.opts.length oc] 45):=⟨_,rfl⟩
 have hw0:Ext w X0:=by rw[hX0];exact(Ext.refl _).alloc _
 have r0:X0.heap[w.heap.size]? =some (.cells #[.int .u16 m.hd.id,.bool m.hd.qr,.int .u8 m.hd.op,.bool m.hd.aa,.bool m.hd.tc,.bool m.hd.rd,.bool m.hd.ra,.bool m.hd.z,.bool m.hd.ad,.bool m.hd.cd,.int .u8 m.hd.code,.slice qA m.qs.length qc,.slice aA m.ans.length ac,.slice uA m.auth.length uc,.slice xA m.extra.length xc,.bool m.he,.int .u16 m.ed.size,.int .u8 m.ed.ext,.int .u8 m.ed.ver,.int .u16 m.ed.flags,.slice oA m.ed.opts.length oc] 45):=by rw[hX0];exact heap_alloc_new w _
 have K0:=Lib.hid (fun V (hV:Ext X0 V)=>(hV.block _ (Array.getElem?_eq_some_iff.1 r0).1).trans r0)
 have Hwf:=Lib.hid hwf
 clear hwf;rcases hmm:zc3 m with _|_
 ·have HF:=Lib.hid (show zan m=3∧zb7 m=[]by
   have he:zan m=3:=by unfold zan;rw[if_neg (by rw[hmm];simp)]
   exact⟨he,by unfold zb7;rw[if_neg (by rw[he];decide)]⟩)
  rw[hmm]at HMa;clear hmm;go_enter Tryz.func56,Tryz.ntmps56;go_upto_region 1 with fail
  have hzz:w.alloc (.cells #[.int .u16 m.hd.id,.bool m.hd.qr,.int .u8 m.hd.op,.bool m.hd.aa,.bool m.hd.tc,.bool m.hd.rd,.bool m.hd.ra,.bool m.hd.z,.bool m.hd.ad,.bool m.hd.cd,.int .u8 m.hd.code,.slice qA m.qs.length qc,.slice aA m.ans.length ac,.slice uA m.auth.length uc,.slice xA m.extra.length xc,.bool m.he,.int .u16 m.ed.size,.int .u8 m.ed.ext,.int .u8 m.ed.ver,.int .u16 m.ed.flags,.slice oA m.ed.opts.length oc] 45)=X0:=hX0.symm
  rw[hzz];clear hzz hX0;go_wp2_with(first|(refine zaw (by rfl) 45 (.tmp 1) rfl w.heap.size 0 rfl [.int .u16 m.hd.id,.bool m.hd.qr,.int .u8 m.hd.op,.bool m.hd.aa,.bool m.hd.tc,.bool m.hd.rd,.bool m.hd.ra,.bool m.hd.z,.bool m.hd.ad,.bool m.hd.cd,.int .u8 m.hd.code,.slice qA m.qs.length qc,.slice aA m.ans.length ac,.slice uA m.auth.length uc,.slice xA m.extra.length xc,.bool m.he,.int .u16 m.ed.size,.int .u8 m.ed.ext,.int .u8 m.ed.ver,.int .u16 m.ed.flags,.slice oA m.ed.opts.length oc] (zeu r0) _ Tryz.underlying45 rfl (by kernel_rfl) ?_)|fail)
  refine(HMa.out _ hw0).mono ?_;rintro e w1 ⟨rfl,hE1⟩;go_wp2_with fail
  go_ret2
  exact⟨by rw[HF.out.1,HF.out.2];rfl,hw0.trans hE1⟩
 have hmay:=hmm
 unfold zc3 at hmay;simp only[Bool.and_eq_true,decide_eq_true_eq]at hmay;obtain⟨⟨⟨⟨⟨⟨b1,b2⟩,c1,c2,c3,c4⟩,b4⟩,b5⟩,b6⟩,b7⟩:=hmay
 have HB4:=Lib.hid (List.all_eq_true.1 b4)
 have HB5:=Lib.hid b5
 have HB6:=Lib.hid b6
 have HB7:=Lib.hid b7
 have HLong:=Lib.hid (fun(hl:65535<(zbg m).1.length)=>(show zan m=5∧zb7 m=[]by
  have he:zan m=5:=by unfold zan;rw[if_pos hmm,if_pos hl]
  exact⟨he,by unfold zb7;rw[if_neg (by rw[he];decide)]⟩))
 have HOk:=Lib.hid (fun(hl:¬65535<(zbg m).1.length)=>(show zan m=0∧zb7 m=(zbg m).1 by
  have he:zan m=0:=by unfold zan;rw[if_pos hmm,if_neg hl]
  exact⟨he,by unfold zb7;rw[if_pos he]⟩))
 rw[hmm]at HMa;clear hmm b2 b4 b5 b6 b7;by_cases het:m.he=true
 ·have He:=Lib.hid het
  clear het;have hx65:m.extra.length+1≤65535:=by have:=c4;rw[He.out]at this;simpa using this
  clear c4;have HHd:=Lib.hid (zs0 m (m.extra.length+1) (by rw[He.out];rfl))
  have HW3:=Lib.hid (fun V=>zo9 m.hd m.qs.length m.ans.length m.auth.length (m.extra.length+1) V b1 Hwf.out.id Hwf.out.op Hwf.out.code c1 c2 c3 hx65)
  rw[HHd.out]at HW3;obtain⟨Hd,hHd⟩:∃Hd,Hd=zfq m:=⟨_,rfl⟩
  rw[←hHd]at HW3;have hHl:Hd.length=12:=by rw[hHd];exact znd m
  obtain⟨Q,hQ⟩:∃Q,Q=zal quW 12 m.qs []:=⟨_,rfl⟩
  obtain⟨RR,hRR⟩:∃RR,RR=(zal zbf (12+Q.1.length) (m.ans++m.auth++m.extra) Q.2).1:=⟨_,rfl⟩
  obtain⟨BB,hBB⟩:∃BB,BB=Hd++Q.1++RR:=⟨_,rfl⟩
  have HBd:=Lib.hid (show(zbg m).1=BB++zg8 m.ed by rw[hBB,hHd,hRR,hQ];unfold zbg;dsimp only;rw[He.out];rfl)
  have HBl:=Lib.hid (show(Hd++Q.1).length≤(zbg m).1.length∧BB.length≤(zbg m).1.length by rw[HBd.out,hBB];simp only[List.length_append];omega)
  have HQ0:=Lib.hid (show(Hd++Q.1,Q.2)=(Hd++(zal quW Hd.length (m.qs.drop 0) []).1,(zal quW Hd.length (m.qs.drop 0) []).2)by rw[hHl,hQ];rfl)
  have HR0:=Lib.hid (show BB=(Hd++Q.1)++(zal zbf (Hd++Q.1).length (([m.ans,m.auth,m.extra]:List (List RecD)).drop 0).flatten Q.2).1 by
   rw[hBB,List.length_append,hHl,hRR];simp)
  have Hhl:=Lib.hid hHl
  clear hHd hQ hRR hHl HHd hBB;go_enter Tryz.func56,Tryz.ntmps56;go_upto_region 1 with fail
  have hzz:w.alloc (.cells #[.int .u16 m.hd.id,.bool m.hd.qr,.int .u8 m.hd.op,.bool m.hd.aa,.bool m.hd.tc,.bool m.hd.rd,.bool m.hd.ra,.bool m.hd.z,.bool m.hd.ad,.bool m.hd.cd,.int .u8 m.hd.code,.slice qA m.qs.length qc,.slice aA m.ans.length ac,.slice uA m.auth.length uc,.slice xA m.extra.length xc,.bool m.he,.int .u16 m.ed.size,.int .u8 m.ed.ext,.int .u8 m.ed.ver,.int .u16 m.ed.flags,.slice oA m.ed.opts.length oc] 45)=X0:=hX0.symm
  rw[hzz];clear hzz hX0;go_wp2_with(first|(refine zaw (by rfl) 45 (.tmp 1) rfl w.heap.size 0 rfl [.int .u16 m.hd.id,.bool m.hd.qr,.int .u8 m.hd.op,.bool m.hd.aa,.bool m.hd.tc,.bool m.hd.rd,.bool m.hd.ra,.bool m.hd.z,.bool m.hd.ad,.bool m.hd.cd,.int .u8 m.hd.code,.slice qA m.qs.length qc,.slice aA m.ans.length ac,.slice uA m.auth.length uc,.slice xA m.extra.length xc,.bool m.he,.int .u16 m.ed.size,.int .u8 m.ed.ext,.int .u8 m.ed.ver,.int .u16 m.ed.flags,.slice oA m.ed.opts.length oc] (zeu r0) _ Tryz.underlying45 rfl (by kernel_rfl) ?_)|fail)
  refine(HMa.out _ hw0).mono ?_;rintro e w1 ⟨rfl,hE1⟩;have r01:=K0.out w1 hE1
  have k15:=za0 (j:=15) r01 rfl
  have k11:=za0 (j:=11) r01 rfl
  have k12:=za0 (j:=12) r01 rfl
  have k13:=za0 (j:=13) r01 rfl
  have k14:=za0 (j:=14) r01 rfl
  rw[He.out]at k15;have hxi:(m.extra.length:Int)+1≤65535:=by omega
  go_wp2_with(first|(refine zaw (by rfl) 30 (.tmp 23) rfl w.heap.size 0 rfl [.int .u16 m.hd.id,.bool m.hd.qr,.int .u8 m.hd.op,.bool m.hd.aa,.bool m.hd.tc,.bool m.hd.rd,.bool m.hd.ra,.bool m.hd.z,.bool m.hd.ad,.bool m.hd.cd,.int .u8 m.hd.code] (zcy r01 0 11) _ Tryz.underlying30 rfl (by kernel_rfl) ?_)|fail)
  refine(HW3.out _).mono ?_;rintro e w2 ⟨rfl,hE2⟩;have hE12:Ext X0 w2:=hE1.trans hE2
  obtain⟨W2,hW2⟩:∃W2,W2=w2.alloc (.cells #[.slice none 0 0] 206):=⟨_,rfl⟩
  obtain⟨tp,htp⟩:∃tp,tp=w2.heap.size:=⟨_,rfl⟩
  have hT0:TabR W2 X0.heap.size tp []:=by rw[hW2,htp];exact zt8 w2 X0.heap.size hE12.size
  have hEW2:Ext X0 W2:=by rw[hW2];exact hE12.alloc _
  have hI0:QeI (Hd++Q.1) Q.2 m.qs X0 tp 0 Hd [] W2:=⟨by rw[Hhl.out];omega,hT0,Nat.zero_le _,HQ0.out,hEW2⟩
  clear k11 k12 k13 k14 k15 r01 HQ0 hT0;go_upto_region 8 with fail
  rw[←hW2,←htp];clear hW2 htp;go_wp2_with fail
  go_loopw [5,8] (fun s5 s8 wr=>∃(k:Nat) (X:List UInt8) (T1:Tab),k≤m.qs.length∧s8=.int .i64 k∧s5=S X∧QeI (Hd++Q.1) Q.2 m.qs X0 tp k X T1 wr) (fun _ s8 _=>m.qs.length - (intOf s8).toNat)
  case atStart=>exact⟨0,Hd,[],Nat.zero_le _,rfl,rfl,hI0⟩
  case round=>
   clear hI0;obtain⟨k,X,T1,hk,rfl,rfl,hI⟩:=hrel
   obtain⟨wo,rfl⟩:∃wo:World,wo=wr:=⟨_,rfl⟩
   have k11:=za0 (j:=11) (K0.out wo hI.ext) rfl
   by_cases hlt:k<m.qs.length
   ·obtain⟨bk,off,rfl,_,hbz,hc⟩:=(hqr.ext hw0).2 (by omega)
    obtain⟨x0,x1,x2⟩:=zdy hc k m.qs[k] (List.getElem?_eq_getElem hlt)
    have HS:=Lib.hid (show m.qs.drop k=m.qs[k]::m.qs.drop (k+1)from List.drop_eq_getElem_cons hlt)
    have hmy:may m.qs[k].name=true:=HB4.out _ (List.getElem_mem hlt)
    have hqw:=Hwf.out.qs _ (List.getElem_mem hlt)
    generalize m.qs[k]=qq at*;obtain⟨nm,ty,cl⟩:=qq
    obtain⟨ht1,ht2⟩:=hqw
    dsimp only at*;obtain⟨tyn,rfl⟩:=Int.eq_ofNat_of_zero_le ht1.1
    obtain⟨cln,rfl⟩:=Int.eq_ofNat_of_zero_le ht2.1
    have hx:=hI.xl
    obtain⟨N,hN⟩:∃N,N=putN true true X.length nm T1:=⟨_,rfl⟩
    have hNl:N.1.length≤255:=by rw[hN];exact zfy true true X.length T1 hmy
    have hNt:N.2.length≤T1.length+N.1.length:=by rw[hN];exact zi9 true true X.length nm T1
    have HY:=Lib.hid (show quW X.length ⟨nm,(tyn:Int),(cln:Int)⟩ T1=(N.1++(two tyn++two cln),N.2)by rw[hN];rfl)
    obtain⟨Y,hYv⟩:∃Y,Y=N.1++(two tyn++two cln):=⟨_,rfl⟩
    have HYv:=Lib.hid hYv
    have HYl:=Lib.hid (show Y.length=N.1.length+4 by rw[hYv];simp only[List.length_append,zak])
    have HQl:=Lib.hid (zvc hI HS.out Y N.2 (by rw[HY.out,hYv]))
    have HP0:=Lib.hid (fun V (hV:Ext wo V)=>zka X0.heap.size tp T1 X nm true true V (hI.tab.ext hV) (by omega) hI.tl hmy)
    rw[←hN]at HP0;clear hN hYv;have HP1:=Lib.hid (fun V=>zct tyn V (by omega))
    have HP2:=Lib.hid (fun V=>zct cln V (by omega))
    have hu1:IntKind.u64.wrap (tyn:Int)=(tyn:Int):=IntWalk.u64_in _ (by omega)
    have hu2:IntKind.u64.wrap (cln:Int)=(cln:Int):=IntWalk.u64_in _ (by omega)
    have HC:=Lib.hid (fun V (hV:Ext X0 V)=>(show V.cell? ⟨w.heap.size,11,none⟩=some (.slice (some ⟨bk,off,none⟩) m.qs.length qc)∧V.cell? ⟨bk,off+k*3+1,none⟩=some (.int .u16 (tyn:Int))∧V.cell? ⟨bk,off+k*3+2,none⟩=some (.int .u16 (cln:Int))from
     ⟨za0 (j:=11) (K0.out V hV) rfl,(hV.cell (p:=⟨bk,off+k*3+1,none⟩) hbz).trans x1,(hV.cell (p:=⟨bk,off+k*3+2,none⟩) hbz).trans x2⟩))
    have y0:=(hI.ext.cell (p:=⟨bk,off+k*3,none⟩) hbz).trans x0
    clear hc x0 x1 x2;have hki:(k:Int)<(m.qs.length:Int):=by omega
    have hk0:(0:Int)≤(k:Int):=by omega
    go_wp2_with fail;refine(HP0.out _ (Ext.refl wo)).mono ?_;rintro e w5 ⟨rfl,hT5,hB5,hK5⟩;have hE5:Ext X0 w5:=Below.trans hI.ext hB5
    (try dsimp only)
    go_upto_region 12 with fail
    have o0:=zak tyn
    have o1:=zak cln
    have ov1:¬9223372036854775807<X.length+N.1.length+(two tyn).length:=by omega
    have ov2:¬9223372036854775807<X.length+(N.1.length+(two tyn).length)+(two cln).length:=by omega
    clear o0 o1;refine wp_region_noPanic ?_;refine zac (S:=(fun V=>V.cell? ⟨w.heap.size,11,none⟩=some (.slice (some ⟨bk,off,none⟩) m.qs.length qc)∧V.cell? ⟨bk,off+k*3+1,none⟩=some (.int .u16 (tyn:Int))∧V.cell? ⟨bk,off+k*3+2,none⟩=some (.int .u16 (cln:Int)))) (.take 0 (.take 1 (.take 2 (.take 3 (.take 4 (.take 5 (.take 6 (.take 7 (.take 10 (.take 11 (.take 12 (.take 13 (.take 14 (.take 15 (.take 16 (.run 8 (.take 9 (.run 17 (.take 18 (.take 19 (.done))))))))))))))))))))) (by kernel_rfl) (by kernel_rfl) (fun _ _ _ _ _ h=>h) ((HC.out _ (hE5.trans (Ext.refl w5).drew))) ?_
    repeat((with_reducible refine za9 ?_);first
     |(refine za2 (v:=?_) (by rfl) (by rfl) ?_ ?_;rotate_left;(focus(intro V hV;(try dsimp only at hV);(go_simp<;>with_reducible rfl)));(try simp only[ap]))
     |(refine zas (by rfl) (by rfl) ?_;(try simp only[ap])))
    refine za3 (by rfl) (fun K hK=>?_)
    go_simp;refine(HP1.out _).mono ?_;rintro e w6 ⟨rfl,hEq⟩;have hE56:Ext w5 w6:=(Ext.refl w5).drew.trans hEq
    clear hEq;refine hK.out _ _ ?_ ?_
    ·exact(HC.out _ (hE5.trans hE56))
    clear hK K
    (try simp only[ap])
    repeat((with_reducible refine za9 ?_);first
     |(refine za2 (v:=?_) (by rfl) (by rfl) ?_ ?_;rotate_left;(focus(intro V hV;(try dsimp only at hV);(go_simp<;>with_reducible rfl)));(try simp only[ap]))
     |(refine zas (by rfl) (by rfl) ?_;(try simp only[ap])))
    refine za3 (by rfl) (fun K hK=>?_)
    go_simp;refine(HP2.out _).mono ?_;rintro e w7 ⟨rfl,hEq⟩;have hE57:Ext w5 w7:=hE56.trans hEq
    clear hEq;refine hK.out _ _ ?_ ?_
    ·exact(HC.out _ (hE5.trans hE57))
    clear hK K
    (try simp only[ap])
    repeat((with_reducible refine za9 ?_);first
     |(refine za2 (v:=?_) (by rfl) (by rfl) ?_ ?_;rotate_left;(focus(intro V hV;(try dsimp only at hV);(go_simp<;>with_reducible rfl)));(try simp only[ap]))
     |(refine zas (by rfl) (by rfl) ?_;(try simp only[ap])))
    refine zar ?_;refine NoPanic.normal ?_;have hYl:=HYl.out
    by_cases hbig:65535<X.length+Y.length
    ·have HL:=Lib.hid (HLong.out (by have:=HQl.out;have:=HBl.out;omega))
     have hbi:(65535:Int)<(X.length:Int)+(Y.length:Int):=by omega
     obtain⟨Z,hZ⟩:∃Z,Z=X++(N.1++(two tyn++two cln)):=⟨_,rfl⟩
     have hzl:Z.length=X.length+Y.length:=by rw[hZ,hYl];simp only[List.length_append,zak];try omega
     have hzb:(65535:Int)<(Z.length:Int):=by omega
     rw[←hZ];clear hZ hzl hYl;go_wp2_with fail
     go_ret2
     exact⟨by rw[HL.out.1,HL.out.2];rfl,hw0.trans (hE5.trans hE57)⟩
    ·obtain⟨Z,hZ⟩:∃Z,Z=X++(N.1++(two tyn++two cln)):=⟨_,rfl⟩
     have hzl:Z.length=X.length+Y.length:=by rw[hZ,hYl];simp only[List.length_append,zak];try omega
     have hzb:¬(65535:Int)<(Z.length:Int):=by omega
     have HZ:=Lib.hid (show Z=X++Y by rw[hZ,HYv.out])
     have HI2:=Lib.hid (zvd (W:=w7) hI HS.out Y N.2 (by rw[HY.out,HYv.out]) (by omega) (hT5.ext hE57) (by have:=hI.tl;omega) (hE5.trans hE57))
     rw[←hZ];clear hZ hzl hYl;go_wp2_with fail;go_roundw
     case rel=>exact⟨k+1,X++Y,N.2,by omega,by go_num,by rw[HZ.out],HI2.out⟩
     case measure=>simp[intOf];omega
   ·obtain rfl:k=m.qs.length:=by omega
    have HF:=Lib.hid (show Hd++Q.1=X∧Q.2=T1 by
     have h:=hI.eq
     rw[List.drop_length]at h;simp only[zal,List.append_nil]at h;injection h with h1 h2
     exact⟨h1,h2⟩)
    have k12:=za0 (j:=12) (K0.out wo hI.ext) rfl
    have k13:=za0 (j:=13) (K0.out wo hI.ext) rfl
    have k14:=za0 (j:=14) (K0.out wo hI.ext) rfl
    have hki:¬((m.qs.length:Int)<(m.qs.length:Int)):=by omega
    go_upto_region 16 with fail
    obtain⟨W3,hW3⟩:∃W3,W3=wo.alloc (.cells #[.slice aA m.ans.length ac,.slice uA m.auth.length uc,.slice xA m.extra.length xc] 40):=⟨_,rfl⟩
    obtain⟨g9,hg9⟩:∃g9,g9=wo.heap.size:=⟨_,rfl⟩
    have hE3:Ext wo W3:=by rw[hW3];exact(Ext.refl _).alloc _
    have hr9:W3.heap[g9]? =some (.cells ([.slice aA m.ans.length ac,.slice uA m.auth.length uc,.slice xA m.extra.length xc]:List Value).toArray 40):=by rw[hW3,hg9];exact heap_alloc_new _ _
    have hne9:g9≠tp:=by have:=hI.tab.lt;omega
    have hI3:ReI BB [m.ans,m.auth,m.extra] X0 tp g9 [.slice aA m.ans.length ac,.slice uA m.auth.length uc,.slice xA m.extra.length xc] 0 X T1 W3:=⟨hI.xl,hI.tab.ext hE3,hI.tl,by have h:=HR0.out;rw[HF.out.1,HF.out.2]at h;exact h,hI.ext.trans hE3,hr9⟩
    rw[←hW3,←hg9];have HL3:=Lib.hid (fun(i:Nat) (hi:i<3)=>(show ∃(v:Value) (l:List RecD),([m.ans,m.auth,m.extra]:List (List RecD))[i]? =some l∧([.slice aA m.ans.length ac,.slice uA m.auth.length uc,.slice xA m.extra.length xc]:List Value)[i]? =some v∧Recs w 0 v l∧l.all zae=true∧(∀r∈l,r.wf∧r.data.length≤100000)from match i,hi with
     |0,_=>⟨_,_,rfl,rfl,H.out.ans,HB5.out,fun r hr=>⟨Hwf.out.ans r hr,hda r (by simp[hr])⟩⟩
     |1,_=>⟨_,_,rfl,rfl,H.out.auth,HB6.out,fun r hr=>⟨Hwf.out.auth r hr,hda r (by simp[hr])⟩⟩
     |2,_=>⟨_,_,rfl,rfl,H.out.extra,HB7.out,fun r hr=>⟨Hwf.out.extra r hr,hda r (by simp[hr])⟩⟩
     |n+3,h=>absurd h (by omega)))
    clear hW3 hg9 hI k11 k12 k13 k14 HF hE3 hr9;generalize hrow:([.slice aA m.ans.length ac,.slice uA m.auth.length uc,.slice xA m.extra.length xc]:List Value)=row at hI3 HL3;clear hrow;have HLs:=Lib.hid (show([m.ans,m.auth,m.extra]:List (List RecD)).length=3 from rfl)
    generalize hLs:([m.ans,m.auth,m.extra]:List (List RecD))=Ls at hI3 HL3 HLs;clear hLs HR0;go_wp2_with fail
    go_loopw [5,10] (fun s5 s10 wr=>∃(i:Nat) (X:List UInt8) (T1:Tab),i≤3∧s10=.int .i64 i∧s5=S X∧ReI BB Ls X0 tp g9 row i X T1 wr) (fun _ s10 _=>3 - (intOf s10).toNat)
    case atStart=>exact⟨0,X,T1,Nat.zero_le _,rfl,rfl,hI3⟩
    case round=>
     clear hI3;obtain⟨i,X2,T2,hi3,rfl,rfl,hI2⟩:=hrel
     obtain⟨wp,rfl⟩:∃wp:World,wp=wr:=⟨_,rfl⟩
     by_cases hlt3:i<3
     ·obtain⟨v,l,hl1,hv1,hv2,hv3,hv4⟩:=HL3.out i hlt3
      have hx:=hI2.xl
      have HSl:=Lib.hid (show Ls.drop i=l::Ls.drop (i+1)by
       obtain⟨h1,h2⟩:=List.getElem?_eq_some_iff.1 hl1
       rw[←h2];exact List.drop_eq_getElem_cons h1)
      have c9:wp.cell? ⟨g9,i,none⟩=some v:=za0 hI2.row (by simpa using hv1)
      have HP:=Lib.hid (fun V (hV:Ext wp V)=>zss X0 tp T2 X2 v l V (hv2.ext hw0) (hI2.ext.trans hV) (hI2.tab.ext hV) hx hI2.tl hv3 hv4)
      clear hl1 hv1 hv2 hv3 hv4;have hki3:(i:Int)<3:=by omega
      have hk03:(0:Int)≤(i:Int):=by omega
      go_wp2_with fail;refine(HP.out _ (Ext.refl wp)).mono ?_;rintro e w6 ⟨⟨hle,rfl,hT6,htl6⟩|⟨hlong,rfl⟩,hE6,hK6⟩
      ·have HI4:=Lib.hid (zvi (W:=w6) hI2 HSl.out hle hT6 htl6 hE6 hK6 hne9)
       go_wp2_with fail;go_roundw
       case rel=>exact⟨i+1,_,_,by omega,by go_num,rfl,HI4.out⟩
       case measure=>simp[intOf];omega
      ·have HL:=Lib.hid (HLong.out (by have:=zvh hI2 HSl.out;have:=HBl.out.2;dsimp only at hlong;omega))
       go_wp2_with fail
       go_ret2
       exact⟨by rw[HL.out.1,HL.out.2];rfl,hw0.trans hE6⟩
     ·obtain rfl:i=3:=by omega
      have HF3:=Lib.hid (show BB=X2 by
       have h:=hI2.eq
       rw[List.drop_of_length_le (by rw[HLs.out];exact Nat.le_refl _)]at h
       simpa[zal]using h)
      have k15:=za0 (j:=15) (K0.out wp hI2.ext) rfl
      rw[He.out]at k15;have hszl:=Hwf.out.size
      obtain⟨szn,hsz⟩:=Int.eq_ofNat_of_zero_le hszl.1
      have Hsz:=Lib.hid hsz
      have hsz2:szn≤65535:=by omega
      clear hsz;have hex:=Hwf.out.ext
      have hve:=Hwf.out.ver
      have hfl:=Hwf.out.flags
      have HE6:=Lib.hid (fun V (hV:Ext w V)=>zxb m.ed _ V (H.out.opts.ext hV) hex hve hfl Hwf.out.opts)
      have httl:zd4 m.ed<4294967296:=by unfold zd4;omega
      go_wp2_with(first|(refine zaw (by rfl) 43 (.tmp 115) rfl w.heap.size 16 rfl [.int .u16 m.ed.size,.int .u8 m.ed.ext,.int .u8 m.ed.ver,.int .u16 m.ed.flags,.slice oA m.ed.opts.length oc] (zcy (K0.out wp hI2.ext) 16 5) _ Tryz.underlying43 rfl (by kernel_rfl) ?_)|fail)
      refine(HE6.out _ (hw0.trans hI2.ext)).mono ?_;rintro e w8 ⟨⟨hlong,rfl⟩|⟨hnl,rfl⟩,hE8⟩
      ·have HL:=Lib.hid (HLong.out (by rw[HBd.out,List.length_append];have h1:(zfg m.ed).length≤(zg8 m.ed).length:=by unfold zg8;simp only[List.length_append];omega
                                       omega))
       go_wp2_with fail
       go_ret2
       exact⟨by rw[HL.out.1,HL.out.2];rfl,(hw0.trans hI2.ext).trans hE8⟩
      ·obtain⟨ow,how⟩:∃ow,ow=zfg m.ed:=⟨_,rfl⟩
       obtain⟨tl,htl⟩:∃tl,tl=zd4 m.ed:=⟨_,rfl⟩
       rw[←how]at hnl ⊢;rw[←htl]at httl ⊢;have HEw:=Lib.hid (show zg8 m.ed=[0]++two 41++two szn++zdt tl++two ow.length++ow by rw[how,htl];unfold zg8;rw[Hsz.out,Int.toNat_natCast])
       clear how htl;have HQ1:=Lib.hid (fun V=>(show Calls Tryz.prog 117 #[.int .u64 41,.int .i64 2] V fun e w'=>e=.returned (S (two 41))∧Ext V w' from zct 41 V (by omega)))
       have HQ2:=Lib.hid (fun V=>zct szn V (by omega))
       rw[←Hsz.out]at HQ2;have HQ4:=Lib.hid (fun V=>zqh tl V httl)
       have HQ5:=Lib.hid (fun V=>zct ow.length V (by omega))
       have hu1:IntKind.u64.wrap m.ed.size=m.ed.size:=IntWalk.u64_in _ (by omega)
       have hu2:IntKind.u64.wrap (tl:Int)=(tl:Int):=IntWalk.u64_in _ (by omega)
       have hu3:IntKind.u64.wrap (ow.length:Int)=(ow.length:Int):=IntWalk.u64_in _ (by omega)
       have hx2:=hI2.xl
       have how:ow.length≤65535:=by omega
       have o0:=zak 41
       have o1:=zak szn
       have o2:=zfx tl
       have o3:=zak ow.length
       go_upto_region 27 with fail
       have o4:([0]:List UInt8).length=1:=rfl
       have ov0:¬9223372036854775807<X2.length+1:=by omega
       have ov1:¬9223372036854775807<X2.length+1+(two 41).length:=by omega
       have ov2:¬9223372036854775807<X2.length+((two 41).length+1)+(two szn).length:=by omega
       have ov3:¬9223372036854775807<X2.length+((two 41).length+(two szn).length+1)+(zdt tl).length:=by omega
       have ov4:¬9223372036854775807<X2.length+((two 41).length+((two szn).length+(zdt tl).length)+1)+(two ow.length).length:=by omega
       clear o4;go_wp2_with fail;refine(HQ1.out _).mono ?_;rintro e y1 ⟨rfl,hF1⟩;go_wp2_with fail;refine(HQ2.out _).mono ?_;rintro e y2 ⟨rfl,hF2⟩;go_wp2_with fail;refine(HQ4.out _).mono ?_;rintro e y3 ⟨rfl,hF3⟩;go_wp2_with fail;refine(HQ5.out _).mono ?_;rintro e y4 ⟨rfl,hF4⟩;go_upto_region 28 with fail
       obtain⟨Z,hZ⟩:∃Z,Z=X2++0::(two 41++(two szn++(zdt tl++(two ow.length++ow)))):=⟨_,rfl⟩
       have HZb:=Lib.hid (show(zbg m).1=Z by rw[HBd.out,HF3.out,HEw.out,hZ];simp only[List.append_assoc,List.cons_append,List.nil_append])
       rw[←hZ];clear hZ ov0 ov1 ov2 ov3 ov4 o0 o1 o2 o3;by_cases hbig:65535<Z.length
       ·have hbi:(65535:Int)<(Z.length:Int):=by omega
        have HL:=Lib.hid (HLong.out (by rw[HZb.out];exact hbig))
        go_wp2_with fail
        go_ret2
        exact⟨by rw[HL.out.1,HL.out.2];rfl,(hw0.trans hI2.ext).trans (hE8.trans (hF1.trans (hF2.trans (hF3.trans hF4))))⟩
       ·have hbi:¬(65535:Int)<(Z.length:Int):=by omega
        have HOo:=Lib.hid (HOk.out (by rw[HZb.out];exact hbig))
        go_wp2_with fail
        go_ret2
        exact⟨by rw[HOo.out.1,HOo.out.2,HZb.out];rfl,(hw0.trans hI2.ext).trans (hE8.trans (hF1.trans (hF2.trans (hF3.trans hF4))))⟩
 ·have He:=Lib.hid (show m.he=false by simpa using het)
  clear het;have hx65:m.extra.length+0≤65535:=by have:=c4;rw[He.out]at this;simpa using this
  clear c4;have HHd:=Lib.hid (zs0 m (m.extra.length+0) (by rw[He.out];rfl))
  have HW3:=Lib.hid (fun V=>zo9 m.hd m.qs.length m.ans.length m.auth.length (m.extra.length+0) V b1 Hwf.out.id Hwf.out.op Hwf.out.code c1 c2 c3 hx65)
  rw[HHd.out]at HW3;obtain⟨Hd,hHd⟩:∃Hd,Hd=zfq m:=⟨_,rfl⟩
  rw[←hHd]at HW3;have hHl:Hd.length=12:=by rw[hHd];exact znd m
  obtain⟨Q,hQ⟩:∃Q,Q=zal quW 12 m.qs []:=⟨_,rfl⟩
  obtain⟨RR,hRR⟩:∃RR,RR=(zal zbf (12+Q.1.length) (m.ans++m.auth++m.extra) Q.2).1:=⟨_,rfl⟩
  obtain⟨BB,hBB⟩:∃BB,BB=Hd++Q.1++RR:=⟨_,rfl⟩
  have HBd:=Lib.hid (show(zbg m).1=BB++[]by rw[hBB,hHd,hRR,hQ];unfold zbg;dsimp only;rw[He.out];rfl)
  have HBl:=Lib.hid (show(Hd++Q.1).length≤(zbg m).1.length∧BB.length≤(zbg m).1.length by rw[HBd.out,hBB];simp only[List.length_append];omega)
  have HQ0:=Lib.hid (show(Hd++Q.1,Q.2)=(Hd++(zal quW Hd.length (m.qs.drop 0) []).1,(zal quW Hd.length (m.qs.drop 0) []).2)by rw[hHl,hQ];rfl)
  have HR0:=Lib.hid (show BB=(Hd++Q.1)++(zal zbf (Hd++Q.1).length (([m.ans,m.auth,m.extra]:List (List RecD)).drop 0).flatten Q.2).1 by
   rw[hBB,List.length_append,hHl,hRR];simp)
  have Hhl:=Lib.hid hHl
  clear hHd hQ hRR hHl HHd hBB;go_enter Tryz.func56,Tryz.ntmps56;go_upto_region 1 with fail
  have hzz:w.alloc (.cells #[.int .u16 m.hd.id,.bool m.hd.qr,.int .u8 m.hd.op,.bool m.hd.aa,.bool m.hd.tc,.bool m.hd.rd,.bool m.hd.ra,.bool m.hd.z,.bool m.hd.ad,.bool m.hd.cd,.int .u8 m.hd.code,.slice qA m.qs.length qc,.slice aA m.ans.length ac,.slice uA m.auth.length uc,.slice xA m.extra.length xc,.bool m.he,.int .u16 m.ed.size,.int .u8 m.ed.ext,.int .u8 m.ed.ver,.int .u16 m.ed.flags,.slice oA m.ed.opts.length oc] 45)=X0:=hX0.symm
  rw[hzz];clear hzz hX0;go_wp2_with(first|(refine zaw (by rfl) 45 (.tmp 1) rfl w.heap.size 0 rfl [.int .u16 m.hd.id,.bool m.hd.qr,.int .u8 m.hd.op,.bool m.hd.aa,.bool m.hd.tc,.bool m.hd.rd,.bool m.hd.ra,.bool m.hd.z,.bool m.hd.ad,.bool m.hd.cd,.int .u8 m.hd.code,.slice qA m.qs.length qc,.slice aA m.ans.length ac,.slice uA m.auth.length uc,.slice xA m.extra.length xc,.bool m.he,.int .u16 m.ed.size,.int .u8 m.ed.ext,.int .u8 m.ed.ver,.int .u16 m.ed.flags,.slice oA m.ed.opts.length oc] (zeu r0) _ Tryz.underlying45 rfl (by kernel_rfl) ?_)|fail)
  refine(HMa.out _ hw0).mono ?_;rintro e w1 ⟨rfl,hE1⟩;have r01:=K0.out w1 hE1
  have k15:=za0 (j:=15) r01 rfl
  have k11:=za0 (j:=11) r01 rfl
  have k12:=za0 (j:=12) r01 rfl
  have k13:=za0 (j:=13) r01 rfl
  have k14:=za0 (j:=14) r01 rfl
  rw[He.out]at k15;have hxi:(m.extra.length:Int)+0≤65535:=by omega
  go_wp2_with(first|(refine zaw (by rfl) 30 (.tmp 23) rfl w.heap.size 0 rfl [.int .u16 m.hd.id,.bool m.hd.qr,.int .u8 m.hd.op,.bool m.hd.aa,.bool m.hd.tc,.bool m.hd.rd,.bool m.hd.ra,.bool m.hd.z,.bool m.hd.ad,.bool m.hd.cd,.int .u8 m.hd.code] (zcy r01 0 11) _ Tryz.underlying30 rfl (by kernel_rfl) ?_)|fail)
  refine(HW3.out _).mono ?_;rintro e w2 ⟨rfl,hE2⟩;have hE12:Ext X0 w2:=hE1.trans hE2
  obtain⟨W2,hW2⟩:∃W2,W2=w2.alloc (.cells #[.slice none 0 0] 206):=⟨_,rfl⟩
  obtain⟨tp,htp⟩:∃tp,tp=w2.heap.size:=⟨_,rfl⟩
  have hT0:TabR W2 X0.heap.size tp []:=by rw[hW2,htp];exact zt8 w2 X0.heap.size hE12.size
  have hEW2:Ext X0 W2:=by rw[hW2];exact hE12.alloc _
  have hI0:QeI (Hd++Q.1) Q.2 m.qs X0 tp 0 Hd [] W2:=⟨by rw[Hhl.out];omega,hT0,Nat.zero_le _,HQ0.out,hEW2⟩
  clear k11 k12 k13 k14 k15 r01 HQ0 hT0;go_upto_region 8 with fail
  rw[←hW2,←htp];clear hW2 htp;go_wp2_with fail
  go_loopw [5,8] (fun s5 s8 wr=>∃(k:Nat) (X:List UInt8) (T1:Tab),k≤m.qs.length∧s8=.int .i64 k∧s5=S X∧QeI (Hd++Q.1) Q.2 m.qs X0 tp k X T1 wr) (fun _ s8 _=>m.qs.length - (intOf s8).toNat)
  case atStart=>exact⟨0,Hd,[],Nat.zero_le _,rfl,rfl,hI0⟩
  case round=>
   clear hI0;obtain⟨k,X,T1,hk,rfl,rfl,hI⟩:=hrel
   obtain⟨wo,rfl⟩:∃wo:World,wo=wr:=⟨_,rfl⟩
   have k11:=za0 (j:=11) (K0.out wo hI.ext) rfl
   by_cases hlt:k<m.qs.length
   ·obtain⟨bk,off,rfl,_,hbz,hc⟩:=(hqr.ext hw0).2 (by omega)
    obtain⟨x0,x1,x2⟩:=zdy hc k m.qs[k] (List.getElem?_eq_getElem hlt)
    have HS:=Lib.hid (show m.qs.drop k=m.qs[k]::m.qs.drop (k+1)from List.drop_eq_getElem_cons hlt)
    have hmy:may m.qs[k].name=true:=HB4.out _ (List.getElem_mem hlt)
    have hqw:=Hwf.out.qs _ (List.getElem_mem hlt)
    generalize m.qs[k]=qq at*;obtain⟨nm,ty,cl⟩:=qq
    obtain⟨ht1,ht2⟩:=hqw
    dsimp only at*;obtain⟨tyn,rfl⟩:=Int.eq_ofNat_of_zero_le ht1.1
    obtain⟨cln,rfl⟩:=Int.eq_ofNat_of_zero_le ht2.1
    have hx:=hI.xl
    obtain⟨N,hN⟩:∃N,N=putN true true X.length nm T1:=⟨_,rfl⟩
    have hNl:N.1.length≤255:=by rw[hN];exact zfy true true X.length T1 hmy
    have hNt:N.2.length≤T1.length+N.1.length:=by rw[hN];exact zi9 true true X.length nm T1
    have HY:=Lib.hid (show quW X.length ⟨nm,(tyn:Int),(cln:Int)⟩ T1=(N.1++(two tyn++two cln),N.2)by rw[hN];rfl)
    obtain⟨Y,hYv⟩:∃Y,Y=N.1++(two tyn++two cln):=⟨_,rfl⟩
    have HYv:=Lib.hid hYv
    have HYl:=Lib.hid (show Y.length=N.1.length+4 by rw[hYv];simp only[List.length_append,zak])
    have HQl:=Lib.hid (zvc hI HS.out Y N.2 (by rw[HY.out,hYv]))
    have HP0:=Lib.hid (fun V (hV:Ext wo V)=>zka X0.heap.size tp T1 X nm true true V (hI.tab.ext hV) (by omega) hI.tl hmy)
    rw[←hN]at HP0;clear hN hYv;have HP1:=Lib.hid (fun V=>zct tyn V (by omega))
    have HP2:=Lib.hid (fun V=>zct cln V (by omega))
    have hu1:IntKind.u64.wrap (tyn:Int)=(tyn:Int):=IntWalk.u64_in _ (by omega)
    have hu2:IntKind.u64.wrap (cln:Int)=(cln:Int):=IntWalk.u64_in _ (by omega)
    have HC:=Lib.hid (fun V (hV:Ext X0 V)=>(show V.cell? ⟨w.heap.size,11,none⟩=some (.slice (some ⟨bk,off,none⟩) m.qs.length qc)∧V.cell? ⟨bk,off+k*3+1,none⟩=some (.int .u16 (tyn:Int))∧V.cell? ⟨bk,off+k*3+2,none⟩=some (.int .u16 (cln:Int))from
     ⟨za0 (j:=11) (K0.out V hV) rfl,(hV.cell (p:=⟨bk,off+k*3+1,none⟩) hbz).trans x1,(hV.cell (p:=⟨bk,off+k*3+2,none⟩) hbz).trans x2⟩))
    have y0:=(hI.ext.cell (p:=⟨bk,off+k*3,none⟩) hbz).trans x0
    clear hc x0 x1 x2;have hki:(k:Int)<(m.qs.length:Int):=by omega
    have hk0:(0:Int)≤(k:Int):=by omega
    go_wp2_with fail;refine(HP0.out _ (Ext.refl wo)).mono ?_;rintro e w5 ⟨rfl,hT5,hB5,hK5⟩;have hE5:Ext X0 w5:=Below.trans hI.ext hB5
    (try dsimp only)
    go_upto_region 12 with fail
    have o0:=zak tyn
    have o1:=zak cln
    have ov1:¬9223372036854775807<X.length+N.1.length+(two tyn).length:=by omega
    have ov2:¬9223372036854775807<X.length+(N.1.length+(two tyn).length)+(two cln).length:=by omega
    clear o0 o1;refine wp_region_noPanic ?_;refine zac (S:=(fun V=>V.cell? ⟨w.heap.size,11,none⟩=some (.slice (some ⟨bk,off,none⟩) m.qs.length qc)∧V.cell? ⟨bk,off+k*3+1,none⟩=some (.int .u16 (tyn:Int))∧V.cell? ⟨bk,off+k*3+2,none⟩=some (.int .u16 (cln:Int)))) (.take 0 (.take 1 (.take 2 (.take 3 (.take 4 (.take 5 (.take 6 (.take 7 (.take 10 (.take 11 (.take 12 (.take 13 (.take 14 (.take 15 (.take 16 (.run 8 (.take 9 (.run 17 (.take 18 (.take 19 (.done))))))))))))))))))))) (by kernel_rfl) (by kernel_rfl) (fun _ _ _ _ _ h=>h) ((HC.out _ (hE5.trans (Ext.refl w5).drew))) ?_
    repeat((with_reducible refine za9 ?_);first
     |(refine za2 (v:=?_) (by rfl) (by rfl) ?_ ?_;rotate_left;(focus(intro V hV;(try dsimp only at hV);(go_simp<;>with_reducible rfl)));(try simp only[ap]))
     |(refine zas (by rfl) (by rfl) ?_;(try simp only[ap])))
    refine za3 (by rfl) (fun K hK=>?_)
    go_simp;refine(HP1.out _).mono ?_;rintro e w6 ⟨rfl,hEq⟩;have hE56:Ext w5 w6:=(Ext.refl w5).drew.trans hEq
    clear hEq;refine hK.out _ _ ?_ ?_
    ·exact(HC.out _ (hE5.trans hE56))
    clear hK K
    (try simp only[ap])
    repeat((with_reducible refine za9 ?_);first
     |(refine za2 (v:=?_) (by rfl) (by rfl) ?_ ?_;rotate_left;(focus(intro V hV;(try dsimp only at hV);(go_simp<;>with_reducible rfl)));(try simp only[ap]))
     |(refine zas (by rfl) (by rfl) ?_;(try simp only[ap])))
    refine za3 (by rfl) (fun K hK=>?_)
    go_simp;refine(HP2.out _).mono ?_;rintro e w7 ⟨rfl,hEq⟩;have hE57:Ext w5 w7:=hE56.trans hEq
    clear hEq;refine hK.out _ _ ?_ ?_
    ·exact(HC.out _ (hE5.trans hE57))
    clear hK K
    (try simp only[ap])
    repeat((with_reducible refine za9 ?_);first
     |(refine za2 (v:=?_) (by rfl) (by rfl) ?_ ?_;rotate_left;(focus(intro V hV;(try dsimp only at hV);(go_simp<;>with_reducible rfl)));(try simp only[ap]))
     |(refine zas (by rfl) (by rfl) ?_;(try simp only[ap])))
    refine zar ?_;refine NoPanic.normal ?_;have hYl:=HYl.out
    by_cases hbig:65535<X.length+Y.length
    ·have HL:=Lib.hid (HLong.out (by have:=HQl.out;have:=HBl.out;omega))
     have hbi:(65535:Int)<(X.length:Int)+(Y.length:Int):=by omega
     obtain⟨Z,hZ⟩:∃Z,Z=X++(N.1++(two tyn++two cln)):=⟨_,rfl⟩
     have hzl:Z.length=X.length+Y.length:=by rw[hZ,hYl];simp only[List.length_append,zak];try omega
     have hzb:(65535:Int)<(Z.length:Int):=by omega
     rw[←hZ];clear hZ hzl hYl;go_wp2_with fail
     go_ret2
     exact⟨by rw[HL.out.1,HL.out.2];rfl,hw0.trans (hE5.trans hE57)⟩
    ·obtain⟨Z,hZ⟩:∃Z,Z=X++(N.1++(two tyn++two cln)):=⟨_,rfl⟩
     have hzl:Z.length=X.length+Y.length:=by rw[hZ,hYl];simp only[List.length_append,zak];try omega
     have hzb:¬(65535:Int)<(Z.length:Int):=by omega
     have HZ:=Lib.hid (show Z=X++Y by rw[hZ,HYv.out])
     have HI2:=Lib.hid (zvd (W:=w7) hI HS.out Y N.2 (by rw[HY.out,HYv.out]) (by omega) (hT5.ext hE57) (by have:=hI.tl;omega) (hE5.trans hE57))
     rw[←hZ];clear hZ hzl hYl;go_wp2_with fail;go_roundw
     case rel=>exact⟨k+1,X++Y,N.2,by omega,by go_num,by rw[HZ.out],HI2.out⟩
     case measure=>simp[intOf];omega
   ·obtain rfl:k=m.qs.length:=by omega
    have HF:=Lib.hid (show Hd++Q.1=X∧Q.2=T1 by
     have h:=hI.eq
     rw[List.drop_length]at h;simp only[zal,List.append_nil]at h;injection h with h1 h2
     exact⟨h1,h2⟩)
    have k12:=za0 (j:=12) (K0.out wo hI.ext) rfl
    have k13:=za0 (j:=13) (K0.out wo hI.ext) rfl
    have k14:=za0 (j:=14) (K0.out wo hI.ext) rfl
    have hki:¬((m.qs.length:Int)<(m.qs.length:Int)):=by omega
    go_upto_region 16 with fail
    obtain⟨W3,hW3⟩:∃W3,W3=wo.alloc (.cells #[.slice aA m.ans.length ac,.slice uA m.auth.length uc,.slice xA m.extra.length xc] 40):=⟨_,rfl⟩
    obtain⟨g9,hg9⟩:∃g9,g9=wo.heap.size:=⟨_,rfl⟩
    have hE3:Ext wo W3:=by rw[hW3];exact(Ext.refl _).alloc _
    have hr9:W3.heap[g9]? =some (.cells ([.slice aA m.ans.length ac,.slice uA m.auth.length uc,.slice xA m.extra.length xc]:List Value).toArray 40):=by rw[hW3,hg9];exact heap_alloc_new _ _
    have hne9:g9≠tp:=by have:=hI.tab.lt;omega
    have hI3:ReI BB [m.ans,m.auth,m.extra] X0 tp g9 [.slice aA m.ans.length ac,.slice uA m.auth.length uc,.slice xA m.extra.length xc] 0 X T1 W3:=⟨hI.xl,hI.tab.ext hE3,hI.tl,by have h:=HR0.out;rw[HF.out.1,HF.out.2]at h;exact h,hI.ext.trans hE3,hr9⟩
    rw[←hW3,←hg9];have HL3:=Lib.hid (fun(i:Nat) (hi:i<3)=>(show ∃(v:Value) (l:List RecD),([m.ans,m.auth,m.extra]:List (List RecD))[i]? =some l∧([.slice aA m.ans.length ac,.slice uA m.auth.length uc,.slice xA m.extra.length xc]:List Value)[i]? =some v∧Recs w 0 v l∧l.all zae=true∧(∀r∈l,r.wf∧r.data.length≤100000)from match i,hi with
     |0,_=>⟨_,_,rfl,rfl,H.out.ans,HB5.out,fun r hr=>⟨Hwf.out.ans r hr,hda r (by simp[hr])⟩⟩
     |1,_=>⟨_,_,rfl,rfl,H.out.auth,HB6.out,fun r hr=>⟨Hwf.out.auth r hr,hda r (by simp[hr])⟩⟩
     |2,_=>⟨_,_,rfl,rfl,H.out.extra,HB7.out,fun r hr=>⟨Hwf.out.extra r hr,hda r (by simp[hr])⟩⟩
     |n+3,h=>absurd h (by omega)))
    clear hW3 hg9 hI k11 k12 k13 k14 HF hE3 hr9;generalize hrow:([.slice aA m.ans.length ac,.slice uA m.auth.length uc,.slice xA m.extra.length xc]:List Value)=row at hI3 HL3;clear hrow;have HLs:=Lib.hid (show([m.ans,m.auth,m.extra]:List (List RecD)).length=3 from rfl)
    generalize hLs:([m.ans,m.auth,m.extra]:List (List RecD))=Ls at hI3 HL3 HLs;clear hLs HR0;go_wp2_with fail
    go_loopw [5,10] (fun s5 s10 wr=>∃(i:Nat) (X:List UInt8) (T1:Tab),i≤3∧s10=.int .i64 i∧s5=S X∧ReI BB Ls X0 tp g9 row i X T1 wr) (fun _ s10 _=>3 - (intOf s10).toNat)
    case atStart=>exact⟨0,X,T1,Nat.zero_le _,rfl,rfl,hI3⟩
    case round=>
     clear hI3;obtain⟨i,X2,T2,hi3,rfl,rfl,hI2⟩:=hrel
     obtain⟨wp,rfl⟩:∃wp:World,wp=wr:=⟨_,rfl⟩
     by_cases hlt3:i<3
     ·obtain⟨v,l,hl1,hv1,hv2,hv3,hv4⟩:=HL3.out i hlt3
      have hx:=hI2.xl
      have HSl:=Lib.hid (show Ls.drop i=l::Ls.drop (i+1)by
       obtain⟨h1,h2⟩:=List.getElem?_eq_some_iff.1 hl1
       rw[←h2];exact List.drop_eq_getElem_cons h1)
      have c9:wp.cell? ⟨g9,i,none⟩=some v:=za0 hI2.row (by simpa using hv1)
      have HP:=Lib.hid (fun V (hV:Ext wp V)=>zss X0 tp T2 X2 v l V (hv2.ext hw0) (hI2.ext.trans hV) (hI2.tab.ext hV) hx hI2.tl hv3 hv4)
      clear hl1 hv1 hv2 hv3 hv4;have hki3:(i:Int)<3:=by omega
      have hk03:(0:Int)≤(i:Int):=by omega
      go_wp2_with fail;refine(HP.out _ (Ext.refl wp)).mono ?_;rintro e w6 ⟨⟨hle,rfl,hT6,htl6⟩|⟨hlong,rfl⟩,hE6,hK6⟩
      ·have HI4:=Lib.hid (zvi (W:=w6) hI2 HSl.out hle hT6 htl6 hE6 hK6 hne9)
       go_wp2_with fail;go_roundw
       case rel=>exact⟨i+1,_,_,by omega,by go_num,rfl,HI4.out⟩
       case measure=>simp[intOf];omega
      ·have HL:=Lib.hid (HLong.out (by have:=zvh hI2 HSl.out;have:=HBl.out.2;dsimp only at hlong;omega))
       go_wp2_with fail
       go_ret2
       exact⟨by rw[HL.out.1,HL.out.2];rfl,hw0.trans hE6⟩
     ·obtain rfl:i=3:=by omega
      have HF3:=Lib.hid (show BB=X2 by
       have h:=hI2.eq
       rw[List.drop_of_length_le (by rw[HLs.out];exact Nat.le_refl _)]at h
       simpa[zal]using h)
      have k15:=za0 (j:=15) (K0.out wp hI2.ext) rfl
      rw[He.out]at k15;have hki3:¬((3:Int)<3):=by omega
      have hxb:¬(65535:Int)<(X2.length:Int):=by have:=hI2.xl;omega
      have HOo:=Lib.hid (HOk.out (by rw[HBd.out,HF3.out,List.append_nil];have:=hI2.xl;omega))
      go_wp2_with fail
      go_ret2
      exact⟨by rw[HOo.out.1,HOo.out.2,HBd.out,HF3.out,List.append_nil];rfl,hw0.trans hI2.ext⟩
end Go.Proofs.YtdnpmapelmjfpaaGreatDoor
