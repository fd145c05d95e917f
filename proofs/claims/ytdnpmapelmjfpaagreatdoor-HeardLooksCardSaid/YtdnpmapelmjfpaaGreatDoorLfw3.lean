/- Lemmas of this claim. No condition. -/
import Derived.Test.YtdnpmapelmjfpaaGreatDoorLfw2
set_option maxHeartbeats 8000000
set_option maxRecDepth 100000
namespace Go.Proofs.YtdnpmapelmjfpaaGreatDoor
open Go.RowKit
def znt (m:MsgD) (w:World) (e:Ending) (w':World):Prop:=e=.returned (.bool (zcj m))∧Ext w w'
theorem zDt (m:MsgD) (q a u x o:Value) (w:World) (h:Msg7 w m q a u x o):
 Calls Tryz.prog 114 #[zfd m.hd q a u x m.he m.ed o] w (znt m w):=by
 have H:=Z7 h
 obtain⟨⟨qA,qc,rfl,dx,eS,fT⟩,⟨aA,ac,rfl,_,_,_⟩,⟨uA,uc,rfl,_,_,_⟩,⟨xA,xc,rfl,i6,gY,_⟩,⟨oA,oc,rfl,_,_,_⟩,rD,_,_,_,_⟩:=h
 unfold maxLen at eS gY;obtain⟨X0,ar⟩:∃X0,X0=w.alloc (.cells #[.int .u16 m.hd.id,.bool m.hd.qr,.int .u8 m.hd.op,.bool m.hd.aa,.bool m.hd.tc,.bool m.hd.rd,.bool m.hd.ra,.bool m.hd.z,.bool m.hd.ad,.bool m.hd.cd,.int .u8 m.hd.code,.slice qA m.qs.length qc,.slice aA m.ans.length ac,.slice uA m.auth.length uc,.slice xA m.extra.length xc,.bool m.he,.int .u16 m.ed.size,.int .u8 m.ed.ext,.int .u8 m.ed.ver,.int .u16 m.ed.flags,.slice oA m.ed.opts.length oc] 45):=⟨_,rfl⟩
 have aP:Ext w X0:=by rw[ar];exact(Z5 _).alloc _
 have r0:X0.heap[w.heap.size]? =some (.cells #[.int .u16 m.hd.id,.bool m.hd.qr,.int .u8 m.hd.op,.bool m.hd.aa,.bool m.hd.tc,.bool m.hd.rd,.bool m.hd.ra,.bool m.hd.z,.bool m.hd.ad,.bool m.hd.cd,.int .u8 m.hd.code,.slice qA m.qs.length qc,.slice aA m.ans.length ac,.slice uA m.auth.length uc,.slice xA m.extra.length xc,.bool m.he,.int .u16 m.ed.size,.int .u8 m.ed.ext,.int .u8 m.ed.ver,.int .u16 m.ed.flags,.slice oA m.ed.opts.length oc] 45):=by rw[ar];exact heap_alloc_new w _
 have K0:=Z7 (fun V (hV:Ext X0 V)=>Z8 hV r0)
 have HS:=Z7 (fun V (hV:Ext w V)=>zyo m.ed _ V (H.out.opts.ext hV))
 have HA:=Z7 (fun V (hV:Ext w V)=>zmd _ m.ans V (H.out.ans.ext hV) H.out.aok)
 have HU:=Z7 (fun V (hV:Ext w V)=>zmd _ m.auth V (H.out.auth.ext hV) H.out.uok)
 have HX:=Z7 (fun V (hV:Ext w V)=>zmd _ m.extra V (H.out.extra.ext hV) H.out.xok)
 have tg:zdy m.hd=decide (m.hd.op≤15∧m.hd.code≤15):=rfl
 have gb:zcj m=(zdy m.hd&&(m.he||zcd m.ed)&&decide (m.qs.length≤65535∧m.ans.length≤65535∧m.auth.length≤65535∧m.extra.length+(if m.he then 1 else 0)≤65535)&&m.qs.all (fun q=>may q.name)&&m.ans.all zac&&m.auth.all zac&&m.extra.all zac):=rfl
 obtain⟨R,hR⟩:∃R,R=zcj m:=⟨_,rfl⟩
 have HG:Hid (znt m w=fun e w'=>e=.returned (.bool R)∧Ext w w'):=Z7 (by rw[hR];rfl)
 rw[HG.out];rw[←hR]at gb;have HM:=Z7 gb
 have kT:=Z7 tg
 clear gb hR tg HG;by_cases h1:m.hd.op≤15
 rotate_left
 ·have f1:(15:Int)<m.hd.op:=by omega
  have hF:R=false:=by rw[HM.out,kT.out,decide_eq_false (fun hh=>h1 hh.1)];rfl
  subst hF;go_enter Tryz.func114,Tryz.ntmps114;go_upto_region 1 with fail
  have aW:w.alloc (.cells #[.int .u16 m.hd.id,.bool m.hd.qr,.int .u8 m.hd.op,.bool m.hd.aa,.bool m.hd.tc,.bool m.hd.rd,.bool m.hd.ra,.bool m.hd.z,.bool m.hd.ad,.bool m.hd.cd,.int .u8 m.hd.code,.slice qA m.qs.length qc,.slice aA m.ans.length ac,.slice uA m.auth.length uc,.slice xA m.extra.length xc,.bool m.he,.int .u16 m.ed.size,.int .u8 m.ed.ext,.int .u8 m.ed.ver,.int .u16 m.ed.flags,.slice oA m.ed.opts.length oc] 45)=X0:=ar.symm
  rw[aW];clear aW ar;have x2:=za0 (j:=2) r0 rfl
  have x10:=za0 (j:=10) r0 rfl
  have x11:=za0 (j:=11) r0 rfl
  have x14:=za0 (j:=14) r0 rfl
  have x15:=za0 (j:=15) r0 rfl
  go_wp2_with fail;go_ret;exact⟨rfl,aP⟩
 have f1:¬(15:Int)<m.hd.op:=by omega
 by_cases h2:m.hd.code≤15
 rotate_left
 ·have f2:(15:Int)<m.hd.code:=by omega
  have hF:R=false:=by rw[HM.out,kT.out,decide_eq_false (fun hh=>h2 hh.2)];rfl
  subst hF;go_enter Tryz.func114,Tryz.ntmps114;go_upto_region 1 with fail
  have aW:w.alloc (.cells #[.int .u16 m.hd.id,.bool m.hd.qr,.int .u8 m.hd.op,.bool m.hd.aa,.bool m.hd.tc,.bool m.hd.rd,.bool m.hd.ra,.bool m.hd.z,.bool m.hd.ad,.bool m.hd.cd,.int .u8 m.hd.code,.slice qA m.qs.length qc,.slice aA m.ans.length ac,.slice uA m.auth.length uc,.slice xA m.extra.length xc,.bool m.he,.int .u16 m.ed.size,.int .u8 m.ed.ext,.int .u8 m.ed.ver,.int .u16 m.ed.flags,.slice oA m.ed.opts.length oc] 45)=X0:=ar.symm
  rw[aW];clear aW ar;have x2:=za0 (j:=2) r0 rfl
  have x10:=za0 (j:=10) r0 rfl
  have x11:=za0 (j:=11) r0 rfl
  have x14:=za0 (j:=14) r0 rfl
  have x15:=za0 (j:=15) r0 rfl
  go_wp2_with fail;go_ret;exact⟨rfl,aP⟩
 have f2:¬(15:Int)<m.hd.code:=by omega
 have bB:zdy m.hd=true:=by rw[kT.out,decide_eq_true ⟨h1,h2⟩]
 by_cases h3:m.qs.length≤65535
 rotate_left
 ·have f3:(65535:Int)<(m.qs.length:Int):=by omega
  have hF:R=false:=by rw[HM.out,decide_eq_false (p:=m.qs.length≤65535∧_) (fun hh=>h3 hh.1)];simp
  subst hF;go_enter Tryz.func114,Tryz.ntmps114;go_upto_region 1 with fail
  have aW:w.alloc (.cells #[.int .u16 m.hd.id,.bool m.hd.qr,.int .u8 m.hd.op,.bool m.hd.aa,.bool m.hd.tc,.bool m.hd.rd,.bool m.hd.ra,.bool m.hd.z,.bool m.hd.ad,.bool m.hd.cd,.int .u8 m.hd.code,.slice qA m.qs.length qc,.slice aA m.ans.length ac,.slice uA m.auth.length uc,.slice xA m.extra.length xc,.bool m.he,.int .u16 m.ed.size,.int .u8 m.ed.ext,.int .u8 m.ed.ver,.int .u16 m.ed.flags,.slice oA m.ed.opts.length oc] 45)=X0:=ar.symm
  rw[aW];clear aW ar;have x2:=za0 (j:=2) r0 rfl
  have x10:=za0 (j:=10) r0 rfl
  have x11:=za0 (j:=11) r0 rfl
  have x14:=za0 (j:=14) r0 rfl
  have x15:=za0 (j:=15) r0 rfl
  go_wp2_with fail;go_ret;exact⟨rfl,aP⟩
 have f3:¬(65535:Int)<(m.qs.length:Int):=by omega
 by_cases oD:m.he=true
 rotate_left
 ·have He:=Z7 (show m.he=false by simpa using oD)
  clear oD;rcases yG:zcd m.ed with _|_
  ·rw[yG]at HS;have hF:R=false:=by rw[HM.out,He.out,yG];simp
   subst hF;go_enter Tryz.func114,Tryz.ntmps114;go_upto_region 1 with fail
   have aW:w.alloc (.cells #[.int .u16 m.hd.id,.bool m.hd.qr,.int .u8 m.hd.op,.bool m.hd.aa,.bool m.hd.tc,.bool m.hd.rd,.bool m.hd.ra,.bool m.hd.z,.bool m.hd.ad,.bool m.hd.cd,.int .u8 m.hd.code,.slice qA m.qs.length qc,.slice aA m.ans.length ac,.slice uA m.auth.length uc,.slice xA m.extra.length xc,.bool m.he,.int .u16 m.ed.size,.int .u8 m.ed.ext,.int .u8 m.ed.ver,.int .u16 m.ed.flags,.slice oA m.ed.opts.length oc] 45)=X0:=ar.symm
   rw[aW];clear aW ar;have x2:=za0 (j:=2) r0 rfl
   have x10:=za0 (j:=10) r0 rfl
   have x11:=za0 (j:=11) r0 rfl
   have x14:=za0 (j:=14) r0 rfl
   have x15:=za0 (j:=15) r0 rfl
   rw[He.out]at x15;go_wp2_with(first
    |(refine za9 (by rfl) 43 (.tmp 25) rfl w.heap.size 16 rfl [.int .u16 m.ed.size,.int .u8 m.ed.ext,.int .u8 m.ed.ver,.int .u16 m.ed.flags,.slice oA m.ed.opts.length oc] (zcx r0 16 5) _ Tryz.underlying43 rfl (by kernel_rfl) ?_)
    |(go_at_call 50;refine(HS.out _ aP).mono ?_;rintro e w1 ⟨rfl,ae⟩;have x15b:=za0 (j:=15) (K0.out w1 ae) rfl;rw[He.out]at x15b)
    |fail)
   go_ret;exact⟨rfl,aP.trans ae⟩
  ·rw[yG]at HS;have rE:(m.he||zcd m.ed)=true:=by rw[He.out,yG];rfl
   have tC:(if m.he=true then 1 else 0)=0:=by rw[He.out];rfl
   have vT:m.extra.length+0≤65535↔m.extra.length≤65535:=by omega
   go_enter Tryz.func114,Tryz.ntmps114;go_upto_region 1 with fail
   have aW:w.alloc (.cells #[.int .u16 m.hd.id,.bool m.hd.qr,.int .u8 m.hd.op,.bool m.hd.aa,.bool m.hd.tc,.bool m.hd.rd,.bool m.hd.ra,.bool m.hd.z,.bool m.hd.ad,.bool m.hd.cd,.int .u8 m.hd.code,.slice qA m.qs.length qc,.slice aA m.ans.length ac,.slice uA m.auth.length uc,.slice xA m.extra.length xc,.bool m.he,.int .u16 m.ed.size,.int .u8 m.ed.ext,.int .u8 m.ed.ver,.int .u16 m.ed.flags,.slice oA m.ed.opts.length oc] 45)=X0:=ar.symm
   rw[aW];clear aW ar;have x2:=za0 (j:=2) r0 rfl
   have x10:=za0 (j:=10) r0 rfl
   have x11:=za0 (j:=11) r0 rfl
   have x14:=za0 (j:=14) r0 rfl
   have x15:=za0 (j:=15) r0 rfl
   rw[He.out]at x15;go_wp2_with(first
    |(refine za9 (by rfl) 43 (.tmp 25) rfl w.heap.size 16 rfl [.int .u16 m.ed.size,.int .u8 m.ed.ext,.int .u8 m.ed.ver,.int .u16 m.ed.flags,.slice oA m.ed.opts.length oc] (zcx r0 16 5) _ Tryz.underlying43 rfl (by kernel_rfl) ?_)
    |(go_at_call 50;refine(HS.out _ aP).mono ?_;rintro e w1 ⟨rfl,ae⟩;have x15b:=za0 (j:=15) (K0.out w1 ae) rfl;rw[He.out]at x15b)
    |fail)
   have dC:Ext w w1:=aP.trans ae
   have HB:=Z7 (show R=(m.qs.all (fun q=>may q.name)&&((decide (m.ans.length≤65535)&&m.ans.all zac)&&((decide (m.auth.length≤65535)&&m.auth.all zac)&&(decide (m.extra.length≤65535)&&m.extra.all zac))))by
    rw[HM.out,bB,rE,show decide (m.qs.length≤65535∧m.ans.length≤65535∧m.auth.length≤65535∧m.extra.length+(if m.he then 1 else 0)≤65535)=(decide (m.ans.length≤65535)&&(decide (m.auth.length≤65535)&&decide (m.extra.length≤65535)))by
     rw[Bool.eq_iff_iff];simp only[Bool.and_eq_true,decide_eq_true_eq];rw[tC];exact⟨fun hh=>⟨hh.2.1,hh.2.2.1,vT.1 hh.2.2.2⟩,fun hh=>⟨h3,hh.1,hh.2.1,vT.2 hh.2.2⟩⟩]
    generalize decide (m.ans.length≤65535)=d1;generalize decide (m.auth.length≤65535)=d2;generalize decide (m.extra.length≤65535)=d3;generalize m.qs.all (fun q=>may q.name)=b0
    generalize m.ans.all zac=b1;generalize m.auth.all zac=b2;generalize m.extra.all zac=b3;cases d1<;>cases d2<;>cases d3<;>cases b0<;>cases b1<;>cases b2<;>cases b3<;>rfl)
   clear x2 x10 x11 x14 x15
   (try clear x15b)
   go_loopw [3] (fun s3 wr=>∃k:Nat,k≤m.qs.length∧s3=.int .i64 k∧Hid (m.qs.all (fun q=>may q.name)=(m.qs.drop k).all (fun q=>may q.name))∧Ext w1 wr) (fun s3 _=>m.qs.length - (intOf s3).toNat)
   case atStart=>exact⟨0,Nat.zero_le _,rfl,Z7 (by simp),Z5 _⟩
   case round=>
    obtain⟨k,hk,rfl,oE,bW⟩:=hrel
    obtain⟨wo,rfl⟩:∃wo:World,wo=wr:=⟨_,rfl⟩
    have cI:Ext w wo:=dC.trans bW
    have q11:=za0 (j:=11) (K0.out wo (ae.trans bW)) rfl
    by_cases ab:k<m.qs.length
    ·obtain⟨b,off,rfl,_,az,hc⟩:=(fT.ext cI).2 (by omega)
     obtain⟨y0,y1,y2⟩:=zdt hc k m.qs[k] (Z3 ab)
     have HD:=Z7 (show(m.qs.drop k).all (fun q=>may q.name)=(may m.qs[k].name&&(m.qs.drop (k+1)).all (fun q=>may q.name))by rw[List.drop_eq_getElem_cons ab];rfl)
     have fi:=rD _ (List.getElem_mem ab)
     generalize m.qs[k]=qq at*;obtain⟨nm,ty,cl⟩:=qq
     dsimp only at*;have cz:(k:Int)<(m.qs.length:Int):=by omega
     have cW:(0:Int)≤(k:Int):=by omega
     have kC:=Z7 (fun V=>zc3 nm V fi)
     clear hc y1 y2;rcases hm:may nm with _|_
     ·rw[hm]at kC;have HF:=Z7 (show R=false by rw[HB.out,oE.out,HD.out,hm];rfl)
      go_wp2_with fail;refine(kC.out _).mono ?_;rintro e w5 ⟨rfl,am⟩;go_wp2_with fail;go_ret;exact⟨by rw[HF.out];rfl,cI.trans am⟩
     ·rw[hm]at kC;have HF:=Z7 (show m.qs.all (fun q=>may q.name)=(m.qs.drop (k+1)).all (fun q=>may q.name)by rw[oE.out,HD.out,hm];rfl)
      go_wp2_with fail;refine(kC.out _).mono ?_;rintro e w5 ⟨rfl,am⟩;go_wp2_with fail;go_roundw
      case rel=>exact⟨k+1,by omega,by go_num,HF,bW.trans am⟩
      case measure=>simp[intOf];omega
    ·obtain rfl:k=m.qs.length:=by omega
     have HQ:=Z7 (show m.qs.all (fun q=>may q.name)=true by rw[oE.out,List.drop_length];rfl)
     obtain⟨B1,rF⟩:∃B1,B1=(decide (m.ans.length≤65535)&&m.ans.all zac):=⟨_,rfl⟩
     obtain⟨B2,dX⟩:∃B2,B2=(decide (m.auth.length≤65535)&&m.auth.all zac):=⟨_,rfl⟩
     obtain⟨B3,iR⟩:∃B3,B3=(decide (m.extra.length≤65535)&&m.extra.all zac):=⟨_,rfl⟩
     have HF:=Z7 (show R=(B1&&(B2&&B3))by rw[HB.out,HQ.out,rF,dX,iR];rfl)
     rw[←rF]at HA;rw[←dX]at HU;rw[←iR]at HX;clear rF dX iR;have q12:=za0 (j:=12) (K0.out wo (ae.trans bW)) rfl
     have cz:¬((m.qs.length:Int)<(m.qs.length:Int)):=by omega
     go_wp2_with fail;refine(HA.out _ cI).mono ?_;rintro e w5 ⟨rfl,am⟩;have kY:=cI.trans am
     have q13:=za0 (j:=13) (K0.out w5 ((ae.trans bW).trans am)) rfl
     rcases B1 with _|_
     ·go_wp2_with fail;go_ret;exact⟨by rw[HF.out];rfl,kY⟩
     go_wp2_with fail;refine(HU.out _ kY).mono ?_;rintro e w6 ⟨rfl,aw⟩;have kZ:=kY.trans aw
     have q14:=za0 (j:=14) (K0.out w6 (((ae.trans bW).trans am).trans aw)) rfl
     rcases B2 with _|_
     ·go_wp2_with fail;go_ret;exact⟨by rw[HF.out];rfl,kZ⟩
     go_wp2_with fail;refine(HX.out _ kZ).mono ?_;rintro e w7 ⟨rfl,aS⟩;go_wp2_with fail;go_ret;exact⟨by rw[HF.out];rfl,kZ.trans aS⟩
 ·have He:=Z7 oD
  clear oD;by_cases h4:m.extra.length≤65534
  rotate_left
  ·have f4:(65534:Int)<(m.extra.length:Int):=by omega
   have hF:R=false:=by rw[HM.out,He.out,decide_eq_false (p:=m.qs.length≤65535∧_) (fun hh=>by have:=hh.2.2.2;simp at this;omega)];simp
   subst hF;go_enter Tryz.func114,Tryz.ntmps114;go_upto_region 1 with fail
   have aW:w.alloc (.cells #[.int .u16 m.hd.id,.bool m.hd.qr,.int .u8 m.hd.op,.bool m.hd.aa,.bool m.hd.tc,.bool m.hd.rd,.bool m.hd.ra,.bool m.hd.z,.bool m.hd.ad,.bool m.hd.cd,.int .u8 m.hd.code,.slice qA m.qs.length qc,.slice aA m.ans.length ac,.slice uA m.auth.length uc,.slice xA m.extra.length xc,.bool m.he,.int .u16 m.ed.size,.int .u8 m.ed.ext,.int .u8 m.ed.ver,.int .u16 m.ed.flags,.slice oA m.ed.opts.length oc] 45)=X0:=ar.symm
   rw[aW];clear aW ar;have x2:=za0 (j:=2) r0 rfl
   have x10:=za0 (j:=10) r0 rfl
   have x11:=za0 (j:=11) r0 rfl
   have x14:=za0 (j:=14) r0 rfl
   have x15:=za0 (j:=15) r0 rfl
   rw[He.out]at x15;go_wp2_with fail;go_ret;exact⟨rfl,aP⟩
  ·have f4:¬(65534:Int)<(m.extra.length:Int):=by omega
   have rE:(m.he||zcd m.ed)=true:=by rw[He.out];rfl
   have tC:(if m.he=true then 1 else 0)=1:=by rw[He.out];rfl
   have vT:m.extra.length+1≤65535↔m.extra.length≤65535:=by omega
   have lY:Ext X0 X0:=Z5 _
   go_enter Tryz.func114,Tryz.ntmps114;go_upto_region 1 with fail
   have aW:w.alloc (.cells #[.int .u16 m.hd.id,.bool m.hd.qr,.int .u8 m.hd.op,.bool m.hd.aa,.bool m.hd.tc,.bool m.hd.rd,.bool m.hd.ra,.bool m.hd.z,.bool m.hd.ad,.bool m.hd.cd,.int .u8 m.hd.code,.slice qA m.qs.length qc,.slice aA m.ans.length ac,.slice uA m.auth.length uc,.slice xA m.extra.length xc,.bool m.he,.int .u16 m.ed.size,.int .u8 m.ed.ext,.int .u8 m.ed.ver,.int .u16 m.ed.flags,.slice oA m.ed.opts.length oc] 45)=X0:=ar.symm
   rw[aW];clear aW ar;have x2:=za0 (j:=2) r0 rfl
   have x10:=za0 (j:=10) r0 rfl
   have x11:=za0 (j:=11) r0 rfl
   have x14:=za0 (j:=14) r0 rfl
   have x15:=za0 (j:=15) r0 rfl
   rw[He.out]at x15;go_wp2_with fail;have dC:Ext w X0:=aP.trans lY
   have HB:=Z7 (show R=(m.qs.all (fun q=>may q.name)&&((decide (m.ans.length≤65535)&&m.ans.all zac)&&((decide (m.auth.length≤65535)&&m.auth.all zac)&&(decide (m.extra.length≤65535)&&m.extra.all zac))))by
    rw[HM.out,bB,rE,show decide (m.qs.length≤65535∧m.ans.length≤65535∧m.auth.length≤65535∧m.extra.length+(if m.he then 1 else 0)≤65535)=(decide (m.ans.length≤65535)&&(decide (m.auth.length≤65535)&&decide (m.extra.length≤65535)))by
     rw[Bool.eq_iff_iff];simp only[Bool.and_eq_true,decide_eq_true_eq];rw[tC];exact⟨fun hh=>⟨hh.2.1,hh.2.2.1,vT.1 hh.2.2.2⟩,fun hh=>⟨h3,hh.1,hh.2.1,vT.2 hh.2.2⟩⟩]
    generalize decide (m.ans.length≤65535)=d1;generalize decide (m.auth.length≤65535)=d2;generalize decide (m.extra.length≤65535)=d3;generalize m.qs.all (fun q=>may q.name)=b0
    generalize m.ans.all zac=b1;generalize m.auth.all zac=b2;generalize m.extra.all zac=b3;cases d1<;>cases d2<;>cases d3<;>cases b0<;>cases b1<;>cases b2<;>cases b3<;>rfl)
   clear x2 x10 x11 x14 x15
   (try clear x15b)
   go_loopw [3] (fun s3 wr=>∃k:Nat,k≤m.qs.length∧s3=.int .i64 k∧Hid (m.qs.all (fun q=>may q.name)=(m.qs.drop k).all (fun q=>may q.name))∧Ext X0 wr) (fun s3 _=>m.qs.length - (intOf s3).toNat)
   case atStart=>exact⟨0,Nat.zero_le _,rfl,Z7 (by simp),Z5 _⟩
   case round=>
    obtain⟨k,hk,rfl,oE,bW⟩:=hrel
    obtain⟨wo,rfl⟩:∃wo:World,wo=wr:=⟨_,rfl⟩
    have cI:Ext w wo:=dC.trans bW
    have q11:=za0 (j:=11) (K0.out wo (lY.trans bW)) rfl
    by_cases ab:k<m.qs.length
    ·obtain⟨b,off,rfl,_,az,hc⟩:=(fT.ext cI).2 (by omega)
     obtain⟨y0,y1,y2⟩:=zdt hc k m.qs[k] (Z3 ab)
     have HD:=Z7 (show(m.qs.drop k).all (fun q=>may q.name)=(may m.qs[k].name&&(m.qs.drop (k+1)).all (fun q=>may q.name))by rw[List.drop_eq_getElem_cons ab];rfl)
     have fi:=rD _ (List.getElem_mem ab)
     generalize m.qs[k]=qq at*;obtain⟨nm,ty,cl⟩:=qq
     dsimp only at*;have cz:(k:Int)<(m.qs.length:Int):=by omega
     have cW:(0:Int)≤(k:Int):=by omega
     have kC:=Z7 (fun V=>zc3 nm V fi)
     clear hc y1 y2;rcases hm:may nm with _|_
     ·rw[hm]at kC;have HF:=Z7 (show R=false by rw[HB.out,oE.out,HD.out,hm];rfl)
      go_wp2_with fail;refine(kC.out _).mono ?_;rintro e w5 ⟨rfl,am⟩;go_wp2_with fail;go_ret;exact⟨by rw[HF.out];rfl,cI.trans am⟩
     ·rw[hm]at kC;have HF:=Z7 (show m.qs.all (fun q=>may q.name)=(m.qs.drop (k+1)).all (fun q=>may q.name)by rw[oE.out,HD.out,hm];rfl)
      go_wp2_with fail;refine(kC.out _).mono ?_;rintro e w5 ⟨rfl,am⟩;go_wp2_with fail;go_roundw
      case rel=>exact⟨k+1,by omega,by go_num,HF,bW.trans am⟩
      case measure=>simp[intOf];omega
    ·obtain rfl:k=m.qs.length:=by omega
     have HQ:=Z7 (show m.qs.all (fun q=>may q.name)=true by rw[oE.out,List.drop_length];rfl)
     obtain⟨B1,rF⟩:∃B1,B1=(decide (m.ans.length≤65535)&&m.ans.all zac):=⟨_,rfl⟩
     obtain⟨B2,dX⟩:∃B2,B2=(decide (m.auth.length≤65535)&&m.auth.all zac):=⟨_,rfl⟩
     obtain⟨B3,iR⟩:∃B3,B3=(decide (m.extra.length≤65535)&&m.extra.all zac):=⟨_,rfl⟩
     have HF:=Z7 (show R=(B1&&(B2&&B3))by rw[HB.out,HQ.out,rF,dX,iR];rfl)
     rw[←rF]at HA;rw[←dX]at HU;rw[←iR]at HX;clear rF dX iR;have q12:=za0 (j:=12) (K0.out wo (lY.trans bW)) rfl
     have cz:¬((m.qs.length:Int)<(m.qs.length:Int)):=by omega
     go_wp2_with fail;refine(HA.out _ cI).mono ?_;rintro e w5 ⟨rfl,am⟩;have kY:=cI.trans am
     have q13:=za0 (j:=13) (K0.out w5 ((lY.trans bW).trans am)) rfl
     rcases B1 with _|_
     ·go_wp2_with fail;go_ret;exact⟨by rw[HF.out];rfl,kY⟩
     go_wp2_with fail;refine(HU.out _ kY).mono ?_;rintro e w6 ⟨rfl,aw⟩;have kZ:=kY.trans aw
     have q14:=za0 (j:=14) (K0.out w6 (((lY.trans bW).trans am).trans aw)) rfl
     rcases B2 with _|_
     ·go_wp2_with fail;go_ret;exact⟨by rw[HF.out];rfl,kZ⟩
     go_wp2_with fail;refine(HX.out _ kZ).mono ?_;rintro e w7 ⟨rfl,aS⟩;go_wp2_with fail;go_ret;exact⟨by rw[HF.out];rfl,kZ.trans aS⟩
end Go.Proofs.YtdnpmapelmjfpaaGreatDoor
