/- Contracts of functions and plain lemmas that the proofs of this seat share (joined texts). No condition. -/
import Derived.Test.YtdnpmapelmjfpaaGreatDoorQfw2
set_option maxHeartbeats 8000000
set_option linter.unusedVariables false
set_option linter.unusedSimpArgs false
namespace Go.Proofs.YtdnpmapelmjfpaaGreatDoor
open Go.RowKit
set_option maxRecDepth 100000
def zn5 (m:MsgD) (w:World) (e:Ending) (w':World):Prop:=e=.returned (.bool (zc3 m))∧Ext w w'
theorem zC0 (m:MsgD) (q a u x o:Value) (w:World) (h:Msg7 w m q a u x o):
 Calls Tryz.prog 114 #[zdr m.hd q a u x m.he m.ed o] w (zn5 m w):=by
 have H:=Lib.hid h
 obtain⟨⟨qA,qc,rfl,hq1,hq2,hqr⟩,⟨aA,ac,rfl,_,_,_⟩,⟨uA,uc,rfl,_,_,_⟩,⟨xA,xc,rfl,hx1,hx2,_⟩,⟨oA,oc,rfl,_,_,_⟩,hqok,_,_,_,_⟩:=h
 unfold maxLen at hq2 hx2;obtain⟨X0,hX0⟩:∃X0,X0=w.alloc (.cells #[.int .u16 m.hd.id,.bool m.hd.qr,.int .u8 m.hd.op,.bool m.hd.aa,.bool m.hd.tc,.bool m.hd.rd,.bool m.hd.ra,.bool m.hd.z,.bool m.hd.ad,.bool m.hd.cd,.int .u8 m.hd.code,.slice qA m.qs.length qc,.slice aA m.ans.length ac,.slice uA m.auth.length uc,.slice xA m.extra.length xc,.bool m.he,.int .u16 m.ed.size,.int .u8 m.ed.ext,.int .u8 m.ed.ver,.int .u16 m.ed.flags,.slice oA m.ed.opts.length oc] 45):=⟨_,rfl⟩
 have hw0:Ext w X0:=by rw[hX0];exact(Ext.refl _).alloc _
 have r0:X0.heap[w.heap.size]? =some (.cells #[.int .u16 m.hd.id,.bool m.hd.qr,.int .u8 m.hd.op,.bool m.hd.aa,.bool m.hd.tc,.bool m.hd.rd,.bool m.hd.ra,.bool m.hd.z,.bool m.hd.ad,.bool m.hd.cd,.int .u8 m.hd.code,.slice qA m.qs.length qc,.slice aA m.ans.length ac,.slice uA m.auth.length uc,.slice xA m.extra.length xc,.bool m.he,.int .u16 m.ed.size,.int .u8 m.ed.ext,.int .u8 m.ed.ver,.int .u16 m.ed.flags,.slice oA m.ed.opts.length oc] 45):=by rw[hX0];exact heap_alloc_new w _
 have K0:=Lib.hid (fun V (hV:Ext X0 V)=>(hV.block _ (Array.getElem?_eq_some_iff.1 r0).1).trans r0)
 have HS:=Lib.hid (fun V (hV:Ext w V)=>zxa m.ed _ V (H.out.opts.ext hV))
 have HA:=Lib.hid (fun V (hV:Ext w V)=>zlo _ m.ans V (H.out.ans.ext hV) H.out.aok)
 have HU:=Lib.hid (fun V (hV:Ext w V)=>zlo _ m.auth V (H.out.auth.ext hV) H.out.uok)
 have HX:=Lib.hid (fun V (hV:Ext w V)=>zlo _ m.extra V (H.out.extra.ext hV) H.out.xok)
 have hdk:ze4 m.hd=decide (m.hd.op≤15∧m.hd.code≤15):=rfl
 have hmm:zc3 m=(ze4 m.hd&&(m.he||zce m.ed)&&decide (m.qs.length≤65535∧m.ans.length≤65535∧m.auth.length≤65535∧m.extra.length+(if m.he then 1 else 0)≤65535)&&m.qs.all (fun q=>may q.name)&&m.ans.all zae&&m.auth.all zae&&m.extra.all zae):=rfl
 obtain⟨R,hR⟩:∃R,R=zc3 m:=⟨_,rfl⟩
 have HG:Hid (zn5 m w=fun e w'=>e=.returned (.bool R)∧Ext w w'):=Lib.hid (by rw[hR];rfl)
 rw[HG.out];rw[←hR]at hmm;have HM:=Lib.hid hmm
 have Hdk:=Lib.hid hdk
 clear hmm hR hdk HG;by_cases h1:m.hd.op≤15
 rotate_left
 ·have f1:(15:Int)<m.hd.op:=by omega
  have hF:R=false:=by rw[HM.out,Hdk.out,decide_eq_false (fun hh=>h1 hh.1)];rfl
  subst hF;go_enter Tryz.func114,Tryz.ntmps114;go_upto_region 1 with fail
  have hzz:w.alloc (.cells #[.int .u16 m.hd.id,.bool m.hd.qr,.int .u8 m.hd.op,.bool m.hd.aa,.bool m.hd.tc,.bool m.hd.rd,.bool m.hd.ra,.bool m.hd.z,.bool m.hd.ad,.bool m.hd.cd,.int .u8 m.hd.code,.slice qA m.qs.length qc,.slice aA m.ans.length ac,.slice uA m.auth.length uc,.slice xA m.extra.length xc,.bool m.he,.int .u16 m.ed.size,.int .u8 m.ed.ext,.int .u8 m.ed.ver,.int .u16 m.ed.flags,.slice oA m.ed.opts.length oc] 45)=X0:=hX0.symm
  rw[hzz];clear hzz hX0;have x2:=za0 (j:=2) r0 rfl
  have x10:=za0 (j:=10) r0 rfl
  have x11:=za0 (j:=11) r0 rfl
  have x14:=za0 (j:=14) r0 rfl
  have x15:=za0 (j:=15) r0 rfl
  go_wp2_with fail;go_ret;exact⟨rfl,hw0⟩
 have f1:¬(15:Int)<m.hd.op:=by omega
 by_cases h2:m.hd.code≤15
 rotate_left
 ·have f2:(15:Int)<m.hd.code:=by omega
  have hF:R=false:=by rw[HM.out,Hdk.out,decide_eq_false (fun hh=>h2 hh.2)];rfl
  subst hF;go_enter Tryz.func114,Tryz.ntmps114;go_upto_region 1 with fail
  have hzz:w.alloc (.cells #[.int .u16 m.hd.id,.bool m.hd.qr,.int .u8 m.hd.op,.bool m.hd.aa,.bool m.hd.tc,.bool m.hd.rd,.bool m.hd.ra,.bool m.hd.z,.bool m.hd.ad,.bool m.hd.cd,.int .u8 m.hd.code,.slice qA m.qs.length qc,.slice aA m.ans.length ac,.slice uA m.auth.length uc,.slice xA m.extra.length xc,.bool m.he,.int .u16 m.ed.size,.int .u8 m.ed.ext,.int .u8 m.ed.ver,.int .u16 m.ed.flags,.slice oA m.ed.opts.length oc] 45)=X0:=hX0.symm
  rw[hzz];clear hzz hX0;have x2:=za0 (j:=2) r0 rfl
  have x10:=za0 (j:=10) r0 rfl
  have x11:=za0 (j:=11) r0 rfl
  have x14:=za0 (j:=14) r0 rfl
  have x15:=za0 (j:=15) r0 rfl
  go_wp2_with fail;go_ret;exact⟨rfl,hw0⟩
 have f2:¬(15:Int)<m.hd.code:=by omega
 have hok:ze4 m.hd=true:=by rw[Hdk.out,decide_eq_true ⟨h1,h2⟩]
 by_cases h3:m.qs.length≤65535
 rotate_left
 ·have f3:(65535:Int)<(m.qs.length:Int):=by omega
  have hF:R=false:=by rw[HM.out,decide_eq_false (p:=m.qs.length≤65535∧_) (fun hh=>h3 hh.1)];simp
  subst hF;go_enter Tryz.func114,Tryz.ntmps114;go_upto_region 1 with fail
  have hzz:w.alloc (.cells #[.int .u16 m.hd.id,.bool m.hd.qr,.int .u8 m.hd.op,.bool m.hd.aa,.bool m.hd.tc,.bool m.hd.rd,.bool m.hd.ra,.bool m.hd.z,.bool m.hd.ad,.bool m.hd.cd,.int .u8 m.hd.code,.slice qA m.qs.length qc,.slice aA m.ans.length ac,.slice uA m.auth.length uc,.slice xA m.extra.length xc,.bool m.he,.int .u16 m.ed.size,.int .u8 m.ed.ext,.int .u8 m.ed.ver,.int .u16 m.ed.flags,.slice oA m.ed.opts.length oc] 45)=X0:=hX0.symm
  rw[hzz];clear hzz hX0;have x2:=za0 (j:=2) r0 rfl
  have x10:=za0 (j:=10) r0 rfl
  have x11:=za0 (j:=11) r0 rfl
  have x14:=za0 (j:=14) r0 rfl
  have x15:=za0 (j:=15) r0 rfl
  go_wp2_with fail;go_ret;exact⟨rfl,hw0⟩
 have f3:¬(65535:Int)<(m.qs.length:Int):=by omega
 by_cases het:m.he=true
 rotate_left
 ·have He:=Lib.hid (show m.he=false by simpa using het)
  clear het;rcases hez:zce m.ed with _|_
  ·rw[hez]at HS;have hF:R=false:=by rw[HM.out,He.out,hez];simp
   subst hF;go_enter Tryz.func114,Tryz.ntmps114;go_upto_region 1 with fail
   have hzz:w.alloc (.cells #[.int .u16 m.hd.id,.bool m.hd.qr,.int .u8 m.hd.op,.bool m.hd.aa,.bool m.hd.tc,.bool m.hd.rd,.bool m.hd.ra,.bool m.hd.z,.bool m.hd.ad,.bool m.hd.cd,.int .u8 m.hd.code,.slice qA m.qs.length qc,.slice aA m.ans.length ac,.slice uA m.auth.length uc,.slice xA m.extra.length xc,.bool m.he,.int .u16 m.ed.size,.int .u8 m.ed.ext,.int .u8 m.ed.ver,.int .u16 m.ed.flags,.slice oA m.ed.opts.length oc] 45)=X0:=hX0.symm
   rw[hzz];clear hzz hX0;have x2:=za0 (j:=2) r0 rfl
   have x10:=za0 (j:=10) r0 rfl
   have x11:=za0 (j:=11) r0 rfl
   have x14:=za0 (j:=14) r0 rfl
   have x15:=za0 (j:=15) r0 rfl
   rw[He.out]at x15;go_wp2_with(first
    |(refine zaw (by rfl) 43 (.tmp 25) rfl w.heap.size 16 rfl [.int .u16 m.ed.size,.int .u8 m.ed.ext,.int .u8 m.ed.ver,.int .u16 m.ed.flags,.slice oA m.ed.opts.length oc] (zcy r0 16 5) _ Tryz.underlying43 rfl (by kernel_rfl) ?_)
    |(go_at_call 50;refine(HS.out _ hw0).mono ?_;rintro e w1 ⟨rfl,hE1⟩;have x15b:=za0 (j:=15) (K0.out w1 hE1) rfl;rw[He.out]at x15b)
    |fail)
   go_ret;exact⟨rfl,hw0.trans hE1⟩
  ·rw[hez]at HS;have hez2:(m.he||zce m.ed)=true:=by rw[He.out,hez];rfl
   have hxe:(if m.he=true then 1 else 0)=0:=by rw[He.out];rfl
   have hxx:m.extra.length+0≤65535↔m.extra.length≤65535:=by omega
   go_enter Tryz.func114,Tryz.ntmps114;go_upto_region 1 with fail
   have hzz:w.alloc (.cells #[.int .u16 m.hd.id,.bool m.hd.qr,.int .u8 m.hd.op,.bool m.hd.aa,.bool m.hd.tc,.bool m.hd.rd,.bool m.hd.ra,.bool m.hd.z,.bool m.hd.ad,.bool m.hd.cd,.int .u8 m.hd.code,.slice qA m.qs.length qc,.slice aA m.ans.length ac,.slice uA m.auth.length uc,.slice xA m.extra.length xc,.bool m.he,.int .u16 m.ed.size,.int .u8 m.ed.ext,.int .u8 m.ed.ver,.int .u16 m.ed.flags,.slice oA m.ed.opts.length oc] 45)=X0:=hX0.symm
   rw[hzz];clear hzz hX0;have x2:=za0 (j:=2) r0 rfl
   have x10:=za0 (j:=10) r0 rfl
   have x11:=za0 (j:=11) r0 rfl
   have x14:=za0 (j:=14) r0 rfl
   have x15:=za0 (j:=15) r0 rfl
   rw[He.out]at x15;go_wp2_with(first
    |(refine zaw (by rfl) 43 (.tmp 25) rfl w.heap.size 16 rfl [.int .u16 m.ed.size,.int .u8 m.ed.ext,.int .u8 m.ed.ver,.int .u16 m.ed.flags,.slice oA m.ed.opts.length oc] (zcy r0 16 5) _ Tryz.underlying43 rfl (by kernel_rfl) ?_)
    |(go_at_call 50;refine(HS.out _ hw0).mono ?_;rintro e w1 ⟨rfl,hE1⟩;have x15b:=za0 (j:=15) (K0.out w1 hE1) rfl;rw[He.out]at x15b)
    |fail)
   have hwW:Ext w w1:=hw0.trans hE1
   have HB:=Lib.hid (show R=(m.qs.all (fun q=>may q.name)&&((decide (m.ans.length≤65535)&&m.ans.all zae)&&((decide (m.auth.length≤65535)&&m.auth.all zae)&&(decide (m.extra.length≤65535)&&m.extra.all zae))))by
    rw[HM.out,hok,hez2,show decide (m.qs.length≤65535∧m.ans.length≤65535∧m.auth.length≤65535∧m.extra.length+(if m.he then 1 else 0)≤65535)=(decide (m.ans.length≤65535)&&(decide (m.auth.length≤65535)&&decide (m.extra.length≤65535)))by
     rw[Bool.eq_iff_iff];simp only[Bool.and_eq_true,decide_eq_true_eq];rw[hxe];exact⟨fun hh=>⟨hh.2.1,hh.2.2.1,hxx.1 hh.2.2.2⟩,fun hh=>⟨h3,hh.1,hh.2.1,hxx.2 hh.2.2⟩⟩]
    generalize decide (m.ans.length≤65535)=d1;generalize decide (m.auth.length≤65535)=d2;generalize decide (m.extra.length≤65535)=d3;generalize m.qs.all (fun q=>may q.name)=b0
    generalize m.ans.all zae=b1;generalize m.auth.all zae=b2;generalize m.extra.all zae=b3;cases d1<;>cases d2<;>cases d3<;>cases b0<;>cases b1<;>cases b2<;>cases b3<;>rfl)
   clear x2 x10 x11 x14 x15
   (try clear x15b)
   go_loopw [3] (fun s3 wr=>∃k:Nat,k≤m.qs.length∧s3=.int .i64 k∧Hid (m.qs.all (fun q=>may q.name)=(m.qs.drop k).all (fun q=>may q.name))∧Ext w1 wr) (fun s3 _=>m.qs.length - (intOf s3).toNat)
   case atStart=>exact⟨0,Nat.zero_le _,rfl,Lib.hid (by simp),Ext.refl _⟩
   case round=>
    obtain⟨k,hk,rfl,HQ1,hEr⟩:=hrel
    obtain⟨wo,rfl⟩:∃wo:World,wo=wr:=⟨_,rfl⟩
    have hwo:Ext w wo:=hwW.trans hEr
    have q11:=za0 (j:=11) (K0.out wo (hE1.trans hEr)) rfl
    by_cases hlt:k<m.qs.length
    ·obtain⟨b,off,rfl,_,hbz,hc⟩:=(hqr.ext hwo).2 (by omega)
     obtain⟨y0,y1,y2⟩:=zdy hc k m.qs[k] (List.getElem?_eq_getElem hlt)
     have HD:=Lib.hid (show(m.qs.drop k).all (fun q=>may q.name)=(may m.qs[k].name&&(m.qs.drop (k+1)).all (fun q=>may q.name))by rw[List.drop_eq_getElem_cons hlt];rfl)
     have hnl:=hqok _ (List.getElem_mem hlt)
     generalize m.qs[k]=qq at*;obtain⟨nm,ty,cl⟩:=qq
     dsimp only at*;have hki:(k:Int)<(m.qs.length:Int):=by omega
     have hk0:(0:Int)≤(k:Int):=by omega
     have HMy:=Lib.hid (fun V=>zc7 nm V hnl)
     clear hc y1 y2;rcases hm:may nm with _|_
     ·rw[hm]at HMy;have HF:=Lib.hid (show R=false by rw[HB.out,HQ1.out,HD.out,hm];rfl)
      go_wp2_with fail;refine(HMy.out _).mono ?_;rintro e w5 ⟨rfl,hE5⟩;go_wp2_with fail;go_ret;exact⟨by rw[HF.out];rfl,hwo.trans hE5⟩
     ·rw[hm]at HMy;have HF:=Lib.hid (show m.qs.all (fun q=>may q.name)=(m.qs.drop (k+1)).all (fun q=>may q.name)by rw[HQ1.out,HD.out,hm];rfl)
      go_wp2_with fail;refine(HMy.out _).mono ?_;rintro e w5 ⟨rfl,hE5⟩;go_wp2_with fail;go_roundw
      case rel=>exact⟨k+1,by omega,by go_num,HF,hEr.trans hE5⟩
      case measure=>simp[intOf];omega
    ·obtain rfl:k=m.qs.length:=by omega
     have HQ:=Lib.hid (show m.qs.all (fun q=>may q.name)=true by rw[HQ1.out,List.drop_length];rfl)
     obtain⟨B1,hB1⟩:∃B1,B1=(decide (m.ans.length≤65535)&&m.ans.all zae):=⟨_,rfl⟩
     obtain⟨B2,hB2⟩:∃B2,B2=(decide (m.auth.length≤65535)&&m.auth.all zae):=⟨_,rfl⟩
     obtain⟨B3,hB3⟩:∃B3,B3=(decide (m.extra.length≤65535)&&m.extra.all zae):=⟨_,rfl⟩
     have HF:=Lib.hid (show R=(B1&&(B2&&B3))by rw[HB.out,HQ.out,hB1,hB2,hB3];rfl)
     rw[←hB1]at HA;rw[←hB2]at HU;rw[←hB3]at HX;clear hB1 hB2 hB3;have q12:=za0 (j:=12) (K0.out wo (hE1.trans hEr)) rfl
     have hki:¬((m.qs.length:Int)<(m.qs.length:Int)):=by omega
     go_wp2_with fail;refine(HA.out _ hwo).mono ?_;rintro e w5 ⟨rfl,hE5⟩;have hw5:=hwo.trans hE5
     have q13:=za0 (j:=13) (K0.out w5 ((hE1.trans hEr).trans hE5)) rfl
     rcases B1 with _|_
     ·go_wp2_with fail;go_ret;exact⟨by rw[HF.out];rfl,hw5⟩
     go_wp2_with fail;refine(HU.out _ hw5).mono ?_;rintro e w6 ⟨rfl,hE6⟩;have hw6:=hw5.trans hE6
     have q14:=za0 (j:=14) (K0.out w6 (((hE1.trans hEr).trans hE5).trans hE6)) rfl
     rcases B2 with _|_
     ·go_wp2_with fail;go_ret;exact⟨by rw[HF.out];rfl,hw6⟩
     go_wp2_with fail;refine(HX.out _ hw6).mono ?_;rintro e w7 ⟨rfl,hE7⟩;go_wp2_with fail;go_ret;exact⟨by rw[HF.out];rfl,hw6.trans hE7⟩
 ·have He:=Lib.hid het
  clear het;by_cases h4:m.extra.length≤65534
  rotate_left
  ·have f4:(65534:Int)<(m.extra.length:Int):=by omega
   have hF:R=false:=by rw[HM.out,He.out,decide_eq_false (p:=m.qs.length≤65535∧_) (fun hh=>by have:=hh.2.2.2;simp at this;omega)];simp
   subst hF;go_enter Tryz.func114,Tryz.ntmps114;go_upto_region 1 with fail
   have hzz:w.alloc (.cells #[.int .u16 m.hd.id,.bool m.hd.qr,.int .u8 m.hd.op,.bool m.hd.aa,.bool m.hd.tc,.bool m.hd.rd,.bool m.hd.ra,.bool m.hd.z,.bool m.hd.ad,.bool m.hd.cd,.int .u8 m.hd.code,.slice qA m.qs.length qc,.slice aA m.ans.length ac,.slice uA m.auth.length uc,.slice xA m.extra.length xc,.bool m.he,.int .u16 m.ed.size,.int .u8 m.ed.ext,.int .u8 m.ed.ver,.int .u16 m.ed.flags,.slice oA m.ed.opts.length oc] 45)=X0:=hX0.symm
   rw[hzz];clear hzz hX0;have x2:=za0 (j:=2) r0 rfl
   have x10:=za0 (j:=10) r0 rfl
   have x11:=za0 (j:=11) r0 rfl
   have x14:=za0 (j:=14) r0 rfl
   have x15:=za0 (j:=15) r0 rfl
   rw[He.out]at x15;go_wp2_with fail;go_ret;exact⟨rfl,hw0⟩
  ·have f4:¬(65534:Int)<(m.extra.length:Int):=by omega
   have hez2:(m.he||zce m.ed)=true:=by rw[He.out];rfl
   have hxe:(if m.he=true then 1 else 0)=1:=by rw[He.out];rfl
   have hxx:m.extra.length+1≤65535↔m.extra.length≤65535:=by omega
   have hX00:Ext X0 X0:=Ext.refl _
   go_enter Tryz.func114,Tryz.ntmps114;go_upto_region 1 with fail
   have hzz:w.alloc (.cells #[.int .u16 m.hd.id,.bool m.hd.qr,.int .u8 m.hd.op,.bool m.hd.aa,.bool m.hd.tc,.bool m.hd.rd,.bool m.hd.ra,.bool m.hd.z,.bool m.hd.ad,.bool m.hd.cd,.int .u8 m.hd.code,.slice qA m.qs.length qc,.slice aA m.ans.length ac,.slice uA m.auth.length uc,.slice xA m.extra.length xc,.bool m.he,.int .u16 m.ed.size,.int .u8 m.ed.ext,.int .u8 m.ed.ver,.int .u16 m.ed.flags,.slice oA m.ed.opts.length oc] 45)=X0:=hX0.symm
   rw[hzz];clear hzz hX0;have x2:=za0 (j:=2) r0 rfl
   have x10:=za0 (j:=10) r0 rfl
   have x11:=za0 (j:=11) r0 rfl
   have x14:=za0 (j:=14) r0 rfl
   have x15:=za0 (j:=15) r0 rfl
   rw[He.out]at x15;go_wp2_with fail;have hwW:Ext w X0:=hw0.trans hX00
   have HB:=Lib.hid (show R=(m.qs.all (fun q=>may q.name)&&((decide (m.ans.length≤65535)&&m.ans.all zae)&&((decide (m.auth.length≤65535)&&m.auth.all zae)&&(decide (m.extra.length≤65535)&&m.extra.all zae))))by
    rw[HM.out,hok,hez2,show decide (m.qs.length≤65535∧m.ans.length≤65535∧m.auth.length≤65535∧m.extra.length+(if m.he then 1 else 0)≤65535)=(decide (m.ans.length≤65535)&&(decide (m.auth.length≤65535)&&decide (m.extra.length≤65535)))by
     rw[Bool.eq_iff_iff];simp only[Bool.and_eq_true,decide_eq_true_eq];rw[hxe];exact⟨fun hh=>⟨hh.2.1,hh.2.2.1,hxx.1 hh.2.2.2⟩,fun hh=>⟨h3,hh.1,hh.2.1,hxx.2 hh.2.2⟩⟩]
    generalize decide (m.ans.length≤65535)=d1;generalize decide (m.auth.length≤65535)=d2;generalize decide (m.extra.length≤65535)=d3;generalize m.qs.all (fun q=>may q.name)=b0
    generalize m.ans.all zae=b1;generalize m.auth.all zae=b2;generalize m.extra.all zae=b3;cases d1<;>cases d2<;>cases d3<;>cases b0<;>cases b1<;>cases b2<;>cases b3<;>rfl)
   clear x2 x10 x11 x14 x15
   (try clear x15b)
   go_loopw [3] (fun s3 wr=>∃k:Nat,k≤m.qs.length∧s3=.int .i64 k∧Hid (m.qs.all (fun q=>may q.name)=(m.qs.drop k).all (fun q=>may q.name))∧Ext X0 wr) (fun s3 _=>m.qs.length - (intOf s3).toNat)
   case atStart=>exact⟨0,Nat.zero_le _,rfl,Lib.hid (by simp),Ext.refl _⟩
   case round=>
    obtain⟨k,hk,rfl,HQ1,hEr⟩:=hrel
    obtain⟨wo,rfl⟩:∃wo:World,wo=wr:=⟨_,rfl⟩
    have hwo:Ext w wo:=hwW.trans hEr
    have q11:=za0 (j:=11) (K0.out wo (hX00.trans hEr)) rfl
    by_cases hlt:k<m.qs.length
    ·obtain⟨b,off,rfl,_,hbz,hc⟩:=(hqr.ext hwo).2 (by omega)
     obtain⟨y0,y1,y2⟩:=zdy hc k m.qs[k] (List.getElem?_eq_getElem hlt)
     have HD:=Lib.hid (show(m.qs.drop k).all (fun q=>may q.name)=(may m.qs[k].name&&(m.qs.drop (k+1)).all (fun q=>may q.name))by rw[List.drop_eq_getElem_cons hlt];rfl)
     have hnl:=hqok _ (List.getElem_mem hlt)
     generalize m.qs[k]=qq at*;obtain⟨nm,ty,cl⟩:=qq
     dsimp only at*;have hki:(k:Int)<(m.qs.length:Int):=by omega
     have hk0:(0:Int)≤(k:Int):=by omega
     have HMy:=Lib.hid (fun V=>zc7 nm V hnl)
     clear hc y1 y2;rcases hm:may nm with _|_
     ·rw[hm]at HMy;have HF:=Lib.hid (show R=false by rw[HB.out,HQ1.out,HD.out,hm];rfl)
      go_wp2_with fail;refine(HMy.out _).mono ?_;rintro e w5 ⟨rfl,hE5⟩;go_wp2_with fail;go_ret;exact⟨by rw[HF.out];rfl,hwo.trans hE5⟩
     ·rw[hm]at HMy;have HF:=Lib.hid (show m.qs.all (fun q=>may q.name)=(m.qs.drop (k+1)).all (fun q=>may q.name)by rw[HQ1.out,HD.out,hm];rfl)
      go_wp2_with fail;refine(HMy.out _).mono ?_;rintro e w5 ⟨rfl,hE5⟩;go_wp2_with fail;go_roundw
      case rel=>exact⟨k+1,by omega,by go_num,HF,hEr.trans hE5⟩
      case measure=>simp[intOf];omega
    ·obtain rfl:k=m.qs.length:=by omega
     have HQ:=Lib.hid (show m.qs.all (fun q=>may q.name)=true by rw[HQ1.out,List.drop_length];rfl)
     obtain⟨B1,hB1⟩:∃B1,B1=(decide (m.ans.length≤65535)&&m.ans.all zae):=⟨_,rfl⟩
     obtain⟨B2,hB2⟩:∃B2,B2=(decide (m.auth.length≤65535)&&m.auth.all zae):=⟨_,rfl⟩
     obtain⟨B3,hB3⟩:∃B3,B3=(decide (m.extra.length≤65535)&&m.extra.all zae):=⟨_,rfl⟩
     have HF:=Lib.hid (show R=(B1&&(B2&&B3))by rw[HB.out,HQ.out,hB1,hB2,hB3];rfl)
     rw[←hB1]at HA;rw[←hB2]at HU;rw[←hB3]at HX;clear hB1 hB2 hB3;have q12:=za0 (j:=12) (K0.out wo (hX00.trans hEr)) rfl
     have hki:¬((m.qs.length:Int)<(m.qs.length:Int)):=by omega
     go_wp2_with fail;refine(HA.out _ hwo).mono ?_;rintro e w5 ⟨rfl,hE5⟩;have hw5:=hwo.trans hE5
     have q13:=za0 (j:=13) (K0.out w5 ((hX00.trans hEr).trans hE5)) rfl
     rcases B1 with _|_
     ·go_wp2_with fail;go_ret;exact⟨by rw[HF.out];rfl,hw5⟩
     go_wp2_with fail;refine(HU.out _ hw5).mono ?_;rintro e w6 ⟨rfl,hE6⟩;have hw6:=hw5.trans hE6
     have q14:=za0 (j:=14) (K0.out w6 (((hX00.trans hEr).trans hE5).trans hE6)) rfl
     rcases B2 with _|_
     ·go_wp2_with fail;go_ret;exact⟨by rw[HF.out];rfl,hw6⟩
     go_wp2_with fail;refine(HX.out _ hw6).mono ?_;rintro e w7 ⟨rfl,hE7⟩;go_wp2_with fail;go_ret;exact⟨by rw[HF.out];rfl,hw6.trans hE7⟩
end Go.Proofs.YtdnpmapelmjfpaaGreatDoor
