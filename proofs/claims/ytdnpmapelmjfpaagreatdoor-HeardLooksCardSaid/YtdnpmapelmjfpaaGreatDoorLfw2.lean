/- Lemmas of this claim. No condition. -/
import Derived.Test.YtdnpmapelmjfpaaGreatDoorLfw1
set_option maxHeartbeats 4000000
set_option linter.unusedVariables false
set_option linter.unusedSimpArgs false
set_option maxRecDepth 100000
namespace Go.Proofs.YtdnpmapelmjfpaaGreatDoor
open Go.RowKit
structure RpuI (wI w:World) (tp:Nat) (R:List UInt8×Tab) (l:List RecD) (k:Nat) (X:List UInt8) (T1:Tab) (wr:World):Prop where
 xl:X.length≤65535
 tab:TabR wr wI.heap.size tp T1
 tl:T1.length≤X.length
 eq:R=(X++(zaj zb9 X.length (l.drop k) T1).1,(zaj zb9 X.length (l.drop k) T1).2)
 ext:Ext wI wr
 kc:KeptC tp w wr
def zGr (wI:World) (tp:Nat) (R:List UInt8×Tab) (w:World) (e:Ending) (w':World):Prop:=
 ((R.1.length≤65535∧e=.returned (.tuple #[S R.1,.bool true])∧TabR w' wI.heap.size tp R.2∧R.2.length≤R.1.length)∨(65535<R.1.length∧e=.returned (.tuple #[S [],.bool false])))∧Ext wI w'∧KeptC tp w w'
theorem zDw {wI w wo W:World} {tp k:Nat} {R:List UInt8×Tab} {l:List RecD} {X:List UInt8} {T1:Tab} {r:RecD} (hI:RpuI wI w tp R l k X T1 wo) (hl:l.drop k=r::l.drop (k+1)) (Y:List UInt8) (T2:Tab) (hY:zb9 X.length r T1=(Y,T2))
 (hx:X.length+Y.length≤65535) (ht:TabR W wI.heap.size tp T2) (cv:T2.length≤X.length+Y.length) (hE:Ext wI W) (hK:KeptC tp wo W):RpuI wI w tp R l (k+1) (X++Y) T2 W:=by
 refine⟨by rw[Z6];exact hx,ht,by rw[Z6];exact cv,?_,hE,hI.kc.trans hK⟩
 rw[hI.eq,hl];simp only[zaj];rw[hY];simp only[Z6,List.append_assoc]
theorem zDv {wI w wo:World} {tp k:Nat} {R:List UInt8×Tab} {l:List RecD} {X:List UInt8} {T1:Tab} {r:RecD} (hI:RpuI wI w tp R l k X T1 wo) (hl:l.drop k=r::l.drop (k+1)) (Y:List UInt8) (T2:Tab) (hY:zb9 X.length r T1=(Y,T2))
 (hx:65535<X.length+Y.length):65535<R.1.length:=by
 rw[hI.eq,hl];simp only[zaj];rw[hY];simp only[Z6];omega
theorem zu4 (wI:World) (tp:Nat) (T:Tab) (b:List UInt8) (v:Value) (l:List RecD) (w:World) (hv:Recs wI 0 v l) (aD:Ext wI w) (ht:TabR w wI.heap.size tp T) (hb:b.length≤65535) (hT:T.length≤b.length)
 (bJ:l.all zac=true) (bB:∀r∈l,r.wf∧r.data.length≤100000):
 Calls Tryz.prog 118 #[S b,.pointer (some ⟨tp,0,none⟩),v] w (zGr wI tp (b++(zaj zb9 b.length l T).1,(zaj zb9 b.length l T).2) w):=by
 obtain⟨R,hR⟩:∃R,R=(b++(zaj zb9 b.length l T).1,(zaj zb9 b.length l T).2):=⟨_,rfl⟩
 rw[←hR];have jP:RpuI wI w tp R l 0 b T w:=⟨hb,ht,hT,hR,aD,KeptC.refl _ _⟩
 obtain⟨A,c,rfl,h1,h2,ay⟩:=hv
 unfold maxLen at h2;clear hR;go_enter Tryz.func118,Tryz.ntmps118;go_wp2_with fail
 go_loopw [0,8] (fun s0 s8 wr=>∃(k:Nat) (X:List UInt8) (T1:Tab),k≤l.length∧s8=.int .i64 k∧s0=S X∧RpuI wI w tp R l k X T1 wr) (fun _ s8 _=>l.length - (intOf s8).toNat)
 case atStart=>exact⟨0,b,T,Nat.zero_le _,rfl,rfl,jP⟩
 case round=>
  clear jP;obtain⟨k,X,T1,hk,rfl,rfl,hI⟩:=hrel
  obtain⟨wo,rfl⟩:∃wo:World,wo=wr:=⟨_,rfl⟩
  by_cases ab:k<l.length
  ·obtain⟨bk,off,rfl,_,az,hc⟩:=ay.2 (by omega)
   obtain⟨x0,x1,x2,x3,x4⟩:=zfe hc k l[k] (Z3 ab)
   have HS:=Z7 (show l.drop k=l[k]::l.drop (k+1)from List.drop_eq_getElem_cons ab)
   have Dz:zac l[k]=true:=List.all_eq_true.1 bJ _ (List.getElem_mem ab)
   rw[zB5,Bool.and_eq_true]at Dz;obtain⟨cF,hdl⟩:=bB _ (List.getElem_mem ab)
   have oz:=cF.1
   have ki:=cF.2.1
   have Gt:=cF.2.2
   obtain⟨fh,gH⟩:=Dz
   generalize l[k]=r at*;obtain⟨nm,ty,cl,tt,da⟩:=r
   dsimp only at*;obtain⟨tyn,rfl⟩:=Int.eq_ofNat_of_zero_le oz.1
   obtain⟨cln,rfl⟩:=Int.eq_ofNat_of_zero_le ki.1
   obtain⟨ttn,rfl⟩:=Int.eq_ofNat_of_zero_le Gt.1
   have HC:=Z7 (fun V (hV:Ext wI V)=>(show V.cell? ⟨bk,off+k*5,none⟩=some (S nm)∧V.cell? ⟨bk,off+k*5+1,none⟩=some (.int .u16 (tyn:Int))∧V.cell? ⟨bk,off+k*5+2,none⟩=some (.int .u16 (cln:Int))∧V.cell? ⟨bk,off+k*5+3,none⟩=some (.int .u32 (ttn:Int))∧V.cell? ⟨bk,off+k*5+4,none⟩=some (S da)from
    ⟨(hV.cell (p:=⟨bk,off+k*5,none⟩) az).trans x0,(hV.cell (p:=⟨bk,off+k*5+1,none⟩) az).trans x1,(hV.cell (p:=⟨bk,off+k*5+2,none⟩) az).trans x2,(hV.cell (p:=⟨bk,off+k*5+3,none⟩) az).trans x3,(hV.cell (p:=⟨bk,off+k*5+4,none⟩) az).trans x4⟩))
   clear hc x0 x1 x2 x3 x4;have hx:=hI.xl
   have pw:=hI.ext.size
   obtain⟨N,hN⟩:∃N,N=putN true true X.length nm T1:=⟨_,rfl⟩
   have yd:N.1.length≤255:=by rw[hN];exact zgt true true X.length T1 fh
   have DA:N.2.length≤T1.length+N.1.length:=by rw[hN];exact zio true true X.length nm T1
   obtain⟨D,hD⟩:∃D,D=zdo (X.length+N.1.length+10) (tyn:Int) da N.2:=⟨_,rfl⟩
   have J3:D.2.length≤N.2.length+D.1.length:=by rw[hD];exact zzx _ _ _ _
   have HY:=Z7 (show zb9 X.length ⟨nm,(tyn:Int),(cln:Int),(ttn:Int),da⟩ T1=(N.1++(two tyn++two cln++zdp ttn)++two D.1.length++D.1,D.2)by rw[hD,hN];rfl)
   have pM:=Z7 (fun V (hV:Ext wo V)=>zl1 wI.heap.size tp T1 X nm true true V (hI.tab.ext hV) (by omega) hI.tl fh)
   rw[←hN]at pM;have HN:=Z7 hN
   have Gu:=Z7 hD
   clear hN hD;have kW:=Z7 (fun V=>zcr tyn V (by omega))
   have ka:=Z7 (fun V=>zcr cln V (by omega))
   have Gv:=Z7 (fun V=>zri ttn V (by omega))
   have lL:IntKind.u64.wrap (tyn:Int)=(tyn:Int):=IntWalk.u64_in _ (by omega)
   have kp:IntKind.u64.wrap (cln:Int)=(cln:Int):=IntWalk.u64_in _ (by omega)
   have Bh:IntKind.u64.wrap (ttn:Int)=(ttn:Int):=IntWalk.u64_in _ (by omega)
   have cz:(k:Int)<(l.length:Int):=by omega
   have cW:(0:Int)≤(k:Int):=by omega
   obtain⟨y0,y1,y2,y3,y4⟩:=HC.out wo hI.ext
   clear y1 y2 y3 y4;go_wp2_with fail;refine(pM.out _ (Z5 wo)).mono ?_;rintro e w5 ⟨rfl,jG,nL,mS⟩;have am:Ext wI w5:=Below.trans hI.ext nL
   dsimp only;go_upto_region 5 with fail
   have o0:=zah tyn
   have o1:=zah cln
   have o2:=zgp ttn
   have ov1:¬9223372036854775807<X.length+N.1.length+(two tyn).length:=by omega
   have ov2:¬9223372036854775807<X.length+(N.1.length+(two tyn).length)+(two cln).length:=by omega
   have ov3:¬9223372036854775807<X.length+(N.1.length+((two tyn).length+(two cln).length))+(zdp ttn).length:=by omega
   clear o0 o1 o2;refine wp_region_noPanic ?_;refine za6 (S:=(fun V=>V.cell? ⟨bk,off+k*5,none⟩=some (S nm)∧V.cell? ⟨bk,off+k*5+1,none⟩=some (.int .u16 (tyn:Int))∧V.cell? ⟨bk,off+k*5+2,none⟩=some (.int .u16 (cln:Int))∧V.cell? ⟨bk,off+k*5+3,none⟩=some (.int .u32 (ttn:Int))∧V.cell? ⟨bk,off+k*5+4,none⟩=some (S da))) (.take 0 (.take 1 (.take 2 (.take 3 (.take 4 (.take 5 (.take 6 (.take 9 (.take 10 (.take 11 (.take 12 (.take 13 (.take 14 (.take 17 (.take 18 (.take 19 (.take 20 (.take 21 (.take 22 (.run 7 (.take 8 (.run 15 (.take 16 (.run 23 (.take 24 (.take 25 (.done))))))))))))))))))))))))))) (by kernel_rfl) (by kernel_rfl) (fun _ _ _ _ _ h=>h) ((HC.out _ (am.trans (Z5 w5).drew))) ?_
   repeat((with_reducible refine za7 ?_);first
    |(refine za4 (v:=?_) (by rfl) (by rfl) ?_ ?_;rotate_left;(focus(intro V hV;(try dsimp only at hV);(go_simp<;>with_reducible rfl)));(try simp only[ap]))
    |(refine zaf (by rfl) (by rfl) ?_;(try simp only[ap])))
   refine za5 (by rfl) (fun K hK=>?_)
   go_simp;refine(kW.out _).mono ?_;rintro e w6 ⟨rfl,a6⟩;have d8:Ext w5 w6:=(Z5 w5).drew.trans a6
   clear a6;refine hK.out _ _ ?_ ?_
   ·exact(HC.out _ (am.trans d8))
   clear hK K
   (try simp only[ap])
   repeat((with_reducible refine za7 ?_);first
    |(refine za4 (v:=?_) (by rfl) (by rfl) ?_ ?_;rotate_left;(focus(intro V hV;(try dsimp only at hV);(go_simp<;>with_reducible rfl)));(try simp only[ap]))
    |(refine zaf (by rfl) (by rfl) ?_;(try simp only[ap])))
   refine za5 (by rfl) (fun K hK=>?_)
   go_simp;refine(ka.out _).mono ?_;rintro e w7 ⟨rfl,a6⟩;have eI:Ext w5 w7:=d8.trans a6
   clear a6;refine hK.out _ _ ?_ ?_
   ·exact(HC.out _ (am.trans eI))
   clear hK K
   (try simp only[ap])
   repeat((with_reducible refine za7 ?_);first
    |(refine za4 (v:=?_) (by rfl) (by rfl) ?_ ?_;rotate_left;(focus(intro V hV;(try dsimp only at hV);(go_simp<;>with_reducible rfl)));(try simp only[ap]))
    |(refine zaf (by rfl) (by rfl) ?_;(try simp only[ap])))
   refine za5 (by rfl) (fun K hK=>?_)
   go_simp;refine(Gv.out _).mono ?_;rintro e w8 ⟨rfl,a6⟩;have lX:Ext w5 w8:=eI.trans a6
   clear a6;refine hK.out _ _ ?_ ?_
   ·exact(HC.out _ (am.trans lX))
   clear hK K
   (try simp only[ap])
   repeat((with_reducible refine za7 ?_);first
    |(refine za4 (v:=?_) (by rfl) (by rfl) ?_ ?_;rotate_left;(focus(intro V hV;(try dsimp only at hV);(go_simp<;>with_reducible rfl)));(try simp only[ap]))
    |(refine zaf (by rfl) (by rfl) ?_;(try simp only[ap])))
   refine zag ?_;refine NoPanic.normal ?_;have dj:Ext wI w8:=am.trans lX
   obtain⟨s1,fP⟩:∃s1,s1=X++(N.1++(two tyn++(two cln++zdp ttn))):=⟨_,rfl⟩
   rw[←fP];have pN:=Z7 fP
   have fI:s1.length=X.length+N.1.length+8:=by rw[fP];simp only[Z6,zah,zgp];omega
   have mL:=Z7 fI
   have Gw:=jG.ext lX
   have HW:=Z7 (fun V (hV:Ext w8 V)=>zyn wI.heap.size tp N.2 (s1++[0,0]) (tyn:Int) da V (Gw.ext hV) (by rw[Z6];simp only[List.length_cons,List.length_nil];omega) (by rw[Z6];simp only[List.length_cons,List.length_nil];have:=hI.tl;omega) (by omega) gH)
   have aq:(s1++([0,0]:List UInt8)).length=X.length+N.1.length+10:=by rw[Z6,fI];rfl
   rw[aq,←Gu.out]at HW;unfold zkb at HW;obtain⟨U,hU⟩:∃U,U=s1++[0,0]++D.1:=⟨_,rfl⟩
   dsimp only at HW;rw[←hU]at HW;have Gx:=Z7 (show U.length=X.length+N.1.length+10+D.1.length by rw[hU,Z6,Z6,fI];rfl)
   have Gy:=Z7 (show List.take (U.length - (s1.length+2)) (List.drop (s1.length+2) U)=D.1 by
    have h1:List.drop (s1.length+2) U=D.1:=by rw[hU];exact List.drop_left' (by simp)
    rw[h1];exact List.take_of_length_le (by rw[hU];simp;omega))
   obtain⟨Y,kB⟩:∃Y,Y=N.1++(two tyn++two cln++zdp ttn)++two D.1.length++D.1:=⟨_,rfl⟩
   have oC:=Z7 kB
   have rC:=Z7 (show Y.length=N.1.length+10+D.1.length by rw[kB];simp only[Z6,zah,zgp];try omega)
   have ov4:¬9223372036854775807<s1.length+2:=by omega
   clear fP fI hU kB ov1 ov2 ov3;go_upto_region 7 with fail
   refine wp_region_noPanic ?_;refine za6 (S:=(fun V=>V.cell? ⟨bk,off+k*5,none⟩=some (S nm)∧V.cell? ⟨bk,off+k*5+1,none⟩=some (.int .u16 (tyn:Int))∧V.cell? ⟨bk,off+k*5+2,none⟩=some (.int .u16 (cln:Int))∧V.cell? ⟨bk,off+k*5+3,none⟩=some (.int .u32 (ttn:Int))∧V.cell? ⟨bk,off+k*5+4,none⟩=some (S da))) (.take 0 (.take 1 (.take 2 (.take 3 (.take 4 (.take 5 (.take 6 (.take 7 (.take 8 (.take 9 (.take 10 (.take 11 (.take 12 (.run 13 (.take 14 (.take 15 (.take 16 (.take 17 (.take 18 (.done)))))))))))))))))))) (by kernel_rfl) (by kernel_rfl) (fun _ _ _ _ _ h=>h) ((HC.out _ (dj.drew))) ?_
   repeat((with_reducible refine za7 ?_);first
    |(refine za4 (v:=?_) (by rfl) (by rfl) ?_ ?_;rotate_left;(focus(intro V hV;(try dsimp only at hV);(go_simp<;>with_reducible rfl)));(try simp only[ap]))
    |(refine zaf (by rfl) (by rfl) ?_;(try simp only[ap])))
   refine za5 (by rfl) (fun K hK=>?_)
   go_simp;refine(HW.out _ (Z5 w8).drew).mono ?_;rintro e w9 ⟨rfl,Gz,vq,vR⟩;have Aw:KeptC tp w8 w9:=(KeptC.ext (Z5 w8).drew).trans vR
   have ej:Ext wI w9:=Below.trans (dj.drew) vq
   clear vR vq;refine hK.out _ _ ?_ ?_
   ·exact(HC.out _ ej)
   clear hK K
   (try simp only[ap])
   repeat((with_reducible refine za7 ?_);first
    |(refine za4 (v:=?_) (by rfl) (by rfl) ?_ ?_;rotate_left;(focus(intro V hV;(try dsimp only at hV);(go_simp<;>with_reducible rfl)));(try simp only[ap]))
    |(refine zaf (by rfl) (by rfl) ?_;(try simp only[ap])))
   refine zag ?_;refine NoPanic.normal ?_
   (try dsimp only)
   have GA:U.length=X.length+N.1.length+10+D.1.length:=Gx.out
   by_cases ib:65535<U.length
   ·have vS:(65535:Int)<(U.length:Int):=by omega
    have HL:=Z7 (zDv hI HS.out Y D.2 (by rw[HY.out,oC.out]) (by rw[rC.out];omega))
    go_wp2_with fail
    go_ret2
    exact⟨.inr ⟨HL.out,rfl⟩,ej,hI.kc.trans (mS.trans ((KeptC.ext lX).trans Aw))⟩
   ·have vS:¬(65535:Int)<(U.length:Int):=by omega
    have GB:=Z7 (show X.length+Y.length≤65535 by rw[rC.out];omega)
    have GC:=Z7 (show D.2.length≤X.length+Y.length by rw[rC.out];have:=hI.tl;omega)
    have i4:(U.length:Int) - (s1.length:Int) - 2=(D.1.length:Int):=by have:=mL.out;omega
    have J4:IntKind.u64.wrap (D.1.length:Int)=(D.1.length:Int):=IntWalk.u64_in _ (by omega)
    have GD:=Z7 (fun V=>zcr D.1.length V (by omega))
    have uL:s1.length+2≤U.length:=by have:=mL.out;omega
    have GE:(s1.length:Int)+2≤(U.length:Int):=by omega
    have GF:(0:Int)≤(s1.length:Int)+2:=by omega
    have GG:=zah D.1.length
    have ov5:¬9223372036854775807<s1.length+(two D.1.length).length:=by omega
    have ov6:¬9223372036854775807<s1.length+(two D.1.length).length+D.1.length:=by omega
    clear GG;have GH:IntKind.i64.wrap ((U.length:Int) - (s1.length:Int))=(U.length:Int) - (s1.length:Int):=IntWalk.i64_in _ (by omega)
    have GI:IntKind.i64.wrap (D.1.length:Int)=(D.1.length:Int):=IntWalk.i64_in _ (by omega)
    have J5:IntKind.i64.wrap ((s1.length:Int)+2)=(s1.length:Int)+2:=IntWalk.i64_in _ (by omega)
    have DB:((s1.length:Int)+2).toNat=s1.length+2:=by omega
    have af:List.take (U.length - (s1.length+2)) (List.drop (s1.length+2) U)=D.1:=Gy.out
    clear GA;go_upto_region 10 with fail
    refine wp_region_noPanic ?_;refine za6 (S:=(fun V=>Ext w9 V)) (.take 0 (.take 1 (.take 2 (.take 3 (.take 4 (.take 5 (.take 6 (.take 9 (.take 10 (.take 11 (.take 12 (.run 7 (.take 8 (.take 13 (.take 14 (.done)))))))))))))))) (by kernel_rfl) (by kernel_rfl) (fun _ _ _ _ _ h=>h) (((Z5 w9).drew)) ?_
    repeat((with_reducible refine za7 ?_);first
     |(refine za4 (v:=?_) (by rfl) (by rfl) ?_ ?_;rotate_left;(focus(intro V hV;(try dsimp only at hV);(go_simp<;>with_reducible rfl)));(try simp only[ap]))
     |(refine zaf (by rfl) (by rfl) ?_;(try simp only[ap])))
    refine za5 (by rfl) (fun K hK=>?_)
    go_simp;refine(GD.out _).mono ?_;rintro e w10 ⟨rfl,a6⟩;have jQ:Ext w9 w10:=Ext.trans ((Z5 w9).drew) a6
    clear a6;refine hK.out _ _ ?_ ?_
    ·exact jQ
    clear hK K
    (try simp only[ap])
    repeat((with_reducible refine za7 ?_);first
     |(refine za4 (v:=?_) (by rfl) (by rfl) ?_ ?_;rotate_left;(focus(intro V hV;(try dsimp only at hV);(go_simp<;>with_reducible rfl)));(try simp only[ap]))
     |(refine zaf (by rfl) (by rfl) ?_;(try simp only[ap])))
    refine zag ?_;refine NoPanic.normal ?_;go_wp2_with fail;go_roundw
    case rel=>exact⟨k+1,X++Y,D.2,by omega,by go_num,by rw[oC.out,pN.out];simp only[List.append_assoc],zDw hI HS.out Y D.2 (by rw[HY.out,oC.out]) GB.out (Gz.ext jQ) GC.out (ej.trans jQ) ((mS.trans (KeptC.ext lX)).trans (Aw.trans (KeptC.ext jQ)))⟩
    case measure=>simp[intOf];omega
  ·obtain rfl:k=l.length:=by omega
   have HF:=Z7 (show R=(X,T1)by rw[hI.eq,List.drop_length];simp[zaj])
   go_wp2_with fail
   go_ret2
   rw[HF.out];exact⟨.inl ⟨hI.xl,rfl,hI.tab,hI.tl⟩,hI.ext,hI.kc⟩
theorem zyo (e:EdD) (v:Value) (w:World) (hv:Opts w 0 v e.opts):Calls Tryz.prog 50 #[edV e v,.agg #[.int .u16 0,.int .u8 0,.int .u8 0,.int .u16 0,.slice none 0 0]] w fun x w'=>x=.returned (.bool (zcd e))∧Ext w w':=by
 obtain⟨sz,ex,ve,fl,l⟩:=e
 dsimp only at hv ⊢;obtain⟨A,c,rfl,lD,iU,ay⟩:=hv
 unfold maxLen at iU;have HZ:=Z7 (show zcd ⟨sz,ex,ve,fl,l⟩=(decide (sz=0∧ex=0∧ve=0∧fl=0)&&l.isEmpty)from rfl)
 obtain⟨X0,ar⟩:∃X0,X0=(w.alloc (.cells #[.int .u16 sz,.int .u8 ex,.int .u8 ve,.int .u16 fl,.slice A l.length c] 43)).alloc (.cells #[.int .u16 0,.int .u8 0,.int .u8 0,.int .u16 0,.slice none 0 0] 43):=⟨_,rfl⟩
 have aP:Ext w X0:=by rw[ar];exact((Z5 _).alloc _).alloc _
 have r1:X0.heap[w.heap.size+1]? =some (.cells #[.int .u16 0,.int .u8 0,.int .u8 0,.int .u16 0,.slice none 0 0] 43):=by rw[ar];exact heap_alloc2_new w _ _
 have r0:X0.heap[w.heap.size]? =some (.cells #[.int .u16 sz,.int .u8 ex,.int .u8 ve,.int .u16 fl,.slice A l.length c] 43):=by rw[ar];exact heap_alloc2_old w _ _
 by_cases h1:sz=0
 rotate_left
 ·have f:(sz==0)=false:=by rw[beq_eq_false_iff_ne];exact h1
  have hF:zcd ⟨sz,ex,ve,fl,l⟩=false:=by
   rw[HZ.out,decide_eq_false (fun hh=>h1 hh.1)];rfl
  rw[hF];go_enter Tryz.func50,Tryz.ntmps50;go_upto_region 1 with fail
  have aW:(w.alloc (.cells #[.int .u16 sz,.int .u8 ex,.int .u8 ve,.int .u16 fl,.slice A l.length c] 43)).alloc (.cells #[.int .u16 0,.int .u8 0,.int .u8 0,.int .u16 0,.slice none 0 0] 43)=X0:=ar.symm
  rw[aW];clear aW ar;have x0:=za0 (j:=0) r0 rfl
  have y0:=za0 (j:=0) r1 rfl
  have x1:=za0 (j:=1) r0 rfl
  have y1:=za0 (j:=1) r1 rfl
  have x2:=za0 (j:=2) r0 rfl
  have y2:=za0 (j:=2) r1 rfl
  have x3:=za0 (j:=3) r0 rfl
  have y3:=za0 (j:=3) r1 rfl
  have x4:=za0 (j:=4) r0 rfl
  have y4:=za0 (j:=4) r1 rfl
  go_wp2_with fail;go_ret;exact⟨rfl,aP⟩
 subst h1;by_cases h2:ex=0
 rotate_left
 ·have f:(ex==0)=false:=by rw[beq_eq_false_iff_ne];exact h2
  have hF:zcd ⟨0,ex,ve,fl,l⟩=false:=by
   rw[HZ.out,decide_eq_false (fun hh=>h2 hh.2.1)];rfl
  rw[hF];go_enter Tryz.func50,Tryz.ntmps50;go_upto_region 1 with fail
  have aW:(w.alloc (.cells #[.int .u16 0,.int .u8 ex,.int .u8 ve,.int .u16 fl,.slice A l.length c] 43)).alloc (.cells #[.int .u16 0,.int .u8 0,.int .u8 0,.int .u16 0,.slice none 0 0] 43)=X0:=ar.symm
  rw[aW];clear aW ar;have x0:=za0 (j:=0) r0 rfl
  have y0:=za0 (j:=0) r1 rfl
  have x1:=za0 (j:=1) r0 rfl
  have y1:=za0 (j:=1) r1 rfl
  have x2:=za0 (j:=2) r0 rfl
  have y2:=za0 (j:=2) r1 rfl
  have x3:=za0 (j:=3) r0 rfl
  have y3:=za0 (j:=3) r1 rfl
  have x4:=za0 (j:=4) r0 rfl
  have y4:=za0 (j:=4) r1 rfl
  go_wp2_with fail;go_ret;exact⟨rfl,aP⟩
 subst h2;by_cases h3:ve=0
 rotate_left
 ·have f:(ve==0)=false:=by rw[beq_eq_false_iff_ne];exact h3
  have hF:zcd ⟨0,0,ve,fl,l⟩=false:=by
   rw[HZ.out,decide_eq_false (fun hh=>h3 hh.2.2.1)];rfl
  rw[hF];go_enter Tryz.func50,Tryz.ntmps50;go_upto_region 1 with fail
  have aW:(w.alloc (.cells #[.int .u16 0,.int .u8 0,.int .u8 ve,.int .u16 fl,.slice A l.length c] 43)).alloc (.cells #[.int .u16 0,.int .u8 0,.int .u8 0,.int .u16 0,.slice none 0 0] 43)=X0:=ar.symm
  rw[aW];clear aW ar;have x0:=za0 (j:=0) r0 rfl
  have y0:=za0 (j:=0) r1 rfl
  have x1:=za0 (j:=1) r0 rfl
  have y1:=za0 (j:=1) r1 rfl
  have x2:=za0 (j:=2) r0 rfl
  have y2:=za0 (j:=2) r1 rfl
  have x3:=za0 (j:=3) r0 rfl
  have y3:=za0 (j:=3) r1 rfl
  have x4:=za0 (j:=4) r0 rfl
  have y4:=za0 (j:=4) r1 rfl
  go_wp2_with fail;go_ret;exact⟨rfl,aP⟩
 subst h3;by_cases h4:fl=0
 rotate_left
 ·have f:(fl==0)=false:=by rw[beq_eq_false_iff_ne];exact h4
  have hF:zcd ⟨0,0,0,fl,l⟩=false:=by
   rw[HZ.out,decide_eq_false (fun hh=>h4 hh.2.2.2)];rfl
  rw[hF];go_enter Tryz.func50,Tryz.ntmps50;go_upto_region 1 with fail
  have aW:(w.alloc (.cells #[.int .u16 0,.int .u8 0,.int .u8 0,.int .u16 fl,.slice A l.length c] 43)).alloc (.cells #[.int .u16 0,.int .u8 0,.int .u8 0,.int .u16 0,.slice none 0 0] 43)=X0:=ar.symm
  rw[aW];clear aW ar;have x0:=za0 (j:=0) r0 rfl
  have y0:=za0 (j:=0) r1 rfl
  have x1:=za0 (j:=1) r0 rfl
  have y1:=za0 (j:=1) r1 rfl
  have x2:=za0 (j:=2) r0 rfl
  have y2:=za0 (j:=2) r1 rfl
  have x3:=za0 (j:=3) r0 rfl
  have y3:=za0 (j:=3) r1 rfl
  have x4:=za0 (j:=4) r0 rfl
  have y4:=za0 (j:=4) r1 rfl
  go_wp2_with fail;go_ret;exact⟨rfl,aP⟩
 subst h4;by_cases h5:l.length=0
 ·have hl:l=[]:=List.length_eq_zero_iff.1 h5
  subst hl;have hF:zcd ⟨0,0,0,0,[]⟩=true:=rfl
  rw[hF];go_enter Tryz.func50,Tryz.ntmps50;go_upto_region 1 with fail
  have aW:(w.alloc (.cells #[.int .u16 0,.int .u8 0,.int .u8 0,.int .u16 0,.slice A 0 c] 43)).alloc (.cells #[.int .u16 0,.int .u8 0,.int .u8 0,.int .u16 0,.slice none 0 0] 43)=X0:=ar.symm
  rw[aW];clear aW ar;have x0:=za0 (j:=0) r0 rfl
  have y0:=za0 (j:=0) r1 rfl
  have x1:=za0 (j:=1) r0 rfl
  have y1:=za0 (j:=1) r1 rfl
  have x2:=za0 (j:=2) r0 rfl
  have y2:=za0 (j:=2) r1 rfl
  have x3:=za0 (j:=3) r0 rfl
  have y3:=za0 (j:=3) r1 rfl
  have x4:X0.cell? ⟨w.heap.size,4,none⟩=some (.slice A 0 c):=za0 (j:=4) r0 rfl
  have y4:=za0 (j:=4) r1 rfl
  go_wp2_with fail
  go_loop [5] (fun s5=>s5=.int .i64 0) (fun _=>0)
  case atStart=>rfl
  case round=>
   obtain rfl:=hrel
   go_wp2_with fail;go_ret;exact⟨rfl,aP⟩
 ·have f:((l.length:Int)==0)=false:=zbm h5
  have hF:zcd ⟨0,0,0,0,l⟩=false:=by
   rw[HZ.out];rcases l with _|⟨a,l⟩
   ·exact absurd rfl h5
   ·rfl
  rw[hF];go_enter Tryz.func50,Tryz.ntmps50;go_upto_region 1 with fail
  have aW:(w.alloc (.cells #[.int .u16 0,.int .u8 0,.int .u8 0,.int .u16 0,.slice A l.length c] 43)).alloc (.cells #[.int .u16 0,.int .u8 0,.int .u8 0,.int .u16 0,.slice none 0 0] 43)=X0:=ar.symm
  rw[aW];clear aW ar;have x0:=za0 (j:=0) r0 rfl
  have y0:=za0 (j:=0) r1 rfl
  have x1:=za0 (j:=1) r0 rfl
  have y1:=za0 (j:=1) r1 rfl
  have x2:=za0 (j:=2) r0 rfl
  have y2:=za0 (j:=2) r1 rfl
  have x3:=za0 (j:=3) r0 rfl
  have y3:=za0 (j:=3) r1 rfl
  have x4:=za0 (j:=4) r0 rfl
  have y4:=za0 (j:=4) r1 rfl
  go_wp2_with fail;go_ret;exact⟨rfl,aP⟩
end Go.Proofs.YtdnpmapelmjfpaaGreatDoor
