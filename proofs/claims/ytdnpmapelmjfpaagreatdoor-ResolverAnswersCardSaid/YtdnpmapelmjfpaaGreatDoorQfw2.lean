/- Contracts of functions and plain lemmas that the proofs of this seat share (joined texts). No condition. -/
import Derived.Test.YtdnpmapelmjfpaaGreatDoorQfw1
set_option maxHeartbeats 4000000
set_option linter.unusedVariables false
set_option linter.unusedSimpArgs false
namespace Go.Proofs.YtdnpmapelmjfpaaGreatDoor
open Go.RowKit
set_option maxRecDepth 100000
structure RpuI (wI w:World) (tp:Nat) (R:List UInt8×Tab) (l:List RecD) (k:Nat) (X:List UInt8) (T1:Tab) (wr:World):Prop where
 xl:X.length≤65535
 tab:TabR wr wI.heap.size tp T1
 tl:T1.length≤X.length
 eq:R=(X++(zal zbf X.length (l.drop k) T1).1,(zal zbf X.length (l.drop k) T1).2)
 ext:Ext wI wr
 kc:KeptC tp w wr
def zF5 (wI:World) (tp:Nat) (R:List UInt8×Tab) (w:World) (e:Ending) (w':World):Prop:=
 ((R.1.length≤65535∧e=.returned (.tuple #[S R.1,.bool true])∧TabR w' wI.heap.size tp R.2∧R.2.length≤R.1.length)∨(65535<R.1.length∧e=.returned (.tuple #[S [],.bool false])))∧Ext wI w'∧KeptC tp w w'
theorem zC5 {wI w wo W:World} {tp k:Nat} {R:List UInt8×Tab} {l:List RecD} {X:List UInt8} {T1:Tab} {r:RecD} (hI:RpuI wI w tp R l k X T1 wo) (hl:l.drop k=r::l.drop (k+1)) (Y:List UInt8) (T2:Tab) (hY:zbf X.length r T1=(Y,T2))
 (hx:X.length+Y.length≤65535) (ht:TabR W wI.heap.size tp T2) (htl:T2.length≤X.length+Y.length) (hE:Ext wI W) (hK:KeptC tp wo W):RpuI wI w tp R l (k+1) (X++Y) T2 W:=by
 refine⟨by rw[List.length_append];exact hx,ht,by rw[List.length_append];exact htl,?_,hE,hI.kc.trans hK⟩
 rw[hI.eq,hl];simp only[zal];rw[hY];simp only[List.length_append,List.append_assoc]
theorem zC4 {wI w wo:World} {tp k:Nat} {R:List UInt8×Tab} {l:List RecD} {X:List UInt8} {T1:Tab} {r:RecD} (hI:RpuI wI w tp R l k X T1 wo) (hl:l.drop k=r::l.drop (k+1)) (Y:List UInt8) (T2:Tab) (hY:zbf X.length r T1=(Y,T2))
 (hx:65535<X.length+Y.length):65535<R.1.length:=by
 rw[hI.eq,hl];simp only[zal];rw[hY];simp only[List.length_append];omega
theorem zss (wI:World) (tp:Nat) (T:Tab) (b:List UInt8) (v:Value) (l:List RecD) (w:World) (hv:Recs wI 0 v l) (hE0:Ext wI w) (ht:TabR w wI.heap.size tp T) (hb:b.length≤65535) (hT:T.length≤b.length)
 (hall:l.all zae=true) (hok:∀r∈l,r.wf∧r.data.length≤100000):
 Calls Tryz.prog 118 #[S b,.pointer (some ⟨tp,0,none⟩),v] w (zF5 wI tp (b++(zal zbf b.length l T).1,(zal zbf b.length l T).2) w):=by
 obtain⟨R,hR⟩:∃R,R=(b++(zal zbf b.length l T).1,(zal zbf b.length l T).2):=⟨_,rfl⟩
 rw[←hR];have hI0:RpuI wI w tp R l 0 b T w:=⟨hb,ht,hT,hR,hE0,KeptC.refl _ _⟩
 obtain⟨A,c,rfl,h1,h2,hrd⟩:=hv
 unfold maxLen at h2;clear hR;go_enter Tryz.func118,Tryz.ntmps118;go_wp2_with fail
 go_loopw [0,8] (fun s0 s8 wr=>∃(k:Nat) (X:List UInt8) (T1:Tab),k≤l.length∧s8=.int .i64 k∧s0=S X∧RpuI wI w tp R l k X T1 wr) (fun _ s8 _=>l.length - (intOf s8).toNat)
 case atStart=>exact⟨0,b,T,Nat.zero_le _,rfl,rfl,hI0⟩
 case round=>
  clear hI0;obtain⟨k,X,T1,hk,rfl,rfl,hI⟩:=hrel
  obtain⟨wo,rfl⟩:∃wo:World,wo=wr:=⟨_,rfl⟩
  by_cases hlt:k<l.length
  ·obtain⟨bk,off,rfl,_,hbz,hc⟩:=hrd.2 (by omega)
   obtain⟨x0,x1,x2,x3,x4⟩:=zdb hc k l[k] (List.getElem?_eq_getElem hlt)
   have HS:=Lib.hid (show l.drop k=l[k]::l.drop (k+1)from List.drop_eq_getElem_cons hlt)
   have hro:zae l[k]=true:=List.all_eq_true.1 hall _ (List.getElem_mem hlt)
   rw[zzd,Bool.and_eq_true]at hro;obtain⟨hwf,hdl⟩:=hok _ (List.getElem_mem hlt)
   have ht1:=hwf.1
   have ht2:=hwf.2.1
   have ht3:=hwf.2.2
   obtain⟨hnm,hrm⟩:=hro
   generalize l[k]=r at*;obtain⟨nm,ty,cl,tt,da⟩:=r
   dsimp only at*;obtain⟨tyn,rfl⟩:=Int.eq_ofNat_of_zero_le ht1.1
   obtain⟨cln,rfl⟩:=Int.eq_ofNat_of_zero_le ht2.1
   obtain⟨ttn,rfl⟩:=Int.eq_ofNat_of_zero_le ht3.1
   have HC:=Lib.hid (fun V (hV:Ext wI V)=>(show V.cell? ⟨bk,off+k*5,none⟩=some (S nm)∧V.cell? ⟨bk,off+k*5+1,none⟩=some (.int .u16 (tyn:Int))∧V.cell? ⟨bk,off+k*5+2,none⟩=some (.int .u16 (cln:Int))∧V.cell? ⟨bk,off+k*5+3,none⟩=some (.int .u32 (ttn:Int))∧V.cell? ⟨bk,off+k*5+4,none⟩=some (S da)from
    ⟨(hV.cell (p:=⟨bk,off+k*5,none⟩) hbz).trans x0,(hV.cell (p:=⟨bk,off+k*5+1,none⟩) hbz).trans x1,(hV.cell (p:=⟨bk,off+k*5+2,none⟩) hbz).trans x2,(hV.cell (p:=⟨bk,off+k*5+3,none⟩) hbz).trans x3,(hV.cell (p:=⟨bk,off+k*5+4,none⟩) hbz).trans x4⟩))
   clear hc x0 x1 x2 x3 x4;have hx:=hI.xl
   have hwl:=hI.ext.size
   obtain⟨N,hN⟩:∃N,N=putN true true X.length nm T1:=⟨_,rfl⟩
   have hNl:N.1.length≤255:=by rw[hN];exact zfy true true X.length T1 hnm
   have hNt:N.2.length≤T1.length+N.1.length:=by rw[hN];exact zi9 true true X.length nm T1
   obtain⟨D,hD⟩:∃D,D=zdq (X.length+N.1.length+10) (tyn:Int) da N.2:=⟨_,rfl⟩
   have hDt:D.2.length≤N.2.length+D.1.length:=by rw[hD];exact zye _ _ _ _
   have HY:=Lib.hid (show zbf X.length ⟨nm,(tyn:Int),(cln:Int),(ttn:Int),da⟩ T1=(N.1++(two tyn++two cln++zdt ttn)++two D.1.length++D.1,D.2)by rw[hD,hN];rfl)
   have HP0:=Lib.hid (fun V (hV:Ext wo V)=>zka wI.heap.size tp T1 X nm true true V (hI.tab.ext hV) (by omega) hI.tl hnm)
   rw[←hN]at HP0;have HN:=Lib.hid hN
   have HDd:=Lib.hid hD
   clear hN hD;have HP1:=Lib.hid (fun V=>zct tyn V (by omega))
   have HP2:=Lib.hid (fun V=>zct cln V (by omega))
   have HP4:=Lib.hid (fun V=>zqh ttn V (by omega))
   have hu1:IntKind.u64.wrap (tyn:Int)=(tyn:Int):=IntWalk.u64_in _ (by omega)
   have hu2:IntKind.u64.wrap (cln:Int)=(cln:Int):=IntWalk.u64_in _ (by omega)
   have hu3:IntKind.u64.wrap (ttn:Int)=(ttn:Int):=IntWalk.u64_in _ (by omega)
   have hki:(k:Int)<(l.length:Int):=by omega
   have hk0:(0:Int)≤(k:Int):=by omega
   obtain⟨y0,y1,y2,y3,y4⟩:=HC.out wo hI.ext
   clear y1 y2 y3 y4;go_wp2_with fail;refine(HP0.out _ (Ext.refl wo)).mono ?_;rintro e w5 ⟨rfl,hT5,hB5,hK5⟩;have hE5:Ext wI w5:=Below.trans hI.ext hB5
   dsimp only;go_upto_region 5 with fail
   have o0:=zak tyn
   have o1:=zak cln
   have o2:=zfx ttn
   have ov1:¬9223372036854775807<X.length+N.1.length+(two tyn).length:=by omega
   have ov2:¬9223372036854775807<X.length+(N.1.length+(two tyn).length)+(two cln).length:=by omega
   have ov3:¬9223372036854775807<X.length+(N.1.length+((two tyn).length+(two cln).length))+(zdt ttn).length:=by omega
   clear o0 o1 o2;refine wp_region_noPanic ?_;refine zac (S:=(fun V=>V.cell? ⟨bk,off+k*5,none⟩=some (S nm)∧V.cell? ⟨bk,off+k*5+1,none⟩=some (.int .u16 (tyn:Int))∧V.cell? ⟨bk,off+k*5+2,none⟩=some (.int .u16 (cln:Int))∧V.cell? ⟨bk,off+k*5+3,none⟩=some (.int .u32 (ttn:Int))∧V.cell? ⟨bk,off+k*5+4,none⟩=some (S da))) (.take 0 (.take 1 (.take 2 (.take 3 (.take 4 (.take 5 (.take 6 (.take 9 (.take 10 (.take 11 (.take 12 (.take 13 (.take 14 (.take 17 (.take 18 (.take 19 (.take 20 (.take 21 (.take 22 (.run 7 (.take 8 (.run 15 (.take 16 (.run 23 (.take 24 (.take 25 (.done))))))))))))))))))))))))))) (by kernel_rfl) (by kernel_rfl) (fun _ _ _ _ _ h=>h) ((HC.out _ (hE5.trans (Ext.refl w5).drew))) ?_
   repeat((with_reducible refine za9 ?_);first
    |(refine za2 (v:=?_) (by rfl) (by rfl) ?_ ?_;rotate_left;(focus(intro V hV;(try dsimp only at hV);(go_simp<;>with_reducible rfl)));(try simp only[ap]))
    |(refine zas (by rfl) (by rfl) ?_;(try simp only[ap])))
   refine za3 (by rfl) (fun K hK=>?_)
   go_simp;refine(HP1.out _).mono ?_;rintro e w6 ⟨rfl,hEq⟩;have hE56:Ext w5 w6:=(Ext.refl w5).drew.trans hEq
   clear hEq;refine hK.out _ _ ?_ ?_
   ·exact(HC.out _ (hE5.trans hE56))
   clear hK K
   (try simp only[ap])
   repeat((with_reducible refine za9 ?_);first
    |(refine za2 (v:=?_) (by rfl) (by rfl) ?_ ?_;rotate_left;(focus(intro V hV;(try dsimp only at hV);(go_simp<;>with_reducible rfl)));(try simp only[ap]))
    |(refine zas (by rfl) (by rfl) ?_;(try simp only[ap])))
   refine za3 (by rfl) (fun K hK=>?_)
   go_simp;refine(HP2.out _).mono ?_;rintro e w7 ⟨rfl,hEq⟩;have hE57:Ext w5 w7:=hE56.trans hEq
   clear hEq;refine hK.out _ _ ?_ ?_
   ·exact(HC.out _ (hE5.trans hE57))
   clear hK K
   (try simp only[ap])
   repeat((with_reducible refine za9 ?_);first
    |(refine za2 (v:=?_) (by rfl) (by rfl) ?_ ?_;rotate_left;(focus(intro V hV;(try dsimp only at hV);(go_simp<;>with_reducible rfl)));(try simp only[ap]))
    |(refine zas (by rfl) (by rfl) ?_;(try simp only[ap])))
   refine za3 (by rfl) (fun K hK=>?_)
   go_simp;refine(HP4.out _).mono ?_;rintro e w8 ⟨rfl,hEq⟩;have hE58:Ext w5 w8:=hE57.trans hEq
   clear hEq;refine hK.out _ _ ?_ ?_
   ·exact(HC.out _ (hE5.trans hE58))
   clear hK K
   (try simp only[ap])
   repeat((with_reducible refine za9 ?_);first
    |(refine za2 (v:=?_) (by rfl) (by rfl) ?_ ?_;rotate_left;(focus(intro V hV;(try dsimp only at hV);(go_simp<;>with_reducible rfl)));(try simp only[ap]))
    |(refine zas (by rfl) (by rfl) ?_;(try simp only[ap])))
   refine zar ?_;refine NoPanic.normal ?_;have hE8:Ext wI w8:=hE5.trans hE58
   obtain⟨s1,hs1⟩:∃s1,s1=X++(N.1++(two tyn++(two cln++zdt ttn))):=⟨_,rfl⟩
   rw[←hs1];have HS1:=Lib.hid hs1
   have hs1l:s1.length=X.length+N.1.length+8:=by rw[hs1];simp only[List.length_append,zak,zfx];omega
   have Hs1:=Lib.hid hs1l
   have hT8:=hT5.ext hE58
   have HW:=Lib.hid (fun V (hV:Ext w8 V)=>zx9 wI.heap.size tp N.2 (s1++[0,0]) (tyn:Int) da V (hT8.ext hV) (by rw[List.length_append];simp only[List.length_cons,List.length_nil];omega) (by rw[List.length_append];simp only[List.length_cons,List.length_nil];have:=hI.tl;omega) (by omega) hrm)
   have hlen:(s1++([0,0]:List UInt8)).length=X.length+N.1.length+10:=by rw[List.length_append,hs1l];rfl
   rw[hlen,←HDd.out]at HW;unfold zjq at HW;obtain⟨U,hU⟩:∃U,U=s1++[0,0]++D.1:=⟨_,rfl⟩
   dsimp only at HW;rw[←hU]at HW;have HUl:=Lib.hid (show U.length=X.length+N.1.length+10+D.1.length by rw[hU,List.length_append,List.length_append,hs1l];rfl)
   have HUd:=Lib.hid (show List.take (U.length - (s1.length+2)) (List.drop (s1.length+2) U)=D.1 by
    have h1:List.drop (s1.length+2) U=D.1:=by rw[hU];exact List.drop_left' (by simp)
    rw[h1];exact List.take_of_length_le (by rw[hU];simp;omega))
   obtain⟨Y,hYv⟩:∃Y,Y=N.1++(two tyn++two cln++zdt ttn)++two D.1.length++D.1:=⟨_,rfl⟩
   have HYv:=Lib.hid hYv
   have HYl:=Lib.hid (show Y.length=N.1.length+10+D.1.length by rw[hYv];simp only[List.length_append,zak,zfx];try omega)
   have ov4:¬9223372036854775807<s1.length+2:=by omega
   clear hs1 hs1l hU hYv ov1 ov2 ov3;go_upto_region 7 with fail
   refine wp_region_noPanic ?_;refine zac (S:=(fun V=>V.cell? ⟨bk,off+k*5,none⟩=some (S nm)∧V.cell? ⟨bk,off+k*5+1,none⟩=some (.int .u16 (tyn:Int))∧V.cell? ⟨bk,off+k*5+2,none⟩=some (.int .u16 (cln:Int))∧V.cell? ⟨bk,off+k*5+3,none⟩=some (.int .u32 (ttn:Int))∧V.cell? ⟨bk,off+k*5+4,none⟩=some (S da))) (.take 0 (.take 1 (.take 2 (.take 3 (.take 4 (.take 5 (.take 6 (.take 7 (.take 8 (.take 9 (.take 10 (.take 11 (.take 12 (.run 13 (.take 14 (.take 15 (.take 16 (.take 17 (.take 18 (.done)))))))))))))))))))) (by kernel_rfl) (by kernel_rfl) (fun _ _ _ _ _ h=>h) ((HC.out _ (hE8.drew))) ?_
   repeat((with_reducible refine za9 ?_);first
    |(refine za2 (v:=?_) (by rfl) (by rfl) ?_ ?_;rotate_left;(focus(intro V hV;(try dsimp only at hV);(go_simp<;>with_reducible rfl)));(try simp only[ap]))
    |(refine zas (by rfl) (by rfl) ?_;(try simp only[ap])))
   refine za3 (by rfl) (fun K hK=>?_)
   go_simp;refine(HW.out _ (Ext.refl w8).drew).mono ?_;rintro e w9 ⟨rfl,hT9,hB9,hK9'⟩;have hK9:KeptC tp w8 w9:=(KeptC.ext (Ext.refl w8).drew).trans hK9'
   have hE9:Ext wI w9:=Below.trans (hE8.drew) hB9
   clear hK9' hB9;refine hK.out _ _ ?_ ?_
   ·exact(HC.out _ hE9)
   clear hK K
   (try simp only[ap])
   repeat((with_reducible refine za9 ?_);first
    |(refine za2 (v:=?_) (by rfl) (by rfl) ?_ ?_;rotate_left;(focus(intro V hV;(try dsimp only at hV);(go_simp<;>with_reducible rfl)));(try simp only[ap]))
    |(refine zas (by rfl) (by rfl) ?_;(try simp only[ap])))
   refine zar ?_;refine NoPanic.normal ?_
   (try dsimp only)
   have hul:U.length=X.length+N.1.length+10+D.1.length:=HUl.out
   by_cases hbig:65535<U.length
   ·have hbi:(65535:Int)<(U.length:Int):=by omega
    have HL:=Lib.hid (zC4 hI HS.out Y D.2 (by rw[HY.out,HYv.out]) (by rw[HYl.out];omega))
    go_wp2_with fail
    go_ret2
    exact⟨.inr ⟨HL.out,rfl⟩,hE9,hI.kc.trans (hK5.trans ((KeptC.ext hE58).trans hK9))⟩
   ·have hbi:¬(65535:Int)<(U.length:Int):=by omega
    have HYs:=Lib.hid (show X.length+Y.length≤65535 by rw[HYl.out];omega)
    have HYt:=Lib.hid (show D.2.length≤X.length+Y.length by rw[HYl.out];have:=hI.tl;omega)
    have hdn:(U.length:Int) - (s1.length:Int) - 2=(D.1.length:Int):=by have:=Hs1.out;omega
    have hu4:IntKind.u64.wrap (D.1.length:Int)=(D.1.length:Int):=IntWalk.u64_in _ (by omega)
    have HPd:=Lib.hid (fun V=>zct D.1.length V (by omega))
    have hsl:s1.length+2≤U.length:=by have:=Hs1.out;omega
    have hsli:(s1.length:Int)+2≤(U.length:Int):=by omega
    have hsl0:(0:Int)≤(s1.length:Int)+2:=by omega
    have h22:=zak D.1.length
    have ov5:¬9223372036854775807<s1.length+(two D.1.length).length:=by omega
    have ov6:¬9223372036854775807<s1.length+(two D.1.length).length+D.1.length:=by omega
    clear h22;have hiw1:IntKind.i64.wrap ((U.length:Int) - (s1.length:Int))=(U.length:Int) - (s1.length:Int):=IntWalk.i64_in _ (by omega)
    have hiw2:IntKind.i64.wrap (D.1.length:Int)=(D.1.length:Int):=IntWalk.i64_in _ (by omega)
    have hiw:IntKind.i64.wrap ((s1.length:Int)+2)=(s1.length:Int)+2:=IntWalk.i64_in _ (by omega)
    have htn:((s1.length:Int)+2).toNat=s1.length+2:=by omega
    have hdr:List.take (U.length - (s1.length+2)) (List.drop (s1.length+2) U)=D.1:=HUd.out
    clear hul;go_upto_region 10 with fail
    refine wp_region_noPanic ?_;refine zac (S:=(fun V=>Ext w9 V)) (.take 0 (.take 1 (.take 2 (.take 3 (.take 4 (.take 5 (.take 6 (.take 9 (.take 10 (.take 11 (.take 12 (.run 7 (.take 8 (.take 13 (.take 14 (.done)))))))))))))))) (by kernel_rfl) (by kernel_rfl) (fun _ _ _ _ _ h=>h) (((Ext.refl w9).drew)) ?_
    repeat((with_reducible refine za9 ?_);first
     |(refine za2 (v:=?_) (by rfl) (by rfl) ?_ ?_;rotate_left;(focus(intro V hV;(try dsimp only at hV);(go_simp<;>with_reducible rfl)));(try simp only[ap]))
     |(refine zas (by rfl) (by rfl) ?_;(try simp only[ap])))
    refine za3 (by rfl) (fun K hK=>?_)
    go_simp;refine(HPd.out _).mono ?_;rintro e w10 ⟨rfl,hEq⟩;have hE910:Ext w9 w10:=Ext.trans ((Ext.refl w9).drew) hEq
    clear hEq;refine hK.out _ _ ?_ ?_
    ·exact hE910
    clear hK K
    (try simp only[ap])
    repeat((with_reducible refine za9 ?_);first
     |(refine za2 (v:=?_) (by rfl) (by rfl) ?_ ?_;rotate_left;(focus(intro V hV;(try dsimp only at hV);(go_simp<;>with_reducible rfl)));(try simp only[ap]))
     |(refine zas (by rfl) (by rfl) ?_;(try simp only[ap])))
    refine zar ?_;refine NoPanic.normal ?_;go_wp2_with fail;go_roundw
    case rel=>exact⟨k+1,X++Y,D.2,by omega,by go_num,by rw[HYv.out,HS1.out];simp only[List.append_assoc],zC5 hI HS.out Y D.2 (by rw[HY.out,HYv.out]) HYs.out (hT9.ext hE910) HYt.out (hE9.trans hE910) ((hK5.trans (KeptC.ext hE58)).trans (hK9.trans (KeptC.ext hE910)))⟩
    case measure=>simp[intOf];omega
  ·obtain rfl:k=l.length:=by omega
   have HF:=Lib.hid (show R=(X,T1)by rw[hI.eq,List.drop_length];simp[zal])
   go_wp2_with fail
   go_ret2
   rw[HF.out];exact⟨.inl ⟨hI.xl,rfl,hI.tab,hI.tl⟩,hI.ext,hI.kc⟩
theorem zxa (e:EdD) (v:Value) (w:World) (hv:Opts w 0 v e.opts):Calls Tryz.prog 50 #[edV e v,.agg #[.int .u16 0,.int .u8 0,.int .u8 0,.int .u16 0,.slice none 0 0]] w fun x w'=>x=.returned (.bool (zce e))∧Ext w w':=by
 obtain⟨sz,ex,ve,fl,l⟩:=e
 dsimp only at hv ⊢;obtain⟨A,c,rfl,hlc,hcm,hrd⟩:=hv
 unfold maxLen at hcm;have HZ:=Lib.hid (show zce ⟨sz,ex,ve,fl,l⟩=(decide (sz=0∧ex=0∧ve=0∧fl=0)&&l.isEmpty)from rfl)
 obtain⟨X0,hX0⟩:∃X0,X0=(w.alloc (.cells #[.int .u16 sz,.int .u8 ex,.int .u8 ve,.int .u16 fl,.slice A l.length c] 43)).alloc (.cells #[.int .u16 0,.int .u8 0,.int .u8 0,.int .u16 0,.slice none 0 0] 43):=⟨_,rfl⟩
 have hw0:Ext w X0:=by rw[hX0];exact((Ext.refl _).alloc _).alloc _
 have r1:X0.heap[w.heap.size+1]? =some (.cells #[.int .u16 0,.int .u8 0,.int .u8 0,.int .u16 0,.slice none 0 0] 43):=by rw[hX0];exact heap_alloc2_new w _ _
 have r0:X0.heap[w.heap.size]? =some (.cells #[.int .u16 sz,.int .u8 ex,.int .u8 ve,.int .u16 fl,.slice A l.length c] 43):=by rw[hX0];exact heap_alloc2_old w _ _
 by_cases h1:sz=0
 rotate_left
 ·have f:(sz==0)=false:=by rw[beq_eq_false_iff_ne];exact h1
  have hF:zce ⟨sz,ex,ve,fl,l⟩=false:=by
   rw[HZ.out,decide_eq_false (fun hh=>h1 hh.1)];rfl
  rw[hF];go_enter Tryz.func50,Tryz.ntmps50;go_upto_region 1 with fail
  have hzz:(w.alloc (.cells #[.int .u16 sz,.int .u8 ex,.int .u8 ve,.int .u16 fl,.slice A l.length c] 43)).alloc (.cells #[.int .u16 0,.int .u8 0,.int .u8 0,.int .u16 0,.slice none 0 0] 43)=X0:=hX0.symm
  rw[hzz];clear hzz hX0;have x0:=za0 (j:=0) r0 rfl
  have y0:=za0 (j:=0) r1 rfl
  have x1:=za0 (j:=1) r0 rfl
  have y1:=za0 (j:=1) r1 rfl
  have x2:=za0 (j:=2) r0 rfl
  have y2:=za0 (j:=2) r1 rfl
  have x3:=za0 (j:=3) r0 rfl
  have y3:=za0 (j:=3) r1 rfl
  have x4:=za0 (j:=4) r0 rfl
  have y4:=za0 (j:=4) r1 rfl
  go_wp2_with fail;go_ret;exact⟨rfl,hw0⟩
 subst h1;by_cases h2:ex=0
 rotate_left
 ·have f:(ex==0)=false:=by rw[beq_eq_false_iff_ne];exact h2
  have hF:zce ⟨0,ex,ve,fl,l⟩=false:=by
   rw[HZ.out,decide_eq_false (fun hh=>h2 hh.2.1)];rfl
  rw[hF];go_enter Tryz.func50,Tryz.ntmps50;go_upto_region 1 with fail
  have hzz:(w.alloc (.cells #[.int .u16 0,.int .u8 ex,.int .u8 ve,.int .u16 fl,.slice A l.length c] 43)).alloc (.cells #[.int .u16 0,.int .u8 0,.int .u8 0,.int .u16 0,.slice none 0 0] 43)=X0:=hX0.symm
  rw[hzz];clear hzz hX0;have x0:=za0 (j:=0) r0 rfl
  have y0:=za0 (j:=0) r1 rfl
  have x1:=za0 (j:=1) r0 rfl
  have y1:=za0 (j:=1) r1 rfl
  have x2:=za0 (j:=2) r0 rfl
  have y2:=za0 (j:=2) r1 rfl
  have x3:=za0 (j:=3) r0 rfl
  have y3:=za0 (j:=3) r1 rfl
  have x4:=za0 (j:=4) r0 rfl
  have y4:=za0 (j:=4) r1 rfl
  go_wp2_with fail;go_ret;exact⟨rfl,hw0⟩
 subst h2;by_cases h3:ve=0
 rotate_left
 ·have f:(ve==0)=false:=by rw[beq_eq_false_iff_ne];exact h3
  have hF:zce ⟨0,0,ve,fl,l⟩=false:=by
   rw[HZ.out,decide_eq_false (fun hh=>h3 hh.2.2.1)];rfl
  rw[hF];go_enter Tryz.func50,Tryz.ntmps50;go_upto_region 1 with fail
  have hzz:(w.alloc (.cells #[.int .u16 0,.int .u8 0,.int .u8 ve,.int .u16 fl,.slice A l.length c] 43)).alloc (.cells #[.int .u16 0,.int .u8 0,.int .u8 0,.int .u16 0,.slice none 0 0] 43)=X0:=hX0.symm
  rw[hzz];clear hzz hX0;have x0:=za0 (j:=0) r0 rfl
  have y0:=za0 (j:=0) r1 rfl
  have x1:=za0 (j:=1) r0 rfl
  have y1:=za0 (j:=1) r1 rfl
  have x2:=za0 (j:=2) r0 rfl
  have y2:=za0 (j:=2) r1 rfl
  have x3:=za0 (j:=3) r0 rfl
  have y3:=za0 (j:=3) r1 rfl
  have x4:=za0 (j:=4) r0 rfl
  have y4:=za0 (j:=4) r1 rfl
  go_wp2_with fail;go_ret;exact⟨rfl,hw0⟩
 subst h3;by_cases h4:fl=0
 rotate_left
 ·have f:(fl==0)=false:=by rw[beq_eq_false_iff_ne];exact h4
  have hF:zce ⟨0,0,0,fl,l⟩=false:=by
   rw[HZ.out,decide_eq_false (fun hh=>h4 hh.2.2.2)];rfl
  rw[hF];go_enter Tryz.func50,Tryz.ntmps50;go_upto_region 1 with fail
  have hzz:(w.alloc (.cells #[.int .u16 0,.int .u8 0,.int .u8 0,.int .u16 fl,.slice A l.length c] 43)).alloc (.cells #[.int .u16 0,.int .u8 0,.int .u8 0,.int .u16 0,.slice none 0 0] 43)=X0:=hX0.symm
  rw[hzz];clear hzz hX0;have x0:=za0 (j:=0) r0 rfl
  have y0:=za0 (j:=0) r1 rfl
  have x1:=za0 (j:=1) r0 rfl
  have y1:=za0 (j:=1) r1 rfl
  have x2:=za0 (j:=2) r0 rfl
  have y2:=za0 (j:=2) r1 rfl
  have x3:=za0 (j:=3) r0 rfl
  have y3:=za0 (j:=3) r1 rfl
  have x4:=za0 (j:=4) r0 rfl
  have y4:=za0 (j:=4) r1 rfl
  go_wp2_with fail;go_ret;exact⟨rfl,hw0⟩
 subst h4;by_cases h5:l.length=0
 ·have hl:l=[]:=List.length_eq_zero_iff.1 h5
  subst hl;have hF:zce ⟨0,0,0,0,[]⟩=true:=rfl
  rw[hF];go_enter Tryz.func50,Tryz.ntmps50;go_upto_region 1 with fail
  have hzz:(w.alloc (.cells #[.int .u16 0,.int .u8 0,.int .u8 0,.int .u16 0,.slice A 0 c] 43)).alloc (.cells #[.int .u16 0,.int .u8 0,.int .u8 0,.int .u16 0,.slice none 0 0] 43)=X0:=hX0.symm
  rw[hzz];clear hzz hX0;have x0:=za0 (j:=0) r0 rfl
  have y0:=za0 (j:=0) r1 rfl
  have x1:=za0 (j:=1) r0 rfl
  have y1:=za0 (j:=1) r1 rfl
  have x2:=za0 (j:=2) r0 rfl
  have y2:=za0 (j:=2) r1 rfl
  have x3:=za0 (j:=3) r0 rfl
  have y3:=za0 (j:=3) r1 rfl
  have x4:X0.cell? ⟨w.heap.size,4,none⟩=some (.slice A 0 c):=za0 (j:=4) r0 rfl
  have y4:=za0 (j:=4) r1 rfl
  go_wp2_with fail
  go_loop [5] (fun s5=>s5=.int .i64 0) (fun _=>0)
  case atStart=>rfl
  case round=>
   obtain rfl:=hrel
   go_wp2_with fail;go_ret;exact⟨rfl,hw0⟩
 ·have f:((l.length:Int)==0)=false:=zbq h5
  have hF:zce ⟨0,0,0,0,l⟩=false:=by
   rw[HZ.out];rcases l with _|⟨a,l⟩
   ·exact absurd rfl h5
   ·rfl
  rw[hF];go_enter Tryz.func50,Tryz.ntmps50;go_upto_region 1 with fail
  have hzz:(w.alloc (.cells #[.int .u16 0,.int .u8 0,.int .u8 0,.int .u16 0,.slice A l.length c] 43)).alloc (.cells #[.int .u16 0,.int .u8 0,.int .u8 0,.int .u16 0,.slice none 0 0] 43)=X0:=hX0.symm
  rw[hzz];clear hzz hX0;have x0:=za0 (j:=0) r0 rfl
  have y0:=za0 (j:=0) r1 rfl
  have x1:=za0 (j:=1) r0 rfl
  have y1:=za0 (j:=1) r1 rfl
  have x2:=za0 (j:=2) r0 rfl
  have y2:=za0 (j:=2) r1 rfl
  have x3:=za0 (j:=3) r0 rfl
  have y3:=za0 (j:=3) r1 rfl
  have x4:=za0 (j:=4) r0 rfl
  have y4:=za0 (j:=4) r1 rfl
  go_wp2_with fail;go_ret;exact⟨rfl,hw0⟩
end Go.Proofs.YtdnpmapelmjfpaaGreatDoor
