/- Lemmas of this claim. No condition. -/
import Derived.Test.YtdnpmapelmjfpaaGreatDoorLu
set_option maxHeartbeats 4000000
set_option linter.unusedVariables false
set_option linter.unusedSimpArgs false
set_option maxRecDepth 100000
namespace Go.Proofs.YtdnpmapelmjfpaaGreatDoor
open Go.RowKit
def zvz (R:VerR) (w:World) (e:Ending) (w':World):Prop:=
 ∃vs vo,e=.returned (.tuple #[.agg #[.int .u8 R.code,vs,vo],.int .u32 R.time,.int .i64 R.err])∧OSets w' w.heap.size vs R.sets∧OSets w' w.heap.size vo R.soa∧(vo.ownBlock=none∨vo.ownBlock≠vs.ownBlock)∧Ext w w'
structure MsgX where
 id:Int
 qr:Bool
 op:Int
 aa:Bool
 tc:Bool
 rd:Bool
 ra:Bool
 z:Bool
 ad:Bool
 cd:Bool
 qA:Option Addr
 qn:Nat
 qc:Nat
 xA:Option Addr
 xn:Nat
 xc:Nat
 he:Bool
 es:Int
 ee:Int
 ev:Int
 ef:Int
 oA:Option Addr
 on:Nat
 oc:Nat
abbrev msgV (x:MsgX) (code:Int) (a u:Value):Value:=.agg #[.int .u16 x.id,.bool x.qr,.int .u8 x.op,.bool x.aa,.bool x.tc,.bool x.rd,.bool x.ra,.bool x.z,.bool x.ad,.bool x.cd,.int .u8 code,.slice x.qA x.qn x.qc,a,u,.slice x.xA x.xn x.xc,.bool x.he,.int .u16 x.es,.int .u8 x.ee,.int .u8 x.ev,.int .u16 x.ef,.slice x.oA x.on x.oc]
abbrev xrw (x:MsgX) (code:Int) (a u:Value):Array Value:=#[.int .u16 x.id,.bool x.qr,.int .u8 x.op,.bool x.aa,.bool x.tc,.bool x.rd,.bool x.ra,.bool x.z,.bool x.ad,.bool x.cd,.int .u8 code,.slice x.qA x.qn x.qc,a,u,.slice x.xA x.xn x.xc,.bool x.he,.int .u16 x.es,.int .u8 x.ee,.int .u8 x.ev,.int .u16 x.ef,.slice x.oA x.on x.oc]
def zfg (g:Nat) (Y V:World):Prop:=∀b o,b<Y.heap.size→b≠g→V.cell? ⟨b,o,none⟩=Y.cell? ⟨b,o,none⟩
theorem zca {g:Nat} {Y V:World} (h:Ext Y V):zfg g Y V:=fun b o hb _=>h.cell (p:=⟨b,o,none⟩) hb
theorem zcb {g:Nat} {Y V:World} (h:zfg g Y V) (j:Nat) (u:Value):zfg g Y (V.setCell ⟨g,j,none⟩ u):=fun b o hb au=>by
 rw[World.cell?_setCell_other V ⟨g,j,none⟩ ⟨b,o,none⟩ _ (by intro e;injection e with e _ _;first|exact au e|exact au e.symm)]
 exact h b o hb au
theorem zrq (w:World) (g:Nat) (hg:g=w.heap.size) (s:SetD) (dv:Value) (h:Strs w 0 dv s.data):Sets (w.alloc (.cells (setCells (s,dv)).toArray 79)) 0 (.slice (some ⟨g,0,none⟩) 1 1) [s]:=by
 subst hg;exact zh6 (fun j=>World.cell?_alloc_mark w _ _ _ j) (by simp) (h.ext ((Z5 _).alloc _))
theorem zgx (w w':World) (e:Nat) (h:Ext w w'):zvz (VerR.bad e) w (.returned (.tuple #[.agg #[.int .u8 0,.slice none 0 0,.slice none 0 0],.int .u32 0,.int .i64 e])) w':=
 ⟨_,_,rfl,OSets.nil _ _,OSets.nil _ _,.inl rfl,h⟩
theorem zGn (x:MsgX) (n:List UInt8) (ty cls code:Int) (lo:Nat) (aA:Option Addr) (ac:Nat) (uA:Option Addr) (uc:Nat) (ans auth:List RecD) (w:World) (hg:Laid w)
 (ha:Recs w lo (.slice aA ans.length ac) ans) (hu:Recs w lo (.slice uA auth.length uc) auth) (gX:zh7 ans) (wN:zh7 auth) (tv:zom ans) (nX:zom auth) (hn:n.length≤1048576):
 Calls Tryz.prog 125 #[.agg #[S n,.int .u16 ty,.int .u16 cls],msgV x code (.slice aA ans.length ac) (.slice uA auth.length uc)] w (zvz (verOf n ty cls code ans auth) w):=by
 have HM:=Z7 (fun W=>zbe n W (by unfold maxLen;omega))
 have yP:=Z7 (fun W (hW:Ext w W)=>zmg lo _ ans W (hg.ext hW) (ha.ext hW) gX tv)
 have sg:=Z7 (fun W (hW:Ext w W)=>zmg lo _ auth W (hg.ext hW) (hu.ext hW) wN nX)
 have cQ:=zj5 gX
 have cj:=zj5 wN
 clear hn;rcases hm:may n with _|_
 ·have hR:verOf n ty cls code ans auth=VerR.bad 1:=if_neg (by rw[hm];rintro⟨h,_⟩;cases h)
  rw[hR];rw[hm]at HM;clear hm hR;go_enter Tryz.func125,Tryz.ntmps125;go_wp2_with fail;obtain⟨X,hX⟩:∃X,X=((w.alloc (.cells #[S n,.int .u16 ty,.int .u16 cls] 32)).alloc (.cells (xrw x code (.slice aA ans.length ac) (.slice uA auth.length uc)) 45)).alloc (.cells #[.int .u8 0,.slice none 0 0,.slice none 0 0] 24):=⟨_,rfl⟩
  rw[←hX];obtain⟨kv,kvf,zv⟩:=zai (w.heap.size+1+1) (by simp) (Z5 (((w.alloc (.cells #[S n,.int .u16 ty,.int .u16 cls] 32)).alloc (.cells (xrw x code (.slice aA ans.length ac) (.slice uA auth.length uc)) 45)).alloc (.cells #[.int .u8 0,.slice none 0 0,.slice none 0 0] 24)))
  obtain⟨km,kmf,zm⟩:=zai (w.heap.size+1) (by simp) ((Z5 ((w.alloc (.cells #[S n,.int .u16 ty,.int .u16 cls] 32)).alloc (.cells (xrw x code (.slice aA ans.length ac) (.slice uA auth.length uc)) 45))).alloc (.cells #[.int .u8 0,.slice none 0 0,.slice none 0 0] 24))
  obtain⟨kq,kqf,zq⟩:=zai (w.heap.size) rfl (((Z5 (w.alloc (.cells #[S n,.int .u16 ty,.int .u16 cls] 32))).alloc (.cells (xrw x code (.slice aA ans.length ac) (.slice uA auth.length uc)) 45)).alloc (.cells #[.int .u8 0,.slice none 0 0,.slice none 0 0] 24))
  rw[←hX]at kv kvf zv km kmf zm kq kqf zq;have bF:Ext w X:=by rw[hX];exact xt
  have d9:=Z7 (show ∀V,zfg (w.heap.size+1+1) X V→V.cell? ⟨w.heap.size,0,none⟩=some (S n)∧V.cell? ⟨w.heap.size,1,none⟩=some (.int .u16 ty)∧V.cell? ⟨w.heap.size,2,none⟩=some (.int .u16 cls)∧V.cell? ⟨w.heap.size+1,12,none⟩=some (.slice aA ans.length ac)from fun V hV=>⟨(hV _ 0 zq (by omega)).trans (kq 0),(hV _ 1 zq (by omega)).trans (kq 1),(hV _ 2 zq (by omega)).trans (kq 2),(hV _ 12 zm (by omega)).trans (km 12)⟩)
  have oL:=Z7 (show ∀V,zfg (w.heap.size+1+1) X V→V.cell? ⟨w.heap.size,2,none⟩=some (.int .u16 cls)∧V.cell? ⟨w.heap.size+1,13,none⟩=some (.slice uA auth.length uc)from fun V hV=>⟨(hV _ 2 zq (by omega)).trans (kq 2),(hV _ 13 zm (by omega)).trans (km 13)⟩)
  have oM:=Z7 (show ∀V,zfg (w.heap.size+1+1) X V→V.cell? ⟨w.heap.size+1,10,none⟩=some (.int .u8 code)from fun V hV=>(hV _ 10 zm (by omega)).trans (km 10))
  have ir:w.heap.size+1+1+1=X.heap.size:=by rw[hX];simp
  have tJ:=Z7 ir
  clear hX ir;refine(HM.out _).mono ?_;rintro e w' ⟨rfl,rfl⟩;go_wp2_with fail;refine bodyPost_ret (v:=.tuple #[.agg #[.int .u8 0,.slice none 0 0,.slice none 0 0],.int .u32 0,.int .i64 1]) (by simp[results,Tryz.results125,go_sem,kv,kvf,zv]) rfl ?_
  exact zgx w _ 1 (by have ax:w.heap.size+1+1<X.heap.size:=zv;exact xt)
 by_cases hc:code=0∨code=3
 rotate_left
 ·have hR:verOf n ty cls code ans auth=VerR.bad 1:=if_neg (fun h=>hc h.2)
  have f1:(code !=0)=true:=by simp;intro h;exact hc (.inl h)
  have f2:(code !=3)=true:=by simp;intro h;exact hc (.inr h)
  rw[hR];rw[hm]at HM;clear hm hR hc;go_enter Tryz.func125,Tryz.ntmps125;go_wp2_with fail;obtain⟨X,hX⟩:∃X,X=((w.alloc (.cells #[S n,.int .u16 ty,.int .u16 cls] 32)).alloc (.cells (xrw x code (.slice aA ans.length ac) (.slice uA auth.length uc)) 45)).alloc (.cells #[.int .u8 0,.slice none 0 0,.slice none 0 0] 24):=⟨_,rfl⟩
  rw[←hX];obtain⟨kv,kvf,zv⟩:=zai (w.heap.size+1+1) (by simp) (Z5 (((w.alloc (.cells #[S n,.int .u16 ty,.int .u16 cls] 32)).alloc (.cells (xrw x code (.slice aA ans.length ac) (.slice uA auth.length uc)) 45)).alloc (.cells #[.int .u8 0,.slice none 0 0,.slice none 0 0] 24)))
  obtain⟨km,kmf,zm⟩:=zai (w.heap.size+1) (by simp) ((Z5 ((w.alloc (.cells #[S n,.int .u16 ty,.int .u16 cls] 32)).alloc (.cells (xrw x code (.slice aA ans.length ac) (.slice uA auth.length uc)) 45))).alloc (.cells #[.int .u8 0,.slice none 0 0,.slice none 0 0] 24))
  obtain⟨kq,kqf,zq⟩:=zai (w.heap.size) rfl (((Z5 (w.alloc (.cells #[S n,.int .u16 ty,.int .u16 cls] 32))).alloc (.cells (xrw x code (.slice aA ans.length ac) (.slice uA auth.length uc)) 45)).alloc (.cells #[.int .u8 0,.slice none 0 0,.slice none 0 0] 24))
  rw[←hX]at kv kvf zv km kmf zm kq kqf zq;have bF:Ext w X:=by rw[hX];exact xt
  have d9:=Z7 (show ∀V,zfg (w.heap.size+1+1) X V→V.cell? ⟨w.heap.size,0,none⟩=some (S n)∧V.cell? ⟨w.heap.size,1,none⟩=some (.int .u16 ty)∧V.cell? ⟨w.heap.size,2,none⟩=some (.int .u16 cls)∧V.cell? ⟨w.heap.size+1,12,none⟩=some (.slice aA ans.length ac)from fun V hV=>⟨(hV _ 0 zq (by omega)).trans (kq 0),(hV _ 1 zq (by omega)).trans (kq 1),(hV _ 2 zq (by omega)).trans (kq 2),(hV _ 12 zm (by omega)).trans (km 12)⟩)
  have oL:=Z7 (show ∀V,zfg (w.heap.size+1+1) X V→V.cell? ⟨w.heap.size,2,none⟩=some (.int .u16 cls)∧V.cell? ⟨w.heap.size+1,13,none⟩=some (.slice uA auth.length uc)from fun V hV=>⟨(hV _ 2 zq (by omega)).trans (kq 2),(hV _ 13 zm (by omega)).trans (km 13)⟩)
  have oM:=Z7 (show ∀V,zfg (w.heap.size+1+1) X V→V.cell? ⟨w.heap.size+1,10,none⟩=some (.int .u8 code)from fun V hV=>(hV _ 10 zm (by omega)).trans (km 10))
  have ir:w.heap.size+1+1+1=X.heap.size:=by rw[hX];simp
  have tJ:=Z7 ir
  clear hX ir;refine(HM.out _).mono ?_;rintro e w' ⟨rfl,rfl⟩;go_wp2_with fail;refine bodyPost_ret (v:=.tuple #[.agg #[.int .u8 0,.slice none 0 0,.slice none 0 0],.int .u32 0,.int .i64 1]) (by simp[results,Tryz.results125,go_sem,kv,kvf,zv]) rfl ?_
  exact zgx w _ 1 (by have ax:w.heap.size+1+1<X.heap.size:=zv;exact xt)
 have hR:verOf n ty cls code ans auth=ze8 code cls auth (followOf n ty cls (groupR ans)):=if_pos ⟨hm,hc⟩
 rw[hR];rw[hm]at HM;have HF:=Z7 (fun W (hW:Ext w W) lo' v (hS:Sets W lo' v (groupR ans))=>zsq lo' n ty cls v _ W (hg.ext hW) hS cQ (by have:=zek hm;omega))
 have lb:=zr2 (groupR ans) n ty cls
 have Ix:=zn8 n ty cls (groupR ans)
 generalize groupR ans=gs1 at*;generalize followOf n ty cls gs1=R at*;clear hR hm;go_enter Tryz.func125,Tryz.ntmps125;go_wp2_with fail;obtain⟨X,hX⟩:∃X,X=((w.alloc (.cells #[S n,.int .u16 ty,.int .u16 cls] 32)).alloc (.cells (xrw x code (.slice aA ans.length ac) (.slice uA auth.length uc)) 45)).alloc (.cells #[.int .u8 0,.slice none 0 0,.slice none 0 0] 24):=⟨_,rfl⟩
 rw[←hX];obtain⟨kv,kvf,zv⟩:=zai (w.heap.size+1+1) (by simp) (Z5 (((w.alloc (.cells #[S n,.int .u16 ty,.int .u16 cls] 32)).alloc (.cells (xrw x code (.slice aA ans.length ac) (.slice uA auth.length uc)) 45)).alloc (.cells #[.int .u8 0,.slice none 0 0,.slice none 0 0] 24)))
 obtain⟨km,kmf,zm⟩:=zai (w.heap.size+1) (by simp) ((Z5 ((w.alloc (.cells #[S n,.int .u16 ty,.int .u16 cls] 32)).alloc (.cells (xrw x code (.slice aA ans.length ac) (.slice uA auth.length uc)) 45))).alloc (.cells #[.int .u8 0,.slice none 0 0,.slice none 0 0] 24))
 obtain⟨kq,kqf,zq⟩:=zai (w.heap.size) rfl (((Z5 (w.alloc (.cells #[S n,.int .u16 ty,.int .u16 cls] 32))).alloc (.cells (xrw x code (.slice aA ans.length ac) (.slice uA auth.length uc)) 45)).alloc (.cells #[.int .u8 0,.slice none 0 0,.slice none 0 0] 24))
 rw[←hX]at kv kvf zv km kmf zm kq kqf zq;have bF:Ext w X:=by rw[hX];exact xt
 have d9:=Z7 (show ∀V,zfg (w.heap.size+1+1) X V→V.cell? ⟨w.heap.size,0,none⟩=some (S n)∧V.cell? ⟨w.heap.size,1,none⟩=some (.int .u16 ty)∧V.cell? ⟨w.heap.size,2,none⟩=some (.int .u16 cls)∧V.cell? ⟨w.heap.size+1,12,none⟩=some (.slice aA ans.length ac)from fun V hV=>⟨(hV _ 0 zq (by omega)).trans (kq 0),(hV _ 1 zq (by omega)).trans (kq 1),(hV _ 2 zq (by omega)).trans (kq 2),(hV _ 12 zm (by omega)).trans (km 12)⟩)
 have oL:=Z7 (show ∀V,zfg (w.heap.size+1+1) X V→V.cell? ⟨w.heap.size,2,none⟩=some (.int .u16 cls)∧V.cell? ⟨w.heap.size+1,13,none⟩=some (.slice uA auth.length uc)from fun V hV=>⟨(hV _ 2 zq (by omega)).trans (kq 2),(hV _ 13 zm (by omega)).trans (km 13)⟩)
 have oM:=Z7 (show ∀V,zfg (w.heap.size+1+1) X V→V.cell? ⟨w.heap.size+1,10,none⟩=some (.int .u8 code)from fun V hV=>(hV _ 10 zm (by omega)).trans (km 10))
 have ir:w.heap.size+1+1+1=X.heap.size:=by rw[hX];simp
 have tJ:=Z7 ir
 clear hX ir;refine(HM.out _).mono ?_;rintro e w' ⟨rfl,rfl⟩;rcases hc with rfl|rfl
 ·go_wp2_with fail
  go_region_held3 (fun V=>V.cell? ⟨w.heap.size,0,none⟩=some (S n)∧V.cell? ⟨w.heap.size,1,none⟩=some (.int .u16 ty)∧V.cell? ⟨w.heap.size,2,none⟩=some (.int .u16 cls)∧V.cell? ⟨w.heap.size+1,12,none⟩=some (.slice aA ans.length ac)) (exact d9.out _ (by(repeat with_reducible refine zcb ?_ _ _);exact zca xt)) (first|(go_at_call 41;(with_reducible refine(yP.out _ (bF.trans xt)).mono ?_);rintro e w3 ⟨g3,rfl,cR,ao⟩;have fH:Ext X w3:=Ext.trans xt ao)|(go_at_call 85;(with_reducible refine(HF.out _ (bF.trans fH) _ _ cR.sets).mono ?_);rintro e w4 ⟨vp,vf,wm,rfl,bL,tK,sh,jS⟩;have bD:Ext X w4:=(fH.trans tK).trans jS))
  have si:=bL.ext jS
  obtain⟨ps,pA,pc,rfl,bA,bi,jT,ji⟩:=si.opened
  obtain⟨fs,fA,fc,rfl,j8,fw,yQ,BR⟩:=sh.opened
  have BS:=jT.cap
  have BT:=yQ.cap
  unfold maxLen at BS BT;have tL:=lb.len
  have yR:=lb.one
  have lM:w.heap.size≤w3.heap.size:=(bF.trans fH).size
  have wO:w3.heap.size≤wm.heap.size:=tK.size
  clear sh bL;rcases R with⟨path,here,fin,er⟩
  dsimp only at*;by_cases he:er=0
  rotate_left
  ·have hR:ze8 0 cls auth ⟨path,here,fin,er⟩=VerR.bad er:=if_neg he
   have HR:=Z7 hR
   have f1:((er:Int)==0)=false:=by rw[beq_eq_false_iff_ne];omega
   have f2:((er:Int)!=0)=true:=by rw[bne,f1];rfl
   clear hR he;have kv4:∀j,w4.cell? ⟨w.heap.size+1+1,j,none⟩=_:=fun j=>(bD.cell (p:=⟨w.heap.size+1+1,j,none⟩) zv).trans (kv j)
   have kf4:∀j,w4.frozen? ⟨w.heap.size+1+1,j,none⟩=false:=fun j=>(bD.frozen (p:=⟨w.heap.size+1+1,j,none⟩) zv).trans (kvf j)
   have fM:w.heap.size+1+1<w4.heap.size:=Z1 zv bD.size
   go_wp2_with fail;refine bodyPost_ret (v:=.tuple #[.agg #[.int .u8 0,.slice none 0 0,.slice none 0 0],.int .u32 0,.int .i64 er]) (by simp[results,Tryz.results125,go_sem,kv4,kf4,fM]) rfl ?_
   rw[HR.out];exact zgx w _ er (by have ax:=bF.trans bD;exact xt)
  subst he;by_cases fV:fin=[]
  rotate_left
  ·have hR:ze8 0 cls auth ⟨path,here,fin,0⟩=zix 0 path fin:=by show(if(0:Nat)=0 then(if fin=[]then _ else _)else _)=_;rw[if_pos rfl,if_neg fV]
   have HR:=Z7 hR
   have tM:(0:Int)<(fin.length:Int):=by have:=List.length_pos_iff.2 fV;omega
   have cm4:=oM.out _ (zca bD)
   clear hR fV;have iL:=Z7 (HR.out.trans (show zix 0 path fin=⟨0,(path++fin).map ttl0,[],leastT (path++fin) 2147483647,0⟩from rfl))
   have BU:=yQ.rd
   have bJ:∀p∈fs,OStrs w4 w3.heap.size p.2 p.1.data:=fun p hp=>(BR p hp).lower wO
   obtain⟨j0,iX,kO,jA,gS⟩:=info_parts zfx
   go_wp2_with(
    at_builtin
    refine zad _ rfl (.tmp 52) (.tmp 53) _ rfl w3.heap.size 79 j0 _ 5 48 Tryz.underlying22 iX kO jA gS rfl (by omega) pA path.length pc (ps.flatMap setCells) rfl jT wm.heap.size fA fin.length fc (fs.flatMap setCells) rfl BU (zog BR) (by omega) (by omega) (Z2 tK.size jS.size) ?_
    intro A5 c5 w5 ai bq aG dS)
   have m4:Ext X w5:=bD.then aG fH.size
   have kU:OSets w5 w3.heap.size (.slice A5 (path.length+fin.length) c5) (path++fin):=zo7 (ps:=ps++fs) (by rw[List.map_append,bA,j8]) (by rw[Z6,bi,fw]) (by rw[List.flatMap_append];exact ai) (fun p hp=>by
    rcases List.mem_append.1 hp with h|h
    ·exact(ji p h).kept bq (zb3 (ji p h) jT)
    ·exact(bJ p h).kept bq (zb3 (bJ p h) jT))
   have BV:zdr (path++fin):=fun s hs=>by
    rcases List.mem_append.1 hs with h|h
    ·exact cQ s (lb.path s h)
    ·exact cQ s (lb.fin s h)
   have BW:(path++fin).length≤65536:=by rw[Z6];omega
   have wP:=Z7 (fun W (hW:Ext w5 W)=>zmk _ _ (path++fin) 2147483647 W (kU.sets.ext hW))
   have kV:=Z7 (fun W (hW:Ext w5 W)=>zdn _ _ (path++fin) W (kU.sets.ext hW) BV BW)
   generalize path++fin=all at*;refine(wP.out _ (Z5 _)).mono ?_;rintro e w6 ⟨rfl,aw⟩;have tN:=m4.trans aw
   go_wp2_with fail
   go_region_held3 (fun V=>V.cell? ⟨w.heap.size+1,10,none⟩=some (.int .u8 0)) (exact oM.out _ (by(repeat with_reducible refine zcb ?_ _ _);exact zca xt)) (first|(go_at_call 181;(with_reducible refine(kV.out _ xt).mono ?_);rintro e w7 ⟨vt,rfl,cV,aS⟩;have jU:Ext X w7:=Ext.trans xt aS;have kv7:∀j,w7.cell? ⟨w.heap.size+1+1,j,none⟩=_:=fun j=>(jU.cell (p:=⟨w.heap.size+1+1,j,none⟩) zv).trans (kv j);have kf7:∀j,w7.frozen? ⟨w.heap.size+1+1,j,none⟩=false:=fun j=>(jU.frozen (p:=⟨w.heap.size+1+1,j,none⟩) zv).trans (kvf j);have sk:w.heap.size+1+1<w7.heap.size:=Z1 zv jU.size;obtain⟨tA,tc,rfl,_,_⟩:=cV.shape;rw[List.length_map]at cV))
   go_wp2_with fail;refine bodyPost_ret (v:=.tuple #[.agg #[.int .u8 0,.slice tA all.length tc,.slice none 0 0],.int .u32 (leastT all 2147483647),.int .i64 0]) (by simp[results,Tryz.results125,go_sem,kv7,kf7,sk]) rfl ?_
   rw[iL.out];exact⟨_,_,rfl,(zc7 cV (show w.heap.size+1+1<w6.heap.size by have:=zv;have:=tN.size;omega) _ _ _).lower (show w.heap.size≤w6.heap.size by have:=zv;have:=tN.size;omega),OSets.nil _ _,.inl rfl,by have ax:=bF.trans jU;exact xt⟩
  subst fV;have hR:ze8 0 cls auth ⟨path,here,[],0⟩=ze9 0 path (soaFind (groupR auth) here cls):=by show(if(0:Nat)=0 then(if([]:List SetD)=[]then _ else _)else _)=_;rw[if_pos rfl,if_pos rfl]
  have HR:=Z7 hR
  have jV:=Z7 (fun W lo' v (hS:Sets W lo' v (groupR auth))=>zub lo' v _ here cls W hS cj (by unfold maxLen;omega))
  have wQ:=Z7 (fun s (h:(soaFind (groupR auth) here cls).set=some s)=>zqi h)
  generalize groupR auth=gs2 at*;obtain⟨r,hr⟩:∃r,soaFind gs2 here cls=r:=⟨_,rfl⟩
  rw[hr]at HR jV wQ;clear hR hr;have fM:w.heap.size+1+1<w4.heap.size:=Z1 zv bD.size
  have BX:X.heap.size≤w4.heap.size:=bD.size
  go_upto_region 12 with fail
  go_cut [6,11,12] (fun s6 s11 s12 wx=>∃(g dc:Nat) (dA:Option Addr),s6=.int .i64 r.err∧s11=.pointer (some ⟨g,0,none⟩)∧s12=.bool r.set.isSome∧(∀j,wx.cell? ⟨g,j,none⟩= #[S (r.set.getD SetD.zero).name,.int .u16 (r.set.getD SetD.zero).typ,.int .u16 (r.set.getD SetD.zero).cls,.int .u32 (r.set.getD SetD.zero).ttl,.slice dA (r.set.getD SetD.zero).data.length dc][j]?)∧w4.heap.size≤g∧g<wx.heap.size∧Strs wx 0 (.slice dA (r.set.getD SetD.zero).data.length dc) (r.set.getD SetD.zero).data∧Ext w4 wx)
  case first=>
   go_region_held3 (fun V=>V.cell? ⟨w.heap.size,2,none⟩=some (.int .u16 cls)∧V.cell? ⟨w.heap.size+1,13,none⟩=some (.slice uA auth.length uc)) (exact oL.out _ (by(repeat with_reducible refine zcb ?_ _ _);exact zca xt)) (first
    |(go_at_call 41;(with_reducible refine(sg.out w4.drew (bF.trans (bD.trans xt))).mono ?_);rintro e w5 ⟨g5,rfl,cw,am⟩;have jI:Ext w4 w5:=Ext.trans xt am;have m4:=bD.trans jI;have mg:w4.heap.size≤w5.heap.size:=jI.size)
    |(go_at_call 41;(with_reducible refine(sg.out _ (bF.trans (bD.trans xt))).mono ?_);rintro e w5 ⟨g5,rfl,cw,am⟩;have jI:Ext w4 w5:=Ext.trans xt am;have m4:=bD.trans jI;have mg:w4.heap.size≤w5.heap.size:=jI.size;obtain⟨bz,bf,bzz⟩:=zap (Ext.of_drewN 1 am))
    |(go_at_call 87;(with_reducible refine(jV.out (w5.alloc (.cells #[S [],.int .u16 0,.int .u16 0,.int .u32 0,.slice none 0 0] 79)) _ _ (cw.sets.ext xt)).mono ?_);rintro e w6 ⟨d6,rfl,dw,aw⟩;obtain⟨dA,dc,rfl⟩:=dw.strs.shape;have jv:Ext w4 w6:=Ext.trans xt aw;have tN:=bD.trans jv;have so:w4.heap.size≤w6.heap.size:=jv.size;obtain⟨bz6,bf6,bzz6⟩:=zap aw)
    |(go_at_call 87;(with_reducible refine(jV.out w5 _ _ cw.sets).mono ?_);rintro e w6 ⟨d6,rfl,dw,aw⟩;obtain⟨dA,dc,rfl⟩:=dw.strs.shape;have jv:Ext w4 w6:=Ext.trans xt aw;have tN:=bD.trans jv;have so:w4.heap.size≤w6.heap.size:=jv.size;(first|(revert bz;intro bz;have bz6:∀j,w6.cell? ⟨w4.heap.size,j,none⟩=_:=fun j=>(aw.cell (p:=⟨w4.heap.size,j,none⟩) bzz).trans (bz j);have bf6:∀j,w6.frozen? ⟨w4.heap.size,j,none⟩=false:=fun j=>(aw.frozen (p:=⟨w4.heap.size,j,none⟩) bzz).trans (bf j);have bzz6:w4.heap.size<w6.heap.size:=Z1 bzz aw.size)|skip)))
   all_goals
    go_wp2_with fail;go_meet
   ·exact⟨w6.heap.size,dc,dA,rfl,rfl,rfl,(fun j=>World.cell?_alloc_mark w6 _ _ _ j),jv.size,by simp,(dw.strs.lower (Nat.zero_le _)).ext ((Z5 _).alloc _),jv.alloc _⟩
   ·exact⟨w5.heap.size,dc,dA,rfl,rfl,rfl,zhj bz6 (S (r.set.getD SetD.zero).name) (.int .u16 (r.set.getD SetD.zero).typ) (.int .u16 (r.set.getD SetD.zero).cls) (.int .u32 (r.set.getD SetD.zero).ttl) (.slice dA (r.set.getD SetD.zero).data.length dc),mg,(by simp;omega),(zhv dw (by simp) (S (r.set.getD SetD.zero).name) (.int .u16 (r.set.getD SetD.zero).typ) (.int .u16 (r.set.getD SetD.zero).cls) (.int .u32 (r.set.getD SetD.zero).ttl) (.slice dA (r.set.getD SetD.zero).data.length dc)).strs.lower (Nat.zero_le _),xt⟩
   ·exact⟨w4.heap.size,dc,dA,rfl,rfl,rfl,zhj bz6 (S (r.set.getD SetD.zero).name) (.int .u16 (r.set.getD SetD.zero).typ) (.int .u16 (r.set.getD SetD.zero).cls) (.int .u32 (r.set.getD SetD.zero).ttl) (.slice dA (r.set.getD SetD.zero).data.length dc),Z4 _,(by simp;omega),(zhv dw (by simpa using bzz) (S (r.set.getD SetD.zero).name) (.int .u16 (r.set.getD SetD.zero).typ) (.int .u16 (r.set.getD SetD.zero).cls) (.int .u32 (r.set.getD SetD.zero).ttl) (.slice dA (r.set.getD SetD.zero).data.length dc)).strs.lower (Nat.zero_le _),xt⟩
  case rest=>
   obtain⟨g,dc,dA,rfl,rfl,rfl,a9,jE,cB,aK,dm⟩:=hcut
   obtain⟨Y,rfl⟩:∃Y:World,Y=wc:=⟨_,rfl⟩
   have dO:=bD.trans dm
   have lf:=bF.trans dO
   have pS:OSets Y w3.heap.size (.slice pA path.length pc) path:=(zo7 bA bi.symm jT ji).ext dm
   have kvY:∀j,Y.cell? ⟨w.heap.size+1+1,j,none⟩=_:=fun j=>(dO.cell (p:=⟨w.heap.size+1+1,j,none⟩) zv).trans (kv j)
   have kfY:∀j,Y.frozen? ⟨w.heap.size+1+1,j,none⟩=false:=fun j=>(dO.frozen (p:=⟨w.heap.size+1+1,j,none⟩) zv).trans (kvf j)
   have eY:w.heap.size+1+1<Y.heap.size:=Z1 zv dO.size
   have sr:zdr path:=fun s hs=>cQ s (lb.path s hs)
   have su:path.length≤65536:=by omega
   have kV:=Z7 (fun W (hW:Ext Y W)=>zdn _ _ path W (pS.sets.ext hW) sr su)
   rcases r with⟨st,er⟩
   dsimp only at*;by_cases fC:er=0
   rotate_left
   ·have iL:=Z7 (HR.out.trans (show ze9 0 path ⟨st,er⟩=VerR.bad er from if_neg fC))
    have f1:((er:Int)==0)=false:=by rw[beq_eq_false_iff_ne];omega
    have f2:((er:Int)!=0)=true:=by rw[bne,f1];rfl
    clear fC;go_wp2_with fail;refine bodyPost_ret (v:=.tuple #[.agg #[.int .u8 0,.slice none 0 0,.slice none 0 0],.int .u32 0,.int .i64 er]) (by simp[results,Tryz.results125,go_sem,kvY,kfY,eY]) rfl ?_
    rw[iL.out];exact zgx w _ er xt
   subst fC;rcases st with _|s
   ·have iL:=Z7 (HR.out.trans (show ze9 0 path ⟨none,0⟩=⟨0,path.map ttl0,[],0,0⟩from rfl))
    dsimp only[Option.getD,Option.isSome]at*;go_wp2_with fail
    go_region_held3 (fun V=>V.cell? ⟨w.heap.size+1,10,none⟩=some (.int .u8 0)) (exact oM.out _ (by(repeat with_reducible refine zcb ?_ _ _);exact zca xt)) (first|(go_at_call 181;(with_reducible refine(kV.out _ xt).mono ?_);rintro e w7 ⟨vt,rfl,cV,aS⟩;have kF:Ext Y w7:=Ext.trans xt aS;have jU:=dO.trans kF;have kv7:∀j,w7.cell? ⟨w.heap.size+1+1,j,none⟩=_:=fun j=>(jU.cell (p:=⟨w.heap.size+1+1,j,none⟩) zv).trans (kv j);have kf7:∀j,w7.frozen? ⟨w.heap.size+1+1,j,none⟩=false:=fun j=>(jU.frozen (p:=⟨w.heap.size+1+1,j,none⟩) zv).trans (kvf j);have sk:w.heap.size+1+1<w7.heap.size:=Z1 zv jU.size;obtain⟨tA,tc,rfl,_,_⟩:=cV.shape;rw[List.length_map]at cV))
    go_wp2_with fail;refine bodyPost_ret (v:=.tuple #[.agg #[.int .u8 0,.slice tA path.length tc,.slice none 0 0],.int .u32 0,.int .i64 0]) (by simp[results,Tryz.results125,go_sem,kv7,kf7,sk]) rfl ?_
    rw[iL.out];exact⟨_,_,rfl,(zc7 cV (show w.heap.size+1+1<Y.heap.size from eY) _ _ _).lower (show w.heap.size≤Y.heap.size from lf.size),OSets.nil _ _,.inl rfl,by have ax:=bF.trans jU;exact xt⟩
   ·have iL:=Z7 (HR.out.trans (show ze9 0 path ⟨some s,0⟩=⟨0,path.map ttl0,[ttl0 s],leastT path (soaTime s),0⟩from rfl))
    obtain⟨dR,_,fP⟩:=wQ.out s rfl
    have i5:=cj s dR
    dsimp only[Option.getD,Option.isSome]at*;have wR:=Z7 (fun W (hW:Ext Y W)=>zuc 0 s _ W (hg.ext (lf.trans hW)) (aK.ext hW) i5.2.2)
    generalize soaTime s=tm at*;have mL:=Z7 fP
    clear fP;have wP:=Z7 (fun W (hW:Ext Y W)=>zmk _ _ path tm W (pS.sets.ext hW))
    go_wp2_with fail;refine(wR.out _ (Z5 _)).mono ?_;rintro e w5 ⟨rfl,am⟩;go_wp2_with fail;refine(wP.out _ am).mono ?_;rintro e w6 ⟨rfl,aw⟩;have BY:=am.trans aw
    have cmY:=oM.out _ (zca dO)
    have au:g≠w.heap.size+1+1:=by omega
    have sw:=Z7 (show ∀V,zfg (w.heap.size+1+1) Y V→V.cell? ⟨w.heap.size+1,10,none⟩=some (.int .u8 0)∧V.cell? ⟨g,0,none⟩=some (S s.name)∧V.cell? ⟨g,1,none⟩=some (.int .u16 s.typ)∧V.cell? ⟨g,2,none⟩=some (.int .u16 s.cls)∧V.cell? ⟨g,3,none⟩=some (.int .u32 s.ttl)∧V.cell? ⟨g,4,none⟩=some (.slice dA s.data.length dc)from fun V hV=>⟨(hV _ 10 (by omega) (by omega)).trans cmY,(hV g 0 cB au).trans (a9 0),(hV g 1 cB au).trans (a9 1),(hV g 2 cB au).trans (a9 2),(hV g 3 cB au).trans (a9 3),(hV g 4 cB au).trans (a9 4)⟩)
    have mh:zdr [s]:=fun x hx=>by rw[List.mem_singleton]at hx;subst hx;exact i5
    have fI:[s].length≤65536:=by simp
    have BZ:Y.heap.size≤w6.heap.size:=BY.size
    go_wp2_with fail
    go_region_held3 (fun V=>V.cell? ⟨w.heap.size+1,10,none⟩=some (.int .u8 0)∧V.cell? ⟨g,0,none⟩=some (S s.name)∧V.cell? ⟨g,1,none⟩=some (.int .u16 s.typ)∧V.cell? ⟨g,2,none⟩=some (.int .u16 s.cls)∧V.cell? ⟨g,3,none⟩=some (.int .u32 s.ttl)∧V.cell? ⟨g,4,none⟩=some (.slice dA s.data.length dc)) (exact sw.out _ (by(repeat with_reducible refine zcb ?_ _ _);exact zca xt)) (first
     |(go_at_call 181;(with_reducible refine(kV.out w6.drew xt).mono ?_);rintro e w7 ⟨vt,rfl,cV,aS⟩;have kF:Ext Y w7:=Ext.trans xt aS;have sx:w6.heap.size≤w7.heap.size:=(by have:=aS.size;simp at this;omega);obtain⟨tA,tc,rfl,_,_⟩:=cV.shape;rw[List.length_map]at cV)
     |(go_at_call 181;(with_reducible refine(kV.out _ xt).mono ?_);rintro e w7 ⟨vt,rfl,cV,aS⟩;have kF:Ext Y w7:=Ext.trans xt aS;have sx:w6.heap.size≤w7.heap.size:=(by have:=aS.size;simp at this;omega);obtain⟨tA,tc,rfl,_,_⟩:=cV.shape;rw[List.length_map]at cV;obtain⟨bz7,bf7,bzz7⟩:=zap (Ext.of_drewN 1 aS))
     |(go_at_call 181;(first|(have ko:Sets (w7.alloc (.cells #[S s.name,.int .u16 s.typ,.int .u16 s.cls,.int .u32 s.ttl,.slice dA s.data.length dc] 79)) 0 (.slice (some ⟨w7.heap.size,0,none⟩) 1 1) [s]:=zrq w7 _ rfl s (.slice dA s.data.length dc) (aK.ext kF);(with_reducible refine(zdn 0 _ [s] _ ko mh fI).mono ?_))|(have ko:Sets w7 0 (.slice (some ⟨w6.heap.size,0,none⟩) 1 1) [s]:=zh6 (dv:=.slice dA s.data.length dc) bz7 bzz7 (aK.ext kF);(with_reducible refine(zdn 0 _ [s] _ ko mh fI).mono ?_)));rintro e w8 ⟨vu,rfl,oN,dj⟩;have wS:Ext w7 w8:=Ext.trans xt dj;have B5:=kF.trans wS;have oO:=dO.trans B5;have iu:=zBj cV oN (by simp);have kv8:∀j,w8.cell? ⟨w.heap.size+1+1,j,none⟩=_:=fun j=>(oO.cell (p:=⟨w.heap.size+1+1,j,none⟩) zv).trans (kv j);have kf8:∀j,w8.frozen? ⟨w.heap.size+1+1,j,none⟩=false:=fun j=>(oO.frozen (p:=⟨w.heap.size+1+1,j,none⟩) zv).trans (kvf j);have pB:w.heap.size+1+1<w8.heap.size:=Z1 zv oO.size;obtain⟨oA,oc,rfl,_,_⟩:=oN.shape;rw[List.length_map]at oN))
    all_goals
     go_wp2_with fail;refine bodyPost_ret (v:=.tuple #[.agg #[.int .u8 0,.slice tA path.length tc,.slice oA 1 oc],.int .u32 (leastT path tm),.int .i64 0]) (by simp[results,Tryz.results125,go_sem,kv8,kf8,pB]) rfl ?_
     rw[iL.out];exact⟨_,_,rfl,(zc7 (cV.ext wS) (by(try simp);omega) _ _ _).lower (by have:=lf.size;(try simp);omega),(zc7 oN (by(try simp);omega) _ _ _).lower (by have:=lf.size;(try simp);omega),iu,by have ax:=bF.trans oO;exact xt⟩
 ·go_wp2_with fail
  go_region_held3 (fun V=>V.cell? ⟨w.heap.size,0,none⟩=some (S n)∧V.cell? ⟨w.heap.size,1,none⟩=some (.int .u16 ty)∧V.cell? ⟨w.heap.size,2,none⟩=some (.int .u16 cls)∧V.cell? ⟨w.heap.size+1,12,none⟩=some (.slice aA ans.length ac)) (exact d9.out _ (by(repeat with_reducible refine zcb ?_ _ _);exact zca xt)) (first|(go_at_call 41;(with_reducible refine(yP.out _ (bF.trans xt)).mono ?_);rintro e w3 ⟨g3,rfl,cR,ao⟩;have fH:Ext X w3:=Ext.trans xt ao)|(go_at_call 85;(with_reducible refine(HF.out _ (bF.trans fH) _ _ cR.sets).mono ?_);rintro e w4 ⟨vp,vf,wm,rfl,bL,tK,sh,jS⟩;have bD:Ext X w4:=(fH.trans tK).trans jS))
  have si:=bL.ext jS
  obtain⟨ps,pA,pc,rfl,bA,bi,jT,ji⟩:=si.opened
  obtain⟨fs,fA,fc,rfl,j8,fw,yQ,BR⟩:=sh.opened
  have BS:=jT.cap
  have BT:=yQ.cap
  unfold maxLen at BS BT;have tL:=lb.len
  have yR:=lb.one
  have lM:w.heap.size≤w3.heap.size:=(bF.trans fH).size
  have wO:w3.heap.size≤wm.heap.size:=tK.size
  clear sh bL;rcases R with⟨path,here,fin,er⟩
  dsimp only at*;by_cases he:er=0
  rotate_left
  ·have hR:ze8 3 cls auth ⟨path,here,fin,er⟩=VerR.bad er:=if_neg he
   have HR:=Z7 hR
   have f1:((er:Int)==0)=false:=by rw[beq_eq_false_iff_ne];omega
   have f2:((er:Int)!=0)=true:=by rw[bne,f1];rfl
   clear hR he;have kv4:∀j,w4.cell? ⟨w.heap.size+1+1,j,none⟩=_:=fun j=>(bD.cell (p:=⟨w.heap.size+1+1,j,none⟩) zv).trans (kv j)
   have kf4:∀j,w4.frozen? ⟨w.heap.size+1+1,j,none⟩=false:=fun j=>(bD.frozen (p:=⟨w.heap.size+1+1,j,none⟩) zv).trans (kvf j)
   have fM:w.heap.size+1+1<w4.heap.size:=Z1 zv bD.size
   go_wp2_with fail;refine bodyPost_ret (v:=.tuple #[.agg #[.int .u8 0,.slice none 0 0,.slice none 0 0],.int .u32 0,.int .i64 er]) (by simp[results,Tryz.results125,go_sem,kv4,kf4,fM]) rfl ?_
   rw[HR.out];exact zgx w _ er (by have ax:=bF.trans bD;exact xt)
  subst he;by_cases fV:fin=[]
  rotate_left
  ·have hR:ze8 3 cls auth ⟨path,here,fin,0⟩=zix 3 path fin:=by show(if(0:Nat)=0 then(if fin=[]then _ else _)else _)=_;rw[if_pos rfl,if_neg fV]
   have HR:=Z7 hR
   have tM:(0:Int)<(fin.length:Int):=by have:=List.length_pos_iff.2 fV;omega
   have cm4:=oM.out _ (zca bD)
   clear hR fV;have kv4:∀j,w4.cell? ⟨w.heap.size+1+1,j,none⟩=_:=fun j=>(bD.cell (p:=⟨w.heap.size+1+1,j,none⟩) zv).trans (kv j)
   have kf4:∀j,w4.frozen? ⟨w.heap.size+1+1,j,none⟩=false:=fun j=>(bD.frozen (p:=⟨w.heap.size+1+1,j,none⟩) zv).trans (kvf j)
   have fM:w.heap.size+1+1<w4.heap.size:=Z1 zv bD.size
   go_wp2_with fail;refine bodyPost_ret (v:=.tuple #[.agg #[.int .u8 0,.slice none 0 0,.slice none 0 0],.int .u32 0,.int .i64 3]) (by simp[results,Tryz.results125,go_sem,kv4,kf4,fM]) rfl ?_
   rw[HR.out,show zix 3 path fin=VerR.bad 3 from rfl]
   exact zgx w _ 3 (by have ax:=bF.trans bD;exact xt)
  subst fV;have hR:ze8 3 cls auth ⟨path,here,[],0⟩=ze9 3 path (soaFind (groupR auth) here cls):=by show(if(0:Nat)=0 then(if([]:List SetD)=[]then _ else _)else _)=_;rw[if_pos rfl,if_pos rfl]
  have HR:=Z7 hR
  have jV:=Z7 (fun W lo' v (hS:Sets W lo' v (groupR auth))=>zub lo' v _ here cls W hS cj (by unfold maxLen;omega))
  have wQ:=Z7 (fun s (h:(soaFind (groupR auth) here cls).set=some s)=>zqi h)
  generalize groupR auth=gs2 at*;obtain⟨r,hr⟩:∃r,soaFind gs2 here cls=r:=⟨_,rfl⟩
  rw[hr]at HR jV wQ;clear hR hr;have fM:w.heap.size+1+1<w4.heap.size:=Z1 zv bD.size
  have BX:X.heap.size≤w4.heap.size:=bD.size
  go_upto_region 12 with fail
  go_cut [6,11,12] (fun s6 s11 s12 wx=>∃(g dc:Nat) (dA:Option Addr),s6=.int .i64 r.err∧s11=.pointer (some ⟨g,0,none⟩)∧s12=.bool r.set.isSome∧(∀j,wx.cell? ⟨g,j,none⟩= #[S (r.set.getD SetD.zero).name,.int .u16 (r.set.getD SetD.zero).typ,.int .u16 (r.set.getD SetD.zero).cls,.int .u32 (r.set.getD SetD.zero).ttl,.slice dA (r.set.getD SetD.zero).data.length dc][j]?)∧w4.heap.size≤g∧g<wx.heap.size∧Strs wx 0 (.slice dA (r.set.getD SetD.zero).data.length dc) (r.set.getD SetD.zero).data∧Ext w4 wx)
  case first=>
   go_region_held3 (fun V=>V.cell? ⟨w.heap.size,2,none⟩=some (.int .u16 cls)∧V.cell? ⟨w.heap.size+1,13,none⟩=some (.slice uA auth.length uc)) (exact oL.out _ (by(repeat with_reducible refine zcb ?_ _ _);exact zca xt)) (first
    |(go_at_call 41;(with_reducible refine(sg.out w4.drew (bF.trans (bD.trans xt))).mono ?_);rintro e w5 ⟨g5,rfl,cw,am⟩;have jI:Ext w4 w5:=Ext.trans xt am;have m4:=bD.trans jI;have mg:w4.heap.size≤w5.heap.size:=jI.size)
    |(go_at_call 41;(with_reducible refine(sg.out _ (bF.trans (bD.trans xt))).mono ?_);rintro e w5 ⟨g5,rfl,cw,am⟩;have jI:Ext w4 w5:=Ext.trans xt am;have m4:=bD.trans jI;have mg:w4.heap.size≤w5.heap.size:=jI.size;obtain⟨bz,bf,bzz⟩:=zap (Ext.of_drewN 1 am))
    |(go_at_call 87;(with_reducible refine(jV.out (w5.alloc (.cells #[S [],.int .u16 0,.int .u16 0,.int .u32 0,.slice none 0 0] 79)) _ _ (cw.sets.ext xt)).mono ?_);rintro e w6 ⟨d6,rfl,dw,aw⟩;obtain⟨dA,dc,rfl⟩:=dw.strs.shape;have jv:Ext w4 w6:=Ext.trans xt aw;have tN:=bD.trans jv;have so:w4.heap.size≤w6.heap.size:=jv.size;obtain⟨bz6,bf6,bzz6⟩:=zap aw)
    |(go_at_call 87;(with_reducible refine(jV.out w5 _ _ cw.sets).mono ?_);rintro e w6 ⟨d6,rfl,dw,aw⟩;obtain⟨dA,dc,rfl⟩:=dw.strs.shape;have jv:Ext w4 w6:=Ext.trans xt aw;have tN:=bD.trans jv;have so:w4.heap.size≤w6.heap.size:=jv.size;(first|(revert bz;intro bz;have bz6:∀j,w6.cell? ⟨w4.heap.size,j,none⟩=_:=fun j=>(aw.cell (p:=⟨w4.heap.size,j,none⟩) bzz).trans (bz j);have bf6:∀j,w6.frozen? ⟨w4.heap.size,j,none⟩=false:=fun j=>(aw.frozen (p:=⟨w4.heap.size,j,none⟩) bzz).trans (bf j);have bzz6:w4.heap.size<w6.heap.size:=Z1 bzz aw.size)|skip)))
   all_goals
    go_wp2_with fail;go_meet
   ·exact⟨w6.heap.size,dc,dA,rfl,rfl,rfl,(fun j=>World.cell?_alloc_mark w6 _ _ _ j),jv.size,by simp,(dw.strs.lower (Nat.zero_le _)).ext ((Z5 _).alloc _),jv.alloc _⟩
   ·exact⟨w5.heap.size,dc,dA,rfl,rfl,rfl,zhj bz6 (S (r.set.getD SetD.zero).name) (.int .u16 (r.set.getD SetD.zero).typ) (.int .u16 (r.set.getD SetD.zero).cls) (.int .u32 (r.set.getD SetD.zero).ttl) (.slice dA (r.set.getD SetD.zero).data.length dc),mg,(by simp;omega),(zhv dw (by simp) (S (r.set.getD SetD.zero).name) (.int .u16 (r.set.getD SetD.zero).typ) (.int .u16 (r.set.getD SetD.zero).cls) (.int .u32 (r.set.getD SetD.zero).ttl) (.slice dA (r.set.getD SetD.zero).data.length dc)).strs.lower (Nat.zero_le _),xt⟩
   ·exact⟨w4.heap.size,dc,dA,rfl,rfl,rfl,zhj bz6 (S (r.set.getD SetD.zero).name) (.int .u16 (r.set.getD SetD.zero).typ) (.int .u16 (r.set.getD SetD.zero).cls) (.int .u32 (r.set.getD SetD.zero).ttl) (.slice dA (r.set.getD SetD.zero).data.length dc),Z4 _,(by simp;omega),(zhv dw (by simpa using bzz) (S (r.set.getD SetD.zero).name) (.int .u16 (r.set.getD SetD.zero).typ) (.int .u16 (r.set.getD SetD.zero).cls) (.int .u32 (r.set.getD SetD.zero).ttl) (.slice dA (r.set.getD SetD.zero).data.length dc)).strs.lower (Nat.zero_le _),xt⟩
  case rest=>
   obtain⟨g,dc,dA,rfl,rfl,rfl,a9,jE,cB,aK,dm⟩:=hcut
   obtain⟨Y,rfl⟩:∃Y:World,Y=wc:=⟨_,rfl⟩
   have dO:=bD.trans dm
   have lf:=bF.trans dO
   have pS:OSets Y w3.heap.size (.slice pA path.length pc) path:=(zo7 bA bi.symm jT ji).ext dm
   have kvY:∀j,Y.cell? ⟨w.heap.size+1+1,j,none⟩=_:=fun j=>(dO.cell (p:=⟨w.heap.size+1+1,j,none⟩) zv).trans (kv j)
   have kfY:∀j,Y.frozen? ⟨w.heap.size+1+1,j,none⟩=false:=fun j=>(dO.frozen (p:=⟨w.heap.size+1+1,j,none⟩) zv).trans (kvf j)
   have eY:w.heap.size+1+1<Y.heap.size:=Z1 zv dO.size
   have sr:zdr path:=fun s hs=>cQ s (lb.path s hs)
   have su:path.length≤65536:=by omega
   have kV:=Z7 (fun W (hW:Ext Y W)=>zdn _ _ path W (pS.sets.ext hW) sr su)
   rcases r with⟨st,er⟩
   dsimp only at*;by_cases fC:er=0
   rotate_left
   ·have iL:=Z7 (HR.out.trans (show ze9 3 path ⟨st,er⟩=VerR.bad er from if_neg fC))
    have f1:((er:Int)==0)=false:=by rw[beq_eq_false_iff_ne];omega
    have f2:((er:Int)!=0)=true:=by rw[bne,f1];rfl
    clear fC;go_wp2_with fail;refine bodyPost_ret (v:=.tuple #[.agg #[.int .u8 0,.slice none 0 0,.slice none 0 0],.int .u32 0,.int .i64 er]) (by simp[results,Tryz.results125,go_sem,kvY,kfY,eY]) rfl ?_
    rw[iL.out];exact zgx w _ er xt
   subst fC;rcases st with _|s
   ·have iL:=Z7 (HR.out.trans (show ze9 3 path ⟨none,0⟩=⟨3,path.map ttl0,[],0,0⟩from rfl))
    dsimp only[Option.getD,Option.isSome]at*;go_wp2_with fail
    go_region_held3 (fun V=>V.cell? ⟨w.heap.size+1,10,none⟩=some (.int .u8 3)) (exact oM.out _ (by(repeat with_reducible refine zcb ?_ _ _);exact zca xt)) (first|(go_at_call 181;(with_reducible refine(kV.out _ xt).mono ?_);rintro e w7 ⟨vt,rfl,cV,aS⟩;have kF:Ext Y w7:=Ext.trans xt aS;have jU:=dO.trans kF;have kv7:∀j,w7.cell? ⟨w.heap.size+1+1,j,none⟩=_:=fun j=>(jU.cell (p:=⟨w.heap.size+1+1,j,none⟩) zv).trans (kv j);have kf7:∀j,w7.frozen? ⟨w.heap.size+1+1,j,none⟩=false:=fun j=>(jU.frozen (p:=⟨w.heap.size+1+1,j,none⟩) zv).trans (kvf j);have sk:w.heap.size+1+1<w7.heap.size:=Z1 zv jU.size;obtain⟨tA,tc,rfl,_,_⟩:=cV.shape;rw[List.length_map]at cV))
    go_wp2_with fail;refine bodyPost_ret (v:=.tuple #[.agg #[.int .u8 3,.slice tA path.length tc,.slice none 0 0],.int .u32 0,.int .i64 0]) (by simp[results,Tryz.results125,go_sem,kv7,kf7,sk]) rfl ?_
    rw[iL.out];exact⟨_,_,rfl,(zc7 cV (show w.heap.size+1+1<Y.heap.size from eY) _ _ _).lower (show w.heap.size≤Y.heap.size from lf.size),OSets.nil _ _,.inl rfl,by have ax:=bF.trans jU;exact xt⟩
   ·have iL:=Z7 (HR.out.trans (show ze9 3 path ⟨some s,0⟩=⟨3,path.map ttl0,[ttl0 s],leastT path (soaTime s),0⟩from rfl))
    obtain⟨dR,_,fP⟩:=wQ.out s rfl
    have i5:=cj s dR
    dsimp only[Option.getD,Option.isSome]at*;have wR:=Z7 (fun W (hW:Ext Y W)=>zuc 0 s _ W (hg.ext (lf.trans hW)) (aK.ext hW) i5.2.2)
    generalize soaTime s=tm at*;have mL:=Z7 fP
    clear fP;have wP:=Z7 (fun W (hW:Ext Y W)=>zmk _ _ path tm W (pS.sets.ext hW))
    go_wp2_with fail;refine(wR.out _ (Z5 _)).mono ?_;rintro e w5 ⟨rfl,am⟩;go_wp2_with fail;refine(wP.out _ am).mono ?_;rintro e w6 ⟨rfl,aw⟩;have BY:=am.trans aw
    have cmY:=oM.out _ (zca dO)
    have au:g≠w.heap.size+1+1:=by omega
    have sw:=Z7 (show ∀V,zfg (w.heap.size+1+1) Y V→V.cell? ⟨w.heap.size+1,10,none⟩=some (.int .u8 3)∧V.cell? ⟨g,0,none⟩=some (S s.name)∧V.cell? ⟨g,1,none⟩=some (.int .u16 s.typ)∧V.cell? ⟨g,2,none⟩=some (.int .u16 s.cls)∧V.cell? ⟨g,3,none⟩=some (.int .u32 s.ttl)∧V.cell? ⟨g,4,none⟩=some (.slice dA s.data.length dc)from fun V hV=>⟨(hV _ 10 (by omega) (by omega)).trans cmY,(hV g 0 cB au).trans (a9 0),(hV g 1 cB au).trans (a9 1),(hV g 2 cB au).trans (a9 2),(hV g 3 cB au).trans (a9 3),(hV g 4 cB au).trans (a9 4)⟩)
    have mh:zdr [s]:=fun x hx=>by rw[List.mem_singleton]at hx;subst hx;exact i5
    have fI:[s].length≤65536:=by simp
    have BZ:Y.heap.size≤w6.heap.size:=BY.size
    go_wp2_with fail
    go_region_held3 (fun V=>V.cell? ⟨w.heap.size+1,10,none⟩=some (.int .u8 3)∧V.cell? ⟨g,0,none⟩=some (S s.name)∧V.cell? ⟨g,1,none⟩=some (.int .u16 s.typ)∧V.cell? ⟨g,2,none⟩=some (.int .u16 s.cls)∧V.cell? ⟨g,3,none⟩=some (.int .u32 s.ttl)∧V.cell? ⟨g,4,none⟩=some (.slice dA s.data.length dc)) (exact sw.out _ (by(repeat with_reducible refine zcb ?_ _ _);exact zca xt)) (first
     |(go_at_call 181;(with_reducible refine(kV.out w6.drew xt).mono ?_);rintro e w7 ⟨vt,rfl,cV,aS⟩;have kF:Ext Y w7:=Ext.trans xt aS;have sx:w6.heap.size≤w7.heap.size:=(by have:=aS.size;simp at this;omega);obtain⟨tA,tc,rfl,_,_⟩:=cV.shape;rw[List.length_map]at cV)
     |(go_at_call 181;(with_reducible refine(kV.out _ xt).mono ?_);rintro e w7 ⟨vt,rfl,cV,aS⟩;have kF:Ext Y w7:=Ext.trans xt aS;have sx:w6.heap.size≤w7.heap.size:=(by have:=aS.size;simp at this;omega);obtain⟨tA,tc,rfl,_,_⟩:=cV.shape;rw[List.length_map]at cV;obtain⟨bz7,bf7,bzz7⟩:=zap (Ext.of_drewN 1 aS))
     |(go_at_call 181;(first|(have ko:Sets (w7.alloc (.cells #[S s.name,.int .u16 s.typ,.int .u16 s.cls,.int .u32 s.ttl,.slice dA s.data.length dc] 79)) 0 (.slice (some ⟨w7.heap.size,0,none⟩) 1 1) [s]:=zrq w7 _ rfl s (.slice dA s.data.length dc) (aK.ext kF);(with_reducible refine(zdn 0 _ [s] _ ko mh fI).mono ?_))|(have ko:Sets w7 0 (.slice (some ⟨w6.heap.size,0,none⟩) 1 1) [s]:=zh6 (dv:=.slice dA s.data.length dc) bz7 bzz7 (aK.ext kF);(with_reducible refine(zdn 0 _ [s] _ ko mh fI).mono ?_)));rintro e w8 ⟨vu,rfl,oN,dj⟩;have wS:Ext w7 w8:=Ext.trans xt dj;have B5:=kF.trans wS;have oO:=dO.trans B5;have iu:=zBj cV oN (by simp);have kv8:∀j,w8.cell? ⟨w.heap.size+1+1,j,none⟩=_:=fun j=>(oO.cell (p:=⟨w.heap.size+1+1,j,none⟩) zv).trans (kv j);have kf8:∀j,w8.frozen? ⟨w.heap.size+1+1,j,none⟩=false:=fun j=>(oO.frozen (p:=⟨w.heap.size+1+1,j,none⟩) zv).trans (kvf j);have pB:w.heap.size+1+1<w8.heap.size:=Z1 zv oO.size;obtain⟨oA,oc,rfl,_,_⟩:=oN.shape;rw[List.length_map]at oN))
    all_goals
     go_wp2_with fail;refine bodyPost_ret (v:=.tuple #[.agg #[.int .u8 3,.slice tA path.length tc,.slice oA 1 oc],.int .u32 (leastT path tm),.int .i64 0]) (by simp[results,Tryz.results125,go_sem,kv8,kf8,pB]) rfl ?_
     rw[iL.out];exact⟨_,_,rfl,(zc7 (cV.ext wS) (by(try simp);omega) _ _ _).lower (by have:=lf.size;(try simp);omega),(zc7 oN (by(try simp);omega) _ _ _).lower (by have:=lf.size;(try simp);omega),iu,by have ax:=bF.trans oO;exact xt⟩
end Go.Proofs.YtdnpmapelmjfpaaGreatDoor
