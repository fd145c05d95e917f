/- Lemmas of this claim. No condition. -/
import Derived.Test.YtdnpmapelmjfpaaGreatDoorLf
import Derived.ProofKit
import Derived.OpenShut
import Derived.Deep.Slices
import Derived.Deep.Fields
import Derived.ChangeSame
import Derived.Lib.SmallJoins
import Derived.SizedLaws
import Derived.SliceStrings
import Derived.Carry
set_option maxHeartbeats 8000000
set_option linter.unusedVariables false
set_option linter.unusedSimpArgs false
set_option maxRecDepth 100000
namespace Go.Proofs.YtdnpmapelmjfpaaGreatDoor
open Go.RowKit
def zh7 (l:List RecD):Prop:=l.length≤4096∧∀r∈l,r.name.length≤300000∧r.data.length≤300000
theorem zDj (l:List (List UInt8)) (s:List UInt8):(zdq l s).length≤l.length+1:=by
 unfold zdq;split
 ·omega
 ·rw[zt9];omega
theorem zkk {α:Type} {l:List α} {k:Nat} {f:α→α} {x:α} (h:x∈l.modify k f):x∈l∨∃y∈l,x=f y:=by
 induction l generalizing k with
 |nil=>simp at h
 |cons a l ih=>
  rcases k with _|k
  ·simp only[List.modify_zero_cons,List.mem_cons]at h;rcases h with rfl|h
   ·exact .inr ⟨a,by simp,rfl⟩
   ·exact .inl (by simp[h])
  ·simp only[List.modify_succ_cons,List.mem_cons]at h;rcases h with rfl|h
   ·exact .inl (by simp)
   ·rcases ih h with h|⟨y,hy,rfl⟩
    ·exact .inl (by simp[h])
    ·exact .inr ⟨y,by simp[hy],rfl⟩
theorem zEk (sets:List SetD) (x:RecD) (k:Nat) (h:∀s∈sets,s.name.length≤255∧s.data.length≤k):∀s∈zev sets x,s.name.length≤255∧s.data.length≤k+1:=by
 intro s hs;unfold zev at hs;split at hs
 ·split at hs
  ·rcases List.mem_append.1 hs with h1|h1
   ·have:=h s h1;omega
   ·rw[List.mem_singleton]at h1;subst h1;exact⟨ze4 _,by simp⟩
  ·rcases zkk hs with h1|⟨y,hy,rfl⟩
   ·have:=h s h1;omega
   ·have h2:=h y hy
    have h3:=zDj y.data (rfold x.typ x.data)
    unfold zhm;dsimp only;omega
 ·have:=h s hs;omega
theorem zht (l:List RecD):∀k,k≤l.length→∀s∈groupTo l k,s.name.length≤255∧s.data.length≤k
 |0,_=>by simp[groupTo]
 |k+1,h=>by
  rw[ze5 l k (by omega)]
  exact zEk _ _ _ (zht l k (by omega))
theorem zC7 (sets:List SetD) (x:RecD):(zev sets x).length≤sets.length+1:=by
 unfold zev
 repeat' split
 all_goals simp
theorem zfk (l:List RecD):∀k,k≤l.length→(groupTo l k).length≤k
 |0,_=>by simp[groupTo]
 |k+1,h=>by
  rw[ze5 l k (by omega)]
  have:=zC7 (groupTo l k) l[k]
  have:=zfk l k (by omega)
  omega
structure GrInv (w:World) (sets:List SetD) (ps:List (SetD×Value)) (A:Option Addr) (c:Nat) (wr:World):Prop where
 eq:ps.map Prod.fst=sets
 own:Own wr w.heap.size 79 5 A ps.length c (ps.flatMap setCells)
 datas:∀p∈ps,OStrs wr w.heap.size p.2 p.1.data
 ext:Ext w wr
def zqn (l:List SetD) (w:World) (e:Ending) (w':World):Prop:=∃v,e=.returned v∧OSets w' w.heap.size v l∧Ext w w'
theorem zlo (l:List (SetD×Value)):(l.flatMap setCells).length=l.length*5:=by
 induction l with
 |nil=>rfl
 |cons a l ih=>rw[List.flatMap_cons,Z6,ih,List.length_cons];show 5+_=_;omega
theorem Rd.takeS {w:World} {lo:Nat} {A:Option Addr} {n:Nat} {ss:List (SetD×Value)} (h:Rd w lo 5 A n (ss.flatMap setCells)) (m:Nat) (hm:m≤n) (hn:n=ss.length):Rd w lo 5 A m ((ss.take m).flatMap setCells):=by
 subst hn;refine⟨by rw[zlo,List.length_take];omega,fun h0=>?_⟩
 obtain⟨b,off,e,hl,hb,hc⟩:=h.2 (by omega)
 refine⟨b,off,e,hl,hb,fun j u hu=>hc j u ?_⟩
 conv=>lhs;rw[←List.take_append_drop m ss]
 rw[List.flatMap_append,List.getElem?_append_left (List.getElem?_eq_some_iff.1 hu).1];exact hu
theorem Rd.dropS {w:World} {lo:Nat} {b off n:Nat} {ss:List (SetD×Value)} (h:Rd w lo 5 (some ⟨b,off,none⟩) n (ss.flatMap setCells)) (m:Nat) (hm:m≤n) (hn:n=ss.length):Rd w lo 5 (some ⟨b,off+m*5,none⟩) (n - m) ((ss.drop m).flatMap setCells):=by
 subst hn;refine⟨by rw[zlo,List.length_drop],fun h0=>?_⟩
 obtain⟨b',off',e,hl,hb,hc⟩:=h.2 (by omega)
 injection e with e
 injection e with e1 e2 _
 subst e1 e2;refine⟨b,off+m*5,rfl,hl,hb,fun j u hu=>?_⟩
 rw[Nat.add_assoc];refine hc (m*5+j) u ?_
 conv=>lhs;rw[←List.take_append_drop m ss]
 have hl:((ss.take m).flatMap setCells).length=m*5:=by rw[zlo,List.length_take];congr 1;omega
 rw[List.flatMap_append,List.getElem?_append_right (by omega),hl,Nat.add_sub_cancel_left];exact hu
theorem zog {w:World} {lo:Nat} {ss:List (SetD×Value)} (h:∀p∈ss,OStrs w lo p.2 p.1.data):∀u∈ss.flatMap setCells,u.oneCell'=true:=by
 intro u hu;obtain⟨p,hp,hu⟩:=List.mem_flatMap.1 hu
 obtain⟨s,v⟩:=p
 obtain⟨A,c,e,_⟩:=h _ hp
 dsimp only at e;subst e;exact zg0 s A _ c u hu
structure SelInv (w:World) (G:List SetD) (F:Nat) (ss os:List (SetD×Value)) (sA:Option Addr) (sc:Nat) (oA:Option Addr) (oc:Nat) (wr:World):Prop where
 fuel:ss.length+os.length≤F
 sown:Own wr w.heap.size 79 5 sA ss.length sc (ss.flatMap setCells)
 oown:Own wr w.heap.size 79 5 oA os.length oc (os.flatMap setCells)
 sdat:∀p∈ss,OStrs wr w.heap.size p.2 p.1.data
 odat:∀p∈os,OStrs wr w.heap.size p.2 p.1.data
 apart:(Value.slice oA os.length oc).ownBlock=none∨(Value.slice oA os.length oc).ownBlock≠(Value.slice sA ss.length sc).ownBlock
 names:∀p∈ss,p.1.name.length≤255
 ext:Ext w wr
 eq:G=os.map Prod.fst++zgm (F - os.length) (ss.map Prod.fst)
theorem zrl (lo:Nat) (v:Value) (l:List RecD) (w:World) (h:Recs w lo v l) (aB:zh7 l):
 Calls Tryz.prog 53 #[v] w (zqn (groupR l) w):=by
 obtain⟨A0,c0,rfl,h1,h2,ay⟩:=h
 unfold maxLen at h2;have qz:=aB.1
 obtain⟨i0,aH,aF,aC,ax⟩:=info_parts zfx
 obtain⟨G,hG⟩:∃G,G=zgm l.length (groupTo l l.length):=⟨_,rfl⟩
 rw[show groupR l=G from hG.symm]
 have HG:=Z7 hG
 clear hG;go_enter Tryz.func53,Tryz.ntmps53
 go_wp2
 go_loopw [3,4] (fun s i wr=>∃(k:Nat) (ps:List (SetD×Value)) (A:Option Addr) (c:Nat),k≤l.length∧i=.int .i64 k∧s=.slice A ps.length c∧GrInv w (groupTo l k) ps A c wr) (fun _ i _=>l.length - (intOf i).toNat)
 case atStart=>exact⟨0,[],none,0,by omega,rfl,rfl,⟨rfl,Own.nil _ _ _ _,by simp,Z5 _⟩⟩
 case round=>
  obtain⟨k,ps,A,c,hk,rfl,rfl,hI⟩:=hrel
  obtain⟨wo,rfl⟩:∃wo:World,wo=wr:=⟨_,rfl⟩
  have aN:=hI.ext
  by_cases ab:k<l.length
  ·obtain⟨b,off,rfl,_,az,hc⟩:=ay.2 (by omega)
   have eK:=zfe hc k l[k] (Z3 ab)
   have xX:=aB.2 l[k] (List.getElem_mem ab)
   have ux:=ze5 l k ab
   have i5:=zht l k hk
   have jE:=zfk l k hk
   generalize l[k]=x at*;have dg:=hI.eq
   generalize groupTo l k=sets at*;have bi:ps.length=sets.length:=by rw[←dg];simp
   obtain⟨nm,ty,cl,tt,da⟩:=x
   dsimp only at*;obtain⟨x0,x1,x2,x3,x4⟩:=eK
   rw[←aN.cell (p:=⟨b,_,none⟩) az]at x0 x1 x2 x3 x4
   have aU:b<wo.heap.size:=Z1 az aN.size
   have cz:(k:Int)<(l.length:Int):=by omega
   have zy:ps.length≤4096:=by omega
   have lx:=Z7 ux
   have cA:=Z7 dg
   have kR:=Z7 bi
   clear hc ux dg bi;by_cases hm:may nm=true
   ·by_cases gH:rmay ty da=true
    ·have iM:=Z7 (show zcm ⟨nm,ty,cl,tt,da⟩=true by simp[zcm,hm,gH])
     go_wp2_with fail;refine(zc3 nm _ (by omega)).mono ?_;rintro e w1 ⟨rfl,ae⟩
     rw[hm];obtain⟨hq,bU,bP⟩:=zap ae
     go_wp2_with fail;refine(zl3 ty da _ (by omega)).mono ?_;rintro e w2 ⟨rfl,ah⟩
     rw[gH];obtain⟨eS,nl,nn⟩:=zap (ae.trans ah)
     clear hq bU bP;go_wp2_with fail;refine(zgu nm _ (by omega)).mono ?_;rintro e w3 ⟨rfl,ao⟩
     obtain⟨gQ,qm,qp⟩:=zap ((ae.trans ah).trans ao)
     clear eS nl nn;go_wp2_with fail;refine(zBd ty da _ (by omega)).mono ?_;rintro e w4 ⟨rfl,aL⟩
     have ly:=((ae.trans ah).trans ao).trans aL
     obtain⟨x6,zz,zB⟩:=zap ly
     clear gQ qm qp;have ke:Ext wo w4:=((Z5 _).alloc _).trans ly
     have cL:=hI.own.ext ke
     have pq:∀p∈ps,OStrs w4 w.heap.size p.2 p.1.data:=fun p hp=>(hI.datas p hp).ext ke
     have fx:Ext w w4:=aN.trans ke
     have mN:(fold nm).length≤255:=ze4 nm
     have HA:=Z7 (show zev sets ⟨nm,ty,cl,tt,da⟩=if atTo (zb5 (fold nm) ty cl) sets sets.length<0 then sets++[⟨fold nm,ty,cl,timeT tt,[rfold ty da]⟩]else sets.modify (atTo (zb5 (fold nm) ty cl) sets sets.length).toNat (zhm (timeT tt) (rfold ty da))by unfold zev;rw[iM.out,if_pos rfl])
     generalize fold nm=fn at*;generalize rfold ty da=fd at*;go_wp2_with fail
     go_loopw [8,9] (fun a i wi=>∃(j q:Nat),j≤ps.length∧i=.int .i64 j∧a=.int .i64 (atTo (zb5 fn ty cl) sets j)∧wi=w4.drewN q) (fun _ i _=>ps.length - (intOf i).toNat)
     case atStart=>exact⟨0,0,by omega,rfl,rfl,rfl⟩
     case round=>
      obtain⟨j,q,hj,rfl,rfl,rfl⟩:=hrel
      have gX:=zw1 (zb5 fn ty cl) sets j
      by_cases dU:j<ps.length
      ·obtain⟨g,rfl,bG,cB,iN,a9⟩:=cL.addr (by omega)
       have bA:ps[j]? =some ps[j]:=Z3 dU
       have ez:∀i u,(ps.flatMap setCells)[i]? =some u→w4.cell? ⟨g,0+i,none⟩=some u:=fun i u hu=>by rw[Nat.zero_add];exact a9 i u hu
       have uy:=zb0 ez j ps[j] bA
       have jF:=Z7 (show atTo (zb5 fn ty cl) sets (j+1)=if zb5 fn ty cl (ps[j].1)then(j:Int)else atTo (zb5 fn ty cl) sets j by
        have:sets.getD j SetD.zero=ps[j].1:=by rw[←cA.out];simp[dU]
        rw[←this];rfl)
       generalize ps[j]=p at*;generalize atTo (zb5 fn ty cl) sets j=aj at*;obtain⟨⟨sn,st,sc,stl,sd⟩,sv⟩:=p
       simp only[Nat.zero_add]at uy;obtain⟨y0,y1,y2,y3,y4⟩:=uy
       dsimp only at*;have qF:(j:Int)<(ps.length:Int):=by omega
       have iX:(0:Int)≤(j:Int):=by omega
       clear a9 ez bA;by_cases e1:sn=fn
       ·have f1:=zue e1
        by_cases e2:st=ty
        ·obtain⟨f2,_⟩:=zjr e2
         by_cases e3:sc=cl
         ·obtain⟨f3,_⟩:=zjr e3
          have HK:=Z7 (show zb5 fn ty cl ⟨sn,st,sc,stl,sd⟩=true by simp[zb5,e1,e2,e3])
          clear e1 e2 e3;go_wp2_with fail
          go_quiet (fail)
          go_wp2_with fail;go_roundw
          case rel=>exact⟨j+1,_,by omega,by go_num,by rw[jF.out,HK.out];rfl,rfl⟩
          case measure=>simp[intOf];omega
         ·obtain⟨f3,_⟩:=zep e3
          have HK:=Z7 (show zb5 fn ty cl ⟨sn,st,sc,stl,sd⟩=false by simp[zb5,e3])
          clear e1 e2 e3;go_wp2_with fail
          go_quiet (fail)
          go_wp2_with fail;go_roundw
          case rel=>exact⟨j+1,_,by omega,by go_num,by rw[jF.out,HK.out];rfl,rfl⟩
          case measure=>simp[intOf];omega
        ·obtain⟨f2,_⟩:=zep e2
         have HK:=Z7 (show zb5 fn ty cl ⟨sn,st,sc,stl,sd⟩=false by simp[zb5,e2])
         clear e1 e2;go_wp2_with fail
         go_quiet (fail)
         go_wp2_with fail;go_roundw
         case rel=>exact⟨j+1,_,by omega,by go_num,by rw[jF.out,HK.out];rfl,rfl⟩
         case measure=>simp[intOf];omega
       ·have f1:=ziu e1
        have HK:=Z7 (show zb5 fn ty cl ⟨sn,st,sc,stl,sd⟩=false by simp[zb5,e1])
        clear e1;go_wp2_with fail
        go_quiet (fail)
        go_wp2_with fail;go_roundw
        case rel=>exact⟨j+1,_,by omega,by go_num,by rw[jF.out,HK.out];rfl,rfl⟩
        case measure=>simp[intOf];omega
      ·obtain rfl:j=ps.length:=by omega
       rw[kR.out]at gX;rw[show atTo (zb5 fn ty cl) sets ps.length=atTo (zb5 fn ty cl) sets sets.length by rw[kR.out]]
       generalize atTo (zb5 fn ty cl) sets sets.length=aj at*;obtain⟨W,hW⟩:∃W,W=w4.drewN q:=⟨_,rfl⟩
       rw[←hW];have ga:Ext w4 W:=by rw[hW];exact(Z5 _).drewN q
       have bM:=cL.ext ga
       have cM:∀p∈ps,OStrs W w.heap.size p.2 p.1.data:=fun p hp=>(pq p hp).ext ga
       have eB:Ext w W:=fx.trans ga
       obtain⟨x7,E0,E3⟩:=zap (ly.trans ga)
       clear hW x6 zz zB cL pq;by_cases fD:aj<0
       ·have HF:=Z7 (lx.out.trans (HA.out.trans (if_pos fD)))
        go_wp2_with fail;have i6:W.cell? ⟨wo.heap.size,1,none⟩=some (.int .u16 ty):=x7 1
        have gY:W.cell? ⟨wo.heap.size,2,none⟩=some (.int .u16 cl):=x7 2
        have E4:W.cell? ⟨wo.heap.size,3,none⟩=some (.int .u32 tt):=x7 3
        go_region_held3 (fun V=>V.cell? ⟨wo.heap.size,1,none⟩=some (.int .u16 ty)∧V.cell? ⟨wo.heap.size,2,none⟩=some (.int .u16 cl)∧V.cell? ⟨wo.heap.size,3,none⟩=some (.int .u32 tt))
         (first|go_keep|(refine⟨bq.cell ?_ (fun e=>absurd (hI.own.blk _ e.symm).2 (Nat.lt_irrefl _)),bq.cell ?_ (fun e=>absurd (hI.own.blk _ e.symm).2 (Nat.lt_irrefl _)),bq.cell ?_ (fun e=>absurd (hI.own.blk _ e.symm).2 (Nat.lt_irrefl _))⟩<;>go_keep))
         (first
          |(go_at_call 103;refine(zu6 _ _).mono ?_;rintro e w' ⟨rfl,rfl⟩)
          |(refine zl7 _ (by rfl) (.tmp 79) (.tmp 91) _ (by rfl) w.heap.size 79 i0 _ 5 48 Tryz.underlying22 aH aF aC ax rfl (by omega) A ps.length c (ps.flatMap setCells) (by rfl) (by exact bM.ext xt) 0 _ 1 1 (setCells (⟨fn,ty,cl,timeT tt,[fd]⟩,.slice (some ⟨W.heap.size,0,none⟩) 1 1)) (by rfl) (by exact(zaw _ _ (by simp) _ _ 1 5 rfl).drew) (zg0 _ _ _ _) (by omega) (by omega) (by have:=eB.size;simp;omega) ?_;intro A5 c5 w5 ai bq aG dS))
        all_goals
         go_wp2_with fail;go_roundw
         case rel=>
          refine⟨k+1,ps++[(⟨fn,ty,cl,timeT tt,[fd]⟩,.slice (some ⟨W.heap.size,0,none⟩) 1 1)],A5,c5,by omega,by go_num,by simp,⟨?_,?_,?_,?_⟩⟩
          ·rw[HF.out,List.map_append,cA.out];rfl
          ·simpa using ai
          ·intro p hp;rcases List.mem_append.1 hp with h|h
           ·exact OStrs.kept (OStrs.ext (cM p h) xt) bq (zb3 (cM p h) bM)
           ·rw[List.mem_singleton]at h;subst h;refine OStrs.kept (OStrs.ext (w:=W.alloc (.cells #[S fd] 9)) ⟨_,1,rfl,zeq W _ _ rfl eB.size _ _ 1 1 rfl (by unfold maxLen;omega)⟩ xt) bq (.inr fun e=>absurd (bM.blk _ e.symm).2 (Nat.lt_irrefl _))
          ·exact Ext.then (lo:=w.heap.size) (eB.trans xt) aG (Z4 _)
         case measure=>simp[intOf];omega
       ·have hF:=lx.out.trans (HA.out.trans (if_neg fD))
        obtain⟨an,rfl⟩:=Int.eq_ofNat_of_zero_le (show 0≤aj by omega)
        rw[Int.toNat_natCast]at hF;have HF:=Z7 hF
        clear hF fD;have uz:an<ps.length:=by rw[kR.out];omega
        obtain⟨g,rfl,bG,cB,iN,a9⟩:=bM.addr (by omega)
        have bA:ps[an]? =some ps[an]:=Z3 uz
        have ez:∀i u,(ps.flatMap setCells)[i]? =some u→W.cell? ⟨g,0+i,none⟩=some u:=fun i u hu=>by rw[Nat.zero_add];exact a9 i u hu
        have uy:=zb0 ez an ps[an] bA
        have nA:=cM ps[an] (List.getElem_mem uz)
        have JG:=i5 ps[an].1 (by rw[←cA.out];exact List.mem_map.2 ⟨_,List.getElem_mem uz,rfl⟩)
        generalize i7:ps[an]=p at*;obtain⟨⟨sn,st,sc,stl,sd⟩,sv⟩:=p
        simp only[Nat.zero_add]at uy;obtain⟨y0,y1,y2,y3,y4⟩:=uy
        dsimp only at*;have E6:(an:Int)<(ps.length:Int):=by omega
        have E7:(0:Int)≤(an:Int):=by omega
        have E4:W.cell? ⟨wo.heap.size,3,none⟩=some (.int .u32 tt):=x7 3
        have i8:g<wo.heap.size:=(hI.own.blk g rfl).2
        clear a9 ez i7;go_wp2_with fail
        go_still_tail 13,(by kernel_rfl)
        still_call ((zu6 tt _).mono fun _ _ ⟨h1,h2⟩=>⟨h1,h2.symm⟩)
        repeat still_step
        refine wpStill_nil ?_;go_wp2_with fail;have CU:(ps.flatMap setCells).length=ps.length*5:=bM.1
        have E8:an*5+3<ps.length*5:=by omega
        have E9:an*5+4<ps.length*5:=by omega
        have Fa:∀p∈ps,OStrs (W.setCell ⟨g,an*5+3,none⟩ (.int .u32 (min stl (timeT tt)))).drew w.heap.size p.2 p.1.data:=fun p hp=>(OStrs.set_other (p:=⟨g,an*5+3,none⟩) (cM p hp) (.int .u32 (min stl (timeT tt))) (zb3 (cM p hp) bM)).ext ((Z5 _).drew)
        have Fb:Own (W.setCell ⟨g,an*5+3,none⟩ (.int .u32 (min stl (timeT tt)))).drew w.heap.size 79 5 (some ⟨g,0,none⟩) ps.length c ((ps.set an (⟨sn,st,sc,min stl (timeT tt),sd⟩,sv)).flatMap setCells):=by
         rw[←zdx ps an (⟨sn,st,sc,stl,sd⟩,sv) (⟨sn,st,sc,min stl (timeT tt),sd⟩,sv) 3 (.int .u32 (min stl (timeT tt))) bA (by omega) rfl]
         exact(bM.stored _ _ E8).ext ((Z5 _).drew)
        have zC:=(OStrs.set_other (p:=⟨g,an*5+3,none⟩) nA (.int .u32 (min stl (timeT tt))) (zb3 nA bM)).ext ((Z5 _).drew)
        have y4W:(W.setCell ⟨g,an*5+3,none⟩ (.int .u32 (min stl (timeT tt)))).drew.cell? ⟨g,an*5+4,none⟩=some sv:=by
         show(W.setCell _ _).cell? _=_
         rw[World.cell?_setCell_other _ _ _ _ (by simp)];exact y4
        have C6:(W.setCell ⟨g,an*5+3,none⟩ (.int .u32 (min stl (timeT tt)))).drew.frozen? ⟨g,an*5+4,none⟩=false:=by
         show(W.setCell _ _).frozen? _=_
         rw[World.frozen?_setCell];exact iN _
        have uB:Ext w (W.setCell ⟨g,an*5+3,none⟩ (.int .u32 (min stl (timeT tt)))).drew:=(eB.setCell bG _).drew
        have nB:g<(W.setCell ⟨g,an*5+3,none⟩ (.int .u32 (min stl (timeT tt)))).drew.heap.size:=by simp;exact cB
        generalize (W.setCell ⟨g,an*5+3,none⟩ (.int .u32 (min stl (timeT tt)))).drew=X at*;refine(zFp w.heap.size sv sd fd X zC uB.size (by omega)).mono ?_;rintro e w5 ⟨v2,rfl,aI,am⟩
        obtain⟨A2,c2,rfl,iZ⟩:=aI
        have y45:=(am.cell (p:=⟨g,_,none⟩) nB).trans y4W
        have cE:=(am.frozen (p:=⟨g,_,none⟩) nB).trans C6
        have uC:g<w5.heap.size:=Z1 nB am.size
        clear y4W C6 y0 y1 y2 y3 y4;go_wp2_with fail;go_roundw
        case rel=>
         have qG:=Fb.ext am
         have gW:OStrs w5 w.heap.size (.slice A2 (zdq sd fd).length c2) (zdq sd fd):=⟨A2,c2,rfl,iZ⟩
         refine⟨k+1,ps.set an (⟨sn,st,sc,min stl (timeT tt),zdq sd fd⟩,.slice A2 (zdq sd fd).length c2),some ⟨g,0,none⟩,c,by omega,by go_num,by simp,⟨?_,?_,?_,?_⟩⟩
         ·rw[HF.out,←cA.out];apply List.ext_getElem?;intro i;simp only[List.map_set,List.getElem?_set,List.getElem?_modify,List.getElem?_map,List.length_map];by_cases hi:an=i
          ·subst hi;have i7:=(List.getElem?_eq_some_iff.1 bA).2
           simp[i7,uz,zhm]
          ·simp[hi]
         ·have h6:=qG.stored (an*5+4) (.slice A2 (zdq sd fd).length c2) E9
          rw[zdx _ an (⟨sn,st,sc,min stl (timeT tt),sd⟩,sv) (⟨sn,st,sc,min stl (timeT tt),zdq sd fd⟩,.slice A2 (zdq sd fd).length c2) 4 _ (by rw[List.getElem?_set_self uz]) (by omega) rfl,List.set_set]at h6
          simpa using h6
         ·intro p hp;rcases List.mem_or_eq_of_mem_set hp with h|h
          ·have h7:=(Fa p h).ext am
           exact OStrs.set_other (p:=⟨g,an*5+4,none⟩) h7 _ (zb3 h7 qG)
          ·subst h;exact OStrs.set_other (p:=⟨g,an*5+4,none⟩) gW _ (zb3 gW qG)
         ·exact(uB.trans am).setCell bG _
        case measure=>simp[intOf];omega
    ·have lz:rmay ty da=false:=by simpa using gH
     have iM:=Z7 (show zev sets ⟨nm,ty,cl,tt,da⟩=sets by unfold zev;rw[show zcm ⟨nm,ty,cl,tt,da⟩=false by simp[zcm,hm,lz],if_neg (by simp)])
     clear gH;go_wp2_with fail;refine(zc3 nm _ (by omega)).mono ?_;rintro e w1 ⟨rfl,ae⟩
     rw[hm];obtain⟨hq,bU,bP⟩:=zap ae
     go_wp2_with fail;refine(zl3 ty da _ (by omega)).mono ?_;rintro e w2 ⟨rfl,ah⟩
     rw[lz];have bV:Ext wo w2:=((Z5 _).alloc _).trans (ae.trans ah)
     go_wp2_with fail;go_roundw
     case rel=>
      exact⟨k+1,ps,A,c,by omega,by go_num,rfl,⟨by rw[lx.out,iM.out];exact cA.out,hI.own.ext bV,fun p hp=>(hI.datas p hp).ext bV,aN.trans bV⟩⟩
     case measure=>simp[intOf];omega
   ·have gP:may nm=false:=by simpa using hm
    have iM:=Z7 (show zev sets ⟨nm,ty,cl,tt,da⟩=sets by unfold zev;rw[show zcm ⟨nm,ty,cl,tt,da⟩=false by simp[zcm,gP],if_neg (by simp)])
    clear hm;go_wp2_with fail;refine(zc3 nm _ (by omega)).mono ?_;rintro e w1 ⟨rfl,ae⟩
    rw[gP];have bV:Ext wo w1:=((Z5 _).alloc _).trans ae
    go_wp2_with fail;go_roundw
    case rel=>
     exact⟨k+1,ps,A,c,by omega,by go_num,rfl,⟨by rw[lx.out,iM.out];exact cA.out,hI.own.ext bV,fun p hp=>(hI.datas p hp).ext bV,aN.trans bV⟩⟩
    case measure=>simp[intOf];omega
  ·obtain rfl:k=l.length:=by omega
   have hG:Hid (G=zgm l.length (groupTo l l.length)):=HG
   have i5:=zht l l.length (Z4 _)
   have jE:=zfk l l.length (Z4 _)
   obtain⟨dg,ag,uD,uF⟩:=hI
   rw[←dg]at hG i5 jE;have uG:∀p∈ps,p.1.name.length≤255:=fun p hp=>(i5 p.1 (List.mem_map.2 ⟨p,hp,rfl⟩)).1
   have bi:ps.length≤l.length:=by simpa using jE
   clear i5 jE dg ab;go_wp2_with fail
   go_loopw [3,10] (fun s o wr=>∃(ss os:List (SetD×Value)) (sA:Option Addr) (sc:Nat) (oA:Option Addr) (oc:Nat),s=.slice sA ss.length sc∧o=.slice oA os.length oc∧SelInv w G l.length ss os sA sc oA oc wr) (fun s _ _=>lenOf s)
   case atStart=>exact⟨ps,[],A,c,none,0,rfl,rfl,⟨by simpa using bi,ag,Own.nil _ _ _ _,uD,by simp,.inl rfl,uG,uF,by simpa using hG.out⟩⟩
   case round=>
    obtain⟨ss,os,sA,sc,oA,oc,rfl,rfl,hJ⟩:=hrel
    obtain⟨wo,rfl⟩:∃wo:World,wo=wr:=⟨_,rfl⟩
    have hF:=hJ.fuel
    clear ag uD uF uG bi hG;by_cases qH:ss.length=0
    ·have Fc:ss=[]:=List.eq_nil_of_length_eq_zero qH
     subst Fc;have HF:Hid (G=os.map Prod.fst):=by
      show G=os.map Prod.fst
      rw[hJ.eq];rcases l.length - os.length with _|n<;>simp[zgm]
     go_wp2_with fail;go_ret;exact⟨_,rfl,by rw[HF.out];exact⟨os,oA,oc,rfl,rfl,hJ.oown,hJ.odat⟩,hJ.ext⟩
    ·have j7:0<ss.length:=by omega
     go_wp2_with fail
     go_loopw [11,12] (fun m i wi=>∃(j:Nat),1≤j∧j≤ss.length∧i=.int .i64 j∧m=.int .i64 (minTo (ss.map Prod.fst) j)∧Ext wo wi) (fun _ i _=>ss.length - (intOf i).toNat)
     case atStart=>exact⟨1,by omega,by omega,rfl,rfl,Z5 _⟩
     case round=>
      obtain⟨j,Fd,qI,rfl,rfl,hE⟩:=hrel
      obtain⟨wi',rfl⟩:∃wi':World,wi'=wr:=⟨_,rfl⟩
      have nC:=zil (ss.map Prod.fst) j (by omega)
      by_cases dU:j<ss.length
      ·obtain⟨g,x8,bG,cB,iN,a9⟩:=hJ.sown.addr (by omega)
       have qJ:=x8
       subst qJ;have ez:∀i u,(ss.flatMap setCells)[i]? =some u→wi'.cell? ⟨g,0+i,none⟩=some u:=fun i u hu=>by rw[Nat.zero_add];exact(hE.cell (p:=⟨g,i,none⟩) cB).trans (a9 i u hu)
       have nD:minTo (ss.map Prod.fst) j<ss.length:=by omega
       have g1:=zb0 ez j ss[j] (Z3 dU)
       have g2:=zb0 ez (minTo (ss.map Prod.fst) j) ss[minTo (ss.map Prod.fst) j] (Z3 nD)
       have s1:=(hJ.sdat ss[j] (List.getElem_mem dU)).strs.ext hE
       have s2:=(hJ.sdat ss[minTo (ss.map Prod.fst) j] (List.getElem_mem nD)).strs.ext hE
       have n1:=hJ.names ss[j] (List.getElem_mem dU)
       have n2:=hJ.names ss[minTo (ss.map Prod.fst) j] (List.getElem_mem nD)
       have HM:=Z7 (show minTo (ss.map Prod.fst) (j+1)=if zem ss[j].1 ss[minTo (ss.map Prod.fst) j].1 then j else minTo (ss.map Prod.fst) j by
        conv=>lhs;unfold minTo
        rw[if_neg (by omega)]
        have e1:(ss.map Prod.fst).getD j SetD.zero=ss[j].1:=by simp[dU]
        have e2:(ss.map Prod.fst).getD (minTo (ss.map Prod.fst) j) SetD.zero=ss[minTo (ss.map Prod.fst) j].1:=by simp[nD]
        rw[e1,e2])
       generalize ss[j]=p at*;generalize ss[minTo (ss.map Prod.fst) j]=r at*;generalize minTo (ss.map Prod.fst) j=m at*;obtain⟨⟨pn,pt,pc,ptl,pd⟩,pv⟩:=p
       obtain⟨⟨qn,qt,qc,qtl,qd⟩,qv⟩:=r
       dsimp only at*;obtain⟨pA,pcc,rfl⟩:=s1.shape
       obtain⟨qA,qcc,rfl⟩:=s2.shape
       simp only[Nat.zero_add]at g1 g2;obtain⟨x0,x1,x2,x3,x4⟩:=g1
       obtain⟨y0,y1,y2,y3,y4⟩:=g2
       have qF:(j:Int)<(ss.length:Int):=by omega
       have iX:(0:Int)≤(j:Int):=by omega
       have td:(m:Int)<(ss.length:Int):=by omega
       have mO:(0:Int)≤(m:Int):=by omega
       have HC:=Z7 (fun W (hW:Ext wi' W)=>zyq ⟨pn,pt,pc,ptl,pd⟩ ⟨qn,qt,qc,qtl,qd⟩ (.slice pA pd.length pcc) (.slice qA qd.length qcc) w.heap.size w.heap.size W (s1.ext hW) (s2.ext hW) (by dsimp only;omega) (by dsimp only;omega))
       clear a9 ez;rcases C7:zem ⟨pn,pt,pc,ptl,pd⟩ ⟨qn,qt,qc,qtl,qd⟩with _|_
       all_goals
        rw[C7]at HC HM;clear C7;go_wp2_with fail
        go_still_tail 8,(by kernel_rfl)
        go_wp2_with fail;refine(HC.out _ ?hW).mono ?_
        case hW=>exact(Z5 wi').drew
        rintro e w2 ⟨rfl,ah⟩;go_wp2_with fail;go_roundw
        case rel=>exact⟨j+1,by omega,by omega,by go_num,by rw[HM.out];rfl,hE.trans (((Z5 wi').drew).trans ah)⟩
        case measure=>simp[intOf];omega
      ·obtain rfl:j=ss.length:=by omega
       obtain⟨g,x8,bG,cB,iN,a9⟩:=hJ.sown.addr (by omega)
       have qJ:=x8
       subst qJ;have ez:∀i u,(ss.flatMap setCells)[i]? =some u→wi'.cell? ⟨g,0+i,none⟩=some u:=fun i u hu=>by rw[Nat.zero_add];exact(hE.cell (p:=⟨g,i,none⟩) cB).trans (a9 i u hu)
       have g2:=zb0 ez (minTo (ss.map Prod.fst) ss.length) ss[minTo (ss.map Prod.fst) ss.length] (Z3 nC)
       have a6:=hJ.eq
       have HS:=Z7 (show G=(os++[ss[minTo (ss.map Prod.fst) ss.length]]).map Prod.fst++zgm (l.length - (os.length+1)) ((ss.take (minTo (ss.map Prod.fst) ss.length)++ss.drop (minTo (ss.map Prod.fst) ss.length+1)).map Prod.fst)by
        rw[a6,show l.length - os.length=(l.length - (os.length+1))+1 by omega]
        conv=>lhs;unfold zgm
        rw[if_neg (by rw[List.length_map];exact qH),List.length_map]
        have e2:(ss.map Prod.fst).getD (minTo (ss.map Prod.fst) ss.length) SetD.zero=ss[minTo (ss.map Prod.fst) ss.length].1:=by simp[nC]
        rw[e2];simp)
       have s2:=(hJ.sdat ss[minTo (ss.map Prod.fst) ss.length] (List.getElem_mem nC)).ext hE
       have i9:ss[minTo (ss.map Prod.fst) ss.length]∈ss:=List.getElem_mem nC
       generalize fC:ss[minTo (ss.map Prod.fst) ss.length]=r at*;generalize minTo (ss.map Prod.fst) ss.length=m at*;obtain⟨⟨qn,qt,qc,qtl,qd⟩,qv⟩:=r
       dsimp only at*;obtain⟨qA,qcc,rfl,x9⟩:=s2
       simp only[Nat.zero_add]at g2;obtain⟨y0,y1,y2,y3,y4⟩:=g2
       have td:(m:Int)<(ss.length:Int):=by omega
       have mO:(0:Int)≤(m:Int):=by omega
       have ya:=hJ.oown.ext hE
       have kS:=hJ.sown.ext hE
       have uH:=hJ.ext.trans hE
       clear a9 ez fC a6;go_wp2_with(first
        |(at_builtin
          refine zad _ rfl (.tmp 136) (.tmp 141) _ rfl w.heap.size 79 i0 _ 5 48 Tryz.underlying22 aH aF aC ax rfl (by omega) oA os.length oc (os.flatMap setCells) rfl (ya.ext ((Z5 _).alloc _)) 0 _ 1 1 (setCells (⟨qn,qt,qc,qtl,qd⟩,.slice qA qd.length qcc)) rfl (zaw _ _ (by simp) _ _ 1 5 rfl) (zg0 _ _ _ _) (by omega) (by omega) (by have:=uH.size;simp;omega) ?_
          intro A5 c5 w5 ai bq aG dS))
       have fO:Ext wi' (wi'.alloc (.cells (setCells (⟨qn,qt,qc,qtl,qd⟩,.slice qA qd.length qcc)).toArray 79)):=(Z5 _).alloc _
       have ja:(Value.slice (some ⟨g,0,none⟩) ss.length sc).ownBlock=none∨(Value.slice (some ⟨g,0,none⟩) ss.length sc).ownBlock≠(Value.slice oA os.length oc).ownBlock:=by
        right;rcases hJ.apart with h|h
        ·rw[h];simp[Value.ownBlock]
        ·exact fun e=>h e.symm
       have nF:=(kS.ext fO).kept bq ja
       have nG:∀p∈ss,OStrs w5 w.heap.size p.2 p.1.data:=fun p hp=>(((hJ.sdat p hp).ext hE).ext fO).kept bq (zb3 ((hJ.sdat p hp).ext hE) ya)
       have nu:∀p∈os++[(⟨qn,qt,qc,qtl,qd⟩,Value.slice qA qd.length qcc)],OStrs w5 w.heap.size p.2 p.1.data:=by
        intro p hp;rcases List.mem_append.1 hp with h|h
        ·exact(((hJ.odat p h).ext hE).ext fO).kept bq (zb3 ((hJ.odat p h).ext hE) ya)
        ·rw[List.mem_singleton]at h;subst h;exact nG _ i9
       have Fe:(Value.slice A5 (os.length+1) c5).ownBlock=none∨(Value.slice A5 (os.length+1) c5).ownBlock≠(Value.slice (some ⟨g,0,none⟩) ss.length sc).ownBlock:=by
        rcases dS with e|e
        ·rw[e];exact hJ.apart
        ·rw[e];right;intro e';have h1:=(kS.blk g rfl).2
         simp[Value.ownBlock]at e';omega
       have am:Ext w w5:=Ext.then (lo:=w.heap.size) (uH.trans fO) aG (Z4 _)
       have JH:=kS.cap
       have kb:=nF.rd.takeS m (by omega) rfl
       have eM:=nF.rd.dropS (m+1) (by omega) rfl
       have bm:=zog (ss:=ss.take m) (fun p hp=>nG p (List.mem_of_mem_take hp))
       have aI:=zog (ss:=ss.drop (m+1)) (fun p hp=>nG p (List.mem_of_mem_drop hp))
       clear ya fO bq aG dS nC hE Fd qI;have nH:(m:Int)+1≤(ss.length:Int):=by omega
       have JI:(m:Int)≤(sc:Int):=by omega
       have JJ:(ss.length:Int)≤(sc:Int):=by omega
       have nI:IntKind.i64.wrap ((m:Int)+1)=((m+1:Nat):Int):=by first|go_num|(simp[IntKind.wrap,IntKind.bits,IntKind.signed];omega)
       have y8:((m+1:Nat):Int)≤(ss.length:Int):=by omega
       have CP:(0:Int)≤(m:Int)+1:=by omega
       have zD:(Value.slice (some ⟨g,0,none⟩) ss.length sc).ownBlock=none∨(Value.slice (some ⟨g,0,none⟩) ss.length sc).ownBlock≠(Value.slice (some ⟨w5.heap.size,0,none⟩) 0 0).ownBlock:=.inr fun e=>by
        have h1:=(nF.blk g rfl).2
        simp[Value.ownBlock]at e;omega
       have zE:∀W,Own W w.heap.size 79 5 (some ⟨g,0,none⟩) ss.length sc (ss.flatMap setCells)→Rd W w.heap.size 5 (if sc=m+1 then some ⟨g,0,none⟩else some ⟨g,(m+1)*5,none⟩) (ss.length - (m+1)) ((ss.drop (m+1)).flatMap setCells):=fun W hW=>by
        split
        ·have h0:ss.length=m+1:=by omega
         rw[List.drop_eq_nil_of_le (by omega),show ss.length - (m+1)=0 by omega]
         exact Rd.nil _ _ _ _
        ·have:=hW.rd.dropS (m+1) (by omega) rfl
         rwa[Nat.zero_add]at this
       have mP:=(ztp w5 79 5).lower am.size
       have uI:(Value.slice A5 (os.length+1) c5).ownBlock=none∨(Value.slice A5 (os.length+1) c5).ownBlock≠(Value.slice (some ⟨w5.heap.size,0,none⟩) 0 0).ownBlock:=by
        rcases h:(Value.slice A5 (os.length+1) c5).ownBlock with _|k
        ·exact .inl rfl
        ·right;intro e;have h1:=(ai.blk k h).2
         simp[Value.ownBlock]at e;omega
       go_region_law (first
        |(refine zl7 _ (by rfl) (.tmp 143) (.tmp 146) _ (by rfl) w.heap.size 79 i0 _ 5 48 Tryz.underlying22 aH aF aC ax rfl (by omega) (some ⟨w5.heap.size,0,none⟩) 0 0 [] (by rfl) (by exact mP.ext xt) w.heap.size (some ⟨g,0,none⟩) m sc ((ss.take m).flatMap setCells) (by rfl) (by exact kb.ext xt) bm (by omega) (by omega) (by have:=am.size;simp;omega) ?_;intro A6 c6 w6 aQ dG dT dH;rw[Nat.zero_add,List.nil_append]at aQ;rw[Nat.zero_add]at dH)
        |(refine zl7 _ (by rfl) (.tmp 147) (.tmp 151) _ (by rfl) w.heap.size 79 i0 _ 5 48 Tryz.underlying22 aH aF aC ax rfl (by omega) A6 m c6 ((ss.take m).flatMap setCells) (by rfl) (by exact aQ.ext xt) w.heap.size (if sc=m+1 then some ⟨g,0,none⟩else some ⟨g,(m+1)*5,none⟩) (ss.length - (m+1)) (sc - (m+1)) ((ss.drop (m+1)).flatMap setCells) (by rfl) (by exact(zE _ ((nF.ext xt).kept dG zD)).ext xt) aI (by omega) (by omega) (by exact(Ext.then (lo:=w.heap.size) (am.trans xt) dT (Z4 _)).size) ?_;intro A7 c7 w7 fQ dV lB jb))
       have k6:∀{v:Value} {d:List (List UInt8)},OStrs w5 w.heap.size v d→OStrs w6 w.heap.size v d:=fun h=>(h.ext xt).kept dG (zb3 (h.ext ((Z5 w5).alloc _)) mP)
       have k7:∀{v:Value} {d:List (List UInt8)},OStrs w6 w.heap.size v d→OStrs w7 w.heap.size v d:=fun h=>(h.ext xt).kept dV (zb3 h aQ)
       have dw:=(ai.ext xt).kept dG uI
       have mQ:(Value.slice A5 (os.length+1) c5).ownBlock=none∨(Value.slice A5 (os.length+1) c5).ownBlock≠(Value.slice A6 m c6).ownBlock:=zf8 uI (fun k hk=>by have:=(ai.blk k hk).2;simp;omega) dH
       have jc:=(dw.ext xt).kept dV mQ
       have uJ:=zf8 mQ (fun k hk=>by have:=(dw.blk k hk).2;simpa using this) jb
       have aw:Ext w w6:=Ext.then (lo:=w.heap.size) (am.trans xt) dT (Z4 _)
       have aS:Ext w w7:=Ext.then (lo:=w.heap.size) (aw.trans xt) lB (Z4 _)
       have mN:(ss.take m++ss.drop (m+1)).length=m+(ss.length - (m+1)):=by rw[Z6,List.length_take,List.length_drop];omega
       have gb:∀p∈ss.take m++ss.drop (m+1),p∈ss:=fun p hp=>by
        rcases List.mem_append.1 hp with h|h
        ·exact List.mem_of_mem_take h
        ·exact List.mem_of_mem_drop h
       have yb:SelInv w G l.length (ss.take m++ss.drop (m+1)) (os++[(⟨qn,qt,qc,qtl,qd⟩,.slice qA qd.length qcc)]) A7 c7 A5 c5 w7:=by
        refine⟨by rw[mN,Z6];simp;omega,?_,?_,fun p hp=>k7 (k6 (nG p (gb p hp))),fun p hp=>k7 (k6 (nu p hp)),?_,fun p hp=>hJ.names p (gb p hp),aS,?_⟩
        ·rw[mN,List.flatMap_append];exact fQ
        ·rw[Z6,List.flatMap_append];simpa using jc
        ·rw[mN,Z6];exact uJ
        ·rw[Z6];exact HS.out
       clear k6 k7 dw jc mQ uJ aw gb;go_wp2_with fail;go_roundw
       case rel=>exact⟨ss.take m++ss.drop (m+1),os++[(⟨qn,qt,qc,qtl,qd⟩,.slice qA qd.length qcc)],A7,c7,⟨rfl,mN.symm,rfl⟩,A5,c5,⟨rfl,by simp,rfl⟩,yb⟩
       case measure=>simp[lenOf];omega
       exact⟨⟨ss.take m++ss.drop (m+1),os++[(⟨qn,qt,qc,qtl,qd⟩,.slice qA qd.length qcc)],A7,c7,⟨rfl,mN.symm,rfl⟩,A5,c5,⟨rfl,by simp,rfl⟩,yb⟩,by simp[lenOf];omega⟩
theorem zCv (n:List UInt8):(fold n).length≤n.length:=by
 unfold fold;split
 ·rw[zbg];exact Z4 _
 ·simp
theorem zA0 (l:List Pc):(l.flatMap fun p=>if p.nm then fold p.text else p.text).length≤(textOf l).length:=by
 induction l with
 |nil=>simp[textOf]
 |cons a l ih=>
  unfold textOf at*;rw[List.flatMap_cons,List.flatMap_cons,Z6,Z6];have:(if a.nm then fold a.text else a.text).length≤a.text.length:=by
   split
   ·exact zCv _
   ·exact Z4 _
  omega
theorem zmf (k:Int) (d:List UInt8):(rfold k d).length≤d.length:=by
 unfold rfold partsOf zbk;split
 ·rename_i h;have:=zA0 (splitOf d 0 k).1
  rw[h.2]at this;exact this
 ·simp
theorem zta {l:List (List UInt8)} {s x:List UInt8} (h:x∈zd7 l s):x∈l∨x=s:=by
 induction l with
 |nil=>simp[zd7]at h;exact .inr h
 |cons a l ih=>
  simp only[zd7]at h;split at h
  ·simp only[List.mem_cons]at h ⊢;rcases h with h|h|h
   ·exact .inr h
   ·exact .inl (.inl h)
   ·exact .inl (.inr h)
  ·simp only[List.mem_cons]at h ⊢;rcases h with h|h
   ·exact .inl (.inl h)
   ·rcases ih h with h|h
    ·exact .inl (.inr h)
    ·exact .inr h
theorem zDk {l:List (List UInt8)} {s x:List UInt8} (h:x∈zdq l s):x∈l∨x=s:=by
 unfold zdq at h;split at h
 ·exact .inl h
 ·exact zta h
theorem zls (l:List RecD) (B:Nat) (hB:∀r∈l,r.data.length≤B):∀k,k≤l.length→∀s∈groupTo l k,∀d∈s.data,d.length≤B
 |0,_=>by simp[groupTo]
 |k+1,h=>by
  rw[ze5 l k (by omega)]
  have ih:=zls l B hB k (by omega)
  have hx:=hB l[k] (List.getElem_mem (by omega))
  have hr:=zmf l[k].typ l[k].data
  intro s hs d hd;unfold zev at hs;split at hs
  ·split at hs
   ·rcases List.mem_append.1 hs with h1|h1
    ·exact ih s h1 d hd
    ·rw[List.mem_singleton]at h1;subst h1;simp at hd;subst hd;omega
   ·rcases zkk hs with h1|⟨y,hy,rfl⟩
    ·exact ih s h1 d hd
    ·rcases zDk hd with h2|h2
     ·exact ih y hy d h2
     ·subst h2;omega
  ·exact ih s hs d hd
theorem zu7:∀(n:Nat) (l:List SetD) (s:SetD),s∈zgm n l→s∈l
 |0,_,_,h=>by simp[zgm]at h
 |n+1,l,s,h=>by
  unfold zgm at h;split at h
  ·simp at h
  ·rename_i h0;have hm:=zil l l.length (by omega)
   rcases List.mem_cons.1 h with h|h
   ·subst h;rw[List.getD_eq_getElem?_getD,Z3 hm];exact List.getElem_mem hm
   ·rcases List.mem_append.1 (zu7 n _ s h)with h|h
    ·exact List.mem_of_mem_take h
    ·exact List.mem_of_mem_drop h
theorem zj5 {l:List RecD} (h:zh7 l):zdr (groupR l):=by
 intro s hs;have hm:=zu7 _ _ _ hs
 have h1:=zht l l.length (Z4 _) s hm
 have h2:=zls l 300000 (fun r hr=>(h.2 r hr).2) l.length (Z4 _) s hm
 have:=h.1
 exact⟨by omega,by omega,fun d hd=>by have:=h2 d hd;omega⟩
end Go.Proofs.YtdnpmapelmjfpaaGreatDoor
namespace Go.Proofs.YtdnpmapelmjfpaaGreatDoor
open Go.ChangeShapes Go.WideShapes Go.RowKit Go.Deep Go.Joins
section
variable {H : Type} {enc : TypeId × Value → H} {P : Program} {w : World} {base : Nat} {spare : Nat → Bool} {uK : Bool}
theorem S_of (s:ByteArray):Value.string s=S s.data.toList:=by cases s;simp
theorem ze7 {a:Addr} {v:Value} (h:w.cell? a=some v):a=⟨a.block,a.off,none⟩∧a.block<w.heap.size:=by
 obtain⟨b,o,s⟩:=a
 unfold World.cell? at h;rcases hb:w.heap[b]? with _|ob
 ·simp[hb]at h
 ·refine⟨?_,(Z9 hb)⟩;rcases s with _|s
  ·rfl
  ·simp only[hb]at h;split at h<;>simp at h
theorem pick {α:Type} (z:α) (n:Nat) (Q:Nat→α→Prop) (h:∀i,i<n→∃x,Q i x):∃l:List α,l.length=n∧∀i (hi:i<l.length),Q i l[i]:=by
 classical
 refine⟨(List.range n).map fun i=>if hi:i<n then Classical.choose (h i hi)else z,by simp,fun i hi=>?_⟩
 have kf:i<n:=by simpa using hi
 simp only[List.getElem_map,List.getElem_range,dif_pos kf];exact Classical.choose_spec (h i kf)
theorem zBy {n:Int} (h:(Lit.int .u16 n).wf=true):0≤n∧n≤65535:=by
 have h1:IntKind.u16.min=0:=rfl
 have h2:IntKind.u16.max=65535:=rfl
 simp[Lit.wf]at h;omega
theorem zAg {s:ByteArray} (h:s.size≤maxLen):s.data.toList.length≤maxLen:=by rw[Array.length_toList];exact h
end
theorem zs3 {H:Type} {enc:TypeId×Value→H} {W:World} {r:Reach} {b0:Nat} {v:Value} {d:DataW H} {p:List MemPlace}
 (hv:Value.okWide Tryz.prog W r b0 32 v) (h:DataW.Trod enc Tryz.prog W 0 (fun _=>true) true 32 v d p):
 ∃(n:List UInt8) (ty cl:Int),v=.agg #[S n,.int .u16 ty,.int .u16 cl]∧n.length≤maxLen∧(0≤ty∧ty≤65535)∧(0≤cl∧cl≤65535):=by
 obtain⟨v0,v1,v2,y0,y1,y2,n,rfl,_,_,h0,h1,h2⟩:=open_agg3 Tryz.underlying32 (by kernel_rfl) (by kernel_rfl) hv h
 obtain⟨s,e0,_,hs⟩:=DataW.trod_string Tryz.underlying9 h0
 obtain⟨a,e1,_,w1⟩:=DataW.trod_int Tryz.underlying26 h1
 obtain⟨b,e2,_,w2⟩:=DataW.trod_int Tryz.underlying26 h2
 injection e0 with e0 _
 injection e1 with e1 _
 injection e2 with e2 _
 subst e0 e1 e2;exact⟨s.data.toList,a,b,by rw[S_of],zAg hs,zBy w1,zBy w2⟩
section
variable {H : Type} {enc : TypeId × Value → H} {P : Program} {w : World} {base : Nat} {spare : Nat → Bool} {uK : Bool}
end
section
variable {H : Type} {enc : TypeId × Value → H} {P : Program} {w : World} {base : Nat} {spare : Nat → Bool} {uK : Bool}
end
end Go.Proofs.YtdnpmapelmjfpaaGreatDoor
