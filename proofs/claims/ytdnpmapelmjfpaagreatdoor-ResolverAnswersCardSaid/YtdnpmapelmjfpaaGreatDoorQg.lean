/- Contracts of functions and plain lemmas that the proofs of this seat share (joined texts). No condition. -/
import Derived.Test.YtdnpmapelmjfpaaGreatDoorQf
import Derived.Deep.RegionHeld3
import Derived.Deep.DeepMust
import Derived.ProofKit
import Derived.OpenShut
import Derived.Deep.Slices
import Derived.Deep.Fields
import Derived.ChangeSame
import Derived.Lib.SmallJoins
import Derived.SizedLaws
import Derived.SliceStrings
import Derived.Carry
set_option maxHeartbeats 8000000
set_option linter.unusedVariables false
set_option linter.unusedSimpArgs false
namespace Go.Proofs.YtdnpmapelmjfpaaGreatDoor
open Go.RowKit
set_option maxRecDepth 100000
def zfi (l:List RecD):Prop:=l.length≤4096∧∀r∈l,r.name.length≤300000∧r.data.length≤300000
theorem zBt (l:List (List UInt8)) (s:List UInt8):(zdu l s).length≤l.length+1:=by
 unfold zdu;split
 ·omega
 ·rw[zs3];omega
theorem zjy {α:Type} {l:List α} {k:Nat} {f:α→α} {x:α} (h:x∈l.modify k f):x∈l∨∃y∈l,x=f y:=by
 induction l generalizing k with
 |nil=>simp at h
 |cons a l ih=>
  rcases k with _|k
  ·simp only[List.modify_zero_cons,List.mem_cons]at h;rcases h with rfl|h
   ·exact .inr ⟨a,by simp,rfl⟩
   ·exact .inl (by simp[h])
  ·simp only[List.modify_succ_cons,List.mem_cons]at h;rcases h with rfl|h
   ·exact .inl (by simp)
   ·rcases ih h with h|⟨y,hy,rfl⟩
    ·exact .inl (by simp[h])
    ·exact .inr ⟨y,by simp[hy],rfl⟩
theorem zD1 (sets:List SetD) (x:RecD) (k:Nat) (h:∀s∈sets,s.name.length≤255∧s.data.length≤k):∀s∈zev sets x,s.name.length≤255∧s.data.length≤k+1:=by
 intro s hs;unfold zev at hs;split at hs
 ·split at hs
  ·rcases List.mem_append.1 hs with h1|h1
   ·have:=h s h1;omega
   ·rw[List.mem_singleton]at h1;subst h1;exact⟨zep _,by simp⟩
  ·rcases zjy hs with h1|⟨y,hy,rfl⟩
   ·have:=h s h1;omega
   ·have h2:=h y hy
    have h3:=zBt y.data (rfold x.typ x.data)
    unfold zhd;dsimp only;omega
 ·have:=h s hs;omega
theorem zhi (l:List RecD):∀k,k≤l.length→∀s∈groupTo l k,s.name.length≤255∧s.data.length≤k
 |0,_=>by simp[groupTo]
 |k+1,h=>by
  rw[zdl l k (by omega)]
  exact zD1 _ _ _ (zhi l k (by omega))
theorem zAn (sets:List SetD) (x:RecD):(zev sets x).length≤sets.length+1:=by
 unfold zev
 repeat' split
 all_goals simp
theorem zfk (l:List RecD):∀k,k≤l.length→(groupTo l k).length≤k
 |0,_=>by simp[groupTo]
 |k+1,h=>by
  rw[zdl l k (by omega)]
  have:=zAn (groupTo l k) l[k]
  have:=zfk l k (by omega)
  omega
structure GrInv (w:World) (sets:List SetD) (ps:List (SetD×Value)) (A:Option Addr) (c:Nat) (wr:World):Prop where
 eq:ps.map Prod.fst=sets
 own:Own wr w.heap.size 79 5 A ps.length c (ps.flatMap setCells)
 datas:∀p∈ps,OStrs wr w.heap.size p.2 p.1.data
 ext:Ext w wr
def zpl (l:List SetD) (w:World) (e:Ending) (w':World):Prop:=∃v,e=.returned v∧OSets w' w.heap.size v l∧Ext w w'
theorem zl0 (l:List (SetD×Value)):(l.flatMap setCells).length=l.length*5:=by
 induction l with
 |nil=>rfl
 |cons a l ih=>rw[List.flatMap_cons,List.length_append,ih,List.length_cons];show 5+_=_;omega
theorem Rd.takeS {w:World} {lo:Nat} {A:Option Addr} {n:Nat} {ss:List (SetD×Value)} (h:Rd w lo 5 A n (ss.flatMap setCells)) (m:Nat) (hm:m≤n) (hn:n=ss.length):Rd w lo 5 A m ((ss.take m).flatMap setCells):=by
 subst hn;refine⟨by rw[zl0,List.length_take];omega,fun h0=>?_⟩
 obtain⟨b,off,e,hl,hb,hc⟩:=h.2 (by omega)
 refine⟨b,off,e,hl,hb,fun j u hu=>hc j u ?_⟩
 conv=>lhs;rw[←List.take_append_drop m ss]
 rw[List.flatMap_append,List.getElem?_append_left (List.getElem?_eq_some_iff.1 hu).1];exact hu
theorem Rd.dropS {w:World} {lo:Nat} {b off n:Nat} {ss:List (SetD×Value)} (h:Rd w lo 5 (some ⟨b,off,none⟩) n (ss.flatMap setCells)) (m:Nat) (hm:m≤n) (hn:n=ss.length):Rd w lo 5 (some ⟨b,off+m*5,none⟩) (n - m) ((ss.drop m).flatMap setCells):=by
 subst hn;refine⟨by rw[zl0,List.length_drop],fun h0=>?_⟩
 obtain⟨b',off',e,hl,hb,hc⟩:=h.2 (by omega)
 injection e with e
 injection e with e1 e2 _
 subst e1 e2;refine⟨b,off+m*5,rfl,hl,hb,fun j u hu=>?_⟩
 rw[Nat.add_assoc];refine hc (m*5+j) u ?_
 conv=>lhs;rw[←List.take_append_drop m ss]
 have hl:((ss.take m).flatMap setCells).length=m*5:=by rw[zl0,List.length_take];congr 1;omega
 rw[List.flatMap_append,List.getElem?_append_right (by omega),hl,Nat.add_sub_cancel_left];exact hu
theorem zsz {w:World} {lo:Nat} {ss:List (SetD×Value)} (h:∀p∈ss,OStrs w lo p.2 p.1.data):∀u∈ss.flatMap setCells,u.oneCell'=true:=by
 intro u hu;obtain⟨p,hp,hu⟩:=List.mem_flatMap.1 hu
 obtain⟨s,v⟩:=p
 obtain⟨A,c,e,_⟩:=h _ hp
 dsimp only at e;subst e;exact zig s A _ c u hu
structure SelInv (w:World) (G:List SetD) (F:Nat) (ss os:List (SetD×Value)) (sA:Option Addr) (sc:Nat) (oA:Option Addr) (oc:Nat) (wr:World):Prop where
 fuel:ss.length+os.length≤F
 sown:Own wr w.heap.size 79 5 sA ss.length sc (ss.flatMap setCells)
 oown:Own wr w.heap.size 79 5 oA os.length oc (os.flatMap setCells)
 sdat:∀p∈ss,OStrs wr w.heap.size p.2 p.1.data
 odat:∀p∈os,OStrs wr w.heap.size p.2 p.1.data
 apart:(Value.slice oA os.length oc).ownBlock=none∨(Value.slice oA os.length oc).ownBlock≠(Value.slice sA ss.length sc).ownBlock
 names:∀p∈ss,p.1.name.length≤255
 ext:Ext w wr
 eq:G=os.map Prod.fst++zgl (F - os.length) (ss.map Prod.fst)
theorem zzo (lo:Nat) (v:Value) (l:List RecD) (w:World) (h:Recs w lo v l) (hbd:zfi l):
 Calls Tryz.prog 53 #[v] w (zpl (zap l) w):=by
 obtain⟨A0,c0,rfl,h1,h2,hrd⟩:=h
 unfold maxLen at h2;have hl4:=hbd.1
 obtain⟨i0,hi0,hz0,hz1,hz2⟩:=info_parts zgn
 obtain⟨G,hG⟩:∃G,G=zgl l.length (groupTo l l.length):=⟨_,rfl⟩
 rw[show zap l=G from hG.symm]
 have HG:=Lib.hid hG
 clear hG;go_enter Tryz.func53,Tryz.ntmps53
 go_wp2
 go_loopw [3,4] (fun s i wr=>∃(k:Nat) (ps:List (SetD×Value)) (A:Option Addr) (c:Nat),k≤l.length∧i=.int .i64 k∧s=.slice A ps.length c∧GrInv w (groupTo l k) ps A c wr) (fun _ i _=>l.length - (intOf i).toNat)
 case atStart=>exact⟨0,[],none,0,by omega,rfl,rfl,⟨rfl,Own.nil _ _ _ _,by simp,Ext.refl _⟩⟩
 case round=>
  obtain⟨k,ps,A,c,hk,rfl,rfl,hI⟩:=hrel
  obtain⟨wo,rfl⟩:∃wo:World,wo=wr:=⟨_,rfl⟩
  have hEo:=hI.ext
  by_cases hlt:k<l.length
  ·obtain⟨b,off,rfl,_,hbz,hc⟩:=hrd.2 (by omega)
   have hcs:=zdb hc k l[k] (List.getElem?_eq_getElem hlt)
   have hxb:=hbd.2 l[k] (List.getElem_mem hlt)
   have hGs:=zdl l k hlt
   have hsb:=zhi l k hk
   have hgl:=zfk l k hk
   generalize l[k]=x at*;have hsets:=hI.eq
   generalize groupTo l k=sets at*;have hpl:ps.length=sets.length:=by rw[←hsets];simp
   obtain⟨nm,ty,cl,tt,da⟩:=x
   dsimp only at*;obtain⟨x0,x1,x2,x3,x4⟩:=hcs
   rw[←hEo.cell (p:=⟨b,_,none⟩) hbz]at x0 x1 x2 x3 x4
   have hbz2:b<wo.heap.size:=Nat.lt_of_lt_of_le hbz hEo.size
   have hki:(k:Int)<(l.length:Int):=by omega
   have hpsb:ps.length≤4096:=by omega
   have HGs:=Lib.hid hGs
   have Hsets:=Lib.hid hsets
   have Hpl:=Lib.hid hpl
   clear hc hGs hsets hpl;by_cases hm:may nm=true
   ·by_cases hrm:rmay ty da=true
    ·have HOk:=Lib.hid (show zb4 ⟨nm,ty,cl,tt,da⟩=true by simp[zb4,hm,hrm])
     go_wp2_with fail;refine(zc7 nm _ (by omega)).mono ?_;rintro e w1 ⟨rfl,hE1⟩
     rw[hm];obtain⟨hq,hqf,hqz⟩:=zb0 hE1
     go_wp2_with fail;refine(zkc ty da _ (by omega)).mono ?_;rintro e w2 ⟨rfl,hE2⟩
     rw[hrm];obtain⟨hq2,hqf2,hqz2⟩:=zb0 (hE1.trans hE2)
     clear hq hqf hqz;go_wp2_with fail;refine(zgs nm _ (by omega)).mono ?_;rintro e w3 ⟨rfl,hE3⟩
     obtain⟨hq3,hqf3,hqz3⟩:=zb0 ((hE1.trans hE2).trans hE3)
     clear hq2 hqf2 hqz2;go_wp2_with fail;refine(zzp ty da _ (by omega)).mono ?_;rintro e w4 ⟨rfl,hE4⟩
     have hE14:=((hE1.trans hE2).trans hE3).trans hE4
     obtain⟨hq4,hqf4,hqz4⟩:=zb0 hE14
     clear hq3 hqf3 hqz3;have hEo4:Ext wo w4:=((Ext.refl _).alloc _).trans hE14
     have hown4:=hI.own.ext hEo4
     have hdat4:∀p∈ps,OStrs w4 w.heap.size p.2 p.1.data:=fun p hp=>(hI.datas p hp).ext hEo4
     have hEw4:Ext w w4:=hEo.trans hEo4
     have hln:(fold nm).length≤255:=zep nm
     have HA:=Lib.hid (show zev sets ⟨nm,ty,cl,tt,da⟩=if atTo (zbc (fold nm) ty cl) sets sets.length<0 then sets++[⟨fold nm,ty,cl,timeT tt,[rfold ty da]⟩]else sets.modify (atTo (zbc (fold nm) ty cl) sets sets.length).toNat (zhd (timeT tt) (rfold ty da))by unfold zev;rw[HOk.out,if_pos rfl])
     generalize fold nm=fn at*;generalize rfold ty da=fd at*;go_wp2_with fail
     go_loopw [8,9] (fun a i wi=>∃(j q:Nat),j≤ps.length∧i=.int .i64 j∧a=.int .i64 (atTo (zbc fn ty cl) sets j)∧wi=w4.drewN q) (fun _ i _=>ps.length - (intOf i).toNat)
     case atStart=>exact⟨0,0,by omega,rfl,rfl,rfl⟩
     case round=>
      obtain⟨j,q,hj,rfl,rfl,rfl⟩:=hrel
      have hab:=zuu (zbc fn ty cl) sets j
      by_cases hjl:j<ps.length
      ·obtain⟨g,rfl,hgw,hgz,hgf,hgc⟩:=hown4.addr (by omega)
       have hps:ps[j]? =some ps[j]:=List.getElem?_eq_getElem hjl
       have hgc':∀i u,(ps.flatMap setCells)[i]? =some u→w4.cell? ⟨g,0+i,none⟩=some u:=fun i u hu=>by rw[Nat.zero_add];exact hgc i u hu
       have hcj:=zb9 hgc' j ps[j] hps
       have Hstep:=Lib.hid (show atTo (zbc fn ty cl) sets (j+1)=if zbc fn ty cl (ps[j].1)then(j:Int)else atTo (zbc fn ty cl) sets j by
        have:sets.getD j SetD.zero=ps[j].1:=by rw[←Hsets.out];simp[hjl]
        rw[←this];rfl)
       generalize ps[j]=p at*;generalize atTo (zbc fn ty cl) sets j=aj at*;obtain⟨⟨sn,st,sc,stl,sd⟩,sv⟩:=p
       simp only[Nat.zero_add]at hcj;obtain⟨y0,y1,y2,y3,y4⟩:=hcj
       dsimp only at*;have hji:(j:Int)<(ps.length:Int):=by omega
       have hj0:(0:Int)≤(j:Int):=by omega
       clear hgc hgc' hps;by_cases e1:sn=fn
       ·have f1:=zA1 e1
        by_cases e2:st=ty
        ·obtain⟨f2,_⟩:=zja e2
         by_cases e3:sc=cl
         ·obtain⟨f3,_⟩:=zja e3
          have HK:=Lib.hid (show zbc fn ty cl ⟨sn,st,sc,stl,sd⟩=true by simp[zbc,e1,e2,e3])
          clear e1 e2 e3;go_wp2_with fail
          go_quiet (fail)
          go_wp2_with fail;go_roundw
          case rel=>exact⟨j+1,_,by omega,by go_num,by rw[Hstep.out,HK.out];rfl,rfl⟩
          case measure=>simp[intOf];omega
         ·obtain⟨f3,_⟩:=zhs e3
          have HK:=Lib.hid (show zbc fn ty cl ⟨sn,st,sc,stl,sd⟩=false by simp[zbc,e3])
          clear e1 e2 e3;go_wp2_with fail
          go_quiet (fail)
          go_wp2_with fail;go_roundw
          case rel=>exact⟨j+1,_,by omega,by go_num,by rw[Hstep.out,HK.out];rfl,rfl⟩
          case measure=>simp[intOf];omega
        ·obtain⟨f2,_⟩:=zhs e2
         have HK:=Lib.hid (show zbc fn ty cl ⟨sn,st,sc,stl,sd⟩=false by simp[zbc,e2])
         clear e1 e2;go_wp2_with fail
         go_quiet (fail)
         go_wp2_with fail;go_roundw
         case rel=>exact⟨j+1,_,by omega,by go_num,by rw[Hstep.out,HK.out];rfl,rfl⟩
         case measure=>simp[intOf];omega
       ·have f1:=zls e1
        have HK:=Lib.hid (show zbc fn ty cl ⟨sn,st,sc,stl,sd⟩=false by simp[zbc,e1])
        clear e1;go_wp2_with fail
        go_quiet (fail)
        go_wp2_with fail;go_roundw
        case rel=>exact⟨j+1,_,by omega,by go_num,by rw[Hstep.out,HK.out];rfl,rfl⟩
        case measure=>simp[intOf];omega
      ·obtain rfl:j=ps.length:=by omega
       rw[Hpl.out]at hab;rw[show atTo (zbc fn ty cl) sets ps.length=atTo (zbc fn ty cl) sets sets.length by rw[Hpl.out]]
       generalize atTo (zbc fn ty cl) sets sets.length=aj at*;obtain⟨W,hW⟩:∃W,W=w4.drewN q:=⟨_,rfl⟩
       rw[←hW];have hEW:Ext w4 W:=by rw[hW];exact(Ext.refl _).drewN q
       have hownW:=hown4.ext hEW
       have hdatW:∀p∈ps,OStrs W w.heap.size p.2 p.1.data:=fun p hp=>(hdat4 p hp).ext hEW
       have hEwW:Ext w W:=hEw4.trans hEW
       obtain⟨hqW,hqfW,hqzW⟩:=zb0 (hE14.trans hEW)
       clear hW hq4 hqf4 hqz4 hown4 hdat4;by_cases hneg:aj<0
       ·have HF:=Lib.hid (HGs.out.trans (HA.out.trans (if_pos hneg)))
        go_wp2_with fail;have hx1:W.cell? ⟨wo.heap.size,1,none⟩=some (.int .u16 ty):=hqW 1
        have hx2:W.cell? ⟨wo.heap.size,2,none⟩=some (.int .u16 cl):=hqW 2
        have hx3:W.cell? ⟨wo.heap.size,3,none⟩=some (.int .u32 tt):=hqW 3
        go_region_held3 (fun V=>V.cell? ⟨wo.heap.size,1,none⟩=some (.int .u16 ty)∧V.cell? ⟨wo.heap.size,2,none⟩=some (.int .u16 cl)∧V.cell? ⟨wo.heap.size,3,none⟩=some (.int .u32 tt))
         (first|go_keep|(refine⟨hg5.cell ?_ (fun e=>absurd (hI.own.blk _ e.symm).2 (Nat.lt_irrefl _)),hg5.cell ?_ (fun e=>absurd (hI.own.blk _ e.symm).2 (Nat.lt_irrefl _)),hg5.cell ?_ (fun e=>absurd (hI.own.blk _ e.symm).2 (Nat.lt_irrefl _))⟩<;>go_keep))
         (first
          |(go_at_call 103;refine(zsu _ _).mono ?_;rintro e w' ⟨rfl,rfl⟩)
          |(refine zel _ (by rfl) (.tmp 79) (.tmp 91) _ (by rfl) w.heap.size 79 i0 _ 5 48 Tryz.underlying22 hi0 hz0 hz1 hz2 rfl (by omega) A ps.length c (ps.flatMap setCells) (by rfl) (by exact hownW.ext xt) 0 _ 1 1 (setCells (⟨fn,ty,cl,timeT tt,[fd]⟩,.slice (some ⟨W.heap.size,0,none⟩) 1 1)) (by rfl) (by exact(zaz _ _ (by simp) _ _ 1 5 rfl).drew) (zig _ _ _ _) (by omega) (by omega) (by have:=hEwW.size;simp;omega) ?_;intro A5 c5 w5 hown5 hg5 hb5 hat5))
        all_goals
         go_wp2_with fail;go_roundw
         case rel=>
          refine⟨k+1,ps++[(⟨fn,ty,cl,timeT tt,[fd]⟩,.slice (some ⟨W.heap.size,0,none⟩) 1 1)],A5,c5,by omega,by go_num,by simp,⟨?_,?_,?_,?_⟩⟩
          ·rw[HF.out,List.map_append,Hsets.out];rfl
          ·simpa using hown5
          ·intro p hp;rcases List.mem_append.1 hp with h|h
           ·exact OStrs.kept (OStrs.ext (hdatW p h) xt) hg5 (zbo (hdatW p h) hownW)
           ·rw[List.mem_singleton]at h;subst h;refine OStrs.kept (OStrs.ext (w:=W.alloc (.cells #[S fd] 9)) ⟨_,1,rfl,zer W _ _ rfl hEwW.size _ _ 1 1 rfl (by unfold maxLen;omega)⟩ xt) hg5 (.inr fun e=>absurd (hownW.blk _ e.symm).2 (Nat.lt_irrefl _))
          ·exact Ext.then (lo:=w.heap.size) (hEwW.trans xt) hb5 (Nat.le_refl _)
         case measure=>simp[intOf];omega
       ·have hF:=HGs.out.trans (HA.out.trans (if_neg hneg))
        obtain⟨an,rfl⟩:=Int.eq_ofNat_of_zero_le (show 0≤aj by omega)
        rw[Int.toNat_natCast]at hF;have HF:=Lib.hid hF
        clear hF hneg;have han:an<ps.length:=by rw[Hpl.out];omega
        obtain⟨g,rfl,hgw,hgz,hgf,hgc⟩:=hownW.addr (by omega)
        have hps:ps[an]? =some ps[an]:=List.getElem?_eq_getElem han
        have hgc':∀i u,(ps.flatMap setCells)[i]? =some u→W.cell? ⟨g,0+i,none⟩=some u:=fun i u hu=>by rw[Nat.zero_add];exact hgc i u hu
        have hcj:=zb9 hgc' an ps[an] hps
        have hda:=hdatW ps[an] (List.getElem_mem han)
        have hsd:=hsb ps[an].1 (by rw[←Hsets.out];exact List.mem_map.2 ⟨_,List.getElem_mem han,rfl⟩)
        generalize hpe:ps[an]=p at*;obtain⟨⟨sn,st,sc,stl,sd⟩,sv⟩:=p
        simp only[Nat.zero_add]at hcj;obtain⟨y0,y1,y2,y3,y4⟩:=hcj
        dsimp only at*;have hani:(an:Int)<(ps.length:Int):=by omega
        have han0:(0:Int)≤(an:Int):=by omega
        have hx3:W.cell? ⟨wo.heap.size,3,none⟩=some (.int .u32 tt):=hqW 3
        have hgne:g<wo.heap.size:=(hI.own.blk g rfl).2
        clear hgc hgc' hpe;go_wp2_with fail
        go_still_tail 13,(by kernel_rfl)
        still_call ((zsu tt _).mono fun _ _ ⟨h1,h2⟩=>⟨h1,h2.symm⟩)
        repeat still_step
        refine wpStill_nil ?_;go_wp2_with fail;have hls:(ps.flatMap setCells).length=ps.length*5:=hownW.1
        have hj3:an*5+3<ps.length*5:=by omega
        have hj4:an*5+4<ps.length*5:=by omega
        have hdW:∀p∈ps,OStrs (W.setCell ⟨g,an*5+3,none⟩ (.int .u32 (min stl (timeT tt)))).drew w.heap.size p.2 p.1.data:=fun p hp=>(OStrs.set_other (p:=⟨g,an*5+3,none⟩) (hdatW p hp) (.int .u32 (min stl (timeT tt))) (zbo (hdatW p hp) hownW)).ext ((Ext.refl _).drew)
        have hoW:Own (W.setCell ⟨g,an*5+3,none⟩ (.int .u32 (min stl (timeT tt)))).drew w.heap.size 79 5 (some ⟨g,0,none⟩) ps.length c ((ps.set an (⟨sn,st,sc,min stl (timeT tt),sd⟩,sv)).flatMap setCells):=by
         rw[←zi3 ps an (⟨sn,st,sc,stl,sd⟩,sv) (⟨sn,st,sc,min stl (timeT tt),sd⟩,sv) 3 (.int .u32 (min stl (timeT tt))) hps (by omega) rfl]
         exact(hownW.stored _ _ hj3).ext ((Ext.refl _).drew)
        have hdaW:=(OStrs.set_other (p:=⟨g,an*5+3,none⟩) hda (.int .u32 (min stl (timeT tt))) (zbo hda hownW)).ext ((Ext.refl _).drew)
        have y4W:(W.setCell ⟨g,an*5+3,none⟩ (.int .u32 (min stl (timeT tt)))).drew.cell? ⟨g,an*5+4,none⟩=some sv:=by
         show(W.setCell _ _).cell? _=_
         rw[World.cell?_setCell_other _ _ _ _ (by simp)];exact y4
        have hfW:(W.setCell ⟨g,an*5+3,none⟩ (.int .u32 (min stl (timeT tt)))).drew.frozen? ⟨g,an*5+4,none⟩=false:=by
         show(W.setCell _ _).frozen? _=_
         rw[World.frozen?_setCell];exact hgf _
        have hEwX:Ext w (W.setCell ⟨g,an*5+3,none⟩ (.int .u32 (min stl (timeT tt)))).drew:=(hEwW.setCell hgw _).drew
        have hgX:g<(W.setCell ⟨g,an*5+3,none⟩ (.int .u32 (min stl (timeT tt)))).drew.heap.size:=by simp;exact hgz
        generalize (W.setCell ⟨g,an*5+3,none⟩ (.int .u32 (min stl (timeT tt)))).drew=X at*;refine(zE3 w.heap.size sv sd fd X hdaW hEwX.size (by omega)).mono ?_;rintro e w5 ⟨v2,rfl,ho2,hE5⟩
        obtain⟨A2,c2,rfl,ho2'⟩:=ho2
        have y45:=(hE5.cell (p:=⟨g,_,none⟩) hgX).trans y4W
        have hf5:=(hE5.frozen (p:=⟨g,_,none⟩) hgX).trans hfW
        have hgz5:g<w5.heap.size:=Nat.lt_of_lt_of_le hgX hE5.size
        clear y4W hfW y0 y1 y2 y3 y4;go_wp2_with fail;go_roundw
        case rel=>
         have hoW5:=hoW.ext hE5
         have hnew:OStrs w5 w.heap.size (.slice A2 (zdu sd fd).length c2) (zdu sd fd):=⟨A2,c2,rfl,ho2'⟩
         refine⟨k+1,ps.set an (⟨sn,st,sc,min stl (timeT tt),zdu sd fd⟩,.slice A2 (zdu sd fd).length c2),some ⟨g,0,none⟩,c,by omega,by go_num,by simp,⟨?_,?_,?_,?_⟩⟩
         ·rw[HF.out,←Hsets.out];apply List.ext_getElem?;intro i;simp only[List.map_set,List.getElem?_set,List.getElem?_modify,List.getElem?_map,List.length_map];by_cases hi:an=i
          ·subst hi;have hpe:=(List.getElem?_eq_some_iff.1 hps).2
           simp[hpe,han,zhd]
          ·simp[hi]
         ·have h6:=hoW5.stored (an*5+4) (.slice A2 (zdu sd fd).length c2) hj4
          rw[zi3 _ an (⟨sn,st,sc,min stl (timeT tt),sd⟩,sv) (⟨sn,st,sc,min stl (timeT tt),zdu sd fd⟩,.slice A2 (zdu sd fd).length c2) 4 _ (by rw[List.getElem?_set_self han]) (by omega) rfl,List.set_set]at h6
          simpa using h6
         ·intro p hp;rcases List.mem_or_eq_of_mem_set hp with h|h
          ·have h7:=(hdW p h).ext hE5
           exact OStrs.set_other (p:=⟨g,an*5+4,none⟩) h7 _ (zbo h7 hoW5)
          ·subst h;exact OStrs.set_other (p:=⟨g,an*5+4,none⟩) hnew _ (zbo hnew hoW5)
         ·exact(hEwX.trans hE5).setCell hgw _
        case measure=>simp[intOf];omega
    ·have hrm':rmay ty da=false:=by simpa using hrm
     have HOk:=Lib.hid (show zev sets ⟨nm,ty,cl,tt,da⟩=sets by unfold zev;rw[show zb4 ⟨nm,ty,cl,tt,da⟩=false by simp[zb4,hm,hrm'],if_neg (by simp)])
     clear hrm;go_wp2_with fail;refine(zc7 nm _ (by omega)).mono ?_;rintro e w1 ⟨rfl,hE1⟩
     rw[hm];obtain⟨hq,hqf,hqz⟩:=zb0 hE1
     go_wp2_with fail;refine(zkc ty da _ (by omega)).mono ?_;rintro e w2 ⟨rfl,hE2⟩
     rw[hrm'];have hEo2:Ext wo w2:=((Ext.refl _).alloc _).trans (hE1.trans hE2)
     go_wp2_with fail;go_roundw
     case rel=>
      exact⟨k+1,ps,A,c,by omega,by go_num,rfl,⟨by rw[HGs.out,HOk.out];exact Hsets.out,hI.own.ext hEo2,fun p hp=>(hI.datas p hp).ext hEo2,hEo.trans hEo2⟩⟩
     case measure=>simp[intOf];omega
   ·have hm':may nm=false:=by simpa using hm
    have HOk:=Lib.hid (show zev sets ⟨nm,ty,cl,tt,da⟩=sets by unfold zev;rw[show zb4 ⟨nm,ty,cl,tt,da⟩=false by simp[zb4,hm'],if_neg (by simp)])
    clear hm;go_wp2_with fail;refine(zc7 nm _ (by omega)).mono ?_;rintro e w1 ⟨rfl,hE1⟩
    rw[hm'];have hEo2:Ext wo w1:=((Ext.refl _).alloc _).trans hE1
    go_wp2_with fail;go_roundw
    case rel=>
     exact⟨k+1,ps,A,c,by omega,by go_num,rfl,⟨by rw[HGs.out,HOk.out];exact Hsets.out,hI.own.ext hEo2,fun p hp=>(hI.datas p hp).ext hEo2,hEo.trans hEo2⟩⟩
    case measure=>simp[intOf];omega
  ·obtain rfl:k=l.length:=by omega
   have hG:Hid (G=zgl l.length (groupTo l l.length)):=HG
   have hsb:=zhi l l.length (Nat.le_refl _)
   have hgl:=zfk l l.length (Nat.le_refl _)
   obtain⟨hsets,hown,hdat,hext⟩:=hI
   rw[←hsets]at hG hsb hgl;have hsb':∀p∈ps,p.1.name.length≤255:=fun p hp=>(hsb p.1 (List.mem_map.2 ⟨p,hp,rfl⟩)).1
   have hpl:ps.length≤l.length:=by simpa using hgl
   clear hsb hgl hsets hlt;go_wp2_with fail
   go_loopw [3,10] (fun s o wr=>∃(ss os:List (SetD×Value)) (sA:Option Addr) (sc:Nat) (oA:Option Addr) (oc:Nat),s=.slice sA ss.length sc∧o=.slice oA os.length oc∧SelInv w G l.length ss os sA sc oA oc wr) (fun s _ _=>lenOf s)
   case atStart=>exact⟨ps,[],A,c,none,0,rfl,rfl,⟨by simpa using hpl,hown,Own.nil _ _ _ _,hdat,by simp,.inl rfl,hsb',hext,by simpa using hG.out⟩⟩
   case round=>
    obtain⟨ss,os,sA,sc,oA,oc,rfl,rfl,hJ⟩:=hrel
    obtain⟨wo,rfl⟩:∃wo:World,wo=wr:=⟨_,rfl⟩
    have hF:=hJ.fuel
    clear hown hdat hext hsb' hpl hG;by_cases hn0:ss.length=0
    ·have hss:ss=[]:=List.eq_nil_of_length_eq_zero hn0
     subst hss;have HF:Hid (G=os.map Prod.fst):=by
      show G=os.map Prod.fst
      rw[hJ.eq];rcases l.length - os.length with _|n<;>simp[zgl]
     go_wp2_with fail;go_ret;exact⟨_,rfl,by rw[HF.out];exact⟨os,oA,oc,rfl,rfl,hJ.oown,hJ.odat⟩,hJ.ext⟩
    ·have hn1:0<ss.length:=by omega
     go_wp2_with fail
     go_loopw [11,12] (fun m i wi=>∃(j:Nat),1≤j∧j≤ss.length∧i=.int .i64 j∧m=.int .i64 (minTo (ss.map Prod.fst) j)∧Ext wo wi) (fun _ i _=>ss.length - (intOf i).toNat)
     case atStart=>exact⟨1,by omega,by omega,rfl,rfl,Ext.refl _⟩
     case round=>
      obtain⟨j,hj1,hj2,rfl,rfl,hE⟩:=hrel
      obtain⟨wi',rfl⟩:∃wi':World,wi'=wr:=⟨_,rfl⟩
      have hmt:=zi7 (ss.map Prod.fst) j (by omega)
      by_cases hjl:j<ss.length
      ·obtain⟨g,hgA,hgw,hgz,hgf,hgc⟩:=hJ.sown.addr (by omega)
       have hgA':=hgA
       subst hgA';have hgc':∀i u,(ss.flatMap setCells)[i]? =some u→wi'.cell? ⟨g,0+i,none⟩=some u:=fun i u hu=>by rw[Nat.zero_add];exact(hE.cell (p:=⟨g,i,none⟩) hgz).trans (hgc i u hu)
       have hmt':minTo (ss.map Prod.fst) j<ss.length:=by omega
       have g1:=zb9 hgc' j ss[j] (List.getElem?_eq_getElem hjl)
       have g2:=zb9 hgc' (minTo (ss.map Prod.fst) j) ss[minTo (ss.map Prod.fst) j] (List.getElem?_eq_getElem hmt')
       have s1:=(hJ.sdat ss[j] (List.getElem_mem hjl)).strs.ext hE
       have s2:=(hJ.sdat ss[minTo (ss.map Prod.fst) j] (List.getElem_mem hmt')).strs.ext hE
       have n1:=hJ.names ss[j] (List.getElem_mem hjl)
       have n2:=hJ.names ss[minTo (ss.map Prod.fst) j] (List.getElem_mem hmt')
       have HM:=Lib.hid (show minTo (ss.map Prod.fst) (j+1)=if zen ss[j].1 ss[minTo (ss.map Prod.fst) j].1 then j else minTo (ss.map Prod.fst) j by
        conv=>lhs;unfold minTo
        rw[if_neg (by omega)]
        have e1:(ss.map Prod.fst).getD j SetD.zero=ss[j].1:=by simp[hjl]
        have e2:(ss.map Prod.fst).getD (minTo (ss.map Prod.fst) j) SetD.zero=ss[minTo (ss.map Prod.fst) j].1:=by simp[hmt']
        rw[e1,e2])
       generalize ss[j]=p at*;generalize ss[minTo (ss.map Prod.fst) j]=r at*;generalize minTo (ss.map Prod.fst) j=m at*;obtain⟨⟨pn,pt,pc,ptl,pd⟩,pv⟩:=p
       obtain⟨⟨qn,qt,qc,qtl,qd⟩,qv⟩:=r
       dsimp only at*;obtain⟨pA,pcc,rfl⟩:=s1.shape
       obtain⟨qA,qcc,rfl⟩:=s2.shape
       simp only[Nat.zero_add]at g1 g2;obtain⟨x0,x1,x2,x3,x4⟩:=g1
       obtain⟨y0,y1,y2,y3,y4⟩:=g2
       have hji:(j:Int)<(ss.length:Int):=by omega
       have hj0:(0:Int)≤(j:Int):=by omega
       have hmi:(m:Int)<(ss.length:Int):=by omega
       have hm0:(0:Int)≤(m:Int):=by omega
       have HC:=Lib.hid (fun W (hW:Ext wi' W)=>zxc ⟨pn,pt,pc,ptl,pd⟩ ⟨qn,qt,qc,qtl,qd⟩ (.slice pA pd.length pcc) (.slice qA qd.length qcc) w.heap.size w.heap.size W (s1.ext hW) (s2.ext hW) (by dsimp only;omega) (by dsimp only;omega))
       clear hgc hgc';rcases hbf:zen ⟨pn,pt,pc,ptl,pd⟩ ⟨qn,qt,qc,qtl,qd⟩with _|_
       all_goals
        rw[hbf]at HC HM;clear hbf;go_wp2_with fail
        go_still_tail 8,(by kernel_rfl)
        go_wp2_with fail;refine(HC.out _ ?hW).mono ?_
        case hW=>exact(Ext.refl wi').drew
        rintro e w2 ⟨rfl,hE2⟩;go_wp2_with fail;go_roundw
        case rel=>exact⟨j+1,by omega,by omega,by go_num,by rw[HM.out];rfl,hE.trans (((Ext.refl wi').drew).trans hE2)⟩
        case measure=>simp[intOf];omega
      ·obtain rfl:j=ss.length:=by omega
       obtain⟨g,hgA,hgw,hgz,hgf,hgc⟩:=hJ.sown.addr (by omega)
       have hgA':=hgA
       subst hgA';have hgc':∀i u,(ss.flatMap setCells)[i]? =some u→wi'.cell? ⟨g,0+i,none⟩=some u:=fun i u hu=>by rw[Nat.zero_add];exact(hE.cell (p:=⟨g,i,none⟩) hgz).trans (hgc i u hu)
       have g2:=zb9 hgc' (minTo (ss.map Prod.fst) ss.length) ss[minTo (ss.map Prod.fst) ss.length] (List.getElem?_eq_getElem hmt)
       have hEq:=hJ.eq
       have HS:=Lib.hid (show G=(os++[ss[minTo (ss.map Prod.fst) ss.length]]).map Prod.fst++zgl (l.length - (os.length+1)) ((ss.take (minTo (ss.map Prod.fst) ss.length)++ss.drop (minTo (ss.map Prod.fst) ss.length+1)).map Prod.fst)by
        rw[hEq,show l.length - os.length=(l.length - (os.length+1))+1 by omega]
        conv=>lhs;unfold zgl
        rw[if_neg (by rw[List.length_map];exact hn0),List.length_map]
        have e2:(ss.map Prod.fst).getD (minTo (ss.map Prod.fst) ss.length) SetD.zero=ss[minTo (ss.map Prod.fst) ss.length].1:=by simp[hmt]
        rw[e2];simp)
       have s2:=(hJ.sdat ss[minTo (ss.map Prod.fst) ss.length] (List.getElem_mem hmt)).ext hE
       have hmem:ss[minTo (ss.map Prod.fst) ss.length]∈ss:=List.getElem_mem hmt
       generalize hre:ss[minTo (ss.map Prod.fst) ss.length]=r at*;generalize minTo (ss.map Prod.fst) ss.length=m at*;obtain⟨⟨qn,qt,qc,qtl,qd⟩,qv⟩:=r
       dsimp only at*;obtain⟨qA,qcc,rfl,hqo⟩:=s2
       simp only[Nat.zero_add]at g2;obtain⟨y0,y1,y2,y3,y4⟩:=g2
       have hmi:(m:Int)<(ss.length:Int):=by omega
       have hm0:(0:Int)≤(m:Int):=by omega
       have hoo:=hJ.oown.ext hE
       have hso:=hJ.sown.ext hE
       have hEwi:=hJ.ext.trans hE
       clear hgc hgc' hre hEq;go_wp2_with(first
        |(at_builtin
          refine zai _ rfl (.tmp 136) (.tmp 141) _ rfl w.heap.size 79 i0 _ 5 48 Tryz.underlying22 hi0 hz0 hz1 hz2 rfl (by omega) oA os.length oc (os.flatMap setCells) rfl (hoo.ext ((Ext.refl _).alloc _)) 0 _ 1 1 (setCells (⟨qn,qt,qc,qtl,qd⟩,.slice qA qd.length qcc)) rfl (zaz _ _ (by simp) _ _ 1 5 rfl) (zig _ _ _ _) (by omega) (by omega) (by have:=hEwi.size;simp;omega) ?_
          intro A5 c5 w5 hown5 hg5 hb5 hat5))
       have hal:Ext wi' (wi'.alloc (.cells (setCells (⟨qn,qt,qc,qtl,qd⟩,.slice qA qd.length qcc)).toArray 79)):=(Ext.refl _).alloc _
       have hap:(Value.slice (some ⟨g,0,none⟩) ss.length sc).ownBlock=none∨(Value.slice (some ⟨g,0,none⟩) ss.length sc).ownBlock≠(Value.slice oA os.length oc).ownBlock:=by
        right;rcases hJ.apart with h|h
        ·rw[h];simp[Value.ownBlock]
        ·exact fun e=>h e.symm
       have hso5:=(hso.ext hal).kept hg5 hap
       have hsd5:∀p∈ss,OStrs w5 w.heap.size p.2 p.1.data:=fun p hp=>(((hJ.sdat p hp).ext hE).ext hal).kept hg5 (zbo ((hJ.sdat p hp).ext hE) hoo)
       have hod5:∀p∈os++[(⟨qn,qt,qc,qtl,qd⟩,Value.slice qA qd.length qcc)],OStrs w5 w.heap.size p.2 p.1.data:=by
        intro p hp;rcases List.mem_append.1 hp with h|h
        ·exact(((hJ.odat p h).ext hE).ext hal).kept hg5 (zbo ((hJ.odat p h).ext hE) hoo)
        ·rw[List.mem_singleton]at h;subst h;exact hsd5 _ hmem
       have hap5:(Value.slice A5 (os.length+1) c5).ownBlock=none∨(Value.slice A5 (os.length+1) c5).ownBlock≠(Value.slice (some ⟨g,0,none⟩) ss.length sc).ownBlock:=by
        rcases hat5 with e|e
        ·rw[e];exact hJ.apart
        ·rw[e];right;intro e';have h1:=(hso.blk g rfl).2
         simp[Value.ownBlock]at e';omega
       have hE5:Ext w w5:=Ext.then (lo:=w.heap.size) (hEwi.trans hal) hb5 (Nat.le_refl _)
       have hsc:=hso.cap
       have hr1:=hso5.rd.takeS m (by omega) rfl
       have hr2:=hso5.rd.dropS (m+1) (by omega) rfl
       have ho1:=zsz (ss:=ss.take m) (fun p hp=>hsd5 p (List.mem_of_mem_take hp))
       have ho2:=zsz (ss:=ss.drop (m+1)) (fun p hp=>hsd5 p (List.mem_of_mem_drop hp))
       clear hoo hal hg5 hb5 hat5 hmt hE hj1 hj2;have hm1:(m:Int)+1≤(ss.length:Int):=by omega
       have hms:(m:Int)≤(sc:Int):=by omega
       have hns:(ss.length:Int)≤(sc:Int):=by omega
       have hwr:IntKind.i64.wrap ((m:Int)+1)=((m+1:Nat):Int):=by first|go_num|(simp[IntKind.wrap,IntKind.bits,IntKind.signed];omega)
       have hm3:((m+1:Nat):Int)≤(ss.length:Int):=by omega
       have hm4:(0:Int)≤(m:Int)+1:=by omega
       have hapz:(Value.slice (some ⟨g,0,none⟩) ss.length sc).ownBlock=none∨(Value.slice (some ⟨g,0,none⟩) ss.length sc).ownBlock≠(Value.slice (some ⟨w5.heap.size,0,none⟩) 0 0).ownBlock:=.inr fun e=>by
        have h1:=(hso5.blk g rfl).2
        simp[Value.ownBlock]at e;omega
       have hr2f:∀W,Own W w.heap.size 79 5 (some ⟨g,0,none⟩) ss.length sc (ss.flatMap setCells)→Rd W w.heap.size 5 (if sc=m+1 then some ⟨g,0,none⟩else some ⟨g,(m+1)*5,none⟩) (ss.length - (m+1)) ((ss.drop (m+1)).flatMap setCells):=fun W hW=>by
        split
        ·have h0:ss.length=m+1:=by omega
         rw[List.drop_eq_nil_of_le (by omega),show ss.length - (m+1)=0 by omega]
         exact Rd.nil _ _ _ _
        ·have:=hW.rd.dropS (m+1) (by omega) rfl
         rwa[Nat.zero_add]at this
       have hoz:=(zsf w5 79 5).lower hE5.size
       have hap6:(Value.slice A5 (os.length+1) c5).ownBlock=none∨(Value.slice A5 (os.length+1) c5).ownBlock≠(Value.slice (some ⟨w5.heap.size,0,none⟩) 0 0).ownBlock:=by
        rcases h:(Value.slice A5 (os.length+1) c5).ownBlock with _|k
        ·exact .inl rfl
        ·right;intro e;have h1:=(hown5.blk k h).2
         simp[Value.ownBlock]at e;omega
       go_region_law (first
        |(refine zel _ (by rfl) (.tmp 143) (.tmp 146) _ (by rfl) w.heap.size 79 i0 _ 5 48 Tryz.underlying22 hi0 hz0 hz1 hz2 rfl (by omega) (some ⟨w5.heap.size,0,none⟩) 0 0 [] (by rfl) (by exact hoz.ext xt) w.heap.size (some ⟨g,0,none⟩) m sc ((ss.take m).flatMap setCells) (by rfl) (by exact hr1.ext xt) ho1 (by omega) (by omega) (by have:=hE5.size;simp;omega) ?_;intro A6 c6 w6 hown6 hg6 hb6 hat6;rw[Nat.zero_add,List.nil_append]at hown6;rw[Nat.zero_add]at hat6)
        |(refine zel _ (by rfl) (.tmp 147) (.tmp 151) _ (by rfl) w.heap.size 79 i0 _ 5 48 Tryz.underlying22 hi0 hz0 hz1 hz2 rfl (by omega) A6 m c6 ((ss.take m).flatMap setCells) (by rfl) (by exact hown6.ext xt) w.heap.size (if sc=m+1 then some ⟨g,0,none⟩else some ⟨g,(m+1)*5,none⟩) (ss.length - (m+1)) (sc - (m+1)) ((ss.drop (m+1)).flatMap setCells) (by rfl) (by exact(hr2f _ ((hso5.ext xt).kept hg6 hapz)).ext xt) ho2 (by omega) (by omega) (by exact(Ext.then (lo:=w.heap.size) (hE5.trans xt) hb6 (Nat.le_refl _)).size) ?_;intro A7 c7 w7 hown7 hg7 hb7 hat7))
       have k6:∀{v:Value} {d:List (List UInt8)},OStrs w5 w.heap.size v d→OStrs w6 w.heap.size v d:=fun h=>(h.ext xt).kept hg6 (zbo (h.ext ((Ext.refl w5).alloc _)) hoz)
       have k7:∀{v:Value} {d:List (List UInt8)},OStrs w6 w.heap.size v d→OStrs w7 w.heap.size v d:=fun h=>(h.ext xt).kept hg7 (zbo h hown6)
       have ho6:=(hown5.ext xt).kept hg6 hap6
       have hq6:(Value.slice A5 (os.length+1) c5).ownBlock=none∨(Value.slice A5 (os.length+1) c5).ownBlock≠(Value.slice A6 m c6).ownBlock:=zf7 hap6 (fun k hk=>by have:=(hown5.blk k hk).2;simp;omega) hat6
       have ho7:=(ho6.ext xt).kept hg7 hq6
       have hq7:=zf7 hq6 (fun k hk=>by have:=(ho6.blk k hk).2;simpa using this) hat7
       have hE6:Ext w w6:=Ext.then (lo:=w.heap.size) (hE5.trans xt) hb6 (Nat.le_refl _)
       have hE7:Ext w w7:=Ext.then (lo:=w.heap.size) (hE6.trans xt) hb7 (Nat.le_refl _)
       have hln:(ss.take m++ss.drop (m+1)).length=m+(ss.length - (m+1)):=by rw[List.length_append,List.length_take,List.length_drop];omega
       have hmm:∀p∈ss.take m++ss.drop (m+1),p∈ss:=fun p hp=>by
        rcases List.mem_append.1 hp with h|h
        ·exact List.mem_of_mem_take h
        ·exact List.mem_of_mem_drop h
       have hI7:SelInv w G l.length (ss.take m++ss.drop (m+1)) (os++[(⟨qn,qt,qc,qtl,qd⟩,.slice qA qd.length qcc)]) A7 c7 A5 c5 w7:=by
        refine⟨by rw[hln,List.length_append];simp;omega,?_,?_,fun p hp=>k7 (k6 (hsd5 p (hmm p hp))),fun p hp=>k7 (k6 (hod5 p hp)),?_,fun p hp=>hJ.names p (hmm p hp),hE7,?_⟩
        ·rw[hln,List.flatMap_append];exact hown7
        ·rw[List.length_append,List.flatMap_append];simpa using ho7
        ·rw[hln,List.length_append];exact hq7
        ·rw[List.length_append];exact HS.out
       clear k6 k7 ho6 ho7 hq6 hq7 hE6 hmm;go_wp2_with fail;go_roundw
       case rel=>exact⟨ss.take m++ss.drop (m+1),os++[(⟨qn,qt,qc,qtl,qd⟩,.slice qA qd.length qcc)],A7,c7,⟨rfl,hln.symm,rfl⟩,A5,c5,⟨rfl,by simp,rfl⟩,hI7⟩
       case measure=>simp[lenOf];omega
       exact⟨⟨ss.take m++ss.drop (m+1),os++[(⟨qn,qt,qc,qtl,qd⟩,.slice qA qd.length qcc)],A7,c7,⟨rfl,hln.symm,rfl⟩,A5,c5,⟨rfl,by simp,rfl⟩,hI7⟩,by simp[lenOf];omega⟩
theorem zBa (n:List UInt8):(fold n).length≤n.length:=by
 unfold fold;split
 ·rw[zbi];exact Nat.le_refl _
 ·simp
theorem zyg (l:List Pc):(l.flatMap fun p=>if p.nm then fold p.text else p.text).length≤(textOf l).length:=by
 induction l with
 |nil=>simp[textOf]
 |cons a l ih=>
  unfold textOf at*;rw[List.flatMap_cons,List.flatMap_cons,List.length_append,List.length_append];have:(if a.nm then fold a.text else a.text).length≤a.text.length:=by
   split
   ·exact zBa _
   ·exact Nat.le_refl _
  omega
theorem zit (k:Int) (d:List UInt8):(rfold k d).length≤d.length:=by
 unfold rfold partsOf zbw;split
 ·rename_i h;have:=zyg (splitOf d 0 k).1
  rw[h.2]at this;exact this
 ·simp
theorem zs4 {l:List (List UInt8)} {s x:List UInt8} (h:x∈zd8 l s):x∈l∨x=s:=by
 induction l with
 |nil=>simp[zd8]at h;exact .inr h
 |cons a l ih=>
  simp only[zd8]at h;split at h
  ·simp only[List.mem_cons]at h ⊢;rcases h with h|h|h
   ·exact .inr h
   ·exact .inl (.inl h)
   ·exact .inl (.inr h)
  ·simp only[List.mem_cons]at h ⊢;rcases h with h|h
   ·exact .inl (.inl h)
   ·rcases ih h with h|h
    ·exact .inl (.inr h)
    ·exact .inr h
theorem zsj {l:List (List UInt8)} {s x:List UInt8} (h:x∈zdu l s):x∈l∨x=s:=by
 unfold zdu at h;split at h
 ·exact .inl h
 ·exact zs4 h
theorem zl5 (l:List RecD) (B:Nat) (hB:∀r∈l,r.data.length≤B):∀k,k≤l.length→∀s∈groupTo l k,∀d∈s.data,d.length≤B
 |0,_=>by simp[groupTo]
 |k+1,h=>by
  rw[zdl l k (by omega)]
  have ih:=zl5 l B hB k (by omega)
  have hx:=hB l[k] (List.getElem_mem (by omega))
  have hr:=zit l[k].typ l[k].data
  intro s hs d hd;unfold zev at hs;split at hs
  ·split at hs
   ·rcases List.mem_append.1 hs with h1|h1
    ·exact ih s h1 d hd
    ·rw[List.mem_singleton]at h1;subst h1;simp at hd;subst hd;omega
   ·rcases zjy hs with h1|⟨y,hy,rfl⟩
    ·exact ih s h1 d hd
    ·rcases zsj hd with h2|h2
     ·exact ih y hy d h2
     ·subst h2;omega
  ·exact ih s hs d hd
theorem znm:∀(n:Nat) (l:List SetD) (s:SetD),s∈zgl n l→s∈l
 |0,_,_,h=>by simp[zgl]at h
 |n+1,l,s,h=>by
  unfold zgl at h;split at h
  ·simp at h
  ·rename_i h0;have hm:=zi7 l l.length (by omega)
   rcases List.mem_cons.1 h with h|h
   ·subst h;rw[List.getD_eq_getElem?_getD,List.getElem?_eq_getElem hm];exact List.getElem_mem hm
   ·rcases List.mem_append.1 (znm n _ s h)with h|h
    ·exact List.mem_of_mem_take h
    ·exact List.mem_of_mem_drop h
theorem zpy {l:List RecD} (h:zfi l):zdw (zap l):=by
 intro s hs;have hm:=znm _ _ _ hs
 have h1:=zhi l l.length (Nat.le_refl _) s hm
 have h2:=zl5 l 300000 (fun r hr=>(h.2 r hr).2) l.length (Nat.le_refl _) s hm
 have:=h.1
 exact⟨by omega,by omega,fun d hd=>by have:=h2 d hd;omega⟩
end Go.Proofs.YtdnpmapelmjfpaaGreatDoor
namespace Go.Proofs.YtdnpmapelmjfpaaGreatDoor
open Go.ChangeShapes Go.WideShapes Go.RowKit Go.Deep Go.Joins
set_option maxRecDepth 100000
section
variable {H : Type} {enc : TypeId × Value → H} {P : Program} {w : World} {base : Nat} {spare : Nat → Bool} {held : Bool}
theorem zme {t e:TypeId} {fs:Array Field} {fuel:Nat} {cs:List Value} {x:DataW H×List MemPlace} (ht:P.underlying t=some (.slice e)) (he:P.underlying e=some (.struct fs))
 (hone:oneCellFields P fs=true) (hC:P.cellsOf e=fs.size) (h:DataW.trod enc P w base spare held fuel t cs=some x):
 (cs=[.slice none 0 0]∧x=(.nil,[]))∨
 ∃(a:Addr) (len cap m:Nat) (D:Nat→DataW H) (Pl:Nat→List MemPlace),cs=[.slice (some a) len cap]∧base≤a.block∧len≤cap∧cap≤maxLen∧m=(if spare a.block then cap else len)∧
  x=(.slice ((List.range len).map D) ((List.range (m - len)).map fun j=>D (len+j)),MemPlace.row a (m*fs.size)++(List.range m).flatMap Pl)∧
  ∀i,i<m→∃(ys:List (DataW H×List MemPlace)) (n:Nat),D i=.agg (ys.map (·.1))∧Pl i=ys.flatMap (·.2)∧ys.length=fs.size∧
   ∀(j:Nat) (f:Field),fs[j]? =some f→∃(v:Value) (y:DataW H×List MemPlace),w.cell? (a.add (i*fs.size+j))=some v∧ys[j]? =some y∧DataW.trod enc P w base spare held n f.type [v]=some y:=by
 rcases open_slice ht h with h0|⟨a,len,cap,m,n,D,Pl,hcs,hb,hl,hm,hmm,hx,hi⟩
 ·exact .inl h0
 ·refine .inr ⟨a,len,cap,m,D,Pl,hcs,hb,hl,hm,hmm,by rw[hC]at hx;exact hx,fun i him=>?_⟩
  obtain⟨cs',hc,ht'⟩:=hi i him
  rw[hC]at hc;obtain⟨ys,n',hn',hy,hlen,hyl,hf⟩:=DataW.trod_struct he ht'
  obtain⟨_,hcl,hat⟩:=World.cells?_some hc
  simp only[Prod.mk.injEq]at hy;refine⟨ys,n',hy.1,hy.2,hyl,fun j f hj=>?_⟩
  obtain⟨ho,hk⟩:=hone_of hone j f hj
  have hjl:j<fs.size:=(Array.getElem?_eq_some_iff.1 hj).1
  have hcell:=hat j hjl
  have hv:cs'[j]? =some (cs'[j]'(by omega)):=List.getElem?_eq_getElem (by omega)
  have h1:=hf j f hj
  rw[ho,hk]at h1;have hone':(cs'.drop j).take 1=[cs'[j]'(by omega)]:=by
   rw[List.drop_eq_getElem_cons (by omega)]
   rfl
  rw[hone']at h1;have hys:ys[j]? =some (ys[j]'(by omega)):=List.getElem?_eq_getElem (by omega)
  refine⟨_,_,?_,hys,h1.trans hys⟩;rw[←Go.Deep.add_add,hcell,hv]
theorem S_of (s:ByteArray):Value.string s=S s.data.toList:=by cases s;simp
theorem zdv {a:Addr} {v:Value} (h:w.cell? a=some v):a=⟨a.block,a.off,none⟩∧a.block<w.heap.size:=by
 obtain⟨b,o,s⟩:=a
 unfold World.cell? at h;rcases hb:w.heap[b]? with _|ob
 ·simp[hb]at h
 ·refine⟨?_,(Array.getElem?_eq_some_iff.1 hb).1⟩;rcases s with _|s
  ·rfl
  ·simp only[hb]at h;split at h<;>simp at h
theorem pick {α:Type} (z:α) (n:Nat) (Q:Nat→α→Prop) (h:∀i,i<n→∃x,Q i x):∃l:List α,l.length=n∧∀i (hi:i<l.length),Q i l[i]:=by
 classical
 refine⟨(List.range n).map fun i=>if hi:i<n then Classical.choose (h i hi)else z,by simp,fun i hi=>?_⟩
 have hi':i<n:=by simpa using hi
 simp only[List.getElem_map,List.getElem_range,dif_pos hi'];exact Classical.choose_spec (h i hi')
theorem zAa {n:Int} (h:(Lit.int .u16 n).wf=true):0≤n∧n≤65535:=by
 have h1:IntKind.u16.min=0:=rfl
 have h2:IntKind.u16.max=65535:=rfl
 simp[Lit.wf]at h;omega
theorem zF2 {n:Int} (h:(Lit.int .u32 n).wf=true):0≤n∧n≤4294967295:=by
 have h1:IntKind.u32.min=0:=rfl
 have h2:IntKind.u32.max=4294967295:=rfl
 simp[Lit.wf]at h;omega
theorem zs8 {s:ByteArray} (h:s.size≤maxLen):s.data.toList.length≤maxLen:=by rw[Array.length_toList];exact h
end
def zCq (r:RecD):Prop:=r.name.length≤maxLen∧r.data.length≤maxLen∧(0≤r.typ∧r.typ≤65535)∧(0≤r.cls∧r.cls≤65535)∧(0≤r.ttl∧r.ttl≤4294967295)
theorem zpw (l:List RecD):(l.flatMap za5).length=l.length*5:=by
 induction l with
 |nil=>rfl
 |cons a l ih=>rw[List.flatMap_cons,List.length_append,ih,List.length_cons];show 5+_=_;omega
theorem zE1 {w:World} {b off:Nat} {l:List RecD} (h:∀i (hi:i<l.length),w.cell? ⟨b,off+(i*5+0),none⟩=some (S l[i].name)∧w.cell? ⟨b,off+(i*5+1),none⟩=some (.int .u16 l[i].typ)∧w.cell? ⟨b,off+(i*5+2),none⟩=some (.int .u16 l[i].cls)∧w.cell? ⟨b,off+(i*5+3),none⟩=some (.int .u32 l[i].ttl)∧w.cell? ⟨b,off+(i*5+4),none⟩=some (S l[i].data)):
 ∀j u,(l.flatMap za5)[j]? =some u→w.cell? ⟨b,off+j,none⟩=some u:=by
 intro j u hu;have hlen:=zpw l
 have hj:j<l.length*5:=by rw[←hlen];exact(List.getElem?_eq_some_iff.1 hu).1
 have hi:j/5<l.length:=by omega
 obtain⟨h0,h1,h2,h3,h4⟩:=h (j/5) hi
 have hg:=zbd za5 5 (fun _=>rfl) l (j/5) (j%5) l[j/5] (List.getElem?_eq_getElem hi) (by omega)
 rw[show j/5*5+j%5=j by omega,hu]at hg
 have e:j=j/5*5+j%5:=by omega
 generalize hr:j%5=k at*;have hk:k<5:=by omega
 rw[e];rcases k with _|_|_|_|_|k
 ·rw[h0,hg];rfl
 ·rw[h1,hg];rfl
 ·rw[h2,hg];rfl
 ·rw[h3,hg];rfl
 ·rw[h4,hg];rfl
 ·omega
end Go.Proofs.YtdnpmapelmjfpaaGreatDoor
namespace Go.Proofs.YtdnpmapelmjfpaaGreatDoor
open Go.ChangeShapes Go.WideShapes Go.RowKit Go.Deep Go.Joins
set_option maxRecDepth 100000
section
variable {H : Type} {enc : TypeId × Value → H} {P : Program} {w : World} {base : Nat} {spare : Nat → Bool} {held : Bool}
theorem zn1 {e:TypeId}:∀{l:List (DataW H)} {d:DataW H},d∈l→∀n∈d.weights P e,n∈DataW.weightsAll P e l
 |[],_,h,_,_=>by simp at h
 |a::l,d,h,n,hn=>by
  simp only[DataW.weightsAll,List.mem_append];rcases List.mem_cons.1 h with rfl|h
  ·exact .inl hn
  ·exact .inr (zn1 h n hn)
theorem zlw {t e:TypeId} (ht:P.underlying t=some (.slice e)) {elems sp:List (DataW H)} {d:DataW H} (hd:d∈elems) {n:Nat} (hn:n∈d.weights P e):n∈(DataW.slice elems sp).weights P t:=by
 simp only[DataW.weights,ht,List.mem_cons,List.mem_append];exact .inr (.inl (zn1 hd n hn))
theorem zkp {e:TypeId} {fs:Array Field} (he:P.underlying e=some (.struct fs)) {parts:List (DataW H)} {j:Nat} {f:Field} {d:DataW H} (hf:fs[j]? =some f) (hd:parts[j]? =some d) {n:Nat} (hn:n∈d.weights P f.type):n∈(DataW.agg parts).weights P e:=by
 simp only[DataW.weights,he];exact DataW.weights_mem_each (j:=j) (t:=f.type) (by simp[hf]) hd n hn
theorem zn2 (t:TypeId) (s:ByteArray):s.data.toList.length∈(DataW.lit (H:=H) (.string s.data.toList)).weights P t:=by simp[DataW.weights]
end
theorem zwr {H:Type} {enc:TypeId×Value→H} {W:World} {r:Reach} {b0:Nat} {v:Value} {d:DataW H} {p:List MemPlace}
 (hv:Value.okWide Tryz.prog W r b0 40 v) (h:DataW.Trod enc Tryz.prog W 0 (fun _=>true) true 40 v d p):
 ∃l:List RecD,Recs W 0 v l∧∀x∈l,zCq x∧x.name.length∈d.weights Tryz.prog 40∧x.data.length∈d.weights Tryz.prog 40:=by
 obtain⟨a0,n0,c0,rfl⟩:=okWide_slice Tryz.underlying40 hv
 obtain⟨fuel,hf⟩:=h
 rcases zme Tryz.underlying40 Tryz.underlying99 (by kernel_rfl) (by kernel_rfl) hf with⟨e,_⟩|⟨a,len,cap,m,D,Pl,e,_,hl,hm,hmm,hdp,hi⟩
 ·simp only[Value.cells,List.cons.injEq,and_true]at e;rw[e];exact⟨[],⟨none,0,rfl,by simp,by unfold maxLen;omega,Rd.nil _ _ _ _⟩,by simp⟩
 ·simp only[Value.cells,List.cons.injEq,and_true]at e;rw[e];have hmc:len≤m:=by rw[hmm];split<;>omega
  have hdd:=(Prod.mk.inj hdp).1
  obtain⟨l,hll,hq⟩:=pick (⟨[],0,0,0,[]⟩:RecD) len (fun i r=>(W.cell? (a.add (i*5+0))=some (S r.name)∧W.cell? (a.add (i*5+1))=some (.int .u16 r.typ)∧W.cell? (a.add (i*5+2))=some (.int .u16 r.cls)∧W.cell? (a.add (i*5+3))=some (.int .u32 r.ttl)∧W.cell? (a.add (i*5+4))=some (S r.data))∧zCq r∧r.name.length∈d.weights Tryz.prog 40∧r.data.length∈d.weights Tryz.prog 40) (fun i hi'=>by
   obtain⟨ys,n,hD,_,_,hy⟩:=hi i (by omega)
   obtain⟨v0,y0,c0,g0,t0⟩:=hy 0 _ rfl
   obtain⟨v1,y1,c1,_,t1⟩:=hy 1 _ rfl
   obtain⟨v2,y2,c2,_,t2⟩:=hy 2 _ rfl
   obtain⟨v3,y3,c3,_,t3⟩:=hy 3 _ rfl
   obtain⟨v4,y4,c4,g4,t4⟩:=hy 4 _ rfl
   obtain⟨s,e0,z0,hs⟩:=DataW.trod_string Tryz.underlying9 t0
   obtain⟨x1,e1,_,w1⟩:=DataW.trod_int Tryz.underlying26 t1
   obtain⟨x2,e2,_,w2⟩:=DataW.trod_int Tryz.underlying26 t2
   obtain⟨x3,e3,_,w3⟩:=DataW.trod_int Tryz.underlying25 t3
   obtain⟨u,e4,z4,hu⟩:=DataW.trod_string Tryz.underlying9 t4
   injection e0 with e0 _
   injection e1 with e1 _
   injection e2 with e2 _
   injection e3 with e3 _
   injection e4 with e4 _
   subst e0 e1 e2 e3 e4;rw[S_of]at c0 c4;have hmem:D i∈(List.range len).map D:=List.mem_map.2 ⟨i,List.mem_range.2 hi',rfl⟩
   refine⟨⟨s.data.toList,x1,x2,x3,u.data.toList⟩,⟨c0,c1,c2,c3,c4⟩,⟨zs8 hs,zs8 hu,zAa w1,zAa w2,zF2 w3⟩,?_,?_⟩
   ·rw[hdd];refine zlw Tryz.underlying40 hmem ?_;rw[hD];refine zkp (j:=0) (d:=y0.1) Tryz.underlying99 rfl (by simp[g0]) ?_
    rw[z0];exact zn2 _ s
   ·rw[hdd];refine zlw Tryz.underlying40 hmem ?_;rw[hD];refine zkp (j:=4) (d:=y4.1) Tryz.underlying99 rfl (by simp[g4]) ?_
    rw[z4];exact zn2 _ u)
  subst hll;refine⟨l,⟨some a,cap,rfl,hl,hm,?_,fun h0=>?_⟩,fun x hx=>?_⟩
  ·exact zpw l
  ·have hz:=(hq 0 h0).1.1
   rw[show a.add (0*5+0)=a from rfl]at hz
   obtain⟨ea,hb⟩:=zdv hz
   refine⟨a.block,a.off,by rw[←ea],Nat.zero_le _,hb,zE1 fun i hi'=>?_⟩
   have:=(hq i hi').1
   rw[ea]at this;simp only[zdj]at this;exact this
  ·obtain⟨i,hi',rfl⟩:=List.getElem_of_mem hx
   exact(hq i hi').2
theorem zsn {H:Type} {P:Program} {ts:List TypeId} {ds:List (DataW H)} (h:(DataW.weightsEach P ts ds).all (·≤reachBytes)=true) {j:Nat} {t:TypeId} {d:DataW H} (ht:ts[j]? =some t) (hd:ds[j]? =some d) {n:Nat} (hn:n∈d.weights P t):n≤140737488351232:=by
 have:=List.all_eq_true.1 h _ (DataW.weights_mem_each ht hd n hn)
 exact of_decide_eq_true this
end Go.Proofs.YtdnpmapelmjfpaaGreatDoor
namespace Go.Proofs.YtdnpmapelmjfpaaGreatDoor
open Go.ChangeShapes Go.WideShapes Go.RowKit Go.Deep Go.Joins
set_option maxRecDepth 100000
section
variable {H : Type} {enc : TypeId × Value → H} {P : Program} {w : World} {base : Nat} {spare : Nat → Bool} {held : Bool}
end
end Go.Proofs.YtdnpmapelmjfpaaGreatDoor
