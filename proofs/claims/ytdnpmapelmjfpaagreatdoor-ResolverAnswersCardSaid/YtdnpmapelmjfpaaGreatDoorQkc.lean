/- Contracts of functions and plain lemmas that the proofs of this seat share (joined texts). No condition. -/
import Derived.Test.YtdnpmapelmjfpaaGreatDoorQs
import Derived.Test.YtdnpmapelmjfpaaGreatDoorQe
import Derived.Test.YtdnpmapelmjfpaaGreatDoorQu0
import Derived.Test.YtdnpmapelmjfpaaGreatDoorQf
import Derived.Test.YtdnpmapelmjfpaaGreatDoorQd
import Derived.Test.YtdnpmapelmjfpaaGreatDoorQa
import Derived.Test.YtdnpmapelmjfpaaGreatDoorQrs
import Derived.Test.YtdnpmapelmjfpaaGreatDoorQhx
import Derived.Deep.RegionHeld3
import Derived.Test.YtdnpmapelmjfpaaGreatDoorQka
import Derived.Test.YtdnpmapelmjfpaaGreatDoorQrl
import Derived.Deep.DeepCutAuto
set_option maxHeartbeats 16000000
set_option linter.unusedVariables false
set_option linter.unusedSimpArgs false
namespace Go.Proofs.YtdnpmapelmjfpaaGreatDoor
open Go.RowKit
set_option maxRecDepth 100000
def zCy (r:Option (List UInt8)) (w:World) (e:Ending) (w':World):Prop:=e=.returned (.tuple #[S (r.getD []),.bool r.isSome])∧Ext w w'
def zco (n:List UInt8):Option (List UInt8):=match labelsOf n with
 |some (_::r)=>some (zam r)
 |_=>none
theorem zjf:∀(ls:List (List UInt8)),(∀x∈ls,0<x.length∧x.length≤63)→zay (zam ls)=some ls
 |[],_=>rfl
 |x::r,h=>by
  have hx:=h x (by simp)
  have ht:(UInt8.ofNat x.length).toNat=x.length:=by rw[UInt8.toNat_ofNat',Nat.mod_eq_of_lt (by omega)]
  rw[zc8];unfold zdn;rw[List.cons_append,zbh,if_neg (fun e=>by
   have:=congrArg UInt8.toNat e
   rw[ht]at this;have h0:(0:UInt8).toNat=0:=rfl
   omega),if_neg (by rw[ht];omega),ht]
  rw[List.drop_left' rfl,List.take_left' rfl,zjf r (fun y hy=>h y (by simp[hy]))]
  rfl
theorem zo4 {ls:List (List UInt8)} (h:∀x∈ls,0<x.length∧x.length≤63) (hl:(zam ls).length≤255):labelsOf (zam ls)=some ls:=by
 unfold labelsOf;rw[if_pos hl,zjf ls h]
theorem zlm (n:List UInt8) (w:World) (hn:n.length≤1048576):Calls Tryz.prog 173 #[S n] w fun e w'=>e=.returned (.int .i64 (zd9 n))∧Ext w w':=by
 have HL:=Lib.hid (zfd n w hn)
 have hl:zd9 n=((labelsOf n).getD []).length:=rfl
 rw[hl];generalize labelsOf n=R at*;clear hl;go_enter Tryz.func173,Tryz.ntmps173;go_wp2_with fail;refine HL.out.mono ?_;rintro e w1 ⟨v,rfl,⟨A,c,rfl,ho⟩,hE⟩;go_wp2_with fail;go_ret;exact⟨rfl,hE⟩
theorem zxf (n:List UInt8) (w:World) (hn:n.length≤1048576):Calls Tryz.prog 221 #[S n] w (zCy (zco n) w):=by
 have HL:=Lib.hid (zfd n w hn)
 rcases hl:labelsOf n with _|ls
 ·have hp:zco n=none:=by unfold zco;rw[hl]
  rw[hp];rw[hl]at HL;clear hp hl;go_enter Tryz.func221,Tryz.ntmps221;go_wp2_with fail;refine HL.out.mono ?_;rintro e w1 ⟨v,rfl,⟨A,c,rfl,ho⟩,hE⟩;go_wp2_with fail
  go_ret2
  exact⟨rfl,hE⟩
 ·have hb:=(zby hl).2.2
  have hln:=zeg hl
  have HL':Hid (Calls Tryz.prog 99 #[S n] w fun e w'=>∃A c,e=.returned (.tuple #[.slice A ls.length c,.bool true])∧Own w' w.heap.size 9 1 A ls.length c (ls.map S)∧Ext w w'):=by
   show Calls _ _ _ _ _
   have h:=HL.out
   rw[hl]at h;refine h.mono ?_;rintro e w1 ⟨v,rfl,⟨A,c,rfl,ho⟩,hE⟩;exact⟨A,c,rfl,ho,hE⟩
  rcases ls with _|⟨x,r⟩
  ·have hP:zco n=none:=by unfold zco;rw[hl]
   rw[hP];clear hb hln hP hl HL;go_enter Tryz.func221,Tryz.ntmps221;go_wp2_with fail;refine HL'.out.mono ?_;rintro e w1 ⟨A,c,rfl,ho,hE⟩;simp only[List.length_nil];go_wp2_with fail
   go_ret2
   exact⟨rfl,hE⟩
  ·have hP:zco n=some (zam r):=by unfold zco;rw[hl]
   rw[hP];clear hP hl HL;have hr:∀y∈r,y.length≤255:=fun y hy=>by have:=(hb y (by simp[hy])).2;omega
   have hrl:r.length≤4096:=by simp at hln;omega
   have Hr:=Lib.hid hr
   rw[show(x::r).length=r.length+1 from rfl]at HL'
   obtain⟨m,hm⟩:∃m,m=r.length:=⟨_,rfl⟩
   rw[←hm]at HL' hrl;have hne:(((m+1:Nat):Int)==0)=false:=by rw[beq_eq_false_iff_ne];omega
   have Hm:=Lib.hid hm
   clear hb hln hr hm;go_enter Tryz.func221,Tryz.ntmps221;go_wp2_with fail;refine HL'.out.mono ?_;rintro e w1 ⟨A,c,rfl,ho,hE⟩;have hcap:=ho.cap
   unfold maxLen at hcap;obtain⟨b,off,rfl,hlo,hbz,hc⟩:=ho.rd.2 (by omega)
   have HB:=Lib.hid (fun A' c' (h:Strs w1 w.heap.size (.slice A' m c') r)=>zqj w.heap.size (.slice A' m c') r w1 h Hr.out (by rw[←Hm.out];exact hrl))
   by_cases hc1:c=1
   ·have hm0:m=0:=by have:=hcap.1;omega
    have hst:Strs w1 w.heap.size (.slice (some ⟨b,off,none⟩) 0 0) r:=⟨_,0,by rw[←Hm.out,hm0],by rw[←Hm.out,hm0];exact Nat.le_refl _,by unfold maxLen;omega,by
     have hr0:r=[]:=List.eq_nil_of_length_eq_zero (by rw[←Hm.out,hm0])
     rw[hr0];exact Rd.nil _ _ _ _⟩
    subst hm0 hc1;clear hc ho;go_wp2_with fail;refine(HB.out _ _ hst).mono ?_;rintro e w2 ⟨rfl,hE2⟩;go_wp2_with fail
    go_ret2
    exact⟨rfl,hE.trans hE2⟩
   ·have hcc:(1:Int)<(c:Int):=by have:=hcap.1;omega
    have hst:Strs w1 w.heap.size (.slice (some ⟨b,off+1,none⟩) m (c - 1)) r:=⟨_,c - 1,by rw[←Hm.out],by rw[←Hm.out];omega,by unfold maxLen;omega,by simp,fun h0=>⟨b,off+1,rfl,hlo,hbz,fun j u hu=>by
     have:=hc (j+1) u (by simpa using hu)
     rw[show off+1+j=off+(j+1)by omega]
     exact this⟩⟩
    clear hc ho;go_wp2_with fail;refine(HB.out _ _ hst).mono ?_;rintro e w2 ⟨rfl,hE2⟩;go_wp2_with fail
    go_ret2
    exact⟨rfl,hE.trans hE2⟩
theorem znc (x:List UInt8) (r:List (List UInt8)):(zam r).length<(zam (x::r)).length:=by
 rw[zc8,List.length_append];simp[zdn]
def szOf:Value→Nat
 | .string b=>b.size
 |_=>0
theorem ztg {m z:List UInt8} {rs b:List (List UInt8)} (hm:labelsOf m=some rs) (hz:labelsOf z=some b):
 (zdz m z=true→zd1 rs (b.map low)=true)∧(zdz m z=false→zco m=none→zd1 rs (b.map low)=false)∧
 (zdz m z=false→∀u,zco m=some u→∃r,labelsOf u=some r∧zd1 r (b.map low)=zd1 rs (b.map low)∧u.length<m.length):=by
 obtain⟨h1,h2,h3⟩:=zby hm
 obtain⟨g1,g2,g3⟩:=zby hz
 have ma:may m=true:=by unfold may;rw[hm];rfl
 have mz:may z=true:=by unfold may;rw[hz];rfl
 have hs:zdz m z=(low m==low z):=by unfold zdz;rw[ma,mz];rfl
 have hiff:zdz m z=true↔rs.map low=b.map low:=by
  rw[hs,beq_iff_eq,h2,g2,zh8 rs (fun x hx=>(h3 x hx).2),zh8 b (fun x hx=>(g3 x hx).2)]
  constructor
  ·exact ziw (fun x hx=>by obtain⟨y,hy,rfl⟩:=List.mem_map.1 hx;rw[zbi];exact h3 y hy) (fun x hx=>by obtain⟨y,hy,rfl⟩:=List.mem_map.1 hx;rw[zbi];exact g3 y hy)
  ·intro e;rw[e]
 rcases rs with _|⟨x,r⟩
 ·have hp:zco m=none:=by unfold zco;rw[hm]
  refine⟨fun h=>?_,fun h _=>?_,fun h u hu=>?_⟩
  ·have:=hiff.1 h
   rw[zd1,decide_eq_true];simpa using this.symm
  ·rw[zd1,decide_eq_false_iff_not];intro e;rw[hiff.2 (by rw[e];rfl)]at h
   cases h
  ·rw[hp]at hu;cases hu
 ·have hp:zco m=some (zam r):=by unfold zco;rw[hm]
  refine⟨fun h=>?_,fun h hn=>?_,fun h u hu=>?_⟩
  ·rw[zd1,decide_eq_true (hiff.1 h)];rfl
  ·rw[hp]at hn;cases hn
  ·rw[hp]at hu;injection hu with hu
   subst hu;have hl:=znc x r
   refine⟨r,zo4 (fun y hy=>h3 y (by simp[hy])) (by rw[←h2]at hl;omega),?_,by rw[h2];exact hl⟩
   have hne:¬((x::r).map low=b.map low):=fun e=>by rw[hiff.2 e]at h;cases h
   rw[zd1,decide_eq_false hne,Bool.false_or]
theorem zod (n z:List UInt8) (w:World) (hn:n.length≤1048576) (hz:z.length≤1048576):
 Calls Tryz.prog 171 #[S n,S z] w fun e w'=>e=.returned (.bool (withinN n z))∧Ext w w':=by
 have HM:=Lib.hid (fun W=>zc7 n W hn)
 have HZ:=Lib.hid (fun W=>zc7 z W hz)
 rcases hmn:may n with _|_
 ·rw[hmn]at HM;rw[ziv (.inl hmn)];clear hmn;go_enter Tryz.func171,Tryz.ntmps171;go_wp2_with fail;refine(HM.out _).mono ?_;rintro e w1 ⟨rfl,hE1⟩;go_wp2_with fail;go_ret;exact⟨rfl,hE1⟩
 rcases hmz:may z with _|_
 ·rw[hmn]at HM;rw[hmz]at HZ;rw[ziv (.inr hmz)];clear hmn hmz;go_enter Tryz.func171,Tryz.ntmps171;go_wp2_with fail;refine(HM.out _).mono ?_;rintro e w1 ⟨rfl,hE1⟩;go_wp2_with fail;refine(HZ.out _).mono ?_;rintro e w2 ⟨rfl,hE2⟩;go_wp2_with fail;go_ret;exact⟨rfl,hE1.trans hE2⟩
 obtain⟨a,ha⟩:=zjx hmn
 obtain⟨b,hb⟩:=zjx hmz
 rw[hmn]at HM;rw[hmz]at HZ;rw[zqr ha hb];have hn5:=(zby ha).1
 have hz5:=(zby hb).1
 obtain⟨W0,hW0⟩:∃W0,zd1 a (b.map low)=W0:=⟨_,rfl⟩
 have HW0:=Lib.hid hW0
 rw[hW0];have Ha:=Lib.hid ha
 have Hb:=Lib.hid hb
 clear hW0 hmn hmz ha hb;go_enter Tryz.func171,Tryz.ntmps171;go_wp2_with fail;refine(HM.out _).mono ?_;rintro e w1 ⟨rfl,hE1⟩;go_wp2_with fail;refine(HZ.out _).mono ?_;rintro e w2 ⟨rfl,hE2⟩;have hE12:=hE1.trans hE2
 go_wp2_with fail
 go_loopw [0] (fun s wr=>∃(m:List UInt8) (rs:List (List UInt8)),s=S m∧m.length≤255∧labelsOf m=some rs∧zd1 rs (b.map low)=W0∧Ext w wr) (fun s _=>szOf s)
 case atStart=>exact⟨n,a,rfl,hn5,Ha.out,HW0.out,hE12⟩
 case round=>
  obtain⟨m,rs,rfl,hm5,hlm,hsm,hE⟩:=hrel
  obtain⟨wo,rfl⟩:∃wo:World,wo=wr:=⟨_,rfl⟩
  have hrd:=ztg hlm Hb.out
  have HS:=Lib.hid (fun W=>znl m z W (by omega) hz)
  have HP:=Lib.hid (fun W=>zxf m W (by omega))
  have Hsm:=Lib.hid hsm
  have Hrd:=Lib.hid hrd
  clear hlm hsm hrd;rcases hs:zdz m z with _|_
  ·rw[hs]at HS;rcases hp:zco m with _|u
   ·rw[hp]at HP;have HF:=Lib.hid (show W0=false by rw[←Hsm.out];exact Hrd.out.2.1 hs hp)
    clear hs hp;go_wp2_with fail;refine(HS.out _).mono ?_;rintro e w3 ⟨rfl,hE3⟩;go_wp2_with fail;refine(HP.out _).mono ?_;rintro e w4 ⟨rfl,hE4⟩;dsimp only[Option.getD,Option.isSome];go_wp2_with fail;go_ret;exact⟨zb3 HF.out.symm,(hE.trans hE3).trans hE4⟩
   ·rw[hp]at HP;obtain⟨r,hr,hsr,hlt⟩:=Hrd.out.2.2 hs u hp
    have HF:Hid (labelsOf u=some r∧zd1 r (b.map low)=W0):=⟨hr,by rw[hsr];exact Hsm.out⟩
    clear hs hp hr hsr;go_wp2_with fail;refine(HS.out _).mono ?_;rintro e w3 ⟨rfl,hE3⟩;go_wp2_with fail;refine(HP.out _).mono ?_;rintro e w4 ⟨rfl,hE4⟩;dsimp only[Option.getD,Option.isSome];go_wp2_with fail;go_roundw
    case rel=>exact⟨u,r,rfl,by omega,HF.out.1,HF.out.2,(hE.trans hE3).trans hE4⟩
    case measure=>simp only[szOf,zcz];exact hlt
  ·rw[hs]at HS;have HF:=Lib.hid (show W0=true by rw[←Hsm.out];exact Hrd.out.1 hs)
   clear hs;go_wp2_with fail;refine(HS.out _).mono ?_;rintro e w3 ⟨rfl,hE3⟩;go_wp2_with fail;go_ret;exact⟨zb3 HF.out.symm,hE.trans hE3⟩
theorem zx6 (n:List UInt8) (cls:Int) (nm:List UInt8) (ty cl tt:Int) (A:Option Addr) (m c:Nat) (da:List (List UInt8)) (w:World) (hn:n.length≤1048576) (hm:nm.length≤1048576):
 Calls Tryz.prog 172 #[.agg #[S nm,.int .u16 ty,.int .u16 cl,.int .u32 tt,.slice A m c],S n,.int .u16 cls] w fun e w'=>e=.returned (.bool (fitsB n cls ⟨nm,ty,cl,tt,da⟩))∧Ext w w':=by
 have HW:=Lib.hid (fun W=>zod n nm W hn hm)
 have Hf:Hid (fitsB n cls ⟨nm,ty,cl,tt,da⟩=(ty==6&&(cl==cls&&withinN n nm))):=rfl
 generalize fitsB n cls ⟨nm,ty,cl,tt,da⟩=F at*;clear hn hm;by_cases hty:ty=6
 ·subst hty;by_cases hcl:cl=cls
  ·subst hcl;have f2:(cl==cl)=true:=by simp
   go_enter Tryz.func172,Tryz.ntmps172;go_wp2_with fail;refine(HW.out _).mono ?_;rintro e w1 ⟨rfl,hE1⟩;generalize withinN n nm=b at*;go_wp2_with fail;go_ret;exact⟨zb3 (by rw[Hf.out];simp),((Ext.refl _).alloc _).trans hE1⟩
  ·have f2:(cl==cls)=false:=by rw[beq_eq_false_iff_ne];exact hcl
   have Hf2:=Lib.hid (show F=false by rw[Hf.out,f2];simp)
   clear hcl;go_enter Tryz.func172,Tryz.ntmps172;go_wp2_with fail;go_ret;exact⟨zb3 Hf2.out.symm,(Ext.refl _).alloc _⟩
 ·have f1:(ty==6)=false:=by rw[beq_eq_false_iff_ne];exact hty
  have Hf2:=Lib.hid (show F=false by rw[Hf.out,f1];simp)
  clear hty;go_enter Tryz.func172,Tryz.ntmps172;go_wp2_with fail;go_ret;exact⟨zb3 Hf2.out.symm,(Ext.refl _).alloc _⟩
theorem zy1 {l:List SetD} {n:List UInt8} {cls:Int} {k:Nat} {s:SetD} (h:l[k]? =some s) (hf:fitsB n cls s=false):zb6 l n cls (k+1)=zb6 l n cls k:=by
 rw[zh6 h,hf];simp
theorem zvu {l:List SetD} {n:List UInt8} {cls:Int} {k:Nat} {s:SetD} (h:l[k]? =some s) (hf:fitsB n cls s=true) (hb:zb6 l n cls k=none):zb6 l n cls (k+1)=some (k,s):=by
 rw[zh6 h,hf,hb,if_pos];simp only[Bool.true_and,decide_eq_true_eq];show(-1:Int)<_;omega
theorem zy2 {l:List SetD} {n:List UInt8} {cls:Int} {k:Nat} {s:SetD} {b:Nat×SetD} (h:l[k]? =some s) (hf:fitsB n cls s=true) (hb:zb6 l n cls k=some b):
 zb6 l n cls (k+1)=if decide ((zd9 b.2.name:Int)<(zd9 s.name:Int))=true then some (k,s)else some b:=by
 rw[zh6 h,hf,hb,Bool.true_and];rfl
theorem zx5 (lo:Nat) (ps:List (SetD×Value)) (A:Option Addr) (c:Nat) (l:List SetD) (n:List UInt8) (cls:Int) (w:World) (hl:ps.map Prod.fst=l) (h1:ps.length≤c) (h2:c≤maxLen) (hrd:Rd w lo 5 A ps.length (ps.flatMap setCells)) (hst:∀p∈ps,Strs w lo p.2 p.1.data) (hbd:zdw l) (hn:n.length≤1048576):
 Calls Tryz.prog 113 #[.slice A ps.length c,S n,.int .u16 cls] w fun e w'=>∃d,e=.returned (.tuple #[zch ((soaFind l n cls).set.getD SetD.zero) d,.bool (soaFind l n cls).set.isSome,.int .i64 (soaFind l n cls).err])∧(∀P:Value→SetD→Prop,(∀p∈ps,P p.2 p.1)→P (.slice none 0 0) SetD.zero→P d ((soaFind l n cls).set.getD SetD.zero))∧Ext w w':=by
 unfold maxLen at h2;have hlen:ps.length=l.length:=by rw[←hl];simp
 have HN:=Lib.hid hn
 have Hl:=Lib.hid hl
 have Hlen:=Lib.hid hlen
 have Hst:=Lib.hid hst
 have Hrd:=Lib.hid hrd
 have HS:Hid (soaFind l n cls=zmd (zb6 l n cls ps.length)):=by rw[hlen];exact rfl
 generalize soaFind l n cls=SO at*;clear hl hlen hn hst;go_enter Tryz.func113,Tryz.ntmps113;go_wp2_with fail;obtain⟨X0,hX0⟩:∃X,X=w.alloc (.cells #[S [],.int .u16 0,.int .u16 0,.int .u32 0,.slice none 0 0] 79):=⟨_,rfl⟩
 rw[←hX0];have hEX0:Ext w X0:=by rw[hX0];exact(Ext.refl _).alloc _
 have HX0:=Lib.hid hX0
 clear hX0
 go_loopw [9,10] (fun f i wr=>∃k:Nat,k≤ps.length∧i=.int .i64 k∧f=.int .i64 (zga (zb6 l n cls k))∧Ext X0 wr) (fun _ i _=>ps.length - (intOf i).toNat)
 case atStart=>exact⟨0,by omega,rfl,rfl,Ext.refl _⟩
 case round=>
  obtain⟨k,hk,rfl,rfl,hEx⟩:=hrel
  obtain⟨wo,rfl⟩:∃wo:World,wo=wr:=⟨_,rfl⟩
  have hE:=hEX0.trans hEx
  by_cases hlt:k<ps.length
  ·have hp:ps[k]? =some ps[k]:=List.getElem?_eq_getElem hlt
   have hpl:l[k]? =some ps[k].1:=by rw[←Hl.out,List.getElem?_map,hp];rfl
   have hbs:=hbd ps[k].1 (List.mem_of_getElem? hpl)
   have Hpl:=Lib.hid hpl
   have hstr:=Hst.out ps[k] (List.getElem_mem hlt)
   generalize ps[k]=p at*;obtain⟨b,off,rfl,_,hbz,hc⟩:=hrd.2 (by omega)
   obtain⟨c0,c1,c2,c3,c4⟩:=zb9 hc k p hp
   rw[←hE.cell (p:=⟨b,_,none⟩) hbz]at c0 c1 c2 c3 c4
   have hnm:p.1.name.length≤1048576:=by omega
   have Hc:=Lib.hid hc
   clear hc hp hrd hpl;obtain⟨⟨nm,ty,cl,tt,da⟩,d⟩:=p
   dsimp only at*;obtain⟨dA,dc,rfl⟩:=hstr.shape
   have HF:=Lib.hid (fun W=>zx6 n cls nm ty cl tt dA da.length dc da W HN.out hnm)
   have HL:=Lib.hid (fun W=>zlm nm W hnm)
   have hki:(k:Int)<(ps.length:Int):=by omega
   have hk0:(0:Int)≤(k:Int):=by omega
   rcases hf:fitsB n cls ⟨nm,ty,cl,tt,da⟩with _|_
   ·have Hbe:=Lib.hid (zy1 Hpl.out hf)
    rw[hf]at HF;clear hf;generalize hB:zb6 l n cls k=B at*;clear hB;go_wp2_with fail;have hbz2:b<wo.heap.size:=by have:=hE.size;omega
    have HS:=Lib.hid (show ∀V,Ext wo V→V.cell? ⟨b,off+k*5,none⟩=some (S nm)∧V.cell? ⟨b,off+k*5+1,none⟩=some (.int .u16 ty)∧V.cell? ⟨b,off+k*5+2,none⟩=some (.int .u16 cl)∧V.cell? ⟨b,off+k*5+3,none⟩=some (.int .u32 tt)∧V.cell? ⟨b,off+k*5+4,none⟩=some (.slice dA da.length dc)from fun V hV=>⟨(hV.cell (p:=⟨b,_,none⟩) hbz2).trans c0,(hV.cell (p:=⟨b,_,none⟩) hbz2).trans c1,(hV.cell (p:=⟨b,_,none⟩) hbz2).trans c2,(hV.cell (p:=⟨b,_,none⟩) hbz2).trans c3,(hV.cell (p:=⟨b,_,none⟩) hbz2).trans c4⟩)
    refine wp_region_noPanic ?_;refine zhe (S:=(fun V=>V.cell? ⟨b,off+k*5,none⟩=some (S nm)∧V.cell? ⟨b,off+k*5+1,none⟩=some (.int .u16 ty)∧V.cell? ⟨b,off+k*5+2,none⟩=some (.int .u16 cl)∧V.cell? ⟨b,off+k*5+3,none⟩=some (.int .u32 tt)∧V.cell? ⟨b,off+k*5+4,none⟩=some (.slice dA da.length dc))) [(0,true),(1,true),(2,true),(3,true),(4,true),(5,true),(6,false),(7,true),(8,true),(9,true),(10,true),(11,true),(12,true),(13,true),(14,true),(15,true),(17,true),(18,true),(19,true),(20,true),(21,true),(16,true),(22,true),(23,true),(24,true),(25,true)] (by kernel_rfl) (by kernel_rfl) (fun _ _ _ _ _ h=>h) (HS.out _ ((Ext.refl wo).drew)) ?_
    repeat((with_reducible refine zh7 ?_);first
     |(refine zf0 (v:=?_) (by rfl) (by rfl) ?_ ?_;rotate_left;(focus(intro V hV;(try dsimp only at hV);(go_simp<;>with_reducible rfl)));(try simp only[ap]))
     |(refine zez (by rfl) (by rfl) ?_;(try simp only[ap])))
    refine zjd (by rfl) (fun K hK=>?_)
    go_simp;refine(HF.out _).mono ?_;rintro e w1 ⟨rfl,hE1⟩;refine hK.out _ _ ?_ ?_
    ·exact HS.out _ (Ext.trans ((Ext.refl wo).drew) hE1)
    clear hK K
    (try simp only[ap])
    repeat((with_reducible refine zh7 ?_);first
     |(refine zf0 (v:=?_) (by rfl) (by rfl) ?_ ?_;rotate_left;(focus(intro V hV;(try dsimp only at hV);(go_simp<;>with_reducible rfl)));(try simp only[ap]))
     |(refine zez (by rfl) (by rfl) ?_;(try simp only[ap])))
    refine zne ?_;refine NoPanic.normal ?_;have hE1:Ext wo w1:=Ext.trans ((Ext.refl wo).drew) hE1
    go_wp2_with fail;go_roundw
    case rel=>exact⟨k+1,by omega,by go_num,by rw[Hbe.out],hEx.trans hE1⟩
    case measure=>simp[intOf];omega
   ·rcases hB:zb6 l n cls k with _|⟨j,t⟩
    ·have Hbe:=Lib.hid (zvu Hpl.out hf hB)
     rw[hf]at HF;clear hf hB;dsimp only[zga];go_wp2_with fail;have hbz2:b<wo.heap.size:=by have:=hE.size;omega
     have HS:=Lib.hid (show ∀V,Ext wo V→V.cell? ⟨b,off+k*5,none⟩=some (S nm)∧V.cell? ⟨b,off+k*5+1,none⟩=some (.int .u16 ty)∧V.cell? ⟨b,off+k*5+2,none⟩=some (.int .u16 cl)∧V.cell? ⟨b,off+k*5+3,none⟩=some (.int .u32 tt)∧V.cell? ⟨b,off+k*5+4,none⟩=some (.slice dA da.length dc)from fun V hV=>⟨(hV.cell (p:=⟨b,_,none⟩) hbz2).trans c0,(hV.cell (p:=⟨b,_,none⟩) hbz2).trans c1,(hV.cell (p:=⟨b,_,none⟩) hbz2).trans c2,(hV.cell (p:=⟨b,_,none⟩) hbz2).trans c3,(hV.cell (p:=⟨b,_,none⟩) hbz2).trans c4⟩)
     refine wp_region_noPanic ?_;refine zhe (S:=(fun V=>V.cell? ⟨b,off+k*5,none⟩=some (S nm)∧V.cell? ⟨b,off+k*5+1,none⟩=some (.int .u16 ty)∧V.cell? ⟨b,off+k*5+2,none⟩=some (.int .u16 cl)∧V.cell? ⟨b,off+k*5+3,none⟩=some (.int .u32 tt)∧V.cell? ⟨b,off+k*5+4,none⟩=some (.slice dA da.length dc))) [(0,true),(1,true),(2,true),(3,true),(4,true),(5,true),(6,false),(7,true),(8,true),(9,true),(10,true),(11,true),(12,true),(13,true),(14,true),(15,true),(17,true),(18,true),(19,true),(20,true),(21,true),(16,true),(22,true),(23,true),(24,true),(25,true)] (by kernel_rfl) (by kernel_rfl) (fun _ _ _ _ _ h=>h) (HS.out _ ((Ext.refl wo).drew)) ?_
     repeat((with_reducible refine zh7 ?_);first
      |(refine zf0 (v:=?_) (by rfl) (by rfl) ?_ ?_;rotate_left;(focus(intro V hV;(try dsimp only at hV);(go_simp<;>with_reducible rfl)));(try simp only[ap]))
      |(refine zez (by rfl) (by rfl) ?_;(try simp only[ap])))
     refine zjd (by rfl) (fun K hK=>?_)
     go_simp;refine(HF.out _).mono ?_;rintro e w1 ⟨rfl,hE1⟩;refine hK.out _ _ ?_ ?_
     ·exact HS.out _ (Ext.trans ((Ext.refl wo).drew) hE1)
     clear hK K
     (try simp only[ap])
     repeat((with_reducible refine zh7 ?_);first
      |(refine zf0 (v:=?_) (by rfl) (by rfl) ?_ ?_;rotate_left;(focus(intro V hV;(try dsimp only at hV);(go_simp<;>with_reducible rfl)));(try simp only[ap]))
      |(refine zez (by rfl) (by rfl) ?_;(try simp only[ap])))
     refine zne ?_;refine NoPanic.normal ?_;have hE1:Ext wo w1:=Ext.trans ((Ext.refl wo).drew) hE1
     go_wp2_with fail;go_roundw
     case rel=>exact⟨k+1,by omega,by go_num,by rw[Hbe.out],hEx.trans hE1⟩
     case measure=>simp[intOf];omega
    ·have Hbe:=Lib.hid (zy2 Hpl.out hf hB)
     obtain⟨hjk,hjl⟩:=zhx hB
     dsimp only at hjk hjl;have hjp:j<ps.length:=by omega
     have hp2:ps[j]? =some ps[j]:=List.getElem?_eq_getElem hjp
     have hps:ps[j].1=t:=by
      rw[←Hl.out,List.getElem?_map,hp2]at hjl;exact Option.some.inj hjl
     have hbt:=hbd t (List.mem_of_getElem? hjl)
     obtain⟨x0,x1,x2,x3,x4⟩:=zb9 Hc.out j _ hp2
     rw[←hE.cell (p:=⟨b,_,none⟩) hbz]at x0
     rw[hps]at x0;have htn:t.name.length≤1048576:=by omega
     have HT:=Lib.hid (fun W=>zlm t.name W htn)
     have hji:(j:Int)<(ps.length:Int):=by omega
     have hj0:(0:Int)≤(j:Int):=by omega
     have hjn:decide ((j:Int)<0)=false:=by simp
     rw[hf]at HF;clear hf hB hjk hjl hp2 hps hbt x1 x2 x3 x4;dsimp only[zga]at*;obtain⟨tn,htn'⟩:∃tn,t.name=tn:=⟨_,rfl⟩
     have Htn:=Lib.hid htn'
     rw[htn']at HT x0;clear htn';go_wp2_with fail;have hbz2:b<wo.heap.size:=by have:=hE.size;omega
     have HS:=Lib.hid (show ∀V,Ext wo V→V.cell? ⟨b,off+k*5,none⟩=some (S nm)∧V.cell? ⟨b,off+k*5+1,none⟩=some (.int .u16 ty)∧V.cell? ⟨b,off+k*5+2,none⟩=some (.int .u16 cl)∧V.cell? ⟨b,off+k*5+3,none⟩=some (.int .u32 tt)∧V.cell? ⟨b,off+k*5+4,none⟩=some (.slice dA da.length dc)∧V.cell? ⟨b,off+j*5,none⟩=some (S tn)from fun V hV=>⟨(hV.cell (p:=⟨b,_,none⟩) hbz2).trans c0,(hV.cell (p:=⟨b,_,none⟩) hbz2).trans c1,(hV.cell (p:=⟨b,_,none⟩) hbz2).trans c2,(hV.cell (p:=⟨b,_,none⟩) hbz2).trans c3,(hV.cell (p:=⟨b,_,none⟩) hbz2).trans c4,(hV.cell (p:=⟨b,_,none⟩) hbz2).trans x0⟩)
     refine wp_region_noPanic ?_;refine zhe (S:=(fun V=>V.cell? ⟨b,off+k*5,none⟩=some (S nm)∧V.cell? ⟨b,off+k*5+1,none⟩=some (.int .u16 ty)∧V.cell? ⟨b,off+k*5+2,none⟩=some (.int .u16 cl)∧V.cell? ⟨b,off+k*5+3,none⟩=some (.int .u32 tt)∧V.cell? ⟨b,off+k*5+4,none⟩=some (.slice dA da.length dc)∧V.cell? ⟨b,off+j*5,none⟩=some (S tn))) [(0,true),(1,true),(2,true),(3,true),(4,true),(5,true),(6,false),(7,true),(8,true),(9,true),(10,true),(11,true),(12,true),(13,true),(14,true),(15,true),(17,true),(18,true),(19,true),(20,true),(21,true),(16,false),(22,false),(23,true),(24,true),(25,true)] (by kernel_rfl) (by kernel_rfl) (fun _ _ _ _ _ h=>h) (HS.out _ ((Ext.refl wo).drew)) ?_
     repeat((with_reducible refine zh7 ?_);first
      |(refine zf0 (v:=?_) (by rfl) (by rfl) ?_ ?_;rotate_left;(focus(intro V hV;(try dsimp only at hV);(go_simp<;>with_reducible rfl)));(try simp only[ap]))
      |(refine zez (by rfl) (by rfl) ?_;(try simp only[ap])))
     refine zjd (by rfl) (fun K hK=>?_)
     go_simp;refine(HF.out _).mono ?_;rintro e w1 ⟨rfl,hE1⟩;refine hK.out _ _ ?_ ?_
     ·exact HS.out _ (Ext.trans ((Ext.refl wo).drew) hE1)
     clear hK K
     (try simp only[ap])
     have hE01:Ext wo w1:=Ext.trans ((Ext.refl wo).drew) hE1
     repeat((with_reducible refine zh7 ?_);first
      |(refine zf0 (v:=?_) (by rfl) (by rfl) ?_ ?_;rotate_left;(focus(intro V hV;(try dsimp only at hV);(go_simp<;>with_reducible rfl)));(try simp only[ap]))
      |(refine zez (by rfl) (by rfl) ?_;(try simp only[ap])))
     refine zjd (by rfl) (fun K hK=>?_)
     go_simp;refine(HL.out _).mono ?_;rintro e w2 ⟨rfl,hE2⟩;refine hK.out _ _ ?_ ?_
     ·exact HS.out _ (hE01.trans hE2)
     clear hK K
     (try simp only[ap])
     have hE02:Ext wo w2:=hE01.trans hE2
     repeat((with_reducible refine zh7 ?_);first
      |(refine zf0 (v:=?_) (by rfl) (by rfl) ?_ ?_;rotate_left;(focus(intro V hV;(try dsimp only at hV);(go_simp<;>with_reducible rfl)));(try simp only[ap]))
      |(refine zez (by rfl) (by rfl) ?_;(try simp only[ap])))
     refine zjd (by rfl) (fun K hK=>?_)
     go_simp;refine(HT.out _).mono ?_;rintro e w3 ⟨rfl,hE3⟩;refine hK.out _ _ ?_ ?_
     ·exact HS.out _ (hE02.trans hE3)
     clear hK K
     (try simp only[ap])
     have hE03:Ext wo w3:=hE02.trans hE3
     repeat((with_reducible refine zh7 ?_);first
      |(refine zf0 (v:=?_) (by rfl) (by rfl) ?_ ?_;rotate_left;(focus(intro V hV;(try dsimp only at hV);(go_simp<;>with_reducible rfl)));(try simp only[ap]))
      |(refine zez (by rfl) (by rfl) ?_;(try simp only[ap])))
     refine zne ?_;refine NoPanic.normal ?_;rcases hd:decide ((zd9 tn:Int)<(zd9 nm:Int))with _|_
     ·have Hb2:Hid (zb6 l n cls (k+1)=some (j,t)):=Lib.hid (by rw[Hbe.out,Htn.out,hd];exact if_neg (by decide))
      have hdn:=of_decide_eq_false hd
      have hdm:decide ((zd9 nm:Int)>(zd9 tn:Int))=false:=hd
      go_wp2_with fail;go_roundw
      case rel=>exact⟨k+1,by omega,by go_num,by rw[Hb2.out],hEx.trans hE03⟩
      case measure=>simp[intOf];omega
     ·have Hb2:Hid (zb6 l n cls (k+1)=some (k,⟨nm,ty,cl,tt,da⟩)):=Lib.hid (by rw[Hbe.out,Htn.out,hd];exact if_pos rfl)
      have hdn:=of_decide_eq_true hd
      have hdm:decide ((zd9 nm:Int)>(zd9 tn:Int))=true:=hd
      go_wp2_with fail;go_roundw
      case rel=>exact⟨k+1,by omega,by go_num,by rw[Hb2.out],hEx.trans hE03⟩
      case measure=>simp[intOf];omega
  ·obtain rfl:k=ps.length:=by omega
   obtain⟨hq,hqf,hqz⟩:=zc0 w.heap.size rfl (show Ext (w.alloc _) wo by rw[←HX0.out];exact hEx)
   rcases hB:zb6 l n cls ps.length with _|⟨j,t⟩
   ·have HSO:Hid (SO=⟨none,0⟩):=Lib.hid (by rw[HS.out,hB];rfl)
    clear hB;dsimp only[zga];go_wp2_with fail;obtain⟨X,hX⟩:∃X,X=((((wo.setCell ⟨w.heap.size,0,none⟩ (S [])).setCell ⟨w.heap.size,1,none⟩ (.int .u16 0)).setCell ⟨w.heap.size,2,none⟩ (.int .u16 0)).setCell ⟨w.heap.size,3,none⟩ (.int .u32 0)).setCell ⟨w.heap.size,4,none⟩ (.slice none 0 0):=⟨_,rfl⟩
    have hbX:∀j,X.cell? ⟨w.heap.size,j,none⟩= #[S [],.int .u16 0,.int .u16 0,.int .u32 0,.slice none 0 0][j]? :=by rw[hX];exact zos hq (S []) (.int .u16 0) (.int .u16 0) (.int .u32 0) (.slice none 0 0)
    have hfX:∀j,X.frozen? ⟨w.heap.size,j,none⟩=false:=fun j=>by rw[hX];simpa using hqf j
    have hEX:Ext w X:=by rw[hX];exact xt
    have hzX:w.heap.size<X.heap.size:=by rw[hX];simp;omega
    refine(show _ from ?_:bodyPost Tryz.prog Tryz.f113 _ Exit.ret _ (((((wo.setCell ⟨w.heap.size,0,none⟩ (S [])).setCell ⟨w.heap.size,1,none⟩ (.int .u16 0)).setCell ⟨w.heap.size,2,none⟩ (.int .u16 0)).setCell ⟨w.heap.size,3,none⟩ (.int .u32 0)).setCell ⟨w.heap.size,4,none⟩ (.slice none 0 0)))
    rw[←hX];refine bodyPost_ret (v:=.tuple #[zch SetD.zero (.slice none 0 0),.bool false,.int .i64 0]) (by simp[results,Tryz.results113,go_sem,hbX,hfX,hzX,SetD.zero]) rfl ?_
    refine⟨_,by rw[HSO.out];rfl,?_,hEX⟩
    intro P _ hP2;rw[HSO.out];exact hP2
   ·obtain⟨hj,hjs⟩:=zhx hB
    dsimp only at hj hjs;have hbs:=hbd t (List.mem_of_getElem? hjs)
    have hp:ps[j]? =some ps[j]:=List.getElem?_eq_getElem hj
    have hps:ps[j].1=t:=by
     rw[←Hl.out,List.getElem?_map,hp]at hjs;exact Option.some.inj hjs
    have hstr:=Hst.out ps[j] (List.getElem_mem hj)
    have hmem:ps[j]∈ps:=List.getElem_mem hj
    generalize ps[j]=p at*;obtain⟨⟨nm,ty,cl,tt,da⟩,d⟩:=p
    dsimp only at*;subst hps;obtain⟨b,off,rfl,_,hbz,hc⟩:=hrd.2 (by omega)
    obtain⟨c0,c1,c2,c3,c4⟩:=zb9 hc j _ hp
    have Hstr:=Lib.hid hstr
    have Hmem:=Lib.hid hmem
    clear hmem;obtain⟨dA,dc,rfl⟩:=hstr.shape
    have hd0:(0:Int)≤(j:Int):=by omega
    have hji:(j:Int)<(ps.length:Int):=by omega
    have hjn:decide ((j:Int)<0)=false:=by simp
    rw[←hE.cell (p:=⟨b,_,none⟩) hbz]at c0 c1 c2 c3 c4
    clear hc hjs hp hrd hstr;dsimp only[zga];by_cases hd1:da.length=1
    ·have HSO:Hid (SO=⟨some ⟨nm,ty,cl,tt,da⟩,0⟩):=Lib.hid (by rw[HS.out,hB];exact if_pos hd1)
     have f1:((da.length:Int)!=1)=false:=by rw[hd1];rfl
     clear hB hd1;go_wp2_with fail;obtain⟨X,hX⟩:∃X,X=((((wo.setCell ⟨w.heap.size,0,none⟩ (S nm)).setCell ⟨w.heap.size,1,none⟩ (.int .u16 ty)).setCell ⟨w.heap.size,2,none⟩ (.int .u16 cl)).setCell ⟨w.heap.size,3,none⟩ (.int .u32 tt)).setCell ⟨w.heap.size,4,none⟩ (.slice dA da.length dc):=⟨_,rfl⟩
     have hbX:∀j,X.cell? ⟨w.heap.size,j,none⟩= #[S nm,.int .u16 ty,.int .u16 cl,.int .u32 tt,.slice dA da.length dc][j]? :=by rw[hX];exact zos hq (S nm) (.int .u16 ty) (.int .u16 cl) (.int .u32 tt) (.slice dA da.length dc)
     have hfX:∀j,X.frozen? ⟨w.heap.size,j,none⟩=false:=fun j=>by rw[hX];simpa using hqf j
     have hEX:Ext w X:=by rw[hX];exact xt
     have hzX:w.heap.size<X.heap.size:=by rw[hX];simp;omega
     refine(show _ from ?_:bodyPost Tryz.prog Tryz.f113 _ Exit.ret _ (((((wo.setCell ⟨w.heap.size,0,none⟩ (S nm)).setCell ⟨w.heap.size,1,none⟩ (.int .u16 ty)).setCell ⟨w.heap.size,2,none⟩ (.int .u16 cl)).setCell ⟨w.heap.size,3,none⟩ (.int .u32 tt)).setCell ⟨w.heap.size,4,none⟩ (.slice dA da.length dc)))
     rw[←hX];refine bodyPost_ret (v:=.tuple #[zch ⟨nm,ty,cl,tt,da⟩ (.slice dA da.length dc),.bool true,.int .i64 0]) (by simp[results,Tryz.results113,go_sem,hbX,hfX,hzX,SetD.zero]) rfl ?_
     refine⟨_,by rw[HSO.out];rfl,?_,hEX⟩
     intro P hP1 _;rw[HSO.out]
     first|exact hP1 _ Hmem.out|exact hP1 _ _ Hmem.out
    ·have HSO:Hid (SO=⟨none,3⟩):=Lib.hid (by rw[HS.out,hB];exact if_neg hd1)
     obtain⟨f1,f2⟩:=zld hd1
     clear hB hd1;go_wp2_with fail;obtain⟨X,hX⟩:∃X,X=((((wo.setCell ⟨w.heap.size,0,none⟩ (S [])).setCell ⟨w.heap.size,1,none⟩ (.int .u16 0)).setCell ⟨w.heap.size,2,none⟩ (.int .u16 0)).setCell ⟨w.heap.size,3,none⟩ (.int .u32 0)).setCell ⟨w.heap.size,4,none⟩ (.slice none 0 0):=⟨_,rfl⟩
     have hbX:∀j,X.cell? ⟨w.heap.size,j,none⟩= #[S [],.int .u16 0,.int .u16 0,.int .u32 0,.slice none 0 0][j]? :=by rw[hX];exact zos hq (S []) (.int .u16 0) (.int .u16 0) (.int .u32 0) (.slice none 0 0)
     have hfX:∀j,X.frozen? ⟨w.heap.size,j,none⟩=false:=fun j=>by rw[hX];simpa using hqf j
     have hEX:Ext w X:=by rw[hX];exact xt
     have hzX:w.heap.size<X.heap.size:=by rw[hX];simp;omega
     refine(show _ from ?_:bodyPost Tryz.prog Tryz.f113 _ Exit.ret _ (((((wo.setCell ⟨w.heap.size,0,none⟩ (S [])).setCell ⟨w.heap.size,1,none⟩ (.int .u16 0)).setCell ⟨w.heap.size,2,none⟩ (.int .u16 0)).setCell ⟨w.heap.size,3,none⟩ (.int .u32 0)).setCell ⟨w.heap.size,4,none⟩ (.slice none 0 0)))
     rw[←hX];refine bodyPost_ret (v:=.tuple #[zch SetD.zero (.slice none 0 0),.bool false,.int .i64 3]) (by simp[results,Tryz.results113,go_sem,hbX,hfX,hzX,SetD.zero]) rfl ?_
     refine⟨_,by rw[HSO.out];rfl,?_,hEX⟩
     intro P _ hP2;rw[HSO.out];exact hP2
theorem zug (nm:List UInt8) (ty cl tt:Int) (d:List UInt8):targetS ⟨nm,ty,cl,tt,[d]⟩=if may d then some (fold d)else none:=by
 unfold targetS;simp only;rw[zu8 (by simp)]
 by_cases h:may d=true
 ·simp[h]
 ·simp[h]
theorem zta (s:SetD) (h:s.data.length≠1):targetS s=none:=by
 unfold targetS
 match hd:s.data,h with
 |[],_=>rfl
 |[_],h=>exact absurd rfl h
 |_::_::_,_=>rfl
structure RFInv (w w1:World) (lo:Nat) (l:List SetD) (ty cls:Int) (R:FolR) (here:List UInt8) (seen:List (List UInt8)) (ps:List (SetD×Value)) (sA:Option Addr) (sc:Nat) (pA:Option Addr) (pc:Nat) (wr:World):Prop where
 h8:ps.length≤8
 hs:seen.length=ps.length+1
 hh:here.length≤255
 oseen:Own wr w1.heap.size 9 1 sA seen.length sc (seen.map S)
 opath:Own wr w1.heap.size 79 5 pA ps.length pc (ps.flatMap setCells)
 datas:∀p∈ps,Strs w lo p.2 p.1.data
 ext:Ext w1 wr
 eq:R=followF l ty cls (9 - ps.length) here seen (ps.map Prod.fst)
def zti (R:FolR) (w:World) (e:Ending) (w':World):Prop:=
 ∃v u,e=.returned (.tuple #[v,S R.here,u,.int .i64 R.err])∧Sets w' 0 v R.path∧Sets w' 0 u R.fin∧Ext w w'
theorem Sets.nil9 (w:World) (lo:Nat):Sets w lo (.slice none 0 0) []:=(OSets.nil w lo).sets
theorem Own.sets {w w':World} {lo lo':Nat} {A:Option Addr} {c:Nat} {ps:List (SetD×Value)} (h:Own w' lo' 79 5 A ps.length c (ps.flatMap setCells)) (hd:∀p∈ps,Strs w lo p.2 p.1.data) (hE:Ext w w'):Sets w' 0 (.slice A ps.length c) (ps.map Prod.fst):=
 ⟨ps,A,c,rfl,rfl,h.cap.1,h.cap.2,h.rd.lower (Nat.zero_le _),fun p hp=>((hd p hp).ext hE).lower (Nat.zero_le _)⟩
theorem zCc {w:World} {lo:Nat} {d:Value} {x:List UInt8} (h:Strs w lo d [x]):∃b off c,d=.slice (some ⟨b,off,none⟩) 1 c∧b<w.heap.size∧w.cell? ⟨b,off,none⟩=some (S x)∧1≤c∧c≤maxLen:=by
 obtain⟨A,c,rfl,h1,h2,hrd⟩:=h
 obtain⟨b,off,rfl,_,hb,hc⟩:=hrd.2 (by simp)
 exact⟨b,off,c,rfl,hb,hc 0 _ rfl,h1,h2⟩
theorem zxd (lo:Nat) (n:List UInt8) (ty cls:Int) (v:Value) (l:List SetD) (w:World) (hS:Sets w lo v l) (hbd:zdw l) (hn:n.length≤1048576):
 Calls Tryz.prog 110 #[.agg #[S n,.int .u16 ty,.int .u16 cls],v] w (zti (followOf n ty cls l) w):=by
 by_cases hm:may n=true
 ·have hR:followOf n ty cls l=followF l ty cls 9 (fold n) [fold n] []:=by unfold followOf;rw[if_pos hm]
  rw[hR];clear hR;obtain⟨R,hR⟩:∃R,R=followF l ty cls 9 (fold n) [fold n] []:=⟨_,rfl⟩
  rw[←hR];have HR:=Lib.hid hR
  clear hR;have hfl:=zep n
  have HF0:=Lib.hid (fun W=>zgs n W (by omega))
  have HM0:=Lib.hid (fun W=>zc7 n W (by omega))
  rw[hm]at HM0;obtain⟨i0,hi0,hz0,hz1,hz2⟩:=info_parts zef
  obtain⟨j0,hj0,hy0,hy1,hy2⟩:=info_parts zgn
  go_enter Tryz.func110,Tryz.ntmps110;go_wp2_with fail;refine(HM0.out _).mono ?_;rintro e w0 ⟨rfl,hE0⟩;obtain⟨hq,hqf,hqz⟩:=zb0 hE0
  go_wp2_with fail;refine(HF0.out _).mono ?_;rintro e w1 ⟨rfl,hE1'⟩;have hE1:=hE0.trans hE1'
  generalize fold n=here0 at*;clear hq hqf hqz hE0 hE1';go_wp2_with fail;have hEw1:Ext w w1:=((Ext.refl w).alloc _).trans hE1
  go_loopw [8,9,10] (fun h s p wr=>∃(here:List UInt8) (seen:List (List UInt8)) (ps:List (SetD×Value)) (sA:Option Addr) (sc:Nat) (pA:Option Addr) (pc:Nat),h=S here∧s=.slice sA seen.length sc∧p=.slice pA ps.length pc∧RFInv w w1 lo l ty cls R here seen ps sA sc pA pc wr) (fun _ _ p _=>8 - lenOf p)
  case atStart=>
   refine⟨here0,[here0],[],_,1,none,0,rfl,rfl,rfl,⟨by simp,rfl,hfl,zer w1 _ _ rfl (Nat.le_refl _) _ _ 1 1 rfl (by unfold maxLen;omega),Own.nil _ _ _ _,by simp,(Ext.refl _).alloc _,HR.out⟩⟩
  case round=>
   obtain⟨here,seen,ps,sA,sc,pA,pc,rfl,rfl,rfl,hI⟩:=hrel
   obtain⟨wo,rfl⟩:∃wo:World,wo=wr:=⟨_,rfl⟩
   have h8:=hI.h8
   have hs:=hI.hs
   have hEwo:=hEw1.trans hI.ext
   obtain⟨hq,hqf,hqz⟩:=zb0 (hE1.trans hI.ext)
   have hq1:wo.cell? ⟨w.heap.size,1,none⟩=some (.int .u16 ty):=hq 1
   have hq2:wo.cell? ⟨w.heap.size,2,none⟩=some (.int .u16 cls):=hq 2
   have hF:=hI.eq
   rw[show 9 - ps.length=(8 - ps.length)+1 by omega]at hF
   simp only[followF]at hF;have HS:=Lib.hid hs
   clear hs hq hqf;have HFind:=Lib.hid (fun k W (hW:Ext w W)=>zC1 lo v l here k cls w W hS hW hbd (by have:=hI.hh;omega))
   by_cases hty:ty=5
   ·rw[if_pos hty]at hF;have HF:=Lib.hid hF
    clear hF;have f5:(ty==5)=true:=by rw[beq_iff_eq];exact hty
    have f6:(ty !=5)=false:=by rw[bne,f5];rfl
    clear hty;go_wp2_with fail;refine(HFind.out ty _ hEwo).mono ?_;rintro e w5 ⟨d5,rfl,ho5,hE5⟩;obtain⟨dA5,dc5,rfl⟩:=ho5.shape
    rcases hf5:zbs l here ty cls with _|s5
    ·have Hf5:=Lib.hid hf5
     rw[hf5]at ho5;clear hf5;dsimp only[Option.getD,Option.isSome]at ho5 ⊢;go_wp2_with fail;refine bodyPost_ret (zb2 rfl _ _ _) rfl ?_;have hEo:=hE5.alloc (.cells #[S SetD.zero.name,.int .u16 SetD.zero.typ,.int .u16 SetD.zero.cls,.int .u32 SetD.zero.ttl,.slice dA5 SetD.zero.data.length dc5] 79)
     refine⟨_,_,by rw[HF.out,Hf5.out];rfl,?_,?_,hEwo.trans hEo⟩
     ·rw[HF.out];exact(hI.opath.ext hEo).sets hI.datas (hEwo.trans hEo)
     ·rw[HF.out,Hf5.out];exact Sets.nil9 _ _
    ·have Hf5:=Lib.hid hf5
     rw[hf5]at ho5;clear hf5;dsimp only[Option.getD,Option.isSome]at ho5 ⊢;go_wp2_with fail;go_region;go_wp2_with fail;refine bodyPost_ret (zb2 rfl _ _ _) rfl ?_;have hEo:Ext wo _:=(hE5.alloc (.cells #[S s5.name,.int .u16 s5.typ,.int .u16 s5.cls,.int .u32 s5.ttl,.slice dA5 s5.data.length dc5] 79)).drew.alloc (.cells #[S s5.name,.int .u16 s5.typ,.int .u16 s5.cls,.int .u32 s5.ttl,.slice dA5 s5.data.length dc5] 79)
     refine⟨_,_,by rw[HF.out,Hf5.out];rfl,?_,?_,hEwo.trans hEo⟩
     ·rw[HF.out];exact(hI.opath.ext hEo).sets hI.datas (hEwo.trans hEo)
     ·rw[HF.out,Hf5.out];exact Own.sets (ps:=[(s5,.slice dA5 s5.data.length dc5)]) (zer _ _ 0 (by simp) (Nat.zero_le _) _ _ 1 5 rfl (by unfold maxLen;omega)) (fun p hp=>by rw[List.mem_singleton]at hp;subst hp;exact ho5) (hEwo.trans hEo)
   ·rw[if_neg hty]at hF;have f5:(ty==5)=false:=by rw[beq_eq_false_iff_ne];exact hty
    have f6:(ty !=5)=true:=by rw[bne,f5];rfl
    clear hty;go_wp2_with fail;refine(HFind.out 5 _ hEwo).mono ?_;rintro e w2 ⟨d2,rfl,ho2,hE2⟩;obtain⟨dA2,dc2,rfl⟩:=ho2.shape
    obtain⟨hr,hrf,hrz⟩:=zb0 ((hE1.trans hI.ext).trans hE2)
    have hr1:w2.cell? ⟨w.heap.size,1,none⟩=some (.int .u16 ty):=hr 1
    have hr2:w2.cell? ⟨w.heap.size,2,none⟩=some (.int .u16 cls):=hr 2
    clear hr hrf hq1 hq2 hqz;rcases hfa:zbs l here 5 cls with _|a
    ·rw[hfa]at hF ho2;have HF:=Lib.hid hF
     clear hF hfa;dsimp only[Option.getD,Option.isSome]at ho2 ⊢;have hE2b:=hE2.alloc (.cells #[S SetD.zero.name,.int .u16 SetD.zero.typ,.int .u16 SetD.zero.cls,.int .u32 SetD.zero.ttl,.slice dA2 SetD.zero.data.length dc2] 79)
     have hEw2:=hEwo.trans hE2b
     go_wp2_with fail;refine(HFind.out ty _ hEw2).mono ?_;rintro e w5 ⟨d5,rfl,ho5,hE5⟩;obtain⟨dA5,dc5,rfl⟩:=ho5.shape
     rcases hf5:zbs l here ty cls with _|s5
     ·have Hf5:=Lib.hid hf5
      rw[hf5]at ho5;clear hf5;dsimp only[Option.getD,Option.isSome]at ho5 ⊢;go_wp2_with fail;refine bodyPost_ret (zb2 rfl _ _ _) rfl ?_;have hEo:=(hE2b.trans hE5).alloc (.cells #[S SetD.zero.name,.int .u16 SetD.zero.typ,.int .u16 SetD.zero.cls,.int .u32 SetD.zero.ttl,.slice dA5 SetD.zero.data.length dc5] 79)
      refine⟨_,_,by rw[HF.out,Hf5.out];rfl,?_,?_,hEwo.trans hEo⟩
      ·rw[HF.out];exact(hI.opath.ext hEo).sets hI.datas (hEwo.trans hEo)
      ·rw[HF.out,Hf5.out];exact Sets.nil9 _ _
     ·have Hf5:=Lib.hid hf5
      rw[hf5]at ho5;clear hf5;dsimp only[Option.getD,Option.isSome]at ho5 ⊢;go_wp2_with fail;go_region;go_wp2_with fail;refine bodyPost_ret (zb2 rfl _ _ _) rfl ?_;have hEo:Ext wo _:=((hE2b.trans hE5).alloc (.cells #[S s5.name,.int .u16 s5.typ,.int .u16 s5.cls,.int .u32 s5.ttl,.slice dA5 s5.data.length dc5] 79)).drew.alloc (.cells #[S s5.name,.int .u16 s5.typ,.int .u16 s5.cls,.int .u32 s5.ttl,.slice dA5 s5.data.length dc5] 79)
      refine⟨_,_,by rw[HF.out,Hf5.out];rfl,?_,?_,hEwo.trans hEo⟩
      ·rw[HF.out];exact(hI.opath.ext hEo).sets hI.datas (hEwo.trans hEo)
      ·rw[HF.out,Hf5.out];exact Own.sets (ps:=[(s5,.slice dA5 s5.data.length dc5)]) (zer _ _ 0 (by simp) (Nat.zero_le _) _ _ 1 5 rfl (by unfold maxLen;omega)) (fun p hp=>by rw[List.mem_singleton]at hp;subst hp;exact ho5) (hEwo.trans hEo)
    ·rw[hfa]at hF ho2;have Hfa:=Lib.hid hfa
     clear hfa;dsimp only[Option.getD,Option.isSome]at ho2 ⊢;simp only[List.length_map]at hF;have hE2b:=hE2.alloc (.cells #[S a.name,.int .u16 a.typ,.int .u16 a.cls,.int .u32 a.ttl,.slice dA2 a.data.length dc2] 79)
     have hEw2:=hEwo.trans hE2b
     have hbda:=hbd a (zpu Hfa.out)
     by_cases h88:ps.length=8
     ·rw[if_pos h88]at hF;have HF:=Lib.hid hF
      have f8:(8:Int)≤(ps.length:Int):=by omega
      clear hF h88;go_wp2_with fail;refine bodyPost_ret (zb2 rfl _ _ _) rfl ?_;exact⟨_,_,by rw[HF.out];rfl,by rw[HF.out];exact Sets.nil9 _ _,by rw[HF.out];exact Sets.nil9 _ _,hEw2⟩
     ·rw[if_neg h88]at hF;have f8:(ps.length:Int)<8:=by omega
      have h87:ps.length≤7:=by omega
      clear h88;go_wp2_with fail;refine(HFind.out ty _ hEw2).mono ?_;rintro e w4 ⟨d4,rfl,ho4,hE4⟩;obtain⟨dA4,dc4,rfl⟩:=ho4.shape
      have hEw4:=hEw2.trans hE4
      obtain⟨ha,haf,haz⟩:=zb0 hE4
      have ha0:w4.cell? ⟨w2.heap.size,0,none⟩=some (S a.name):=ha 0
      have ha1:w4.cell? ⟨w2.heap.size,1,none⟩=some (.int .u16 a.typ):=ha 1
      have ha2:w4.cell? ⟨w2.heap.size,2,none⟩=some (.int .u16 a.cls):=ha 2
      have ha3:w4.cell? ⟨w2.heap.size,3,none⟩=some (.int .u32 a.ttl):=ha 3
      have ha4:w4.cell? ⟨w2.heap.size,4,none⟩=some (.slice dA2 a.data.length dc2):=ha 4
      clear ha haf hr1 hr2 hrz;obtain⟨B4,hB4⟩:∃B:Bool,B=(zbs l here ty cls).isSome:=⟨_,rfl⟩
      rw[←hB4]at hF ⊢;generalize hs4:(zbs l here ty cls).getD SetD.zero=s4 at*;obtain⟨sn4,st4,sc4,sl4,sd4⟩:=s4
      dsimp only at ho4 ⊢;have hE4b:=hE4.alloc (.cells #[S sn4,.int .u16 st4,.int .u16 sc4,.int .u32 sl4,.slice dA4 sd4.length dc4] 79)
      have hEo4:Ext wo _:=hE2b.trans hE4b
      have hEw4b:=hEwo.trans hEo4
      clear hs4 hB4;obtain⟨an,at_,ac,al,ad⟩:=a
      dsimp only at*;by_cases hl1:ad.length=1
      ·obtain⟨x,rfl⟩:=List.length_eq_one_iff.1 hl1
       rw[zug]at hF;have hx:=hbda.2.2 x (by simp)
       obtain⟨xb,xo,xc,e2,hxz,hxc,hxc1,hxc2⟩:=zCc ho2
       injection e2 with e2 _ e3
       subst e2 e3;have hxc4:=(hEw4.cell (p:=⟨xb,xo,none⟩) hxz).trans hxc
       have hxz4:xb<w4.heap.size:=Nat.lt_of_lt_of_le hxz hEw4.size
       have HMx:=Lib.hid (fun W=>zc7 x W (by omega))
       have HFx:=Lib.hid (fun W=>zgs x W (by omega))
       have hfx:=zep x
       simp only[List.length_singleton]at*;rcases hmx:may x with _|_
       ·rw[hmx]at HMx hF;simp only[Bool.false_eq_true,if_false]at hF;have HF:=Lib.hid hF
        clear hF hmx;go_wp2_with fail;refine(HMx.out _).mono ?_;rintro e w6 ⟨rfl,hE6⟩;go_wp2_with fail;refine bodyPost_ret (zb2 rfl _ _ _) rfl ?_;exact⟨_,_,by rw[HF.out];rfl,by rw[HF.out];exact Sets.nil9 _ _,by rw[HF.out];exact Sets.nil9 _ _,hEw4b.trans hE6⟩
       ·rw[hmx]at HMx hF;simp only[if_true]at hF;clear hmx;rcases B4 with _|_
        ·simp only[Bool.false_eq_true,if_false]at hF;go_wp2_with fail;refine(HMx.out _).mono ?_;rintro e w6 ⟨rfl,hE6⟩;have hEo6:=hEo4.trans hE6
         have hEw6:=hEwo.trans hEo6
         obtain⟨hd,hdf,hdz⟩:=zb0 (hE4b.trans hE6)
         have hd0:w6.cell? ⟨w2.heap.size,0,none⟩=some (S an):=hd 0
         have hd1:w6.cell? ⟨w2.heap.size,1,none⟩=some (.int .u16 at_):=hd 1
         have hd2:w6.cell? ⟨w2.heap.size,2,none⟩=some (.int .u16 ac):=hd 2
         have hd3:w6.cell? ⟨w2.heap.size,3,none⟩=some (.int .u32 al):=hd 3
         have hd4:w6.cell? ⟨w2.heap.size,4,none⟩=some (.slice (some ⟨xb,xo,none⟩) 1 dc2):=hd 4
         have hxc6:=(hEw6.cell (p:=⟨xb,xo,none⟩) hxz).trans hxc
         clear hd hdf hdz hxc4 hxz4 ha0 ha1 ha2 ha3 ha4;have hxz6:xb<w6.heap.size:=Nat.lt_of_lt_of_le hxz hEw6.size
         go_wp2_with fail;refine(HFx.out _).mono ?_;rintro e w7 ⟨rfl,hE7⟩;have hEo7:=hEo6.trans hE7
         have hEw7:=hEwo.trans hEo7
         obtain⟨hd,hdf,hdz⟩:=zb0 ((hE4b.trans hE6).trans hE7)
         have hg0:w7.cell? ⟨w2.heap.size,0,none⟩=some (S an):=hd 0
         have hg1:w7.cell? ⟨w2.heap.size,1,none⟩=some (.int .u16 at_):=hd 1
         have hg2:w7.cell? ⟨w2.heap.size,2,none⟩=some (.int .u16 ac):=hd 2
         have hg3:w7.cell? ⟨w2.heap.size,3,none⟩=some (.int .u32 al):=hd 3
         have hg4:w7.cell? ⟨w2.heap.size,4,none⟩=some (.slice (some ⟨xb,xo,none⟩) 1 dc2):=hd 4
         clear hd hdf hdz hd0 hd1 hd2 hd3 hd4 hxc6 hxz6 HFx HMx;generalize fold x=next at*
         have hos7:=hI.oseen.ext hEo7
         have hop7:=hI.opath.ext hEo7
         have hsl:seen.length≤9:=by have:=HS.out;omega
         go_wp2_with fail
         go_loop [15] (fun i=>∃k:Nat,k≤seen.length∧i=.int .i64 k∧(seen.take k).contains next=false) (fun i=>seen.length - (intOf i).toNat)
         case atStart=>exact⟨0,by omega,rfl,rfl⟩
         case round=>
          obtain⟨k,hk,rfl,hno⟩:=hrel
          have Hno:=Lib.hid hno
          clear hno;by_cases hlt:k<seen.length
          ·obtain⟨gs,rfl,_,hgsz,_,hgc⟩:=hos7.addr (by omega)
           have hck:=hgc k (S seen[k]) (by simp[List.getElem?_eq_getElem hlt])
           obtain⟨y,hy⟩:∃y,y=seen[k]:=⟨_,rfl⟩
           rw[←hy]at hck;have Hy:=Lib.hid hy
           have hki:(k:Int)<(seen.length:Int):=by omega
           have hk0:(0:Int)≤(k:Int):=by omega
           clear hgc hy;by_cases hyx:y=next
           ·have f1:=zA1 hyx
            have hct:seen.contains next=true:=by rw[List.contains_iff_mem,←hyx,Hy.out];exact List.getElem_mem hlt
            rw[if_pos hct]at hF;have HF:=Lib.hid hF
            clear hyx hF hct;go_wp2_with fail;refine bodyPost_ret (zb2 rfl _ _ _) rfl ?_;exact⟨_,_,by rw[HF.out];rfl,by rw[HF.out];exact Sets.nil9 _ _,by rw[HF.out];exact Sets.nil9 _ _,hEw7⟩
           ·have f1:=zls hyx
            have Hyx:=Lib.hid hyx
            have HF0:=Lib.hid hF
            clear hyx hF;go_wp2_with fail;go_round
            case rel=>
             refine⟨k+1,by omega,by go_num,?_⟩
             rw[zax seen k hlt,←Hy.out];have h3:=Hno.out
             simp[List.contains_eq_any_beq]at h3 ⊢;exact⟨h3,fun e=>Hyx.out e.symm⟩
            case measure=>simp[intOf];omega
          ·have hct:seen.contains next=false:=by
            have:=Hno.out
            rwa[List.take_of_length_le (by omega)]at this
           rw[if_neg (by rw[hct];simp)]at hF
           have HF:=Lib.hid hF
           clear hF hct;have hgz:w2.heap.size<w7.heap.size:=Nat.lt_of_lt_of_le (by simp) ((hE4b.trans hE6).trans hE7).size
           go_wp2_with(first
            |(at_builtin
              refine zai _ rfl (.tmp 85) (.tmp 87) _ rfl w1.heap.size 9 i0 _ 1 16 Tryz.underlying77 hi0 hz0 hz1 hz2 rfl (by omega) sA seen.length sc (seen.map S) rfl (hos7.ext ((Ext.refl _).alloc _)) 0 _ 1 1 ([next].map S) rfl (zaz _ _ rfl _ _ 1 1 rfl) (zdh _) (by omega) (by omega) (by have:=(hI.ext.trans hEo7).size;simp;omega) ?_
              intro A5 c5 w8 hown5 hg5 hb5 hat5;have hop8:=(hop7.ext ((Ext.refl w7).alloc (.cells #[S next] 9))).kept hg5 (zgf (hop7.ext ((Ext.refl w7).alloc (.cells #[S next] 9))) (hos7.ext ((Ext.refl w7).alloc (.cells #[S next] 9))) (by decide))
              have hsz8:w1.heap.size≤w8.heap.size:=Nat.le_trans (hI.ext.trans hEo7).size (Nat.le_trans (by simp) hb5.size)
              have hnb:some w2.heap.size≠(Value.slice sA seen.length sc).ownBlock:=fun e=>absurd (hI.oseen.blk _ e.symm).2 (by have:=hE2.size;omega)
              have hkc:∀j u,w7.cell? ⟨w2.heap.size,j,none⟩=some u→w8.cell? ⟨w2.heap.size,j,none⟩=some u:=fun j u h=>
               hg5.cell (a:=⟨w2.heap.size,j,none⟩) ((((Ext.refl w7).alloc (.cells #[S next] 9)).cell (p:=⟨w2.heap.size,j,none⟩) hgz).trans h) hnb
              have k0:=hkc 0 _ hg0
              have k1:=hkc 1 _ hg1
              have k2:=hkc 2 _ hg2
              have k3:=hkc 3 _ hg3
              have k4:=hkc 4 _ hg4
              clear hkc hnb hg0 hg1 hg2 hg3 hg4)
            |(at_builtin
              refine zai _ rfl (.tmp 89) (.tmp 91) _ rfl w1.heap.size 79 j0 _ 5 48 Tryz.underlying22 hj0 hy0 hy1 hy2 rfl (by omega) pA ps.length pc (ps.flatMap setCells) rfl (hop8.ext ((Ext.refl _).alloc _)) 0 _ 1 1 (setCells (⟨an,at_,ac,al,[x]⟩,.slice (some ⟨xb,xo,none⟩) 1 dc2)) rfl (zaz _ _ (by simp) _ _ 1 5 rfl) (zig _ _ _ _) (by omega) (by omega) (by simp;omega) ?_
              intro A6 c6 w9 hown6 hg6 hb6 hat6))
           have hE8:Ext w1 w8:=((hI.ext.trans hEo7).alloc _).then hb5 (Nat.le_refl _)
           have hE9:Ext w1 w9:=(hE8.alloc _).then hb6 (Nat.le_refl _)
           have ho8:Own (w8.alloc (.cells (setCells (⟨an,at_,ac,al,[x]⟩,.slice (some ⟨xb,xo,none⟩) 1 dc2)).toArray 79)) w1.heap.size 9 1 A5 (seen.length+1) c5 (seen.map S++[next].map S):=hown5.ext ((Ext.refl w8).alloc _)
           have ho9:=ho8.kept hg6 (zgf ho8 (hop8.ext ((Ext.refl w8).alloc _)) (by decide))
           go_roundw
           case rel=>
            refine⟨next,seen++[next],ps++[(⟨an,at_,ac,al,[x]⟩,.slice (some ⟨xb,xo,none⟩) 1 dc2)],A5,c5,A6,c6,rfl,by simp,by simp,⟨by simp;omega,by simp[HS.out],hfx,?_,?_,?_,hE9,?_⟩⟩
            ·rw[List.length_append,List.map_append];exact ho9
            ·rw[List.length_append,List.flatMap_append];simpa using hown6
            ·intro p hp;rcases List.mem_append.1 hp with h|h
             ·exact hI.datas p h
             ·rw[List.mem_singleton]at h;subst h;exact ho2
            ·rw[HF.out];simp only[List.length_append,List.length_singleton,List.map_append,List.map_cons,List.map_nil];congr 1;omega
           case measure=>simp only[lenOf];omega
        ·simp only[if_true]at hF;have HF:=Lib.hid hF
         clear hF;go_wp2_with fail;refine(HMx.out _).mono ?_;rintro e w6 ⟨rfl,hE6⟩;go_wp2_with fail;refine bodyPost_ret (zb2 rfl _ _ _) rfl ?_;exact⟨_,_,by rw[HF.out];rfl,by rw[HF.out];exact Sets.nil9 _ _,by rw[HF.out];exact Sets.nil9 _ _,hEw4b.trans hE6⟩
      ·rw[zta _ (by exact hl1)]at hF
       have HF:=Lib.hid hF
       obtain⟨f1,f2⟩:=zld hl1
       clear hF hl1;go_wp2_with fail;refine bodyPost_ret (zb2 rfl _ _ _) rfl ?_;exact⟨_,_,by rw[HF.out];rfl,by rw[HF.out];exact Sets.nil9 _ _,by rw[HF.out];exact Sets.nil9 _ _,hEw4b⟩
 ·have hR:followOf n ty cls l=FolR.bad 1:=by unfold followOf;rw[if_neg hm]
  rw[hR];have hm':may n=false:=by simpa using hm
  have HM0:=Lib.hid (fun W=>zc7 n W (by omega))
  rw[hm']at HM0;clear hm hR;go_enter Tryz.func110,Tryz.ntmps110;go_wp2_with fail;refine(HM0.out _).mono ?_;rintro e w0 ⟨rfl,hE0⟩;go_wp2_with fail;refine bodyPost_ret (zb2 rfl _ _ _) rfl ?_;exact⟨_,_,rfl,Sets.nil9 _ _,Sets.nil9 _ _,((Ext.refl _).alloc _).trans hE0⟩
theorem zgj (s:SetD) (dv:Value) (lo:Nat) (w:World) (hd:Strs w lo dv s.data) (hl:s.data.length≤1048576):
 Calls Tryz.prog 111 #[zch s dv] w (zcl (za8 s) w):=by
 obtain⟨nm,ty,cl,tt,da⟩:=s
 dsimp only at*;obtain⟨A,c,rfl,h1,h2,hrd⟩:=hd
 unfold maxLen at h2;obtain⟨i0,hi0,hz0,hz1,hz2⟩:=info_parts zg2
 go_enter Tryz.func111,Tryz.ntmps111;go_wp2_with fail
 go_loopw [3,4] (fun v i wr=>∃(k:Nat) (B:Option Addr) (d:Nat),k≤da.length∧i=.int .i64 k∧v=.slice B k d∧Own wr (w.heap.size+1) 99 5 B k d ((zds ⟨nm,ty,cl,tt,da⟩ k).flatMap za5)∧Ext (w.alloc (.cells #[S nm,.int .u16 ty,.int .u16 cl,.int .u32 tt,.slice A da.length c] 79)) wr) (fun _ i _=>da.length - (intOf i).toNat)
 case atStart=>exact⟨0,none,0,by omega,rfl,rfl,Own.nil _ _ _ _,Ext.refl _⟩
 case round=>
  obtain⟨k,B,d,hk,rfl,rfl,hown,hE⟩:=hrel
  obtain⟨wo,rfl⟩:∃wo:World,wo=wr:=⟨_,rfl⟩
  have hEw:Ext w wo:=((Ext.refl w).alloc _).trans hE
  obtain⟨bq,_,bqz⟩:=zb0 hE
  have b4':wo.cell? ⟨w.heap.size,4,none⟩=some (.slice A da.length c):=bq 4
  by_cases hlt:k<da.length
  ·have b0:wo.cell? ⟨w.heap.size,0,none⟩=some (S nm):=bq 0
   have b1:wo.cell? ⟨w.heap.size,1,none⟩=some (.int .u16 ty):=bq 1
   have b2:wo.cell? ⟨w.heap.size,2,none⟩=some (.int .u16 cl):=bq 2
   have b3:wo.cell? ⟨w.heap.size,3,none⟩=some (.int .u32 tt):=bq 3
   have b4:wo.cell? ⟨w.heap.size,4,none⟩=some (.slice A da.length c):=bq 4
   obtain⟨g,off,rfl,_,hgz,gc⟩:=hrd.2 (by omega)
   have hck:=(hEw.cell (p:=⟨g,off+k,none⟩) hgz).trans (gc k (S da[k]) (by simp[List.getElem?_eq_getElem hlt]))
   have HT:=Lib.hid (show zds ⟨nm,ty,cl,tt,da⟩ (k+1)=zds ⟨nm,ty,cl,tt,da⟩ k++[⟨nm,ty,cl,tt,da[k]⟩]by unfold zds;rw[zax da k hlt,List.map_append];rfl)
   generalize da[k]=y at*;have hki:(k:Int)<(da.length:Int):=by omega
   have hk0:(0:Int)≤(k:Int):=by omega
   have hwz:w.heap.size+1≤wo.heap.size:=bqz
   clear bq gc;go_wp2_with fail
   go_region_held3 (fun V=>V.cell? ⟨w.heap.size,0,none⟩=some (S nm)∧V.cell? ⟨w.heap.size,1,none⟩=some (.int .u16 ty)∧V.cell? ⟨w.heap.size,2,none⟩=some (.int .u16 cl)∧V.cell? ⟨w.heap.size,3,none⟩=some (.int .u32 tt)∧V.cell? ⟨w.heap.size,4,none⟩=some (.slice (some ⟨g,off,none⟩) da.length c)∧V.cell? ⟨g,off+k,none⟩=some (S y))
    (first|go_keep|(have hK:Below (w.heap.size+1) wo w5:=Below.trans (Below.mono (show Ext wo _ from xt) hwz) hb5;exact⟨(hK.cell (p:=⟨w.heap.size,0,none⟩) (Nat.lt_succ_self _)).trans b0,(hK.cell (p:=⟨w.heap.size,1,none⟩) (Nat.lt_succ_self _)).trans b1,(hK.cell (p:=⟨w.heap.size,2,none⟩) (Nat.lt_succ_self _)).trans b2,(hK.cell (p:=⟨w.heap.size,3,none⟩) (Nat.lt_succ_self _)).trans b3,(hK.cell (p:=⟨w.heap.size,4,none⟩) (Nat.lt_succ_self _)).trans b4,(hK.cell (p:=⟨g,off+k,none⟩) (Nat.lt_succ_of_lt hgz)).trans hck⟩))
    (first
     |(refine zel _ (by rfl) (.tmp 12) (.tmp 27) _ (by rfl) (w.heap.size+1) 99 i0 _ 5 40 Tryz.underlying40 hi0 hz0 hz1 hz2 rfl (by omega) B k d ((zds ⟨nm,ty,cl,tt,da⟩ k).flatMap za5) (by rfl) (by exact hown.ext xt) 0 _ 1 1 (za5 ⟨nm,ty,cl,tt,y⟩) (by rfl) (by exact(zaz _ _ (by simp) _ _ 1 5 rfl).drew) (zfz _) (by omega) (by omega) (by simp;omega) ?_;intro A5 c5 w5 hown5 hg5 hb5 hat5))
   have hE5:Ext (w.alloc (.cells #[S nm,.int .u16 ty,.int .u16 cl,.int .u32 tt,.slice (some ⟨g,off,none⟩) da.length c] 79)) w5:=Ext.then (lo:=w.heap.size+1) (hE.trans xt) hb5 (by simp)
   go_wp2_with fail;go_roundw
   case rel=>
    refine⟨k+1,A5,c5,by omega,by go_num,rfl,?_,hE5⟩
    rw[HT.out,List.flatMap_append];simpa using hown5
   case measure=>simp[intOf];omega
  ·obtain rfl:k=da.length:=by omega
   clear bq;go_wp2_with fail;go_ret;have hlz:(za8 ⟨nm,ty,cl,tt,da⟩).length=da.length:=by simp[za8]
   refine⟨B,d,?_,?_,hEw⟩
   ·simp[za8]
   ·have e:zds ⟨nm,ty,cl,tt,da⟩ da.length=za8 ⟨nm,ty,cl,tt,da⟩:=by unfold zds za8;rw[List.take_length]
    rw[e]at hown;have:=hown.lower (lo':=w.heap.size) (by omega)
    rw[hlz];exact this
def zrc (l:List RecD) (w:World) (e:Ending) (w':World):Prop:=
 (l.all zb4=true∧∃(R:Nat) (gv:Value),e=.returned (.tuple #[.pointer (some ⟨R,0,none⟩),.int .i64 0])∧w.heap.size≤R∧w'.heap[R]? =some (.cells #[gv] 67)∧OSets w' w.heap.size gv (zap l)∧Ext w w')∨
 (l.all zb4=false∧e=.returned (.tuple #[.pointer none,.int .i64 1])∧Ext w w')
theorem zzj (lo:Nat) (v:Value) (l:List RecD) (w:World) (h:Recs w lo v l) (hbd:zfi l):
 Calls Tryz.prog 22 #[v] w (zrc l w):=by
 have HG:=Lib.hid (fun W (hW:Ext w W)=>zzo lo v l W (h.ext hW) hbd)
 obtain⟨A,c,rfl,h1,h2,hrd⟩:=h
 unfold maxLen at h2;have hl4:=hbd.1
 have HBd:=Lib.hid hbd.2
 have HEnd:=Lib.hid (show(l.take l.length).all zb4=l.all zb4 by rw[List.take_length])
 have HNo:=Lib.hid (fun k (h:(l.take k).all zb4=false)=>zxx h)
 have HSp:=Lib.hid (fun k r (h:l[k]? =some r)=>zxy h)
 have H0:=Lib.hid (show(l.take 0).all zb4=true from rfl)
 go_enter Tryz.func22,Tryz.ntmps22;go_wp2_with fail
 go_loopw [2,3,4] (fun s2 s3 s4 wr=>∃k:Nat,k≤l.length∧s2=.pointer none∧s3=.int .i64 0∧s4=.int .i64 k∧(l.take k).all zb4=true∧Ext w wr) (fun _ _ s4 _=>l.length - (intOf s4).toNat)
 case atStart=>exact⟨0,by omega,rfl,rfl,rfl,H0.out,Ext.refl _⟩
 case round=>
  obtain⟨k,hk,rfl,rfl,rfl,hall,hE⟩:=hrel
  obtain⟨wo,rfl⟩:∃wo:World,wo=wr:=⟨_,rfl⟩
  by_cases hlt:k<l.length
  ·have hp:l[k]? =some l[k]:=List.getElem?_eq_getElem hlt
   have hbs:=HBd.out l[k] (List.getElem_mem hlt)
   have hS1:=HSp.out k _ hp
   rw[hall,Bool.true_and]at hS1;have HS1:=Lib.hid hS1
   obtain⟨b,off,rfl,_,hbz,hc⟩:=hrd.2 (by omega)
   obtain⟨c0,c1,c2,c3,c4⟩:=zdb hc k l[k] hp
   generalize l[k]=r at*;obtain⟨nm,ty,cl,tt,da⟩:=r
   dsimp only at*;rw[←hE.cell (p:=⟨b,_,none⟩) hbz]at c0 c1 c2 c3 c4
   have hbw:b<wo.heap.size:=Nat.lt_of_lt_of_le hbz hE.size
   have HM:=Lib.hid (fun W=>zc7 nm W (by omega))
   have HR:=Lib.hid (fun W=>zkc ty da W (by omega))
   have HOk:Hid (zb4 ⟨nm,ty,cl,tt,da⟩=(may nm&&rmay ty da)):=rfl
   have HNk:=Lib.hid (HNo.out (k+1))
   have HS4:=Lib.hid (show ∀V,Ext wo V→V.cell? ⟨b,off+k*5,none⟩=some (S nm)∧V.cell? ⟨b,off+k*5+1,none⟩=some (.int .u16 ty)∧V.cell? ⟨b,off+k*5+4,none⟩=some (S da)from fun V hV=>⟨(hV.cell (p:=⟨b,_,none⟩) hbw).trans c0,(hV.cell (p:=⟨b,_,none⟩) hbw).trans c1,(hV.cell (p:=⟨b,_,none⟩) hbw).trans c4⟩)
   clear hc hp hS1 hall hbs c0 c1 c2 c3 c4;have hki:(k:Int)<(l.length:Int):=by omega
   have hk0:(0:Int)≤(k:Int):=by omega
   go_upto_region 4 with fail
   go_cut [31] (fun s31 wx=>s31=.bool (!(may nm&&rmay ty da))∧Ext wo wx)
   case first=>
    rcases hm:may nm with _|_
    ·have Hm:=Lib.hid hm
     rw[hm]at HM;clear hm;refine wp_region_noPanic ?_;refine zac (S:=(fun V=>V.cell? ⟨b,off+k*5,none⟩=some (S nm)∧V.cell? ⟨b,off+k*5+1,none⟩=some (.int .u16 ty)∧V.cell? ⟨b,off+k*5+4,none⟩=some (S da))) (.take 0 (.take 1 (.take 2 (.take 3 (.take 4 (.run 5 (.take 6 (.take 7 (.take 8 (.take 9 (.take 10 (.take 11 (.take 12 (.take 13 (.take 14 (.take 15 (.take 16 (.take 17 (.take 18 (.take 19 (.take 20 (.done)))))))))))))))))))))) (by kernel_rfl) (by kernel_rfl) (fun _ _ _ _ _ h=>h) ((HS4.out _ (Ext.refl wo).drew)) ?_
     repeat((with_reducible refine za9 ?_);first
      |(refine zb1 (a':=?_) ⟨_,(HS4.out _ (Ext.refl wo).drew)⟩ (by rfl) rfl (by kernel_rfl) rfl ?_ ?_;rotate_left;(focus(intro V Q' hV hq;obtain⟨hV1,hV2,hV3⟩:=hV;(repeat(first|go_guarded|go_skip|go_step));(first|exact hq|exact wpList_nil hq))))
      |(refine zas (by rfl) (by rfl) ?_;(try simp only[ap])))
     refine za3 (by rfl) (fun K hK=>?_)
     go_simp;refine(HM.out _).mono ?_;rintro e wa ⟨rfl,hqwa⟩;have hEwa:Ext wo wa:=((Ext.refl wo).drew).trans hqwa
     clear hqwa;refine hK.out _ _ ?_ ?_
     ·exact(HS4.out _ hEwa)
     clear hK K
     (try simp only[ap])
     repeat((with_reducible refine za9 ?_);first
      |(refine zb1 (a':=?_) ⟨_,(HS4.out _ (Ext.refl wo).drew)⟩ (by rfl) rfl (by kernel_rfl) rfl ?_ ?_;rotate_left;(focus(intro V Q' hV hq;obtain⟨hV1,hV2,hV3⟩:=hV;(repeat(first|go_guarded|go_skip|go_step));(first|exact hq|exact wpList_nil hq))))
      |(refine zas (by rfl) (by rfl) ?_;(try simp only[ap])))
     refine zar ?_;refine NoPanic.normal ?_;go_wp2_with fail;go_meet;exact⟨by rw[Hm.out];rfl,hEwa⟩
    ·have Hm:=Lib.hid hm
     rw[hm]at HM;clear hm;refine wp_region_noPanic ?_;refine zac (S:=(fun V=>V.cell? ⟨b,off+k*5,none⟩=some (S nm)∧V.cell? ⟨b,off+k*5+1,none⟩=some (.int .u16 ty)∧V.cell? ⟨b,off+k*5+4,none⟩=some (S da))) (.take 0 (.take 1 (.take 2 (.take 3 (.take 4 (.run 5 (.take 6 (.take 7 (.take 8 (.take 9 (.take 10 (.take 11 (.take 12 (.take 13 (.take 14 (.take 15 (.take 16 (.take 17 (.run 18 (.take 19 (.take 20 (.done)))))))))))))))))))))) (by kernel_rfl) (by kernel_rfl) (fun _ _ _ _ _ h=>h) ((HS4.out _ (Ext.refl wo).drew)) ?_
     repeat((with_reducible refine za9 ?_);first
      |(refine zb1 (a':=?_) ⟨_,(HS4.out _ (Ext.refl wo).drew)⟩ (by rfl) rfl (by kernel_rfl) rfl ?_ ?_;rotate_left;(focus(intro V Q' hV hq;obtain⟨hV1,hV2,hV3⟩:=hV;(repeat(first|go_guarded|go_skip|go_step));(first|exact hq|exact wpList_nil hq)))))
     refine za3 (by rfl) (fun K hK=>?_)
     go_simp;refine(HM.out _).mono ?_;rintro e wa ⟨rfl,hqwa⟩;have hEwa:Ext wo wa:=((Ext.refl wo).drew).trans hqwa
     clear hqwa;refine hK.out _ _ ?_ ?_
     ·exact(HS4.out _ hEwa)
     clear hK K
     (try simp only[ap])
     repeat((with_reducible refine za9 ?_);first
      |(refine zb1 (a':=?_) ⟨_,(HS4.out _ (Ext.refl wo).drew)⟩ (by rfl) rfl (by kernel_rfl) rfl ?_ ?_;rotate_left;(focus(intro V Q' hV hq;obtain⟨hV1,hV2,hV3⟩:=hV;(repeat(first|go_guarded|go_skip|go_step));(first|exact hq|exact wpList_nil hq)))))
     refine za3 (by rfl) (fun K hK=>?_)
     go_simp;refine(HR.out _).mono ?_;rintro e wb ⟨rfl,hqwb⟩;have hEwb:Ext wo wb:=(hEwa).trans hqwb
     clear hqwb;refine hK.out _ _ ?_ ?_
     ·exact(HS4.out _ hEwb)
     clear hK K
     (try simp only[ap])
     repeat((with_reducible refine za9 ?_);first
      |(refine zb1 (a':=?_) ⟨_,(HS4.out _ (Ext.refl wo).drew)⟩ (by rfl) rfl (by kernel_rfl) rfl ?_ ?_;rotate_left;(focus(intro V Q' hV hq;obtain⟨hV1,hV2,hV3⟩:=hV;(repeat(first|go_guarded|go_skip|go_step));(first|exact hq|exact wpList_nil hq)))))
     refine zar ?_;refine NoPanic.normal ?_;go_wp2_with fail;go_meet;exact⟨by rw[Hm.out];simp,hEwb⟩
   case rest=>
    obtain⟨rfl,hEx⟩:=hcut
    obtain⟨wx,rfl⟩:∃wx:World,wx=wc:=⟨_,rfl⟩
    rcases hB:(may nm&&rmay ty da)with _|_
    ·rw[hB]at HOk;clear hB;go_wp2_with fail
     go_ret2
     exact .inr ⟨HNk.out (HS1.out.trans HOk.out),rfl,hE.trans hEx⟩
    ·rw[hB]at HOk;clear hB;go_wp2_with fail;go_roundw
     case rel=>exact⟨k+1,by omega,rfl,rfl,by go_num,HS1.out.trans HOk.out,hE.trans hEx⟩
     case measure=>simp[intOf];omega
  ·obtain rfl:k=l.length:=by omega
   rw[HEnd.out]at hall;have HA:=Lib.hid hall
   clear hall;have h65:¬(65535:Int)<(l.length:Int):=by omega
   go_wp2_with fail;refine(HG.out _ hE).mono ?_;rintro e w1 ⟨gv,rfl,ho,hE1⟩;have HO:=Lib.hid ho
   obtain⟨qs,gA,gc,_,rfl,_,_⟩:=ho
   go_wp2_with fail
   go_ret2
   exact .inl ⟨HA.out,_,_,rfl,(hE.trans hE1).size,heap_alloc_new _ _,((HO.out.lower hE.size).ext ((Ext.refl _).alloc _)),(hE.trans hE1).alloc _⟩
theorem zhm (l:List RecD):∀u∈l.flatMap za5,u.oneCell'=true:=fun u hu=>by
 obtain⟨r,_,hu⟩:=List.mem_flatMap.1 hu
 exact zfz r u hu
theorem zu7 (R:Nat) (v:Value) (L:List SetD) (w:World) (hR:w.cell? ⟨R,0,none⟩=some v) (h:Sets w 0 v L) (h1:L.length≤1048576) (h2:∀s∈L,s.data.length≤1048576) (h3:(L.flatMap za8).length≤1048576):
 Calls Tryz.prog 24 #[.pointer (some ⟨R,0,none⟩)] w (zcl (L.flatMap za8) w):=by
 have HSq:=Lib.hid (fun A n c V=>zjl A n c V)
 have HC:=Lib.hid (fun V B (hV:Ext w V) (hB:V.cell? ⟨B,0,none⟩=some v)=>zfo v L w V B h hV hB h1 h2 h3)
 obtain⟨ps,A,c,hl,rfl,-,-,-,-⟩:=h
 unfold zcl at HC;generalize L.flatMap za8=rs at*;go_enter Tryz.func24,Tryz.ntmps24;go_wp2_with fail;refine(HSq.out _ _ _ _).mono ?_;rintro e Z ⟨rfl,hZ⟩;have rB:Z.cell? ⟨w.heap.size,0,none⟩=some (.slice A ps.length c):=by rw[hZ];exact za0 (heap_alloc_new _ _) rfl
 have hEZ:Ext w Z:=by rw[hZ];exact(Ext.refl _).alloc _
 have HC1:=Lib.hid (HC.out _ _ hEZ rB)
 clear hZ;go_wp2_with fail;refine HC1.out.mono ?_;rintro e Y ⟨A1,c1,rfl,ho1,hEY⟩;go_wp2_with fail;go_ret;exact⟨A1,c1,rfl,ho1.lower hEZ.size,hEZ.trans hEY⟩
theorem zoe (w:World):Calls Tryz.prog 24 #[.pointer none] w fun e w'=>e=.returned (.slice none 0 0)∧w=w':=by
 go_enter Tryz.func24,Tryz.ntmps24;go_wp2_with fail;go_ret;exact⟨rfl,rfl⟩
theorem zpg (d:List UInt8) (w:World):Calls Tryz.prog 18 #[.pointer none,S d] w fun e w'=>e=.returned (S [])∧w=w':=by
 go_enter Tryz.func18,Tryz.ntmps18;go_wp2_with fail;go_ret;exact⟨rfl,rfl⟩
theorem zu4 (R lo:Nat) (v:Value) (l:List SetD) (n:List UInt8) (cls:Int) (w:World) (hR:w.cell? ⟨R,0,none⟩=some v) (h:Sets w lo v l) (hbd:zdw l) (hn:n.length≤1048576):
 Calls Tryz.prog 112 #[.pointer (some ⟨R,0,none⟩),S n,.int .u16 cls] w fun e w'=>e=.returned (.bool (zb8 l n cls))∧Ext w w':=by
 obtain⟨ps,A,c,hl,rfl,h1,h2,hrd,hst⟩:=h
 unfold maxLen at h2;have hlen:ps.length=l.length:=by rw[←hl];simp
 have Hl:=Lib.hid hl
 have Hlen:=Lib.hid hlen
 have HEnd:=Lib.hid (show zb8 (l.take ps.length) n cls=zb8 l n cls by rw[hlen,List.take_length])
 have HIn:=Lib.hid (fun k (h:zb8 (l.take k) n cls=true)=>ztb h)
 have HSp:=Lib.hid (fun k s (h:l[k]? =some s)=>zom (n:=n) (cls:=cls) h)
 have H0:=Lib.hid (show zb8 (l.take 0) n cls=false from rfl)
 generalize hT:zb8 l n cls=T at*;clear hl hlen hT;go_enter Tryz.func112,Tryz.ntmps112;go_wp2_with fail
 go_loopw [7] (fun s14 wr=>∃k:Nat,k≤ps.length∧s14=.int .i64 k∧zb8 (l.take k) n cls=false∧Ext w wr) (fun s14 _=>ps.length - (intOf s14).toNat)
 case atStart=>exact⟨0,by omega,rfl,H0.out,Ext.refl _⟩
 case round=>
  obtain⟨k,hk,rfl,hno,hE⟩:=hrel
  obtain⟨wo,rfl⟩:∃wo:World,wo=wr:=⟨_,rfl⟩
  have hRz:R<w.heap.size:=by
   rcases Nat.lt_or_ge R w.heap.size with h|h
   ·exact h
   ·simp[World.cell?,Array.getElem?_eq_none h]at hR
  have hR2:=(hE.cell (p:=⟨R,0,none⟩) hRz).trans hR
  by_cases hlt:k<ps.length
  ·have hp:ps[k]? =some ps[k]:=List.getElem?_eq_getElem hlt
   have hpl:l[k]? =some ps[k].1:=by rw[←Hl.out,List.getElem?_map,hp];rfl
   have hbs:=hbd ps[k].1 (List.mem_of_getElem? hpl)
   have hstr:=hst ps[k] (List.getElem_mem hlt)
   have hS1:=HSp.out k _ hpl
   rw[hno,Bool.false_or]at hS1;generalize ps[k]=p at*;obtain⟨b,off,rfl,_,hbz,hc⟩:=hrd.2 (by omega)
   obtain⟨c0,c1,c2,c3,c4⟩:=zb9 hc k p hp
   rw[←hE.cell (p:=⟨b,_,none⟩) hbz]at c0 c1 c2 c3 c4
   have hnm:p.1.name.length≤1048576:=by omega
   obtain⟨⟨nm,ty,cl,tt,da⟩,d⟩:=p
   dsimp only at*;obtain⟨dA,dc,rfl⟩:=hstr.shape
   have HW:=Lib.hid (fun W=>zod nm n W (by omega) hn)
   have HS1:=Lib.hid hS1
   have HInk:=Lib.hid (HIn.out (k+1))
   have HE:=Lib.hid hE
   clear hc hp hpl hS1 hno hbs;have hki:(k:Int)<(ps.length:Int):=by omega
   have hk0:(0:Int)≤(k:Int):=by omega
   by_cases hcl:cl=cls
   ·subst hcl;have f1:(cl==cl)=true:=by simp
    have HS2:=Lib.hid (show zb8 (l.take (k+1)) n cl=withinN nm n by rw[HS1.out,f1,Bool.true_and])
    go_wp2_with fail;refine(HW.out _).mono ?_;rintro e w1 ⟨rfl,hE1⟩;rcases hwi:withinN nm n with _|_
    ·have HS3:=Lib.hid (HS2.out.trans hwi)
     clear hwi;go_wp2_with fail;go_roundw
     case rel=>exact⟨k+1,by omega,by go_num,HS3.out,HE.out.trans hE1⟩
     case measure=>simp[intOf];omega
    ·have HS3:=Lib.hid (HInk.out (HS2.out.trans hwi))
     clear hwi;go_wp2_with fail;go_ret;exact⟨zb3 HS3.out.symm,HE.out.trans hE1⟩
   ·have f1:(cl==cls)=false:=by rw[beq_eq_false_iff_ne];exact hcl
    have HS2:=Lib.hid (show zb8 (l.take (k+1)) n cls=false by rw[HS1.out,f1,Bool.false_and])
    clear hcl;go_wp2_with fail;go_roundw
    case rel=>exact⟨k+1,by omega,by go_num,HS2.out,HE.out⟩
    case measure=>simp[intOf];omega
  ·obtain rfl:k=ps.length:=by omega
   rw[HEnd.out]at hno;have HNo:=Lib.hid hno
   clear hno;go_wp2_with fail;go_ret;exact⟨zb3 HNo.out.symm,hE⟩
def zvn (h:HdD) (q:Value) (he:Bool) (ed:EdD) (R:ResR) (w:World) (e:Ending) (w':World):Prop:=
 ∃va vu,e=.returned (.agg (za4 {h with code:=R.code} q va vu (.slice none 0 0) he ed (.slice none 0 0)))∧Recs w' 0 va (R.ans.flatMap za8)∧Recs w' 0 vu (R.auth.flatMap za8)∧Ext w w'
theorem Own.end30 {w:World} {lo n c g:Nat} {A:Option Addr} {xs:List RecD} (h:Own w lo 99 5 A n c (xs.flatMap za5)) (hn:n=xs.length) (hg:g<lo) (cs:Array Value):Recs (w.setRow g cs) 0 (.slice A n c) xs:=by
 subst hn;have hk:=h.kept (zag w g cs) (.inr fun he=>by have:=(h.blk _ he).1;omega)
 exact⟨A,c,rfl,h.cap.1,h.cap.2,hk.rd.lower (Nat.zero_le _)⟩
theorem zfc (w:World):Recs w 0 (.slice none 0 0) []:=zbm w
theorem zCd (L:List SetD) (h:∀s∈L,s.data.length≤65536):(L.flatMap za8).length≤L.length*65536:=by
 induction L with
 |nil=>simp
 |cons s L ih=>
  have h1:=h s (by simp)
  have h2:=ih (fun x hx=>h x (by simp[hx]))
  have h3:(za8 s).length=s.data.length:=by unfold za8;simp
  rw[List.flatMap_cons,List.length_append,h3,List.length_cons,Nat.add_mul];omega
theorem zx7 (R lo:Nat) (v:Value) (L:List SetD) (h:HdD) (qb qo qc:Nat) (he:Bool) (ed:EdD) (n:List UInt8) (ty cls:Int) (w:World) (hR:w.cell? ⟨R,0,none⟩=some v) (hS:Sets w lo v L) (hbd:zdw L) (hn:n.length≤1048576)
 (hqz:qb<w.heap.size) (hq0:w.cell? ⟨qb,qo,none⟩=some (S n)) (hq1:w.cell? ⟨qb,qo+1,none⟩=some (.int .u16 ty)) (hq2:w.cell? ⟨qb,qo+2,none⟩=some (.int .u16 cls)):
 Calls Tryz.prog 55 #[.pointer (some ⟨R,0,none⟩),.agg (za4 {h with code:=0} (.slice (some ⟨qb,qo,none⟩) 1 qc) (.slice none 0 0) (.slice none 0 0) (.slice none 0 0) he ed (.slice none 0 0))] w (zvn h (.slice (some ⟨qb,qo,none⟩) 1 qc) he ed (zfe L n ty cls) w):=by
 unfold zvn zfe;have hRw:R<w.heap.size:=by
  rcases Nat.lt_or_ge R w.heap.size with h|h
  ·exact h
  ·simp[World.cell?,Array.getElem?_eq_none h]at hR
 have HF:=Lib.hid (fun V (hV:Ext w V)=>zxd lo n ty cls v L V (hS.ext hV) hbd hn)
 have HTh:=Lib.hid (fun m V (hV:Ext w V) (hm:m.length≤1048576)=>zu4 R lo v L m cls V ((hV.cell (p:=⟨R,0,none⟩) hRw).trans hR) (hS.ext hV) hbd hm)
 obtain⟨ps0,sA,sc,hl0,rfl,g1,g2,hrd0,hst0⟩:=hS
 have HSo0:=Lib.hid (fun m V (hV:Ext w V) (hm:m.length≤1048576)=>zx5 lo ps0 sA sc L m cls V hl0 g1 g2 (hrd0.ext hV) (fun p hp=>(hst0 p hp).ext hV) hbd hm)
 have HSt0:=Lib.hid hst0
 obtain⟨sn,hsn⟩:∃sn,sn=ps0.length:=⟨_,rfl⟩
 rw[←hsn]at hR HF HSo0;have HIn:=Lib.hid (zl2 L n ty cls)
 have HHe:=Lib.hid (zmk n ty cls L)
 have HBd:=Lib.hid hbd
 clear hsn hrd0 g1 g2 hl0 hst0;generalize followOf n ty cls L=FR at*;obtain⟨X1,hX1⟩:∃X1,X1=w.alloc (.cells (za4 {h with code:=0} (.slice (some ⟨qb,qo,none⟩) 1 qc) (.slice none 0 0) (.slice none 0 0) (.slice none 0 0) he ed (.slice none 0 0)) 45):=⟨_,rfl⟩
 obtain⟨X0,hX0⟩:∃X0,X0=X1.alloc (.cells #[.int .u16 0,.bool false,.int .u8 0,.bool false,.bool false,.bool false,.bool false,.bool false,.bool false,.bool false,.int .u8 0,.slice none 0 0,.slice none 0 0,.slice none 0 0,.slice none 0 0,.bool false,.int .u16 0,.int .u8 0,.int .u8 0,.int .u16 0,.slice none 0 0] 45):=⟨_,rfl⟩
 obtain⟨b3,hb3⟩:∃b3,b3=w.heap.size:=⟨_,rfl⟩
 obtain⟨b4,hb4⟩:∃b4,b4=w.heap.size+1:=⟨_,rfl⟩
 have t3:X1.heap[b3]? =some (.cells (za4 {h with code:=0} (.slice (some ⟨qb,qo,none⟩) 1 qc) (.slice none 0 0) (.slice none 0 0) (.slice none 0 0) he ed (.slice none 0 0)) 45):=by rw[hX1,hb3];exact heap_alloc_new _ _
 have r4:X0.heap[b4]? =some (.cells #[.int .u16 0,.bool false,.int .u8 0,.bool false,.bool false,.bool false,.bool false,.bool false,.bool false,.bool false,.int .u8 0,.slice none 0 0,.slice none 0 0,.slice none 0 0,.slice none 0 0,.bool false,.int .u16 0,.int .u8 0,.int .u8 0,.int .u16 0,.slice none 0 0] 45):=by
  have h1:=heap_alloc_new X1 (.cells #[.int .u16 0,.bool false,.int .u8 0,.bool false,.bool false,.bool false,.bool false,.bool false,.bool false,.bool false,.int .u8 0,.slice none 0 0,.slice none 0 0,.slice none 0 0,.slice none 0 0,.bool false,.int .u16 0,.int .u8 0,.int .u8 0,.int .u16 0,.slice none 0 0] 45)
  rw[show X1.heap.size=b4 by rw[hX1,hb4];simp,←hX0]at h1
  exact h1
 have hE10:Ext X1 X0:=by rw[hX0];exact(Ext.refl _).alloc _
 have hE0:Ext w X0:=Ext.trans (by rw[hX1];exact(Ext.refl _).alloc _) hE10
 have r3:=(hE10.block _ (Array.getElem?_eq_some_iff.1 t3).1).trans t3
 have hb34:b3<b4:=by omega
 have hwb3:w.heap.size≤b3:=by omega
 go_enter Tryz.func55,Tryz.ntmps55;go_upto_region 1 with fail
 rw[←hX1,←hX0,←hb4,←hb3];clear hX0 hX1 hb4 hb3 t3 hE10;have z11:X0.cell? ⟨b3,11,none⟩=some (.slice (some ⟨qb,qo,none⟩) 1 qc):=za0 (j:=11) r3 rfl
 have p0:=(hE0.cell (p:=⟨qb,qo,none⟩) hqz).trans hq0
 have p1:=(hE0.cell (p:=⟨qb,qo+1,none⟩) hqz).trans hq1
 have p2:=(hE0.cell (p:=⟨qb,qo+2,none⟩) hqz).trans hq2
 go_upto_region 2 with fail
 obtain⟨X2,hX2⟩:∃X2,X2=X0.alloc (.cells #[S n,.int .u16 ty,.int .u16 cls] 32):=⟨_,rfl⟩
 obtain⟨b5,hb5⟩:∃b5,b5=X0.heap.size:=⟨_,rfl⟩
 have r5:X2.heap[b5]? =some (.cells #[S n,.int .u16 ty,.int .u16 cls] 32):=by rw[hX2,hb5];exact heap_alloc_new _ _
 have hE02:Ext X0 X2:=by rw[hX2];exact(Ext.refl _).alloc _
 have hb45:b4<b5:=by rw[hb5];exact(Array.getElem?_eq_some_iff.1 r4).1
 have r32:=(hE02.block _ (Array.getElem?_eq_some_iff.1 r3).1).trans r3
 have r42:=(hE02.block _ (Array.getElem?_eq_some_iff.1 r4).1).trans r4
 have hE2:Ext w X2:=hE0.trans hE02
 rw[←hX2,←hb5];clear hX2 hb5 z11 p0 p1 p2 r3 r4 hE02 hq0 hq1 hq2;have HS1:=Lib.hid (fun V (hV:Ext X2 V)=>(show V.cell? ⟨b5,0,none⟩=some (S n)∧V.cell? ⟨b5,1,none⟩=some (.int .u16 ty)∧V.cell? ⟨b5,2,none⟩=some (.int .u16 cls)∧V.cell? ⟨R,0,none⟩=some (.slice sA sn sc)from by
  have r:=(hV.block _ (Array.getElem?_eq_some_iff.1 r5).1).trans r5
  exact⟨za0 r rfl,za0 r rfl,za0 r rfl,((hE2.trans hV).cell (p:=⟨R,0,none⟩) hRw).trans hR⟩))
 have hX2s:b5<X2.heap.size:=(Array.getElem?_eq_some_iff.1 r5).1
 refine wp_region_noPanic ?_;refine zac (S:=(fun V=>V.cell? ⟨b5,0,none⟩=some (S n)∧V.cell? ⟨b5,1,none⟩=some (.int .u16 ty)∧V.cell? ⟨b5,2,none⟩=some (.int .u16 cls)∧V.cell? ⟨R,0,none⟩=some (.slice sA sn sc))) (.take 0 (.take 1 (.take 2 (.take 3 (.take 4 (.run 5 (.take 6 (.take 7 (.take 8 (.take 9 (.take 10 (.take 11 (.take 12 (.take 13 (.take 14 (.done)))))))))))))))) (by kernel_rfl) (by kernel_rfl) (fun _ _ _ _ _ h=>h) (HS1.out _ (Ext.refl X2).drew) ?_
 repeat((with_reducible refine za9 ?_);first
  |(refine zb1 (a':=?_) ⟨_,(HS1.out _ (Ext.refl X2).drew)⟩ (by rfl) rfl (by kernel_rfl) rfl ?_ ?_;rotate_left;(focus(intro V Q' hV hq;obtain⟨hV1,hV2,hV3,hV4⟩:=hV;(repeat(first|go_guarded|go_skip|go_step));(first|exact hq|exact wpList_nil hq))))
  |(refine za2 (v:=?_) (by rfl) (by rfl) ?_ ?_;rotate_left;(focus(intro V hV;obtain⟨hV1,hV2,hV3,hV4⟩:=hV;(go_simp<;>with_reducible rfl)));(try simp only[ap])))
 refine za3 (by rfl) (fun K hK=>?_)
 go_simp;refine(HF.out _ (hE2.trans (Ext.refl X2).drew)).mono ?_;rintro e w1 ⟨vp,vf,rfl,hop,hof,hE1'⟩;have hE1:Ext X2 w1:=Ext.trans (Ext.refl X2).drew hE1'
 obtain⟨ps,pA,pc,hpe,rfl,hpl1,hpl2,hprd,hpst⟩:=hop
 obtain⟨os,oA,oc,hoe,rfl,hol1,hol2,hord,host⟩:=hof
 refine hK.out _ _ (HS1.out _ hE1) ?_;clear hK K
 (try simp only[ap])
 repeat((with_reducible refine za9 ?_);first
  |(refine zb1 (a':=?_) ⟨_,(HS1.out _ (Ext.refl X2).drew)⟩ (by rfl) rfl (by kernel_rfl) rfl ?_ ?_;rotate_left;(focus(intro V Q' hV hq;obtain⟨hV1,hV2,hV3,hV4⟩:=hV;(repeat(first|go_guarded|go_skip|go_step));(first|exact hq|exact wpList_nil hq))))
  |(refine za2 (v:=?_) (by rfl) (by rfl) ?_ ?_;rotate_left;(focus(intro V hV;obtain⟨hV1,hV2,hV3,hV4⟩:=hV;(go_simp<;>with_reducible rfl)));(try simp only[ap])))
 refine zar ?_;refine NoPanic.normal ?_;have hE1w:Ext w w1:=hE2.trans hE1
 have r31:=(hE1.block _ (Array.getElem?_eq_some_iff.1 r32).1).trans r32
 have r41:=(hE1.block _ (Array.getElem?_eq_some_iff.1 r42).1).trans r42
 have r51:=(hE1.block _ (Array.getElem?_eq_some_iff.1 r5).1).trans r5
 have h1s:=hE1.size
 clear hE1' r32 r42 r5;by_cases he0:FR.err=0
 rotate_left
 ·have hei:((FR.err:Int)!=0)=true:=by simpa using he0
  have HR:=Lib.hid (show zcp L cls FR=⟨2,[],[]⟩from if_neg he0)
  clear he0;have c10:w1.cell? ⟨b3,10,none⟩=some (.int .u8 0):=za0 (j:=10) r31 rfl
  have f10:=zab (j:=10) r31
  go_upto_region 5 with fail
  have r3x:(w1.setCell ⟨b3,10,none⟩ (.int .u8 2)).heap[b3]? =some (.cells (za4 {h with code:=2} (.slice (some ⟨qb,qo,none⟩) 1 qc) (.slice none 0 0) (.slice none 0 0) (.slice none 0 0) he ed (.slice none 0 0)) 45):=za7 r31 10 _
  have r4x:=(Below.heap_setCell w1 ⟨b3,10,none⟩ (.int .u8 2) b4 (by dsimp only;omega)).trans r41
  have hEx:Ext w (w1.setCell ⟨b3,10,none⟩ (.int .u8 2)):=hE1w.setCell (by dsimp only;omega) _
  obtain⟨V,hV⟩:∃V,V=w1.setCell ⟨b3,10,none⟩ (.int .u8 2):=⟨_,rfl⟩
  rw[←hV]at r3x r4x hEx ⊢;clear hV c10 f10;go_upto_region 5 with fail
  refine wp_region_lit ?_;refine zaf (by rfl) 45 (.tmp 3) rfl b3 rfl _ (za4 {h with code:=2} (.slice (some ⟨qb,qo,none⟩) 1 qc) (.slice none 0 0) (.slice none 0 0) (.slice none 0 0) he ed (.slice none 0 0)) _ _ r3x Tryz.underlying45 rfl (by kernel_rfl) ?_
  refine Go.wpList_store_rowTo rfl 45 (.tmp 4) (.tmp 33) rfl rfl b4 (za4 {h with code:=2} (.slice (some ⟨qb,qo,none⟩) 1 qc) (.slice none 0 0) (.slice none 0 0) (.slice none 0 0) he ed (.slice none 0 0)) rfl rfl 45 _ r4x (by kernel_rfl) rfl (by kernel_rfl) ?_
  repeat go_step
  (try simp only[Exit.inBlock,Exit.then])
  refine bodyPost_ret (results_cell_row rfl _ _ b4 _ _ _ _ rfl (setRow_heap V b4 _ (za4 {h with code:=2} (.slice (some ⟨qb,qo,none⟩) 1 qc) (.slice none 0 0) (.slice none 0 0) (.slice none 0 0) he ed (.slice none 0 0)) _ _ r4x) Tryz.underlying45 rfl (by kernel_rfl)) rfl ?_
  have gr:=zag V b4 (za4 {h with code:=2} (.slice (some ⟨qb,qo,none⟩) 1 qc) (.slice none 0 0) (.slice none 0 0) (.slice none 0 0) he ed (.slice none 0 0))
  exact⟨(.slice none 0 0),(.slice none 0 0),by rw[HR.out],by rw[HR.out];exact zfc _,by rw[HR.out];exact zfc _,Below.grown hEx gr hEx.size (fun k hk=>by injection hk with hk;omega)⟩
 have hei:((FR.err:Int)!=0)=false:=by rw[he0];rfl
 have HFe:=Lib.hid he0
 clear he0;have HLn:=Lib.hid (And.intro (show ps.length=FR.path.length by rw[←hpe,List.length_map]) (show os.length=FR.fin.length by rw[←hoe,List.length_map]))
 have HPe:=Lib.hid hpe
 have HOe:=Lib.hid hoe
 have hp8:ps.length≤8:=by rw[HLn.out.1];exact HIn.out.len
 have ho1:os.length≤1:=by rw[HLn.out.2];exact HIn.out.one
 have HPb:=Lib.hid (fun p (hp:p∈ps)=>(HBd.out p.1 (HIn.out.path p.1 (by rw[←hpe];exact List.mem_map_of_mem hp))))
 have HOb:=Lib.hid (fun p (hp:p∈os)=>(HBd.out p.1 (HIn.out.fin p.1 (by rw[←hoe];exact List.mem_map_of_mem hp))))
 have HTl:=Lib.hid (fun k=>show((FR.path.take k).flatMap za8).length≤524288 by
  have h1:=zCd (FR.path.take k) (fun s hs=>(HBd.out s (HIn.out.path s (List.mem_of_mem_take hs))).2.1)
  have h2:(FR.path.take k).length≤8:=(by rw[List.length_take];have:=HIn.out.len;omega)
  exact Nat.le_trans h1 (Nat.mul_le_mul_right 65536 h2))
 clear hpe hoe;obtain⟨Z6,hZ6⟩:∃Z6,Z6=w1.alloc (.cells (za4 {h with code:=0} (.slice (some ⟨qb,qo,none⟩) 1 qc) (.slice none 0 0) (.slice none 0 0) (.slice none 0 0) he ed (.slice none 0 0)) 45):=⟨_,rfl⟩
 obtain⟨b10,hb10⟩:∃b10,b10=w1.heap.size:=⟨_,rfl⟩
 go_upto_region 6 with fail
 go_cut [10] (fun s10 wx=>s10=.pointer (some ⟨b10,0,none⟩)∧Z6=wx)
 case first=>
  as_aux_lemma=>
  have h21:(za4 {h with code:=0} (.slice (some ⟨qb,qo,none⟩) 1 qc) (.slice none 0 0) (.slice none 0 0) (.slice none 0 0) he ed (.slice none 0 0)).all (·.oneCell')=true:=by simp[Value.oneCell']
  refine wp_region_lit ?_;refine zaf (by rfl) 45 (.tmp 3) rfl b3 rfl 45 (za4 {h with code:=0} (.slice (some ⟨qb,qo,none⟩) 1 qc) (.slice none 0 0) (.slice none 0 0) (.slice none 0 0) he ed (.slice none 0 0)) _ _ r31 Tryz.underlying45 rfl (by kernel_rfl) ?_
  refine Go.Great.wpList_allocTo rfl (some 10) rfl (.pointer (some ⟨w1.heap.size,0,none⟩)) (.cells #[.int .u16 0,.bool false,.int .u8 0,.bool false,.bool false,.bool false,.bool false,.bool false,.bool false,.bool false,.int .u8 0,.slice none 0 0,.slice none 0 0,.slice none 0 0,.slice none 0 0,.bool false,.int .u16 0,.int .u8 0,.int .u8 0,.int .u16 0,.slice none 0 0] 45) (by kernel_rfl) ?_
  refine Go.wpList_store_rowTo rfl 45 (.tmp 10) (.tmp 34) rfl rfl w1.heap.size (za4 {h with code:=0} (.slice (some ⟨qb,qo,none⟩) 1 qc) (.slice none 0 0) (.slice none 0 0) (.slice none 0 0) he ed (.slice none 0 0)) rfl rfl 45 #[.int .u16 0,.bool false,.int .u8 0,.bool false,.bool false,.bool false,.bool false,.bool false,.bool false,.bool false,.int .u8 0,.slice none 0 0,.slice none 0 0,.slice none 0 0,.slice none 0 0,.bool false,.int .u16 0,.int .u8 0,.int .u8 0,.int .u16 0,.slice none 0 0] (heap_alloc_new _ _) (by kernel_rfl) rfl h21 ?_
  rw[zkt w1 #[.int .u16 0,.bool false,.int .u8 0,.bool false,.bool false,.bool false,.bool false,.bool false,.bool false,.bool false,.int .u8 0,.slice none 0 0,.slice none 0 0,.slice none 0 0,.slice none 0 0,.bool false,.int .u16 0,.int .u8 0,.int .u8 0,.int .u16 0,.slice none 0 0] (za4 {h with code:=0} (.slice (some ⟨qb,qo,none⟩) 1 qc) (.slice none 0 0) (.slice none 0 0) (.slice none 0 0) he ed (.slice none 0 0)) 45 w1.heap.size rfl]
  refine wpList_nil ?_;go_wp2_with fail;go_meet;exact⟨by rw[hb10],hZ6⟩
 case rest=>
 obtain⟨rfl,rfl⟩:=hcut
 have r10:Z6.heap[b10]? =some (.cells (za4 {h with code:=0} (.slice (some ⟨qb,qo,none⟩) 1 qc) (.slice none 0 0) (.slice none 0 0) (.slice none 0 0) he ed (.slice none 0 0)) 45):=by rw[hZ6,hb10];exact heap_alloc_new _ _
 have hE16:Ext w1 Z6:=by rw[hZ6];exact(Ext.refl _).alloc _
 have hb5x:b5<b10:=by rw[hb10];omega
 have hb1x:w1.heap.size≤b10:=by omega
 have hw1b:∀k,k<w1.heap.size→k≠b10:=fun k hk=>by omega
 clear hZ6 hb10;obtain⟨i0,hi0,hz0,hz1,hz2⟩:=info_parts zg2
 go_wp2_with fail
 go_loopw [11] (fun s11 wr=>∃(k m:Nat) (B:Option Addr) (d:Nat) (xs:List RecD),k≤ps.length∧s11=.int .i64 k∧Hid (m=xs.length)∧Hid (xs=(FR.path.take k).flatMap za8)∧wr.heap[b10]? =some (.cells (za4 {h with code:=0} (.slice (some ⟨qb,qo,none⟩) 1 qc) (.slice B m d) (.slice none 0 0) (.slice none 0 0) he ed (.slice none 0 0)) 45)∧Own wr (b10+1) 99 5 B m d (xs.flatMap za5)∧Ext w1 wr) (fun s11 _=>ps.length - (intOf s11).toNat)
 case atStart=>exact⟨0,0,none,0,[],by omega,rfl,rfl,rfl,r10,Own.nil _ _ _ _,hE16⟩
 case round=>
  obtain⟨k,m,B,d,xs,hk,rfl,hm,hxs,r10,hown,hE⟩:=hrel
  obtain⟨wo,rfl⟩:∃wo:World,wo=wr:=⟨_,rfl⟩
  by_cases hlt:k<ps.length
  ·have hp:ps[k]? =some ps[k]:=List.getElem?_eq_getElem hlt
   have hbs:=HPb.out ps[k] (List.getElem_mem hlt)
   have hstr:=hpst ps[k] (List.getElem_mem hlt)
   have HPK:=Lib.hid hp
   have HPm:=Lib.hid (show(ps.map Prod.fst)[k]? =some ps[k].1 by rw[List.getElem?_map,hp];rfl)
   generalize ps[k]=p at*;obtain⟨b,off,rfl,_,hbz,hc⟩:=hprd.2 (by omega)
   have hcs:=zb9 hc k p hp
   obtain⟨s,dv⟩:=p
   obtain⟨nm,sty,scl,stt,da⟩:=s
   dsimp only at*;obtain⟨dA,dc,rfl⟩:=hstr.shape
   obtain⟨c0,c1,c2,c3,c4⟩:=hcs
   have HCs:=Lib.hid (fun V (hV:Ext w1 V)=>(show V.cell? ⟨b,off+k*5,none⟩=some (S nm)∧V.cell? ⟨b,off+k*5+1,none⟩=some (.int .u16 sty)∧V.cell? ⟨b,off+k*5+2,none⟩=some (.int .u16 scl)∧V.cell? ⟨b,off+k*5+3,none⟩=some (.int .u32 stt)∧V.cell? ⟨b,off+k*5+4,none⟩=some (.slice dA da.length dc)from
    ⟨(hV.cell (p:=⟨b,_,none⟩) hbz).trans c0,(hV.cell (p:=⟨b,_,none⟩) hbz).trans c1,(hV.cell (p:=⟨b,_,none⟩) hbz).trans c2,(hV.cell (p:=⟨b,_,none⟩) hbz).trans c3,(hV.cell (p:=⟨b,_,none⟩) hbz).trans c4⟩))
   have HRec:=Lib.hid (fun V (hV:Ext w1 V)=>zgj ⟨nm,sty,scl,stt,da⟩ (.slice dA da.length dc) 0 V (hstr.ext hV) (by have:=hbs.2.1;dsimp only at this ⊢;omega))
   have hnl:(za8 ⟨nm,sty,scl,stt,da⟩).length≤65536:=by
    have h3:(za8 ⟨nm,sty,scl,stt,da⟩).length=da.length:=by unfold za8;simp
    rw[h3];exact hbs.2.1
   unfold zcl at HRec;obtain⟨news,hnews⟩:∃news,news=za8 ⟨nm,sty,scl,stt,da⟩:=⟨_,rfl⟩
   have HNw:=Lib.hid hnews
   rw[←hnews]at HRec hnl;have hm1:m≤524288:=by rw[hm.out,hxs.out];exact HTl.out _
   have hzo:w1.heap.size≤wo.heap.size:=hE.size
   have hb10o:b10<wo.heap.size:=(Array.getElem?_eq_some_iff.1 r10).1
   clear c0 c1 c2 c3 c4 hc hp hnews hstr hbs;have hki:(k:Int)<(ps.length:Int):=by omega
   go_upto_region 10 with fail
   refine wp_region_noPanic ?_;refine zac (S:=(fun V=>V.cell? ⟨b,off+k*5,none⟩=some (S nm)∧V.cell? ⟨b,off+k*5+1,none⟩=some (.int .u16 sty)∧V.cell? ⟨b,off+k*5+2,none⟩=some (.int .u16 scl)∧V.cell? ⟨b,off+k*5+3,none⟩=some (.int .u32 stt)∧V.cell? ⟨b,off+k*5+4,none⟩=some (.slice dA da.length dc))) (.take 0 (.take 2 (.take 3 (.take 4 (.take 5 (.run2 1 (.run 6 (.run 7 (.take 8 (.run 9 (.done))))) 6 (.run 1 (.run 7 (.take 8 (.run 9 (.done))))))))))) (by kernel_rfl) (by kernel_rfl) (fun _ _ _ _ _ h=>h) ((HCs.out _ (hE.trans (Ext.refl wo).drew))) ?_
   repeat((with_reducible refine za9 ?_);first
    |(refine zb1 (a':=?_) ⟨_,(HCs.out _ (hE.trans (Ext.refl wo).drew))⟩ (by rfl) rfl (by kernel_rfl) rfl ?_ ?_;rotate_left;(focus(intro V Q' hV hq;obtain⟨hV1,hV2,hV3,hV4,hV5⟩:=hV;(repeat(first|go_guarded|go_skip|go_step));(first|exact hq|exact wpList_nil hq))))
    |(refine za2 (v:=?_) (by rfl) (by rfl) ?_ ?_;rotate_left;(focus(intro V hV;obtain⟨hV1,hV2,hV3,hV4,hV5⟩:=hV;(go_simp<;>with_reducible rfl)));(try simp only[ap])))
   refine zii ?_ ?_
   ·refine za3 (by rfl) (fun K hK=>?_)
    have k12:World.cell? (wo.drew) ⟨b10,12,none⟩=some (.slice B m d):=za0 (j:=12) (((show Ext wo (wo.drew)from(Ext.refl wo).drew).block _ hb10o).trans r10) rfl
    go_simp;clear k12;refine hK.out _ _ ?_ ?_
    ·exact(HCs.out _ (hE.trans (show Ext wo (wo.drew)from(Ext.refl wo).drew)))
    clear hK K
    (try simp only[ap])
    refine za3 (by rfl) (fun K hK=>?_)
    go_simp;refine(HRec.out _ (hE.trans (show Ext wo (wo.drew)from(Ext.refl wo).drew))).mono ?_
    rintro e w2 ⟨B1,d1,rfl,ho1,hE2'⟩;have hE2:Ext wo w2:=Ext.trans (show Ext wo (wo.drew)from(Ext.refl wo).drew) hE2'
    clear hE2';refine hK.out _ _ ?_ ?_
    ·exact(HCs.out _ (hE.trans hE2))
    clear hK K
    (try simp only[ap])
    refine za3 (by rfl) (fun K hK=>?_)
    refine zel w2 rfl (.tmp 42) (.tmp 47) _ rfl (b10+1) 99 i0 _ 5 40 Tryz.underlying40 hi0 hz0 hz1 hz2 rfl (by omega) B m d (xs.flatMap za5) rfl (hown.ext hE2) 0 B1 news.length d1 (news.flatMap za5) rfl (ho1.rd.lower (Nat.zero_le _)) (zhm news) (by omega) (by omega) (Nat.le_trans hb10o hE2.size) ?_
    intro A3 c3 w3 hown3 hg3 hb3 _;have hE3:Ext w1 w3:=(hE.trans hE2).then hb3 (by omega)
    have r103:=(hb3.block b10 (Nat.lt_succ_self b10)).trans ((hE2.block _ hb10o).trans r10)
    refine hK.out _ _ ?_ ?_
    ·exact(HCs.out _ hE3)
    clear hK K
    (try simp only[ap])
    repeat((with_reducible refine za9 ?_);first
     |(refine zb1 (a':=?_) ⟨_,(HCs.out _ (hE.trans (Ext.refl wo).drew))⟩ (by rfl) rfl (by kernel_rfl) rfl ?_ ?_;rotate_left;(focus(intro V Q' hV hq;obtain⟨hV1,hV2,hV3,hV4,hV5⟩:=hV;(repeat(first|go_guarded|go_skip|go_step));(first|exact hq|exact wpList_nil hq))))
     |(refine za2 (v:=?_) (by rfl) (by rfl) ?_ ?_;rotate_left;(focus(intro V hV;obtain⟨hV1,hV2,hV3,hV4,hV5⟩:=hV;(go_simp<;>with_reducible rfl)));(try simp only[ap])))
    refine za3 (by rfl) (fun K hK=>?_)
    have j12:w3.cell? ⟨b10,12,none⟩=some (.slice B m d):=za0 (j:=12) r103 rfl
    have f12:=zab (j:=12) r103
    go_simp;refine hK.out _ _ ?_ ?_
    ·exact(HCs.out _ (hE3.setCell (p:=⟨b10,12,none⟩) hb1x _))
    clear hK K
    (try simp only[ap])
    refine zar ?_;refine NoPanic.normal ?_;have r10n:(w3.setCell ⟨b10,12,none⟩ (.slice A3 (m+news.length) c3)).heap[b10]? =some (.cells (za4 {h with code:=0} (.slice (some ⟨qb,qo,none⟩) 1 qc) (.slice A3 (m+news.length) c3) (.slice none 0 0) (.slice none 0 0) he ed (.slice none 0 0)) 45):=za7 r103 12 _
    have hownn:Own (w3.setCell ⟨b10,12,none⟩ (.slice A3 (m+news.length) c3)) (b10+1) 99 5 A3 (m+news.length) c3 (xs.flatMap za5++news.flatMap za5):=hown3.set_other (p:=⟨b10,12,none⟩) (Nat.lt_succ_self b10) _
    have hEn:Ext w1 (w3.setCell ⟨b10,12,none⟩ (.slice A3 (m+news.length) c3)):=hE3.setCell (p:=⟨b10,12,none⟩) hb1x _
    have hki:(k:Int)<(ps.length:Int):=by omega
    go_wp2_with fail;go_roundw
    case rel=>
     have hpk:FR.path[k]? =some ⟨nm,sty,scl,stt,da⟩:=by rw[←HPe.out];exact HPm.out
     have hst:=zlr FR.path k _ hpk
     refine⟨k+1,m+news.length,A3,c3,xs++news,by omega,by go_num,?_,?_,r10n,by rw[List.flatMap_append];exact hownn,hEn⟩
     ·show m+news.length=(xs++news).length
      rw[List.length_append,←hm.out]
     ·show xs++news=_
      rw[hst,←hxs.out,HNw.out]
    case measure=>simp[intOf];omega
   ·refine za3 (by rfl) (fun K hK=>?_)
    go_simp;refine(HRec.out _ (hE.trans (show Ext wo (wo.drew)from(Ext.refl wo).drew))).mono ?_
    rintro e w2 ⟨B1,d1,rfl,ho1,hE2'⟩;have hE2:Ext wo w2:=Ext.trans (show Ext wo (wo.drew)from(Ext.refl wo).drew) hE2'
    clear hE2';refine hK.out _ _ ?_ ?_
    ·exact(HCs.out _ (hE.trans hE2))
    clear hK K
    (try simp only[ap])
    refine za3 (by rfl) (fun K hK=>?_)
    have k12:World.cell? (w2) ⟨b10,12,none⟩=some (.slice B m d):=za0 (j:=12) (((show Ext wo (w2)from hE2).block _ hb10o).trans r10) rfl
    go_simp;clear k12;refine hK.out _ _ ?_ ?_
    ·exact(HCs.out _ (hE.trans (show Ext wo (w2)from hE2)))
    clear hK K
    (try simp only[ap])
    refine za3 (by rfl) (fun K hK=>?_)
    refine zel w2 rfl (.tmp 42) (.tmp 47) _ rfl (b10+1) 99 i0 _ 5 40 Tryz.underlying40 hi0 hz0 hz1 hz2 rfl (by omega) B m d (xs.flatMap za5) rfl (hown.ext hE2) 0 B1 news.length d1 (news.flatMap za5) rfl (ho1.rd.lower (Nat.zero_le _)) (zhm news) (by omega) (by omega) (Nat.le_trans hb10o hE2.size) ?_
    intro A3 c3 w3 hown3 hg3 hb3 _;have hE3:Ext w1 w3:=(hE.trans hE2).then hb3 (by omega)
    have r103:=(hb3.block b10 (Nat.lt_succ_self b10)).trans ((hE2.block _ hb10o).trans r10)
    refine hK.out _ _ ?_ ?_
    ·exact(HCs.out _ hE3)
    clear hK K
    (try simp only[ap])
    repeat((with_reducible refine za9 ?_);first
     |(refine zb1 (a':=?_) ⟨_,(HCs.out _ (hE.trans (Ext.refl wo).drew))⟩ (by rfl) rfl (by kernel_rfl) rfl ?_ ?_;rotate_left;(focus(intro V Q' hV hq;obtain⟨hV1,hV2,hV3,hV4,hV5⟩:=hV;(repeat(first|go_guarded|go_skip|go_step));(first|exact hq|exact wpList_nil hq))))
     |(refine za2 (v:=?_) (by rfl) (by rfl) ?_ ?_;rotate_left;(focus(intro V hV;obtain⟨hV1,hV2,hV3,hV4,hV5⟩:=hV;(go_simp<;>with_reducible rfl)));(try simp only[ap])))
    refine za3 (by rfl) (fun K hK=>?_)
    have j12:w3.cell? ⟨b10,12,none⟩=some (.slice B m d):=za0 (j:=12) r103 rfl
    have f12:=zab (j:=12) r103
    go_simp;refine hK.out _ _ ?_ ?_
    ·exact(HCs.out _ (hE3.setCell (p:=⟨b10,12,none⟩) hb1x _))
    clear hK K
    (try simp only[ap])
    refine zar ?_;refine NoPanic.normal ?_;have r10n:(w3.setCell ⟨b10,12,none⟩ (.slice A3 (m+news.length) c3)).heap[b10]? =some (.cells (za4 {h with code:=0} (.slice (some ⟨qb,qo,none⟩) 1 qc) (.slice A3 (m+news.length) c3) (.slice none 0 0) (.slice none 0 0) he ed (.slice none 0 0)) 45):=za7 r103 12 _
    have hownn:Own (w3.setCell ⟨b10,12,none⟩ (.slice A3 (m+news.length) c3)) (b10+1) 99 5 A3 (m+news.length) c3 (xs.flatMap za5++news.flatMap za5):=hown3.set_other (p:=⟨b10,12,none⟩) (Nat.lt_succ_self b10) _
    have hEn:Ext w1 (w3.setCell ⟨b10,12,none⟩ (.slice A3 (m+news.length) c3)):=hE3.setCell (p:=⟨b10,12,none⟩) hb1x _
    have hki:(k:Int)<(ps.length:Int):=by omega
    go_wp2_with fail;go_roundw
    case rel=>
     have hpk:FR.path[k]? =some ⟨nm,sty,scl,stt,da⟩:=by rw[←HPe.out];exact HPm.out
     have hst:=zlr FR.path k _ hpk
     refine⟨k+1,m+news.length,A3,c3,xs++news,by omega,by go_num,?_,?_,r10n,by rw[List.flatMap_append];exact hownn,hEn⟩
     ·show m+news.length=(xs++news).length
      rw[List.length_append,←hm.out]
     ·show xs++news=_
      rw[hst,←hxs.out,HNw.out]
    case measure=>simp[intOf];omega
  ·obtain rfl:k=ps.length:=by omega
   have HXs:=Lib.hid (show xs=FR.path.flatMap za8 by rw[hxs.out,HLn.out.1,List.take_length])
   have r4o:=(hE.block _ (Array.getElem?_eq_some_iff.1 r41).1).trans r41
   by_cases hfin:FR.fin=[]
   rotate_left
   ·have hlt:0<os.length:=by rw[HLn.out.2];exact List.length_pos_iff.2 hfin
    have hl0:(0:Int)<(os.length:Int):=by omega
    have HR:=Lib.hid (show zcp L cls FR=⟨0,FR.path++FR.fin,[]⟩from by unfold zcp;rw[if_pos HFe.out,if_neg hfin])
    clear hfin;have hp:os[0]? =some os[0]:=List.getElem?_eq_getElem hlt
    have hbs:=HOb.out os[0] (List.getElem_mem hlt)
    have hstr:=host os[0] (List.getElem_mem hlt)
    have HPK:=Lib.hid hp
    have HPm:=Lib.hid (show(os.map Prod.fst)[0]? =some os[0].1 by rw[List.getElem?_map,hp];rfl)
    generalize os[0]=p at*;obtain⟨b,off,rfl,_,hbz,hc⟩:=hord.2 (by omega)
    have hcs:=zb9 hc 0 p hp
    obtain⟨s,dv⟩:=p
    obtain⟨nm,sty,scl,stt,da⟩:=s
    dsimp only at*;obtain⟨dA,dc,rfl⟩:=hstr.shape
    simp only[Nat.zero_mul,Nat.add_zero]at hcs;obtain⟨c0,c1,c2,c3,c4⟩:=hcs
    have HCs:=Lib.hid (fun V (hV:Ext w1 V)=>(show V.cell? ⟨b,off,none⟩=some (S nm)∧V.cell? ⟨b,off+1,none⟩=some (.int .u16 sty)∧V.cell? ⟨b,off+2,none⟩=some (.int .u16 scl)∧V.cell? ⟨b,off+3,none⟩=some (.int .u32 stt)∧V.cell? ⟨b,off+4,none⟩=some (.slice dA da.length dc)from
     ⟨(hV.cell (p:=⟨b,_,none⟩) hbz).trans c0,(hV.cell (p:=⟨b,_,none⟩) hbz).trans c1,(hV.cell (p:=⟨b,_,none⟩) hbz).trans c2,(hV.cell (p:=⟨b,_,none⟩) hbz).trans c3,(hV.cell (p:=⟨b,_,none⟩) hbz).trans c4⟩))
    have HRec:=Lib.hid (fun V (hV:Ext w1 V)=>zgj ⟨nm,sty,scl,stt,da⟩ (.slice dA da.length dc) 0 V (hstr.ext hV) (by have:=hbs.2.1;dsimp only at this ⊢;omega))
    have hnl:(za8 ⟨nm,sty,scl,stt,da⟩).length≤65536:=by
     have h3:(za8 ⟨nm,sty,scl,stt,da⟩).length=da.length:=by unfold za8;simp
     rw[h3];exact hbs.2.1
    unfold zcl at HRec;obtain⟨news,hnews⟩:∃news,news=za8 ⟨nm,sty,scl,stt,da⟩:=⟨_,rfl⟩
    have HNw:=Lib.hid hnews
    rw[←hnews]at HRec hnl;have hm1:m≤524288:=by rw[hm.out,hxs.out];exact HTl.out _
    have hzo:w1.heap.size≤wo.heap.size:=hE.size
    have hb10o:b10<wo.heap.size:=(Array.getElem?_eq_some_iff.1 r10).1
    clear c0 c1 c2 c3 c4 hc hp hnews hstr hbs;go_upto_region 12 with fail
    go_cut [] (fun wx=>∃(A3:Option Addr) (c3:Nat),wx.heap[b10]? =some (.cells (za4 {h with code:=0} (.slice (some ⟨qb,qo,none⟩) 1 qc) (.slice A3 (m+news.length) c3) (.slice none 0 0) (.slice none 0 0) he ed (.slice none 0 0)) 45)∧Own wx (b10+1) 99 5 A3 (m+news.length) c3 (xs.flatMap za5++news.flatMap za5)∧Ext w1 wx)
    case first=>
     as_aux_lemma=>
     refine wp_region_noPanic ?_;refine zac (S:=(fun V=>V.cell? ⟨b,off,none⟩=some (S nm)∧V.cell? ⟨b,off+1,none⟩=some (.int .u16 sty)∧V.cell? ⟨b,off+2,none⟩=some (.int .u16 scl)∧V.cell? ⟨b,off+3,none⟩=some (.int .u32 stt)∧V.cell? ⟨b,off+4,none⟩=some (.slice dA da.length dc))) (.take 0 (.take 2 (.take 3 (.take 4 (.run2 1 (.run 5 (.run 6 (.take 7 (.run 8 (.done))))) 5 (.run 1 (.run 6 (.take 7 (.run 8 (.done)))))))))) (by kernel_rfl) (by kernel_rfl) (fun _ _ _ _ _ h=>h) ((HCs.out _ (hE.trans (Ext.refl wo).drew))) ?_
     repeat((with_reducible refine za9 ?_);first
      |(refine zb1 (a':=?_) ⟨_,(HCs.out _ (hE.trans (Ext.refl wo).drew))⟩ (by rfl) rfl (by kernel_rfl) rfl ?_ ?_;rotate_left;(focus(intro V Q' hV hq;obtain⟨hV1,hV2,hV3,hV4,hV5⟩:=hV;(repeat(first|go_guarded|go_skip|go_step));(first|exact hq|exact wpList_nil hq))))
      |(refine za2 (v:=?_) (by rfl) (by rfl) ?_ ?_;rotate_left;(focus(intro V hV;obtain⟨hV1,hV2,hV3,hV4,hV5⟩:=hV;(go_simp<;>with_reducible rfl)));(try simp only[ap])))
     refine zii ?_ ?_
     ·refine za3 (by rfl) (fun K hK=>?_)
      have k12:World.cell? (wo.drew) ⟨b10,12,none⟩=some (.slice B m d):=za0 (j:=12) (((show Ext wo (wo.drew)from(Ext.refl wo).drew).block _ hb10o).trans r10) rfl
      go_simp;clear k12;refine hK.out _ _ ?_ ?_
      ·exact(HCs.out _ (hE.trans (show Ext wo (wo.drew)from(Ext.refl wo).drew)))
      clear hK K
      (try simp only[ap])
      refine za3 (by rfl) (fun K hK=>?_)
      go_simp;refine(HRec.out _ (hE.trans (show Ext wo (wo.drew)from(Ext.refl wo).drew))).mono ?_
      rintro e w2 ⟨B1,d1,rfl,ho1,hE2'⟩;have hE2:Ext wo w2:=Ext.trans (show Ext wo (wo.drew)from(Ext.refl wo).drew) hE2'
      clear hE2';refine hK.out _ _ ?_ ?_
      ·exact(HCs.out _ (hE.trans hE2))
      clear hK K
      (try simp only[ap])
      refine za3 (by rfl) (fun K hK=>?_)
      refine zel w2 rfl (.tmp 54) (.tmp 58) _ rfl (b10+1) 99 i0 _ 5 40 Tryz.underlying40 hi0 hz0 hz1 hz2 rfl (by omega) B m d (xs.flatMap za5) rfl (hown.ext hE2) 0 B1 news.length d1 (news.flatMap za5) rfl (ho1.rd.lower (Nat.zero_le _)) (zhm news) (by omega) (by omega) (Nat.le_trans hb10o hE2.size) ?_
      intro A3 c3 w3 hown3 hg3 hb3 _;have hE3:Ext w1 w3:=(hE.trans hE2).then hb3 (by omega)
      have r103:=(hb3.block b10 (Nat.lt_succ_self b10)).trans ((hE2.block _ hb10o).trans r10)
      refine hK.out _ _ ?_ ?_
      ·exact(HCs.out _ hE3)
      clear hK K
      (try simp only[ap])
      repeat((with_reducible refine za9 ?_);first
       |(refine zb1 (a':=?_) ⟨_,(HCs.out _ (hE.trans (Ext.refl wo).drew))⟩ (by rfl) rfl (by kernel_rfl) rfl ?_ ?_;rotate_left;(focus(intro V Q' hV hq;obtain⟨hV1,hV2,hV3,hV4,hV5⟩:=hV;(repeat(first|go_guarded|go_skip|go_step));(first|exact hq|exact wpList_nil hq))))
       |(refine za2 (v:=?_) (by rfl) (by rfl) ?_ ?_;rotate_left;(focus(intro V hV;obtain⟨hV1,hV2,hV3,hV4,hV5⟩:=hV;(go_simp<;>with_reducible rfl)));(try simp only[ap])))
      refine za3 (by rfl) (fun K hK=>?_)
      have j12:w3.cell? ⟨b10,12,none⟩=some (.slice B m d):=za0 (j:=12) r103 rfl
      have f12:=zab (j:=12) r103
      go_simp;refine hK.out _ _ ?_ ?_
      ·exact(HCs.out _ (hE3.setCell (p:=⟨b10,12,none⟩) hb1x _))
      clear hK K
      (try simp only[ap])
      refine zar ?_;refine NoPanic.normal ?_;go_wp2_with fail;go_meet;refine⟨A3,c3,?_,?_,hE3.setCell (p:=⟨b10,12,none⟩) hb1x _⟩
      ·exact za7 r103 12 _
      ·exact hown3.set_other (p:=⟨b10,12,none⟩) (Nat.lt_succ_self b10) _
     ·refine za3 (by rfl) (fun K hK=>?_)
      go_simp;refine(HRec.out _ (hE.trans (show Ext wo (wo.drew)from(Ext.refl wo).drew))).mono ?_
      rintro e w2 ⟨B1,d1,rfl,ho1,hE2'⟩;have hE2:Ext wo w2:=Ext.trans (show Ext wo (wo.drew)from(Ext.refl wo).drew) hE2'
      clear hE2';refine hK.out _ _ ?_ ?_
      ·exact(HCs.out _ (hE.trans hE2))
      clear hK K
      (try simp only[ap])
      refine za3 (by rfl) (fun K hK=>?_)
      have k12:World.cell? (w2) ⟨b10,12,none⟩=some (.slice B m d):=za0 (j:=12) (((show Ext wo (w2)from hE2).block _ hb10o).trans r10) rfl
      go_simp;clear k12;refine hK.out _ _ ?_ ?_
      ·exact(HCs.out _ (hE.trans (show Ext wo (w2)from hE2)))
      clear hK K
      (try simp only[ap])
      refine za3 (by rfl) (fun K hK=>?_)
      refine zel w2 rfl (.tmp 54) (.tmp 58) _ rfl (b10+1) 99 i0 _ 5 40 Tryz.underlying40 hi0 hz0 hz1 hz2 rfl (by omega) B m d (xs.flatMap za5) rfl (hown.ext hE2) 0 B1 news.length d1 (news.flatMap za5) rfl (ho1.rd.lower (Nat.zero_le _)) (zhm news) (by omega) (by omega) (Nat.le_trans hb10o hE2.size) ?_
      intro A3 c3 w3 hown3 hg3 hb3 _;have hE3:Ext w1 w3:=(hE.trans hE2).then hb3 (by omega)
      have r103:=(hb3.block b10 (Nat.lt_succ_self b10)).trans ((hE2.block _ hb10o).trans r10)
      refine hK.out _ _ ?_ ?_
      ·exact(HCs.out _ hE3)
      clear hK K
      (try simp only[ap])
      repeat((with_reducible refine za9 ?_);first
       |(refine zb1 (a':=?_) ⟨_,(HCs.out _ (hE.trans (Ext.refl wo).drew))⟩ (by rfl) rfl (by kernel_rfl) rfl ?_ ?_;rotate_left;(focus(intro V Q' hV hq;obtain⟨hV1,hV2,hV3,hV4,hV5⟩:=hV;(repeat(first|go_guarded|go_skip|go_step));(first|exact hq|exact wpList_nil hq))))
       |(refine za2 (v:=?_) (by rfl) (by rfl) ?_ ?_;rotate_left;(focus(intro V hV;obtain⟨hV1,hV2,hV3,hV4,hV5⟩:=hV;(go_simp<;>with_reducible rfl)));(try simp only[ap])))
      refine za3 (by rfl) (fun K hK=>?_)
      have j12:w3.cell? ⟨b10,12,none⟩=some (.slice B m d):=za0 (j:=12) r103 rfl
      have f12:=zab (j:=12) r103
      go_simp;refine hK.out _ _ ?_ ?_
      ·exact(HCs.out _ (hE3.setCell (p:=⟨b10,12,none⟩) hb1x _))
      clear hK K
      (try simp only[ap])
      refine zar ?_;refine NoPanic.normal ?_;go_wp2_with fail;go_meet;refine⟨A3,c3,?_,?_,hE3.setCell (p:=⟨b10,12,none⟩) hb1x _⟩
      ·exact za7 r103 12 _
      ·exact hown3.set_other (p:=⟨b10,12,none⟩) (Nat.lt_succ_self b10) _
    case rest=>
    obtain⟨A3,c3,r103,hown3,hE3⟩:=hcut
    obtain⟨w3,rfl⟩:∃w3:World,w3=wc:=⟨_,rfl⟩
    have HFi:=Lib.hid (show FR.fin=[⟨nm,sty,scl,stt,da⟩]by
     have h1:=HPm.out
     rw[HOe.out]at h1;have h2:FR.fin.length≤1:=HIn.out.one
     rcases hf:FR.fin with _|⟨f0,_|⟨f1,fr⟩⟩
     ·rw[hf]at h1;cases h1
     ·rw[hf]at h1;injection h1 with h1;rw[h1]
     ·rw[hf]at h2;simp at h2)
    have r43:=(hE3.block _ (Array.getElem?_eq_some_iff.1 r41).1).trans r41
    go_upto_region 13 with fail
    refine wp_region_lit ?_;refine zaf (by rfl) 45 (.tmp 10) rfl b10 rfl _ (za4 {h with code:=0} (.slice (some ⟨qb,qo,none⟩) 1 qc) (.slice A3 (m+news.length) c3) (.slice none 0 0) (.slice none 0 0) he ed (.slice none 0 0)) _ _ r103 Tryz.underlying45 rfl (by kernel_rfl) ?_
    refine Go.wpList_store_rowTo rfl 45 (.tmp 4) (.tmp 61) rfl rfl b4 (za4 {h with code:=0} (.slice (some ⟨qb,qo,none⟩) 1 qc) (.slice A3 (m+news.length) c3) (.slice none 0 0) (.slice none 0 0) he ed (.slice none 0 0)) rfl rfl 45 _ r43 (by kernel_rfl) rfl (by kernel_rfl) ?_
    repeat go_step
    (try simp only[Exit.inBlock,Exit.then])
    refine bodyPost_ret (results_cell_row rfl _ _ b4 _ _ _ _ rfl (setRow_heap w3 b4 _ (za4 {h with code:=0} (.slice (some ⟨qb,qo,none⟩) 1 qc) (.slice A3 (m+news.length) c3) (.slice none 0 0) (.slice none 0 0) he ed (.slice none 0 0)) _ _ r43) Tryz.underlying45 rfl (by kernel_rfl)) rfl ?_
    have gr:=zag w3 b4 (za4 {h with code:=0} (.slice (some ⟨qb,qo,none⟩) 1 qc) (.slice A3 (m+news.length) c3) (.slice none 0 0) (.slice none 0 0) he ed (.slice none 0 0))
    have hEz:=hE1w.trans hE3
    have hxn:(FR.path++FR.fin).flatMap za8=xs++news:=by rw[List.flatMap_append,HFi.out,HXs.out,HNw.out];simp
    have hown3':Own w3 (b10+1) 99 5 A3 (m+news.length) c3 ((xs++news).flatMap za5):=by rw[List.flatMap_append];exact hown3
    exact⟨.slice A3 (m+news.length) c3,(.slice none 0 0),by rw[HR.out],by rw[HR.out,hxn];exact hown3'.end30 (by rw[List.length_append,←hm.out]) (by omega) _,by rw[HR.out];exact zfc _,Below.grown hEz gr hEz.size (fun k hk=>by injection hk with hk;omega)⟩
   have hl0:¬(0:Int)<(os.length:Int):=by
    have h:=HLn.out.2
    rw[hfin,List.length_nil]at h;omega
   have HR:=Lib.hid (show zcp L cls FR=(if(soaFind L FR.here cls).err=0 then⟨if zb8 L FR.here cls=true then 0 else 3,FR.path,(soaFind L FR.here cls).set.toList⟩else⟨2,[],[]⟩)from by unfold zcp;rw[if_pos HFe.out,if_pos hfin])
   clear hfin;have hhere:FR.here.length≤1048576:=by have:=HHe.out;omega
   have HSo:=Lib.hid (fun V (hV:Ext w V)=>HSo0.out FR.here V hV hhere)
   have HMem:=Lib.hid (fun s (h:(soaFind L FR.here cls).set=some s)=>(zvk h).1)
   generalize soaFind L FR.here cls=SR at*;obtain⟨sx,hsx⟩:∃sx,sx=SR.set.getD SetD.zero:=⟨_,rfl⟩
   have HSx:=Lib.hid hsx
   rw[←hsx]at HSo;clear hsx;obtain⟨ssome,hsome⟩:∃b,b=SR.set.isSome:=⟨_,rfl⟩
   have HSm:=Lib.hid hsome
   rw[←hsome]at HSo;clear hsome;obtain⟨serr,hserr⟩:∃e:Int,e=(SR.err:Int):=⟨_,rfl⟩
   have HSe:=Lib.hid hserr
   rw[←hserr]at HSo;clear hserr;have HTv:=Lib.hid (HTh.out FR.here wo (hE1w.trans hE) hhere)
   have k2:wo.cell? ⟨b5,2,none⟩=some (.int .u16 cls):=za0 (j:=2) ((hE.block _ (Array.getElem?_eq_some_iff.1 r51).1).trans r51) rfl
   go_wp2_with fail;refine HTv.out.mono ?_;rintro e W8 ⟨rfl,hE8⟩;clear k2 HTv;have hW8:Ext w1 W8:=hE.trans hE8
   have r108:=(hE8.block _ (Array.getElem?_eq_some_iff.1 r10).1).trans r10
   have hown8:=hown.ext hE8
   have HOd:=Lib.hid hW8
   go_upto_if 67 with fail
   go_cut [] (fun wx=>∃cc:Int,(if zb8 L FR.here cls=true then(0:Int)else 3)=cc∧wx.heap[b10]? =some (.cells (za4 {h with code:=cc} (.slice (some ⟨qb,qo,none⟩) 1 qc) (.slice B m d) (.slice none 0 0) (.slice none 0 0) he ed (.slice none 0 0)) 45)∧Own wx (b10+1) 99 5 B m d (xs.flatMap za5)∧Ext w1 wx)
   case first=>
    as_aux_lemma=>
    rcases hth:zb8 L FR.here cls with _|_
    ·have HT3:=Lib.hid (show(if zb8 L FR.here cls=true then(0:Int)else 3)=3 by rw[hth];rfl)
     have c10:W8.cell? ⟨b10,10,none⟩=some (.int .u8 0):=za0 (j:=10) r108 rfl
     have f10:=zab (j:=10) r108
     go_wp2_with fail;go_meet;exact⟨3,HT3.out,za7 r108 10 _,hown8.set_other (p:=⟨b10,10,none⟩) (Nat.lt_succ_self b10) _,hW8.setCell (p:=⟨b10,10,none⟩) hb1x _⟩
    ·have HT3:=Lib.hid (show(if zb8 L FR.here cls=true then(0:Int)else 3)=0 by rw[hth];rfl)
     go_wp2_with fail;go_meet;exact⟨0,HT3.out,r108,hown8,hW8⟩
   case rest=>
   obtain⟨cc,hcc,r108,hown8,hW8⟩:=hcut
   obtain⟨V8,rfl⟩:∃V8:World,V8=wc:=⟨_,rfl⟩
   have HThv:=Lib.hid hcc
   clear hcc;have hW8w:Ext w V8:=hE1w.trans hW8
   have r58:=(hW8.block _ (Array.getElem?_eq_some_iff.1 r51).1).trans r51
   have HS7:=Lib.hid (fun V (hV:Ext V8 V)=>(show V.cell? ⟨b5,2,none⟩=some (.int .u16 cls)∧V.cell? ⟨R,0,none⟩=some (.slice sA sn sc)from
    ⟨za0 ((hV.block _ (Array.getElem?_eq_some_iff.1 r58).1).trans r58) rfl,((hW8w.trans hV).cell (p:=⟨R,0,none⟩) hRw).trans hR⟩))
   go_upto_region 16 with fail
   go_cut [9,12,13] (fun s9 s12 s13 wx=>∃(g:Nat) (dA:Option Addr) (dc:Nat),s9=.int .i64 serr∧s12=.pointer (some ⟨g,0,none⟩)∧s13=.bool ssome∧wx.heap[g]? =some (.cells #[S sx.name,.int .u16 sx.typ,.int .u16 sx.cls,.int .u32 sx.ttl,.slice dA sx.data.length dc] 79)∧Strs wx lo (.slice dA sx.data.length dc) sx.data∧Ext V8 wx)
   case first=>
    as_aux_lemma=>
    refine wp_region_noPanic ?_;refine zac (S:=(fun V=>V.cell? ⟨b5,2,none⟩=some (.int .u16 cls)∧V.cell? ⟨R,0,none⟩=some (.slice sA sn sc))) (.take 0 (.take 1 (.take 2 (.take 3 (.take 4 (.take 5 (.take 6 (.run2 7 (.take 8 (.take 9 (.take 10 (.take 11 (.run 12 (.run 13 (.take 14 (.take 15 (.done))))))))) 12 (.run 7 (.take 8 (.take 9 (.take 10 (.take 11 (.run 13 (.take 14 (.take 15 (.done))))))))))))))))) (by kernel_rfl) (by kernel_rfl) (fun _ _ _ _ _ h=>h) ((HS7.out _ (Ext.refl V8).drew)) ?_
    repeat((with_reducible refine za9 ?_);first
     |(refine zb1 (a':=?_) ⟨_,(HS7.out _ (Ext.refl V8).drew)⟩ (by rfl) rfl (by kernel_rfl) rfl ?_ ?_;rotate_left;(focus(intro V Q' hV hq;obtain⟨hV1,hV2⟩:=hV;(repeat(first|go_guarded|go_skip|go_step));(first|exact hq|exact wpList_nil hq))))
     |(refine za2 (v:=?_) (by rfl) (by rfl) ?_ ?_;rotate_left;(focus(intro V hV;obtain⟨hV1,hV2⟩:=hV;(go_simp<;>with_reducible rfl)));(try simp only[ap])))
    refine zii ?_ ?_
    ·refine za3 (by rfl) (fun K hK=>?_)
     go_simp;refine(HSo.out _ (hW8w.trans (show Ext V8 (V8.drew)from(Ext.refl V8).drew))).mono ?_
     rintro e w7 ⟨dv,rfl,hdP,hEq⟩;have hE7:Ext V8 w7:=Ext.trans (show Ext V8 (V8.drew)from(Ext.refl V8).drew) hEq
     have hds:Strs w lo dv sx.data:=hdP (fun v s=>Strs w lo v s.data) HSt0.out ⟨none,0,rfl,Nat.le_refl _,Nat.zero_le _,rfl,fun h=>absurd h (Nat.lt_irrefl _)⟩
     obtain⟨dA,dc,rfl⟩:=hds.shape
     refine hK.out _ _ ?_ ?_
     ·exact(HS7.out _ hE7)
     clear hK K
     (try simp only[ap])
     repeat((with_reducible refine za9 ?_);first
      |(refine zb1 (a':=?_) ⟨_,(HS7.out _ (Ext.refl V8).drew)⟩ (by rfl) rfl (by kernel_rfl) rfl ?_ ?_;rotate_left;(focus(intro V Q' hV hq;obtain⟨hV1,hV2⟩:=hV;(repeat(first|go_guarded|go_skip|go_step));(first|exact hq|exact wpList_nil hq))))
      |(refine za2 (v:=?_) (by rfl) (by rfl) ?_ ?_;rotate_left;(focus(intro V hV;obtain⟨hV1,hV2⟩:=hV;(go_simp<;>with_reducible rfl)));(try simp only[ap])))
     refine za3 (by rfl) (fun K hK=>?_)
     go_simp;obtain⟨g11,hg11⟩:∃g11,g11=w7.heap.size:=⟨_,rfl⟩
     obtain⟨wa,hwa⟩:∃wa,wa=World.alloc w7 (.cells #[.string ⟨#[]⟩,.int .u16 0,.int .u16 0,.int .u32 0,.slice none 0 0] 79):=⟨_,rfl⟩
     have ra:wa.heap[g11]? =some (.cells #[.string ⟨#[]⟩,.int .u16 0,.int .u16 0,.int .u32 0,.slice none 0 0] 79):=by rw[hwa,hg11];exact heap_alloc_new _ _
     have hEa:Ext V8 wa:=by rw[hwa];exact hE7.alloc _
     have hg11w:V8.heap.size≤g11:=by rw[hg11];exact hE7.size
     try rw[←hwa]
     try rw[←hg11]
     have HG:=Lib.hid hg11
     clear hwa hg11;refine hK.out _ _ ?_ ?_
     ·exact(HS7.out _ hEa)
     clear hK K
     (try simp only[ap])
     refine za3 (by rfl) (fun K hK=>?_)
     rw[if_pos (by rfl)]
     refine wp_store_row 79 (.tmp 12) (.tmp 79) rfl g11 #[S sx.name,.int .u16 sx.typ,.int .u16 sx.cls,.int .u32 sx.ttl,.slice dA sx.data.length dc] (by first|rfl|(rw[HG.out];rfl)) rfl 79 _ ra (by kernel_rfl) rfl (by kernel_rfl) ?_
     have rr:=setRow_heap wa g11 _ #[S sx.name,.int .u16 sx.typ,.int .u16 sx.cls,.int .u32 sx.ttl,.slice dA sx.data.length dc] _ _ ra
     have hEr:Ext V8 (World.setRow wa g11 #[S sx.name,.int .u16 sx.typ,.int .u16 sx.cls,.int .u32 sx.ttl,.slice dA sx.data.length dc]):=zgw hEa hg11w _
     obtain⟨wr,hwr⟩:∃wr,wr=World.setRow wa g11 #[S sx.name,.int .u16 sx.typ,.int .u16 sx.cls,.int .u32 sx.ttl,.slice dA sx.data.length dc]:=⟨_,rfl⟩
     rw[←hwr]at rr hEr ⊢;clear hwr;refine hK.out _ _ ?_ ?_
     ·exact(HS7.out _ hEr)
     clear hK K
     (try simp only[ap])
     repeat((with_reducible refine za9 ?_);first
      |(refine zb1 (a':=?_) ⟨_,(HS7.out _ (Ext.refl V8).drew)⟩ (by rfl) rfl (by kernel_rfl) rfl ?_ ?_;rotate_left;(focus(intro V Q' hV hq;obtain⟨hV1,hV2⟩:=hV;(repeat(first|go_guarded|go_skip|go_step));(first|exact hq|exact wpList_nil hq))))
      |(refine za2 (v:=?_) (by rfl) (by rfl) ?_ ?_;rotate_left;(focus(intro V hV;obtain⟨hV1,hV2⟩:=hV;(go_simp<;>with_reducible rfl)));(try simp only[ap])))
     refine zar ?_;refine NoPanic.normal ?_;go_wp2_with fail;go_meet;exact⟨g11,dA,dc,rfl,(by first|rfl|(rw[HG.out])),rfl,rr,hds.ext (hW8w.trans hEr),hEr⟩
    ·refine za3 (by rfl) (fun K hK=>?_)
     go_simp;obtain⟨g11,hg11⟩:∃g11,g11=V8.heap.size:=⟨_,rfl⟩
     obtain⟨wa,hwa⟩:∃wa,wa=(World.alloc V8 (.cells #[.string ⟨#[]⟩,.int .u16 0,.int .u16 0,.int .u32 0,.slice none 0 0] 79)).drew:=⟨_,rfl⟩
     have ra:wa.heap[g11]? =some (.cells #[.string ⟨#[]⟩,.int .u16 0,.int .u16 0,.int .u32 0,.slice none 0 0] 79):=by rw[hwa,hg11];exact heap_alloc_new _ _
     have hEa:Ext V8 wa:=by rw[hwa];exact((Ext.refl V8).alloc _).drew
     have hg11w:V8.heap.size≤g11:=by rw[hg11];exact Nat.le_refl _
     try rw[←hwa]
     try rw[←hg11]
     have HG:=Lib.hid hg11
     clear hwa hg11;refine hK.out _ _ ?_ ?_
     ·exact(HS7.out _ hEa)
     clear hK K
     (try simp only[ap])
     refine za3 (by rfl) (fun K hK=>?_)
     go_simp;refine(HSo.out _ (hW8w.trans (show Ext V8 (wa)from hEa))).mono ?_
     rintro e w7 ⟨dv,rfl,hdP,hEq⟩;have hE7:Ext V8 w7:=Ext.trans (show Ext V8 (wa)from hEa) hEq
     have hds:Strs w lo dv sx.data:=hdP (fun v s=>Strs w lo v s.data) HSt0.out ⟨none,0,rfl,Nat.le_refl _,Nat.zero_le _,rfl,fun h=>absurd h (Nat.lt_irrefl _)⟩
     obtain⟨dA,dc,rfl⟩:=hds.shape
     have ra:=(hEq.block _ (Array.getElem?_eq_some_iff.1 ra).1).trans ra
     refine hK.out _ _ ?_ ?_
     ·exact(HS7.out _ hE7)
     clear hK K
     (try simp only[ap])
     repeat((with_reducible refine za9 ?_);first
      |(refine zb1 (a':=?_) ⟨_,(HS7.out _ (Ext.refl V8).drew)⟩ (by rfl) rfl (by kernel_rfl) rfl ?_ ?_;rotate_left;(focus(intro V Q' hV hq;obtain⟨hV1,hV2⟩:=hV;(repeat(first|go_guarded|go_skip|go_step));(first|exact hq|exact wpList_nil hq))))
      |(refine za2 (v:=?_) (by rfl) (by rfl) ?_ ?_;rotate_left;(focus(intro V hV;obtain⟨hV1,hV2⟩:=hV;(go_simp<;>with_reducible rfl)));(try simp only[ap])))
     refine za3 (by rfl) (fun K hK=>?_)
     rw[if_pos (by rfl)]
     refine wp_store_row 79 (.tmp 12) (.tmp 79) rfl g11 #[S sx.name,.int .u16 sx.typ,.int .u16 sx.cls,.int .u32 sx.ttl,.slice dA sx.data.length dc] (by first|rfl|(rw[HG.out];rfl)) rfl 79 _ ra (by kernel_rfl) rfl (by kernel_rfl) ?_
     have rr:=setRow_heap w7 g11 _ #[S sx.name,.int .u16 sx.typ,.int .u16 sx.cls,.int .u32 sx.ttl,.slice dA sx.data.length dc] _ _ ra
     have hEr:Ext V8 (World.setRow w7 g11 #[S sx.name,.int .u16 sx.typ,.int .u16 sx.cls,.int .u32 sx.ttl,.slice dA sx.data.length dc]):=zgw hE7 hg11w _
     obtain⟨wr,hwr⟩:∃wr,wr=World.setRow w7 g11 #[S sx.name,.int .u16 sx.typ,.int .u16 sx.cls,.int .u32 sx.ttl,.slice dA sx.data.length dc]:=⟨_,rfl⟩
     rw[←hwr]at rr hEr ⊢;clear hwr;refine hK.out _ _ ?_ ?_
     ·exact(HS7.out _ hEr)
     clear hK K
     (try simp only[ap])
     repeat((with_reducible refine za9 ?_);first
      |(refine zb1 (a':=?_) ⟨_,(HS7.out _ (Ext.refl V8).drew)⟩ (by rfl) rfl (by kernel_rfl) rfl ?_ ?_;rotate_left;(focus(intro V Q' hV hq;obtain⟨hV1,hV2⟩:=hV;(repeat(first|go_guarded|go_skip|go_step));(first|exact hq|exact wpList_nil hq))))
      |(refine za2 (v:=?_) (by rfl) (by rfl) ?_ ?_;rotate_left;(focus(intro V hV;obtain⟨hV1,hV2⟩:=hV;(go_simp<;>with_reducible rfl)));(try simp only[ap])))
     refine zar ?_;refine NoPanic.normal ?_;go_wp2_with fail;go_meet;exact⟨g11,dA,dc,rfl,(by first|rfl|(rw[HG.out])),rfl,rr,hds.ext (hW8w.trans hEr),hEr⟩
   case rest=>
   obtain⟨g11,dA,dc,rfl,rfl,rfl,rr,hdo,hE6⟩:=hcut
   obtain⟨W6,rfl⟩:∃W6:World,W6=wc:=⟨_,rfl⟩
   have hW6w:Ext w W6:=hW8w.trans hE6
   have r36:=((hW8.trans hE6).block _ (Array.getElem?_eq_some_iff.1 r31).1).trans r31
   have r46:=((hW8.trans hE6).block _ (Array.getElem?_eq_some_iff.1 r41).1).trans r41
   have r106:=(hE6.block _ (Array.getElem?_eq_some_iff.1 r108).1).trans r108
   have hown6:=hown8.ext hE6
   by_cases heS:SR.err=0
   rotate_left
   ·have hei2:(serr !=0)=true:=by rw[HSe.out];simpa using heS
    have HR3:=Lib.hid (show zcp L cls FR=⟨2,[],[]⟩from by rw[HR.out,if_neg heS])
    clear heS;have c10:W6.cell? ⟨b3,10,none⟩=some (.int .u8 0):=za0 (j:=10) r36 rfl
    have f10:=zab (j:=10) r36
    go_upto_region 19 with fail
    have r3x:(W6.setCell ⟨b3,10,none⟩ (.int .u8 2)).heap[b3]? =some (.cells (za4 {h with code:=2} (.slice (some ⟨qb,qo,none⟩) 1 qc) (.slice none 0 0) (.slice none 0 0) (.slice none 0 0) he ed (.slice none 0 0)) 45):=za7 r36 10 _
    have r4x:=(Below.heap_setCell W6 ⟨b3,10,none⟩ (.int .u8 2) b4 (by dsimp only;omega)).trans r46
    have hEx:Ext w (W6.setCell ⟨b3,10,none⟩ (.int .u8 2)):=hW6w.setCell (by dsimp only;omega) _
    obtain⟨V,hV⟩:∃V,V=W6.setCell ⟨b3,10,none⟩ (.int .u8 2):=⟨_,rfl⟩
    rw[←hV]at r3x r4x hEx ⊢;clear hV c10 f10;go_upto_region 19 with fail
    refine wp_region_lit ?_;refine zaf (by rfl) 45 (.tmp 3) rfl b3 rfl _ (za4 {h with code:=2} (.slice (some ⟨qb,qo,none⟩) 1 qc) (.slice none 0 0) (.slice none 0 0) (.slice none 0 0) he ed (.slice none 0 0)) _ _ r3x Tryz.underlying45 rfl (by kernel_rfl) ?_
    refine Go.wpList_store_rowTo rfl 45 (.tmp 4) (.tmp 86) rfl rfl b4 (za4 {h with code:=2} (.slice (some ⟨qb,qo,none⟩) 1 qc) (.slice none 0 0) (.slice none 0 0) (.slice none 0 0) he ed (.slice none 0 0)) rfl rfl 45 _ r4x (by kernel_rfl) rfl (by kernel_rfl) ?_
    repeat go_step
    (try simp only[Exit.inBlock,Exit.then])
    refine bodyPost_ret (results_cell_row rfl _ _ b4 _ _ _ _ rfl (setRow_heap V b4 _ (za4 {h with code:=2} (.slice (some ⟨qb,qo,none⟩) 1 qc) (.slice none 0 0) (.slice none 0 0) (.slice none 0 0) he ed (.slice none 0 0)) _ _ r4x) Tryz.underlying45 rfl (by kernel_rfl)) rfl ?_
    have gr:=zag V b4 (za4 {h with code:=2} (.slice (some ⟨qb,qo,none⟩) 1 qc) (.slice none 0 0) (.slice none 0 0) (.slice none 0 0) he ed (.slice none 0 0))
    exact⟨(.slice none 0 0),(.slice none 0 0),by rw[HR3.out],by rw[HR3.out];exact zfc _,by rw[HR3.out];exact zfc _,Below.grown hEx gr hEx.size (fun k hk=>by injection hk with hk;omega)⟩
   have hei2:(serr !=0)=false:=by rw[HSe.out,heS];rfl
   have HR3:=Lib.hid (show zcp L cls FR=⟨cc,FR.path,SR.set.toList⟩from by rw[HR.out,if_pos heS,HThv.out])
   clear heS;rcases hss:ssome with _|_
   ·have HN:=Lib.hid (show SR.set.toList=[]from by
     have h:=HSm.out;rw[hss]at h
     rcases hs:SR.set with _|s
     ·rfl
     ·rw[hs]at h;cases h)
    clear hss;go_upto_region 22 with fail
    refine wp_region_lit ?_;refine zaf (by rfl) 45 (.tmp 10) rfl b10 rfl _ (za4 {h with code:=cc} (.slice (some ⟨qb,qo,none⟩) 1 qc) (.slice B m d) (.slice none 0 0) (.slice none 0 0) he ed (.slice none 0 0)) _ _ r106 Tryz.underlying45 rfl (by kernel_rfl) ?_
    refine Go.wpList_store_rowTo rfl 45 (.tmp 4) (.tmp 91) rfl rfl b4 (za4 {h with code:=cc} (.slice (some ⟨qb,qo,none⟩) 1 qc) (.slice B m d) (.slice none 0 0) (.slice none 0 0) he ed (.slice none 0 0)) rfl rfl 45 _ r46 (by kernel_rfl) rfl (by kernel_rfl) ?_
    repeat go_step
    (try simp only[Exit.inBlock,Exit.then])
    refine bodyPost_ret (results_cell_row rfl _ _ b4 _ _ _ _ rfl (setRow_heap W6 b4 _ (za4 {h with code:=cc} (.slice (some ⟨qb,qo,none⟩) 1 qc) (.slice B m d) (.slice none 0 0) (.slice none 0 0) he ed (.slice none 0 0)) _ _ r46) Tryz.underlying45 rfl (by kernel_rfl)) rfl ?_
    have gr:=zag W6 b4 (za4 {h with code:=cc} (.slice (some ⟨qb,qo,none⟩) 1 qc) (.slice B m d) (.slice none 0 0) (.slice none 0 0) he ed (.slice none 0 0))
    exact⟨.slice B m d,(.slice none 0 0),by rw[HR3.out],by rw[HR3.out,←HXs.out];exact hown6.end30 hm.out (by omega) _,by rw[HR3.out,HN.out];exact zfc _,Below.grown hW6w gr hW6w.size (fun k hk=>by injection hk with hk;omega)⟩
   ·have HN:=Lib.hid (show SR.set=some sx from by
     have h:=HSm.out;rw[hss]at h
     have h2:=HSx.out
     rcases hs:SR.set with _|s
     ·rw[hs]at h;cases h
     ·rw[hs]at h2;rw[h2];rfl)
    clear hss;have hsb:=HBd.out sx (HMem.out sx HN.out)
    have HRec:=Lib.hid (fun V (hV:Ext W6 V)=>zgj sx (.slice dA sx.data.length dc) lo V (hdo.ext hV) (by have:=hsb.2.1;omega))
    unfold zcl at HRec;have k0:W6.cell? ⟨g11,0,none⟩=some (S sx.name):=za0 (j:=0) rr rfl
    have k1:W6.cell? ⟨g11,1,none⟩=some (.int .u16 sx.typ):=za0 (j:=1) rr rfl
    have k2:W6.cell? ⟨g11,2,none⟩=some (.int .u16 sx.cls):=za0 (j:=2) rr rfl
    have k3:W6.cell? ⟨g11,3,none⟩=some (.int .u32 sx.ttl):=za0 (j:=3) rr rfl
    have k4:W6.cell? ⟨g11,4,none⟩=some (.slice dA sx.data.length dc):=za0 (j:=4) rr rfl
    go_wp2_with fail;refine(HRec.out _ (Ext.refl W6)).mono ?_;rintro e w9 ⟨A9,c9,rfl,hown9,hE9⟩;have r109:=(hE9.block _ (Array.getElem?_eq_some_iff.1 r106).1).trans r106
    have r49:=(hE9.block _ (Array.getElem?_eq_some_iff.1 r46).1).trans r46
    have c13:w9.cell? ⟨b10,13,none⟩=some (.slice none 0 0):=za0 (j:=13) r109 rfl
    have f13:=zab (j:=13) r109
    have hb10W:b10<W6.heap.size:=(Array.getElem?_eq_some_iff.1 r106).1
    clear k0 k1 k2 k3 k4;go_upto_region 22 with fail
    have r10x:(w9.setCell ⟨b10,13,none⟩ (.slice A9 (za8 sx).length c9)).heap[b10]? =some (.cells (za4 {h with code:=cc} (.slice (some ⟨qb,qo,none⟩) 1 qc) (.slice B m d) (.slice A9 (za8 sx).length c9) (.slice none 0 0) he ed (.slice none 0 0)) 45):=za7 r109 13 _
    have r4x:=(Below.heap_setCell w9 ⟨b10,13,none⟩ (.slice A9 (za8 sx).length c9) b4 (by dsimp only;omega)).trans r49
    have hEx:Ext w (w9.setCell ⟨b10,13,none⟩ (.slice A9 (za8 sx).length c9)):=(hW6w.trans hE9).setCell (by dsimp only;omega) _
    have hownx:=(hown6.ext hE9).set_other (p:=⟨b10,13,none⟩) (Nat.lt_succ_self b10) (.slice A9 (za8 sx).length c9)
    have hown9x:=hown9.set_other (p:=⟨b10,13,none⟩) hb10W (.slice A9 (za8 sx).length c9)
    obtain⟨V,hV⟩:∃V,V=w9.setCell ⟨b10,13,none⟩ (.slice A9 (za8 sx).length c9):=⟨_,rfl⟩
    rw[←hV]at r10x r4x hEx hownx hown9x ⊢;clear hV c13 f13;go_upto_region 22 with fail
    refine wp_region_lit ?_;refine zaf (by rfl) 45 (.tmp 10) rfl b10 rfl _ (za4 {h with code:=cc} (.slice (some ⟨qb,qo,none⟩) 1 qc) (.slice B m d) (.slice A9 (za8 sx).length c9) (.slice none 0 0) he ed (.slice none 0 0)) _ _ r10x Tryz.underlying45 rfl (by kernel_rfl) ?_
    refine Go.wpList_store_rowTo rfl 45 (.tmp 4) (.tmp 91) rfl rfl b4 (za4 {h with code:=cc} (.slice (some ⟨qb,qo,none⟩) 1 qc) (.slice B m d) (.slice A9 (za8 sx).length c9) (.slice none 0 0) he ed (.slice none 0 0)) rfl rfl 45 _ r4x (by kernel_rfl) rfl (by kernel_rfl) ?_
    repeat go_step
    (try simp only[Exit.inBlock,Exit.then])
    refine bodyPost_ret (results_cell_row rfl _ _ b4 _ _ _ _ rfl (setRow_heap V b4 _ (za4 {h with code:=cc} (.slice (some ⟨qb,qo,none⟩) 1 qc) (.slice B m d) (.slice A9 (za8 sx).length c9) (.slice none 0 0) he ed (.slice none 0 0)) _ _ r4x) Tryz.underlying45 rfl (by kernel_rfl)) rfl ?_
    have gr:=zag V b4 (za4 {h with code:=cc} (.slice (some ⟨qb,qo,none⟩) 1 qc) (.slice B m d) (.slice A9 (za8 sx).length c9) (.slice none 0 0) he ed (.slice none 0 0))
    exact⟨.slice B m d,.slice A9 (za8 sx).length c9,by rw[HR3.out],by rw[HR3.out,←HXs.out];exact hownx.end30 hm.out (by omega) _,by rw[HR3.out,HN.out];simpa using hown9x.end30 rfl (by omega) (za4 {h with code:=cc} (.slice (some ⟨qb,qo,none⟩) 1 qc) (.slice B m d) (.slice A9 (za8 sx).length c9) (.slice none 0 0) he ed (.slice none 0 0)),Below.grown hEx gr hEx.size (fun k hk=>by injection hk with hk;omega)⟩
end Go.Proofs.YtdnpmapelmjfpaaGreatDoor
