/- Lemmas of this claim. No condition. -/
import Derived.Test.YtdnpmapelmjfpaaGreatDoorLrs
import Derived.Test.YtdnpmapelmjfpaaGreatDoorLka
import Derived.Test.YtdnpmapelmjfpaaGreatDoorLrl
set_option maxHeartbeats 4000000
set_option linter.unusedVariables false
set_option linter.unusedSimpArgs false
set_option maxRecDepth 100000
namespace Go.Proofs.YtdnpmapelmjfpaaGreatDoor
open Go.RowKit
def zEg (r:Option (List UInt8)) (w:World) (e:Ending) (w':World):Prop:=e=.returned (.tuple #[S (r.getD []),.bool r.isSome])∧Ext w w'
def zcn (n:List UInt8):Option (List UInt8):=match labelsOf n with
 |some (_::r)=>some (zam r)
 |_=>none
theorem zjw:∀(ls:List (List UInt8)),(∀x∈ls,0<x.length∧x.length≤63)→zav (zam ls)=some ls
 |[],_=>rfl
 |x::r,h=>by
  have hx:=h x (by simp)
  have ht:(UInt8.ofNat x.length).toNat=x.length:=by rw[UInt8.toNat_ofNat',Nat.mod_eq_of_lt (by omega)]
  rw[zc4];unfold zdk;rw[List.cons_append,zbb,if_neg (fun e=>by
   have:=congrArg UInt8.toNat e
   rw[ht]at this;have h0:(0:UInt8).toNat=0:=rfl
   omega),if_neg (by rw[ht];omega),ht]
  rw[List.drop_left' rfl,List.take_left' rfl,zjw r (fun y hy=>h y (by simp[hy]))]
  rfl
theorem zp2 {ls:List (List UInt8)} (h:∀x∈ls,0<x.length∧x.length≤63) (hl:(zam ls).length≤255):labelsOf (zam ls)=some ls:=by
 unfold labelsOf;rw[if_pos hl,zjw ls h]
theorem zmc (n:List UInt8) (w:World) (hn:n.length≤1048576):Calls Tryz.prog 173 #[S n] w fun e w'=>e=.returned (.int .i64 (zd8 n))∧Ext w w':=by
 have HL:=Z7 (zff n w hn)
 have hl:zd8 n=((labelsOf n).getD []).length:=rfl
 rw[hl];generalize labelsOf n=R at*;clear hl;go_enter Tryz.func173,Tryz.ntmps173;go_wp2_with fail;refine HL.out.mono ?_;rintro e w1 ⟨v,rfl,⟨A,c,rfl,ho⟩,hE⟩;go_wp2_with fail;go_ret;exact⟨rfl,hE⟩
theorem zyt (n:List UInt8) (w:World) (hn:n.length≤1048576):Calls Tryz.prog 221 #[S n] w (zEg (zcn n) w):=by
 have HL:=Z7 (zff n w hn)
 rcases hl:labelsOf n with _|ls
 ·have hp:zcn n=none:=by unfold zcn;rw[hl]
  rw[hp];rw[hl]at HL;clear hp hl;go_enter Tryz.func221,Tryz.ntmps221;go_wp2_with fail;refine HL.out.mono ?_;rintro e w1 ⟨v,rfl,⟨A,c,rfl,ho⟩,hE⟩;go_wp2_with fail
  go_ret2
  exact⟨rfl,hE⟩
 ·have hb:=(zbv hl).2.2
  have mN:=zee hl
  have yU:Hid (Calls Tryz.prog 99 #[S n] w fun e w'=>∃A c,e=.returned (.tuple #[.slice A ls.length c,.bool true])∧Own w' w.heap.size 9 1 A ls.length c (ls.map S)∧Ext w w'):=by
   show Calls _ _ _ _ _
   have h:=HL.out
   rw[hl]at h;refine h.mono ?_;rintro e w1 ⟨v,rfl,⟨A,c,rfl,ho⟩,hE⟩;exact⟨A,c,rfl,ho,hE⟩
  rcases ls with _|⟨x,r⟩
  ·have hP:zcn n=none:=by unfold zcn;rw[hl]
   rw[hP];clear hb mN hP hl HL;go_enter Tryz.func221,Tryz.ntmps221;go_wp2_with fail;refine yU.out.mono ?_;rintro e w1 ⟨A,c,rfl,ho,hE⟩;simp only[List.length_nil];go_wp2_with fail
   go_ret2
   exact⟨rfl,hE⟩
  ·have hP:zcn n=some (zam r):=by unfold zcn;rw[hl]
   rw[hP];clear hP hl HL;have hr:∀y∈r,y.length≤255:=fun y hy=>by have:=(hb y (by simp[hy])).2;omega
   have iK:r.length≤4096:=by simp at mN;omega
   have Hr:=Z7 hr
   rw[show(x::r).length=r.length+1 from rfl]at yU
   obtain⟨m,hm⟩:∃m,m=r.length:=⟨_,rfl⟩
   rw[←hm]at yU iK;have au:(((m+1:Nat):Int)==0)=false:=by rw[beq_eq_false_iff_ne];omega
   have Hm:=Z7 hm
   clear hb mN hr hm;go_enter Tryz.func221,Tryz.ntmps221;go_wp2_with fail;refine yU.out.mono ?_;rintro e w1 ⟨A,c,rfl,ho,hE⟩;have bo:=ho.cap
   unfold maxLen at bo;obtain⟨b,off,rfl,ak,az,hc⟩:=ho.rd.2 (by omega)
   have HB:=Z7 (fun A' c' (h:Strs w1 w.heap.size (.slice A' m c') r)=>zrk w.heap.size (.slice A' m c') r w1 h Hr.out (by rw[←Hm.out];exact iK))
   by_cases cD:c=1
   ·have mO:m=0:=by have:=bo.1;omega
    have aK:Strs w1 w.heap.size (.slice (some ⟨b,off,none⟩) 0 0) r:=⟨_,0,by rw[←Hm.out,mO],by rw[←Hm.out,mO];exact Z4 _,by unfold maxLen;omega,by
     have nK:r=[]:=List.eq_nil_of_length_eq_zero (by rw[←Hm.out,mO])
     rw[nK];exact Rd.nil _ _ _ _⟩
    subst mO cD;clear hc ho;go_wp2_with fail;refine(HB.out _ _ aK).mono ?_;rintro e w2 ⟨rfl,ah⟩;go_wp2_with fail
    go_ret2
    exact⟨rfl,hE.trans ah⟩
   ·have lH:(1:Int)<(c:Int):=by have:=bo.1;omega
    have aK:Strs w1 w.heap.size (.slice (some ⟨b,off+1,none⟩) m (c - 1)) r:=⟨_,c - 1,by rw[←Hm.out],by rw[←Hm.out];omega,by unfold maxLen;omega,by simp,fun h0=>⟨b,off+1,rfl,ak,az,fun j u hu=>by
     have:=hc (j+1) u (by simpa using hu)
     rw[show off+1+j=off+(j+1)by omega]
     exact this⟩⟩
    clear hc ho;go_wp2_with fail;refine(HB.out _ _ aK).mono ?_;rintro e w2 ⟨rfl,ah⟩;go_wp2_with fail
    go_ret2
    exact⟨rfl,hE.trans ah⟩
theorem zo0 (x:List UInt8) (r:List (List UInt8)):(zam r).length<(zam (x::r)).length:=by
 rw[zc4,Z6];simp[zdk]
def szOf:Value→Nat
 | .string b=>b.size
 |_=>0
theorem zuo {m z:List UInt8} {rs b:List (List UInt8)} (hm:labelsOf m=some rs) (hz:labelsOf z=some b):
 (sameN m z=true→zd0 rs (b.map low)=true)∧(sameN m z=false→zcn m=none→zd0 rs (b.map low)=false)∧
 (sameN m z=false→∀u,zcn m=some u→∃r,labelsOf u=some r∧zd0 r (b.map low)=zd0 rs (b.map low)∧u.length<m.length):=by
 obtain⟨h1,h2,h3⟩:=zbv hm
 obtain⟨g1,g2,g3⟩:=zbv hz
 have ma:may m=true:=by unfold may;rw[hm];rfl
 have mz:may z=true:=by unfold may;rw[hz];rfl
 have hs:sameN m z=(low m==low z):=by unfold sameN;rw[ma,mz];rfl
 have oU:sameN m z=true↔rs.map low=b.map low:=by
  rw[hs,beq_iff_eq,h2,g2,zhd rs (fun x hx=>(h3 x hx).2),zhd b (fun x hx=>(g3 x hx).2)]
  constructor
  ·exact zja (fun x hx=>by obtain⟨y,hy,rfl⟩:=List.mem_map.1 hx;rw[zbg];exact h3 y hy) (fun x hx=>by obtain⟨y,hy,rfl⟩:=List.mem_map.1 hx;rw[zbg];exact g3 y hy)
  ·intro e;rw[e]
 rcases rs with _|⟨x,r⟩
 ·have hp:zcn m=none:=by unfold zcn;rw[hm]
  refine⟨fun h=>?_,fun h _=>?_,fun h u hu=>?_⟩
  ·have:=oU.1 h
   rw[zd0,decide_eq_true];simpa using this.symm
  ·rw[zd0,decide_eq_false_iff_not];intro e;rw[oU.2 (by rw[e];rfl)]at h
   cases h
  ·rw[hp]at hu;cases hu
 ·have hp:zcn m=some (zam r):=by unfold zcn;rw[hm]
  refine⟨fun h=>?_,fun h hn=>?_,fun h u hu=>?_⟩
  ·rw[zd0,decide_eq_true (oU.1 h)];rfl
  ·rw[hp]at hn;cases hn
  ·rw[hp]at hu;injection hu with hu
   subst hu;have hl:=zo0 x r
   refine⟨r,zp2 (fun y hy=>h3 y (by simp[hy])) (by rw[←h2]at hl;omega),?_,by rw[h2];exact hl⟩
   have au:¬((x::r).map low=b.map low):=fun e=>by rw[oU.2 e]at h;cases h
   rw[zd0,decide_eq_false au,Bool.false_or]
theorem zyu (n z:List UInt8) (w:World) (hn:n.length≤1048576) (hz:z.length≤1048576):
 Calls Tryz.prog 171 #[S n,S z] w fun e w'=>e=.returned (.bool (withinN n z))∧Ext w w':=by
 have HM:=Z7 (fun W=>zc3 n W hn)
 have HZ:=Z7 (fun W=>zc3 z W hz)
 rcases fS:may n with _|_
 ·rw[fS]at HM;rw[zj9 (.inl fS)];clear fS;go_enter Tryz.func171,Tryz.ntmps171;go_wp2_with fail;refine(HM.out _).mono ?_;rintro e w1 ⟨rfl,ae⟩;go_wp2_with fail;go_ret;exact⟨rfl,ae⟩
 rcases kE:may z with _|_
 ·rw[fS]at HM;rw[kE]at HZ;rw[zj9 (.inr kE)];clear fS kE;go_enter Tryz.func171,Tryz.ntmps171;go_wp2_with fail;refine(HM.out _).mono ?_;rintro e w1 ⟨rfl,ae⟩;go_wp2_with fail;refine(HZ.out _).mono ?_;rintro e w2 ⟨rfl,ah⟩;go_wp2_with fail;go_ret;exact⟨rfl,ae.trans ah⟩
 obtain⟨a,ha⟩:=zkj fS
 obtain⟨b,hb⟩:=zkj kE
 rw[fS]at HM;rw[kE]at HZ;rw[zry ha hb];have yM:=(zbv ha).1
 have yy:=(zbv hb).1
 obtain⟨W0,kA⟩:∃W0,zd0 a (b.map low)=W0:=⟨_,rfl⟩
 have BO:=Z7 kA
 rw[kA];have Ha:=Z7 ha
 have Hb:=Z7 hb
 clear kA fS kE ha hb;go_enter Tryz.func171,Tryz.ntmps171;go_wp2_with fail;refine(HM.out _).mono ?_;rintro e w1 ⟨rfl,ae⟩;go_wp2_with fail;refine(HZ.out _).mono ?_;rintro e w2 ⟨rfl,ah⟩;have gw:=ae.trans ah
 go_wp2_with fail
 go_loopw [0] (fun s wr=>∃(m:List UInt8) (rs:List (List UInt8)),s=S m∧m.length≤255∧labelsOf m=some rs∧zd0 rs (b.map low)=W0∧Ext w wr) (fun s _=>szOf s)
 case atStart=>exact⟨n,a,rfl,yM,Ha.out,BO.out,gw⟩
 case round=>
  obtain⟨m,rs,rfl,DU,Er,dR,hE⟩:=hrel
  obtain⟨wo,rfl⟩:∃wo:World,wo=wr:=⟨_,rfl⟩
  have ay:=zuo Er Hb.out
  have HS:=Z7 (fun W=>zl4 m z W (by omega) hz)
  have HP:=Z7 (fun W=>zyt m W (by omega))
  have Cq:=Z7 dR
  have yV:=Z7 ay
  clear Er dR ay;rcases hs:sameN m z with _|_
  ·rw[hs]at HS;rcases hp:zcn m with _|u
   ·rw[hp]at HP;have HF:=Z7 (show W0=false by rw[←Cq.out];exact yV.out.2.1 hs hp)
    clear hs hp;go_wp2_with fail;refine(HS.out _).mono ?_;rintro e w3 ⟨rfl,ao⟩;go_wp2_with fail;refine(HP.out _).mono ?_;rintro e w4 ⟨rfl,aL⟩;dsimp only[Option.getD,Option.isSome];go_wp2_with fail;go_ret;exact⟨zar HF.out.symm,(hE.trans ao).trans aL⟩
   ·rw[hp]at HP;obtain⟨r,hr,Es,ab⟩:=yV.out.2.2 hs u hp
    have HF:Hid (labelsOf u=some r∧zd0 r (b.map low)=W0):=⟨hr,by rw[Es];exact Cq.out⟩
    clear hs hp hr Es;go_wp2_with fail;refine(HS.out _).mono ?_;rintro e w3 ⟨rfl,ao⟩;go_wp2_with fail;refine(HP.out _).mono ?_;rintro e w4 ⟨rfl,aL⟩;dsimp only[Option.getD,Option.isSome];go_wp2_with fail;go_roundw
    case rel=>exact⟨u,r,rfl,by omega,HF.out.1,HF.out.2,(hE.trans ao).trans aL⟩
    case measure=>simp only[szOf,zcy];exact ab
  ·rw[hs]at HS;have HF:=Z7 (show W0=true by rw[←Cq.out];exact yV.out.1 hs)
   clear hs;go_wp2_with fail;refine(HS.out _).mono ?_;rintro e w3 ⟨rfl,ao⟩;go_wp2_with fail;go_ret;exact⟨zar HF.out.symm,hE.trans ao⟩
theorem zyh (n:List UInt8) (cls:Int) (nm:List UInt8) (ty cl tt:Int) (A:Option Addr) (m c:Nat) (da:List (List UInt8)) (w:World) (hn:n.length≤1048576) (hm:nm.length≤1048576):
 Calls Tryz.prog 172 #[.agg #[S nm,.int .u16 ty,.int .u16 cl,.int .u32 tt,.slice A m c],S n,.int .u16 cls] w fun e w'=>e=.returned (.bool (fitsB n cls ⟨nm,ty,cl,tt,da⟩))∧Ext w w':=by
 have HW:=Z7 (fun W=>zyu n nm W hn hm)
 have Hf:Hid (fitsB n cls ⟨nm,ty,cl,tt,da⟩=(ty==6&&(cl==cls&&withinN n nm))):=rfl
 generalize fitsB n cls ⟨nm,ty,cl,tt,da⟩=F at*;clear hn hm;by_cases bY:ty=6
 ·subst bY;by_cases dz:cl=cls
  ·subst dz;have f2:(cl==cl)=true:=by simp
   go_enter Tryz.func172,Tryz.ntmps172;go_wp2_with fail;refine(HW.out _).mono ?_;rintro e w1 ⟨rfl,ae⟩;generalize withinN n nm=b at*;go_wp2_with fail;go_ret;exact⟨zar (by rw[Hf.out];simp),((Z5 _).alloc _).trans ae⟩
  ·have f2:(cl==cls)=false:=by rw[beq_eq_false_iff_ne];exact dz
   have rZ:=Z7 (show F=false by rw[Hf.out,f2];simp)
   clear dz;go_enter Tryz.func172,Tryz.ntmps172;go_wp2_with fail;go_ret;exact⟨zar rZ.out.symm,(Z5 _).alloc _⟩
 ·have f1:(ty==6)=false:=by rw[beq_eq_false_iff_ne];exact bY
  have rZ:=Z7 (show F=false by rw[Hf.out,f1];simp)
  clear bY;go_enter Tryz.func172,Tryz.ntmps172;go_wp2_with fail;go_ret;exact⟨zar rZ.out.symm,(Z5 _).alloc _⟩
theorem zzk {l:List SetD} {n:List UInt8} {cls:Int} {k:Nat} {s:SetD} (h:l[k]? =some s) (hf:fitsB n cls s=false):zb1 l n cls (k+1)=zb1 l n cls k:=by
 rw[zha h,hf];simp
theorem zx5 {l:List SetD} {n:List UInt8} {cls:Int} {k:Nat} {s:SetD} (h:l[k]? =some s) (hf:fitsB n cls s=true) (hb:zb1 l n cls k=none):zb1 l n cls (k+1)=some (k,s):=by
 rw[zha h,hf,hb,if_pos];simp only[Bool.true_and,decide_eq_true_eq];show(-1:Int)<_;omega
theorem zzl {l:List SetD} {n:List UInt8} {cls:Int} {k:Nat} {s:SetD} {b:Nat×SetD} (h:l[k]? =some s) (hf:fitsB n cls s=true) (hb:zb1 l n cls k=some b):
 zb1 l n cls (k+1)=if decide ((zd8 b.2.name:Int)<(zd8 s.name:Int))=true then some (k,s)else some b:=by
 rw[zha h,hf,hb,Bool.true_and];rfl
theorem zpc (lo:Nat) (ps:List (SetD×Value)) (A:Option Addr) (c:Nat) (l:List SetD) (n:List UInt8) (cls:Int) (w:World) (hl:ps.map Prod.fst=l) (h1:ps.length≤c) (h2:c≤maxLen) (ay:Rd w lo 5 A ps.length (ps.flatMap setCells)) (aK:∀p∈ps,Strs w lo p.2 p.1.data) (aB:zdr l) (hn:n.length≤1048576):
 Calls Tryz.prog 113 #[.slice A ps.length c,S n,.int .u16 cls] w fun e w'=>∃d,e=.returned (.tuple #[zby ((soaFind l n cls).set.getD SetD.zero) d,.bool (soaFind l n cls).set.isSome,.int .i64 (soaFind l n cls).err])∧(∀P:Value→SetD→Prop,(∀p∈ps,P p.2 p.1)→P (.slice none 0 0) SetD.zero→P d ((soaFind l n cls).set.getD SetD.zero))∧Ext w w':=by
 unfold maxLen at h2;have aq:ps.length=l.length:=by rw[←hl];simp
 have HN:=Z7 hn
 have Hl:=Z7 hl
 have cm:=Z7 aq
 have bO:=Z7 aK
 have yV:=Z7 ay
 have HS:Hid (soaFind l n cls=zn0 (zb1 l n cls ps.length)):=by rw[aq];exact rfl
 generalize soaFind l n cls=SO at*;clear hl aq hn aK;go_enter Tryz.func113,Tryz.ntmps113;go_wp2_with fail;obtain⟨X0,ar⟩:∃X,X=w.alloc (.cells #[S [],.int .u16 0,.int .u16 0,.int .u32 0,.slice none 0 0] 79):=⟨_,rfl⟩
 rw[←ar];have Cr:Ext w X0:=by rw[ar];exact(Z5 _).alloc _
 have IN:=Z7 ar
 clear ar
 go_loopw [9,10] (fun f i wr=>∃k:Nat,k≤ps.length∧i=.int .i64 k∧f=.int .i64 (zgc (zb1 l n cls k))∧Ext X0 wr) (fun _ i _=>ps.length - (intOf i).toNat)
 case atStart=>exact⟨0,by omega,rfl,rfl,Z5 _⟩
 case round=>
  obtain⟨k,hk,rfl,rfl,dm⟩:=hrel
  obtain⟨wo,rfl⟩:∃wo:World,wo=wr:=⟨_,rfl⟩
  have hE:=Cr.trans dm
  by_cases ab:k<ps.length
  ·have hp:ps[k]? =some ps[k]:=Z3 ab
   have bi:l[k]? =some ps[k].1:=by rw[←Hl.out,List.getElem?_map,hp];rfl
   have j9:=aB ps[k].1 (List.mem_of_getElem? bi)
   have kR:=Z7 bi
   have aZ:=bO.out ps[k] (List.getElem_mem ab)
   generalize ps[k]=p at*;obtain⟨b,off,rfl,_,az,hc⟩:=ay.2 (by omega)
   obtain⟨c0,c1,c2,c3,c4⟩:=zb0 hc k p hp
   rw[←hE.cell (p:=⟨b,_,none⟩) az]at c0 c1 c2 c3 c4
   have fh:p.1.name.length≤1048576:=by omega
   have Hc:=Z7 hc
   clear hc hp ay bi;obtain⟨⟨nm,ty,cl,tt,da⟩,d⟩:=p
   dsimp only at*;obtain⟨dA,dc,rfl⟩:=aZ.shape
   have HF:=Z7 (fun W=>zyh n cls nm ty cl tt dA da.length dc da W HN.out fh)
   have HL:=Z7 (fun W=>zmc nm W fh)
   have cz:(k:Int)<(ps.length:Int):=by omega
   have cW:(0:Int)≤(k:Int):=by omega
   rcases hf:fitsB n cls ⟨nm,ty,cl,tt,da⟩with _|_
   ·have jt:=Z7 (zzk kR.out hf)
    rw[hf]at HF;clear hf;generalize hB:zb1 l n cls k=B at*;clear hB;go_wp2_with fail;have aU:b<wo.heap.size:=by have:=hE.size;omega
    have HS:=Z7 (show ∀V,Ext wo V→V.cell? ⟨b,off+k*5,none⟩=some (S nm)∧V.cell? ⟨b,off+k*5+1,none⟩=some (.int .u16 ty)∧V.cell? ⟨b,off+k*5+2,none⟩=some (.int .u16 cl)∧V.cell? ⟨b,off+k*5+3,none⟩=some (.int .u32 tt)∧V.cell? ⟨b,off+k*5+4,none⟩=some (.slice dA da.length dc)from fun V hV=>⟨(hV.cell (p:=⟨b,_,none⟩) aU).trans c0,(hV.cell (p:=⟨b,_,none⟩) aU).trans c1,(hV.cell (p:=⟨b,_,none⟩) aU).trans c2,(hV.cell (p:=⟨b,_,none⟩) aU).trans c3,(hV.cell (p:=⟨b,_,none⟩) aU).trans c4⟩)
    refine wp_region_noPanic ?_;refine zhn (S:=(fun V=>V.cell? ⟨b,off+k*5,none⟩=some (S nm)∧V.cell? ⟨b,off+k*5+1,none⟩=some (.int .u16 ty)∧V.cell? ⟨b,off+k*5+2,none⟩=some (.int .u16 cl)∧V.cell? ⟨b,off+k*5+3,none⟩=some (.int .u32 tt)∧V.cell? ⟨b,off+k*5+4,none⟩=some (.slice dA da.length dc))) [(0,true),(1,true),(2,true),(3,true),(4,true),(5,true),(6,false),(7,true),(8,true),(9,true),(10,true),(11,true),(12,true),(13,true),(14,true),(15,true),(17,true),(18,true),(19,true),(20,true),(21,true),(16,true),(22,true),(23,true),(24,true),(25,true)] (by kernel_rfl) (by kernel_rfl) (fun _ _ _ _ _ h=>h) (HS.out _ ((Z5 wo).drew)) ?_
    repeat((with_reducible refine zhb ?_);first
     |(refine zez (v:=?_) (by rfl) (by rfl) ?_ ?_;rotate_left;(focus(intro V hV;(try dsimp only at hV);(go_simp<;>with_reducible rfl)));(try simp only[ap]))
     |(refine zey (by rfl) (by rfl) ?_;(try simp only[ap])))
    refine zju (by rfl) (fun K hK=>?_)
    go_simp;refine(HF.out _).mono ?_;rintro e w1 ⟨rfl,ae⟩;refine hK.out _ _ ?_ ?_
    ·exact HS.out _ (Ext.trans ((Z5 wo).drew) ae)
    clear hK K
    (try simp only[ap])
    repeat((with_reducible refine zhb ?_);first
     |(refine zez (v:=?_) (by rfl) (by rfl) ?_ ?_;rotate_left;(focus(intro V hV;(try dsimp only at hV);(go_simp<;>with_reducible rfl)));(try simp only[ap]))
     |(refine zey (by rfl) (by rfl) ?_;(try simp only[ap])))
    refine zo3 ?_;refine NoPanic.normal ?_;have ae:Ext wo w1:=Ext.trans ((Z5 wo).drew) ae
    go_wp2_with fail;go_roundw
    case rel=>exact⟨k+1,by omega,by go_num,by rw[jt.out],dm.trans ae⟩
    case measure=>simp[intOf];omega
   ·rcases hB:zb1 l n cls k with _|⟨j,t⟩
    ·have jt:=Z7 (zx5 kR.out hf hB)
     rw[hf]at HF;clear hf hB;dsimp only[zgc];go_wp2_with fail;have aU:b<wo.heap.size:=by have:=hE.size;omega
     have HS:=Z7 (show ∀V,Ext wo V→V.cell? ⟨b,off+k*5,none⟩=some (S nm)∧V.cell? ⟨b,off+k*5+1,none⟩=some (.int .u16 ty)∧V.cell? ⟨b,off+k*5+2,none⟩=some (.int .u16 cl)∧V.cell? ⟨b,off+k*5+3,none⟩=some (.int .u32 tt)∧V.cell? ⟨b,off+k*5+4,none⟩=some (.slice dA da.length dc)from fun V hV=>⟨(hV.cell (p:=⟨b,_,none⟩) aU).trans c0,(hV.cell (p:=⟨b,_,none⟩) aU).trans c1,(hV.cell (p:=⟨b,_,none⟩) aU).trans c2,(hV.cell (p:=⟨b,_,none⟩) aU).trans c3,(hV.cell (p:=⟨b,_,none⟩) aU).trans c4⟩)
     refine wp_region_noPanic ?_;refine zhn (S:=(fun V=>V.cell? ⟨b,off+k*5,none⟩=some (S nm)∧V.cell? ⟨b,off+k*5+1,none⟩=some (.int .u16 ty)∧V.cell? ⟨b,off+k*5+2,none⟩=some (.int .u16 cl)∧V.cell? ⟨b,off+k*5+3,none⟩=some (.int .u32 tt)∧V.cell? ⟨b,off+k*5+4,none⟩=some (.slice dA da.length dc))) [(0,true),(1,true),(2,true),(3,true),(4,true),(5,true),(6,false),(7,true),(8,true),(9,true),(10,true),(11,true),(12,true),(13,true),(14,true),(15,true),(17,true),(18,true),(19,true),(20,true),(21,true),(16,true),(22,true),(23,true),(24,true),(25,true)] (by kernel_rfl) (by kernel_rfl) (fun _ _ _ _ _ h=>h) (HS.out _ ((Z5 wo).drew)) ?_
     repeat((with_reducible refine zhb ?_);first
      |(refine zez (v:=?_) (by rfl) (by rfl) ?_ ?_;rotate_left;(focus(intro V hV;(try dsimp only at hV);(go_simp<;>with_reducible rfl)));(try simp only[ap]))
      |(refine zey (by rfl) (by rfl) ?_;(try simp only[ap])))
     refine zju (by rfl) (fun K hK=>?_)
     go_simp;refine(HF.out _).mono ?_;rintro e w1 ⟨rfl,ae⟩;refine hK.out _ _ ?_ ?_
     ·exact HS.out _ (Ext.trans ((Z5 wo).drew) ae)
     clear hK K
     (try simp only[ap])
     repeat((with_reducible refine zhb ?_);first
      |(refine zez (v:=?_) (by rfl) (by rfl) ?_ ?_;rotate_left;(focus(intro V hV;(try dsimp only at hV);(go_simp<;>with_reducible rfl)));(try simp only[ap]))
      |(refine zey (by rfl) (by rfl) ?_;(try simp only[ap])))
     refine zo3 ?_;refine NoPanic.normal ?_;have ae:Ext wo w1:=Ext.trans ((Z5 wo).drew) ae
     go_wp2_with fail;go_roundw
     case rel=>exact⟨k+1,by omega,by go_num,by rw[jt.out],dm.trans ae⟩
     case measure=>simp[intOf];omega
    ·have jt:=Z7 (zzl kR.out hf hB)
     obtain⟨Et,dU⟩:=zia hB
     dsimp only at Et dU;have pP:j<ps.length:=by omega
     have li:ps[j]? =some ps[j]:=Z3 pP
     have bA:ps[j].1=t:=by
      rw[←Hl.out,List.getElem?_map,li]at dU;exact Option.some.inj dU
     have zI:=aB t (List.mem_of_getElem? dU)
     obtain⟨x0,x1,x2,x3,x4⟩:=zb0 Hc.out j _ li
     rw[←hE.cell (p:=⟨b,_,none⟩) az]at x0
     rw[bA]at x0;have DB:t.name.length≤1048576:=by omega
     have HT:=Z7 (fun W=>zmc t.name W DB)
     have qF:(j:Int)<(ps.length:Int):=by omega
     have iX:(0:Int)≤(j:Int):=by omega
     have Ec:decide ((j:Int)<0)=false:=by simp
     rw[hf]at HF;clear hf hB Et dU li bA zI x1 x2 x3 x4;dsimp only[zgc]at*;obtain⟨tn,sJ⟩:∃tn,t.name=tn:=⟨_,rfl⟩
     have Eu:=Z7 sJ
     rw[sJ]at HT x0;clear sJ;go_wp2_with fail;have aU:b<wo.heap.size:=by have:=hE.size;omega
     have HS:=Z7 (show ∀V,Ext wo V→V.cell? ⟨b,off+k*5,none⟩=some (S nm)∧V.cell? ⟨b,off+k*5+1,none⟩=some (.int .u16 ty)∧V.cell? ⟨b,off+k*5+2,none⟩=some (.int .u16 cl)∧V.cell? ⟨b,off+k*5+3,none⟩=some (.int .u32 tt)∧V.cell? ⟨b,off+k*5+4,none⟩=some (.slice dA da.length dc)∧V.cell? ⟨b,off+j*5,none⟩=some (S tn)from fun V hV=>⟨(hV.cell (p:=⟨b,_,none⟩) aU).trans c0,(hV.cell (p:=⟨b,_,none⟩) aU).trans c1,(hV.cell (p:=⟨b,_,none⟩) aU).trans c2,(hV.cell (p:=⟨b,_,none⟩) aU).trans c3,(hV.cell (p:=⟨b,_,none⟩) aU).trans c4,(hV.cell (p:=⟨b,_,none⟩) aU).trans x0⟩)
     refine wp_region_noPanic ?_;refine zhn (S:=(fun V=>V.cell? ⟨b,off+k*5,none⟩=some (S nm)∧V.cell? ⟨b,off+k*5+1,none⟩=some (.int .u16 ty)∧V.cell? ⟨b,off+k*5+2,none⟩=some (.int .u16 cl)∧V.cell? ⟨b,off+k*5+3,none⟩=some (.int .u32 tt)∧V.cell? ⟨b,off+k*5+4,none⟩=some (.slice dA da.length dc)∧V.cell? ⟨b,off+j*5,none⟩=some (S tn))) [(0,true),(1,true),(2,true),(3,true),(4,true),(5,true),(6,false),(7,true),(8,true),(9,true),(10,true),(11,true),(12,true),(13,true),(14,true),(15,true),(17,true),(18,true),(19,true),(20,true),(21,true),(16,false),(22,false),(23,true),(24,true),(25,true)] (by kernel_rfl) (by kernel_rfl) (fun _ _ _ _ _ h=>h) (HS.out _ ((Z5 wo).drew)) ?_
     repeat((with_reducible refine zhb ?_);first
      |(refine zez (v:=?_) (by rfl) (by rfl) ?_ ?_;rotate_left;(focus(intro V hV;(try dsimp only at hV);(go_simp<;>with_reducible rfl)));(try simp only[ap]))
      |(refine zey (by rfl) (by rfl) ?_;(try simp only[ap])))
     refine zju (by rfl) (fun K hK=>?_)
     go_simp;refine(HF.out _).mono ?_;rintro e w1 ⟨rfl,ae⟩;refine hK.out _ _ ?_ ?_
     ·exact HS.out _ (Ext.trans ((Z5 wo).drew) ae)
     clear hK K
     (try simp only[ap])
     have a7:Ext wo w1:=Ext.trans ((Z5 wo).drew) ae
     repeat((with_reducible refine zhb ?_);first
      |(refine zez (v:=?_) (by rfl) (by rfl) ?_ ?_;rotate_left;(focus(intro V hV;(try dsimp only at hV);(go_simp<;>with_reducible rfl)));(try simp only[ap]))
      |(refine zey (by rfl) (by rfl) ?_;(try simp only[ap])))
     refine zju (by rfl) (fun K hK=>?_)
     go_simp;refine(HL.out _).mono ?_;rintro e w2 ⟨rfl,ah⟩;refine hK.out _ _ ?_ ?_
     ·exact HS.out _ (a7.trans ah)
     clear hK K
     (try simp only[ap])
     have ic:Ext wo w2:=a7.trans ah
     repeat((with_reducible refine zhb ?_);first
      |(refine zez (v:=?_) (by rfl) (by rfl) ?_ ?_;rotate_left;(focus(intro V hV;(try dsimp only at hV);(go_simp<;>with_reducible rfl)));(try simp only[ap]))
      |(refine zey (by rfl) (by rfl) ?_;(try simp only[ap])))
     refine zju (by rfl) (fun K hK=>?_)
     go_simp;refine(HT.out _).mono ?_;rintro e w3 ⟨rfl,ao⟩;refine hK.out _ _ ?_ ?_
     ·exact HS.out _ (ic.trans ao)
     clear hK K
     (try simp only[ap])
     have lI:Ext wo w3:=ic.trans ao
     repeat((with_reducible refine zhb ?_);first
      |(refine zez (v:=?_) (by rfl) (by rfl) ?_ ?_;rotate_left;(focus(intro V hV;(try dsimp only at hV);(go_simp<;>with_reducible rfl)));(try simp only[ap]))
      |(refine zey (by rfl) (by rfl) ?_;(try simp only[ap])))
     refine zo3 ?_;refine NoPanic.normal ?_;rcases hd:decide ((zd8 tn:Int)<(zd8 nm:Int))with _|_
     ·have ZY:Hid (zb1 l n cls (k+1)=some (j,t)):=Z7 (by rw[jt.out,Eu.out,hd];exact if_neg (by decide))
      have i4:=of_decide_eq_false hd
      have IO:decide ((zd8 nm:Int)>(zd8 tn:Int))=false:=hd
      go_wp2_with fail;go_roundw
      case rel=>exact⟨k+1,by omega,by go_num,by rw[ZY.out],dm.trans lI⟩
      case measure=>simp[intOf];omega
     ·have ZY:Hid (zb1 l n cls (k+1)=some (k,⟨nm,ty,cl,tt,da⟩)):=Z7 (by rw[jt.out,Eu.out,hd];exact if_pos rfl)
      have i4:=of_decide_eq_true hd
      have IO:decide ((zd8 nm:Int)>(zd8 tn:Int))=true:=hd
      go_wp2_with fail;go_roundw
      case rel=>exact⟨k+1,by omega,by go_num,by rw[ZY.out],dm.trans lI⟩
      case measure=>simp[intOf];omega
  ·obtain rfl:k=ps.length:=by omega
   obtain⟨hq,bU,bP⟩:=zai w.heap.size rfl (show Ext (w.alloc _) wo by rw[←IN.out];exact dm)
   rcases hB:zb1 l n cls ps.length with _|⟨j,t⟩
   ·have p9:Hid (SO=⟨none,0⟩):=Z7 (by rw[HS.out,hB];rfl)
    clear hB;dsimp only[zgc];go_wp2_with fail;obtain⟨X,hX⟩:∃X,X=((((wo.setCell ⟨w.heap.size,0,none⟩ (S [])).setCell ⟨w.heap.size,1,none⟩ (.int .u16 0)).setCell ⟨w.heap.size,2,none⟩ (.int .u16 0)).setCell ⟨w.heap.size,3,none⟩ (.int .u32 0)).setCell ⟨w.heap.size,4,none⟩ (.slice none 0 0):=⟨_,rfl⟩
    have r9:∀j,X.cell? ⟨w.heap.size,j,none⟩= #[S [],.int .u16 0,.int .u16 0,.int .u32 0,.slice none 0 0][j]? :=by rw[hX];exact zhj hq (S []) (.int .u16 0) (.int .u16 0) (.int .u32 0) (.slice none 0 0)
    have sb:∀j,X.frozen? ⟨w.heap.size,j,none⟩=false:=fun j=>by rw[hX];simpa using bU j
    have gh:Ext w X:=by rw[hX];exact xt
    have sf:w.heap.size<X.heap.size:=by rw[hX];simp;omega
    refine(show _ from ?_:bodyPost Tryz.prog Tryz.f113 _ Exit.ret _ (((((wo.setCell ⟨w.heap.size,0,none⟩ (S [])).setCell ⟨w.heap.size,1,none⟩ (.int .u16 0)).setCell ⟨w.heap.size,2,none⟩ (.int .u16 0)).setCell ⟨w.heap.size,3,none⟩ (.int .u32 0)).setCell ⟨w.heap.size,4,none⟩ (.slice none 0 0)))
    rw[←hX];refine bodyPost_ret (v:=.tuple #[zby SetD.zero (.slice none 0 0),.bool false,.int .i64 0]) (by simp[results,Tryz.results113,go_sem,r9,sb,sf,SetD.zero]) rfl ?_
    refine⟨_,by rw[p9.out];rfl,?_,gh⟩
    intro P _ vQ;rw[p9.out];exact vQ
   ·obtain⟨hj,jR⟩:=zia hB
    dsimp only at hj jR;have j9:=aB t (List.mem_of_getElem? jR)
    have hp:ps[j]? =some ps[j]:=Z3 hj
    have bA:ps[j].1=t:=by
     rw[←Hl.out,List.getElem?_map,hp]at jR;exact Option.some.inj jR
    have aZ:=bO.out ps[j] (List.getElem_mem hj)
    have i9:ps[j]∈ps:=List.getElem_mem hj
    generalize ps[j]=p at*;obtain⟨⟨nm,ty,cl,tt,da⟩,d⟩:=p
    dsimp only at*;subst bA;obtain⟨b,off,rfl,_,az,hc⟩:=ay.2 (by omega)
    obtain⟨c0,c1,c2,c3,c4⟩:=zb0 hc j _ hp
    have wH:=Z7 aZ
    have xD:=Z7 i9
    clear i9;obtain⟨dA,dc,rfl⟩:=aZ.shape
    have eV:(0:Int)≤(j:Int):=by omega
    have qF:(j:Int)<(ps.length:Int):=by omega
    have Ec:decide ((j:Int)<0)=false:=by simp
    rw[←hE.cell (p:=⟨b,_,none⟩) az]at c0 c1 c2 c3 c4
    clear hc jR hp ay aZ;dsimp only[zgc];by_cases fB:da.length=1
    ·have p9:Hid (SO=⟨some ⟨nm,ty,cl,tt,da⟩,0⟩):=Z7 (by rw[HS.out,hB];exact if_pos fB)
     have f1:((da.length:Int)!=1)=false:=by rw[fB];rfl
     clear hB fB;go_wp2_with fail;obtain⟨X,hX⟩:∃X,X=((((wo.setCell ⟨w.heap.size,0,none⟩ (S nm)).setCell ⟨w.heap.size,1,none⟩ (.int .u16 ty)).setCell ⟨w.heap.size,2,none⟩ (.int .u16 cl)).setCell ⟨w.heap.size,3,none⟩ (.int .u32 tt)).setCell ⟨w.heap.size,4,none⟩ (.slice dA da.length dc):=⟨_,rfl⟩
     have r9:∀j,X.cell? ⟨w.heap.size,j,none⟩= #[S nm,.int .u16 ty,.int .u16 cl,.int .u32 tt,.slice dA da.length dc][j]? :=by rw[hX];exact zhj hq (S nm) (.int .u16 ty) (.int .u16 cl) (.int .u32 tt) (.slice dA da.length dc)
     have sb:∀j,X.frozen? ⟨w.heap.size,j,none⟩=false:=fun j=>by rw[hX];simpa using bU j
     have gh:Ext w X:=by rw[hX];exact xt
     have sf:w.heap.size<X.heap.size:=by rw[hX];simp;omega
     refine(show _ from ?_:bodyPost Tryz.prog Tryz.f113 _ Exit.ret _ (((((wo.setCell ⟨w.heap.size,0,none⟩ (S nm)).setCell ⟨w.heap.size,1,none⟩ (.int .u16 ty)).setCell ⟨w.heap.size,2,none⟩ (.int .u16 cl)).setCell ⟨w.heap.size,3,none⟩ (.int .u32 tt)).setCell ⟨w.heap.size,4,none⟩ (.slice dA da.length dc)))
     rw[←hX];refine bodyPost_ret (v:=.tuple #[zby ⟨nm,ty,cl,tt,da⟩ (.slice dA da.length dc),.bool true,.int .i64 0]) (by simp[results,Tryz.results113,go_sem,r9,sb,sf,SetD.zero]) rfl ?_
     refine⟨_,by rw[p9.out];rfl,?_,gh⟩
     intro P yE _;rw[p9.out]
     first|exact yE _ xD.out|exact yE _ _ xD.out
    ·have p9:Hid (SO=⟨none,3⟩):=Z7 (by rw[HS.out,hB];exact if_neg fB)
     obtain⟨f1,f2⟩:=zin fB
     clear hB fB;go_wp2_with fail;obtain⟨X,hX⟩:∃X,X=((((wo.setCell ⟨w.heap.size,0,none⟩ (S [])).setCell ⟨w.heap.size,1,none⟩ (.int .u16 0)).setCell ⟨w.heap.size,2,none⟩ (.int .u16 0)).setCell ⟨w.heap.size,3,none⟩ (.int .u32 0)).setCell ⟨w.heap.size,4,none⟩ (.slice none 0 0):=⟨_,rfl⟩
     have r9:∀j,X.cell? ⟨w.heap.size,j,none⟩= #[S [],.int .u16 0,.int .u16 0,.int .u32 0,.slice none 0 0][j]? :=by rw[hX];exact zhj hq (S []) (.int .u16 0) (.int .u16 0) (.int .u32 0) (.slice none 0 0)
     have sb:∀j,X.frozen? ⟨w.heap.size,j,none⟩=false:=fun j=>by rw[hX];simpa using bU j
     have gh:Ext w X:=by rw[hX];exact xt
     have sf:w.heap.size<X.heap.size:=by rw[hX];simp;omega
     refine(show _ from ?_:bodyPost Tryz.prog Tryz.f113 _ Exit.ret _ (((((wo.setCell ⟨w.heap.size,0,none⟩ (S [])).setCell ⟨w.heap.size,1,none⟩ (.int .u16 0)).setCell ⟨w.heap.size,2,none⟩ (.int .u16 0)).setCell ⟨w.heap.size,3,none⟩ (.int .u32 0)).setCell ⟨w.heap.size,4,none⟩ (.slice none 0 0)))
     rw[←hX];refine bodyPost_ret (v:=.tuple #[zby SetD.zero (.slice none 0 0),.bool false,.int .i64 3]) (by simp[results,Tryz.results113,go_sem,r9,sb,sf,SetD.zero]) rfl ?_
     refine⟨_,by rw[p9.out];rfl,?_,gh⟩
     intro P _ vQ;rw[p9.out];exact vQ
theorem zvp (nm:List UInt8) (ty cl tt:Int) (d:List UInt8):targetS ⟨nm,ty,cl,tt,[d]⟩=if may d then some (fold d)else none:=by
 unfold targetS;simp only;rw[zvi (by simp)]
 by_cases h:may d=true
 ·simp[h]
 ·simp[h]
theorem zuj (s:SetD) (h:s.data.length≠1):targetS s=none:=by
 unfold targetS
 match hd:s.data,h with
 |[],_=>rfl
 |[_],h=>exact absurd rfl h
 |_::_::_,_=>rfl
structure RFInv (w w1:World) (lo:Nat) (l:List SetD) (ty cls:Int) (R:FolR) (here:List UInt8) (seen:List (List UInt8)) (ps:List (SetD×Value)) (sA:Option Addr) (sc:Nat) (pA:Option Addr) (pc:Nat) (wr:World):Prop where
 h8:ps.length≤8
 hs:seen.length=ps.length+1
 hh:here.length≤255
 oseen:Own wr w1.heap.size 9 1 sA seen.length sc (seen.map S)
 opath:Own wr w1.heap.size 79 5 pA ps.length pc (ps.flatMap setCells)
 datas:∀p∈ps,Strs w lo p.2 p.1.data
 ext:Ext w1 wr
 eq:R=followF l ty cls (9 - ps.length) here seen (ps.map Prod.fst)
def zuq (R:FolR) (w:World) (e:Ending) (w':World):Prop:=
 ∃v u,e=.returned (.tuple #[v,S R.here,u,.int .i64 R.err])∧Sets w' 0 v R.path∧Sets w' 0 u R.fin∧Ext w w'
theorem Sets.nil9 (w:World) (lo:Nat):Sets w lo (.slice none 0 0) []:=(OSets.nil w lo).sets
theorem Own.sets {w w':World} {lo lo':Nat} {A:Option Addr} {c:Nat} {ps:List (SetD×Value)} (h:Own w' lo' 79 5 A ps.length c (ps.flatMap setCells)) (hd:∀p∈ps,Strs w lo p.2 p.1.data) (hE:Ext w w'):Sets w' 0 (.slice A ps.length c) (ps.map Prod.fst):=
 ⟨ps,A,c,rfl,rfl,h.cap.1,h.cap.2,h.rd.lower (Nat.zero_le _),fun p hp=>((hd p hp).ext hE).lower (Nat.zero_le _)⟩
theorem zE0 {w:World} {lo:Nat} {d:Value} {x:List UInt8} (h:Strs w lo d [x]):∃b off c,d=.slice (some ⟨b,off,none⟩) 1 c∧b<w.heap.size∧w.cell? ⟨b,off,none⟩=some (S x)∧1≤c∧c≤maxLen:=by
 obtain⟨A,c,rfl,h1,h2,ay⟩:=h
 obtain⟨b,off,rfl,_,hb,hc⟩:=ay.2 (by simp)
 exact⟨b,off,c,rfl,hb,hc 0 _ rfl,h1,h2⟩
theorem zyr (lo:Nat) (n:List UInt8) (ty cls:Int) (v:Value) (l:List SetD) (w:World) (hS:Sets w lo v l) (aB:zdr l) (hn:n.length≤1048576):
 Calls Tryz.prog 110 #[.agg #[S n,.int .u16 ty,.int .u16 cls],v] w (zuq (followOf n ty cls l) w):=by
 by_cases hm:may n=true
 ·have hR:followOf n ty cls l=followF l ty cls 9 (fold n) [fold n] []:=by unfold followOf;rw[if_pos hm]
  rw[hR];clear hR;obtain⟨R,hR⟩:∃R,R=followF l ty cls 9 (fold n) [fold n] []:=⟨_,rfl⟩
  rw[←hR];have HR:=Z7 hR
  clear hR;have fw:=ze4 n
  have vi:=Z7 (fun W=>zgu n W (by omega))
  have mY:=Z7 (fun W=>zc3 n W (by omega))
  rw[hm]at mY;obtain⟨i0,aH,aF,aC,ax⟩:=info_parts zed
  obtain⟨j0,iX,kO,jA,gS⟩:=info_parts zfx
  go_enter Tryz.func110,Tryz.ntmps110;go_wp2_with fail;refine(mY.out _).mono ?_;rintro e w0 ⟨rfl,aD⟩;obtain⟨hq,bU,bP⟩:=zap aD
  go_wp2_with fail;refine(vi.out _).mono ?_;rintro e w1 ⟨rfl,xE⟩;have ae:=aD.trans xE
  generalize fold n=here0 at*;clear hq bU bP aD xE;go_wp2_with fail;have bR:Ext w w1:=((Z5 w).alloc _).trans ae
  go_loopw [8,9,10] (fun h s p wr=>∃(here:List UInt8) (seen:List (List UInt8)) (ps:List (SetD×Value)) (sA:Option Addr) (sc:Nat) (pA:Option Addr) (pc:Nat),h=S here∧s=.slice sA seen.length sc∧p=.slice pA ps.length pc∧RFInv w w1 lo l ty cls R here seen ps sA sc pA pc wr) (fun _ _ p _=>8 - lenOf p)
  case atStart=>
   refine⟨here0,[here0],[],_,1,none,0,rfl,rfl,rfl,⟨by simp,rfl,fw,zeq w1 _ _ rfl (Z4 _) _ _ 1 1 rfl (by unfold maxLen;omega),Own.nil _ _ _ _,by simp,(Z5 _).alloc _,HR.out⟩⟩
  case round=>
   obtain⟨here,seen,ps,sA,sc,pA,pc,rfl,rfl,rfl,hI⟩:=hrel
   obtain⟨wo,rfl⟩:∃wo:World,wo=wr:=⟨_,rfl⟩
   have h8:=hI.h8
   have hs:=hI.hs
   have cr:=bR.trans hI.ext
   obtain⟨hq,bU,bP⟩:=zap (ae.trans hI.ext)
   have dx:wo.cell? ⟨w.heap.size,1,none⟩=some (.int .u16 ty):=hq 1
   have eS:wo.cell? ⟨w.heap.size,2,none⟩=some (.int .u16 cls):=hq 2
   have hF:=hI.eq
   rw[show 9 - ps.length=(8 - ps.length)+1 by omega]at hF
   simp only[followF]at hF;have HS:=Z7 hs
   clear hs hq bU;have j5:=Z7 (fun k W (hW:Ext w W)=>zDu lo v l here k cls w W hS hW aB (by have:=hI.hh;omega))
   by_cases bY:ty=5
   ·rw[if_pos bY]at hF;have HF:=Z7 hF
    clear hF;have f5:(ty==5)=true:=by rw[beq_iff_eq];exact bY
    have f6:(ty !=5)=false:=by rw[bne,f5];rfl
    clear bY;go_wp2_with fail;refine(j5.out ty _ cr).mono ?_;rintro e w5 ⟨d5,rfl,cw,am⟩;obtain⟨dA5,dc5,rfl⟩:=cw.shape
    rcases cE:zbo l here ty cls with _|s5
    ·have eR:=Z7 cE
     rw[cE]at cw;clear cE;dsimp only[Option.getD,Option.isSome]at cw ⊢;go_wp2_with fail;refine bodyPost_ret (zax rfl _ _ _) rfl ?_;have aN:=am.alloc (.cells #[S SetD.zero.name,.int .u16 SetD.zero.typ,.int .u16 SetD.zero.cls,.int .u32 SetD.zero.ttl,.slice dA5 SetD.zero.data.length dc5] 79)
     refine⟨_,_,by rw[HF.out,eR.out];rfl,?_,?_,cr.trans aN⟩
     ·rw[HF.out];exact(hI.opath.ext aN).sets hI.datas (cr.trans aN)
     ·rw[HF.out,eR.out];exact Sets.nil9 _ _
    ·have eR:=Z7 cE
     rw[cE]at cw;clear cE;dsimp only[Option.getD,Option.isSome]at cw ⊢;go_wp2_with fail;go_region;go_wp2_with fail;refine bodyPost_ret (zax rfl _ _ _) rfl ?_;have aN:Ext wo _:=(am.alloc (.cells #[S s5.name,.int .u16 s5.typ,.int .u16 s5.cls,.int .u32 s5.ttl,.slice dA5 s5.data.length dc5] 79)).drew.alloc (.cells #[S s5.name,.int .u16 s5.typ,.int .u16 s5.cls,.int .u32 s5.ttl,.slice dA5 s5.data.length dc5] 79)
     refine⟨_,_,by rw[HF.out,eR.out];rfl,?_,?_,cr.trans aN⟩
     ·rw[HF.out];exact(hI.opath.ext aN).sets hI.datas (cr.trans aN)
     ·rw[HF.out,eR.out];exact Own.sets (ps:=[(s5,.slice dA5 s5.data.length dc5)]) (zeq _ _ 0 (by simp) (Nat.zero_le _) _ _ 1 5 rfl (by unfold maxLen;omega)) (fun p hp=>by rw[List.mem_singleton]at hp;subst hp;exact cw) (cr.trans aN)
   ·rw[if_neg bY]at hF;have f5:(ty==5)=false:=by rw[beq_eq_false_iff_ne];exact bY
    have f6:(ty !=5)=true:=by rw[bne,f5];rfl
    clear bY;go_wp2_with fail;refine(j5.out 5 _ cr).mono ?_;rintro e w2 ⟨d2,rfl,aI,ah⟩;obtain⟨dA2,dc2,rfl⟩:=aI.shape
    obtain⟨hr,zg,zh⟩:=zap ((ae.trans hI.ext).trans ah)
    have kb:w2.cell? ⟨w.heap.size,1,none⟩=some (.int .u16 ty):=hr 1
    have eM:w2.cell? ⟨w.heap.size,2,none⟩=some (.int .u16 cls):=hr 2
    clear hr zg dx eS bP;rcases lr:zbo l here 5 cls with _|a
    ·rw[lr]at hF aI;have HF:=Z7 hF
     clear hF lr;dsimp only[Option.getD,Option.isSome]at aI ⊢;have du:=ah.alloc (.cells #[S SetD.zero.name,.int .u16 SetD.zero.typ,.int .u16 SetD.zero.cls,.int .u32 SetD.zero.ttl,.slice dA2 SetD.zero.data.length dc2] 79)
     have cq:=cr.trans du
     go_wp2_with fail;refine(j5.out ty _ cq).mono ?_;rintro e w5 ⟨d5,rfl,cw,am⟩;obtain⟨dA5,dc5,rfl⟩:=cw.shape
     rcases cE:zbo l here ty cls with _|s5
     ·have eR:=Z7 cE
      rw[cE]at cw;clear cE;dsimp only[Option.getD,Option.isSome]at cw ⊢;go_wp2_with fail;refine bodyPost_ret (zax rfl _ _ _) rfl ?_;have aN:=(du.trans am).alloc (.cells #[S SetD.zero.name,.int .u16 SetD.zero.typ,.int .u16 SetD.zero.cls,.int .u32 SetD.zero.ttl,.slice dA5 SetD.zero.data.length dc5] 79)
      refine⟨_,_,by rw[HF.out,eR.out];rfl,?_,?_,cr.trans aN⟩
      ·rw[HF.out];exact(hI.opath.ext aN).sets hI.datas (cr.trans aN)
      ·rw[HF.out,eR.out];exact Sets.nil9 _ _
     ·have eR:=Z7 cE
      rw[cE]at cw;clear cE;dsimp only[Option.getD,Option.isSome]at cw ⊢;go_wp2_with fail;go_region;go_wp2_with fail;refine bodyPost_ret (zax rfl _ _ _) rfl ?_;have aN:Ext wo _:=((du.trans am).alloc (.cells #[S s5.name,.int .u16 s5.typ,.int .u16 s5.cls,.int .u32 s5.ttl,.slice dA5 s5.data.length dc5] 79)).drew.alloc (.cells #[S s5.name,.int .u16 s5.typ,.int .u16 s5.cls,.int .u32 s5.ttl,.slice dA5 s5.data.length dc5] 79)
      refine⟨_,_,by rw[HF.out,eR.out];rfl,?_,?_,cr.trans aN⟩
      ·rw[HF.out];exact(hI.opath.ext aN).sets hI.datas (cr.trans aN)
      ·rw[HF.out,eR.out];exact Own.sets (ps:=[(s5,.slice dA5 s5.data.length dc5)]) (zeq _ _ 0 (by simp) (Nat.zero_le _) _ _ 1 5 rfl (by unfold maxLen;omega)) (fun p hp=>by rw[List.mem_singleton]at hp;subst hp;exact cw) (cr.trans aN)
    ·rw[lr]at hF aI;have zk:=Z7 lr
     clear lr;dsimp only[Option.getD,Option.isSome]at aI ⊢;simp only[List.length_map]at hF;have du:=ah.alloc (.cells #[S a.name,.int .u16 a.typ,.int .u16 a.cls,.int .u32 a.ttl,.slice dA2 a.data.length dc2] 79)
     have cq:=cr.trans du
     have qk:=aB a (zqz zk.out)
     by_cases nr:ps.length=8
     ·rw[if_pos nr]at hF;have HF:=Z7 hF
      have f8:(8:Int)≤(ps.length:Int):=by omega
      clear hF nr;go_wp2_with fail;refine bodyPost_ret (zax rfl _ _ _) rfl ?_;exact⟨_,_,by rw[HF.out];rfl,by rw[HF.out];exact Sets.nil9 _ _,by rw[HF.out];exact Sets.nil9 _ _,cq⟩
     ·rw[if_neg nr]at hF;have f8:(ps.length:Int)<8:=by omega
      have EP:ps.length≤7:=by omega
      clear nr;go_wp2_with fail;refine(j5.out ty _ cq).mono ?_;rintro e w4 ⟨d4,rfl,bS,aL⟩;obtain⟨dA4,dc4,rfl⟩:=bS.shape
      have fx:=cq.trans aL
      obtain⟨ha,IP,Kj⟩:=zap aL
      have IQ:w4.cell? ⟨w2.heap.size,0,none⟩=some (S a.name):=ha 0
      have tq:w4.cell? ⟨w2.heap.size,1,none⟩=some (.int .u16 a.typ):=ha 1
      have tu:w4.cell? ⟨w2.heap.size,2,none⟩=some (.int .u16 a.cls):=ha 2
      have fo:w4.cell? ⟨w2.heap.size,3,none⟩=some (.int .u32 a.ttl):=ha 3
      have yW:w4.cell? ⟨w2.heap.size,4,none⟩=some (.slice dA2 a.data.length dc2):=ha 4
      clear ha IP kb eM zh;obtain⟨B4,iP⟩:∃B:Bool,B=(zbo l here ty cls).isSome:=⟨_,rfl⟩
      rw[←iP]at hF ⊢;generalize gg:(zbo l here ty cls).getD SetD.zero=s4 at*;obtain⟨sn4,st4,sc4,sl4,sd4⟩:=s4
      dsimp only at bS ⊢;have gT:=aL.alloc (.cells #[S sn4,.int .u16 st4,.int .u16 sc4,.int .u32 sl4,.slice dA4 sd4.length dc4] 79)
      have ke:Ext wo _:=du.trans gT
      have gV:=cr.trans ke
      clear gg iP;obtain⟨an,at_,ac,al,ad⟩:=a
      dsimp only at*;by_cases eT:ad.length=1
      ·obtain⟨x,rfl⟩:=List.length_eq_one_iff.1 eT
       rw[zvp]at hF;have hx:=qk.2.2 x (by simp)
       obtain⟨xb,xo,xc,e2,tS,Ev,IR,IS⟩:=zE0 aI
       injection e2 with e2 _ e3
       subst e2 e3;have Cs:=(fx.cell (p:=⟨xb,xo,none⟩) tS).trans Ev
       have Ct:xb<w4.heap.size:=Z1 tS fx.size
       have tU:=Z7 (fun W=>zc3 x W (by omega))
       have nV:=Z7 (fun W=>zgu x W (by omega))
       have Ew:=ze4 x
       simp only[List.length_singleton]at*;rcases tw:may x with _|_
       ·rw[tw]at tU hF;simp only[Bool.false_eq_true,if_false]at hF;have HF:=Z7 hF
        clear hF tw;go_wp2_with fail;refine(tU.out _).mono ?_;rintro e w6 ⟨rfl,aw⟩;go_wp2_with fail;refine bodyPost_ret (zax rfl _ _ _) rfl ?_;exact⟨_,_,by rw[HF.out];rfl,by rw[HF.out];exact Sets.nil9 _ _,by rw[HF.out];exact Sets.nil9 _ _,gV.trans aw⟩
       ·rw[tw]at tU hF;simp only[if_true]at hF;clear tw;rcases B4 with _|_
        ·simp only[Bool.false_eq_true,if_false]at hF;go_wp2_with fail;refine(tU.out _).mono ?_;rintro e w6 ⟨rfl,aw⟩;have xF:=ke.trans aw
         have lP:=cr.trans xF
         obtain⟨hd,tV,yX⟩:=zap (gT.trans aw)
         have eV:w6.cell? ⟨w2.heap.size,0,none⟩=some (S an):=hd 0
         have fB:w6.cell? ⟨w2.heap.size,1,none⟩=some (.int .u16 at_):=hd 1
         have uw:w6.cell? ⟨w2.heap.size,2,none⟩=some (.int .u16 ac):=hd 2
         have na:w6.cell? ⟨w2.heap.size,3,none⟩=some (.int .u32 al):=hd 3
         have IT:w6.cell? ⟨w2.heap.size,4,none⟩=some (.slice (some ⟨xb,xo,none⟩) 1 dc2):=hd 4
         have Cu:=(lP.cell (p:=⟨xb,xo,none⟩) tS).trans Ev
         clear hd tV yX Cs Ct IQ tq tu fo yW;have Cv:xb<w6.heap.size:=Z1 tS lP.size
         go_wp2_with fail;refine(nV.out _).mono ?_;rintro e w7 ⟨rfl,aS⟩;have kK:=xF.trans aS
         have oh:=cr.trans kK
         obtain⟨hd,tV,yX⟩:=zap ((gT.trans aw).trans aS)
         have yu:w7.cell? ⟨w2.heap.size,0,none⟩=some (S an):=hd 0
         have bh:w7.cell? ⟨w2.heap.size,1,none⟩=some (.int .u16 at_):=hd 1
         have ci:w7.cell? ⟨w2.heap.size,2,none⟩=some (.int .u16 ac):=hd 2
         have dQ:w7.cell? ⟨w2.heap.size,3,none⟩=some (.int .u32 al):=hd 3
         have cY:w7.cell? ⟨w2.heap.size,4,none⟩=some (.slice (some ⟨xb,xo,none⟩) 1 dc2):=hd 4
         clear hd tV yX eV fB uw na IT Cu Cv nV tU;generalize fold x=next at*
         have sK:=hI.oseen.ext kK
         have kw:=hI.opath.ext kK
         have uL:seen.length≤9:=by have:=HS.out;omega
         go_wp2_with fail
         go_loop [15] (fun i=>∃k:Nat,k≤seen.length∧i=.int .i64 k∧(seen.take k).contains next=false) (fun i=>seen.length - (intOf i).toNat)
         case atStart=>exact⟨0,by omega,rfl,rfl⟩
         case round=>
          obtain⟨k,hk,rfl,bT⟩:=hrel
          have fN:=Z7 bT
          clear bT;by_cases ab:k<seen.length
          ·obtain⟨gs,rfl,_,IU,_,a9⟩:=sK.addr (by omega)
           have fv:=a9 k (S seen[k]) (by simp[Z3 ab])
           obtain⟨y,hy⟩:∃y,y=seen[k]:=⟨_,rfl⟩
           rw[←hy]at fv;have Hy:=Z7 hy
           have cz:(k:Int)<(seen.length:Int):=by omega
           have cW:(0:Int)≤(k:Int):=by omega
           clear a9 hy;by_cases tW:y=next
           ·have f1:=zue tW
            have fj:seen.contains next=true:=by rw[List.contains_iff_mem,←tW,Hy.out];exact List.getElem_mem ab
            rw[if_pos fj]at hF;have HF:=Z7 hF
            clear tW hF fj;go_wp2_with fail;refine bodyPost_ret (zax rfl _ _ _) rfl ?_;exact⟨_,_,by rw[HF.out];rfl,by rw[HF.out];exact Sets.nil9 _ _,by rw[HF.out];exact Sets.nil9 _ _,oh⟩
           ·have f1:=ziu tW
            have IV:=Z7 tW
            have vi:=Z7 hF
            clear tW hF;go_wp2_with fail;go_round
            case rel=>
             refine⟨k+1,by omega,by go_num,?_⟩
             rw[zat seen k ab,←Hy.out];have h3:=fN.out
             simp[List.contains_eq_any_beq]at h3 ⊢;exact⟨h3,fun e=>IV.out e.symm⟩
            case measure=>simp[intOf];omega
          ·have fj:seen.contains next=false:=by
            have:=fN.out
            rwa[List.take_of_length_le (by omega)]at this
           rw[if_neg (by rw[fj];simp)]at hF
           have HF:=Z7 hF
           clear hF fj;have cB:w2.heap.size<w7.heap.size:=Z1 (by simp) ((gT.trans aw).trans aS).size
           go_wp2_with(first
            |(at_builtin
              refine zad _ rfl (.tmp 85) (.tmp 87) _ rfl w1.heap.size 9 i0 _ 1 16 Tryz.underlying77 aH aF aC ax rfl (by omega) sA seen.length sc (seen.map S) rfl (sK.ext ((Z5 _).alloc _)) 0 _ 1 1 ([next].map S) rfl (zaw _ _ rfl _ _ 1 1 rfl) (zdg _) (by omega) (by omega) (by have:=(hI.ext.trans kK).size;simp;omega) ?_
              intro A5 c5 w8 ai bq aG dS;have kx:=(kw.ext ((Z5 w7).alloc (.cells #[S next] 9))).kept bq (zfl (kw.ext ((Z5 w7).alloc (.cells #[S next] 9))) (sK.ext ((Z5 w7).alloc (.cells #[S next] 9))) (by decide))
              have vL:w1.heap.size≤w8.heap.size:=Z2 (hI.ext.trans kK).size (Z2 (by simp) aG.size)
              have mJ:some w2.heap.size≠(Value.slice sA seen.length sc).ownBlock:=fun e=>absurd (hI.oseen.blk _ e.symm).2 (by have:=ah.size;omega)
              have tX:∀j u,w7.cell? ⟨w2.heap.size,j,none⟩=some u→w8.cell? ⟨w2.heap.size,j,none⟩=some u:=fun j u h=>
               bq.cell (a:=⟨w2.heap.size,j,none⟩) ((((Z5 w7).alloc (.cells #[S next] 9)).cell (p:=⟨w2.heap.size,j,none⟩) cB).trans h) mJ
              have k0:=tX 0 _ yu
              have k1:=tX 1 _ bh
              have k2:=tX 2 _ ci
              have k3:=tX 3 _ dQ
              have k4:=tX 4 _ cY
              clear tX mJ yu bh ci dQ cY)
            |(at_builtin
              refine zad _ rfl (.tmp 89) (.tmp 91) _ rfl w1.heap.size 79 j0 _ 5 48 Tryz.underlying22 iX kO jA gS rfl (by omega) pA ps.length pc (ps.flatMap setCells) rfl (kx.ext ((Z5 _).alloc _)) 0 _ 1 1 (setCells (⟨an,at_,ac,al,[x]⟩,.slice (some ⟨xb,xo,none⟩) 1 dc2)) rfl (zaw _ _ (by simp) _ _ 1 5 rfl) (zg0 _ _ _ _) (by omega) (by omega) (by simp;omega) ?_
              intro A6 c6 w9 aQ dG dT dH))
           have dj:Ext w1 w8:=((hI.ext.trans kK).alloc _).then aG (Z4 _)
           have ej:Ext w1 w9:=(dj.alloc _).then dT (Z4 _)
           have ia:Own (w8.alloc (.cells (setCells (⟨an,at_,ac,al,[x]⟩,.slice (some ⟨xb,xo,none⟩) 1 dc2)).toArray 79)) w1.heap.size 9 1 A5 (seen.length+1) c5 (seen.map S++[next].map S):=ai.ext ((Z5 w8).alloc _)
           have nT:=ia.kept dG (zfl ia (kx.ext ((Z5 w8).alloc _)) (by decide))
           go_roundw
           case rel=>
            refine⟨next,seen++[next],ps++[(⟨an,at_,ac,al,[x]⟩,.slice (some ⟨xb,xo,none⟩) 1 dc2)],A5,c5,A6,c6,rfl,by simp,by simp,⟨by simp;omega,by simp[HS.out],Ew,?_,?_,?_,ej,?_⟩⟩
            ·rw[Z6,List.map_append];exact nT
            ·rw[Z6,List.flatMap_append];simpa using aQ
            ·intro p hp;rcases List.mem_append.1 hp with h|h
             ·exact hI.datas p h
             ·rw[List.mem_singleton]at h;subst h;exact aI
            ·rw[HF.out];simp only[Z6,List.length_singleton,List.map_append,List.map_cons,List.map_nil];congr 1;omega
           case measure=>simp only[lenOf];omega
        ·simp only[if_true]at hF;have HF:=Z7 hF
         clear hF;go_wp2_with fail;refine(tU.out _).mono ?_;rintro e w6 ⟨rfl,aw⟩;go_wp2_with fail;refine bodyPost_ret (zax rfl _ _ _) rfl ?_;exact⟨_,_,by rw[HF.out];rfl,by rw[HF.out];exact Sets.nil9 _ _,by rw[HF.out];exact Sets.nil9 _ _,gV.trans aw⟩
      ·rw[zuj _ (by exact eT)]at hF
       have HF:=Z7 hF
       obtain⟨f1,f2⟩:=zin eT
       clear hF eT;go_wp2_with fail;refine bodyPost_ret (zax rfl _ _ _) rfl ?_;exact⟨_,_,by rw[HF.out];rfl,by rw[HF.out];exact Sets.nil9 _ _,by rw[HF.out];exact Sets.nil9 _ _,gV⟩
 ·have hR:followOf n ty cls l=FolR.bad 1:=by unfold followOf;rw[if_neg hm]
  rw[hR];have gP:may n=false:=by simpa using hm
  have mY:=Z7 (fun W=>zc3 n W (by omega))
  rw[gP]at mY;clear hm hR;go_enter Tryz.func110,Tryz.ntmps110;go_wp2_with fail;refine(mY.out _).mono ?_;rintro e w0 ⟨rfl,aD⟩;go_wp2_with fail;refine bodyPost_ret (zax rfl _ _ _) rfl ?_;exact⟨_,_,rfl,Sets.nil9 _ _,Sets.nil9 _ _,((Z5 _).alloc _).trans aD⟩
end Go.Proofs.YtdnpmapelmjfpaaGreatDoor
