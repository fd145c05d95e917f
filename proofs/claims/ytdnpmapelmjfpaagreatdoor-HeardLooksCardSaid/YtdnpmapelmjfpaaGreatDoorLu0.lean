/- Lemmas of this claim. No condition. -/
import Derived.Test.YtdnpmapelmjfpaaGreatDoorLs
import Derived.Test.YtdnpmapelmjfpaaGreatDoorLh0
import Derived.Test.YtdnpmapelmjfpaaGreatDoorLq
import Derived.Deep.DeepCutAuto
set_option maxHeartbeats 2000000
set_option linter.unusedVariables false
set_option linter.unusedSimpArgs false
set_option maxRecDepth 100000
namespace Go.Proofs.YtdnpmapelmjfpaaGreatDoor
open Go.RowKit
theorem zry {n z:List UInt8} {a b:List (List UInt8)} (ha:labelsOf n=some a) (hb:labelsOf z=some b):withinN n z=zd0 a (b.map low):=by
 unfold withinN;rw[ha,hb]
theorem zj9 {n z:List UInt8} (h:may n=false∨may z=false):withinN n z=false:=by
 unfold withinN may at*;rcases h with h|h
 ·rcases hn:labelsOf n with _|a
  ·rfl
  ·rw[hn]at h;cases h
 ·rcases hz:labelsOf z with _|b
  ·cases labelsOf n<;>rfl
  ·rw[hz]at h;cases h
theorem zm4 {l:List UInt8} {x:List (List UInt8)} (h:labelsOf l=some x):l.length≤255∧zav l=some x:=by
 unfold labelsOf at h;split at h
 ·exact⟨‹_›,h⟩
 ·cases h
theorem zkj {l:List UInt8} (h:may l=true):∃x,labelsOf l=some x:=by
 unfold may at h;exact Option.isSome_iff_exists.1 h
theorem zD1 {l:List UInt8} {k:Nat} {rs:List (List UInt8)} (hp:zav (l.drop k)=some rs) (hk:k+1<l.length):
 ∃(b:UInt8) (x:List UInt8) (r:List (List UInt8)),l[k]? =some b∧rs=x::r∧zav (l.drop (k+1+b.toNat))=some r∧k+1+b.toNat<l.length∧b.toNat≤63:=by
 have ab:k<l.length:=by omega
 have h:=hp
 rw[zcc l k ab,zbb]at h;split at h
 ·rename_i h0;split at h
  ·rename_i hd;have:=congrArg List.length hd
   rw[List.length_drop,List.length_nil]at this;omega
  ·cases h
 ·split at h
  ·cases h
  ·rename_i kM;rw[Option.map_eq_some_iff,List.drop_drop]at h;obtain⟨r,hr,he⟩:=h
   refine⟨l[k],_,r,Z3 ab,he.symm,hr,?_,by omega⟩
   rcases Nat.lt_or_ge (k+1+l[k].toNat) l.length with h'|h'
   ·exact h'
   ·rw[List.drop_of_length_le h',zbx]at hr;cases hr
theorem zv5 (n z:List UInt8) (w:World) (hn:n.length≤maxLen) (hz:z.length≤maxLen):
 Calls Tryz.prog 154 #[S n,S z] w fun e w'=>e=.returned (.bool (withinN n z))∧Ext w w':=by
 have HM:=Z7 (fun W=>zbe n W hn)
 have HZ:=Z7 (fun W=>zbe z W hz)
 have D8:=Z7 (fun(l:List UInt8) W (h:l.length≤maxLen)=>zhu l W h)
 rcases fS:may n with _|_
 ·rw[fS]at HM;rw[zj9 (.inl fS)];clear fS hn hz;go_enter Tryz.func154,Tryz.ntmps154;go_wp2_with fail;refine(HM.out _).mono ?_;rintro e w' ⟨rfl,rfl⟩;go_wp2_with fail;go_ret;exact⟨rfl,Z5 _⟩
 rcases kE:may z with _|_
 ·rw[fS]at HM;rw[kE]at HZ;rw[zj9 (.inr kE)];clear fS kE hn hz;go_enter Tryz.func154,Tryz.ntmps154;go_wp2_with fail;refine(HM.out _).mono ?_;rintro e w' ⟨rfl,rfl⟩;go_wp2_with fail;refine(HZ.out _).mono ?_;rintro e w' ⟨rfl,rfl⟩;go_wp2_with fail;go_ret;exact⟨rfl,Z5 _⟩
 obtain⟨a,ha⟩:=zkj fS
 obtain⟨b,hb⟩:=zkj kE
 rw[fS]at HM;rw[kE]at HZ;rw[zry ha hb];obtain⟨yM,tf⟩:=zm4 ha
 obtain⟨yy,pm⟩:=zm4 hb
 obtain⟨_,ft,cH⟩:=zbv hb
 have aF:0<z.length:=by rw[ft];exact zut _
 have aM:(zam b).length=z.length:=by rw[ft]
 have HB:Hid ((zam (b.map low)).length=z.length∧(∀x∈b,0<x.length∧x.length≤63)∧low (zam b)=low z):=⟨by rw[zds];exact aM,cH,by rw[←ft]⟩
 have Ip:=Z7 tf
 obtain⟨W0,kA⟩:∃W0,zd0 a (b.map low)=W0:=⟨_,rfl⟩
 have BO:=Z7 kA
 rw[kA];have qH:0<n.length:=by
  rcases n with _|⟨_,_⟩
  ·rw[zbx]at tf;cases tf
  ·simp
 clear kA tf pm fS kE ha hb aM ft cH hn hz;go_enter Tryz.func154,Tryz.ntmps154;go_wp2_with fail;refine(HM.out _).mono ?_;rintro e w' ⟨rfl,rfl⟩;go_wp2_with fail;refine(HZ.out _).mono ?_;rintro e w' ⟨rfl,rfl⟩;go_wp2_with fail
 go_loop [6] (fun i=>∃(k:Nat) (rs:List (List UInt8)),i=.int .i64 k∧k<n.length∧zav (n.drop k)=some rs∧zd0 rs (b.map low)=W0) (fun i=>n.length - (intOf i).toNat)
 case atStart=>exact⟨0,a,rfl,qH,Ip.out,BO.out⟩
 case round=>
  obtain⟨k,rs,rfl,hk,ud,D9⟩:=hrel
  obtain⟨lR,iK⟩:=zne _ _ _ (Z4 _) ud
  have aq:(zam rs).length=n.length - k:=by rw[←lR,List.length_drop]
  have Iq:=Z7 lR
  have Ir:=Z7 ud
  have BP:=Z7 D9
  clear lR ud D9;by_cases hc:(k:Int)<(n.length:Int) - (z.length:Int)
  ·obtain⟨c,x,r,hg,tE,Ea,lv,kM⟩:=zD1 Ir.out (by omega)
   obtain⟨b',Hb,cg,dp,aB⟩:=zbu n k (by omega)
   have nd:c=b':=by
    have h1:=List.getElem?_eq_getElem (l:=n) (i:=k) (by omega)
    rw[h1,Hb.out]at hg;exact(Option.some.inj hg).symm
   subst nd;have HR:Hid (zav (n.drop (k+1+c.toNat))=some r∧zd0 r (b.map low)=W0):=⟨Ea,by
    rw[←zBq x r _ (by rw[HB.out.1,←tE,aq];omega),←tE];exact BP.out⟩
   clear hg tE Ea aq;go_wp2_with fail;go_round
   case rel=>exact⟨k+1+c.toNat,r,by first|go_num|(congr 1;omega),lv,HR.out.1,HR.out.2⟩
   case measure=>simp[intOf];omega
  ·by_cases he:(k:Int)=(n.length:Int) - (z.length:Int)
   ·have g1:((k:Int)==(n.length:Int) - (z.length:Int))=true:=by rw[beq_iff_eq];exact he
    have ht:(n.drop k).take (n.length - k)=n.drop k:=List.take_of_length_le (by rw[List.length_drop];omega)
    have HF:Hid (W0=(low ((n.drop k).take (n.length - k))==low z)):=by
     show W0=_
     rw[ht,←BP.out,zBr iK HB.out.2.1 (by rw[aq];have:=HB.out.1;rw[zds]at this;omega),HB.out.2.2,←Iq.out]
    have m6:z.length≤maxLen:=by unfold maxLen;omega
    have fi:((n.drop k).take (n.length - k)).length≤maxLen:=by rw[ht,List.length_drop];unfold maxLen;omega
    have yN:=Z7 (fun W=>D8.out ((n.drop k).take (n.length - k)) W fi)
    have Is:=Z7 (fun W=>D8.out z W m6)
    clear he aq fi m6 ht;go_wp2_with fail;refine(yN.out _).mono ?_;rintro e w1 ⟨rfl,ae⟩;go_wp2_with fail;refine(Is.out _).mono ?_;rintro e w2 ⟨rfl,ah⟩;go_wp2_with fail;go_ret;exact⟨zar HF.out.symm,ae.trans ah⟩
   ·have g1:((k:Int)==(n.length:Int) - (z.length:Int))=false:=by rw[beq_eq_false_iff_ne];exact he
    have HF:Hid (W0=false):=by
     show W0=_
     rw[←BP.out];exact zl8 _ _ (by rw[aq,HB.out.1];omega)
    clear he aq;go_wp2_with fail;go_ret;exact⟨zar HF.out.symm,Z5 _⟩
theorem znb (n:List UInt8) (w:World) (hn:n.length≤maxLen):
 Calls Tryz.prog 213 #[S n] w fun e w'=>∃v,e=.returned v∧OStrs w' w.heap.size v ((labelsOf n).getD [])∧Ext w w':=by
 have HM:=Z7 (zbe n w hn)
 rcases hl:labelsOf n with _|x
 ·have hm:may n=false:=by unfold may;rw[hl];rfl
  rw[hm]at HM;clear hm hl;go_enter Tryz.func213,Tryz.ntmps213;go_wp2_with fail;refine HM.out.mono ?_;rintro e w' ⟨rfl,rfl⟩;go_wp2_with fail;go_ret;exact⟨_,rfl,⟨none,0,rfl,Own.nil _ _ _ _⟩,Z5 _⟩
 ·have hm:may n=true:=by unfold may;rw[hl];rfl
  rw[hm]at HM;have HL:=Z7 (zjf n x w hl)
  clear hm hl;go_enter Tryz.func213,Tryz.ntmps213;go_wp2_with fail;refine HM.out.mono ?_;rintro e w' ⟨rfl,rfl⟩;go_wp2_with fail;refine HL.out.mono ?_;rintro e w1 ⟨v,rfl,ho,hE⟩;go_wp2_with fail;go_ret;exact⟨_,rfl,ho,hE.1⟩
abbrev zql (n:List UInt8) (cls:Int):Value:=.agg #[S n,.int .u16 cls]
theorem zvm (n:List UInt8) (cls:Int) (nm:List UInt8) (ty cl tt:Int) (A:Option Addr) (m c:Nat) (da:List (List UInt8)) (w:World) (hn:n.length≤maxLen) (hm:nm.length≤maxLen):
 Calls Tryz.prog 214 #[zql n cls,.agg #[S nm,.int .u16 ty,.int .u16 cl,.int .u32 tt,.slice A m c]] w fun e w'=>e=.returned (.bool (fitsB n cls ⟨nm,ty,cl,tt,da⟩))∧Ext w w':=by
 have HW:=Z7 (fun W=>zv5 n nm W hn hm)
 have Hf:Hid (fitsB n cls ⟨nm,ty,cl,tt,da⟩=(ty==6&&(cl==cls&&withinN n nm))):=rfl
 generalize fitsB n cls ⟨nm,ty,cl,tt,da⟩=F at*;clear hn hm;by_cases bY:ty=6
 ·subst bY;by_cases dz:cl=cls
  ·subst dz;have f2:(cl==cl)=true:=by simp
   go_enter Tryz.func214,Tryz.ntmps214;go_wp2_with fail;refine(HW.out _).mono ?_;rintro e w1 ⟨rfl,ae⟩;generalize withinN n nm=b at*;go_wp2_with fail;go_ret;exact⟨zar (by rw[Hf.out];simp),(((Z5 _).alloc _).alloc _).trans ae⟩
  ·have f2:(cl==cls)=false:=by rw[beq_eq_false_iff_ne];exact dz
   have rZ:=Z7 (show F=false by rw[Hf.out,f2];simp)
   clear dz;go_enter Tryz.func214,Tryz.ntmps214;go_wp2_with fail;go_ret;exact⟨zar rZ.out.symm,((Z5 _).alloc _).alloc _⟩
 ·have f1:(ty==6)=false:=by rw[beq_eq_false_iff_ne];exact bY
  have rZ:=Z7 (show F=false by rw[Hf.out,f1];simp)
  clear bY;go_enter Tryz.func214,Tryz.ntmps214;go_wp2_with fail;go_ret;exact⟨zar rZ.out.symm,((Z5 _).alloc _).alloc _⟩
theorem zBk (n:List UInt8) (cls:Int) (nm:List UInt8) (ty cl tt:Int) (A:Option Addr) (m c:Nat) (da:List (List UInt8)) (dep:Int) (w:World) (hn:n.length≤maxLen) (hm:nm.length≤maxLen):
 Calls Tryz.prog 152 #[zql n cls,.agg #[S nm,.int .u16 ty,.int .u16 cl,.int .u32 tt,.slice A m c],.int .i64 dep] w fun e w'=>e=.returned (.bool (fitsB n cls ⟨nm,ty,cl,tt,da⟩&&decide (dep<(zd8 nm:Int))))∧Ext w w':=by
 have HM:=Z7 (fun W=>zvm n cls nm ty cl tt A m c da W hn hm)
 have HL:=Z7 (fun W=>znb nm W hm)
 have Eb:zd8 nm=((labelsOf nm).getD []).length:=rfl
 rw[Eb];generalize (labelsOf nm).getD []=ls at*;rcases hf:fitsB n cls ⟨nm,ty,cl,tt,da⟩with _|_
 all_goals
  rw[hf]at HM;clear hf Eb hn hm;go_enter Tryz.func152,Tryz.ntmps152;go_wp2_with fail;refine(HM.out _).mono ?_;rintro e w1 ⟨rfl,ae⟩
 ·go_wp2_with fail;go_ret;exact⟨rfl,(((Z5 _).alloc _).alloc _).trans ae⟩
 ·obtain⟨hq,bU,bP⟩:=zai (w.heap.size+1) (by simp) ae
  go_wp2_with fail;refine(HL.out _).mono ?_;rintro e w2 ⟨v,rfl,ho,ah⟩;obtain⟨B,d,rfl,fy⟩:=ho
  go_wp2_with fail;go_ret;exact⟨zar (by simp),((((Z5 _).alloc _).alloc _).trans ae).trans ah⟩
def zgc:Option (Nat×SetD)→Int
 |none=> -1
 |some b=>b.1
def zig:Option (Nat×SetD)→Int
 |none=> -1
 |some b=>zd8 b.2.name
theorem zha {l:List SetD} {n:List UInt8} {cls:Int} {k:Nat} {s:SetD} (h:l[k]? =some s):
 zb1 l n cls (k+1)=if(fitsB n cls s&&decide (zig (zb1 l n cls k)<(zd8 s.name:Int)))=true then some (k,s)else zb1 l n cls k:=by
 conv=>lhs;unfold zb1
 rw[h];rcases hb:zb1 l n cls k with _|b
 ·rw[show decide (zig none<(zd8 s.name:Int))=true from decide_eq_true (by show(-1:Int)<_;omega),Bool.and_true]
 ·rw[show decide (zig (some b)<(zd8 s.name:Int))=decide (zd8 b.2.name<zd8 s.name)by rw[decide_eq_decide];show(zd8 b.2.name:Int)<_↔_;omega]
theorem zia {l:List SetD} {n:List UInt8} {cls:Int}:∀{k:Nat} {b:Nat×SetD},zb1 l n cls k=some b→b.1<k∧l[b.1]? =some b.2
 |0,b,h=>by cases h
 |k+1,b,h=>by
  rcases hk:l[k]? with _|s
  ·unfold zb1 at h;rw[hk]at h;have:=zia h
   exact⟨by omega,this.2⟩
  ·rw[zha hk]at h;split at h
   ·injection h with h;subst h;exact⟨Nat.lt_succ_self _,hk⟩
   ·have:=zia h
    exact⟨by omega,this.2⟩
theorem zF5 (n:List UInt8):zd8 n≤255:=by
 unfold zd8;rcases h:labelsOf n with _|x
 ·simp
 ·exact zee h
theorem zG3 (b:Option (Nat×SetD)): -1≤zig b∧zig b≤255:=by
 rcases b with _|b
 ·exact⟨by decide,by decide⟩
 ·have:=zF5 b.2.name
  exact⟨by dsimp only[zig];omega,by dsimp only[zig];omega⟩
theorem zs8 (lo:Nat) (v:Value) (l:List SetD) (n:List UInt8) (cls:Int) (w:World) (h:Sets w lo v l) (aB:zdr l) (hn:n.length≤maxLen):
 Calls Tryz.prog 151 #[v,.func (.func 152) #[zql n cls] #[]] w fun e w'=>e=.returned (.int .i64 (zgc (zb1 l n cls l.length)))∧Ext w w':=by
 obtain⟨ps,A,c,hl,rfl,h1,h2,ay,aK⟩:=h
 unfold maxLen at h2;have aq:ps.length=l.length:=by rw[←hl];simp
 have HN:=Z7 hn
 have Hl:=Z7 hl
 have cm:=Z7 aq
 have EN:∀args W,(callFunc 152 args).run Tryz.prog W=.ok (.enter 152 args) W:=fun args W=>by kernel_rfl
 rw[←aq];clear hl aq hn;go_enter Tryz.func151,Tryz.ntmps151;go_wp2_with fail
 go_loopw [5,6,11] (fun f d i wr=>∃k:Nat,k≤ps.length∧i=.int .i64 k∧f=.int .i64 (zgc (zb1 l n cls k))∧d=.int .i64 (zig (zb1 l n cls k))∧Ext w wr) (fun _ _ i _=>ps.length - (intOf i).toNat)
 case atStart=>exact⟨0,by omega,rfl,rfl,rfl,Z5 _⟩
 case round=>
  obtain⟨k,hk,rfl,rfl,rfl,hE⟩:=hrel
  obtain⟨wo,rfl⟩:∃wo:World,wo=wr:=⟨_,rfl⟩
  by_cases ab:k<ps.length
  ·have bC:k<l.length:=by rw[←cm.out];exact ab
   have hp:ps[k]? =some ps[k]:=Z3 ab
   have bi:l[k]? =some ps[k].1:=by rw[←Hl.out,List.getElem?_map,hp];rfl
   have j9:=aB ps[k].1 (List.mem_of_getElem? bi)
   have o8:=zha (n:=n) (cls:=cls) bi
   have aZ:=aK ps[k] (List.getElem_mem ab)
   generalize ps[k]=p at*;obtain⟨b,off,rfl,_,az,hc⟩:=ay.2 (by omega)
   obtain⟨c0,c1,c2,c3,c4⟩:=zb0 hc k p hp
   rw[←hE.cell (p:=⟨b,_,none⟩) az]at c0 c1 c2 c3 c4
   have jt:=Z7 o8
   have fh:p.1.name.length≤maxLen:=by unfold maxLen;omega
   have Kc:=zG3 (zb1 l n cls k)
   clear hc hp ay bi aK o8;obtain⟨⟨nm,ty,cl,tt,da⟩,d⟩:=p
   dsimp only at*;obtain⟨dA,dc,rfl⟩:=aZ.shape
   have HI:=Z7 (fun W=>zBk n cls nm ty cl tt dA da.length dc da (zig (zb1 l n cls k)) W HN.out fh)
   have It:=Z7 (fun W=>znb nm W fh)
   have ut:zd8 nm=((labelsOf nm).getD []).length:=rfl
   generalize hB:zb1 l n cls k=B at*;have Iu:=Z7 ut
   clear ut hB fh;generalize (labelsOf nm).getD []=ls at*;have cz:(k:Int)<(ps.length:Int):=by omega
   have cW:(0:Int)≤(k:Int):=by omega
   rcases hf:(fitsB n cls ⟨nm,ty,cl,tt,da⟩&&decide (zig B<(zd8 nm:Int)))with _|_
   ·rw[hf]at HI jt;rw[if_neg (by decide)]at jt
    clear hf;go_wp2_with fail;refine(HI.out _).mono ?_;rintro e w1 ⟨rfl,ae⟩;go_wp2_with fail;go_roundw
    case rel=>exact⟨k+1,by omega,by go_num,by rw[jt.out],by rw[jt.out],(hE.alloc _).trans ae⟩
    case measure=>simp[intOf];omega
   ·rw[hf]at HI jt;rw[if_pos rfl]at jt;clear hf;go_wp2_with fail;refine(HI.out _).mono ?_;rintro e w1 ⟨rfl,ae⟩;obtain⟨hq,bU,bP⟩:=zap ae
    go_wp2_with fail;refine(It.out _).mono ?_;rintro e w2 ⟨vl,rfl,⟨lA,lc,rfl,ak⟩,ah⟩;go_wp2_with fail;go_roundw
    case rel=>exact⟨k+1,by omega,by go_num,by rw[jt.out];rfl,by rw[jt.out];dsimp only[zig];rw[Iu.out],((hE.alloc _).trans ae).trans ah⟩
    case measure=>simp[intOf];omega
  ·obtain rfl:k=ps.length:=by omega
   go_wp2_with fail;go_ret;exact⟨rfl,hE⟩
def zEj (r:SoaR) (w:World) (e:Ending) (w':World):Prop:=
 ∃d,e=.returned (.tuple #[zby (r.set.getD SetD.zero) d,.bool r.set.isSome,.int .i64 r.err])∧OStrs w' w.heap.size d (r.set.getD SetD.zero).data∧Ext w w'
theorem zub (lo:Nat) (v:Value) (l:List SetD) (n:List UInt8) (cls:Int) (w:World) (h:Sets w lo v l) (aB:zdr l) (hn:n.length≤maxLen):
 Calls Tryz.prog 87 #[v,S n,.int .u16 cls] w (zEj (soaFind l n cls) w):=by
 have HI:=Z7 (fun W (hW:Ext w W)=>zs8 lo v l n cls W (h.ext hW) aB hn)
 have Hh:=Z7 h
 obtain⟨ps,A,c,hl,rfl,h1,h2,ay,aK⟩:=h
 unfold maxLen at h2;have aq:ps.length=l.length:=by rw[←hl];simp
 have hS:soaFind l n cls=zn0 (zb1 l n cls l.length):=rfl
 rw[hS];rcases hb:zb1 l n cls l.length with _|⟨j,s⟩
 ·rw[hb]at HI;clear hS hb aq hl aK ay;go_enter Tryz.func87,Tryz.ntmps87;go_wp2_with fail;refine(HI.out _ (((Z5 _).alloc _).alloc _)).mono ?_;rintro e w1 ⟨rfl,ae⟩;obtain⟨hq,bU,bP⟩:=zai w.heap.size rfl (((Z5 _).alloc _).trans ae)
  dsimp only[zgc];go_wp2_with fail;refine bodyPost_ret (v:=.tuple #[zby SetD.zero (.slice none 0 0),.bool false,.int .i64 0]) (by simp[results,Tryz.results87,go_sem,hq,bU,bP,SetD.zero]) rfl ?_
  exact⟨_,rfl,⟨none,0,rfl,Own.nil _ _ _ _⟩,by have:=(((Z5 w).alloc _).alloc _).trans ae;exact xt⟩
 ·obtain⟨hj,jR⟩:=zia hb
  rw[hb]at HI;dsimp only at hj jR;have j9:=aB s (List.mem_of_getElem? jR)
  have pP:j<ps.length:=by rw[aq];exact hj
  have hp:ps[j]? =some ps[j]:=Z3 pP
  have bA:ps[j].1=s:=by
   rw[←hl,List.getElem?_map,hp]at jR;exact Option.some.inj jR
  have aZ:=aK ps[j] (List.getElem_mem pP)
  generalize ps[j]=p at*;obtain⟨⟨nm,ty,cl,tt,da⟩,d⟩:=p
  dsimp only at*;subst bA;obtain⟨b,off,rfl,_,az,hc⟩:=ay.2 (by omega)
  obtain⟨c0,c1,c2,c3,c4⟩:=zb0 hc j _ hp
  have wH:=Z7 aZ
  obtain⟨dA,dc,rfl⟩:=aZ.shape
  have eV:(0:Int)≤(j:Int):=by omega
  have qF:(j:Int)<(ps.length:Int):=by omega
  have cm:=Z7 aq
  have Ec:decide ((j:Int)<0)=false:=by simp
  clear hS hb hc hl aq jR hp aK ay aZ;dsimp only[zgc]at HI;by_cases fB:da.length=1
  ·have kS:zn0 (some (j,⟨nm,ty,cl,tt,da⟩))=⟨some ⟨nm,ty,cl,tt,da⟩,0⟩:=if_pos fB
   rw[kS];clear kS;have f1:((da.length:Int)!=1)=false:=by rw[fB];rfl
   have HC:=Z7 (fun W (hW:Ext w W)=>zoh lo _ da W (wH.out.ext hW) (by omega))
   have xY:=Z7 fB
   clear fB;go_enter Tryz.func87,Tryz.ntmps87;go_wp2_with fail;refine(HI.out _ (((Z5 _).alloc _).alloc _)).mono ?_;rintro e w1 ⟨rfl,ae⟩;have bR:Ext w w1:=(((Z5 _).alloc _).alloc _).trans ae
   obtain⟨hq,bU,bP⟩:=zai w.heap.size rfl (((Z5 _).alloc _).trans ae)
   have y0:=(bR.cell (p:=⟨b,off+j*5,none⟩) az).trans c0
   have y1:=(bR.cell (p:=⟨b,off+j*5+1,none⟩) az).trans c1
   have y2:=(bR.cell (p:=⟨b,off+j*5+2,none⟩) az).trans c2
   have y3:=(bR.cell (p:=⟨b,off+j*5+3,none⟩) az).trans c3
   have y4:=(bR.cell (p:=⟨b,off+j*5+4,none⟩) az).trans c4
   clear c0 c1 c2 c3 c4;go_wp2_with fail;refine(HC.out _ xt).mono ?_;rintro e w2 ⟨v2,rfl,⟨A5,c5,rfl,cw⟩,ah⟩;have aC:w.heap.size<w1.heap.size:=bP
   have aG:=zhj hq (S nm) (.int .u16 ty) (.int .u16 cl) (.int .u32 tt) (.slice dA da.length dc)
   have cj:∀j,w2.cell? ⟨w.heap.size,j,none⟩= #[S nm,.int .u16 ty,.int .u16 cl,.int .u32 tt,.slice dA da.length dc][j]? :=fun j=>(ah.cell (p:=⟨w.heap.size,j,none⟩) (by simpa using aC)).trans (aG j)
   have Ed:∀j,w2.frozen? ⟨w.heap.size,j,none⟩=false:=fun j=>(ah.frozen (p:=⟨w.heap.size,j,none⟩) (by simpa using aC)).trans (by simpa using bU j)
   have ax:w.heap.size<w2.heap.size:=by have:=ah.size;simp at this;omega
   clear aG hq bU y0 y1 y2 y3 y4;go_wp2_with fail;refine bodyPost_ret (v:=.tuple #[zby ⟨nm,ty,cl,tt,da⟩ (.slice A5 da.length c5),.bool true,.int .i64 0]) (by simp[results,Tryz.results87,go_sem,cj,Ed,ax]) rfl ?_
   refine⟨_,rfl,⟨A5,c5,rfl,?_⟩,?_⟩
   ·have ak:w.heap.size+1<w2.heap.size+1:=by omega
    refine Own.lower (lo:=(w1.heap.size)) ?_ (by omega)
    repeat(with_reducible refine Own.set_other ?_ ?hp _;case hp=>(simp<;>omega))
    exact cw.lower (by simp)
   ·have cq:Ext w w2:=Ext.trans xt ah
    exact xt
  ·have kS:zn0 (some (j,⟨nm,ty,cl,tt,da⟩))=⟨none,3⟩:=if_neg fB
   rw[kS];clear kS;obtain⟨f1,f2⟩:=zin fB
   clear fB;go_enter Tryz.func87,Tryz.ntmps87;go_wp2_with fail;refine(HI.out _ (((Z5 _).alloc _).alloc _)).mono ?_;rintro e w1 ⟨rfl,ae⟩;have bR:Ext w w1:=(((Z5 _).alloc _).alloc _).trans ae
   obtain⟨hq,bU,bP⟩:=zai w.heap.size rfl (((Z5 _).alloc _).trans ae)
   have y0:=(bR.cell (p:=⟨b,off+j*5,none⟩) az).trans c0
   have y1:=(bR.cell (p:=⟨b,off+j*5+1,none⟩) az).trans c1
   have y2:=(bR.cell (p:=⟨b,off+j*5+2,none⟩) az).trans c2
   have y3:=(bR.cell (p:=⟨b,off+j*5+3,none⟩) az).trans c3
   have y4:=(bR.cell (p:=⟨b,off+j*5+4,none⟩) az).trans c4
   clear c0 c1 c2 c3 c4;go_wp2_with fail;obtain⟨X,hX⟩:∃X,X=((((((((((w1.setCell ⟨w.heap.size,0,none⟩ (S nm)).setCell ⟨w.heap.size,1,none⟩ (.int .u16 ty)).setCell ⟨w.heap.size,2,none⟩ (.int .u16 cl)).setCell ⟨w.heap.size,3,none⟩ (.int .u32 tt)).setCell ⟨w.heap.size,4,none⟩ (.slice dA da.length dc)).setCell ⟨w.heap.size,0,none⟩ (S [])).setCell ⟨w.heap.size,1,none⟩ (.int .u16 0)).setCell ⟨w.heap.size,2,none⟩ (.int .u16 0)).setCell ⟨w.heap.size,3,none⟩ (.int .u32 0)).setCell ⟨w.heap.size,4,none⟩ (.slice none 0 0)):=⟨_,rfl⟩
   have r9:∀j,X.cell? ⟨w.heap.size,j,none⟩= #[S [],.int .u16 0,.int .u16 0,.int .u32 0,.slice none 0 0][j]? :=by rw[hX];exact zhj (zhj hq (S nm) (.int .u16 ty) (.int .u16 cl) (.int .u32 tt) (.slice dA da.length dc)) (S []) (.int .u16 0) (.int .u16 0) (.int .u32 0) (.slice none 0 0)
   have sb:∀j,X.frozen? ⟨w.heap.size,j,none⟩=false:=fun j=>by rw[hX];simpa using bU j
   have gh:Ext w X:=by rw[hX];exact xt
   have aC:w.heap.size<w1.heap.size:=bP
   have sf:w.heap.size<X.heap.size:=by rw[hX];simp;omega
   refine(show _ from ?_:bodyPost Tryz.prog Tryz.f87 _ Exit.ret _ ((((((((((w1.setCell ⟨w.heap.size,0,none⟩ (S nm)).setCell ⟨w.heap.size,1,none⟩ (.int .u16 ty)).setCell ⟨w.heap.size,2,none⟩ (.int .u16 cl)).setCell ⟨w.heap.size,3,none⟩ (.int .u32 tt)).setCell ⟨w.heap.size,4,none⟩ (.slice dA da.length dc)).setCell ⟨w.heap.size,0,none⟩ (S [])).setCell ⟨w.heap.size,1,none⟩ (.int .u16 0)).setCell ⟨w.heap.size,2,none⟩ (.int .u16 0)).setCell ⟨w.heap.size,3,none⟩ (.int .u32 0)).setCell ⟨w.heap.size,4,none⟩ (.slice none 0 0)))
   rw[←hX];refine bodyPost_ret (v:=.tuple #[zby SetD.zero (.slice none 0 0),.bool false,.int .i64 3]) (by simp[results,Tryz.results87,go_sem,r9,sb,sf,SetD.zero]) rfl ?_
   exact⟨_,rfl,⟨none,0,rfl,Own.nil _ _ _ _⟩,gh⟩
theorem zno (t:Int) (w:World):Calls Tryz.prog 224 #[.int .u32 t] w fun e w'=>e=.returned (.int .u32 (timeT t))∧w=w':=by
 by_cases h:2147483647<t
 ·rw[show timeT t=0 by unfold timeT;rw[if_pos h]]
  go_enter Tryz.func224,Tryz.ntmps224
  go_wp2
  go_ret;exact⟨rfl,rfl⟩
 ·rw[show timeT t=t by unfold timeT;rw[if_neg h]]
  go_enter Tryz.func224,Tryz.ntmps224
  go_wp2
  go_ret;exact⟨rfl,rfl⟩
theorem zrs {cs:List Chk} {d:List UInt8} (h:∀p,(zab cs d p).2≠0) (c:Chk):∀p,(zab (c::cs) d p).2≠0:=by
 intro p;simp only[zab];split
 ·assumption
 ·rw[if_pos (h _)];exact h _
theorem zrn {d:List UInt8} (h:rmay 6 d=true):20≤d.length:=by
 rcases Nat.lt_or_ge d.length 20 with ab|cS
 ·exfalso;have h3:∀p,(zab [⟨0,20⟩] d p).2≠0:=by
   intro p;have hr:zaa ⟨0,20⟩ d p=(Pc.zero,4):=by show(if d.length - p<20 then _ else _)=_;rw[if_pos (by omega)]
   unfold zab;rw[hr,if_pos (by decide)]
   decide
  have h1:(splitOf d 0 6).2≠0:=zrs (zrs h3 ⟨1,0⟩) ⟨1,0⟩ 0
  unfold rmay zbk at h;rw[if_neg (fun e=>h1 e.1)]at h
  cases h
 ·exact cS
theorem zxc (W:World) (l:List UInt8):∃(C:Array Value) (cap:Nat),(convert 9 110 (S l)).run Tryz.prog W=.ok (.slice (some ⟨W.heap.size,0,none⟩) l.length cap) (W.drew.alloc (.cells C 5 (C.size,C.size+1)))∧l.length≤C.size∧∀j,j<l.length→C[j]? =some (.int .u8 ((l.getD j 0).toNat:Int)):=by
 refine⟨_,_,run_bytes_of_string (P:=Tryz.prog) W 9 110 5 ⟨l.toArray⟩ Tryz.underlying9 Tryz.underlying110 Tryz.underlying5,by simp[bytesRow],fun j hj=>?_⟩
 simp[bytesRow,hj,Array.getElem?_append]
theorem zuc (lo:Nat) (s:SetD) (dv:Value) (w:World) (hg:Laid w) (hs:Strs w lo dv s.data) (hd:∀x∈s.data,x.length≤1048576):
 Calls Tryz.prog 182 #[zby s dv] w fun e w'=>e=.returned (.int .u32 (soaTime s))∧Ext w w':=by
 obtain⟨nm,ty,cl,tt,da⟩:=s
 dsimp only at*;obtain⟨A,c,rfl,h1,h2,ay⟩:=hs
 unfold maxLen at h2;by_cases bY:ty=6
 rotate_left
 ·have hT:soaTime ⟨nm,ty,cl,tt,da⟩=0:=if_neg bY
  have f1:(ty !=6)=true:=by simpa using bY
  rw[hT];clear hT bY;go_enter Tryz.func182,Tryz.ntmps182;go_wp2_with fail;go_ret;exact⟨rfl,(Z5 _).alloc _⟩
 subst bY;by_cases hl:da.length=1
 rotate_left
 ·have hT:soaTime ⟨nm,6,cl,tt,da⟩=0:=by
   unfold soaTime;rw[if_pos rfl]
   match da,hl with
   |[],_=>rfl
   |[_],h=>exact absurd rfl h
   |_::_::_,_=>rfl
  rw[hT];obtain⟨f1,f2⟩:=zin hl
  clear hT hl;go_enter Tryz.func182,Tryz.ntmps182;go_wp2_with fail;go_ret;exact⟨rfl,(Z5 _).alloc _⟩
 obtain⟨d,rfl⟩:=List.length_eq_one_iff.1 hl
 have hT:soaTime ⟨nm,6,cl,tt,[d]⟩=zd9 tt d:=rfl
 rw[hT];obtain⟨b,off,rfl,_,az,hc⟩:=ay.2 (by simp)
 have c0:=hc 0 (S d) rfl
 simp only[Nat.add_zero]at c0;have hdl:=hd d (by simp)
 have HM:=Z7 (fun W (h:Laid W)=>zm8 6 d W h hdl)
 clear hc ay hl hd hT;simp only[List.length_singleton];rcases hm:rmay 6 d with _|_
 ·have hT:zd9 tt d=0:=by unfold zd9;rw[hm];rfl
  rw[hT];rw[hm]at HM;clear hT hm;go_enter Tryz.func182,Tryz.ntmps182;go_wp2_with fail;refine(HM.out _ (hg.ext ((Z5 _).alloc _))).mono ?_;rintro e w1 ⟨rfl,ae⟩;go_wp2_with fail;go_ret;exact⟨rfl,((Z5 _).alloc _).trans ae⟩
 have hT:zd9 tt d=min (timeT tt) (timeT (zef d)):=by unfold zd9;rw[hm];rfl
 rw[hT];rw[hm]at HM;have BQ:=zrn hm
 obtain⟨p,hp⟩:∃p,d.length=p+4:=⟨d.length - 4,by omega⟩
 obtain⟨s4,gg⟩:∃s4,d.drop p=s4:=⟨_,rfl⟩
 have gx:s4.length=4:=by rw[←gg,List.length_drop];omega
 have HL:Hid (zef d=be s4∧s4.length=4∧(d.drop p).take 4=s4):=⟨by unfold zef;rw[hp,Nat.add_sub_cancel,gg],gx,by rw[gg,List.take_of_length_le (by omega)]⟩
 have Hp:=Z7 hp
 have pg:(d.length:Int)=(p:Int)+4:=by omega
 clear hT hm gg gx hp;go_enter Tryz.func182,Tryz.ntmps182;go_wp2_with fail;refine(HM.out _ (hg.ext ((Z5 _).alloc _))).mono ?_;rintro e w1 ⟨rfl,ae⟩;obtain⟨hq,bU,bP⟩:=zap ae
 have c01:=((((Z5 w).alloc (.cells #[S nm,.int .u16 6,.int .u16 cl,.int .u32 tt,.slice (some ⟨b,off,none⟩) 1 c] 79)).trans ae).cell (p:=⟨b,off,none⟩) az).trans c0
 clear c0;have uL:((d.drop p).take (d.length - p)).length=4:=by have:=Hp.out;simp;omega
 have yL:(d.drop p).take (d.length - p)=s4:=by rw[show d.length - p=4 by have:=Hp.out;omega];exact HL.out.2.2
 obtain⟨C,cap,dD,hC,yO⟩:=zxc w1 ((d.drop p).take (d.length - p))
 rw[uL]at dD hC yO;rw[yL]at yO;obtain⟨X,hX⟩:∃X,X=w1.drew.alloc (.cells C 5 (C.size,C.size+1)):=⟨_,rfl⟩
 rw[←hX]at dD;have wJ:Ext w1 X:=by rw[hX];exact(Z5 _).drew.alloc _
 have Ee:∀j,j<4→X.cell? ⟨w1.heap.size,j,none⟩=some (.int .u8 ((s4.getD j 0).toNat:Int)):=fun j hj=>by rw[hX];exact(World.cell?_alloc_mark w1.drew C _ _ j).trans (yO j hj)
 have q3:=(wJ.cell (p:=⟨w.heap.size,3,none⟩) bP).trans (hq 3)
 have gx:=HL.out.2.1
 have ju:=Z7 gx
 have Iv:=Z7 Ee
 have bo:(4:Int)≤9223372036854775807:=by omega
 have Iw:w1.heap.size<X.heap.size:=by rw[hX];simp
 clear hX hC yO yL uL gx Ee;go_wp2_with fail
 go_loop [4,6,35] (fun v b i=>∃k:Nat,k≤4∧i=.int .i64 k∧v=.int .u32 (be (s4.take k))) (fun _ _ i=>4 - (intOf i).toNat)
 case atStart=>exact⟨0,by omega,rfl,rfl⟩
 case round=>
  obtain⟨k,hk,rfl,rfl⟩:=hrel
  by_cases ab:k<4
  ·have bC:k<s4.length:=by rw[ju.out];exact ab
   obtain⟨c',Hb,cg,dp,aB⟩:=zbu s4 k bC
   have fv:=Iv.out k ab
   rw[show s4.getD k 0=c' by rw[List.getD_eq_getElem?_getD,Z3 bC];exact Hb.out]at fv
   have bO:=Z7 (zpw s4 k bC c' Hb.out)
   have hx:=zkd s4 k (by rw[ju.out];omega) bC
   generalize be (s4.take k)=x at*;have Hu:=Z7 (zuk x c' hx)
   go_wp2_with fail;go_round
   case rel=>exact⟨k+1,by omega,by go_num,by rw[bO.out,Hu.out]⟩
   case measure=>simp[intOf];omega
  ·obtain rfl:k=4:=by omega
   have e1:s4.take 4=s4:=List.take_of_length_le (by rw[ju.out];omega)
   rw[e1];clear e1;go_wp2_with fail;refine(zno _ _).mono ?_;rintro e w' ⟨rfl,rfl⟩;go_wp2_with fail;refine(zno _ _).mono ?_;rintro e w' ⟨rfl,rfl⟩;go_wp2_with fail;go_ret;exact⟨zmx (by rw[HL.out.1]),(((Z5 _).alloc _).trans ae).trans wJ⟩
theorem OSets.shape {w:World} {lo:Nat} {v:Value} {l:List SetD} (h:OSets w lo v l):∃A c,v=.slice A l.length c∧l.length≤c∧c≤maxLen:=by
 obtain⟨ps,A,c,h1,h2,h3,_⟩:=h
 have hl:ps.length=l.length:=by rw[←h1];simp
 exact⟨A,c,by rw[h2,hl],by rw[←hl];exact h3.cap.1,h3.cap.2⟩
theorem OSets.opened {w:World} {lo:Nat} {v:Value} {l:List SetD} (h:OSets w lo v l):∃(ps:List (SetD×Value)) (A:Option Addr) (c:Nat),v=.slice A l.length c∧ps.map Prod.fst=l∧ps.length=l.length∧Own w lo 79 5 A l.length c (ps.flatMap setCells)∧∀p∈ps,OStrs w lo p.2 p.1.data:=by
 obtain⟨ps,A,c,h1,h2,h3,h4⟩:=h
 have hl:ps.length=l.length:=by rw[←h1];simp
 exact⟨ps,A,c,by rw[h2,hl],h1,hl,by rw[←hl];exact h3,h4⟩
theorem zo7 {w:World} {lo:Nat} {A:Option Addr} {c n:Nat} {ps:List (SetD×Value)} {l:List SetD} (h1:ps.map Prod.fst=l) (hn:n=ps.length) (h:Own w lo 79 5 A n c (ps.flatMap setCells)) (hd:∀p∈ps,OStrs w lo p.2 p.1.data):OSets w lo (.slice A n c) l:=by
 subst hn;exact⟨ps,A,c,h1,rfl,h,hd⟩
theorem zde {w:World} {lo:Nat} {v:Value} {l:List (List UInt8)} {p:Addr} (h:OStrs w lo v l) (hp:p.block<lo) (u:Value):OStrs (w.setCell p u) lo v l:=by
 obtain⟨A,c,e,ho⟩:=h
 exact⟨A,c,e,Own.set_other ho hp u⟩
theorem zhh {w:World} {lo:Nat} {v:Value} {l:List SetD} {p:Addr} (h:OSets w lo v l) (hp:p.block<lo) (u:Value):OSets (w.setCell p u) lo v l:=by
 obtain⟨ps,A,c,h1,h2,h3,h4⟩:=h
 exact⟨ps,A,c,h1,h2,Own.set_other h3 hp u,fun q hq=>zde (h4 q hq) hp u⟩
theorem zc7 {w:World} {lo g:Nat} {v:Value} {l:List SetD} (h:OSets w lo v l) (hg:g<lo) (a b c:Value):OSets (((w.setCell ⟨g,0,none⟩ a).setCell ⟨g,1,none⟩ b).setCell ⟨g,2,none⟩ c) lo v l:=
 zhh (zhh (zhh h hg a) hg b) hg c
theorem zhv {w:World} {lo g:Nat} {v:Value} {l:List (List UInt8)} (h:OStrs w lo v l) (hg:g<lo) (a b c d e:Value):OStrs (((((w.setCell ⟨g,0,none⟩ a).setCell ⟨g,1,none⟩ b).setCell ⟨g,2,none⟩ c).setCell ⟨g,3,none⟩ d).setCell ⟨g,4,none⟩ e) lo v l:=
 zde (zde (zde (zde (zde h hg a) hg b) hg c) hg d) hg e
theorem OSets.blk {w:World} {lo:Nat} {v:Value} {l:List SetD} (h:OSets w lo v l):∀k,v.ownBlock=some k→lo≤k∧k<w.heap.size:=by
 obtain⟨ps,A,c,_,rfl,h3,_⟩:=h
 exact h3.blk
theorem zBj {w1 w2:World} {lo1 lo2:Nat} {v u:Value} {l m:List SetD} (h1:OSets w1 lo1 v l) (h2:OSets w2 lo2 u m) (gI:w1.heap.size≤lo2):u.ownBlock=none∨u.ownBlock≠v.ownBlock:=by
 rcases hu:u.ownBlock with _|k
 ·exact .inl rfl
 ·refine .inr (fun e=>?_)
  have a:=(h2.blk k hu).1
  have b:=(h1.blk k e.symm).2
  omega
theorem zh6 {w:World} {g:Nat} {s:SetD} {dv:Value} (hc:∀j,w.cell? ⟨g,j,none⟩=(setCells (s,dv)).toArray[j]?) (hz:g<w.heap.size) (h:Strs w 0 dv s.data):Sets w 0 (.slice (some ⟨g,0,none⟩) 1 1) [s]:=
 ⟨[(s,dv)],_,_,rfl,rfl,Z4 _,by unfold maxLen;decide,⟨rfl,fun _=>⟨g,0,rfl,Nat.zero_le _,hz,fun j u hu=>by rw[Nat.zero_add,hc j];simpa using hu⟩⟩,fun p hp=>by rw[List.mem_singleton]at hp;subst hp;exact h⟩
theorem zje (l:List SetD) (s:SetD) (t:Int):leastT (l++[s]) t=min (leastT l t) s.ttl:=by
 simp[leastT,List.foldl_append]
theorem zmk (lo:Nat) (v:Value) (l:List SetD) (t:Int) (w:World) (h:Sets w lo v l):
 Calls Tryz.prog 180 #[v,.int .u32 t] w fun e w'=>e=.returned (.int .u32 (leastT l t))∧Ext w w':=by
 obtain⟨ps,A,c,hl,rfl,h1,h2,ay,aK⟩:=h
 unfold maxLen at h2;have aq:ps.length=l.length:=by rw[←hl];simp
 have Hl:=Z7 hl
 have cm:=Z7 aq
 clear hl aq;go_enter Tryz.func180,Tryz.ntmps180;go_wp2_with fail
 go_loopw [1,9] (fun v i wr=>∃k:Nat,k≤ps.length∧i=.int .i64 k∧v=.int .u32 (leastT (l.take k) t)∧Ext w wr) (fun _ i _=>ps.length - (intOf i).toNat)
 case atStart=>exact⟨0,by omega,rfl,rfl,Z5 _⟩
 case round=>
  obtain⟨k,hk,rfl,rfl,hE⟩:=hrel
  obtain⟨wo,rfl⟩:∃wo:World,wo=wr:=⟨_,rfl⟩
  by_cases ab:k<ps.length
  ·have bC:k<l.length:=by rw[←cm.out];exact ab
   have hp:ps[k]? =some ps[k]:=Z3 ab
   have bi:l[k]=ps[k].1:=by simp[←Hl.out]
   have gE:=zat l k bC
   rw[bi]at gE;have gR:=Z7 gE
   have aZ:=aK ps[k] (List.getElem_mem ab)
   generalize ps[k]=p at*;obtain⟨b,off,rfl,_,az,hc⟩:=ay.2 (by omega)
   obtain⟨c0,c1,c2,c3,c4⟩:=zb0 hc k p hp
   rw[←hE.cell (p:=⟨b,_,none⟩) az]at c0 c1 c2 c3 c4
   clear hc hp ay bi aK gE;obtain⟨⟨nm,ty,cl,tt,da⟩,d⟩:=p
   dsimp only at*;obtain⟨dA,dc,rfl⟩:=aZ.shape
   have wK:=Z7 (zje (l.take k) ⟨nm,ty,cl,tt,da⟩ t)
   generalize leastT (l.take k) t=x at*;have cz:(k:Int)<(ps.length:Int):=by omega
   have cW:(0:Int)≤(k:Int):=by omega
   go_wp2_with fail;go_roundw
   case rel=>exact⟨k+1,by omega,by go_num,by rw[gR.out,wK.out],hE.alloc _⟩
   case measure=>simp[intOf];omega
  ·have e1:l.take k=l:=List.take_of_length_le (by rw[←cm.out];omega)
   rw[e1];clear e1;go_wp2_with fail;go_ret;exact⟨rfl,hE⟩
structure TlInv (w:World) (l:List SetD) (k:Nat) (qs:List (SetD×Value)) (A:Option Addr) (c:Nat) (wr:World):Prop where
 len:qs.length=k
 fst:qs.map Prod.fst=(l.take k).map ttl0
 own:Own wr w.heap.size 79 5 A qs.length c (qs.flatMap setCells)
 datas:∀p∈qs,OStrs wr w.heap.size p.2 p.1.data
 ext:Ext w wr
theorem zdn (lo:Nat) (v:Value) (l:List SetD) (w:World) (h:Sets w lo v l) (aB:zdr l) (hn:l.length≤65536):
 Calls Tryz.prog 181 #[v] w fun e w'=>∃v',e=.returned v'∧OSets w' w.heap.size v' (l.map ttl0)∧Ext w w':=by
 obtain⟨ps,A,c,hl,rfl,h1,h2,ay,aK⟩:=h
 unfold maxLen at h2;have aq:ps.length=l.length:=by rw[←hl];simp
 have Hl:=Z7 hl
 have cm:=Z7 aq
 have mH:ps.length≤65536:=by omega
 obtain⟨j0,iX,kO,jA,gS⟩:=info_parts zfx
 clear hl aq hn;go_enter Tryz.func181,Tryz.ntmps181;go_wp2_with fail
 go_loopw [3,8] (fun o i wr=>∃(k:Nat) (qs:List (SetD×Value)) (B:Option Addr) (d:Nat),k≤ps.length∧i=.int .i64 k∧o=.slice B qs.length d∧TlInv w l k qs B d wr) (fun _ i _=>ps.length - (intOf i).toNat)
 case atStart=>exact⟨0,[],none,0,by omega,rfl,rfl,⟨rfl,rfl,Own.nil _ _ _ _,by simp,Z5 _⟩⟩
 case round=>
  obtain⟨k,qs,B,d,hk,rfl,rfl,hI⟩:=hrel
  obtain⟨wo,rfl⟩:∃wo:World,wo=wr:=⟨_,rfl⟩
  have hE:=hI.ext
  by_cases ab:k<ps.length
  ·have bC:k<l.length:=by rw[←cm.out];exact ab
   have hp:ps[k]? =some ps[k]:=Z3 ab
   have bi:l[k]=ps[k].1:=by simp[←Hl.out]
   have gE:=zat l k bC
   rw[bi]at gE;have gR:=Z7 gE
   have j9:=aB l[k] (List.getElem_mem bC)
   rw[bi]at j9;have aZ:=aK ps[k] (List.getElem_mem ab)
   generalize ps[k]=p at*;obtain⟨b,off,rfl,_,az,hc⟩:=ay.2 (by omega)
   obtain⟨c0,c1,c2,c3,c4⟩:=zb0 hc k p hp
   rw[←hE.cell (p:=⟨b,_,none⟩) az]at c0 c1 c2 c3 c4
   clear hc hp ay bi aK gE;obtain⟨⟨nm,ty,cl,tt,da⟩,dv⟩:=p
   dsimp only at*;have wL:=aZ.ext hE
   obtain⟨dA,dc,rfl⟩:=aZ.shape
   have cz:(k:Int)<(ps.length:Int):=by omega
   have cW:(0:Int)≤(k:Int):=by omega
   have m8:qs.length≤65536:=by have:=hI.len;omega
   go_wp2_with fail;refine(zoh lo _ da _ (wL.ext xt) j9.2.1).mono ?_;rintro e w2 ⟨v2,rfl,⟨dA2,dc2,rfl,aI⟩,ah⟩;obtain⟨hq,bU,bP⟩:=zap ah
   clear c0 c1 c2 c3 c4;have aN:Ext wo w2:=((Z5 _).alloc _).trans ah
   have gW:OStrs (w2.setCell ⟨wo.heap.size,4,none⟩ (.slice dA2 da.length dc2)) (wo.heap.size+1) (.slice dA2 da.length dc2) da:=⟨dA2,dc2,rfl,(aI.lower (by simp)).set_other (by dsimp only;omega) _⟩
   have bV:Ext wo (w2.setCell ⟨wo.heap.size,4,none⟩ (.slice dA2 da.length dc2)):=aN.setCell (Z4 _) _
   have mf:=gW.ext ((Z5 _).alloc (.cells #[S nm,.int .u16 ty,.int .u16 cl,.int .u32 0,.slice dA2 da.length dc2] 79))
   have fb:=(hI.own.ext bV).ext ((Z5 _).alloc (.cells #[S nm,.int .u16 ty,.int .u16 cl,.int .u32 0,.slice dA2 da.length dc2] 79))
   have pR:∀p∈qs,OStrs _ w.heap.size p.2 p.1.data:=fun p hp=>((hI.datas p hp).ext bV).ext ((Z5 _).alloc (.cells #[S nm,.int .u16 ty,.int .u16 cl,.int .u32 0,.slice dA2 da.length dc2] 79))
   have ak:w.heap.size≤wo.heap.size:=hE.size
   go_wp2_with(
    at_builtin
    refine zad _ rfl (.tmp 17) (.tmp 19) _ rfl w.heap.size 79 j0 _ 5 48 Tryz.underlying22 iX kO jA gS rfl (by omega) B qs.length d (qs.flatMap setCells) rfl fb 0 _ 1 1 (setCells (⟨nm,ty,cl,0,da⟩,.slice dA2 da.length dc2)) rfl (zaw _ _ (by simp) _ _ 1 5 rfl) (zwy (⟨nm,ty,cl,0,da⟩,.slice dA2 da.length dc2) mf) (by omega) (by omega) (by have:=hE.size;have:=aN.size;simp;omega) ?_
    intro A5 c5 w5 ai bq aG dS)
   have am:Ext w w5:=((hE.trans bV).alloc _).then aG (Z4 _)
   have jB:=mf.kept bq (zb3 mf fb)
   have wM:∀p∈qs,OStrs w5 w.heap.size p.2 p.1.data:=fun p hp=>(pR p hp).kept bq (zb3 (pR p hp) fb)
   go_roundw
   case rel=>
    refine⟨k+1,qs++[(⟨nm,ty,cl,0,da⟩,.slice dA2 da.length dc2)],A5,c5,by omega,by go_num,by simp,⟨by simp[hI.len],?_,?_,?_,am⟩⟩
    ·rw[gR.out,List.map_append,List.map_append,hI.fst];rfl
    ·rw[Z6,List.flatMap_append];simpa using ai
    ·intro p hp;rcases List.mem_append.1 hp with h|h
     ·exact wM p h
     ·rw[List.mem_singleton]at h;subst h;exact jB.lower (by omega)
   case measure=>simp[intOf];omega
  ·have e1:l.take k=l:=List.take_of_length_le (by rw[←cm.out];omega)
   have hf:=hI.fst
   rw[e1]at hf;have Hf:=Z7 hf
   clear hf e1;go_wp2_with fail;go_ret;exact⟨_,rfl,⟨qs,B,d,Hf.out,rfl,hI.own,hI.datas⟩,hE⟩
def KeptT (w w':World):Prop:=∀(g:Nat) (cs:Array Value) (t:TypeId) (m:Nat×Nat),t≠5→w.heap[g]? =some (.cells cs t m)→w'.heap[g]? =some (.cells cs t m)
theorem KeptT.refl (w:World):KeptT w w:=fun _ _ _ _ _ h=>h
theorem KeptT.trans {a b c:World} (h:KeptT a b) (k:KeptT b c):KeptT a c:=fun g cs t m ht hh=>k g cs t m ht (h g cs t m ht hh)
theorem KeptT.ext {w w':World} (h:Ext w w'):KeptT w w':=fun g cs t m _ hh=>(h.block g (Z9 hh)).trans hh
theorem KeptT.grown {w w':World} {lo n c:Nat} {A:Option Addr} {xs:List Value} (ho:Own w lo 5 1 A n c xs) (hg:w.grownBy w' (Value.slice A n c).ownBlock):KeptT w w':=by
 intro g cs t m ht hh;rw[hg.block g (Z9 hh) (fun e=>?_)]
 ·exact hh
 ·rcases ho.2 with⟨h1,_⟩|⟨g',cap,cur,h1,_,hk,_⟩
  ·injection h1 with h1;subst h1;simp[Value.ownBlock]at e
  ·injection h1 with h1;subst h1
   have:g=g':=by simpa[Value.ownBlock]using e
   subst this;rw[hh]at hk;injection hk with hk
   injection hk with _ hk _
   exact ht hk
theorem KeptT.cells {w w':World} (h:KeptT w w') {g:Nat} {cs:Array Value} {t:TypeId} {m:Nat×Nat} (ht:t≠5) (hh:w.heap[g]? =some (.cells cs t m)):∀j,w'.cell? ⟨g,j,none⟩=cs[j]? :=fun j=>by
 have:=h g cs t m ht hh
 simp[World.cell?,this]
end Go.Proofs.YtdnpmapelmjfpaaGreatDoor
