/- Lemmas of this claim. No condition. -/
import Derived.Test.YtdnpmapelmjfpaaGreatDoorLi
set_option linter.unusedVariables false
set_option linter.unusedSimpArgs false
set_option maxRecDepth 100000
namespace Go.Proofs.YtdnpmapelmjfpaaGreatDoor
theorem zEb:∀a b:List UInt8,bl a b=decide (a<b)
 |[],[]=>by simp[bl,Op.bytesLess]
 |[],_::_=>by simp[bl,Op.bytesLess]
 |_::_,[]=>by simp[bl,Op.bytesLess]
 |x::a,y::b=>by
  have ih:=zEb a b
  simp only[bl,Op.bytesLess]at*;rw[ih];rw[Bool.eq_iff_iff];simp[List.cons_lt_cons_iff]
def Asc (l:List (List UInt8)):Prop:=l.Pairwise fun a b=>bl a b=true
theorem zpv:∀{l m:List (List UInt8)},Asc l→Asc m→(∀x,x∈l↔x∈m)→l=m
 |[],[],_,_,_=>rfl
 |[],b::m,_,_,h=>absurd ((h b).2 (by simp)) (by simp)
 |a::l,[],_,_,h=>absurd ((h a).1 (by simp)) (by simp)
 |a::l,b::m,hl,hm,h=>by
  have eh:=List.pairwise_cons.1 hl
  have gP:=List.pairwise_cons.1 hm
  have gX:a=b:=by
   rcases List.mem_cons.1 ((h a).1 (by simp))with e|e
   ·exact e
   ·rcases List.mem_cons.1 ((h b).2 (by simp))with e'|e'
    ·exact e'.symm
    ·have h1:=gP.1 a e
     have h2:=eh.1 b e'
     have:=(zmo a b h2).1
     rw[h1]at this;cases this
  subst gX;have:l=m:=by
   refine zpv eh.2 gP.2 (fun x=>?_)
   have hx:=h x
   simp only[List.mem_cons]at hx;constructor
   ·intro gF;rcases hx.1 (.inr gF)with e|e
    ·subst e;have:=eh.1 x gF
     rw[zzm]at this;cases this
    ·exact e
   ·intro D3;rcases hx.2 (.inr D3)with e|e
    ·subst e;have:=gP.1 x D3
     rw[zzm]at this;cases this
    ·exact e
  rw[this]
theorem zCy {l:List (List UInt8)} {s:List UInt8} (h:Asc l) (hn:s∉l):Asc (zd7 l s):=by
 induction l with
 |nil=>simp[zd7,Asc]
 |cons a l ih=>
  have h':=List.pairwise_cons.1 h
  simp only[zd7];split
  ·rename_i hb;refine List.pairwise_cons.2 ⟨fun x hx=>?_,h⟩
   rcases List.mem_cons.1 hx with rfl|hx
   ·exact hb
   ·exact zkf _ _ _ hb (h'.1 x hx)
  ·rename_i hb;have au:s≠a:=fun e=>hn (by simp[e])
   have Il:bl a s=true:=by
    rcases hc:bl a s with _|_
    ·exact absurd (zew a s hc (by simpa using hb)).symm au
    ·rfl
   refine List.pairwise_cons.2 ⟨fun x hx=>?_,ih h'.2 (fun hm=>hn (by simp[hm]))⟩
   rcases zta hx with hx|rfl
   ·exact h'.1 x hx
   ·exact Il
theorem zD9 {l:List (List UInt8)} {s x:List UInt8}:x∈zd7 l s↔x∈l∨x=s:=by
 induction l with
 |nil=>simp[zd7]
 |cons a l ih=>
  simp only[zd7];split
  ·simp only[List.mem_cons];constructor
   ·rintro(h|h|h)
    ·exact .inr h
    ·exact .inl (.inl h)
    ·exact .inl (.inr h)
   ·rintro((h|h)|h)
    ·exact .inr (.inl h)
    ·exact .inr (.inr h)
    ·exact .inl h
  ·simp only[List.mem_cons,ih];constructor
   ·rintro(h|h|h)
    ·exact .inl (.inl h)
    ·exact .inl (.inr h)
    ·exact .inr h
   ·rintro((h|h)|h)
    ·exact .inl h
    ·exact .inr (.inl h)
    ·exact .inr (.inr h)
theorem zDi {l:List (List UInt8)} {s:List UInt8} (h:Asc l):Asc (zdq l s):=by
 unfold zdq;split
 ·exact h
 ·rename_i hc;exact zCy h (fun hm=>hc (by rw[List.contains_iff_mem];exact hm))
theorem zDa {l:List (List UInt8)} {s x:List UInt8}:x∈zdq l s↔x∈l∨x=s:=by
 unfold zdq;split
 ·rename_i hc;rw[List.contains_iff_mem]at hc;constructor
  ·exact .inl
  ·rintro(h|rfl)
   ·exact h
   ·exact hc
 ·exact zD9
theorem zBl (l:List (List UInt8)):(sortB l).Pairwise fun a b=>bl b a=false:=by
 have:=List.pairwise_mergeSort (le:=fun x y:List UInt8=>decide (x≤y)) (fun a b c h1 h2=>by
  simp only[decide_eq_true_eq]at*;exact List.le_trans h1 h2) (fun a b=>by
  simp only[Bool.or_eq_true,decide_eq_true_eq];exact List.le_total a b) l
 refine this.imp ?_;intro a b h;rw[zEb];simp only[decide_eq_true_eq,decide_eq_false_iff_not]at*;exact List.not_lt.2 h
theorem zv3 {l:List (List UInt8)} {x:List UInt8}:x∈Lib.compact l↔x∈l:=by
 unfold Lib.compact Lib.compactUpTo;rw[List.mem_map];constructor
 ·rintro⟨j,hj,rfl⟩;have dU:j<l.length:=by simpa using(List.mem_filter.1 hj).1
  rw[getElem!_pos l.toArray j (by simpa using dU)]
  simp
 ·intro hx;obtain⟨i,hi,rfl⟩:=List.getElem_of_mem hx
  have key:∀(m i:Nat) (hi:i<l.length),i<m→∃j,j∈(List.range l.length).filter (Lib.keeps l.toArray)∧l.toArray[j]! =l[i]:=by
   intro m
   induction m with
   |zero=>intro i _ h;omega
   |succ m ih=>
    intro i hi h;by_cases hk:Lib.keeps l.toArray i=true
    ·exact⟨i,List.mem_filter.2 ⟨List.mem_range.2 hi,hk⟩,by rw[getElem!_pos l.toArray i (by simpa using hi)];simp⟩
    ·unfold Lib.keeps at hk;simp only[decide_eq_true_eq,not_or,Decidable.not_not]at hk;obtain⟨j,h1,h2⟩:=ih (i - 1) (by omega) (by omega)
     refine⟨j,h1,h2.trans ?_⟩;have h3:=hk.2
     rw[getElem!_pos l.toArray i (by simpa using hi),getElem!_pos l.toArray (i - 1) (by simp;omega)]at h3
     simpa using h3.symm
  obtain⟨j,h1,h2⟩:=key (i+1) i hi (by omega)
  exact⟨j,h1,h2⟩
theorem zuu (l:List (List UInt8)) (hs:l.Pairwise fun a b=>bl b a=false):Asc (Lib.compact l):=by
 unfold Lib.compact Lib.compactUpTo Asc;rw[List.pairwise_map];have hr:((List.range l.length).filter (Lib.keeps l.toArray)).Pairwise (·<·):=List.Pairwise.filter _ List.pairwise_lt_range
 refine hr.imp_of_mem ?_;intro i j hi hj rP;have tI:i<l.length:=by simpa using(List.mem_filter.1 hi).1
 have dU:j<l.length:=by simpa using(List.mem_filter.1 hj).1
 have hk:=(List.mem_filter.1 hj).2
 unfold Lib.keeps at hk;simp only[decide_eq_true_eq]at hk;rw[getElem!_pos l.toArray i (by simpa using tI),getElem!_pos l.toArray j (by simpa using dU)]
 have au:l[j]≠l[j - 1]:=by
  rcases hk with h|h
  ·omega
  ·rw[getElem!_pos l.toArray j (by simpa using dU),getElem!_pos l.toArray (j - 1) (by simp;omega)]at h
   simpa using h
 have lZ:=List.pairwise_iff_getElem.1 hs
 have h1:bl l[j] l[j - 1]=false:=lZ (j - 1) j (by omega) dU (by omega)
 have h2:bl l[j - 1] l[j]=true:=by
  rcases hc:bl l[j - 1] l[j]with _|_
  ·exact absurd (zew _ _ hc h1).symm au
  ·rfl
 show bl l[i] l[j]=true
 rcases Nat.eq_or_lt_of_le (show i≤j - 1 by omega)with e|e
 ·subst e;exact h2
 ·have h3:bl l[j - 1] l[i]=false:=lZ i (j - 1) tI (by omega) e
  rcases hc:bl l[i] l[j - 1]with _|_
  ·rw[zew _ _ hc h3];exact h2
  ·exact zkf _ _ _ hc h2
def zkg (l:List (List UInt8)):List (List UInt8):=Lib.compact (sortB l)
theorem zAk {l:List (List UInt8)} {x:List UInt8}:x∈sortB l↔x∈l:=by unfold sortB;exact List.mem_mergeSort
theorem zlj (l:List (List UInt8)):Asc (zkg l):=zuu _ (zBl l)
theorem zlz {l:List (List UInt8)} {x:List UInt8}:x∈zkg l↔x∈l:=zv3.trans zAk
theorem zoq (l:List (List UInt8)) (d:List UInt8):zkg (l++[d])=zdq (zkg l) d:=
 zpv (zlj _) (zDi (zlj _)) (fun x=>by rw[zlz,zDa,zlz];simp)
theorem zqr (d:List UInt8):zkg [d]=[d]:=
 zpv (zlj _) (by simp[Asc]) (fun x=>by rw[zlz])
theorem zn3 (s:SetD):zd2 s={s with data:=zkg s.data}:=rfl
theorem zoo (n:List UInt8) (t c:Int) (L:List SetD):∀k,k≤L.length→atTo (zb5 n t c) (L.map zd2) k=atTo (zb5 n t c) L k
 |0,_=>rfl
 |k+1,h=>by
  simp only[atTo];rw[zoo n t c L k (by omega)]
  have h1:(L.map zd2).getD k SetD.zero=zd2 L[k]:=by simp[show k<L.length by omega]
  have h2:L.getD k SetD.zero=L[k]:=by simp[show k<L.length by omega]
  rw[h1,h2];rfl
theorem zzr (t:Int) (d:List UInt8) (s:SetD):zd2 (zl9 t d s)=zhm t d (zd2 s):=by
 simp only[zn3,zl9,zhm,zoq]
theorem zy0 (f:SetD→SetD) (g h:SetD→SetD) (hc:∀s,f (g s)=h (f s)) (L:List SetD) (k:Nat):(L.modify k g).map f=(L.map f).modify k h:=by
 apply List.ext_getElem?;intro i;simp only[List.getElem?_map,List.getElem?_modify];cases L[i]? with
 |none=>rfl
 |some s=>
  by_cases e:k=i
  ·simp[e,hc]
  ·simp[e]
theorem zzq (L:List SetD) (x:RecD):(zg6 L x).map zd2=zev (L.map zd2) x:=by
 unfold zg6 zev;rw[List.length_map,zoo _ _ _ L _ (Z4 _)];split
 ·split
  ·rw[List.map_append];simp[zn3,zqr]
  ·exact zy0 _ _ _ (zzr _ _) L _
 ·rfl
theorem zqs (l:List RecD):∀k,k≤l.length→(rawTo l k).map zd2=groupTo l k
 |0,_=>rfl
 |k+1,h=>by rw[zgi l k (by omega),ze5 l k (by omega),zzq,zqs l k (by omega)]
theorem zrm:∀{l m:List SetD},zh8 l→zh8 m→l.Perm m→(∀a∈l,∀b∈l,zid a b=0→a=b)→l=m
 |[],m,_,_,hp,_=>(List.nil_perm.1 hp).symm
 |a::l,[],_,_,hp,_=>absurd hp.length_eq (by simp)
 |a::l,b::m,hl,hm,hp,hu=>by
  have eh:=List.pairwise_cons.1 hl
  have gP:=List.pairwise_cons.1 hm
  have hb:b∈a::l:=hp.mem_iff.2 (by simp)
  have gX:a=b:=by
   rcases List.mem_cons.1 (hp.mem_iff.1 (show a∈a::l by simp))with e|e
   ·exact e
   ·rcases List.mem_cons.1 hb with e'|e'
    ·exact e'.symm
    ·have h1:=gP.1 a e
     have h2:=eh.1 b e'
     have h3:=zex.anti a b
     exact hu a (by simp) b hb (by omega)
  subst gX;rw[zrm eh.2 gP.2 (List.Perm.cons_inv hp) (fun x hx y hy=>hu x (by simp[hx]) y (by simp[hy]))]
theorem zr7 (l:List SetD) (hm:∀s∈l,may s.name=true):∀i,0<i→i≤l.length→∀j (hj:j<i) (dU:j<l.length) (o7:minTo l i<l.length),¬zid l[j] l[minTo l i]<0
 |0,h,_=>absurd h (by omega)
 |i+1,_,hi=>by
  intro j hj dU o7;by_cases h0:i=0
  ·subst h0;have e1:minTo l 1=0:=rfl
   have e2:j=0:=by omega
   subst e2;simp only[e1];rw[zex.zero];omega
  ·have ih:=zr7 l hm i (by omega) (by omega)
   have td:=zil l i (by omega)
   have Im:l.getD i SetD.zero=l[i]:=by simp[show i<l.length by omega]
   have In:l.getD (minTo l i) SetD.zero=l[minTo l i]:=by simp[show minTo l i<l.length by omega]
   have hu:minTo l (i+1)=if zem l[i] l[minTo l i]then i else minTo l i:=by
    conv=>lhs;unfold minTo
    rw[if_neg h0,Im,In]
   have xW:=zus (hm l[i] (List.getElem_mem _)) (hm l[minTo l i] (List.getElem_mem _))
   by_cases hb:zem l[i] l[minTo l i]=true
   ·rw[if_pos hb]at hu;rw[xW,decide_eq_true_eq]at hb;simp only[hu];rcases Nat.eq_or_lt_of_le (Nat.le_of_lt_succ hj)with e|e
    ·subst e;rw[zex.zero];omega
    ·have h1:=ih j e dU (by omega)
     have h2:=zex.anti l[j] l[minTo l i]
     have h3:=zex.trlt hb (show zid l[minTo l i] l[j]≤0 by omega)
     have h4:=zex.anti l[i] l[j]
     omega
   ·rw[if_neg hb]at hu;rw[xW,decide_eq_true_eq]at hb;simp only[hu];rcases Nat.eq_or_lt_of_le (Nat.le_of_lt_succ hj)with e|e
    ·subst e;exact hb
    ·exact ih j e dU (by omega)
theorem zqj {l:List SetD} {m:Nat} (h:m<l.length):(l[m]::(l.take m++l.drop (m+1))).Perm l:=by
 have h1:(l[m]::(l.take m++l.drop (m+1))).Perm (l.take m++l[m]::l.drop (m+1)):=List.perm_middle.symm
 rw[←List.drop_eq_getElem_cons h,List.take_append_drop]at h1;exact h1
theorem zmh:∀(n:Nat) (l:List SetD),l.length≤n→(∀s∈l,may s.name=true)→(zgm n l).Perm l∧zh8 (zgm n l)
 |0,l,h,_=>by
  have:l=[]:=List.eq_nil_of_length_eq_zero (by omega)
  subst this;exact⟨List.Perm.refl _,List.Pairwise.nil⟩
 |n+1,l,h,hm=>by
  unfold zgm;split
  ·rename_i h0;have:l=[]:=List.eq_nil_of_length_eq_zero h0
   subst this;exact⟨List.Perm.refl _,List.Pairwise.nil⟩
  ·rename_i h0;have o7:=zil l l.length (by omega)
   have hg:l.getD (minTo l l.length) SetD.zero=l[minTo l l.length]:=by simp[o7]
   have hp:=zqj o7
   have hr:∀s∈l.take (minTo l l.length)++l.drop (minTo l l.length+1),s∈l:=fun s hs=>by
    rcases List.mem_append.1 hs with h|h
    ·exact List.mem_of_mem_take h
    ·exact List.mem_of_mem_drop h
   obtain⟨ih1,ih2⟩:=zmh n (l.take (minTo l l.length)++l.drop (minTo l l.length+1)) (by rw[Z6,List.length_take,List.length_drop];omega) (fun s hs=>hm s (hr s hs))
   rw[hg];refine⟨(ih1.cons _).trans hp,List.pairwise_cons.2 ⟨fun s hs=>?_,ih2⟩⟩
   have lZ:=hr s (ih1.mem_iff.1 hs)
   obtain⟨j,hj,rfl⟩:=List.getElem_of_mem lZ
   exact zr7 l hm l.length (by omega) (Z4 _) j hj hj o7
theorem zF4 {a b:List UInt8} (ha:may a=true∧low a=a) (hb:may b=true∧low b=b) (h:zfh a=zfh b):a=b:=by
 have key:∀n:List UInt8,(may n=true∧low n=n)→n=zam (zfh n).reverse:=fun n hn=>by
  have hm:=hn.1
  unfold may at hm;rcases hx:labelsOf n with _|x
  ·rw[hx]at hm;cases hm
  ·have h1:=zn7 hx
   have h2:fold n=n:=by unfold fold;rw[if_pos hn.1];exact hn.2
   unfold zfh;rw[hx,List.reverse_reverse];exact h2.symm.trans h1
 rw[key a ha,key b hb,h]
theorem zCw (l:List RecD) (B:Nat) (hB:∀r∈l,r.data.length≤B∧(0≤r.typ∧r.typ≤65535)∧(0≤r.cls∧r.cls≤65535)) (R:List SetD) (hp:R.Perm ((rawTo l l.length).map zd2)) (hr:zh8 R):R=groupR l:=by
 have aB:=zks l B hB l.length (Z4 _)
 have nJ:=zjg l l.length (Z4 _)
 have BK:=zqs l l.length (Z4 _)
 have BL:∀s∈groupTo l l.length,(may s.name=true∧low s.name=s.name):=fun s hs=>by
  rw[←BK]at hs;obtain⟨t,ht,rfl⟩:=List.mem_map.1 hs
  exact(aB t ht).1
 have D4:((groupTo l l.length).map zbl).Nodup:=by
  rw[←BK,List.map_map];exact nJ
 rw[BK]at hp;obtain⟨h1,h2⟩:=zmh l.length (groupTo l l.length) (zfk l l.length (Z4 _)) (fun s hs=>(BL s hs).1)
 refine zrm hr h2 (hp.trans h1.symm) (fun a ha b hb h0=>?_)
 have D5:=hp.mem_iff.1 ha
 have D6:=hp.mem_iff.1 hb
 have wG:zbl a=zbl b:=by
  unfold zid at h0;by_cases e1:zb4 (zfh a.name) (zfh b.name)=0
  ·rw[if_pos e1]at h0;by_cases e2:cmpI a.typ b.typ=0
   ·rw[if_pos e2]at h0;have hn:a.name=b.name:=zF4 (BL a D5) (BL b D6) (zn5 _ _ e1)
    simp[zbl,hn,zlk e2,zlk h0]
   ·rw[if_neg e2]at h0;exact absurd h0 e2
  ·rw[if_neg e1]at h0;exact absurd h0 e1
 obtain⟨i,hi,rfl⟩:=List.getElem_of_mem D5
 obtain⟨j,hj,rfl⟩:=List.getElem_of_mem D6
 rcases Nat.lt_trichotomy i j with h|h|h
 ·have:=List.pairwise_iff_getElem.1 D4 i j (by simpa using hi) (by simpa using hj) h
  simp only[List.getElem_map]at this;exact absurd wG this
 ·subst h;rfl
 ·have:=List.pairwise_iff_getElem.1 D4 j i (by simpa using hj) (by simpa using hi) h
  simp only[List.getElem_map]at this;exact absurd wG.symm this
def FP (l:List SetD) (ty cls:Int) (path:List SetD) (here:List UInt8) (R:FolR):Prop:=
 (R.err≠0→R.path=[]∧R.here=[]∧R.fin=[])∧(ty=5→R=⟨path,here,(zbo l here ty cls).toList,0⟩)∧(R.err=0→R.fin=(zbo l R.here ty cls).toList)∧(R.err=0→ty≠5→zbo l R.here 5 cls=none)
theorem FP.bad {l:List SetD} {ty cls:Int} {path:List SetD} {here:List UInt8} {e:Nat} (he:e≠0) (h5:ty≠5):FP l ty cls path here (FolR.bad e):=
 ⟨fun _=>⟨rfl,rfl,rfl⟩,fun h=>absurd h h5,fun h=>absurd h he,fun h=>absurd h he⟩
theorem zlp (l:List SetD) (ty cls:Int):∀(n:Nat) (here:List UInt8) (seen:List (List UInt8)) (path:List SetD),here.length≤255→(followF l ty cls n here seen path).here.length≤255
 |0,_,_,_,_=>by simp[followF,FolR.bad]
 |n+1,here,seen,path,h=>by
  simp only[followF];split
  ·exact h
  ·split
   ·exact h
   ·split
    ·simp[FolR.bad]
    ·split
     ·simp[FolR.bad]
     ·rename_i next ht
      split
      ·simp[FolR.bad]
      ·split
       ·simp[FolR.bad]
       ·exact zlp l ty cls n next _ _ (zpn _ _ ht)
theorem zn8 (n:List UInt8) (ty cls:Int) (l:List SetD):(followOf n ty cls l).here.length≤255:=by
 unfold followOf;split
 ·exact zlp l ty cls 9 _ _ _ (ze4 n)
 ·simp[FolR.bad]
abbrev zns:=List UInt8×Int×Int
def zf5 (x:RecD):zns:=(fold x.name,x.typ,x.cls)
def ofK (l:List RecD) (K:zns):List RecD:=l.filter fun x=>zcm x&&decide (zf5 x=K)
def zhl (l:List RecD):Int:=l.foldl (fun m x=>min m (timeT x.ttl)) 2147483647
def zsz (l:List RecD):List (List UInt8):=zkg (l.map fun x=>rfold x.typ x.data)
def zl6 (l:List RecD) (K:zns):SetD:=⟨K.1,K.2.1,K.2.2,zhl (ofK l K),zsz (ofK l K)⟩
theorem zE4 (t:Int):timeT t≤2147483647:=by unfold timeT;split<;>omega
theorem zwi {l:List RecD} {K:zns} {x:RecD}:x∈ofK l K↔x∈l∧zcm x=true∧zf5 x=K:=by
 unfold ofK;simp[List.mem_filter,and_assoc]
theorem zgz {l:List RecD} {x:RecD} {K:zns} (h1:zcm x=true) (h2:zf5 x=K):ofK (l++[x]) K=ofK l K++[x]:=by
 unfold ofK;rw[List.filter_append];simp[List.filter_cons,h1,h2]
theorem zgh {l:List RecD} {x:RecD} {K:zns} (h:zcm x=false∨zf5 x≠K):ofK (l++[x]) K=ofK l K:=by
 unfold ofK;rw[List.filter_append];rcases h with h|h<;>simp[List.filter_cons,h]
theorem zAl (l:List RecD) (x:RecD):zhl (l++[x])=min (zhl l) (timeT x.ttl):=by unfold zhl;rw[List.foldl_append];rfl
theorem zzv (l:List RecD) (x:RecD):zsz (l++[x])=zdq (zsz l) (rfold x.typ x.data):=by
 unfold zsz;rw[List.map_append];exact zoq _ _
structure CharG (L:List SetD) (P:List RecD):Prop where
 has:∀s∈L,ofK P (zbl s)≠[]∧s=zl6 P (zbl s)
 all:∀K,ofK P K≠[]→∃s∈L,zbl s=K
 nodup:(L.map zbl).Nodup
theorem zof {P:List RecD} {x:RecD} {K:zns} (h:zcm x=false∨zf5 x≠K):zl6 (P++[x]) K=zl6 P K:=by
 unfold zl6;rw[zgh h]
theorem CharG.skip {L:List SetD} {P:List RecD} (h:CharG L P) {x:RecD} (hx:zcm x=false):CharG L (P++[x]) where
 has s hs:=by rw[zgh (.inl hx),zof (.inl hx)];exact h.has s hs
 all K hK:=by rw[zgh (.inl hx)]at hK;exact h.all K hK
 nodup:=h.nodup
theorem CharG.add {L:List SetD} {P:List RecD} (h:CharG L P) (x:RecD):CharG (zev L x) (P++[x]):=by
 unfold zev;by_cases hx:zcm x=true
 ·rw[if_pos hx];have fD:∀K,zf5 x≠K→ofK (P++[x]) K=ofK P K:=fun K e=>zgh (.inr e)
  by_cases ha:atTo (zb5 (fold x.name) x.typ x.cls) L L.length<0
  ·rw[if_pos ha];have bT:∀s∈L,zbl s≠zf5 x:=fun s hs e=>by
    obtain⟨i,hi,rfl⟩:=List.getElem_of_mem hs
    have:=znw L.length (Z4 _) ha i hi hi
    rw[zih.2 e]at this;cases this
   have h0:ofK P (zf5 x)=[]:=by
    by_cases e:ofK P (zf5 x)=[]
    ·exact e
    ·obtain⟨s,hs,hk⟩:=h.all _ e;exact absurd hk (bT s hs)
   have BM:zl6 (P++[x]) (zf5 x)=⟨fold x.name,x.typ,x.cls,timeT x.ttl,[rfold x.typ x.data]⟩:=by
    unfold zl6;rw[zgz hx rfl,h0,List.nil_append];have:=zE4 x.ttl
    have e1:zhl [x]=timeT x.ttl:=by unfold zhl;simp only[List.foldl_cons,List.foldl_nil];omega
    have e2:zsz [x]=[rfold x.typ x.data]:=zqr _
    rw[e1,e2];rfl
   constructor
   ·intro s hs;rcases List.mem_append.1 hs with h1|h1
    ·have au:=bT s h1
     rw[fD _ (Ne.symm au),zof (.inr (Ne.symm au))];exact h.has s h1
    ·rw[List.mem_singleton]at h1;have hk:zbl s=zf5 x:=by rw[h1];rfl
     rw[hk,zgz hx rfl];exact⟨by simp,by rw[BM];exact h1⟩
   ·intro K hK;by_cases e:zf5 x=K
    ·exact⟨⟨fold x.name,x.typ,x.cls,timeT x.ttl,[rfold x.typ x.data]⟩,by simp,e⟩
    ·rw[fD K e]at hK;obtain⟨s,hs,hk⟩:=h.all K hK
     exact⟨s,by simp[hs],hk⟩
   ·rw[List.map_append,List.nodup_append];refine⟨h.nodup,by simp,fun a ha b hb=>?_⟩
    obtain⟨s,hs,rfl⟩:=List.mem_map.1 ha
    simp only[List.map_cons,List.map_nil,List.mem_singleton]at hb;subst hb;exact bT s hs
  ·rw[if_neg ha];obtain⟨t,ht,Io⟩:=zw2 _ (Z4 _) (show 0≤atTo (zb5 (fold x.name) x.typ x.cls) L L.length by omega)
   generalize (atTo (zb5 (fold x.name) x.typ x.cls) L L.length).toNat=i at*;have hi:i<L.length:=(List.getElem?_eq_some_iff.1 ht).1
   have BN:L[i]=t:=(List.getElem?_eq_some_iff.1 ht).2
   have hk:zbl t=zf5 x:=zih.1 Io
   have D7:t∈L:=BN▸List.getElem_mem hi
   have qL:zhm (timeT x.ttl) (rfold x.typ x.data) t=zl6 (P++[x]) (zf5 x):=by
    have:=(h.has t D7).2
    rw[hk]at this;rw[this];unfold zl6 zhm;rw[zgz hx rfl,zAl,zzv]
   have eu:(L.modify i (zhm (timeT x.ttl) (rfold x.typ x.data))).map zbl=L.map zbl:=by
    apply List.ext_getElem?;intro j;rw[List.getElem?_map,List.getElem?_map,List.getElem?_modify];by_cases e:i=j
    ·subst e;rw[ht];simp[zhm,zbl]
    ·simp[e]
   constructor
   ·intro s hs;obtain⟨j,hj,rfl⟩:=List.getElem_of_mem hs
    rw[List.length_modify]at hj;rw[List.getElem_modify];by_cases e:i=j
    ·subst e;rw[if_pos rfl,BN];have lv:zbl (zhm (timeT x.ttl) (rfold x.typ x.data) t)=zf5 x:=hk
     rw[lv];exact⟨by rw[zgz hx rfl];simp,qL⟩
    ·rw[if_neg e];have au:zf5 x≠zbl L[j]:=fun e2=>by
      rw[←hk,←BN]at e2;have h1:=List.getElem_map zbl (l:=L) (i:=i) (h:=by simpa using hi)
      have h2:=List.getElem_map zbl (l:=L) (i:=j) (h:=by simpa using hj)
      exact e ((List.getElem_inj h.nodup).1 (by rw[h1,h2];exact e2))
     rw[fD _ au,zof (.inr au)];exact h.has _ (List.getElem_mem hj)
   ·intro K hK;have:K∈(L.modify i (zhm (timeT x.ttl) (rfold x.typ x.data))).map zbl:=by
     rw[eu];by_cases e:zf5 x=K
     ·rw[←e,←hk];exact List.mem_map_of_mem D7
     ·rw[fD K e]at hK;obtain⟨s,hs,hk⟩:=h.all K hK
      rw[←hk];exact List.mem_map_of_mem hs
    obtain⟨s,hs,e⟩:=List.mem_map.1 this
    exact⟨s,hs,e⟩
   ·rw[eu];exact h.nodup
 ·rw[if_neg hx];exact h.skip (by simpa using hx)
theorem zpx (l:List RecD):∀k,k≤l.length→CharG (groupTo l k) (l.take k)
 |0,_=>⟨by simp[groupTo],by simp[ofK],by simp[groupTo]⟩
 |k+1,h=>by rw[ze5 l k (by omega),zat l k (by omega)];exact(zpx l k (by omega)).add _
theorem zx9 {L:List SetD} {P:List RecD} (h:CharG L P):∀s∈L,may s.name=true∧low s.name=s.name:=fun s hs=>by
 obtain⟨h1,_⟩:=h.has s hs
 obtain⟨x,hx⟩:=List.exists_mem_of_ne_nil _ h1
 obtain⟨_,bB,hk⟩:=zwi.1 hx
 have hm:may x.name=true:=by unfold zcm at bB;simp only[Bool.and_eq_true]at bB;exact bB.1
 have e:s.name=fold x.name:=(congrArg Prod.fst hk).symm
 rw[e];exact zt3 hm
theorem zxp (l:List RecD):(groupR l).Perm (groupTo l l.length)∧zh8 (groupR l):=
 zmh l.length (groupTo l l.length) (zfk l l.length (Z4 _)) (fun s hs=>(zx9 (zpx l l.length (Z4 _)) s hs).1)
theorem zA3 (l:List RecD) (s:SetD):s∈groupR l↔ofK l (zbl s)≠[]∧s=zl6 l (zbl s):=by
 have hc:=zpx l l.length (Z4 _)
 rw[List.take_length]at hc;rw[(zxp l).1.mem_iff];constructor
 ·exact hc.has s
 ·rintro⟨h1,h2⟩;obtain⟨t,ht,hk⟩:=hc.all _ h1
  have:=(hc.has t ht).2
  rw[hk,←h2]at this;exact this▸ht
theorem zFc (l:List RecD):zhl l≤2147483647∧∀x∈l,zhl l≤timeT x.ttl:=by
 have key:∀(l:List RecD) (m:Int),l.foldl (fun m x=>min m (timeT x.ttl)) m≤m∧∀x∈l,l.foldl (fun m x=>min m (timeT x.ttl)) m≤timeT x.ttl:=by
  intro l
  induction l with
  |nil=>intro m;simp
  |cons a l ih=>
   intro m;rw[List.foldl_cons];obtain⟨h1,h2⟩:=ih (min m (timeT a.ttl))
   refine⟨by omega,fun x hx=>?_⟩
   rcases List.mem_cons.1 hx with rfl|hx
   ·omega
   ·exact h2 x hx
 exact key l _
theorem zFb (l:List RecD):zhl l=2147483647∨∃x∈l,zhl l=timeT x.ttl:=by
 have key:∀(l:List RecD) (m:Int),l.foldl (fun m x=>min m (timeT x.ttl)) m=m∨∃x∈l,l.foldl (fun m x=>min m (timeT x.ttl)) m=timeT x.ttl:=by
  intro l
  induction l with
  |nil=>intro m;simp
  |cons a l ih=>
   intro m;rw[List.foldl_cons];rcases ih (min m (timeT a.ttl))with h|⟨x,hx,h⟩
   ·rw[h];by_cases e:m≤timeT a.ttl
    ·left;omega
    ·right;exact⟨a,by simp,by omega⟩
   ·right;exact⟨x,by simp[hx],h⟩
 exact key l _
def bare (p:Pc):List UInt8×Bool:=(p.text,p.nm)
end Go.Proofs.YtdnpmapelmjfpaaGreatDoor
namespace Go.Proofs.YtdnpmapelmjfpaaGreatDoor
open Go.RowKit
theorem zmg (lo:Nat) (v:Value) (l:List RecD) (w:World) (hg:Laid w) (h:Recs w lo v l) (aB:zh7 l) (bB:zom l):
 Calls Tryz.prog 41 #[v] w (zqn (groupR l) w):=by
 refine(zvj lo v l w hg h aB bB).mono ?_;rintro e w' ⟨v,R,rfl,hp,hr,ho,hE⟩;have hR:R=groupR l:=zCw l 300000 (fun r hr=>⟨(aB.2 r hr).2,bB r hr⟩) R hp hr
 subst hR;exact⟨v,rfl,ho,hE⟩
end Go.Proofs.YtdnpmapelmjfpaaGreatDoor
