/- Lemmas of this claim. No condition. -/
import Derived.Test.YtdnpmapelmjfpaaGreatDoorLh
import Derived.Test.YtdnpmapelmjfpaaGreatDoorLg
import Derived.Deep.DeepCutAuto
set_option maxHeartbeats 8000000
set_option linter.unusedVariables false
set_option linter.unusedSimpArgs false
set_option maxRecDepth 100000
namespace Go.Proofs.YtdnpmapelmjfpaaGreatDoor
open Go.RowKit
def zl9 (t:Int) (d:List UInt8) (s:SetD):SetD:={s with ttl:=min s.ttl t,data:=s.data++[d]}
def zg6 (sets:List SetD) (x:RecD):List SetD:=
 if zcm x then
  (if atTo (zb5 (fold x.name) x.typ x.cls) sets sets.length<0 then sets++[⟨fold x.name,x.typ,x.cls,timeT x.ttl,[rfold x.typ x.data]⟩]
   else sets.modify (atTo (zb5 (fold x.name) x.typ x.cls) sets sets.length).toNat (zl9 (timeT x.ttl) (rfold x.typ x.data)))
 else sets
def rawTo (l:List RecD) (k:Nat):List SetD:=(l.take k).foldl zg6 []
theorem zgi (l:List RecD) (k:Nat) (h:k<l.length):rawTo l (k+1)=zg6 (rawTo l k) l[k]:=by
 unfold rawTo;rw[zat l k h,List.foldl_append];rfl
def zbl (s:SetD):List UInt8×Int×Int:=(s.name,s.typ,s.cls)
theorem zih {n:List UInt8} {t c:Int} {s:SetD}:zb5 n t c s=true↔zbl s=(n,t,c):=by
 simp[zb5,zbl]
theorem zn9 (l:List SetD) (k:Nat) (t:Int) (d:List UInt8):(l.modify k (zl9 t d)).map zbl=l.map zbl:=by
 apply List.ext_getElem?;intro i;simp only[List.getElem?_map,List.getElem?_modify];by_cases e:k=i
 ·subst e;cases l[k]? <;>simp[zl9,zbl]
 ·simp[e]
theorem zqq {f:SetD→Bool} {l:List SetD} (h:∀s∈l,f s=false):∀k,k≤l.length→atTo f l k= -1
 |0,_=>rfl
 |k+1,hk=>by
  simp only[atTo];have:l.getD k SetD.zero=l[k]:=by simp[show k<l.length by omega]
  rw[this,h l[k] (List.getElem_mem _),zqq h k (by omega)];rfl
theorem znx {n:List UInt8} {t c:Int} {l:List SetD} (hd:(l.map zbl).Nodup) {j:Nat} {s:SetD} (hs:l[j]? =some s) (hk:zb5 n t c s=true):∀k,j<k→k≤l.length→atTo (zb5 n t c) l k=j
 |0,h,_=>absurd h (by omega)
 |k+1,h,iC=>by
  simp only[atTo];have hg:l.getD k SetD.zero=l[k]:=by simp[show k<l.length by omega]
  rw[hg];rcases Nat.eq_or_lt_of_le (Nat.le_of_lt_succ h)with e|e
  ·subst e;rw[Z3 (by omega)]at hs
   injection hs with hs
   rw[hs,hk];rfl
  ·have au:zb5 n t c l[k]=false:=by
    rcases hb:zb5 n t c l[k]with _|_
    ·rfl
    ·exfalso;rw[zih]at hb hk;have hj:j<l.length:=by omega
     rw[Z3 hj]at hs;injection hs with hs
     have:=(List.pairwise_iff_getElem.1 hd) j k (by simpa using hj) (by simp;omega) e
     simp only[List.getElem_map]at this;rw[hs]at this;exact this (hk.trans hb.symm)
   rw[au];simp only[Bool.false_eq_true,if_false];exact znx hd hs hk k e (by omega)
theorem zw2 {f:SetD→Bool} {l:List SetD}:∀k,k≤l.length→0≤atTo f l k→∃s,l[(atTo f l k).toNat]? =some s∧f s=true
 |0,_,h=>by simp[atTo]at h
 |k+1,hk,h=>by
  have hg:l.getD k SetD.zero=l[k]:=by simp[show k<l.length by omega]
  have hu:atTo f l (k+1)=if f l[k]then(k:Int)else atTo f l k:=by rw[←hg];rfl
  rw[hu]at h ⊢;by_cases e:f l[k]=true
  ·rw[if_pos e];exact⟨l[k],by simp[Z3 (show k<l.length by omega)],e⟩
  ·rw[if_neg e]at h ⊢;exact zw2 k (by omega) h
theorem znw {f:SetD→Bool} {l:List SetD}:∀k,k≤l.length→atTo f l k<0→∀i (hi:i<k) (hl:i<l.length),f l[i]=false
 |0,_,_,i,hi,_=>absurd hi (by omega)
 |k+1,hk,h,i,hi,hl=>by
  simp only[atTo]at h;have hg:l.getD k SetD.zero=l[k]:=by simp[show k<l.length by omega]
  rw[hg]at h;by_cases e:f l[k]=true
  ·rw[if_pos e]at h;omega
  ·rw[if_neg e]at h;rcases Nat.eq_or_lt_of_le (Nat.le_of_lt_succ hi)with e'|e'
   ·subst e';simpa using e
   ·exact znw k (by omega) h i e' hl
theorem zx4 {sets:List SetD} (h:(sets.map zbl).Nodup) (x:RecD):((zg6 sets x).map zbl).Nodup:=by
 unfold zg6;split
 ·split
  ·rename_i fD;rw[List.map_append,List.nodup_append];refine⟨h,by simp,fun a ha b hb=>?_⟩
   simp only[List.map_cons,List.map_nil,List.mem_singleton]at hb;subst hb;obtain⟨s,hs,rfl⟩:=List.mem_map.1 ha
   obtain⟨i,hi,rfl⟩:=List.getElem_of_mem hs
   have:=znw _ (Z4 _) fD i hi hi
   intro e;rw[zih.2 e]at this;cases this
  ·rw[zn9];exact h
 ·exact h
theorem zjg (l:List RecD):∀k,k≤l.length→((rawTo l k).map zbl).Nodup
 |0,_=>by simp[rawTo]
 |k+1,h=>by rw[zgi l k (by omega)];exact zx4 (zjg l k (by omega)) _
def RawBd (k B:Nat) (s:SetD):Prop:=(may s.name=true∧low s.name=s.name)∧s.data.length≤k∧(0≤s.typ∧s.typ≤65535)∧(0≤s.cls∧s.cls≤65535)∧∀d∈s.data,d.length≤B
theorem RawBd.mono {k k' B:Nat} {s:SetD} (h:RawBd k B s) (hk:k≤k'):RawBd k' B s:=⟨h.1,Z2 h.2.1 hk,h.2.2⟩
theorem zt3 {n:List UInt8} (h:may n=true):may (fold n)=true∧low (fold n)=fold n:=by
 unfold fold;rw[if_pos h];exact⟨by rw[zF9];exact h,zF8 n⟩
theorem zks (l:List RecD) (B:Nat) (hB:∀r∈l,r.data.length≤B∧(0≤r.typ∧r.typ≤65535)∧(0≤r.cls∧r.cls≤65535)):∀k,k≤l.length→∀s∈rawTo l k,RawBd k B s
 |0,_=>by simp[rawTo]
 |k+1,h=>by
  rw[zgi l k (by omega)]
  have ih:=zks l B hB k (by omega)
  have hx:=hB l[k] (List.getElem_mem (by omega))
  have hr:=zmf l[k].typ l[k].data
  intro s hs;unfold zg6 at hs;split at hs
  ·rename_i bB;have hm:may l[k].name=true:=by unfold zcm at bB;simp only[Bool.and_eq_true]at bB;exact bB.1
   split at hs
   ·rcases List.mem_append.1 hs with h1|h1
    ·exact(ih s h1).mono (by omega)
    ·rw[List.mem_singleton]at h1;subst h1;exact⟨zt3 hm,by simp,hx.2.1,hx.2.2,by simp;omega⟩
   ·rcases zkk hs with h1|⟨y,hy,rfl⟩
    ·exact(ih s h1).mono (by omega)
    ·have h2:=ih y hy
     refine⟨h2.1,by simp[zl9];exact h2.2.1,h2.2.2.1,h2.2.2.2.1,fun d hd=>?_⟩
     simp only[zl9,List.mem_append,List.mem_singleton]at hd;rcases hd with hd|rfl
     ·exact h2.2.2.2.2 d hd
     ·omega
  ·exact(ih s hs).mono (by omega)
theorem zm7 (l:List RecD):∀k,k≤l.length→(rawTo l k).length≤k
 |0,_=>by simp[rawTo]
 |k+1,h=>by
  rw[zgi l k (by omega)]
  have:=zm7 l k (by omega)
  unfold zg6
  repeat' split
  all_goals simp
  all_goals omega
theorem zGx {w0 V:World} {g:Nat} {a b c:Value} (hE:Ext w0 V) (hg:g<w0.heap.size) (h0:w0.cell? ⟨g,0,none⟩=some a) (h1:w0.cell? ⟨g,1,none⟩=some b) (h2:w0.cell? ⟨g,2,none⟩=some c):V.cell? ⟨g,0,none⟩=some a∧V.cell? ⟨g,1,none⟩=some b∧V.cell? ⟨g,2,none⟩=some c:=
 ⟨(hE.cell (p:=⟨g,0,none⟩) hg).trans h0,(hE.cell (p:=⟨g,1,none⟩) hg).trans h1,(hE.cell (p:=⟨g,2,none⟩) hg).trans h2⟩
theorem zqb {w:World} {lo:Nat} {e:TypeId} {sz n c:Nat} {A:Option Addr} {xs:List Value} {b:Nat} {sets:List SetD} (h:Own w lo e sz A n c xs) (k:KMap w b sets):(Value.slice A n c).ownBlock=none∨(Value.slice A n c).ownBlock≠some b:=by
 obtain⟨es,clock,hb,_⟩:=k
 rcases h.2 with⟨h1,_⟩|⟨g,cap,cur,h1,_,hh,_⟩
 ·injection h1 with h1;subst h1;exact .inl rfl
 ·injection h1 with h1;subst h1
  refine .inr (fun e=>?_)
  have:g=b:=by simpa[Value.ownBlock]using e
  subst this;rw[hb]at hh;cases hh
theorem zmu {w:World} {lo:Nat} {e:TypeId} {sz n c:Nat} {A:Option Addr} {xs:List Value} {b:Nat} {sets:List SetD} (h:Own w lo e sz A n c xs) (k:KMap w b sets):some b≠(Value.slice A n c).ownBlock:=by
 intro e;rcases zqb h k with h1|h1
 ·rw[h1]at e;cases e
 ·exact h1 e.symm
abbrev zo5 (fn:List UInt8) (ty cl T:Int):SetD×Value:=(⟨fn,ty,cl,T,[]⟩,.slice none 0 0)
theorem zjc {w w':World} {row:Option Nat} {g j:Nat} {b:Bool} (hg:w.grownBy w' row) (ab:g<w.heap.size) (au:some g≠row) (h:w.frozen? ⟨g,j,none⟩=b):w'.frozen? ⟨g,j,none⟩=b:=
 (World.frozen?_of_block (hg.block g ab au)).trans h
structure GpInv (w:World) (sets:List SetD) (ps:List (SetD×Value)) (A:Option Addr) (c mb:Nat) (wr:World):Prop where
 eq:ps.map Prod.fst=sets
 own:Own wr w.heap.size 79 5 A ps.length c (ps.flatMap setCells)
 datas:∀p∈ps,OStrs wr w.heap.size p.2 p.1.data
 apart:ps.Pairwise fun p q=>p.2.ownBlock=none∨p.2.ownBlock≠q.2.ownBlock
 kmap:KMap wr mb sets
 mb:w.heap.size≤mb
 ext:Ext w wr
def zom (l:List RecD):Prop:=∀r∈l,(0≤r.typ∧r.typ≤65535)∧(0≤r.cls∧r.cls≤65535)
theorem zF0 {w X w7:World} {L' KS:List SetD} {PS:List (SetD×Value)} {g c J mb:Nat} {sn:List UInt8} {st sc sl:Int} {sd:List (List UInt8)} {dA:Option Addr} {dc:Nat} {fd:List UInt8} {A7:Option Addr} {c7:Nat} {old:Value}
 (hj:PS[J]? =some (⟨sn,st,sc,sl,sd⟩,.slice dA sd.length dc))
 (ho:Own X w.heap.size 79 5 (some ⟨g,0,none⟩) PS.length c (PS.flatMap setCells)) (hd:∀p∈PS,OStrs X w.heap.size p.2 p.1.data)
 (ja:PS.Pairwise fun p q=>p.2.ownBlock=none∨p.2.ownBlock≠q.2.ownBlock) (hk:KMap X mb KS) (GU:w.heap.size≤mb) (hE:Ext w X)
 (fQ:Own w7 w.heap.size 9 1 A7 (sd.length+1) c7 (sd.map S++[fd].map S)) (dV:X.grownBy w7 (Value.slice dA sd.length dc).ownBlock) (lB:Below w.heap.size X w7)
 (jb:(Value.slice A7 (sd.length+1) c7).ownBlock=(Value.slice dA sd.length dc).ownBlock∨(Value.slice A7 (sd.length+1) c7).ownBlock=some X.heap.size)
 (Bu:L'=(PS.set J (⟨sn,st,sc,sl,sd++[fd]⟩,old)).map Prod.fst) (hK:L'.map zbl=KS.map zbl):
 GpInv w L' (PS.set J (⟨sn,st,sc,sl,sd++[fd]⟩,.slice A7 (sd.length+1) c7)) (some ⟨g,0,none⟩) c mb (w7.setCell ⟨g,J*5+4,none⟩ (.slice A7 (sd.length+1) c7)):=by
 have hJ:J<PS.length:=(List.getElem?_eq_some_iff.1 hj).1
 have GV:=List.mem_of_getElem? hj
 have gK:=hd _ GV
 dsimp only at gK;have tF:Own X w.heap.size 9 1 dA sd.length dc (sd.map S):=by
  obtain⟨B,d,e,h⟩:=gK
  injection e with e1 _ e3
  subst e1 e3;exact h
 have bG:w.heap.size≤g:=(ho.blk g rfl).1
 have jc:=ho.kept dV (zfl ho tF (by decide))
 have DV:OStrs w7 w.heap.size (.slice A7 (sd.length+1) c7) (sd++[fd]):=⟨A7,c7,by simp,by simpa using fQ⟩
 have jr:∀i (hi:i<PS.length),i≠J→PS[i].2.ownBlock=none∨PS[i].2.ownBlock≠(Value.slice dA sd.length dc).ownBlock:=fun i hi au=>by
  have rR:PS[J]=(⟨sn,st,sc,sl,sd⟩,.slice dA sd.length dc):=(List.getElem?_eq_some_iff.1 hj).2
  rcases Nat.lt_or_gt_of_ne au with h|h
  ·have:=List.pairwise_iff_getElem.1 ja i J hi hJ h
   rwa[rR]at this
  ·have:=List.pairwise_iff_getElem.1 ja J i hJ hi h
   rw[rR]at this;dsimp only at this;rcases hb:PS[i].2.ownBlock with _|z
   ·exact .inl rfl
   ·right;rcases this with h1|h1
    ·rw[h1];simp
    ·rw[hb]at h1;exact fun e=>h1 e.symm
 refine⟨?_,?_,?_,?_,?_,GU,?_⟩
 ·rw[Bu,List.map_set,List.map_set]
 ·have h6:=jc.stored (J*5+4) (.slice A7 (sd.length+1) c7) (by omega)
  rw[zdx PS J (⟨sn,st,sc,sl,sd⟩,.slice dA sd.length dc) (⟨sn,st,sc,sl,sd⟩,.slice A7 (sd.length+1) c7) 4 _ hj (by omega) rfl]at h6
  have e1:(PS.set J (⟨sn,st,sc,sl,sd⟩,.slice A7 (sd.length+1) c7)).flatMap setCells=(PS.set J (⟨sn,st,sc,sl,sd++[fd]⟩,.slice A7 (sd.length+1) c7)).flatMap setCells:=by
   rw[List.flatMap_def,List.flatMap_def,List.map_set,List.map_set];rfl
  rw[e1]at h6;rw[List.length_set];exact h6
 ·intro p hp;obtain⟨i,hi,rfl⟩:=List.getElem_of_mem hp
  rw[List.length_set]at hi;rw[List.getElem_set];split
  ·exact OStrs.set_other (p:=⟨g,_,none⟩) DV _ (zb3 DV jc)
  ·rename_i au;have h7:=(hd PS[i] (List.getElem_mem hi)).kept dV (jr i hi (fun e=>au e.symm))
   exact OStrs.set_other (p:=⟨g,_,none⟩) h7 _ (zb3 h7 jc)
 ·rw[List.pairwise_iff_getElem];intro i j hi dP rP;rw[List.length_set]at hi dP;rw[List.getElem_set,List.getElem_set];by_cases e1:J=i
  ·rw[if_pos e1,if_neg (by omega)]
   dsimp only;have h8:=zf8 (jr j dP (by omega)) (fun z hz=>((hd PS[j] (List.getElem_mem dP)).blk z hz).2) jb
   rcases hb:(Value.slice A7 (sd.length+1) c7).ownBlock with _|z
   ·exact .inl rfl
   ·right;rcases h8 with h9|h9
    ·rw[h9];simp
    ·rw[hb]at h9;exact fun e=>h9 e.symm
  ·rw[if_neg e1];by_cases e2:J=j
   ·rw[if_pos e2];exact zf8 (jr i hi (fun e=>e1 e.symm)) (fun z hz=>((hd PS[i] (List.getElem_mem hi)).blk z hz).2) jb
   ·rw[if_neg e2];exact List.pairwise_iff_getElem.1 ja i j hi dP rP
 ·have DW:=hk.kept dV (zmu tF hk)
  exact(DW.set (p:=⟨g,_,none⟩) (fun e=>zmu jc DW (by simp[Value.ownBlock];exact e)) _).congr hK
 ·exact(Ext.then (lo:=w.heap.size) hE lB (Z4 _)).setCell bG _
def zd2 (s:SetD):SetD:={s with data:=Lib.compact (sortB s.data)}
def zen (L:List SetD) (i:Nat):List SetD:=(L.take i).map zd2++L.drop i
theorem zst (L:List SetD) (i:Nat) (s:SetD) (h:(zen L i)[i]? =some s) (hi:i<L.length):zen L (i+1)=(zen L i).set i (zd2 s):=by
 have hl:((L.take i).map zd2).length=i:=by simp;omega
 have hs:s=L[i]:=by
  unfold zen at h;rw[List.getElem?_append_right (by omega),hl,Nat.sub_self,List.getElem?_drop,Nat.add_zero,Z3 hi]at h
  injection h with h;exact h.symm
 subst hs;unfold zen;rw[zat L i hi,List.map_append,List.set_append_right _ _ (by omega),hl,Nat.sub_self,List.drop_eq_getElem_cons hi,List.set_cons_zero]
 simp
structure ClInv (w:World) (L:List SetD) (n:Nat) (i:Nat) (ps:List (SetD×Value)) (A:Option Addr) (c:Nat) (wr:World):Prop where
 len:ps.length=n
 eq:ps.map Prod.fst=zen L i
 own:Own wr w.heap.size 79 5 A n c (ps.flatMap setCells)
 datas:∀p∈ps,OStrs wr w.heap.size p.2 p.1.data
 apart:ps.Pairwise fun p q=>p.2.ownBlock=none∨p.2.ownBlock≠q.2.ownBlock
 ext:Ext w wr
theorem zDf {ps:List (SetD×Value)} {J:Nat} {s:SetD} {v:Value} (ja:ps.Pairwise fun p q=>p.2.ownBlock=none∨p.2.ownBlock≠q.2.ownBlock) (hj:ps[J]? =some (s,v)):∀i (hi:i<ps.length),i≠J→ps[i].2.ownBlock=none∨ps[i].2.ownBlock≠v.ownBlock:=fun i hi au=>by
 have hJ:J<ps.length:=(List.getElem?_eq_some_iff.1 hj).1
 have rR:ps[J]=(s,v):=(List.getElem?_eq_some_iff.1 hj).2
 rcases Nat.lt_or_gt_of_ne au with h|h
 ·have:=List.pairwise_iff_getElem.1 ja i J hi hJ h
  rwa[rR]at this
 ·have:=List.pairwise_iff_getElem.1 ja J i hJ hi h
  rw[rR]at this;dsimp only at this;rcases hb:ps[i].2.ownBlock with _|z
  ·exact .inl rfl
  ·right;rcases this with h1|h1
   ·rw[h1];simp
   ·rw[hb]at h1;exact fun e=>h1 e.symm
theorem zkh {w a b:World} {row:Option Nat} (h:Ext w a) (hg:a.grownBy b row) (hr:∀k,row=some k→w.heap.size≤k):Ext w b:=
 ⟨hg.os.trans h.os,hg.tape.trans h.tape,hg.output.trans h.output,Z2 h.size hg.size,fun k hk=>(hg.block k (Z1 hk h.size) (fun e=>by have:=hr k e.symm;omega)).trans (h.block k hk)⟩
theorem zEs {w X w1 w2:World} {L:List SetD} {n i:Nat} {ps:List (SetD×Value)} {g c:Nat} {sn:List UInt8} {st sc sl:Int} {sd:List (List UInt8)} {dv v':Value}
 (hI:ClInv w L n i ps (some ⟨g,0,none⟩) c X) (hn:n=L.length) (hi:i<n) (hj:ps[i]? =some (⟨sn,st,sc,sl,sd⟩,dv))
 (bh:X.grownBy w1 dv.ownBlock) (aI:OStrs w2 w.heap.size v' (Lib.compact (sortB sd))) (ci:w1.grownBy w2 dv.ownBlock) (hv:v'.ownBlock=dv.ownBlock):
 ClInv w L n (i+1) (ps.set i (⟨sn,st,sc,sl,Lib.compact (sortB sd)⟩,v')) (some ⟨g,0,none⟩) c (w2.setCell ⟨g,i*5+4,none⟩ v'):=by
 have hJ:i<ps.length:=(List.getElem?_eq_some_iff.1 hj).1
 have gK:=hI.datas _ (List.mem_of_getElem? hj)
 dsimp only at gK;have bG:w.heap.size≤g:=(hI.own.blk g rfl).1
 have au:(Value.slice (some ⟨g,0,none⟩) n c).ownBlock=none∨(Value.slice (some ⟨g,0,none⟩) n c).ownBlock≠dv.ownBlock:=by
  obtain⟨B,d,rfl,ho⟩:=gK
  exact zfl hI.own ho (by decide)
 have jc:=(hI.own.kept bh au).kept ci au
 have mc:∀k,dv.ownBlock=some k→w.heap.size≤k:=fun k hk=>(gK.blk k hk).1
 refine⟨by simp[hI.len],?_,?_,?_,?_,?_⟩
 ·rw[zst L i ⟨sn,st,sc,sl,sd⟩ (by rw[←hI.eq,List.getElem?_map,hj];rfl) (by omega),←hI.eq,List.map_set];rfl
 ·have h6:=jc.stored (i*5+4) v' (by omega)
  rw[zdx ps i (⟨sn,st,sc,sl,sd⟩,dv) (⟨sn,st,sc,sl,sd⟩,v') 4 _ hj (by omega) rfl]at h6
  have e1:(ps.set i (⟨sn,st,sc,sl,sd⟩,v')).flatMap setCells=(ps.set i (⟨sn,st,sc,sl,Lib.compact (sortB sd)⟩,v')).flatMap setCells:=by
   rw[List.flatMap_def,List.flatMap_def,List.map_set,List.map_set];rfl
  rw[e1]at h6;exact h6
 ·intro p hp;obtain⟨k,hk,rfl⟩:=List.getElem_of_mem hp
  rw[List.length_set]at hk;rw[List.getElem_set];split
  ·exact OStrs.set_other (p:=⟨g,_,none⟩) aI _ (zb3 aI jc)
  ·rename_i hne';have fJ:=zDf hI.apart hj k hk (fun e=>hne' e.symm)
   have h7:=((hI.datas ps[k] (List.getElem_mem hk)).kept bh fJ).kept ci fJ
   exact OStrs.set_other (p:=⟨g,_,none⟩) h7 _ (zb3 h7 jc)
 ·have key:∀k (hk:k<ps.length),((ps.set i (⟨sn,st,sc,sl,Lib.compact (sortB sd)⟩,v'))[k]'(by simpa using hk)).2.ownBlock=ps[k].2.ownBlock:=fun k hk=>by
   rw[List.getElem_set];split
   ·rename_i e;subst e;rw[(List.getElem?_eq_some_iff.1 hj).2];exact hv
   ·rfl
  have ja:=hI.apart
  rw[List.pairwise_iff_getElem]at ja ⊢;intro a b ha hb gX;rw[List.length_set]at ha hb;rw[key a ha,key b hb];exact ja a b ha hb gX
 ·exact(zkh (zkh hI.ext bh mc) ci mc).setCell bG _
structure GpMid (w wo:World) (l:List RecD) (k:Nat) (ty cl:Int) (da:List UInt8) (T:Int) (J g c:Nat) (PS:List (SetD×Value)) (sn:List UInt8) (sl:Int) (sd:List (List UInt8)) (dA:Option Addr) (dc:Nat) (KS:List SetD) (X:World):Prop where
 jp:PS[J]? =some (⟨sn,ty,cl,sl,sd⟩,.slice dA sd.length dc)
 own:Own X w.heap.size 79 5 (some ⟨g,0,none⟩) PS.length c (PS.flatMap setCells)
 datas:∀p∈PS,OStrs X w.heap.size p.2 p.1.data
 apart:PS.Pairwise fun p q=>p.2.ownBlock=none∨p.2.ownBlock≠q.2.ownBlock
 kmap:KMap X w.heap.size KS
 ext:Ext w X
 b1:X.cell? ⟨wo.heap.size,1,none⟩=some (.int .u16 ty)
 b4:X.cell? ⟨wo.heap.size,4,none⟩=some (S da)
 gne:wo.heap.size≠g
 wo:wo.heap.size<X.heap.size
 len:PS.length≤8192∧sd.length≤4096
 ends:rawTo l (k+1)=(PS.set J (⟨sn,ty,cl,min sl T,sd++[rfold ty da]⟩,.slice none 0 0)).map Prod.fst
 keys:(rawTo l (k+1)).map zbl=KS.map zbl
theorem zFd {ps:List (SetD×Value)} {j:Nat} {s:SetD} {v:Value} (h:ps[j]? =some (s,v)) (f:SetD→SetD) (u:Value):(ps.map Prod.fst).modify j f=(ps.set j (f s,u)).map Prod.fst:=by
 apply List.ext_getElem?;intro i;have hj:=(List.getElem?_eq_some_iff.1 h).1
 simp only[List.map_set,List.getElem?_set,List.getElem?_modify,List.getElem?_map,List.length_map];by_cases e:j=i
 ·subst e;rw[h,if_pos rfl,if_pos hj];simp
 ·rw[if_neg e];cases ps[i]? <;>simp[e]
theorem zzf {PS:List (SetD×Value)} {J:Nat} {s:SetD} {v:Value} (h:PS.Pairwise fun p q=>p.2.ownBlock=none∨p.2.ownBlock≠q.2.ownBlock) (hj:PS[J]? =some (s,v)) (s':SetD):(PS.set J (s',v)).Pairwise fun p q=>p.2.ownBlock=none∨p.2.ownBlock≠q.2.ownBlock:=by
 have hJ:=(List.getElem?_eq_some_iff.1 hj).1
 have rR:=(List.getElem?_eq_some_iff.1 hj).2
 have key:∀i (hi:i<PS.length),((PS.set J (s',v))[i]'(by simpa using hi)).2=PS[i].2:=fun i hi=>by
  rw[List.getElem_set];split
  ·rename_i e;subst e;rw[rR]
  ·rfl
 rw[List.pairwise_iff_getElem]at h ⊢;intro i j hi dP rP;rw[List.length_set]at hi dP;rw[key i hi,key j dP];exact h i j hi dP rP
def zFx (L:List SetD) (w:World) (e:Ending) (w':World):Prop:=∃v R,e=.returned v∧R.Perm (L.map zd2)∧zh8 R∧OSets w' w.heap.size v R∧Ext w w'
theorem zvj (lo:Nat) (v:Value) (l:List RecD) (w:World) (hg:Laid w) (h:Recs w lo v l) (aB:zh7 l) (bB:zom l):
 Calls Tryz.prog 41 #[v] w (zFx (rawTo l l.length) w):=by
 obtain⟨A0,c0,rfl,h1,h2,ay⟩:=h
 unfold maxLen at h2;have qz:=aB.1
 obtain⟨i0,aH,aF,aC,ax⟩:=info_parts zfx
 obtain⟨j0,iX,kO,jA,gS⟩:=info_parts zed
 have Bv:=zks l 300000 (fun r hr=>⟨(aB.2 r hr).2,bB r hr⟩) l.length (Z4 _)
 have GW:=zm7 l l.length (Z4 _)
 obtain⟨L0,yI⟩:∃L0,L0=rawTo l l.length:=⟨_,rfl⟩
 rw[←yI];rw[←yI]at Bv GW;have GX:=Z7 yI
 clear yI;have gb:=@run_makeMap Tryz.prog
 go_enter Tryz.func41,Tryz.ntmps41;go_wp2_with fail;clear gb
 go_loopw [4,15] (fun s i wr=>∃(k:Nat) (ps:List (SetD×Value)) (A:Option Addr) (c:Nat),k≤l.length∧i=.int .i64 k∧s=.slice A ps.length c∧GpInv w (rawTo l k) ps A c w.heap.size wr) (fun _ i _=>l.length - (intOf i).toNat)
 case atStart=>exact⟨0,[],none,0,by omega,rfl,rfl,⟨rfl,Own.nil _ _ _ _,by simp,List.Pairwise.nil,KMap.made w,Z4 _,(Z5 _).alloc _⟩⟩
 case round=>
  obtain⟨k,ps,A,c,hk,rfl,rfl,hI⟩:=hrel
  obtain⟨wo,rfl⟩:∃wo:World,wo=wr:=⟨_,rfl⟩
  have aN:=hI.ext
  by_cases ab:k<l.length
  ·obtain⟨b,off,rfl,_,az,hc⟩:=ay.2 (by omega)
   have eK:=zfe hc k l[k] (Z3 ab)
   have xX:=aB.2 l[k] (List.getElem_mem ab)
   have nY:=bB l[k] (List.getElem_mem ab)
   have ux:=zgi l k ab
   have i5:=zks l 300000 (fun r hr=>⟨(aB.2 r hr).2,bB r hr⟩) k hk
   have jE:=zm7 l k hk
   have nJ:=zjg l k hk
   generalize l[k]=x at*;have dg:=hI.eq
   generalize rawTo l k=sets at*;have bi:ps.length=sets.length:=by rw[←dg];simp
   obtain⟨nm,ty,cl,tt,da⟩:=x
   dsimp only at*;obtain⟨x0,x1,x2,x3,x4⟩:=eK
   rw[←aN.cell (p:=⟨b,_,none⟩) az]at x0 x1 x2 x3 x4
   have aU:b<wo.heap.size:=Z1 az aN.size
   have cz:(k:Int)<(l.length:Int):=by omega
   have cW:(0:Int)≤(k:Int):=by omega
   have zy:ps.length≤4096:=by omega
   have lx:=Z7 ux
   have cA:=Z7 dg
   have kR:=Z7 bi
   clear hc ux dg bi;have HM:=Z7 (fun W=>zbe nm W (by unfold maxLen;omega))
   have wu:=Z7 (fun W (hW:Ext w W)=>zm8 ty da W (hg.ext hW) (by omega))
   have HF:=Z7 (fun W=>zhg nm W (by unfold maxLen;omega))
   have GY:=Z7 (fun W (hW:Ext w W)=>zyd ty da W (hg.ext hW) (by omega))
   by_cases hm:may nm=true
   ·rw[hm]at HM;by_cases gH:rmay ty da=true
    ·rw[gH]at wu;have iM:=Z7 (show zcm ⟨nm,ty,cl,tt,da⟩=true by simp[zcm,hm,gH])
     go_wp2_with fail;refine(HM.out _).mono ?_;rintro e w' ⟨rfl,rfl⟩;go_wp2_with fail;refine(wu.out _ (aN.trans ((Z5 _).alloc _))).mono ?_;rintro e w2 ⟨rfl,ah⟩;obtain⟨hq,bU,bP⟩:=zap ah
     have q0:w2.cell? ⟨wo.heap.size,0,none⟩=some (S nm):=hq 0
     have q1:w2.cell? ⟨wo.heap.size,1,none⟩=some (.int .u16 ty):=hq 1
     have q2:w2.cell? ⟨wo.heap.size,2,none⟩=some (.int .u16 cl):=hq 2
     have q3:w2.cell? ⟨wo.heap.size,3,none⟩=some (.int .u32 tt):=hq 3
     have q4:w2.cell? ⟨wo.heap.size,4,none⟩=some (S da):=hq 4
     clear hq bU
     go_upto_if 37 with(fail)
     go_cut [7] (fun s7 wx=>s7=.int .u32 (timeT tt)∧w2=wx)
     case first=>
      by_cases Bw:2147483647<tt
      ·have By:Hid (timeT tt=0):=by show timeT tt=_;unfold timeT;rw[if_pos Bw]
       go_wp2_with fail;go_meet;exact⟨by rw[By.out],rfl⟩
      ·have By:Hid (timeT tt=tt):=by show timeT tt=_;unfold timeT;rw[if_neg Bw]
       have wv:decide (2147483647<tt)=false:=by simpa using Bw
       go_wp2_with fail;go_meet;exact⟨by rw[By.out],rfl⟩
     case rest=>
      obtain⟨rfl,rfl⟩:=hcut
      go_upto_region 11 with fail
      go_cut [8] (fun s8 wx=>∃gk:Nat,s8=.pointer (some ⟨gk,0,none⟩)∧wx.cell? ⟨gk,0,none⟩=some (S (fold nm))∧wx.cell? ⟨gk,1,none⟩=some (.int .u16 ty)∧wx.cell? ⟨gk,2,none⟩=some (.int .u16 cl)∧w2.heap.size≤gk∧gk<wx.heap.size∧Ext w2 wx)
      case first=>
       go_region_held3 (fun V=>V.cell? ⟨wo.heap.size,0,none⟩=some (S nm)∧V.cell? ⟨wo.heap.size,1,none⟩=some (.int .u16 ty)∧V.cell? ⟨wo.heap.size,2,none⟩=some (.int .u16 cl))
        (first|go_keep|exact zGx (by(repeat(first|(with_reducible exact Ext.trans xt ao)|with_reducible exact Z5 _|with_reducible refine Ext.alloc ?_ _|with_reducible refine Ext.drew ?_|(with_reducible refine Ext.setCell ?_ ?hp _;case hp=>(simp<;>omega))))) bP q0 q1 q2)
        (first|(go_at_call 19;refine(HF.out _).mono ?_;rintro e w3 ⟨rfl,ao⟩;try(obtain⟨hz,yJ,aW⟩:=zap (Ext.of_drewN 1 ao);have z0:w3.cell? ⟨w2.heap.size,0,none⟩=some (S []):=hz 0;have z1:w3.cell? ⟨w2.heap.size,1,none⟩=some (.int .u16 0):=hz 1;have z2:w3.cell? ⟨w2.heap.size,2,none⟩=some (.int .u16 0):=hz 2;have y0:=yJ 0;have y1:=yJ 1;have y2:=yJ 2;clear hz yJ)))
       all_goals
        go_wp2_with fail;go_meet
        first
         |exact⟨w2.heap.size,rfl,by rw[World.cell?_setCell_other _ _ _ _ (by simp),World.cell?_setCell_other _ _ _ _ (by simp)];exact World.cell?_setCell_same _ _ _ z0,by rw[World.cell?_setCell_other _ _ _ _ (by simp)];exact World.cell?_setCell_same _ _ _ ((World.cell?_setCell_other _ _ _ _ (by simp)).trans z1),World.cell?_setCell_same _ _ _ ((World.cell?_setCell_other _ _ _ _ (by simp)).trans ((World.cell?_setCell_other _ _ _ _ (by simp)).trans z2)),Z4 _,by simp;exact aW,(((Ext.trans ((Z5 w2).alloc _) (Ext.of_drewN 1 ao)).setCell (Z4 _) _).setCell (Z4 _) _).setCell (Z4 _) _⟩
         |exact⟨w3.heap.size,rfl,by simp,by simp,by simp,(Ext.of_drewN 1 ao).size,by simp,(Ext.of_drewN 1 ao).alloc _⟩
      case rest=>
       obtain⟨gk,rfl,kc0,kc1,kc2,DX,Bz,kD⟩:=hcut
       obtain⟨W,rfl⟩:∃W:World,W=wc:=⟨_,rfl⟩
       have oK:Ext wo W:=(((Z5 wo).alloc _).trans ah).trans kD
       have r1:=(kD.cell (p:=⟨wo.heap.size,1,none⟩) bP).trans q1
       have r2:=(kD.cell (p:=⟨wo.heap.size,2,none⟩) bP).trans q2
       have r3:=(kD.cell (p:=⟨wo.heap.size,4,none⟩) bP).trans q4
       have GZ:wo.heap.size<gk:=Z1 bP DX
       have eB:Ext w W:=aN.trans oK
       have bM:=hI.own.ext oK
       have cM:∀p∈ps,OStrs W w.heap.size p.2 p.1.data:=fun p hp=>(hI.datas p hp).ext oK
       have js:=hI.kmap.ext oK
       have rS:wo.heap.size<W.heap.size:=Z1 bP kD.size
       have G1:w.heap.size<wo.heap.size:=hI.kmap.lt
       have tG:=ze4 nm
       have HA:=Z7 (show zg6 sets ⟨nm,ty,cl,tt,da⟩=if atTo (zb5 (fold nm) ty cl) sets sets.length<0 then sets++[⟨fold nm,ty,cl,timeT tt,[rfold ty da]⟩]else sets.modify (atTo (zb5 (fold nm) ty cl) sets sets.length).toNat (zl9 (timeT tt) (rfold ty da))by unfold zg6;rw[iM.out,if_pos rfl])
       generalize timeT tt=T at*;clear ah kD bP DX HF HM wu q0 q1 q2 q3 q4;obtain⟨aj,bj,gZ,me⟩:∃(aj:Int) (bj:Bool),(Instr.lookup 152 (.map (some w.heap.size)) (zki (fold nm) ty cl) true).run Tryz.prog W=.ok (.tuple #[.int .i64 aj,.bool bj]) W∧Hid ((bj=false∧∀s∈sets,zb5 (fold nm) ty cl s=false)∨(bj=true∧∃(j:Nat) (s:SetD),aj=j∧sets[j]? =some s∧zb5 (fold nm) ty cl s=true)):=by
        rcases js.look (fold nm) ty cl (by unfold maxLen;omega) nY.1 nY.2 with⟨h1,h2⟩|⟨j,sj,h1,h2,h3⟩
        ·exact⟨_,_,h1,.inl ⟨rfl,h2⟩⟩
        ·exact⟨_,_,h1,.inr ⟨rfl,j,sj,rfl,h2,h3⟩⟩
       go_upto_if 53 with(fail)
       go_cut [4,9] (fun s4 s9 wx=>∃(J g c':Nat) (PS:List (SetD×Value)) (sn:List UInt8) (sl:Int) (sd:List (List UInt8)) (dA:Option Addr) (dc:Nat) (KS:List SetD),s4=.slice (some ⟨g,0,none⟩) PS.length c'∧s9=.int .i64 J∧GpMid w wo l k ty cl da T J g c' PS sn sl sd dA dc KS wx)
       case first=>
        have Hc:=me
        clear me;rcases bj with _|_
        ·have bT:∀s∈sets,zb5 (fold nm) ty cl s=false:=by
          rcases Hc.out with⟨_,h⟩|⟨h,_⟩
          ·exact h
          ·cases h
         have tH:=Z7 (lx.out.trans (HA.out.trans (if_pos (by rw[zqq bT _ (Z4 _)];omega))))
         obtain⟨W1,qL,ww,dL⟩:=js.store ⟨fold nm,ty,cl,T,[rfold ty da]⟩ ⟨by unfold maxLen;dsimp only;omega,nY.1,nY.2⟩ bT
         rw[←kR.out]at qL;unfold zii at qL;dsimp only at qL;clear gZ;generalize fold nm=fn at*;have au:∀g,g≠w.heap.size→some g≠some w.heap.size:=fun g h e=>h (by injection e)
         have k0:=dL.cell kc0 (au _ (by dsimp only;omega))
         have s1:=dL.cell r1 (au _ (by dsimp only;omega))
         have s2:=dL.cell r2 (au _ (by dsimp only;omega))
         have s3:=dL.cell r3 (au _ (by dsimp only;omega))
         have wy:Ext w W1:=⟨dL.os.trans eB.os,dL.tape.trans eB.tape,dL.output.trans eB.output,Z2 eB.size dL.size,fun k hk=>(dL.block k (Z1 hk eB.size) (au _ (by omega))).trans (eB.block k hk)⟩
         have iq:=bM.kept dL (zqb bM js)
         have pO:∀p∈ps,OStrs W1 w.heap.size p.2 p.1.data:=fun p hp=>by
          obtain⟨B,d,e,ho⟩:=cM p hp
          exact⟨B,d,e,ho.kept dL (zqb ho js)⟩
         have co:wo.heap.size<W1.heap.size:=Z1 rS dL.size
         have Hi:gk<W1.heap.size:=Z1 Bz dL.size
         clear js bM cM dL r1 r2 r3 rS;have gX:some wo.heap.size≠(Value.slice A ps.length c).ownBlock:=fun e=>absurd (hI.own.blk _ e.symm).2 (Nat.lt_irrefl _)
         go_wp2_with(at_builtin;refine zad _ rfl (.tmp 59) (.tmp 68) _ rfl w.heap.size 79 i0 _ 5 48 Tryz.underlying22 aH aF aC ax rfl (by omega) A ps.length c (ps.flatMap setCells) rfl (iq.ext ((Z5 _).alloc _)) 0 _ 1 1 (setCells (zo5 fn ty cl T)) rfl (zaw _ _ (by simp) _ _ 1 5 rfl) (zg0 _ _ _ _) (by omega) (by omega) (by have:=wy.size;simp;omega) ?_;intro A5 c5 w5 ai bq aG dS)
         have fO:Ext W1 (W1.alloc (.cells (setCells (zo5 fn ty cl T)).toArray 79)):=(Z5 _).alloc _
         have am:Ext w w5:=Ext.then (lo:=w.heap.size) (wy.trans fO) aG (Z4 _)
         obtain⟨g5,Hj,H7,uC,H8,H9⟩:=ai.addr (by omega)
         subst Hj;have BA:(ps++[zo5 fn ty cl T]).length=ps.length+1:=by simp
         have Ia:Own w5 w.heap.size 79 5 (some ⟨g5,0,none⟩) (ps++[zo5 fn ty cl T]).length c5 ((ps++[zo5 fn ty cl T]).flatMap setCells):=by rw[BA,List.flatMap_append];simpa using ai
         go_meet;refine⟨ps.length,g5,c5,ps++[zo5 fn ty cl T],fn,T,[],none,0,sets++[⟨fn,ty,cl,T,[rfold ty da]⟩],by rw[BA],rfl,⟨by simp,Ia,fun p hp=>?_,?_,(ww.ext fO).kept bq (zmu iq ww),am,?_,?_,fun e=>?_,Z1 co (Z2 fO.size aG.size),by rw[BA];simp;omega,?_,by rw[tH.out]⟩⟩
         ·rcases List.mem_append.1 hp with h|h
          ·exact((pO p h).ext fO).kept bq (zb3 (pO p h) iq)
          ·rw[List.mem_singleton]at h;subst h;exact⟨none,0,rfl,Own.nil _ _ _ _⟩
         ·rw[List.pairwise_append];refine⟨hI.apart,by simp,fun p hp q hq=>?_⟩
          rw[List.mem_singleton]at hq;subst hq;rcases hb:p.2.ownBlock with _|z
          ·exact .inl rfl
          ·exact .inr (by simp[Value.ownBlock])
         ·exact bq.cell (a:=⟨wo.heap.size,1,none⟩) ((fO.cell (p:=⟨wo.heap.size,1,none⟩) co).trans s1) gX
         ·exact bq.cell (a:=⟨wo.heap.size,4,none⟩) ((fO.cell (p:=⟨wo.heap.size,4,none⟩) co).trans s3) gX
         ·rcases dS with h|h
          ·exact gX (by rw[←h];simp[Value.ownBlock,e])
          ·simp[Value.ownBlock]at h;omega
         ·rw[tH.out,←cA.out];simp[zo5]
        ·obtain⟨j,s,DY,wB,rT⟩:∃(j:Nat) (s:SetD),aj=j∧sets[j]? =some s∧zb5 (fold nm) ty cl s=true:=by
          rcases Hc.out with⟨h,_⟩|⟨_,h⟩
          ·cases h
          ·exact h
         have dU:j<sets.length:=(List.getElem?_eq_some_iff.1 wB).1
         have pP:j<ps.length:=by rw[kR.out];exact dU
         have tH:=Z7 (lx.out.trans (HA.out.trans (if_neg (by rw[znx nJ wB rT _ dU (Z4 _)];omega))))
         rw[znx nJ wB rT _ dU (Z4 _),Int.toNat_natCast]at tH;have i7:ps[j].1=s:=by
          have:=wB
          rw[←cA.out]at this;simpa[pP]using this
         have gK:=cM ps[j] (List.getElem_mem pP)
         have Ib:=i5 s (List.mem_of_getElem? wB)
         obtain⟨dA,dc,wC⟩:=gK.strs.shape
         rw[i7]at wC;have bA:ps[j]? =some (s,.slice dA s.data.length dc):=by
          rw[Z3 pP];exact congrArg some (Prod.ext i7 wC)
         rw[zih]at rT;obtain⟨sn,st,sc,sl,sd⟩:=s
         simp only[zbl,Prod.mk.injEq]at rT;obtain⟨e1,e2,e3⟩:=rT
         subst e2 e3;obtain⟨g,hA,bG,cB,_,_⟩:=bM.addr (by omega)
         subst hA;have Ic:wo.heap.size≠g:=fun e=>absurd (hI.own.blk g rfl).2 (by omega)
         have Id:=Z7 DY
         subst DY;clear i7 gK wC Hc Id gZ;go_wp2_with fail;go_meet;refine⟨j,g,c,ps,sn,sl,sd,dA,dc,sets,rfl,rfl,⟨bA,bM,cM,hI.apart,js,eB,r1,r3,Ic,rS,⟨by omega,by have:=Ib.2.1;dsimp only at this;omega⟩,?_,by rw[tH.out];exact zn9 _ _ _ _⟩⟩
         rw[tH.out,←cA.out];exact zFd bA (zl9 T _) _
       case rest=>
        obtain⟨J,g,c',PS,sn,sl,sd,dA,dc,KS,rfl,rfl,hM⟩:=hcut
        obtain⟨X0,rfl⟩:∃X0:World,X0=wc:=⟨_,rfl⟩
        have hJ:J<PS.length:=(List.getElem?_eq_some_iff.1 hM.jp).1
        obtain⟨g',eg,bG,cB,iN,a9⟩:=hM.own.addr (by omega)
        injection eg with eg
        injection eg with eg _ _
        subst eg;have eK:=zb0 (off:=0) (fun j u hu=>by rw[Nat.zero_add];exact a9 j u hu) J _ hM.jp
        simp only[Nat.zero_add]at eK;obtain⟨_,_,_,y3,y4⟩:=eK
        have f3:=iN (J*5+3)
        have f4:=iN (J*5+4)
        have b1:=hM.b1
        have b4:=hM.b4
        have i8:=hM.gne
        have aq:=hM.len
        have Ka:(J:Int)<(PS.length:Int):=by omega
        have Kb:(0:Int)≤(J:Int):=by omega
        clear a9 iN kc0 kc1 kc2 gZ me js bM cM r1 r2 r3;go_upto_region 18 with fail
        have aK:=hM.own.stored (J*5+3) (.int .u32 (min sl T)) (by omega)
        rw[zdx PS J _ (⟨sn,ty,cl,min sl T,sd⟩,.slice dA sd.length dc) 3 _ hM.jp (by omega) rfl]at aK
        have BC:∀p∈PS.set J (⟨sn,ty,cl,min sl T,sd⟩,.slice dA sd.length dc),OStrs (X0.setCell ⟨g,J*5+3,none⟩ (.int .u32 (min sl T))) w.heap.size p.2 p.1.data:=fun p hp=>by
         rcases List.mem_or_eq_of_mem_set hp with h|h
         ·exact(hM.datas p h).set_other (p:=⟨g,_,none⟩) _ (zb3 (hM.datas p h) hM.own)
         ·subst h;have h8:=hM.datas _ (List.mem_of_getElem? hM.jp)
          exact OStrs.set_other (p:=⟨g,_,none⟩) h8 _ (zb3 h8 hM.own)
        have DZ:KMap (X0.setCell ⟨g,J*5+3,none⟩ (.int .u32 (min sl T))) w.heap.size KS:=hM.kmap.set (p:=⟨g,_,none⟩) (fun e=>zmu hM.own hM.kmap (by simp[Value.ownBlock];exact e)) _
        have gh:Ext w (X0.setCell ⟨g,J*5+3,none⟩ (.int .u32 (min sl T))):=hM.ext.setCell bG _
        have D0:=Z7 (show(PS.set J (⟨sn,ty,cl,min sl T,sd⟩,.slice dA sd.length dc))[J]? =some (⟨sn,ty,cl,min sl T,sd⟩,.slice dA sd.length dc)from List.getElem?_set_self hJ)
        have BD:=Z7 (zzf hM.apart hM.jp (⟨sn,ty,cl,min sl T,sd⟩:SetD))
        have BE:=Z7 (show rawTo l (k+1)=((PS.set J (⟨sn,ty,cl,min sl T,sd⟩,.slice dA sd.length dc)).set J (⟨sn,ty,cl,min sl T,sd++[rfold ty da]⟩,.slice none 0 0)).map Prod.fst by rw[List.set_set];exact hM.ends)
        have HK:=Z7 hM.keys
        have Ie:=Z7 (show(PS.set J (⟨sn,ty,cl,min sl T,sd⟩,.slice dA sd.length dc)).length=PS.length by simp)
        have yJ4:(X0.setCell ⟨g,J*5+3,none⟩ (.int .u32 (min sl T))).cell? ⟨g,J*5+4,none⟩=some (.slice dA sd.length dc):=(World.cell?_setCell_other _ _ _ _ (by simp)).trans y4
        have fJ4:(X0.setCell ⟨g,J*5+3,none⟩ (.int .u32 (min sl T))).frozen? ⟨g,J*5+4,none⟩=false:=(World.frozen?_setCell _ _ _ _).trans f4
        have b1':=(World.cell?_setCell_far X0 ⟨g,J*5+3,none⟩ ⟨wo.heap.size,1,none⟩ (.int .u32 (min sl T)) (by simp;omega)).trans b1
        have b4':=(World.cell?_setCell_far X0 ⟨g,J*5+3,none⟩ ⟨wo.heap.size,4,none⟩ (.int .u32 (min sl T)) (by simp;omega)).trans b4
        have nB:g<(X0.setCell ⟨g,J*5+3,none⟩ (.int .u32 (min sl T))).heap.size:=by simp;exact cB
        have bF:wo.heap.size<(X0.setCell ⟨g,J*5+3,none⟩ (.int .u32 (min sl T))).heap.size:=by simp;exact hM.wo
        have If:∀q,((PS.set J (⟨sn,ty,cl,min sl T,sd⟩,.slice dA sd.length dc)).set J q).length=PS.length:=fun q=>by simp
        generalize X0.setCell ⟨g,J*5+3,none⟩ (.int .u32 (min sl T))=X at*;generalize PS.set J (⟨sn,ty,cl,min sl T,sd⟩,.slice dA sd.length dc)=PT at*;clear hM b1 b4 y3 y4 f3 f4 cB;have BF:=Z7 (fun V (hV:Ext X V)=>GY.out V (gh.trans hV))
        have Ig:=zmf ty da
        generalize rfold ty da=fd at*;have tF:Own X w.heap.size 9 1 dA sd.length dc (sd.map S):=by
         obtain⟨B,d,e,h⟩:=BC _ (List.mem_of_getElem? D0.out)
         injection e with e1 _ e3
         subst e1 e3;exact h
        have mJ:some g≠(Value.slice dA sd.length dc).ownBlock:=fun e=>by
         rcases zfl aK tF (by decide)with h|h
         ·simp[Value.ownBlock]at h
         ·exact h e
        have hdl:=aq.2
        go_region_law (first
         |(go_simp;go_at_call 80;refine(BF.out _ xt).mono ?_;rintro e w6 ⟨rfl,aw⟩;have y6:=((Ext.trans xt aw:Ext X w6).cell (p:=⟨g,J*5+4,none⟩) nB).trans yJ4;have dG:g<w6.heap.size:=Z1 nB (Ext.trans xt aw:Ext X w6).size)
         |(refine zl7 _ (by rfl) (.tmp 87) (.tmp 93) _ (by rfl) w.heap.size 9 j0 _ 1 16 Tryz.underlying77 iX kO jA gS rfl (by omega) dA sd.length dc (sd.map S) (by rfl) (by exact tF.ext (by(repeat(first|(with_reducible exact Ext.trans xt aw)|with_reducible exact Z5 _|with_reducible refine Ext.alloc ?_ _|with_reducible refine Ext.drew ?_)))) 0 _ 1 1 ([fd].map S) (by rfl) (by exact zaw _ _ rfl _ _ 1 1 rfl) (zdg _) (by omega) (by omega) (by have:=gh.size;have:=(Ext.trans xt aw:Ext X w6).size;simp;omega) ?_;intro A7 c7 w7 fQ dV lB jb
           have y7:=dV.cell ((((Ext.trans xt aw:Ext X w6).alloc (.cells #[S fd] 9)).cell (p:=⟨g,J*5+4,none⟩) nB).trans yJ4) mJ
           have f7:=zjc dV (Z1 nB ((Ext.trans xt aw:Ext X w6).alloc (.cells #[S fd] 9)).size) mJ ((((Ext.trans xt aw:Ext X w6).alloc (.cells #[S fd] 9)).frozen (p:=⟨g,J*5+4,none⟩) nB).trans fJ4)))
        all_goals
         have dO:Ext X (w6.alloc (.cells #[S fd] 9)):=(Ext.trans xt aw:Ext X w6).alloc _
         have eW:=aK.ext dO
         rw[←Ie.out]at eW;have yb:=zF0 D0.out eW (fun p hp=>(BC p hp).ext dO) BD.out (DZ.ext dO) (Z4 _) (gh.trans dO) fQ dV lB jb BE.out HK.out
         clear dO fQ dV lB jb aK eW BC DZ gh tF;go_wp2_with fail;go_roundw
         case rel=>exact⟨k+1,_,some ⟨g,0,none⟩,c',by omega,by go_num,by rw[If],yb⟩
         case measure=>simp[intOf];omega
    ·have lz:rmay ty da=false:=by simpa using gH
     rw[lz]at wu;have iM:=Z7 (show zg6 sets ⟨nm,ty,cl,tt,da⟩=sets by unfold zg6;rw[show zcm ⟨nm,ty,cl,tt,da⟩=false by simp[zcm,hm,lz],if_neg (by simp)])
     clear gH;go_wp2_with fail;refine(HM.out _).mono ?_;rintro e w' ⟨rfl,rfl⟩;go_wp2_with fail;refine(wu.out _ (aN.trans ((Z5 _).alloc _))).mono ?_;rintro e w2 ⟨rfl,ah⟩;have bV:Ext wo w2:=((Z5 _).alloc _).trans ah
     go_wp2_with fail;go_roundw
     case rel=>
      exact⟨k+1,ps,A,c,by omega,by go_num,rfl,⟨by rw[lx.out,iM.out];exact cA.out,hI.own.ext bV,fun p hp=>(hI.datas p hp).ext bV,hI.apart,by rw[lx.out,iM.out];exact hI.kmap.ext bV,Z4 _,aN.trans bV⟩⟩
     case measure=>simp[intOf];omega
   ·have gP:may nm=false:=by simpa using hm
    rw[gP]at HM;have iM:=Z7 (show zg6 sets ⟨nm,ty,cl,tt,da⟩=sets by unfold zg6;rw[show zcm ⟨nm,ty,cl,tt,da⟩=false by simp[zcm,gP],if_neg (by simp)])
    clear hm;go_wp2_with fail;refine(HM.out _).mono ?_;rintro e w' ⟨rfl,rfl⟩;have bV:=(Z5 wo).alloc (.cells #[S nm,.int .u16 ty,.int .u16 cl,.int .u32 tt,S da] 99)
    go_wp2_with fail;go_roundw
    case rel=>
     exact⟨k+1,ps,A,c,by omega,by go_num,rfl,⟨by rw[lx.out,iM.out];exact cA.out,hI.own.ext bV,fun p hp=>(hI.datas p hp).ext bV,hI.apart,by rw[lx.out,iM.out];exact hI.kmap.ext bV,Z4 _,aN.trans bV⟩⟩
    case measure=>simp[intOf];omega
  ·obtain rfl:k=l.length:=by omega
   rw[←GX.out]at hI;have BG:ClInv w L0 ps.length 0 ps A c wo:=⟨rfl,by rw[hI.eq];simp[zen],hI.own,hI.datas,hI.apart,hI.ext⟩
   have fi:ps.length=L0.length:=by rw[←hI.eq];simp
   have Dr:ps.length≤4096:=by omega
   generalize ps.length=n at*;have yK:=Z7 fi
   have pQ:=BG.own.cap
   have wD:=pQ.2
   unfold maxLen at wD;clear hI ab fi pQ;go_wp2_with fail
   go_loopw [100] (fun t wr=>∃(i:Nat) (qs:List (SetD×Value)),i≤n∧t=.int .i64 i∧ClInv w L0 n i qs A c wr) (fun t _=>n - (intOf t).toNat)
   case atStart=>exact⟨0,ps,by omega,rfl,BG⟩
   case round=>
    obtain⟨i,qs,hi,rfl,hC⟩:=hrel
    obtain⟨wi,rfl⟩:∃wi:World,wi=wr:=⟨_,rfl⟩
    clear BG aN;by_cases tI:i<n
    ·obtain⟨g,rfl,bG,cB,iN,a9⟩:=hC.own.addr (by omega)
     have m8:i<qs.length:=by rw[hC.len];exact tI
     have th:qs[i]? =some qs[i]:=Z3 m8
     have eK:=zb0 (off:=0) (fun j u hu=>by rw[Nat.zero_add];exact a9 j u hu) i _ th
     have rU:=hC.datas qs[i] (List.getElem_mem m8)
     have ut:qs[i].1.data.length≤4096:=by
      have h7:(zen L0 i)[i]? =some qs[i].1:=by rw[←hC.eq,List.getElem?_map,th];rfl
      unfold zen at h7;have h8:((L0.take i).map zd2).length=i:=by have:=yK.out;rw[List.length_map,List.length_take];omega
      rw[List.getElem?_append_right (by omega),h8,Nat.sub_self,List.getElem?_drop,Nat.add_zero]at h7
      have:=(Bv _ (List.mem_of_getElem? h7)).2.1
      omega
     generalize qs[i]=q at*;obtain⟨⟨sn,st,sc,sl,sd⟩,dv⟩:=q
     simp only[Nat.zero_add]at eK;obtain⟨_,_,_,_,y4⟩:=eK
     dsimp only at rU ut y4;have zf:(Value.slice (some ⟨g,0,none⟩) n c).ownBlock=none∨(Value.slice (some ⟨g,0,none⟩) n c).ownBlock≠dv.ownBlock:=by
      obtain⟨B,d,rfl,ho⟩:=rU
      exact zfl hC.own ho (by decide)
     have gC:some g≠dv.ownBlock:=by
      rcases zf with h|h
      ·simp[Value.ownBlock]at h
      ·exact h
     have f4:=iN (i*5+4)
     obtain⟨dA,dc,wC⟩:=rU.strs.shape
     subst wC;have HS:=Z7 (zFt w.heap.size _ sd wi rU (by omega))
     have AU:(i:Int)<(n:Int):=by omega
     have Ih:(0:Int)≤(i:Int):=by omega
     have Ii:=Z7 th
     clear a9 iN th;go_wp2_with fail;refine HS.out.mono ?_;rintro e w1 ⟨rfl,bm,bh⟩;have y41:=bh.cell y4 gC
     have f41:=zjc bh cB gC f4
     have wE:g<w1.heap.size:=Z1 cB bh.size
     have AX:=Z7 (zyy w.heap.size _ (sortB sd) w1 bm)
     go_wp2_with fail;refine AX.out.mono ?_;rintro e w2 ⟨v',rfl,aI,ci,D1⟩;have y42:=ci.cell y41 gC
     have f42:=zjc ci wE gC f41
     have BH:g<w2.heap.size:=Z1 wE ci.size
     have Ij:=zEs hC yK.out tI Ii.out bh aI ci D1
     obtain⟨eA,ec,Ik,_⟩:=aI
     subst Ik;clear y4 y41 f4 f41 bm bh ci D1;go_wp2_with fail;go_roundw
     case rel=>exact⟨i+1,_,by omega,by go_num,Ij⟩
     case measure=>simp[intOf];omega
    ·obtain rfl:i=n:=by omega
     have a6:qs.map Prod.fst=L0.map zd2:=by
      rw[hC.eq];unfold zen;rw[List.take_of_length_le (by rw[←yK.out];omega),List.drop_of_length_le (by rw[←yK.out];omega),List.append_nil]
     have BI:∀p∈qs,zsa p:=fun p hp=>by
      have h1:p.1∈L0.map zd2:=by rw[←a6];exact List.mem_map.2 ⟨p,hp,rfl⟩
      obtain⟨s,hs,yL⟩:=List.mem_map.1 h1
      obtain⟨B,d,e,_⟩:=hC.datas p hp
      exact⟨by rw[←yL];exact(Bv s hs).1.1,B,_,d,e⟩
     have ag:=hC.own
     have aq:=hC.len
     have lq:=Z7 a6
     clear a6;by_cases h0:i=0
     ·subst h0;have BJ:qs=[]:=List.eq_nil_of_length_eq_zero aq
      subst BJ;have rY:=Z7 (zua A c wi)
      go_wp2_with fail;refine rY.out.mono ?_;rintro e w1 ⟨rfl,rfl⟩;go_wp2_with fail;go_ret;exact⟨_,[],rfl,by rw[←lq.out];exact List.Perm.refl _,List.Pairwise.nil,⟨[],A,c,rfl,rfl,ag,by simp⟩,hC.ext⟩
     ·rw[←aq]at ag;have D2:=Z7 (zvl w.heap.size A c qs wi ag BI (by omega) (by omega))
      rw[aq]at D2;have cm:=Z7 aq
      clear aq;go_wp2_with fail;refine D2.out.mono ?_;rintro e w1 ⟨rfl,qs',fa,wF,iq,bh⟩;go_wp2_with fail;go_ret;refine⟨_,qs'.map Prod.fst,rfl,?_,wF,⟨qs',A,c,rfl,?_,?_,fun p hp=>?_⟩,zkh hC.ext bh (fun k hk=>(hC.own.blk k (by rw[cm.out]at hk;exact hk)).1)⟩
      ·rw[←lq.out];exact fa.map _
      ·have e9:qs'.length=i:=fa.length_eq.trans cm.out
       rw[e9];rfl
      ·rw[fa.length_eq];exact iq
      ·have de:=fa.mem_iff.1 hp
       rw[cm.out]at bh;exact(hC.datas p de).kept bh (zb3 (hC.datas p de) hC.own)
end Go.Proofs.YtdnpmapelmjfpaaGreatDoor
