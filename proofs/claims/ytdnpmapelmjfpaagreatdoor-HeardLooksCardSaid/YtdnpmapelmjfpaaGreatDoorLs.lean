/- Lemmas of this claim. No condition. -/
import Derived.Test.YtdnpmapelmjfpaaGreatDoorLf
set_option linter.unusedVariables false
set_option linter.unusedSimpArgs false
namespace Go.Proofs.YtdnpmapelmjfpaaGreatDoor
open Go.RowKit
def zd0:List (List UInt8)→List (List UInt8)→Bool
 |[],b=>decide (b=[])
 |x::r,b=>decide ((x::r).map low=b)||zd0 r b
def withinN (n z:List UInt8):Bool:=
 match labelsOf n,labelsOf z with
 |some a,some b=>zd0 a (b.map low)
 |_,_=>false
def zd8 (n:List UInt8):Nat:=((labelsOf n).getD []).length
theorem zc4 (x:List UInt8) (r:List (List UInt8)):zam (x::r)=zdk x++zam r:=by
 simp[zam]
theorem zut (r:List (List UInt8)):0<(zam r).length:=by simp[zam]
theorem zds (r:List (List UInt8)):(zam (r.map low)).length=(zam r).length:=by
 induction r with
 |nil=>rfl
 |cons x r ih=>
  rw[List.map_cons,zc4,zc4,Z6,Z6,ih];simp[zdk,zbg]
theorem zl8:∀(t b:List (List UInt8)),(zam t).length<(zam b).length→zd0 t b=false
 |[],b,h=>by
  rcases b with _|⟨y,b⟩
  ·omega
  ·simp[zd0]
 |x::r,b,h=>by
  have h1:¬((x::r).map low=b):=fun e=>by rw[←e,zds]at h;omega
  have h2:(zam r).length<(zam b).length:=by
   rw[zc4,Z6]at h;omega
  rw[zd0,zl8 r b h2,decide_eq_false h1];rfl
theorem zBq (x:List UInt8) (r b:List (List UInt8)) (h:(zam b).length<(zam (x::r)).length):zd0 (x::r) b=zd0 r b:=by
 have h1:¬((x::r).map low=b):=fun e=>by rw[←e,zds]at h;omega
 rw[zd0,decide_eq_false h1,Bool.false_or]
theorem zja:∀{a b:List (List UInt8)},(∀x∈a,0<x.length∧x.length≤63)→(∀x∈b,0<x.length∧x.length≤63)→zam a=zam b→a=b
 |[],[],_,_,_=>rfl
 |[],y::b,_,hb,h=>by
  exfalso;rw[zc4]at h;simp only[zam,List.flatMap_nil,List.nil_append,zdk,List.cons_append,List.cons.injEq]at h;have:=(hb y (by simp)).1
  have h2:=(hb y (by simp)).2
  have h3:=congrArg UInt8.toNat h.1
  rw[UInt8.toNat_ofNat',Nat.mod_eq_of_lt (by omega)]at h3
  have h4:(0:UInt8).toNat=0:=rfl
  omega
 |x::a,[],ha,_,h=>by
  exfalso;rw[zc4]at h;simp only[zam,List.flatMap_nil,List.nil_append,zdk,List.cons_append,List.cons.injEq]at h;have:=(ha x (by simp)).1
  have h2:=(ha x (by simp)).2
  have h3:=congrArg UInt8.toNat h.1
  rw[UInt8.toNat_ofNat',Nat.mod_eq_of_lt (by omega)]at h3
  have h4:(0:UInt8).toNat=0:=rfl
  omega
 |x::a,y::b,ha,hb,h=>by
  rw[zc4,zc4]at h;simp only[zdk,List.cons_append,List.cons.injEq]at h;have hx:=(ha x (by simp)).2
  have hy:=(hb y (by simp)).2
  have hl:x.length=y.length:=by
   have:=congrArg UInt8.toNat h.1
   rw[UInt8.toNat_ofNat',UInt8.toNat_ofNat',Nat.mod_eq_of_lt (by omega),Nat.mod_eq_of_lt (by omega)]at this
   exact this
  obtain⟨h1,h2⟩:=List.append_inj h.2 hl
  rw[h1,zja (fun z hz=>ha z (by simp[hz])) (fun z hz=>hb z (by simp[hz])) h2]
theorem zBr {t b:List (List UInt8)} (ht:∀x∈t,0<x.length∧x.length≤63) (hb:∀x∈b,0<x.length∧x.length≤63) (h:(zam t).length=(zam b).length):
 zd0 t (b.map low)=(low (zam t)==low (zam b)):=by
 have hl:(low (zam t)==low (zam b))=decide (t.map low=b.map low):=by
  rw[zhd t (fun x hx=>(ht x hx).2),zhd b (fun x hx=>(hb x hx).2),Bool.eq_iff_iff,beq_iff_eq,decide_eq_true_eq]
  constructor
  ·exact zja (fun x hx=>by obtain⟨y,hy,rfl⟩:=List.mem_map.1 hx;rw[zbg];exact ht y hy) (fun x hx=>by obtain⟨y,hy,rfl⟩:=List.mem_map.1 hx;rw[zbg];exact hb y hy)
  ·intro e;rw[e]
 rw[hl];rcases t with _|⟨x,r⟩
 ·rw[zd0,List.map_nil];simp[eq_comm]
 ·have h2:zd0 r (b.map low)=false:=zl8 _ _ (by rw[zds,←h,zc4,Z6];simp[zdk])
  rw[zd0,h2,Bool.or_false]
def fitsB (n:List UInt8) (cls:Int) (s:SetD):Bool:=s.typ==6&&(s.cls==cls&&withinN n s.name)
def zb1 (l:List SetD) (n:List UInt8) (cls:Int):Nat→Option (Nat×SetD)
 |0=>none
 |k+1=>match l[k]? with
  |none=>zb1 l n cls k
  |some s=>match zb1 l n cls k with
   |none=>if fitsB n cls s then some (k,s)else none
   |some b=>if fitsB n cls s&&decide (zd8 b.2.name<zd8 s.name)then some (k,s)else some b
structure SoaR where
 set:Option SetD
 err:Nat
def zn0 (b:Option (Nat×SetD)):SoaR:=
 match b with
 |none=>⟨none,0⟩
 |some (_,s)=>if s.data.length=1 then⟨some s,0⟩else⟨none,3⟩
def soaFind (l:List SetD) (n:List UInt8) (cls:Int):SoaR:=zn0 (zb1 l n cls l.length)
def zef (d:List UInt8):Nat:=be (d.drop (d.length - 4))
def zd9 (ttl:Int) (d:List UInt8):Int:=if rmay 6 d then min (timeT ttl) (timeT (zef d))else 0
def soaTime (s:SetD):Int:=
 if s.typ=6 then(match s.data with|[d]=>zd9 s.ttl d|_=>0)else 0
def ttl0 (s:SetD):SetD:={s with ttl:=0}
def leastT (l:List SetD) (t:Int):Int:=l.foldl (fun t s=>min t s.ttl) t
structure VerR where
 code:Int
 sets:List SetD
 soa:List SetD
 time:Int
 err:Nat
def VerR.bad (e:Nat):VerR:=⟨0,[],[],0,e⟩
def zix (code:Int) (path fin:List SetD):VerR:=
 if code=3 then VerR.bad 3 else⟨code,(path++fin).map ttl0,[],leastT (path++fin) 2147483647,0⟩
def ze9 (code:Int) (path:List SetD) (r:SoaR):VerR:=
 if r.err=0 then
  (match r.set with
  |none=>⟨code,path.map ttl0,[],0,0⟩
  |some s=>⟨code,path.map ttl0,[ttl0 s],leastT path (soaTime s),0⟩)
 else VerR.bad r.err
def ze8 (code cls:Int) (auth:List RecD) (R:FolR):VerR:=
 if R.err=0 then(if R.fin=[]then ze9 code R.path (soaFind (groupR auth) R.here cls)else zix code R.path R.fin)
 else VerR.bad R.err
def verOf (n:List UInt8) (ty cls code:Int) (ans auth:List RecD):VerR:=
 if may n=true∧(code=0∨code=3)then ze8 code cls auth (followOf n ty cls (groupR ans))else VerR.bad 1
end Go.Proofs.YtdnpmapelmjfpaaGreatDoor
