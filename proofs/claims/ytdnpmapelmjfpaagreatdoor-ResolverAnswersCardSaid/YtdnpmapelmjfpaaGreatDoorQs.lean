/- Contracts of functions and plain lemmas that the proofs of this seat share (joined texts). No condition. -/
import Derived.Test.YtdnpmapelmjfpaaGreatDoorQe
import Derived.Test.YtdnpmapelmjfpaaGreatDoorQd
import Derived.Test.YtdnpmapelmjfpaaGreatDoorQf
set_option linter.unusedVariables false
set_option linter.unusedSimpArgs false
namespace Go.Proofs.YtdnpmapelmjfpaaGreatDoor
open Go.RowKit
def zd1:List (List UInt8)→List (List UInt8)→Bool
 |[],b=>decide (b=[])
 |x::r,b=>decide ((x::r).map low=b)||zd1 r b
def withinN (n z:List UInt8):Bool:=
 match labelsOf n,labelsOf z with
 |some a,some b=>zd1 a (b.map low)
 |_,_=>false
def zd9 (n:List UInt8):Nat:=((labelsOf n).getD []).length
theorem zc8 (x:List UInt8) (r:List (List UInt8)):zam (x::r)=zdn x++zam r:=by
 simp[zam]
theorem ztm (r:List (List UInt8)):0<(zam r).length:=by simp[zam]
theorem zdx (r:List (List UInt8)):(zam (r.map low)).length=(zam r).length:=by
 induction r with
 |nil=>rfl
 |cons x r ih=>
  rw[List.map_cons,zc8,zc8,List.length_append,List.length_append,ih];simp[zdn,zbi]
theorem zkh:∀(t b:List (List UInt8)),(zam t).length<(zam b).length→zd1 t b=false
 |[],b,h=>by
  rcases b with _|⟨y,b⟩
  ·omega
  ·simp[zd1]
 |x::r,b,h=>by
  have h1:¬((x::r).map low=b):=fun e=>by rw[←e,zdx]at h;omega
  have h2:(zam r).length<(zam b).length:=by
   rw[zc8,List.length_append]at h;omega
  rw[zd1,zkh r b h2,decide_eq_false h1];rfl
theorem zA2 (x:List UInt8) (r b:List (List UInt8)) (h:(zam b).length<(zam (x::r)).length):zd1 (x::r) b=zd1 r b:=by
 have h1:¬((x::r).map low=b):=fun e=>by rw[←e,zdx]at h;omega
 rw[zd1,decide_eq_false h1,Bool.false_or]
theorem ziw:∀{a b:List (List UInt8)},(∀x∈a,0<x.length∧x.length≤63)→(∀x∈b,0<x.length∧x.length≤63)→zam a=zam b→a=b
 |[],[],_,_,_=>rfl
 |[],y::b,_,hb,h=>by
  exfalso;rw[zc8]at h;simp only[zam,List.flatMap_nil,List.nil_append,zdn,List.cons_append,List.cons.injEq]at h;have:=(hb y (by simp)).1
  have h2:=(hb y (by simp)).2
  have h3:=congrArg UInt8.toNat h.1
  rw[UInt8.toNat_ofNat',Nat.mod_eq_of_lt (by omega)]at h3
  have h4:(0:UInt8).toNat=0:=rfl
  omega
 |x::a,[],ha,_,h=>by
  exfalso;rw[zc8]at h;simp only[zam,List.flatMap_nil,List.nil_append,zdn,List.cons_append,List.cons.injEq]at h;have:=(ha x (by simp)).1
  have h2:=(ha x (by simp)).2
  have h3:=congrArg UInt8.toNat h.1
  rw[UInt8.toNat_ofNat',Nat.mod_eq_of_lt (by omega)]at h3
  have h4:(0:UInt8).toNat=0:=rfl
  omega
 |x::a,y::b,ha,hb,h=>by
  rw[zc8,zc8]at h;simp only[zdn,List.cons_append,List.cons.injEq]at h;have hx:=(ha x (by simp)).2
  have hy:=(hb y (by simp)).2
  have hl:x.length=y.length:=by
   have:=congrArg UInt8.toNat h.1
   rw[UInt8.toNat_ofNat',UInt8.toNat_ofNat',Nat.mod_eq_of_lt (by omega),Nat.mod_eq_of_lt (by omega)]at this
   exact this
  obtain⟨h1,h2⟩:=List.append_inj h.2 hl
  rw[h1,ziw (fun z hz=>ha z (by simp[hz])) (fun z hz=>hb z (by simp[hz])) h2]
theorem zA3 {t b:List (List UInt8)} (ht:∀x∈t,0<x.length∧x.length≤63) (hb:∀x∈b,0<x.length∧x.length≤63) (h:(zam t).length=(zam b).length):
 zd1 t (b.map low)=(low (zam t)==low (zam b)):=by
 have hl:(low (zam t)==low (zam b))=decide (t.map low=b.map low):=by
  rw[zh8 t (fun x hx=>(ht x hx).2),zh8 b (fun x hx=>(hb x hx).2),Bool.eq_iff_iff,beq_iff_eq,decide_eq_true_eq]
  constructor
  ·exact ziw (fun x hx=>by obtain⟨y,hy,rfl⟩:=List.mem_map.1 hx;rw[zbi];exact ht y hy) (fun x hx=>by obtain⟨y,hy,rfl⟩:=List.mem_map.1 hx;rw[zbi];exact hb y hy)
  ·intro e;rw[e]
 rw[hl];rcases t with _|⟨x,r⟩
 ·rw[zd1,List.map_nil];simp[eq_comm]
 ·have h2:zd1 r (b.map low)=false:=zkh _ _ (by rw[zdx,←h,zc8,List.length_append];simp[zdn])
  rw[zd1,h2,Bool.or_false]
def fitsB (n:List UInt8) (cls:Int) (s:SetD):Bool:=s.typ==6&&(s.cls==cls&&withinN n s.name)
def zb6 (l:List SetD) (n:List UInt8) (cls:Int):Nat→Option (Nat×SetD)
 |0=>none
 |k+1=>match l[k]? with
  |none=>zb6 l n cls k
  |some s=>match zb6 l n cls k with
   |none=>if fitsB n cls s then some (k,s)else none
   |some b=>if fitsB n cls s&&decide (zd9 b.2.name<zd9 s.name)then some (k,s)else some b
structure SoaR where
 set:Option SetD
 err:Nat
def zmd (b:Option (Nat×SetD)):SoaR:=
 match b with
 |none=>⟨none,0⟩
 |some (_,s)=>if s.data.length=1 then⟨some s,0⟩else⟨none,3⟩
def soaFind (l:List SetD) (n:List UInt8) (cls:Int):SoaR:=zmd (zb6 l n cls l.length)
structure VerR where
 code:Int
 sets:List SetD
 soa:List SetD
 time:Int
 err:Nat
def VerR.bad (e:Nat):VerR:=⟨0,[],[],0,e⟩
end Go.Proofs.YtdnpmapelmjfpaaGreatDoor
