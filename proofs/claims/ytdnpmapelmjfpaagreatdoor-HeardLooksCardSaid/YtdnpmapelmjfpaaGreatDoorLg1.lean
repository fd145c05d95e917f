/- Lemmas of this claim. No condition. -/
import Derived.Test.YtdnpmapelmjfpaaGreatDoorLu
set_option linter.unusedVariables false
set_option linter.unusedSimpArgs false
namespace Go.Proofs.YtdnpmapelmjfpaaGreatDoor
open Go.RowKit
theorem zr3 {l:List RecD} {s:SetD} (hs:s∈groupR l):s.ttl=zhl (ofK l (zbl s))∧s.ttl≤2147483647:=by
 have:=((zA3 l s).1 hs).2
 have h2:s.ttl=zhl (ofK l (zbl s)):=congrArg SetD.ttl this
 exact⟨h2,by rw[h2];exact(zFc _).1⟩
theorem zoj {x:Int} (h:0≤x):0≤timeT x∧timeT x≤2147483647:=by unfold timeT;split<;>omega
def TtlF (f:SetD→SetD):Prop:=∀s,f s={s with ttl:=(f s).ttl}
theorem TtlF.name {f:SetD→SetD} (h:TtlF f) (s:SetD):(f s).name=s.name:=by rw[h s]
theorem TtlF.typ {f:SetD→SetD} (h:TtlF f) (s:SetD):(f s).typ=s.typ:=by rw[h s]
theorem TtlF.cls {f:SetD→SetD} (h:TtlF f) (s:SetD):(f s).cls=s.cls:=by rw[h s]
theorem TtlF.data {f:SetD→SetD} (h:TtlF f) (s:SetD):(f s).data=s.data:=by rw[h s]
theorem TtlF.ttl0 {f:SetD→SetD} (h:TtlF f) (s:SetD):ttl0 (f s)=ttl0 s:=by unfold Go.Proofs.YtdnpmapelmjfpaaGreatDoor.ttl0;rw[h s]
theorem TtlF.find {f:SetD→SetD} (h:TtlF f) (l:List SetD) (n:List UInt8) (k c:Int):zbo (l.map f) n k c=(zbo l n k c).map f:=by
 unfold zbo;rw[List.find?_map];congr 1;congr 1;funext s;simp only[Function.comp,zge,h.name,h.typ,h.cls]
theorem TtlF.target {f:SetD→SetD} (h:TtlF f) (s:SetD):targetS (f s)=targetS s:=by unfold targetS;rw[h.data]
theorem toList_map {α β:Type} (f:α→β) (o:Option α):(o.map f).toList=o.toList.map f:=by cases o<;>rfl
def FolR.mapT (f:SetD→SetD) (R:FolR):FolR:=⟨R.path.map f,R.here,R.fin.map f,R.err⟩
theorem TtlF.followF {f:SetD→SetD} (h:TtlF f) (l:List SetD) (ty cls:Int):∀(n:Nat) (here:List UInt8) (seen:List (List UInt8)) (path:List SetD),Go.Proofs.YtdnpmapelmjfpaaGreatDoor.followF (l.map f) ty cls n here seen (path.map f)=(Go.Proofs.YtdnpmapelmjfpaaGreatDoor.followF l ty cls n here seen path).mapT f
 |0,here,seen,path=>rfl
 |n+1,here,seen,path=>by
  simp only[Go.Proofs.YtdnpmapelmjfpaaGreatDoor.followF];rw[h.find,h.find];by_cases h5:ty=5
  ·rw[if_pos h5,if_pos h5,toList_map];rfl
  ·rw[if_neg h5,if_neg h5];rcases hf:zbo l here 5 cls with _|a
   ·rw[Option.map_none,toList_map];rfl
   ·rw[Option.map_some];dsimp only;rw[List.length_map,h.target];by_cases hp:path.length=8
    ·rw[if_pos hp,if_pos hp];rfl
    ·rw[if_neg hp,if_neg hp];rcases ht:targetS a with _|next
     ·rfl
     ·dsimp only;rw[Option.isSome_map];by_cases hb:(zbo l here ty cls).isSome=true
      ·rw[if_pos hb,if_pos hb];rfl
      ·rw[if_neg hb,if_neg hb];by_cases hc:seen.contains next=true
       ·rw[if_pos hc,if_pos hc];rfl
       ·rw[if_neg hc,if_neg hc];have:=h.followF l ty cls n next (seen++[next]) (path++[a])
        rw[List.map_append]at this;exact this
def VerR.same (R T:VerR):Prop:=R.code=T.code∧R.sets=T.sets∧R.soa=T.soa∧R.err=T.err
theorem zyz (s:SetD) (h:0≤s.ttl):0≤soaTime s∧soaTime s≤2147483647:=by
 unfold soaTime;split
 ·split
  ·unfold zd9;split
   ·have h1:=zoj h
    have h2:=zoj (show(0:Int)≤(zef _:Int)from Int.natCast_nonneg (zef (by assumption)))
    omega
   ·omega
  ·omega
 ·omega
theorem zxq {l:List RecD} (hn:∀r∈l,0≤r.ttl) {x:SetD} (hx:x∈groupR l):0≤x.ttl∧x.ttl≤2147483647:=by
 refine⟨?_,(zr3 hx).2⟩;rw[(zr3 hx).1];rcases zFb (ofK l (zbl x))with e|⟨y,hy,e⟩
 ·omega
 ·rw[e];exact(zoj (hn y (zwi.1 hy).1)).1
end Go.Proofs.YtdnpmapelmjfpaaGreatDoor
