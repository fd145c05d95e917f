/- Contracts of functions and plain lemmas that the proofs of this seat share (joined texts). No condition. -/
import Derived.Test.YtdnpmapelmjfpaaGreatDoorQwp
import Derived.Test.YtdnpmapelmjfpaaGreatDoorQg1
import Derived.Test.YtdnpmapelmjfpaaGreatDoorQj
import Derived.Test.YtdnpmapelmjfpaaGreatDoorQs
import Derived.Test.YtdnpmapelmjfpaaGreatDoorQu
import Derived.Test.YtdnpmapelmjfpaaGreatDoorQrz
import Derived.OpenShut
set_option linter.unusedVariables false
set_option linter.unusedSimpArgs false
namespace Go.Proofs.YtdnpmapelmjfpaaGreatDoor
structure ResR where
 code:Int
 ans:List SetD
 auth:List SetD
def zb8 (L:List SetD) (n:List UInt8) (cls:Int):Bool:=L.any fun s=>s.cls==cls&&withinN s.name n
def zcp (L:List SetD) (cls:Int) (R:FolR):ResR:=
 if R.err=0 then
  (if R.fin=[]then
   (if(soaFind L R.here cls).err=0 then⟨if zb8 L R.here cls=true then 0 else 3,R.path,(soaFind L R.here cls).set.toList⟩else⟨2,[],[]⟩)
   else⟨0,R.path++R.fin,[]⟩)
 else⟨2,[],[]⟩
def zfe (L:List SetD) (n:List UInt8) (ty cls:Int):ResR:=zcp L cls (followOf n ty cls L)
def zbb (he:Bool):EdD:=⟨if he=true then 4096 else 0,0,0,0,[]⟩
def zca (q:MsgD) (tc:Bool) (code:Int) (ans auth:List RecD):MsgD:=⟨⟨q.hd.id,true,0,false,tc,q.hd.rd,true,false,false,false,code⟩,q.qs,ans,auth,[],q.he,zbb q.he⟩
def zdg (q:MsgD):Int:=if q.he=true∧512<q.ed.size then q.ed.size else 512
def zaj (q:MsgD) (R:ResR):MsgD:=zca q false R.code (R.ans.flatMap za8) (R.auth.flatMap za8)
def zav (q:MsgD) (R:ResR):MsgD:=zca q true R.code [] []
def zej (q:MsgD) (R:ResR):List UInt8:=
 if zan (zaj q R)=0∧((zb7 (zaj q R)).length:Int)≤zdg q then zb7 (zaj q R)else zb7 (zav q R)
def zf3 (L:List SetD) (q:MsgD):List UInt8:=match q.qs with
 |[x]=>if q.hd.qr=false∧q.hd.op=0 then zej q (zfe L x.name x.typ x.cls)else[]
 |_=>[]
def resOf (L:List SetD) (d:List UInt8):List UInt8:=match ze3 d with
 | .error _=>[]
 | .ok q=>zf3 L q
theorem zd3 (he:Bool):(0≤(zbb he).size∧(zbb he).size≤65535)∧(zbb he).opts=[]:=by cases he<;>exact⟨by decide,rfl⟩
theorem zed {q:MsgD} (hq:q.wf) (tc:Bool) {code:Int} (hc:0≤code) {ans auth:List RecD} (ha:∀r∈ans,r.wf) (hu:∀r∈auth,r.wf):(zca q tc code ans auth).wf:=by
 refine⟨hq.id,?_,hc,hq.qs,ha,hu,(by intro r hr;cases hr),(zd3 q.he).1,?_,?_,?_,?_⟩
 ·exact Int.le_refl 0
 ·exact⟨by show(0:Int)≤0;omega,by show(0:Int)≤255;omega⟩
 ·exact⟨by show(0:Int)≤0;omega,by show(0:Int)≤255;omega⟩
 ·exact⟨by show(0:Int)≤0;omega,by show(0:Int)≤65535;omega⟩
 ·show ∀o∈(zbb q.he).opts,_;rw[(zd3 q.he).2];intro o ho;cases ho
theorem zxh {q:MsgD} {x:QD} (hx:q.qs=[x]) (hn:may x.name=true) (tc:Bool) {code:Int} (hc:code≤15) {ans auth:List RecD} (ha:∀r∈ans,zae r=true) (hu:∀r∈auth,zae r=true) (h1:ans.length≤65535) (h2:auth.length≤65535):
 zc3 (zca q tc code ans auth)=true:=by
 unfold zca zc3;simp only[Bool.and_eq_true,decide_eq_true_eq,List.all_eq_true,Bool.or_eq_true];refine⟨⟨⟨⟨⟨⟨?_,?_⟩,?_⟩,?_⟩,ha⟩,hu⟩,by simp⟩
 ·unfold ze4;rw[decide_eq_true_eq];dsimp only;omega
 ·cases q.he
  ·right;rfl
  ·left;rfl
 ·refine⟨by rw[hx];simp,h1,h2,?_⟩
  dsimp only[List.length_nil];split<;>omega
 ·intro y hy;rw[hx,List.mem_singleton]at hy;subst hy;exact hn
theorem zxg {q:MsgD} {x:QD} (hx:q.qs=[x]) (hn:may x.name=true) (tc:Bool) (code:Int):(zbg (zca q tc code [] [])).1.length≤282:=by
 unfold zbg;dsimp only;simp only[List.length_append,znd];have h1:(zal quW 12 (zca q tc code [] []).qs []).1.length≤259:=by
  show(zal quW 12 q.qs []).1.length≤259
  rw[hx];simp only[zal,quW,List.append_nil,List.length_append,zak];have:=zfy true true 12 [] hn
  omega
 have h2:∀p t,(zal zbf p ((zca q tc code [] []).ans++(zca q tc code [] []).auth++(zca q tc code [] []).extra) t).1.length=0:=fun p t=>by simp[zca,zal]
 have h3:(if(zca q tc code [] []).he=true then zg8 (zca q tc code [] []).ed else[]).length≤11:=by
  split
  ·have:(zca q tc code [] []).ed.opts=[]:=(zd3 q.he).2
   simp[zg8,zfg,this,zak,zfx]
  ·simp
 rw[h2];omega
theorem zhn {q:MsgD} {x:QD} (hx:q.qs=[x]) (hn:may x.name=true) {code:Int} (hc:code≤15) (tc:Bool):zan (zca q tc code [] [])=0∧(zb7 (zca q tc code [] [])).length≤282:=by
 have hm:=zxh hx hn tc hc (ans:=[]) (auth:=[]) (by simp) (by simp) (by simp) (by simp)
 have hl:=zxg hx hn tc code
 have he:zan (zca q tc code [] [])=0:=by unfold zan;rw[if_pos hm,if_neg (by omega)]
 exact⟨he,by rw[(zp0 he).2.2];exact hl⟩
structure ResOk (l:List RecD) (R:ResR):Prop where
 code:R.code=0∨R.code=2∨R.code=3
 ans:∀s∈R.ans,s∈zap l
 auth:∀s∈R.auth,s∈zap l
 alen:R.ans.length≤9
 ulen:R.auth.length≤1
theorem zsw (l:List RecD) (n:List UInt8) (ty cls:Int):ResOk l (zfe (zap l) n ty cls):=by
 have h:=zl2 (zap l) n ty cls
 unfold zfe zcp;split
 ·split
  ·split
   ·refine⟨?_,h.path,fun s hs=>?_,by have:=h.len;dsimp only;omega,?_⟩
    ·dsimp only;split
     ·exact .inl rfl
     ·exact .inr (.inr rfl)
    ·rcases hs':(soaFind (zap l) (followOf n ty cls (zap l)).here cls).set with _|x
     ·dsimp only at hs;rw[hs']at hs;cases hs
     ·dsimp only at hs;rw[hs',Option.toList_some,List.mem_singleton]at hs;subst hs;exact(zvk hs').1
    ·dsimp only;cases (soaFind (zap l) (followOf n ty cls (zap l)).here cls).set<;>simp
   ·exact⟨.inr (.inl rfl),by simp,by simp,by simp,by simp⟩
  ·refine⟨.inl rfl,fun s hs=>?_,by simp,?_,by simp⟩
   ·rcases List.mem_append.1 hs with h'|h'
    ·exact h.path s h'
    ·exact h.fin s h'
   ·have h1:=h.len;have h2:=h.one
    dsimp only;rw[List.length_append];omega
 ·exact⟨.inr (.inl rfl),by simp,by simp,by simp,by simp⟩
theorem zBc {l:List RecD} (hw:∀r∈l,r.wf) {s:SetD} (hs:s∈zap l):s.wfT∧0≤s.ttl∧s.ttl≤2147483647:=by
 obtain⟨h1,h2⟩:=(zpz l s).1 hs
 obtain⟨x,hx⟩:=List.exists_mem_of_ne_nil _ h1
 obtain⟨a,_,b⟩:=zp4.1 hx
 have e1:x.typ=s.typ:=congrArg (fun K:zjp=>K.2.1) b
 have e2:x.cls=s.cls:=congrArg (fun K:zjp=>K.2.2) b
 have hx':=hw x a
 refine⟨⟨e1▸hx'.1,e2▸hx'.2.1⟩,?_,(zq0 hs).2⟩;rw[(zq0 hs).1];rcases zDr (ofK l (zbn s))with h|⟨y,hy,h⟩
 ·rw[h];decide
 ·rw[h];exact(zCh (hw y (zp4.1 hy).1).2.2.1).1
theorem zf2 {l:List RecD} (hw:∀r∈l,r.wf) {L:List SetD} (h:∀s∈L,s∈zap l):∀r∈L.flatMap za8,r.wf:=fun r hr=>by
 obtain⟨s,hs,hr⟩:=List.mem_flatMap.1 hr
 unfold za8 at hr;obtain⟨d,hd,rfl⟩:=List.mem_map.1 hr
 obtain⟨h1,h2,h3⟩:=zBc hw (h s hs)
 exact⟨h1.1,h1.2,h2,by dsimp only;omega⟩
theorem zll (n:Nat):∀(L:List SetD),(∀s∈L,s.data.length≤n)→(L.flatMap za8).length≤L.length*n
 |[],_=>by simp
 |s::L,h=>by
  rw[List.flatMap_cons,List.length_append,List.length_cons,Nat.succ_mul];have h1:=zll n L fun t ht=>h t (List.mem_cons_of_mem _ ht)
  have h2:=h s List.mem_cons_self
  have h3:(za8 s).length=s.data.length:=by unfold za8;rw[List.length_map]
  omega
theorem zyu {m:MsgD} (h:zc3 m=true):∀x∈m.qs,may x.name=true:=by
 unfold zc3 at h;simp only[Bool.and_eq_true,List.all_eq_true]at h;exact h.1.1.1.2
end Go.Proofs.YtdnpmapelmjfpaaGreatDoor
namespace Go.Proofs.YtdnpmapelmjfpaaGreatDoor
set_option maxRecDepth 100000
def zf5:List RecD:=[⟨[3,119,119,119,2,101,120,0],5,1,9,[1,97,2,101,120,0]⟩,⟨[1,97,2,101,120,0],1,1,5,[10,0,0,1]⟩,⟨[2,101,120,0],6,1,7,[0,0,0,0,0,0,0,0,0,0,0,0,0,0,0,0,0,0,0,0,0,3]⟩]
def zr6 (n:List UInt8):List UInt8:=[0,7,1,0,0,1,0,0,0,0,0,0]++n++[0,1]++[0,1]
theorem zAe:zf5.all zb4=true:=by kernel_rfl
theorem zEy:resOf (zap zf5) (zr6 [3,119,119,119,2,101,120,0])=[0,7,129,128,0,1,0,2,0,0,0,0,3,119,119,119,2,101,120,0,0,1,0,1,192,12,0,5,0,1,0,0,0,9,0,4,1,97,192,16,192,36,0,1,0,1,0,0,0,5,0,4,10,0,0,1]:=by kernel_rfl
theorem zEz:resOf (zap zf5) (zr6 [1,98,2,101,120,0])=[0,7,129,131,0,1,0,0,0,1,0,0,1,98,2,101,120,0,0,1,0,1,192,14,0,6,0,1,0,0,0,7,0,22,0,0,0,0,0,0,0,0,0,0,0,0,0,0,0,0,0,0,0,0,0,3]:=by kernel_rfl
theorem zqt:zfi zf5:=⟨by decide,by decide⟩
theorem zqu:∀r∈zf5,r.wf:=by
 intro r hr;simp only[zf5,List.mem_cons,List.not_mem_nil,or_false]at hr;rcases hr with rfl|rfl|rfl<;>exact⟨by decide,by decide,by decide⟩
theorem zqf {l:List RecD} (h:∀r∈l,r.wf):znr l:=fun r hr=>⟨(h r hr).1,(h r hr).2.1⟩
end Go.Proofs.YtdnpmapelmjfpaaGreatDoor
