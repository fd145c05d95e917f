/- Lemmas of this claim. No condition. -/
import Derived.Test.YtdnpmapelmjfpaaGreatDoorLry
set_option linter.unusedVariables false
set_option linter.unusedSimpArgs false
set_option maxRecDepth 100000
namespace Go.Proofs.YtdnpmapelmjfpaaGreatDoor
def zse (l:List SetD) (ttl:Int):List RecD:=l.flatMap fun s=>s.data.map fun d=>⟨s.name,s.typ,s.cls,ttl,d⟩
def zA2 (c:CameD) (code:Int) (sets soa:List SetD) (ttl size:Int):MsgD:={zEl c code size with ans:=zse sets ttl,auth:=zse soa ttl}
def zH3 (c:CameD) (code:Int) (sets soa:List SetD) (ttl size:Int):Prop:=zau (zA2 c code sets soa ttl size)=0∧((zbf (zA2 c code sets soa ttl size)).1.length:Int)≤zGk c size
instance (c:CameD) (code:Int) (sets soa:List SetD) (ttl size:Int):Decidable (zH3 c code sets soa ttl size):=inferInstanceAs (Decidable (_∧_))
def zFz (c:CameD) (code:Int) (sets soa:List SetD) (ttl size:Int):Prop:=c.kind=3∧(512≤size∧size≤4096)∧(code=0∨code=3)∧ttl≤2147483647
instance (c:CameD) (code:Int) (sets soa:List SetD) (ttl size:Int):Decidable (zFz c code sets soa ttl size):=inferInstanceAs (Decidable (_∧_))
def SetD.wfT (s:SetD):Prop:=(0≤s.typ∧s.typ≤65535)∧(0≤s.cls∧s.cls≤65535)
theorem zB5 (r:RecD):zac r=(may r.name&&rmay r.typ r.data):=by
 unfold zac;by_cases h:r.typ=41
 ·have:rmay r.typ r.data=false:=by rw[h];rfl
  rw[this];simp[h]
 ·simp[h]
theorem zm9 (msg ext:List UInt8):∀(n:Nat) (s:RdSt),(zbr msg n s).2.2=0→zbr (msg++ext) n s=zbr msg n s
 |0,_,_=>rfl
 |n+1,s,h=>by
  unfold zbr at h ⊢;rcases hg:msg[s.pos]? with _|b
  ·rw[hg]at h;cases h
  ·have Ge:(msg++ext)[s.pos]? =some b:=by
    rw[List.getElem?_append_left (List.getElem?_eq_some_iff.1 hg).1];exact hg
   rw[hg]at h;rw[Ge];dsimp only at h ⊢;split
   ·rfl
   ·rename_i h0;rw[if_neg h0]at h;split
    ·rename_i h1;rw[if_pos h1]at h;split at h
     ·cases h
     ·rename_i h2;rw[if_neg (by rw[Z6];omega),if_neg h2]
      split at h
      ·cases h
      ·rename_i h3;rw[if_neg h3,if_neg h3];have hd:((msg++ext).drop (s.pos+1)).take b.toNat=(msg.drop (s.pos+1)).take b.toNat:=by
        rw[List.drop_append_of_le_length (by omega),List.take_append_of_le_length (by rw[List.length_drop];omega)]
       rw[hd];exact zm9 msg ext n _ h
    ·rename_i h1;rw[if_neg h1]at h;split at h
     ·cases h
     ·rename_i h2;rw[if_neg h2,if_neg h2];rcases hc:msg[s.pos+1]? with _|c
      ·rw[hc]at h;cases h
      ·have y9:(msg++ext)[s.pos+1]? =some c:=by
        rw[List.getElem?_append_left (List.getElem?_eq_some_iff.1 hc).1];exact hc
       rw[hc]at h;rw[y9];dsimp only at h ⊢;split at h
       ·cases h
       ·rename_i h3;rw[if_neg h3,if_neg h3];exact zm9 msg ext n _ h
theorem zod (msg:List UInt8):∀(n:Nat) (s:RdSt),(zbr msg n s).2.2=0→(∀k,s.nx=some k→k≤msg.length)→(zbr msg n s).2.1≤msg.length
 |0,_,_,_=>Nat.zero_le _
 |n+1,s,h,hk=>by
  unfold zbr at h ⊢;rcases hg:msg[s.pos]? with _|b
  ·rw[hg]at h;cases h
  ·have ab:=(List.getElem?_eq_some_iff.1 hg).1
   rw[hg]at h;dsimp only at h ⊢;split
   ·dsimp only;rcases hn:s.nx with _|k
    ·show s.pos+1≤_;omega
    ·exact hk k hn
   ·rename_i h0;rw[if_neg h0]at h;split
    ·rename_i h1;rw[if_pos h1]at h;split at h
     ·cases h
     ·rename_i h2;rw[if_neg h2];split at h
      ·cases h
      ·rename_i h3;rw[if_neg h3];exact zod msg n _ h hk
    ·rename_i h1;rw[if_neg h1]at h;split at h
     ·cases h
     ·rename_i h2;rw[if_neg h2];rcases hc:msg[s.pos+1]? with _|c
      ·rw[hc]at h;cases h
      ·have ce:=(List.getElem?_eq_some_iff.1 hc).1
       rw[hc]at h;dsimp only at h ⊢;split at h
       ·cases h
       ·rename_i h3;rw[if_neg h3];refine zod msg n _ h fun k cU=>?_
        dsimp only at cU;injection cU with cU
        rcases hn:s.nx with _|k'
        ·rw[hn]at cU;simp at cU;omega
        ·rw[hn]at cU;simp at cU;have:=hk k' hn;omega
theorem zr8 {msg:List UInt8} {pos p:Nat} {n:List UInt8} (ext:List UInt8) (h:zbj msg pos=.ok (n,p)):zbj (msg++ext) pos=.ok (n,p)∧p≤msg.length:=by
 unfold zbj at h;split at h
 ·rename_i h0;have e:readN (msg++ext) pos=readN msg pos:=by unfold readN zbc at h0 ⊢;exact zm9 msg ext _ _ h0
  have hl:(readN msg pos).2.1≤msg.length:=by unfold readN zbc at h0 ⊢;exact zod msg _ _ h0 (by simp)
  injection h with h;injection h with h1 h2
  unfold zbj;rw[e,if_pos h0,h1,h2];exact⟨rfl,by omega⟩
 ·cases h
theorem zf4 {msg:List UInt8} {k pos p v:Nat} (ext:List UInt8) (h:zal k msg pos=.ok (v,p)):zal k (msg++ext) pos=.ok (v,p)∧p≤msg.length:=by
 unfold zal at h ⊢;split at h
 ·cases h
 ·rename_i h0;injection h with h;injection h with h1 h2
  rw[if_neg (by rw[Z6];omega),List.drop_append_of_le_length (by omega),List.take_append_of_le_length (by rw[List.length_drop];omega),h1,h2]
  exact⟨rfl,by omega⟩
theorem zFk {msg:List UInt8} {pos p:Nat} {q:QD} (ext:List UInt8) (h:quR msg pos=.ok (q,p)):quR (msg++ext) pos=.ok (q,p)∧p≤msg.length:=by
 unfold quR at h;split at h
 ·cases h
 rename_i h1;split at h
 ·cases h
 rename_i h2;split at h
 ·cases h
 rename_i h3;injection h with h;injection h with e1 e2
 unfold quR;rw[(zr8 ext h1).1];dsimp only;rw[(zf4 ext h2).1];dsimp only;rw[(zf4 ext h3).1];dsimp only;rw[e1,←e2];exact⟨rfl,(zf4 ext h3).2⟩
theorem ztv {msg:List UInt8} (ext:List UInt8):∀{k pos p:Nat} {l:List QD},zbt msg k pos=.ok (l,p)→pos≤msg.length→zbt (msg++ext) k pos=.ok (l,p)∧p≤msg.length
 |0,pos,p,l,h,hp=>by
  unfold zbt at h ⊢;injection h with h;injection h with e1 e2
  subst e1 e2;exact⟨rfl,hp⟩
 |k+1,pos,p,l,h,hp=>by
  unfold zbt at h ⊢;split at h
  ·cases h
  rename_i h1;split at h
  ·cases h
  rename_i h2;injection h with h;injection h with e1 e2
  obtain⟨a1,a2⟩:=zFk ext h1
  obtain⟨b1,b2⟩:=ztv ext h2 a2
  rw[a1];dsimp only;rw[b1];dsimp only;rw[e1,←e2];exact⟨rfl,b2⟩
theorem zDp {msg:List UInt8} (ext:List UInt8) {more:Bool} {ed ed':Option EdD} {pos p:Nat} {r:Option RecD} (h:zbd msg more ed pos=.ok (r,ed',p)):zbd (msg++ext) more ed pos=.ok (r,ed',p)∧p≤msg.length:=by
 unfold zbd at h;split at h
 ·cases h
 rename_i h1;split at h
 ·cases h
 rename_i h2;split at h
 ·cases h
 rename_i h3;split at h
 ·cases h
 rename_i h4;split at h
 ·cases h
 rename_i p' h5;split at h
 ·cases h
 rename_i h6;unfold zbd;rw[(zr8 ext h1).1];dsimp only;rw[(zf4 ext h2).1];dsimp only;rw[(zf4 ext h3).1];dsimp only;rw[(zf4 ext h4).1];dsimp only;rw[(zf4 ext h5).1];dsimp only;have de:=(zf4 ext h5).2
 rw[if_neg (by rw[Z6];omega),List.drop_append_of_le_length (by omega),List.take_append_of_le_length (by rw[List.length_drop];omega),List.take_append_of_le_length (by omega)]
 refine⟨h,?_⟩;split at h
 ·split at h
  ·cases h
  split at h
  ·cases h
  injection h with h;injection h with e1 e2;injection e2 with e2 e3
  omega
 ·split at h
  ·injection h with h;injection h with e1 e2;injection e2 with e2 e3
   omega
  ·cases h
theorem zj7 {msg:List UInt8} (ext:List UInt8) {more:Bool}:∀{k:Nat} {ed ed':Option EdD} {pos p:Nat} {l:List RecD},zao msg more k ed pos=.ok (l,ed',p)→pos≤msg.length→zao (msg++ext) more k ed pos=.ok (l,ed',p)∧p≤msg.length
 |0,ed,ed',pos,p,l,h,hp=>by
  unfold zao at h ⊢;injection h with h;injection h with e1 e2;injection e2 with e2 e3
  subst e1 e2 e3;exact⟨rfl,hp⟩
 |k+1,ed,ed',pos,p,l,h,hp=>by
  unfold zao at h ⊢;split at h
  ·cases h
  rename_i h1;split at h
  ·cases h
  rename_i h2;injection h with h;injection h with e1 e2;injection e2 with e2 e3
  obtain⟨a1,a2⟩:=zDp ext h1
  obtain⟨b1,b2⟩:=zj7 ext h2 a2
  rw[a1];dsimp only;rw[b1];dsimp only;rw[e1,e2,←e3];exact⟨rfl,b2⟩
theorem zi4 {msg:List UInt8} (ext:List UInt8) {at_:Nat} (h:at_+2≤msg.length):n16 (msg++ext) at_=n16 msg at_:=by
 unfold n16;rw[List.drop_append_of_le_length (by omega),List.take_append_of_le_length (by rw[List.length_drop];omega)]
theorem zzn {msg:List UInt8} (ext:List UInt8) {m:MsgD} {p:Nat} (h:zbi msg=.ok (m,p)) (hl:12≤msg.length):zbi (msg++ext)=.ok (m,p)∧p≤msg.length:=by
 unfold zbi at h ⊢;rw[zi4 ext (by omega),zi4 ext (by omega),zi4 ext (by omega),zi4 ext (by omega),zi4 ext (by omega),zi4 ext (by omega)]
 split at h
 ·cases h
 rename_i h1;split at h
 ·cases h
 rename_i h2;split at h
 ·cases h
 rename_i h3;split at h
 ·cases h
 rename_i h4;injection h with h;injection h with e1 e2
 obtain⟨a1,a2⟩:=ztv ext h1 hl
 obtain⟨b1,b2⟩:=zj7 ext h2 a2
 obtain⟨c1,c2⟩:=zj7 ext h3 b2
 obtain⟨d1,d2⟩:=zj7 ext h4 c2
 rw[a1];dsimp only;rw[b1];dsimp only;rw[c1];dsimp only;rw[d1];dsimp only;rw[e1,←e2];exact⟨rfl,d2⟩
theorem zqw {d:List UInt8} {m:MsgD} (h:zct d=.ok m):12≤d.length∧∃p,zbi d=.ok (m,p)∧¬p<d.length:=by
 unfold zct at h;split at h
 ·cases h
 split at h
 ·cases h
 split at h
 ·cases h
 rename_i p h1;split at h
 ·cases h
 split at h
 ·injection h with h
  subst h;exact⟨by omega,p,h1,by omega⟩
 ·cases h
end Go.Proofs.YtdnpmapelmjfpaaGreatDoor
namespace Go.Proofs.YtdnpmapelmjfpaaGreatDoor
open Go.RowKit
def zGq (l:List SetD):Prop:=l.length≤1048576∧∀s∈l,s.data.length≤1048576
structure SetsOk7 (l:List SetD):Prop where
 len:l.length≤1048576
 bd:∀s∈l,s.name.length≤1048576∧s.data.length≤65536∧∀d∈s.data,d.length≤1048576
 wf:∀s∈l,s.wfT
theorem SetsOk7.ans {l:List SetD} (h:SetsOk7 l):zGq l:=⟨h.len,fun s hs=>Z2 (h.bd s hs).2.1 (by omega)⟩
theorem SetsOk7.recs {l:List SetD} (h:SetsOk7 l) (ttl:Int):∀r∈zse l ttl,zfi r:=by
 intro r hr;unfold zse at hr;obtain⟨s,hs,hr⟩:=List.mem_flatMap.1 hr
 obtain⟨d,hd,rfl⟩:=List.mem_map.1 hr
 exact⟨(h.bd s hs).1,(h.bd s hs).2.2 d hd⟩
def SmS (s:SetD):Prop:=s.name.length≤400∧s.data.length≤400∧∀d∈s.data,d.length≤5000
def SmL (l:List SetD):Prop:=l.length≤40∧∀s∈l,SmS s
theorem SmL.ok {l:List SetD} (h:SmL l) (hw:∀s∈l,s.wfT):SetsOk7 l:=
 ⟨Z2 h.1 (by omega),fun s hs=>⟨Z2 (h.2 s hs).1 (by omega),Z2 (h.2 s hs).2.1 (by omega),fun d hd=>Z2 ((h.2 s hs).2.2 d hd) (by omega)⟩,hw⟩
end Go.Proofs.YtdnpmapelmjfpaaGreatDoor
