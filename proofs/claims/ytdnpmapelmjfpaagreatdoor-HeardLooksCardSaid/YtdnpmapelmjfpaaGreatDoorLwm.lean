/- Lemmas of this claim. No condition. -/
import Derived.Test.YtdnpmapelmjfpaaGreatDoorLwp
import Derived.Maps.Keyed
import Derived.DeepKeys4
import Derived.Maps.Own
set_option linter.unusedVariables false
set_option linter.unusedSimpArgs false
set_option maxRecDepth 100000
namespace Go.Proofs.YtdnpmapelmjfpaaGreatDoor
open Go.RowKit
theorem zit:WideMaps.KeyLaw Tryz.prog 9:=WideMaps.string_law Tryz.underlying9
theorem zj6 (n:List UInt8) (hn:n.length≤maxLen):∃kl,keyOf Tryz.prog 9 (S n)=some kl:=by
 unfold keyOf;simp only[Tryz.underlying9];unfold mapKey;simp only[Tryz.underlying9];rw[if_pos (by rw[zcy];exact hn)]
 exact⟨_,rfl⟩
def TMap (w:World) (b:Nat) (t:Tab):Prop:=
 ∃es clock,w.heap[b]? =some (.map es clock)∧es.toList.map (fun e=>(e.key,e.val))=t.map (fun p=>(S p.1,Value.int .i64 (p.2:Int)))∧∀p∈t,p.1.length≤maxLen
theorem TMap.made (w:World):TMap (w.alloc (.map #[] 0)) w.heap.size []:=⟨#[],0,heap_alloc_new w _,rfl,by simp⟩
theorem TMap.lt {w:World} {b:Nat} {t:Tab} (h:TMap w b t):b<w.heap.size:=by
 obtain⟨es,clock,hb,_⟩:=h
 exact(Z9 hb)
theorem TMap.ext {w w':World} {b:Nat} {t:Tab} (h:TMap w b t) (hE:Ext w w'):TMap w' b t:=by
 have ab:=h.lt
 obtain⟨es,clock,hb,h1⟩:=h
 exact⟨es,clock,(hE.block b ab).trans hb,h1⟩
theorem TMap.kept {w w':World} {b:Nat} {t:Tab} {row:Option Nat} (h:TMap w b t) (hg:w.grownBy w' row) (au:some b≠row):TMap w' b t:=by
 have ab:=h.lt
 obtain⟨es,clock,hb,h1⟩:=h
 exact⟨es,clock,(hg.block b ab au).trans hb,h1⟩
theorem TMap.set {w:World} {b:Nat} {t:Tab} (h:TMap w b t) {p:Addr} (hp:b≠p.block) (u:Value):TMap (w.setCell p u) b t:=by
 obtain⟨es,clock,hb,h1⟩:=h
 exact⟨es,clock,(Below.heap_setCell w p u b hp).trans hb,h1⟩
theorem zud {n n':List UInt8} (h:S n=S n'):n=n':=by
 simp only[Value.string.injEq,ByteArray.mk.injEq,Array.mk.injEq]at h;simpa using h
theorem TMap.keys {es:Array MapEntry} {t:Tab} (h:es.toList.map (fun e=>(e.key,e.val))=t.map (fun p=>(S p.1,Value.int .i64 (p.2:Int)))) (hk:∀p∈t,p.1.length≤maxLen):
 (∀e∈es.toList,∃l,keyOf Tryz.prog 9 e.key=some l)∧(∀(j:Nat) (e:MapEntry),es.toList[j]? =some e→∃p,t[j]? =some p∧e.key=S p.1∧e.val=.int .i64 (p.2:Int))∧es.toList.length=t.length:=by
 have aq:es.toList.length=t.length:=by simpa using congrArg List.length h
 have h2:∀(j:Nat) (e:MapEntry),es.toList[j]? =some e→∃p,t[j]? =some p∧e.key=S p.1∧e.val=.int .i64 (p.2:Int):=by
  intro j e he;have hj:j<t.length:=by rw[←aq];exact(List.getElem?_eq_some_iff.1 he).1
  have:=congrArg (fun l=>l[j]?) h
  simp only[List.getElem?_map,he,Option.map_some]at this;rw[Z3 hj]at this;simp only[Option.map_some,Option.some.injEq,Prod.mk.injEq]at this;exact⟨t[j],Z3 hj,this.1,this.2⟩
 refine⟨fun e he=>?_,h2,aq⟩
 obtain⟨j,hj,rfl⟩:=List.getElem_of_mem he
 obtain⟨p,hp,iC,_⟩:=h2 j _ (Z3 hj)
 have:=hk p (List.mem_of_getElem? hp)
 rw[iC];exact zj6 _ this
theorem zz4 {t:Tab} {n:List UInt8} (h:∀p∈t,p.1≠n):zb6 t n=none:=by
 unfold zb6;rw[List.find?_eq_none.2 (fun p hp=>by simpa using h p hp)];rfl
theorem zui:∀{t:Tab} {p q:List UInt8×Nat},(t.map Prod.fst).Nodup→p∈t→q∈t→q.1=p.1→q=p
 |[],_,_,_,hp,_,_=>by cases hp
 |e::t,p,q,hd,hp,hq,h=>by
  rw[List.map_cons,List.nodup_cons]at hd;rcases List.mem_cons.1 hp with e1|hp
  ·rcases List.mem_cons.1 hq with e2|hq
   ·rw[e1,e2]
   ·exact absurd (List.mem_map.2 ⟨q,hq,h.trans (by rw[e1])⟩) hd.1
  ·rcases List.mem_cons.1 hq with e2|hq
   ·exact absurd (List.mem_map.2 ⟨p,hp,h.symm.trans (by rw[e2])⟩) hd.1
   ·exact zui hd.2 hp hq h
theorem zE1 {t:Tab} (hd:(t.map Prod.fst).Nodup) {j:Nat} {p:List UInt8×Nat} (h:t[j]? =some p):zb6 t p.1=some p.2:=by
 unfold zb6;have hm:=List.mem_of_getElem? h
 rcases hf:t.find? fun e=>e.1==p.1 with _|q
 ·rw[List.find?_eq_none]at hf;exact absurd (by simp) (hf p hm)
 ·have h1:=List.find?_some hf
  have h2:=List.mem_of_find?_eq_some hf
  simp only[beq_iff_eq]at h1;rw[hf,zui hd hm h2 h1];rfl
theorem TMap.look {w:World} {b:Nat} {t:Tab} (h:TMap w b t) (hd:(t.map Prod.fst).Nodup) (n:List UInt8) (hn:n.length≤maxLen):
 (Instr.lookup 257 (.map (some b)) (S n) true).run Tryz.prog w=.ok (.tuple #[.int .i64 (((zb6 t n).getD 0:Nat):Int),.bool (zb6 t n).isSome]) w:=by
 obtain⟨es,clock,hb,h1,h2⟩:=h
 obtain⟨qK,jz,aq⟩:=TMap.keys h1 h2
 obtain⟨kl,fk⟩:=zj6 n hn
 rcases zit.find w fk es.toList qK with⟨f1,f2⟩|⟨j,e0,f1,f2,f3⟩
 ·have e:zb6 t n=none:=zz4 fun p hp he=>by
   obtain⟨i,hi,rfl⟩:=List.getElem_of_mem hp
   have kf:i<es.toList.length:=by omega
   obtain⟨p',de,cU,_⟩:=jz i _ (Z3 kf)
   rw[Z3 hi]at de;injection de with de
   apply f2 _ (List.getElem_mem kf);rw[cU,←de,he]
  rw[e];simp[Instr.lookup,run_underlying Tryz.underlying257,MapKept.run_getObj_map hb,zit.check w _ fk,f1,Tryz.zeroValue3,Result.andThen]
 ·obtain⟨p,hp,cU,hv⟩:=jz j e0 f2
  have e1:p.1=n:=zud (cU.symm.trans f3)
  have e2:=zE1 hd hp
  rw[e1]at e2;rw[e2];simp[Instr.lookup,run_underlying Tryz.underlying257,MapKept.run_getObj_map hb,zit.check w _ fk,f1,Result.andThen,hv]
theorem TMap.store {w:World} {b:Nat} {t:Tab} (h:TMap w b t) (n:List UInt8) (k:Nat) (hn:n.length≤maxLen) (bT:zb6 t n=none):
 ∃w',(Instr.mapUpdate 257 (.map (some b)) (S n) (.int .i64 (k:Int))).run Tryz.prog w=.ok () w'∧TMap w' b (t++[(n,k)])∧w.grownBy w' (some b):=by
 obtain⟨es,clock,hb,h1,h2⟩:=h
 obtain⟨qK,jz,aq⟩:=TMap.keys h1 h2
 obtain⟨kl,fk⟩:=zj6 n hn
 have cH:b<w.heap.size:=(Z9 hb)
 rcases zit.find w fk es.toList qK with⟨f1,f2⟩|⟨j,e0,f1,f2,f3⟩
 ·refine⟨_,by simp[Instr.mapUpdate,run_underlying Tryz.underlying257,MapKept.run_getObj_map hb,zit.check w false fk,f1,MapKept.run_setObj_map _ hb,Result.andThen];rfl,⟨es.push ⟨S n,.int .i64 (k:Int),clock⟩,clock+1,?_,?_,?_⟩,?_⟩
  ·exact Array.getElem?_setIfInBounds_self_of_lt cH
  ·rw[Array.toList_push,List.map_append,h1,List.map_append];simp
  ·intro x hx;rcases List.mem_append.1 hx with h|h
   ·exact h2 x h
   ·rw[List.mem_singleton]at h;subst h;exact hn
  ·refine⟨rfl,rfl,rfl,by simp,fun k hk au=>?_⟩
   exact Array.getElem?_setIfInBounds_ne (fun e=>au (by rw[e]))
 ·exfalso;obtain⟨p,hp,cU,hv⟩:=jz j e0 f2
  have e1:p.1=n:=zud (cU.symm.trans f3)
  unfold zb6 at bT;rw[Option.map_eq_none_iff,List.find?_eq_none]at bT;exact bT p (List.mem_of_getElem? hp) (by simp[e1])
end Go.Proofs.YtdnpmapelmjfpaaGreatDoor
