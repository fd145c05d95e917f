/- Lemmas of this claim. No condition. -/
import Derived.Test.YtdnpmapelmjfpaaGreatDoorLf
import Derived.Test.YtdnpmapelmjfpaaGreatDoorLh0
import Derived.Maps.Keyed
import Derived.DeepKeys4
import Derived.Maps.Own
import Derived.Sort.Statements
import Derived.Shelf.SlSortCmp.WholeK
import Derived.Shelf.SlSortCmp.NoneTotal
set_option maxHeartbeats 1000000
set_option linter.unusedVariables false
set_option linter.unusedSimpArgs false
set_option maxRecDepth 100000
namespace Go.Proofs.YtdnpmapelmjfpaaGreatDoor
open Go.RowKit
theorem zD2:laidOutB Tryz.prog=true:=by kernel_rfl
theorem zlv:WideMaps.KeyLaw Tryz.prog 154:=
 deep_law_laid zD2 (m:=3) (by omega) (of_decide_eq_true (by kernel_rfl)) (by kernel_rfl) (by kernel_rfl)
abbrev zki (n:List UInt8) (t c:Int):Value:=.agg #[S n,.int .u16 t,.int .u16 c]
theorem wf16 {n:Int} (h0:0≤n) (h1:n≤65535):(Lit.int .u16 n).wf=true:=by
 have e1:IntKind.u16.min=0:=rfl
 have e2:IntKind.u16.max=65535:=rfl
 simp[Lit.wf];omega
theorem zlw (n:List UInt8) (t c:Int) (hn:n.length≤maxLen) (ht:0≤t∧t≤65535) (hc:0≤c∧c≤65535):∃kl,keyOf Tryz.prog 154 (zki n t c)=some kl:=by
 have hk:Tryz.prog.keyType 154=true:=by kernel_rfl
 have hz:Tryz.prog.types.size=(Tryz.prog.types.size - 1)+1:=by
  have:Tryz.prog.types.size≠0:=by
   have:decide (Tryz.prog.types.size≠0)=true:=by kernel_rfl
   exact of_decide_eq_true this
  omega
 have c9:Tryz.prog.cellsOf 9=1:=by kernel_rfl
 have c23:Tryz.prog.cellsOf 26=1:=by kernel_rfl
 have c66:Tryz.prog.cellsOf 154=3:=by kernel_rfl
 have hl:Tryz.prog.keyLits (Tryz.prog.types.size+1) 154 [S n,.int .u16 t,.int .u16 c]=some [.string n,.int .u16 t,.int .u16 c]:=by
  rw[hz];generalize Tryz.prog.types.size - 1=m;have h9:Tryz.prog.keyLits (m+1) 9 [S n]=some [.string n]:=by
   unfold Program.keyLits;simp only[Tryz.underlying9];rw[if_pos (by rw[zcy];exact hn)]
  have DR:∀x,0≤x→x≤65535→Tryz.prog.keyLits (m+1) 26 [.int .u16 x]=some [.int .u16 x]:=fun x h0 h1=>by
   unfold Program.keyLits;simp only[Tryz.underlying26];rw[if_pos ⟨trivial,wf16 h0 h1⟩]
  unfold Program.keyLits;simp[Tryz.underlying154,c66,c9,c23,h9,DR t ht.1 ht.2,DR c hc.1 hc.2]
 unfold keyOf;simp only[Tryz.underlying154,hk,Bool.true_and];rw[if_pos (by simp[Value.formed,Tryz.underlying154,c66])]
 exact⟨_,by
  show Option.map _ (Tryz.prog.keyLits (Tryz.prog.types.size+1) 154 [S n,.int .u16 t,.int .u16 c])=_
  rw[hl];rfl⟩
def zii (s:SetD):Value:=zki s.name s.typ s.cls
def zon (s:SetD):Prop:=s.name.length≤maxLen∧(0≤s.typ∧s.typ≤65535)∧(0≤s.cls∧s.cls≤65535)
def KMap (w:World) (b:Nat) (sets:List SetD):Prop:=
 ∃es clock,w.heap[b]? =some (.map es clock)∧es.toList.map (fun e=>(e.key,e.val))=sets.zipIdx.map (fun p=>(zii p.1,Value.int .i64 (p.2:Int)))∧∀s∈sets,zon s
theorem KMap.made (w:World):KMap (w.alloc (.map #[] 0)) w.heap.size []:=⟨#[],0,heap_alloc_new w _,rfl,by simp⟩
theorem KMap.lt {w:World} {b:Nat} {sets:List SetD} (h:KMap w b sets):b<w.heap.size:=by
 obtain⟨es,clock,hb,_⟩:=h
 exact(Z9 hb)
theorem KMap.ext {w w':World} {b:Nat} {sets:List SetD} (h:KMap w b sets) (hE:Ext w w'):KMap w' b sets:=by
 have ab:=h.lt
 obtain⟨es,clock,hb,h1⟩:=h
 exact⟨es,clock,(hE.block b ab).trans hb,h1⟩
theorem KMap.kept {w w':World} {b:Nat} {sets:List SetD} {row:Option Nat} (h:KMap w b sets) (hg:w.grownBy w' row) (au:some b≠row):KMap w' b sets:=by
 have ab:=h.lt
 obtain⟨es,clock,hb,h1⟩:=h
 exact⟨es,clock,(hg.block b ab au).trans hb,h1⟩
theorem KMap.set {w:World} {b:Nat} {sets:List SetD} (h:KMap w b sets) {p:Addr} (hp:b≠p.block) (u:Value):KMap (w.setCell p u) b sets:=by
 obtain⟨es,clock,hb,h1⟩:=h
 exact⟨es,clock,(Below.heap_setCell w p u b hp).trans hb,h1⟩
theorem KMap.congr {w:World} {b:Nat} {s s':List SetD} (h:KMap w b s) (he:s'.map (fun x=>(x.name,x.typ,x.cls))=s.map (fun x=>(x.name,x.typ,x.cls))):KMap w b s':=by
 obtain⟨es,clock,hb,h1,h2⟩:=h
 have aq:s'.length=s.length:=by simpa using congrArg List.length he
 have cg:∀i (h:i<s'.length) (h':i<s.length),(s'[i].name,s'[i].typ,s'[i].cls)=(s[i].name,s[i].typ,s[i].cls):=fun i h h'=>by
  have:=congrArg (fun l=>l[i]?) he
  simpa[h,h']using this
 refine⟨es,clock,hb,?_,fun x hx=>?_⟩
 ·rw[h1];apply List.ext_getElem (by simp[aq])
  intro i h3 h4;simp only[List.length_map,List.length_zipIdx]at h3 h4;have:=cg i h4 h3
  simp only[Prod.mk.injEq]at this;simp[zii,this.1,this.2.1,this.2.2]
 ·obtain⟨i,hi,rfl⟩:=List.getElem_of_mem hx
  have:=cg i hi (by omega)
  simp only[Prod.mk.injEq]at this;have h5:=h2 s[i] (List.getElem_mem (by omega))
  unfold zon at*;rw[this.1,this.2.1,this.2.2];exact h5
theorem ztc {n n':List UInt8} {t t' c c':Int} (h:zki n t c=zki n' t' c'):n=n'∧t=t'∧c=c':=by
 simp only[zki,Value.agg.injEq,Array.mk.injEq,List.cons.injEq,Value.string.injEq,Value.int.injEq,true_and,and_true,ByteArray.mk.injEq]at h;exact⟨h.1,h.2.1,h.2.2⟩
theorem KMap.keys {es:Array MapEntry} {sets:List SetD} (h:es.toList.map (fun e=>(e.key,e.val))=sets.zipIdx.map (fun p=>(zii p.1,Value.int .i64 (p.2:Int)))) (hk:∀s∈sets,zon s):
 (∀e∈es.toList,∃l,keyOf Tryz.prog 154 e.key=some l)∧(∀(j:Nat) (e:MapEntry),es.toList[j]? =some e→∃s,sets[j]? =some s∧e.key=zii s∧e.val=.int .i64 j)∧es.toList.length=sets.length:=by
 have aq:es.toList.length=sets.length:=by simpa using congrArg List.length h
 have h2:∀(j:Nat) (e:MapEntry),es.toList[j]? =some e→∃s,sets[j]? =some s∧e.key=zii s∧e.val=.int .i64 j:=by
  intro j e he;have hj:j<sets.length:=by rw[←aq];exact(List.getElem?_eq_some_iff.1 he).1
  have:=congrArg (fun l=>l[j]?) h
  simp only[List.getElem?_map,he,Option.map_some,List.getElem?_zipIdx,Nat.zero_add]at this;rw[Z3 hj]at this;simp only[Option.map_some,Option.some.injEq,Prod.mk.injEq]at this;exact⟨sets[j],Z3 hj,this.1,by rw[this.2]⟩
 refine⟨fun e he=>?_,h2,aq⟩
 obtain⟨j,hj,rfl⟩:=List.getElem_of_mem he
 obtain⟨s,hs,iC,_⟩:=h2 j _ (Z3 hj)
 have:=hk s (List.mem_of_getElem? hs)
 rw[iC];exact zlw _ _ _ this.1 this.2.1 this.2.2
theorem KMap.look {w:World} {b:Nat} {sets:List SetD} (h:KMap w b sets) (n:List UInt8) (t c:Int) (hn:n.length≤maxLen) (ht:0≤t∧t≤65535) (hc:0≤c∧c≤65535):
 ((Instr.lookup 152 (.map (some b)) (zki n t c) true).run Tryz.prog w=.ok (.tuple #[.int .i64 0,.bool false]) w∧∀s∈sets,zb5 n t c s=false)∨
 ∃j s,(Instr.lookup 152 (.map (some b)) (zki n t c) true).run Tryz.prog w=.ok (.tuple #[.int .i64 (j:Nat),.bool true]) w∧sets[j]? =some s∧zb5 n t c s=true:=by
 obtain⟨es,clock,hb,h1,h2⟩:=h
 obtain⟨qK,jz,aq⟩:=KMap.keys h1 h2
 obtain⟨kl,fk⟩:=zlw n t c hn ht hc
 rcases zlv.find w fk es.toList qK with⟨f1,f2⟩|⟨j,e0,f1,f2,f3⟩
 ·left;refine⟨by simp[Instr.lookup,run_underlying Tryz.underlying152,MapKept.run_getObj_map hb,zlv.check w _ fk,f1,Tryz.zeroValue3,Result.andThen],fun s hs=>?_⟩
  obtain⟨i,hi,rfl⟩:=List.getElem_of_mem hs
  have kf:i<es.toList.length:=by omega
  obtain⟨s',lZ,cU,_⟩:=jz i _ (Z3 kf)
  rw[Z3 hi]at lZ;injection lZ with lZ
  rcases eu:zb5 n t c sets[i]with _|_
  ·rfl
  ·exfalso;apply f2 _ (List.getElem_mem kf);rw[cU,←lZ];simp only[zb5,Bool.and_eq_true,beq_iff_eq]at eu;simp[zii,zki,eu.1,eu.2.1,eu.2.2]
 ·right;obtain⟨s,hs,cU,hv⟩:=jz j e0 f2
  refine⟨j,s,by simp[Instr.lookup,run_underlying Tryz.underlying152,MapKept.run_getObj_map hb,zlv.check w _ fk,f1,Result.andThen,hv],hs,?_⟩
  have:=ztc (cU.symm.trans f3)
  simp[zb5,this.1,this.2.1,this.2.2]
theorem KMap.store {w:World} {b:Nat} {sets:List SetD} (h:KMap w b sets) (s:SetD) (hs:zon s) (bT:∀x∈sets,zb5 s.name s.typ s.cls x=false):
 ∃w',(Instr.mapUpdate 152 (.map (some b)) (zii s) (.int .i64 sets.length)).run Tryz.prog w=.ok () w'∧KMap w' b (sets++[s])∧w.grownBy w' (some b):=by
 obtain⟨es,clock,hb,h1,h2⟩:=h
 obtain⟨qK,jz,aq⟩:=KMap.keys h1 h2
 obtain⟨kl,fk⟩:=zlw s.name s.typ s.cls hs.1 hs.2.1 hs.2.2
 have cH:b<w.heap.size:=(Z9 hb)
 rcases zlv.find w fk es.toList qK with⟨f1,f2⟩|⟨j,e0,f1,f2,f3⟩
 ·have Bs:keyOf Tryz.prog 154 (zii s)=some kl:=fk
  have f1':(Instr.findKey 154 (zii s) es.toList).run Tryz.prog w=.ok none w:=f1
  refine⟨_,by simp[Instr.mapUpdate,run_underlying Tryz.underlying152,MapKept.run_getObj_map hb,zlv.check w false Bs,f1',MapKept.run_setObj_map _ hb,Result.andThen];rfl,⟨es.push ⟨zii s,.int .i64 sets.length,clock⟩,clock+1,?_,?_,?_⟩,?_⟩
  ·exact Array.getElem?_setIfInBounds_self_of_lt cH
  ·rw[Array.toList_push,List.map_append,h1,List.zipIdx_append,List.map_append];simp
  ·intro x hx;rcases List.mem_append.1 hx with h|h
   ·exact h2 x h
   ·rw[List.mem_singleton]at h;subst h;exact hs
  ·refine⟨rfl,rfl,rfl,by simp,fun k hk au=>?_⟩
   exact Array.getElem?_setIfInBounds_ne (fun e=>au (by rw[e]))
 ·exfalso;obtain⟨s',lZ,cU,hv⟩:=jz j e0 f2
  have h3:=bT s' (List.mem_of_getElem? lZ)
  have h4:=ztc (cU.symm.trans f3)
  simp[zb5,h4.1,h4.2.1,h4.2.2]at h3
def zpy (a b:SetD):Int:=if cmpN a.name b.name=0 then(if cmpI a.typ b.typ=0 then cmpI a.cls b.cls else cmpI a.typ b.typ)else cmpN a.name b.name
theorem zs6 (a b:SetD) (d e':Value) (w:World) (hd:∃A n c,d=.slice A n c) (he:∃A n c,e'=.slice A n c) (ha:a.name.length≤maxLen) (hb:b.name.length≤maxLen):
 Calls Tryz.prog 84 #[zby a d,zby b e'] w fun e w'=>e=.returned (.int .i64 (zpy a b))∧ExtD w w':=by
 obtain⟨an,at_,ac,atl,ad⟩:=a
 obtain⟨bn,bt,bc,btl,bd⟩:=b
 obtain⟨A,n,c,rfl⟩:=hd
 obtain⟨B,m,f,rfl⟩:=he
 dsimp only at*;have HC:=Z7 (fun W=>zth an bn W ha hb)
 have HT:=Z7 (fun W=>zw6 at_ bt W)
 have HU:=Z7 (fun W=>zw6 ac bc W)
 obtain⟨R,hR⟩:∃R,R=zpy ⟨an,at_,ac,atl,ad⟩ ⟨bn,bt,bc,btl,bd⟩:=⟨_,rfl⟩
 rw[←hR];unfold zpy at hR;dsimp only at hR;generalize cmpN an bn=cn at*;generalize cmpI at_ bt=ct at*;generalize cmpI ac bc=cc at*;by_cases h0:cn=0
 ·rw[if_pos h0]at hR;obtain⟨f1,f2⟩:=zjr h0
  by_cases h1:ct=0
  ·rw[if_pos h1]at hR;obtain⟨f3,f4⟩:=zjr h1
   have HR:=Z7 hR
   clear hR h0 h1;go_enter Tryz.func84,Tryz.ntmps84;go_wp2_with fail;refine(HC.out _).mono ?_;rintro e w1 ⟨rfl,ae⟩;have hx:=zai (w.heap.size+1) (by simp) ae.1
   obtain⟨hq,bU,bP⟩:=hx
   obtain⟨hp,xZ,pm⟩:=zai w.heap.size rfl (((Z5 _).alloc _).trans ae.1)
   go_wp2_with fail;refine(HT.out _).mono ?_;rintro e w' ⟨rfl,rfl⟩;go_wp2_with fail;refine(HU.out _).mono ?_;rintro e w' ⟨rfl,rfl⟩;go_wp2_with fail;go_ret;exact⟨by rw[HR.out];rfl,(((ExtD.refl _).alloc _).alloc _).trans ae⟩
  ·rw[if_neg h1]at hR;obtain⟨f3,f4⟩:=zep h1
   have HR:=Z7 hR
   clear hR h0 h1;go_enter Tryz.func84,Tryz.ntmps84;go_wp2_with fail;refine(HC.out _).mono ?_;rintro e w1 ⟨rfl,ae⟩;obtain⟨hq,bU,bP⟩:=zai (w.heap.size+1) (by simp) ae.1
   obtain⟨hp,xZ,pm⟩:=zai w.heap.size rfl (((Z5 _).alloc _).trans ae.1)
   go_wp2_with fail;refine(HT.out _).mono ?_;rintro e w' ⟨rfl,rfl⟩;go_wp2_with fail;go_ret;exact⟨by rw[HR.out];rfl,(((ExtD.refl _).alloc _).alloc _).trans ae⟩
 ·rw[if_neg h0]at hR;obtain⟨f1,f2⟩:=zep h0
  have HR:=Z7 hR
  clear hR h0;go_enter Tryz.func84,Tryz.ntmps84;go_wp2_with fail;refine(HC.out _).mono ?_;rintro e w1 ⟨rfl,ae⟩;go_wp2_with fail;go_ret;exact⟨by rw[HR.out];rfl,(((ExtD.refl _).alloc _).alloc _).trans ae⟩
structure Good {α:Type} (c:α→α→Int):Prop where
 anti:∀x y,c y x= - c x y
 tr:∀x y z,c x y≤0→c y z≤0→c x z≤0
theorem Good.zero {α:Type} {c:α→α→Int} (h:Good c) (x:α):c x x=0:=by have:=h.anti x x;omega
theorem Good.trlt {α:Type} {c:α→α→Int} (h:Good c) {x y z:α} (h1:c x y<0) (h2:c y z≤0):c x z<0:=by
 have h3:=h.tr x y z (by omega) h2
 rcases Int.lt_or_eq_of_le h3 with h4|h4
 ·exact h4
 ·have h5:=h.anti x z
  have h6:=h.tr y z x h2 (by omega)
  have h7:=h.anti x y
  omega
theorem Good.ltr {α:Type} {c:α→α→Int} (h:Good c) {x y z:α} (h1:c x y≤0) (h2:c y z<0):c x z<0:=by
 have h3:=h.tr x y z h1 (by omega)
 rcases Int.lt_or_eq_of_le h3 with h4|h4
 ·exact h4
 ·have h5:=h.anti x z
  have h6:=h.tr z x y (by omega) h1
  have h7:=h.anti y z
  omega
theorem Good.eqtr {α:Type} {c:α→α→Int} (h:Good c) {x y z:α} (h1:c x y≤0) (h2:c y z≤0) (h3:c x z=0):c x y=0∧c y z=0:=by
 constructor
 ·rcases Int.lt_or_eq_of_le h1 with h|h4
  ·have:=Good.trlt ‹Good c› h h2;omega
  ·exact h4
 ·rcases Int.lt_or_eq_of_le h2 with h|h4
  ·have:=Good.ltr ‹Good c› h1 h;omega
  ·exact h4
theorem Good.swo {α:Type} {c:α→α→Int} (h:Good c):Go.Sort.SWO (fun x y=>decide (c x y<0)) where
 irrefl x:=by simp[h.zero x]
 trans x y z h1 h2:=by simp only[decide_eq_true_eq]at*;exact h.trlt h1 (by omega)
 ntrans x y z h1 h2:=by
  simp only[decide_eq_false_iff_not]at*;have a1:=h.anti x y
  have a2:=h.anti y z
  have a3:=h.anti x z
  have:=h.tr z y x (by omega) (by omega)
  omega
theorem Good.lex {α:Type} {c d:α→α→Int} (h:Good c) (k:Good d):Good (fun x y=>if c x y=0 then d x y else c x y) where
 anti x y:=by
  have a1:=h.anti x y
  have a2:=k.anti x y
  by_cases e:c x y=0
  ·rw[if_pos e,if_pos (by omega)];exact a2
  ·rw[if_neg e,if_neg (by omega)];exact a1
 tr x y z h1 h2:=by
  have g1:c x y≤0:=by
   by_cases e:c x y=0
   ·omega
   ·rwa[if_neg e]at h1
  have g2:c y z≤0:=by
   by_cases e:c y z=0
   ·omega
   ·rwa[if_neg e]at h2
  have g3:=h.tr x y z g1 g2
  by_cases e:c x z=0
  ·obtain⟨e1,e2⟩:=h.eqtr g1 g2 e
   rw[if_pos e];rw[if_pos e1]at h1;rw[if_pos e2]at h2;exact k.tr x y z h1 h2
  ·rw[if_neg e];exact g3
theorem Good.pull {α β:Type} {c:β→β→Int} (h:Good c) (f:α→β):Good (fun x y=>c (f x) (f y)):=⟨fun x y=>h.anti _ _,fun x y z=>h.tr _ _ _⟩
theorem zlq:Good cmpI where
 anti x y:=by unfold cmpI;split<;>split<;>(try split)<;>(try split)<;>omega
 tr x y z h1 h2:=by
  unfold cmpI at*;by_cases a:x<y
  ·by_cases b:y<z
   ·rw[if_pos (by omega)];omega
   ·rw[if_neg b]at h2;by_cases b':z<y
    ·rw[if_pos b']at h2;omega
    ·rw[if_pos (by omega)];omega
  ·rw[if_neg a]at h1;by_cases a':y<x
   ·rw[if_pos a']at h1;omega
   ·have:x=y:=by omega
    subst this;exact h2
theorem zkf:∀(a b c:List UInt8),bl a b=true→bl b c=true→bl a c=true
 |[],[],_,h,_=>by simp[bl,Op.bytesLess]at h
 |[],_::_,[],_,h=>by simp[bl,Op.bytesLess]at h
 |[],_::_,_::_,_,_=>by simp[bl,Op.bytesLess]
 |_::_,[],_,h,_=>by simp[bl,Op.bytesLess]at h
 |_::_,_::_,[],_,h=>by simp[bl,Op.bytesLess]at h
 |x::a,y::b,z::c,h1,h2=>by
  simp only[bl,Op.bytesLess,Bool.or_eq_true,decide_eq_true_eq,Bool.and_eq_true,beq_iff_eq]at*;rcases h1 with h1|⟨rfl,h1⟩
  ·rcases h2 with h2|⟨rfl,h2⟩
   ·exact .inl (UInt8.lt_trans h1 h2)
   ·exact .inl h1
  ·rcases h2 with h2|⟨rfl,h2⟩
   ·exact .inl h2
   ·exact .inr ⟨rfl,zkf a b c h1 h2⟩
def zfv (a b:List UInt8):Int:=if bl a b then -1 else if bl b a then 1 else 0
theorem zzs {a b:List UInt8} (h:zfv a b=0):a=b:=by
 unfold zfv at h;split at h
 ·omega
 ·split at h
  ·omega
  ·exact zew a b (by simpa using ‹¬bl a b=true›) (by simpa using ‹¬bl b a=true›)
theorem zlr:Good zfv where
 anti x y:=by
  unfold zfv;by_cases a:bl x y=true
  ·rw[if_pos a,if_neg (by simp[(zmo x y a).1]),if_pos a];rfl
  ·by_cases b:bl y x=true
   ·rw[if_pos b,if_neg a,if_pos b]
   ·rw[if_neg b,if_neg a,if_neg a,if_neg b];rfl
 tr x y z h1 h2:=by
  unfold zfv at*;by_cases a:bl x y=true
  ·by_cases b:bl y z=true
   ·rw[if_pos (zkf x y z a b)];omega
   ·rw[if_neg b]at h2;by_cases b':bl z y=true
    ·rw[if_pos b']at h2;omega
    ·have:y=z:=zew y z (by simpa using b) (by simpa using b')
     subst this;rw[if_pos a];omega
  ·rw[if_neg a]at h1;by_cases a':bl y x=true
   ·rw[if_pos a']at h1;omega
   ·have:x=y:=zew x y (by simpa using a) (by simpa using a')
    subst this;exact h2
theorem zj1 (a b:List UInt8) (x y:List (List UInt8)):zb4 (a::x) (b::y)=if zfv a b=0 then zb4 x y else zfv a b:=by
 rw[zfj];unfold zfv;by_cases h1:bl a b=true
 ·simp[h1]
 ·by_cases h2:bl b a=true
  ·simp[h1,h2]
  ·simp[h1,h2]
theorem zn4:∀x y,zb4 y x= - zb4 x y
 |[],[]=>rfl
 |[],_::_=>rfl
 |_::_,[]=>rfl
 |a::x,b::y=>by
  rw[zj1,zj1,zlr.anti a b,zn4 x y];by_cases e:zfv a b=0
  ·simp[e]
  ·rw[if_neg (by omega),if_neg e]
theorem zqt:∀x y z,zb4 x y≤0→zb4 y z≤0→zb4 x z≤0
 |[],_,[],_,_=>by simp[zb4]
 |[],_,_::_,_,_=>by simp[zb4]
 |_::_,[],_,h,_=>by simp[zb4]at h
 |_::_,_::_,[],_,h=>by simp[zb4]at h
 |a::x,b::y,c::z,h1,h2=>by
  rw[zj1]at*;have g1:zfv a b≤0:=by
   by_cases e:zfv a b=0
   ·omega
   ·rwa[if_neg e]at h1
  have g2:zfv b c≤0:=by
   by_cases e:zfv b c=0
   ·omega
   ·rwa[if_neg e]at h2
  have g3:=zlr.tr a b c g1 g2
  by_cases e:zfv a c=0
  ·obtain⟨e1,e2⟩:=zlr.eqtr g1 g2 e
   rw[if_pos e];rw[if_pos e1]at h1;rw[if_pos e2]at h2;exact zqt x y z h1 h2
  ·rw[if_neg e];exact g3
theorem zuw:Good zb4:=⟨zn4,zqt⟩
theorem zn5:∀x y,zb4 x y=0→x=y
 |[],[],_=>rfl
 |[],_::_,h=>by simp[zb4]at h
 |_::_,[],h=>by simp[zb4]at h
 |a::x,b::y,h=>by
  rw[zj1]at h;by_cases e:zfv a b=0
  ·rw[if_pos e]at h;rw[zzs e,zn5 x y h]
  ·rw[if_neg e]at h;exact absurd h e
def zfh (n:List UInt8):List (List UInt8):=(((labelsOf n).getD []).map low).reverse
theorem zsv {a b:List UInt8} (ha:may a=true) (hb:may b=true):cmpN a b=zb4 (zfh a) (zfh b):=by
 unfold may at ha hb;unfold cmpN zfh;cases h1:labelsOf a with
 |none=>rw[h1]at ha;simp at ha
 |some x=>
  cases h2:labelsOf b with
  |none=>rw[h2]at hb;simp at hb
  |some y=>rfl
def zid (a b:SetD):Int:=if zb4 (zfh a.name) (zfh b.name)=0 then(if cmpI a.typ b.typ=0 then cmpI a.cls b.cls else cmpI a.typ b.typ)else zb4 (zfh a.name) (zfh b.name)
theorem zCh {a b:SetD} (ha:may a.name=true) (hb:may b.name=true):zpy a b=zid a b:=by unfold zpy zid;rw[zsv ha hb]
theorem zex:Good zid:=(zuw.pull (fun s:SetD=>zfh s.name)).lex ((zlq.pull (fun s:SetD=>s.typ)).lex (zlq.pull (fun s:SetD=>s.cls)))
theorem zlk {x y:Int} (h:cmpI x y=0):x=y:=by unfold cmpI at h;split at h<;>(try split at h)<;>omega
theorem zsu {x y:Int}:cmpI x y<0↔x<y:=by unfold cmpI;split<;>(try split)<;>omega
theorem zus {a b:SetD} (ha:may a.name=true) (hb:may b.name=true):zem a b=decide (zid a b<0):=by
 unfold zem zid;rw[zsv ha hb];by_cases h1:zb4 (zfh a.name) (zfh b.name)=0
 ·rw[if_pos h1,if_pos h1];by_cases h2:a.typ=b.typ
  ·rw[if_pos h2,if_pos (by rw[h2];exact zlq.zero _)]
   rw[decide_eq_decide];exact zsu.symm
  ·rw[if_neg h2,if_neg (fun e=>h2 (zlk e))]
   rw[decide_eq_decide];exact zsu.symm
 ·rw[if_neg h1,if_neg h1]
end Go.Proofs.YtdnpmapelmjfpaaGreatDoor
namespace Go.Proofs.YtdnpmapelmjfpaaGreatDoor
open Go.RowKit Go.Sort Go.Lib
theorem zAj {w:World} {g q:Nat} {os:Array Obj} {F:Array Value→Array Value} {cur:Array Value} {e:TypeId} {fr:Nat×Nat} (hg:w.heap[g]? =some (.cells cur e fr)):
 (Sort.grow (Sort.mapBlock (Sort.ahead w q) g F) os).heap[g]? =some (.cells (F cur) e fr):=by
 have ab:g<w.heap.size:=(Z9 hg)
 simp only[Sort.grow,Sort.mapBlock,Sort.ahead];rw[Array.getElem?_append_left (by simpa using ab),Array.getElem?_modify,if_pos rfl,hg]
 rfl
theorem zly (w:World) (g q:Nat) (os:Array Obj) (F:Array Value→Array Value):w.grownBy (Sort.grow (Sort.mapBlock (Sort.ahead w q) g F) os) (some g):=by
 refine⟨rfl,rfl,rfl,by simp[Sort.grow,Sort.mapBlock,Sort.ahead],fun k hk au=>?_⟩
 simp only[Sort.grow,Sort.mapBlock,Sort.ahead];rw[Array.getElem?_append_left (by simpa using hk),Array.getElem?_modify,if_neg (fun e=>au (by rw[e]))]
theorem zqd {w:World} {lo:Nat} {e:TypeId} {sz n c g:Nat} {xs:List Value} (h:Own w lo e sz (some ⟨g,0,none⟩) n c xs) (q:Nat) (os:Array Obj) (m:Nat) (f:Nat→Value) (n':Nat) (ys:List Value)
 (mH:n'≤c) (hl:ys.length=n'*sz) (hm:n'*sz≤m) (hf:∀j u,ys[j]? =some u→f j=u):
 Own (Sort.grow (Sort.mapBlock (Sort.ahead w q) g (fun cs=>cs.mapIdx fun k x=>if 0≤k∧k<0+m then f (k - 0)else x)) os) lo e sz (some ⟨g,0,none⟩) n' c ys:=by
 refine⟨hl,?_⟩;rcases h.2 with⟨h1,_⟩|⟨g',cap,cur,h1,hg,hh,h4,h5,h6,h7⟩
 ·injection h1 with h1;cases h1
 ·injection h1 with h1 _ h3
  injection h1 with h1
  injection h1 with h1 _ _
  subst h1 h3;refine .inr ⟨g,c,_,rfl,hg,zAj hh,mH,h5,by simpa using h6,?_⟩
  have bo:n'*sz≤c*sz:=Nat.mul_le_mul_right _ mH
  apply List.ext_getElem?;intro j;rcases Nat.lt_or_ge j (n'*sz)with hj|hj
  ·have hy:ys[j]? =some (ys[j]'(by omega)):=Z3 (by omega)
   rw[List.getElem?_take_of_lt hj,hy,Array.getElem?_toList,Array.getElem?_mapIdx];have hc:j<cur.size:=by omega
   rw[Array.getElem?_eq_getElem hc];simp only[Option.map_some];rw[if_pos ⟨Nat.zero_le _,by omega⟩,Nat.sub_zero,hf j _ hy]
  ·rw[List.getElem?_eq_none (by rw[List.length_take];omega),List.getElem?_eq_none (by omega)]
def sortB (l:List (List UInt8)):List (List UInt8):=l.mergeSort fun x y=>decide (x≤y)
def zC6 (lo:Nat) (v:Value) (l:List (List UInt8)) (w:World) (e:Ending) (w':World):Prop:=e=.returned (.tuple #[])∧OStrs w' lo v l∧w.grownBy w' v.ownBlock
def zC1 (lo:Nat) (v:Value) (l:List (List UInt8)) (w:World) (e:Ending) (w':World):Prop:=∃v',e=.returned v'∧OStrs w' lo v' l∧w.grownBy w' v.ownBlock∧v'.ownBlock=v.ownBlock
theorem zBm (l:List (List UInt8)):(sortB l).length=l.length:=by unfold sortB;simp
theorem zt7 {w:World} {lo g c:Nat} {l:List (List UInt8)} (h:Own w lo 9 1 (some ⟨g,0,none⟩) l.length c (l.map S)) (h0:0<l.length):Sort.Holds encStr w g 0 l.toArray:=by
 obtain⟨g',e1,_,_,hf,hc⟩:=h.addr h0
 injection e1 with e1
 injection e1 with e1 _ _
 subst e1;intro j hj;have dP:j<l.length:=by simpa using hj
 rw[Nat.zero_add];refine⟨?_,hf j⟩;rw[hc j (S l[j]) (by simp[dP])]
 simp[dP,encStr]
theorem zDm {w:World} {lo g c:Nat} {l:List (List UInt8)} (ho:Own w lo 9 1 (some ⟨g,0,none⟩) l.length c (l.map S)) (n:Nat) (os:Array Obj) (T:List (List UInt8)) (hT:T.length=l.length):
 OStrs (Sort.grow (Sort.putRow encStr (Sort.ahead w n) g 0 T.toArray) os) lo (.slice (some ⟨g,0,none⟩) l.length c) T:=by
 refine⟨_,c,by rw[hT],?_⟩
 exact zqd ho n os T.toArray.size (fun k=>encStr T.toArray[k]!) T.length (T.map S) (by rw[hT];exact ho.cap.1) (by simp) (by simp) (fun j u hu=>by
  have hj:j<T.length:=by simpa using(List.getElem?_eq_some_iff.1 hu).1
  simp only[List.getElem?_map,Z3 hj,Option.map_some,Option.some.injEq]at hu;rw[←hu];simp[hj,encStr])
theorem zFt (lo:Nat) (v:Value) (l:List (List UInt8)) (w:World) (h:OStrs w lo v l) (hb:l.length<4611686018427387904):Calls Tryz.prog 81 #[v] w (zC6 lo v (sortB l) w):=by
 obtain⟨A,c,rfl,ho⟩:=h
 by_cases h0:l.length=0
 ·have:l=[]:=List.eq_nil_of_length_eq_zero h0
  subst this;refine(Tryz.slices_Sort_string_none A c w).mono ?_;rintro e w' ⟨rfl,rfl⟩;have e0:sortB []=[]:=by simp[sortB]
  rw[e0];exact⟨rfl,⟨A,c,rfl,ho⟩,World.grownBy.refl _ _⟩
 ·obtain⟨g,rfl,_,cB,_,_⟩:=ho.addr (by omega)
  have bo:=ho.cap
  have hc:=Tryz.slices_Sort_string g 0 c l w (zt7 ho (by omega)) cB hb
  rw[show(l.mergeSort fun x y=>decide (x≤y))=sortB l from rfl]at hc
  have aq:=zBm l
  generalize sortB l=T at*;refine hc.mono ?_;rintro e w' ⟨rfl,n,os,rfl⟩;exact⟨rfl,zDm ho n os T (by omega),zly w g n os _⟩
theorem zyy (lo:Nat) (v:Value) (l:List (List UInt8)) (w:World) (h:OStrs w lo v l):Calls Tryz.prog 82 #[v] w (zC1 lo v (Lib.compact l) w):=by
 obtain⟨A,c,rfl,ho⟩:=h
 by_cases h0:l.length=0
 ·have:l=[]:=List.eq_nil_of_length_eq_zero h0
  subst this;refine(Tryz.slices_Compact_string_empty A c w).mono ?_;rintro e w' ⟨rfl,rfl⟩;exact⟨_,rfl,⟨A,c,rfl,ho⟩,World.grownBy.refl _ _,rfl⟩
 ·obtain⟨g,rfl,_,cB,_,_⟩:=ho.addr (by omega)
  have bo:=ho.cap
  have hc:=Tryz.slices_Compact_string g 0 c l w (zt7 ho (by omega)) (by have:=bo.1;have:=bo.2;unfold maxLen at this;omega) bo.1
  have aq:(Lib.compact l).length≤l.length:=by
   unfold Lib.compact Lib.compactUpTo;rw[List.length_map];exact Z2 (List.length_filter_le _ _) (by simp)
  generalize Lib.compact l=T at*;refine hc.mono ?_;rintro e w' ⟨rfl,n,rfl⟩;refine⟨_,rfl,?_,?_,rfl⟩
  ·have:=zqd ho n #[] (T++List.replicate (l.length - T.length) []).toArray.size (fun k=>encStr (T++List.replicate (l.length - T.length) []).toArray[k]!) T.length (T.map S) (by omega) (by simp) (by simp) (fun j u hu=>by
    have hj:j<T.length:=by simpa using(List.getElem?_eq_some_iff.1 hu).1
    simp only[List.getElem?_map,Z3 hj,Option.map_some,Option.some.injEq]at hu;rw[←hu];simp[hj,encStr,List.getElem?_append_left hj])
   rw[Sort.grow_empty]at this;exact⟨_,c,rfl,this⟩
  ·have:=zly w g n #[] (Sort.putCells encStr 0 (T++List.replicate (l.length - T.length) []).toArray)
   rw[Sort.grow_empty]at this;exact this
def zsa (p:SetD×Value):Prop:=may p.1.name=true∧∃A n c,p.2=.slice A n c
abbrev znu:={p:SetD×Value//zsa p}
instance:Inhabited znu:=⟨⟨(⟨[0],0,0,0,[]⟩,.slice none 0 0),by decide,none,0,0,rfl⟩⟩
def zln (x:znu):List Value:=setCells x.1
def cfX (x y:znu):Int:=zpy x.1.1 y.1.1
theorem ltX:(ltOf cfX)=fun x y:znu=>decide (zid x.1.1 y.1.1<0):=by
 funext x y;unfold ltOf cfX;rw[zCh x.2.1 y.2.1]
theorem swoX:SWO (ltOf cfX):=by
 rw[ltX];exact(zex.pull (fun x:znu=>x.1.1)).swo
theorem cmpX (blk off size:Nat) (w:World):CmpLays Tryz.prog 84 #[] zln 5 cfX blk off size w:=by
 intro m os dk _ x y;refine(zs6 x.1.1 y.1.1 x.1.2 y.1.2 _ x.2.2 y.2.2 ?_ ?_).mono ?_
 ·have:=zek x.2.1;unfold maxLen;omega
 ·have:=zek y.2.1;unfold maxLen;omega
 ·rintro e w' ⟨rfl,hE⟩;exact⟨rfl,hE.grow⟩
theorem zD6 (ps:List (SetD×Value)) (h:∀p∈ps,zsa p):∃xs:List znu,xs.map Subtype.val=ps:=
 ⟨ps.pmap (fun p hp=>⟨p,hp⟩) h,by simp[List.map_pmap]⟩
theorem zr1 (xs:List znu) (t:Nat) (h:t<xs.length*5):(flatK zln 5 xs.toArray)[t]! =((xs.map Subtype.val).flatMap setCells)[t]?.getD default:=by
 rw[get_flatK _ _ _ t (by simpa using h)]
 have hi:t/5<xs.length:=by omega
 have DU:t/5*5+t%5=t:=by omega
 have GT:t%5<5:=by omega
 generalize t%5=m at*;have hg:=zb7 setCells 5 (fun _=>rfl) (xs.map Subtype.val) (t/5) m xs[t/5].1 (by simp[hi]) GT
 rw[DU]at hg;rw[hg];have:(setCells xs[t/5].1)[m]? =some ((setCells xs[t/5].1)[m]'(by show _<5;omega)):=Z3 _
 rw[this];simp[zln,hi,getElem!_def,this]
def zh8 (l:List SetD):Prop:=l.Pairwise fun a b=>¬zid b a<0
def zzc (w:World) (lo c:Nat) (A:Option Addr) (ps:List (SetD×Value)) (e:Ending) (w':World):Prop:=
 e=.returned (.tuple #[])∧∃ps':List (SetD×Value),ps'.Perm ps∧zh8 (ps'.map Prod.fst)∧Own w' lo 79 5 A ps.length c (ps'.flatMap setCells)∧w.grownBy w' (Value.slice A ps.length c).ownBlock
theorem zvl (lo:Nat) (A:Option Addr) (c:Nat) (ps:List (SetD×Value)) (w:World) (ho:Own w lo 79 5 A ps.length c (ps.flatMap setCells)) (bB:∀p∈ps,zsa p) (h0:0<ps.length) (hb:ps.length<4611686018427387904):
 Calls Tryz.prog 83 #[.slice A ps.length c,.func (.func 84) #[] #[]] w (zzc w lo c A ps):=by
 obtain⟨g,rfl,_,cB,hf,hc⟩:=ho.addr h0
 obtain⟨xs,rfl⟩:=zD6 ps bB
 simp only[List.length_map]at*;have hH:HoldsK zln 5 w g 0 xs.toArray:=by
  intro j hj;have dP:j<xs.length*5:=by simpa using hj
  rw[Nat.zero_add];refine⟨?_,hf j⟩;have fw:((xs.map Subtype.val).flatMap setCells).length=xs.length*5:=by have:=ho.1;simpa using this
  have hg:((xs.map Subtype.val).flatMap setCells)[j]? =some (((xs.map Subtype.val).flatMap setCells)[j]'(by omega)):=Z3 (by omega)
  rw[hc j _ hg,zr1 xs j dP,hg];rfl
 have Bt:=AnyQ.slices_SortFunc Tryz.sortSet 5 Tryz.isAgg79 Tryz.sizeOf79 zln (fun _=>rfl) (fun x v hv=>by
  obtain⟨p,hp⟩:=x
  obtain⟨⟨pn,pt,pc,pl,pd⟩,pv⟩:=p
  obtain⟨_,A,n,c,e⟩:=hp
  dsimp only at e;subst e;simp only[zln,setCells,List.mem_cons,List.not_mem_nil,or_false]at hv;rcases hv with rfl|rfl|rfl|rfl|rfl<;>rfl) cfX swoX 84 #[] g 0 c xs.toArray w (enters_of Tryz.func84 (by kernel_rfl) rfl) (cmpX _ _ _ _) hH cB (by simpa using hb)
 have wl:Calls Tryz.prog 83 #[.slice (some ⟨g,0,none⟩) xs.length c,.func (.func 84) #[] #[]] w _:=Bt
 refine wl.mono ?_;rintro e w' ⟨rfl,d',n,os,hp,hs,rfl⟩;obtain⟨bH,_,fa⟩:=hp
 have wt:d'.size=xs.length:=by simpa using bH
 have hd:d'.toList.Perm xs:=by
  have h1:d'.extract 0 xs.toArray.size=d':=by rw[show xs.toArray.size=d'.size by rw[bH]];exact Array.extract_size
  have h2:xs.toArray.extract 0 xs.toArray.size=xs.toArray:=Array.extract_size
  rw[h1,h2]at fa;simpa using fa
 refine⟨rfl,d'.toList.map Subtype.val,by simpa using hd.map Subtype.val,?_,?_,?_⟩
 ·rw[zh8,List.map_map,List.pairwise_map,List.pairwise_iff_getElem];intro i j hi hj rP;have kf:i<d'.size:=by simpa using hi
  have dP:j<d'.size:=by simpa using hj
  have:=hs i j (Nat.zero_le _) rP (by rw[←bH];exact dP)
  rw[ltX]at this;simp only[decide_eq_false_iff_not]at this;rw[getElem!_pos d' i kf,getElem!_pos d' j dP]at this;simpa using this
 ·have hl:(d'.toList.map Subtype.val).length=xs.length:=by simp[wt]
  have:=zqd ho n os (flatK zln 5 d').size (fun k=>id (flatK zln 5 d')[k]!) xs.length ((d'.toList.map Subtype.val).flatMap setCells) ho.cap.1 (by
   have:∀l:List (SetD×Value),(l.flatMap setCells).length=l.length*5:=fun l=>by
    induction l with
    |nil=>rfl
    |cons a l ih=>rw[List.flatMap_cons,Z6,ih,List.length_cons];show 5+_=_;omega
   rw[this,hl]) (by simp[wt]) (fun j u hu=>by
    have hj:j<d'.toList.length*5:=by
     have:=(List.getElem?_eq_some_iff.1 hu).1
     have h3:∀l:List (SetD×Value),(l.flatMap setCells).length=l.length*5:=fun l=>by
      induction l with
      |nil=>rfl
      |cons a l ih=>rw[List.flatMap_cons,Z6,ih,List.length_cons];show 5+_=_;omega
     rw[h3]at this;simpa using this
    have h4:=zr1 d'.toList j hj
    rw[Array.toArray_toList,hu]at h4;exact h4)
  rw[List.length_map];exact this
 ·exact zly w g n os _
theorem zua (A:Option Addr) (c:Nat) (w:World):
 Calls Tryz.prog 83 #[.slice A 0 c,.func (.func 84) #[] #[]] w fun e w'=>e=.returned (.tuple #[])∧w'=w:=
 AnyF.slices_SortFunc_none Tryz.sortSet A c _ w
end Go.Proofs.YtdnpmapelmjfpaaGreatDoor
